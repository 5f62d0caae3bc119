/- Contracts by hand: a whole number held against a real, in the program and in the reference: both come to the same plain function. -/
import Derived.Test.YtgpkjdjjjenhcaaQxL0
import Derived.Test.YtgpkjdjjjenhcaaAs
namespace Go.Proofs.Ytgpkjdjjjenhcaa.Q
open Go.RowKit Go.Proofs.YtgpkjdjjjenhcaaW.PrintWords Go.Proofs.YtgpkjdjjjenhcaaW.PrintLast Go.Proofs.Ytgpkjdjjjenhcaa.Fw Go.Proofs.YtgpkjdjjjenhcaaW.PrintMore
set_option linter.unusedVariables false
set_option linter.unusedSimpArgs false

def cmpZ (a b : Int) : Int := if a < b then -1 else if b < a then 1 else 0
/-- What is left of a real behind its whole part, against nought, turned round. -/
def mixRest (f : Nat) : Int := if fgt f (Ieee.double.nearest (Fl.sgn f) (Fl.whole f) 0) = true then -1 else if flt f (Ieee.double.nearest (Fl.sgn f) (Fl.whole f) 0) = true then 1 else 0
/-- A whole number against a real: the real's whole part first, then what is left. -/
def mixed (i : Int) (f : Nat) : Option Int :=
  if fge f 4890909195324358656 = true then some (-1) else if flt f 14114281232179134464 = true then some 1
  else if f % 2 ^ 63 < 2047 * 2 ^ 52 then
    (if cmpZ i (Fl.wholeI f) = 0 then some (mixRest f)
     else some (cmpZ i (Fl.wholeI f)))
  else none
def value_against.f (a0 : Int) (a1 : Nat) : Option Int := mixed a0 a1

theorem compare_int64 (a b : Int) : cmp_Compare_int64.f a b = some (cmpZ a b) := by
  unfold cmp_Compare_int64.f cmp_isNaN_int64.f cmpZ
  simp
  repeat' split
  all_goals rfl
theorem in_range {f : Nat} (hf : f % 2 ^ 63 < 2047 * 2 ^ 52) (h1 : ¬ fge f 4890909195324358656 = true) (h2 : ¬ flt f 14114281232179134464 = true) :
    Fl.rv (f % 2 ^ 63) < 2 ^ 64 * 2 ^ Fl.U ∧ -(2 ^ 63) ≤ Fl.wholeI f ∧ Fl.wholeI f < 2 ^ 63 := by
  refine Fl.range_whole hf ?_ ?_
  · unfold fge at h1
    have e : FloatKind.f64.format.order f 4890909195324358656 = some (Fl.cmpI (Fl.sv f) (Fl.sv 4890909195324358656)) := Fl.order_fin hf Fl.fin_c63.1
    rw [e] at h1
    show Fl.dbl.order _ _ = _
    have e' : Fl.dbl.order f 4890909195324358656 = some (Fl.cmpI (Fl.sv f) (Fl.sv 4890909195324358656)) := e
    rw [e']
    generalize Fl.cmpI (Fl.sv f) (Fl.sv 4890909195324358656) = o at *
    cases o <;> simp at h1 ⊢
  · intro h
    apply h2
    have h' : FloatKind.f64.format.order f 14114281232179134464 = some .lt := h
    unfold flt
    rw [h']; rfl
theorem conv_int (f : Nat) (hf : f % 2 ^ 63 < 2047 * 2 ^ 52) (h1 : -(2 ^ 63) ≤ Fl.wholeI f) (h2 : Fl.wholeI f < 2 ^ 63) (w : World) :
    (convert 26 2 (.float .f64 f)).run Try.prog w = .ok (.int .i64 (Fl.wholeI f)) w := by
  refine run_convert_float_int w _ _ .f64 .i64 f _ (by rw [Try.underlying26]; rfl) Try.underlying2 ?_
  unfold floatToIntVal
  have e : (FloatKind.f64.decode f).toInt .zero = some (Fl.wholeI f) := Fl.toInt_fin hf
  rw [e]
  have : IntKind.i64.min ≤ Fl.wholeI f ∧ Fl.wholeI f ≤ IntKind.i64.max := by
    have a : IntKind.i64.min = -(2 ^ 63) := by decide
    have b : IntKind.i64.max = 2 ^ 63 - 1 := by decide
    rw [a, b]; omega
  simp only [this, and_self, if_true]

set_option maxHeartbeats 1000000 in
theorem value_against.calls (a0 : Int) (a1 : Nat) (r : Int) (w : World) (h : value_against.f a0 a1 = some r) :
    Calls Try.prog 36 #[.int .i64 a0, .float .f64 a1] w fun e w' => e = .returned (.int .i64 r) ∧ Drawn0 w w' := by
  unfold value_against.f mixed at h
  by_cases h1 : fge a1 4890909195324358656 = true
  · rw [if_pos h1] at h
    obtain rfl := Option.some.inj h
    go_enter Try.func36, Try.ntmps36
    go_wp2
    go_ret
    exact ⟨rfl, Drawn0.refl _⟩
  rw [if_neg h1] at h
  have h1' : fge a1 4890909195324358656 = false := by simpa using h1
  by_cases h2 : flt a1 14114281232179134464 = true
  · rw [if_pos h2] at h
    obtain rfl := Option.some.inj h
    go_enter Try.func36, Try.ntmps36
    go_wp2
    go_ret
    exact ⟨rfl, Drawn0.refl _⟩
  rw [if_neg h2] at h
  have h2' : flt a1 14114281232179134464 = false := by simpa using h2
  by_cases hf : a1 % 2 ^ 63 < 2047 * 2 ^ 52
  · rw [if_pos hf] at h
    obtain ⟨g1, g2, g3⟩ := in_range hf h1 h2
    have hc := fun w => conv_int a1 hf g2 g3 w
    obtain ⟨t, g, d, ht, hg, ft, fg, _, hd, o1, o2, o3⟩ := Fl.frac_order hf g1
    have hsub : ∀ w, (binOp .sub 26 (.float .f64 a1) (.float .f64 (floatOfInt .f64 (Fl.wholeI a1)))).run Try.prog w = .ok (.float .f64 d) w := by
      intro w
      refine run_float_arith w .sub _ .f64 _ _ _ ?_
      have : floatOfInt .f64 (Fl.wholeI a1) = g := by rw [hg]; rfl
      rw [this]
      exact hd
    have hcmp2 : cmp_Compare_float64.f 0 d = some (mixRest a1) := by
      unfold mixRest
      rw [← ht]
      unfold cmp_Compare_float64.f cmp_isNaN_float64.f
      have n0 : fne 0 0 = false := by decide
      have nd : fne d d = false := by
        unfold fne
        have : FloatKind.f64.format.order d d = some .eq := o3
        rw [this]; rfl
      have q1 : FloatKind.f64.format.order 0 d = some (Fl.cmpI (Fl.sv t) (Fl.sv a1)) := o2
      have q2 : FloatKind.f64.format.order a1 t = some (Fl.cmpI (Fl.sv a1) (Fl.sv t)) := o1
      simp only [n0, nd, Option.bind_some, Bool.false_eq_true, if_false]
      unfold flt fgt
      rw [q1, q2]
      unfold Fl.cmpI
      rcases Int.lt_trichotomy (Fl.sv t) (Fl.sv a1) with q | q | q
      · rw [if_pos q, if_neg (show ¬ Fl.sv a1 < Fl.sv t by omega), if_neg (show ¬ Fl.sv a1 = Fl.sv t by omega)]; rfl
      · rw [q]; simp
      · rw [if_neg (show ¬ Fl.sv t < Fl.sv a1 by omega), if_neg (show ¬ Fl.sv t = Fl.sv a1 by omega), if_pos q]; rfl
    have hcmp1 := compare_int64 a0 (Fl.wholeI a1)
    have HC1 := Aside0.mk hcmp1
    have HC2 := Aside0.mk hcmp2
    have HH := Aside0.mk h
    clear hcmp1 hcmp2 h ht hg ft fg hd o1 o2 o3 g1 g2 g3 hf h1 h2
    by_cases hz : cmpZ a0 (Fl.wholeI a1) = 0
    · have hz' : (cmpZ a0 (Fl.wholeI a1) != 0) = false := by simpa using hz
      go_enter Try.func36, Try.ntmps36
      go_wp2_with fail
      refine (cmp_Compare_int64.calls a0 (Fl.wholeI a1) _ _ HC1.out).mono ?_
      rintro e w' ⟨rfl, nd, rfl⟩
      have HZ := Aside0.mk hz
      clear hz
      go_wp2_with fail
      refine (cmp_Compare_float64.calls 0 d _ _ HC2.out).mono ?_
      rintro e w' ⟨rfl, nd2, rfl⟩
      have hr := HH.out
      rw [if_pos HZ.out] at hr
      have hr' := Aside0.mk (Option.some.inj hr)
      clear hr
      go_wp2_with fail
      go_ret
      exact ⟨by have e_ := hr'.out; subst e_; rfl, ⟨_, rfl⟩⟩
    · have hz' : (cmpZ a0 (Fl.wholeI a1) != 0) = true := by simpa using hz
      have hr := HH.out
      rw [if_neg hz] at hr
      have hr' := Aside0.mk (Option.some.inj hr)
      clear hr hz
      go_enter Try.func36, Try.ntmps36
      go_wp2_with fail
      refine (cmp_Compare_int64.calls a0 (Fl.wholeI a1) _ _ HC1.out).mono ?_
      rintro e w' ⟨rfl, nd, rfl⟩
      go_wp2_with fail
      go_ret
      exact ⟨by have e_ := hr'.out; subst e_; rfl, ⟨_, rfl⟩⟩
  · rw [if_neg hf] at h
    cases h

def colonnaderef05_numbers.f (a0_0 a0_1 : Int) (a0_2 : Nat) (a0_3 : ByteArray) (a1_0 a1_1 : Int) (a1_2 : Nat) (a1_3 : ByteArray) : Option Int :=
  if a0_0 = 3 then
    if a1_0 = 3 then some (if flt a0_2 a1_2 = true then -1 else if fgt a0_2 a1_2 = true then 1 else 0)
    else (mixed a1_1 a0_2).map (fun c => wrap64 (-c))
  else if a0_0 = 1 ∧ a1_0 = 1 then some (cmpZ a0_1 a1_1)
  else mixed a0_1 a1_2

theorem ints_eq (a b : Int) : colonnaderef05_ints.f a b = some (cmpZ a b) := by
  unfold colonnaderef05_ints.f cmpZ
  repeat' split
  all_goals first | rfl | omega
theorem below2 {w : World} {o1 o2 : Obj} : Below w.heap.size w ((w.alloc o1).alloc o2) := ((Below.refl _ _).alloc (Nat.le_refl _) _).alloc (by simp) _
theorem below2n {w : World} {o1 o2 : Obj} {n : Nat} : Below w.heap.size w (((w.alloc o1).alloc o2).drewN n) := pw_below_drewN below2 n

set_option maxHeartbeats 2000000 in
theorem numbers_mixed (a0_0 a0_1 : Int) (a0_2 : Nat) (a0_3 : ByteArray) (a1_0 a1_1 : Int) (a1_2 : Nat) (a1_3 : ByteArray) (r : Int) (w : World) (h0 : ¬ a0_0 = 3) (hk : ¬ (a0_0 = 1 ∧ a1_0 = 1)) (h : mixed a0_1 a1_2 = some r) :
    Calls Try.prog 18 #[.agg #[.int .i64 a0_0, .int .i64 a0_1, .float .f64 a0_2, .string a0_3], .agg #[.int .i64 a1_0, .int .i64 a1_1, .float .f64 a1_2, .string a1_3]] w fun e w' => e = .returned (.int .i64 r) ∧ Below w.heap.size w w' := by
  have hb : (a0_0 = 1 ∧ (a1_0 == 1) = false) ∨ (a0_0 == 1) = false := by
    by_cases e : a0_0 = 1
    · exact .inl ⟨e, by simpa using fun e2 => hk ⟨e, e2⟩⟩
    · exact .inr (by simpa using e)
  have h0b : (a0_0 == 3) = false := by simpa using h0
  unfold mixed at h
  by_cases h1 : fge a1_2 4890909195324358656 = true
  · rw [if_pos h1] at h
    obtain rfl := Option.some.inj h
    clear h hk h0
    rcases hb with ⟨rfl, hb⟩ | hb
    all_goals
      go_enter Try.func18, Try.ntmps18
      go_wp2_with fail
      go_ret
      exact ⟨rfl, below2⟩
  rw [if_neg h1] at h
  have h1' : fge a1_2 4890909195324358656 = false := by simpa using h1
  by_cases h2 : flt a1_2 14114281232179134464 = true
  · rw [if_pos h2] at h
    obtain rfl := Option.some.inj h
    clear h hk h0 h1
    rcases hb with ⟨rfl, hb⟩ | hb
    all_goals
      go_enter Try.func18, Try.ntmps18
      go_wp2_with fail
      go_ret
      exact ⟨rfl, below2⟩
  rw [if_neg h2] at h
  have h2' : flt a1_2 14114281232179134464 = false := by simpa using h2
  by_cases hf : a1_2 % 2 ^ 63 < 2047 * 2 ^ 52
  · rw [if_pos hf] at h
    obtain ⟨g1, g2, g3⟩ := in_range hf h1 h2
    obtain ⟨t, g, d, ht, hg, ft, fg, hw, hd, o1, o2, o3⟩ := Fl.frac_order hf g1
    have hc : ∀ w, (convert 26 2 (.float .f64 t)).run Try.prog w = .ok (.int .i64 (Fl.wholeI a1_2)) w := by
      intro w
      rw [← hw]
      exact conv_int t ft (by rw [hw]; exact g2) (by rw [hw]; exact g3) w
    have HT : Aside0 (math_Trunc.f a1_2 = some t) := ⟨by unfold math_Trunc.f; rw [if_pos hf, ht]⟩
    have HC1 := Aside0.mk (ints_eq a0_1 (Fl.wholeI a1_2))
    have HR : Aside0 (mixRest a1_2 = if fgt a1_2 t = true then -1 else if flt a1_2 t = true then 1 else 0) := ⟨by unfold mixRest; rw [← ht]⟩
    have HH := Aside0.mk h
    clear h ht hg ft fg hd o1 o2 o3 g1 g2 g3 hf h1 h2 h0 hk hw
    by_cases hz : cmpZ a0_1 (Fl.wholeI a1_2) = 0
    · have hz' : (cmpZ a0_1 (Fl.wholeI a1_2) != 0) = false := by simpa using hz
      have hr := HH.out
      rw [if_pos hz] at hr
      have HS := Aside0.mk ((Option.some.inj hr).symm.trans HR.out)
      have HZ := Aside0.mk hz
      clear hr hz HH HR
      rcases hb with ⟨rfl, hb⟩ | hb
      all_goals
        go_enter Try.func18, Try.ntmps18
        go_wp2_with fail
        refine (math_Trunc.calls a1_2 t _ HT.out).mono ?_
        rintro e w' ⟨rfl, nd, rfl⟩
        go_wp2_with fail
        refine (colonnaderef05_ints.calls a0_1 (Fl.wholeI a1_2) _ _ HC1.out).mono ?_
        rintro e w' ⟨rfl, nd2, rfl⟩
        by_cases k1 : fgt a1_2 t = true
        · have e_ := HS.out
          rw [if_pos k1] at e_
          subst e_
          clear HS
          go_wp2_with fail
          go_ret
          exact ⟨rfl, below2n⟩
        · by_cases k2 : flt a1_2 t = true
          · have e_ := HS.out
            rw [if_neg k1, if_pos k2] at e_
            subst e_
            clear HS
            have k1' : fgt a1_2 t = false := by simpa using k1
            clear k1
            go_wp2_with fail
            go_ret
            exact ⟨rfl, below2n⟩
          · have e_ := HS.out
            rw [if_neg k1, if_neg k2] at e_
            subst e_
            clear HS
            have k1' : fgt a1_2 t = false := by simpa using k1
            have k2' : flt a1_2 t = false := by simpa using k2
            clear k1 k2
            go_wp2_with fail
            go_ret
            exact ⟨rfl, below2n⟩
    · have hz' : (cmpZ a0_1 (Fl.wholeI a1_2) != 0) = true := by simpa using hz
      have hr := HH.out
      rw [if_neg hz] at hr
      have hr' := Aside0.mk (Option.some.inj hr)
      clear hr hz HH HR
      rcases hb with ⟨rfl, hb⟩ | hb
      all_goals
        go_enter Try.func18, Try.ntmps18
        go_wp2_with fail
        refine (math_Trunc.calls a1_2 t _ HT.out).mono ?_
        rintro e w' ⟨rfl, nd, rfl⟩
        go_wp2_with fail
        refine (colonnaderef05_ints.calls a0_1 (Fl.wholeI a1_2) _ _ HC1.out).mono ?_
        rintro e w' ⟨rfl, nd2, rfl⟩
        go_wp2_with fail
        go_ret
        exact ⟨by have e_ := hr'.out; subst e_; rfl, below2n⟩
  · rw [if_neg hf] at h
    cases h

set_option maxHeartbeats 2000000 in
theorem colonnaderef05_numbers.calls (a0_0 a0_1 : Int) (a0_2 : Nat) (a0_3 : ByteArray) (a1_0 a1_1 : Int) (a1_2 : Nat) (a1_3 : ByteArray) (r : Int) (w : World) (h : colonnaderef05_numbers.f a0_0 a0_1 a0_2 a0_3 a1_0 a1_1 a1_2 a1_3 = some r) :
    Calls Try.prog 18 #[.agg #[.int .i64 a0_0, .int .i64 a0_1, .float .f64 a0_2, .string a0_3], .agg #[.int .i64 a1_0, .int .i64 a1_1, .float .f64 a1_2, .string a1_3]] w fun e w' => e = .returned (.int .i64 r) ∧ Below w.heap.size w w' := by
  unfold colonnaderef05_numbers.f at h
  by_cases h0 : a0_0 = 3
  · rw [if_pos h0] at h
    subst h0
    by_cases h1 : a1_0 = 3
    · rw [if_pos h1] at h
      subst h1
      have e_ := Option.some.inj h
      clear h
      by_cases k1 : flt a0_2 a1_2 = true
      · rw [if_pos k1] at e_
        subst e_
        go_enter Try.func18, Try.ntmps18
        go_wp2_with fail
        go_ret
        exact ⟨rfl, below2⟩
      · have k1' : flt a0_2 a1_2 = false := by simpa using k1
        by_cases k2 : fgt a0_2 a1_2 = true
        · rw [if_neg k1, if_pos k2] at e_
          subst e_
          clear k1
          go_enter Try.func18, Try.ntmps18
          go_wp2_with fail
          go_ret
          exact ⟨rfl, below2⟩
        · rw [if_neg k1, if_neg k2] at e_
          subst e_
          have k2' : fgt a0_2 a1_2 = false := by simpa using k2
          clear k1 k2
          go_enter Try.func18, Try.ntmps18
          go_wp2_with fail
          go_ret
          exact ⟨rfl, below2⟩
    · rw [if_neg h1] at h
      obtain ⟨c, hc, rfl⟩ := Option.map_eq_some_iff.1 h
      have h1b : (a1_0 == 3) = false := by simpa using h1
      have HM := fun w => numbers_mixed a1_0 a1_1 a1_2 a1_3 3 a0_1 a0_2 a0_3 c w h1 (by omega) hc
      have HN := Aside0.mk HM
      clear h h1 hc HM
      go_enter Try.func18, Try.ntmps18
      go_wp2_with fail
      refine (HN.out _).mono ?_
      rintro e w1 ⟨rfl, hb⟩
      go_wp2_with fail
      go_ret
      exact ⟨rfl, below2.trans (hb.mono (by simp; omega))⟩
  · rw [if_neg h0] at h
    by_cases hk : a0_0 = 1 ∧ a1_0 = 1
    · rw [if_pos hk] at h
      obtain ⟨rfl, rfl⟩ := hk
      have HI : Aside0 (colonnaderef05_ints.f a0_1 a1_1 = some r) := ⟨by rw [ints_eq]; exact h⟩
      clear h h0
      go_enter Try.func18, Try.ntmps18
      go_wp2_with fail
      refine (colonnaderef05_ints.calls a0_1 a1_1 r _ HI.out).mono ?_
      rintro e w' ⟨rfl, nd2, rfl⟩
      go_wp2_with fail
      go_ret
      exact ⟨rfl, below2n⟩
    · rw [if_neg hk] at h
      exact numbers_mixed a0_0 a0_1 a0_2 a0_3 a1_0 a1_1 a1_2 a1_3 r w h0 hk h
end Go.Proofs.Ytgpkjdjjjenhcaa.Q
