/- The values of the program and of the reference: when a value may be, and how two values stand to each other: both texts come to the same plain functions; no memory, no Go. -/
import Derived.Test.YtgpkjdjjjenhcaaQxL1
import Derived.Laws.BitsAllLaws
namespace Go.Proofs.Ytgpkjdjjjenhcaa.Q
open Go.RowKit Go.Proofs.YtgpkjdjjjenhcaaW.PrintWords Go.Proofs.YtgpkjdjjjenhcaaW.PrintLast Go.Proofs.Ytgpkjdjjjenhcaa.Fw Go.Proofs.YtgpkjdjjjenhcaaW.PrintMore
set_option linter.unusedVariables false
set_option linter.unusedSimpArgs false

instance : DecidablePred Fl.fin := fun x => inferInstanceAs (Decidable (x % 2 ^ 63 < 2047 * 2 ^ 52))
theorem abs_bits {f : Nat} (h : f < 2 ^ 64) : ffrom (Go.bits .andNot .u64 (fbits f) 9223372036854775808) = f % 2 ^ 63 := by
  unfold fbits ffrom
  have := u64_andNot_nat f 9223372036854775808 (by omega) (by omega)
  have e : ((9223372036854775808 : Nat) : Int) = 9223372036854775808 := rfl
  rw [e] at this
  rw [this, Int.toNat_natCast]
  exact Nat.and_two_pow_sub_one_eq_mod f 63
theorem fin_mod {f : Nat} : Fl.fin (f % 2 ^ 63) ↔ Fl.fin f := by unfold Fl.fin; rw [Nat.mod_mod]
theorem max_fin : Fl.fin 9218868437227405311 := by unfold Fl.fin; decide
theorem sv_pos {g : Nat} (h : g < 2 ^ 63) : Fl.sv g = (Fl.rv g : Int) := by
  unfold Fl.sv Fl.sgn
  have : g / 2 ^ 63 % 2 = 0 := by omega
  rw [this, Nat.mod_eq_of_lt h]; rfl
/-- 'no NaN, no infinity' as the two texts ask it. -/
theorem abs_le_max {f : Nat} (h : f < 2 ^ 64) : fle (f % 2 ^ 63) 9218868437227405311 = decide (Fl.fin f) := by
  have hm : f % 2 ^ 63 < 2 ^ 63 := by omega
  by_cases hf : Fl.fin f
  · rw [decide_eq_true hf]
    have hf2 : Fl.fin (f % 2 ^ 63) := fin_mod.2 hf
    have ho : FloatKind.f64.format.order (f % 2 ^ 63) 9218868437227405311 = some (Fl.cmpI (Fl.sv (f % 2 ^ 63)) (Fl.sv 9218868437227405311)) := Fl.order_fin hf2 max_fin
    unfold fle
    rw [ho, sv_pos hm, sv_pos (show 9218868437227405311 < 2 ^ 63 by omega)]
    have hle : f % 2 ^ 63 ≤ 9218868437227405311 := by unfold Fl.fin at hf; omega
    unfold Fl.cmpI
    rcases Nat.lt_or_eq_of_le hle with q | q
    · have := Fl.rv_mono q
      rw [if_pos (by omega)]; rfl
    · rw [q]; simp
  · rw [decide_eq_false hf]
    have hf2 : ¬ Fl.fin (f % 2 ^ 63) := fun e => hf (fin_mod.1 e)
    have hs : Fl.sgn (f % 2 ^ 63) = false := by unfold Fl.sgn; rw [Nat.div_eq_of_lt hm]; rfl
    obtain ⟨m, i, rm, _⟩ := Fl.read_fin max_fin
    unfold fle
    rcases Fl.read_unfin hf2 with ⟨h1, _⟩ | ⟨⟨q, h1⟩, _⟩
    · have ho : FloatKind.f64.format.order (f % 2 ^ 63) 9218868437227405311 = some .gt := by
        show (Ieee.Datum.order (Fl.dbl.read _) (Fl.dbl.read _)) = _
        rw [h1, rm, hs]; rfl
      rw [ho]; rfl
    · have ho : FloatKind.f64.format.order (f % 2 ^ 63) 9218868437227405311 = none := by
        show (Ieee.Datum.order (Fl.dbl.read _) (Fl.dbl.read _)) = _
        rw [h1]; rfl
      rw [ho]; rfl
theorem nan_inf {f : Nat} (h : f < 2 ^ 64) : (!(fne f f) && !(fgt (f % 2 ^ 63) 9218868437227405311)) = decide (Fl.fin f) := by
  have hm : f % 2 ^ 63 < 2 ^ 63 := by omega
  by_cases hf : Fl.fin f
  · rw [decide_eq_true hf]
    have hf2 : Fl.fin (f % 2 ^ 63) := fin_mod.2 hf
    have hle := abs_le_max h
    rw [decide_eq_true hf] at hle
    have ho : FloatKind.f64.format.order (f % 2 ^ 63) 9218868437227405311 = some (Fl.cmpI (Fl.sv (f % 2 ^ 63)) (Fl.sv 9218868437227405311)) := Fl.order_fin hf2 max_fin
    have hs : FloatKind.f64.format.order f f = some (Fl.cmpI (Fl.sv f) (Fl.sv f)) := Fl.order_fin hf hf
    unfold fle at hle
    unfold fne fgt
    rw [ho] at hle ⊢
    rw [hs]
    have : Fl.cmpI (Fl.sv f) (Fl.sv f) = .eq := by unfold Fl.cmpI; simp
    rw [this]
    generalize Fl.cmpI (Fl.sv (f % 2 ^ 63)) (Fl.sv 9218868437227405311) = o at *
    cases o <;> simp at hle ⊢
  · rw [decide_eq_false hf]
    have hf2 : ¬ Fl.fin (f % 2 ^ 63) := fun e => hf (fin_mod.1 e)
    have hs : Fl.sgn (f % 2 ^ 63) = false := by unfold Fl.sgn; rw [Nat.div_eq_of_lt hm]; rfl
    obtain ⟨m, i, rm, _⟩ := Fl.read_fin max_fin
    unfold fne fgt
    rcases Fl.read_unfin hf with ⟨h1, e1⟩ | ⟨⟨q, h1⟩, _⟩
    · rcases Fl.read_unfin hf2 with ⟨h2, _⟩ | ⟨_, h2⟩
      · have ho : FloatKind.f64.format.order (f % 2 ^ 63) 9218868437227405311 = some .gt := by
          show (Ieee.Datum.order (Fl.dbl.read _) (Fl.dbl.read _)) = _
          rw [h2, rm, hs]; rfl
        rw [ho]; simp
      · rw [Nat.mod_mod] at h2; omega
    · have ho : FloatKind.f64.format.order f f = none := by
        show (Ieee.Datum.order (Fl.dbl.read _) (Fl.dbl.read _)) = _
        rw [h1]; rfl
      rw [ho]; rfl
theorem feq_zero_mod {f : Nat} (h : f < 2 ^ 64) (q : feq f 0 = true) : f % 2 ^ 63 = 0 := by
  have f0 : Fl.fin 0 := by unfold Fl.fin; decide
  have s0 : Fl.sv 0 = 0 := by decide
  by_cases hf : Fl.fin f
  · have ho : FloatKind.f64.format.order f 0 = some (Fl.cmpI (Fl.sv f) (Fl.sv 0)) := Fl.order_fin hf f0
    unfold feq at q
    rw [ho, s0] at q
    rcases Nat.eq_zero_or_pos (f % 2 ^ 63) with e | e
    · exact e
    · have hp := Fl.rv_pos e
      have : Fl.sv f ≠ 0 := by unfold Fl.sv; split <;> omega
      unfold Fl.cmpI at q
      rw [if_neg this] at q
      split at q <;> simp at q
  · obtain ⟨m, i, r0, _⟩ := Fl.read_fin f0
    unfold feq at q
    rcases Fl.read_unfin hf with ⟨h1, _⟩ | ⟨⟨z, h1⟩, _⟩
    · have ho : FloatKind.f64.format.order f 0 = some (if Fl.sgn f then .lt else .gt) := by
        show (Ieee.Datum.order (Fl.dbl.read _) (Fl.dbl.read _)) = _
        rw [h1, r0]; rfl
      rw [ho] at q
      generalize Fl.sgn f = b at q
      cases b <;> simp at q
    · have ho : FloatKind.f64.format.order f 0 = none := by
        show (Ieee.Datum.order (Fl.dbl.read _) (Fl.dbl.read _)) = _
        rw [h1]; rfl
      rw [ho] at q
      simp at q
theorem size_toList (s : ByteArray) : s.toList.length = s.size := by rw [Lib.toList_data]; exact data_length s
theorem emp_true {s : ByteArray} (e : s.toList = []) : (s.toList == ([] : List UInt8)) = true := by rw [e]; rfl
theorem emp_false {s : ByteArray} (e : ¬ s.toList = []) : (s.toList == ([] : List UInt8)) = false := by rw [beq_eq_false_iff_ne]; exact e
/-- 'a zero without a sign'. -/
theorem plus_zero {f : Nat} (h : f < 2 ^ 64) : colonnaderef05_plus.f f = some (decide (f = 0)) := by
  have f0 : Fl.fin 0 := by unfold Fl.fin; decide
  have s0 : Fl.sv 0 = 0 := by decide
  unfold colonnaderef05_plus.f math_Signbit.f
  by_cases hf : Fl.fin f
  · have ho : FloatKind.f64.format.order f 0 = some (Fl.cmpI (Fl.sv f) (Fl.sv 0)) := Fl.order_fin hf f0
    have hq : feq f 0 = decide (f % 2 ^ 63 = 0) := by
      unfold feq
      rw [ho, s0]
      unfold Fl.cmpI
      by_cases hz : f % 2 ^ 63 = 0
      · have : Fl.sv f = 0 := by unfold Fl.sv; rw [hz, Fl.rv_zero]; simp
        rw [this, decide_eq_true hz]; rfl
      · have hp := Fl.rv_pos (show 0 < f % 2 ^ 63 by omega)
        have : Fl.sv f ≠ 0 := by unfold Fl.sv; split <;> omega
        rw [decide_eq_false hz, if_neg this]
        split <;> rfl
    rw [hq]
    by_cases hz : f % 2 ^ 63 = 0
    · rw [decide_eq_true hz, if_pos rfl]
      simp only [Option.bind_some]
      have : (decide (wrap64 (fbits f) < 0)) = !decide (f = 0) := by
        unfold wrap64 fbits
        by_cases h0 : f = 0
        · subst h0; rfl
        · have : f = 2 ^ 63 := by omega
          subst this; rfl
      rw [this]; simp
    · rw [decide_eq_false hz, if_neg (by decide), decide_eq_false (by omega)]
  · have hq : feq f 0 = false := by
      obtain ⟨m, i, r0, _⟩ := Fl.read_fin f0
      unfold feq
      rcases Fl.read_unfin hf with ⟨h1, _⟩ | ⟨⟨q, h1⟩, _⟩
      · have ho : FloatKind.f64.format.order f 0 = some (if Fl.sgn f then .lt else .gt) := by
          show (Ieee.Datum.order (Fl.dbl.read _) (Fl.dbl.read _)) = _
          rw [h1, r0]; rfl
        rw [ho]; generalize Fl.sgn f = b; cases b <;> rfl
      · have ho : FloatKind.f64.format.order f 0 = none := by
          show (Ieee.Datum.order (Fl.dbl.read _) (Fl.dbl.read _)) = _
          rw [h1]; rfl
        rw [ho]; rfl
    have : f ≠ 0 := by rintro rfl; exact hf f0
    rw [hq, if_neg (by decide), decide_eq_false this]

/-- May a value be? -/
def mayB (k i : Int) (f : Nat) (s : ByteArray) : Bool :=
  if k = 0 then decide (i = 0) && (decide (f = 0) && (s.toList == ([] : List UInt8)))
  else if k = 1 then decide (f = 0) && (s.toList == ([] : List UInt8))
  else if k = 2 then decide (i = 0) && (decide (f = 0) && decide ((s.size : Int) ≤ 65535))
  else if k = 3 then decide (i = 0) && ((s.toList == ([] : List UInt8)) && (decide (Fl.fin f) && decide (f ≠ 2 ^ 63)))
  else false

theorem ref_nan (f : Nat) : math_IsNaN.f f = some (fne f f) := rfl
theorem ref_inf {f : Nat} (h : f < 2 ^ 64) : math_IsInf.f f 0 = some (fgt (f % 2 ^ 63) 9218868437227405311) := by
  unfold math_IsInf.f math_Abs.f
  rw [if_pos rfl, abs_bits h]; rfl
theorem ref_sign {f : Nat} (h : f < 2 ^ 64) : math_Signbit.f f = some (decide (2 ^ 63 ≤ f)) := by
  unfold math_Signbit.f wrap64 fbits
  rw [show decide (((f : Int) + 9223372036854775808) % 18446744073709551616 - 9223372036854775808 < 0) = decide (2 ^ 63 ≤ f) from by rw [decide_eq_decide]; omega]
theorem ref_may_j (b : Bool) (i : Int) {f : Nat} (s : ByteArray) (h : f < 2 ^ 64) (n : Nat) (hb : b = decide (f = 2 ^ 63)) : colonnaderef05_May.j0 (n + 1) b 3 i f s = some (decide (i = 0) && ((s.toList == ([] : List UInt8)) && (decide (Fl.fin f) && decide (f ≠ 2 ^ 63)))) := by
  subst hb
  have hn := nan_inf h
  simp only [colonnaderef05_May.j0, ref_nan, ref_inf h, Option.bind_some]
  rw [← hn]
  by_cases e : f = 2 ^ 63
  · rw [decide_eq_true e, if_pos rfl]; simp [e]
  · rw [decide_eq_false e, if_neg (by decide)]
    by_cases e1 : i = 0
    · rw [if_pos e1]
      by_cases e2 : s.toList = []
      · rw [if_pos e2]
        cases fne f f
        · simp [e, e1, e2]
        · simp
      · rw [if_neg e2]; simp [e2]
    · rw [if_neg e1]; simp [e1]
theorem ref_may (k i : Int) {f : Nat} (s : ByteArray) (h : f < 2 ^ 64) (n : Nat) : colonnaderef05_May.f (n + 1) k i f s = some (mayB k i f s) := by
  unfold colonnaderef05_May.f mayB
  simp only [plus_zero h, ref_sign h, Option.bind_some]
  by_cases k0 : k = 0
  · rw [if_pos k0, if_pos k0]
    by_cases e1 : i = 0 <;> by_cases e2 : f = 0 <;> simp [e1, e2]
  · rw [if_neg k0, if_neg k0]
    by_cases k1 : k = 1
    · rw [if_pos k1, if_pos k1]
      by_cases e2 : f = 0 <;> simp [e2]
    · rw [if_neg k1, if_neg k1]
      by_cases k2 : k = 2
      · rw [if_pos k2, if_pos k2]
        by_cases e1 : i = 0 <;> by_cases e2 : f = 0 <;> simp [e1, e2]
      · rw [if_neg k2, if_neg k2]
        by_cases k3 : k = 3
        · subst k3
          rw [if_pos rfl, if_pos rfl]
          have hz := plus_zero h
          have f0 : Fl.fin 0 := by unfold Fl.fin; decide
          by_cases q : feq f 0 = true
          · rw [if_pos q]
            refine ref_may_j _ i s h n ?_
            unfold colonnaderef05_plus.f at hz
            rw [if_pos q, ref_sign h] at hz
            simp only [Option.bind_some, Option.some.injEq] at hz
            rw [decide_eq_decide]
            have hz' : (!decide (2 ^ 63 ≤ f)) = decide (f = 0) := hz
            have q2 : f % 2 ^ 63 = 0 := feq_zero_mod h q
            omega
          · rw [if_neg q]
            refine ref_may_j _ i s h n ?_
            have : f ≠ 2 ^ 63 := by rintro rfl; exact q (by decide)
            rw [decide_eq_false this]
        · rw [if_neg k3, if_neg k3]
theorem prog_may_j1 (b : Bool) (k i : Int) {f : Nat} (s : ByteArray) (h : f < 2 ^ 64) (n : Nat) : value_May.j1 (n + 1) b k i f s = some (b && (if k = 3 then decide (Fl.fin f) && decide (f ≠ 2 ^ 63) else decide (f = 0) && (decide (0 ≤ k) && decide (k < 3)))) := by
  simp only [value_May.j1, math_Abs.f, abs_bits h, Option.bind_some, abs_le_max h]
  have hfb : fbits f = (f : Int) := rfl
  rw [hfb]
  by_cases k3 : k = 3
  · rw [if_pos k3, if_pos k3]
    cases b
    · simp
    · by_cases e : Fl.fin f
      · simp only [if_true, decide_eq_true e, Bool.true_and]
        congr 1
        by_cases e2 : f = 2 ^ 63
        · subst e2; rfl
        · rw [decide_eq_true e2, bne_iff_ne]; omega
      · simp [e]
  · rw [if_neg k3, if_neg k3]
    cases b
    · simp
    · by_cases e : f = 0
      · subst e
        by_cases e2 : k ≥ 0
        · simp [e2]
        · simp [e2]
      · have : ¬ ((f : Int) = 0) := by omega
        simp [e, this]
theorem prog_may_j0 (b : Bool) (k i : Int) {f : Nat} (s : ByteArray) (h : f < 2 ^ 64) (n : Nat) : value_May.j0 (n + 2) b k i f s =
    some ((b && ((s.toList == ([] : List UInt8)) || (decide (k = 2) && decide ((s.size : Int) ≤ 65535)))) && (if k = 3 then decide (Fl.fin f) && decide (f ≠ 2 ^ 63) else decide (f = 0) && (decide (0 ≤ k) && decide (k < 3)))) := by
  rw [value_May.j0]
  simp only [prog_may_j1 _ k i s h n]
  cases b
  · simp
  · by_cases e : s.toList = []
    · simp only [if_pos e, emp_true e, if_true, Bool.true_and, Bool.true_or]
    · simp only [if_neg e, emp_false e, if_true, Bool.true_and, Bool.false_or]
      by_cases e2 : k = 2
      · simp only [if_pos e2, decide_eq_true e2, Bool.true_and]
      · simp only [if_neg e2, decide_eq_false e2, Bool.false_and]
theorem prog_may (k i : Int) {f : Nat} (s : ByteArray) (h : f < 2 ^ 64) (n : Nat) : value_May.f (n + 2) k i f s = some (mayB k i f s) := by
  unfold value_May.f mayB
  simp only [prog_may_j0 _ k i s h n]
  have hs : s.toList = [] → s.size = 0 := fun e => by
    have : s.toList.length = 0 := by rw [e]; rfl
    rw [← this]; exact (size_toList s).symm
  generalize hE : (s.toList == ([] : List UInt8)) = E
  have hsE : E = true → s.size = 0 := fun e => hs (by rw [e] at hE; exact eq_of_beq hE)
  generalize hZ : decide (f = 0) = Z
  generalize hX : (decide (Fl.fin f) && decide (f ≠ 2 ^ 63)) = X
  clear hs hE hZ hX h
  by_cases k0 : k = 0
  · subst k0
    by_cases e1 : i = 0
    · rw [if_pos e1]; cases E <;> cases Z <;> simp [e1]
    · rw [if_neg e1]; cases E <;> cases Z <;> simp [e1]
  · by_cases k1 : k = 1
    · subst k1
      by_cases e1 : i = 0
      · rw [if_pos e1]; cases E <;> cases Z <;> simp
      · rw [if_neg e1]; cases E <;> cases Z <;> simp
    · by_cases k2 : k = 2
      · subst k2
        have hw : (E || (decide ((s.size : Int) ≤ 65535))) = decide ((s.size : Int) ≤ 65535) := by
          cases E
          · rfl
          · have := hsE rfl
            rw [this]; rfl
        by_cases e1 : i = 0
        · rw [if_pos e1]
          simp only [decide_eq_true e1, Bool.true_and, decide_true, hw]
          cases Z <;> simp
        · rw [if_neg e1]; cases Z <;> simp [e1]
      · by_cases k3 : k = 3
        · subst k3
          by_cases e1 : i = 0
          · rw [if_pos e1]; cases E <;> cases X <;> simp [e1]
          · rw [if_neg e1]; cases E <;> cases X <;> simp [e1]
        · have hk : (decide (0 ≤ k) && decide (k < 3)) = false := by
            by_cases a : 0 ≤ k
            · rw [decide_eq_false (show ¬ k < 3 by omega)]; simp
            · rw [decide_eq_false a]; rfl
          simp only [k0, k1, k2, k3, if_false, hk, Bool.and_false]
          split <;> rfl

theorem compare_int (a b : Int) : cmp_Compare_int.f a b = some (cmpZ a b) := by
  unfold cmp_Compare_int.f cmp_isNaN_int.f cmpZ
  simp
  repeat' split
  all_goals rfl
theorem less_eq (a b : Int) : colonnaderef05_less.f a b = some (cmpZ a b) := by
  unfold colonnaderef05_less.f cmpZ
  repeat' split
  all_goals first | rfl | omega
/-- The place of a value among the kinds. -/
def classV (v : S28) : Int := if mayB v.f0 v.f1 v.f2 v.f3 = true then (if v.f0 = 0 then 1 else if v.f0 = 2 then 3 else 2) else 0
def cmpF (a b : Nat) : Int := if flt a b = true then -1 else if fgt a b = true then 1 else 0
def orI (a b : Int) : Int := if a = 0 then b else a
def mixedI (i : Int) (f : Nat) : Int := (mixed i f).getD 0
/-- How two values stand to each other. -/
def cmpV (a b : S28) : Int :=
  if classV a = classV b then
    (if classV a < 2 then 0
    else if a.f0 = 2 then strCmp a.f3 b.f3
    else if a.f0 = 1 then (if b.f0 = 1 then cmpZ a.f1 b.f1 else orI (mixedI a.f1 b.f2) (-1))
    else (if b.f0 = 3 then cmpF a.f2 b.f2 else orI (-(mixedI b.f1 a.f2)) 1))
  else cmpZ (classV a) (classV b)
theorem cmpZ_range (a b : Int) : cmpZ a b = -1 ∨ cmpZ a b = 0 ∨ cmpZ a b = 1 := by unfold cmpZ; repeat' split
                                                                                   all_goals omega
theorem mixed_some (i : Int) {f : Nat} (h : Fl.fin f) : mixed i f = some (mixedI i f) ∧ (mixedI i f = -1 ∨ mixedI i f = 0 ∨ mixedI i f = 1) := by
  have hf : f % 2 ^ 63 < 2047 * 2 ^ 52 := h
  unfold mixedI mixed
  rw [if_pos hf]
  have hm : mixRest f = -1 ∨ mixRest f = 0 ∨ mixRest f = 1 := by
    unfold mixRest; repeat' split
    all_goals omega
  have hz := cmpZ_range i (Fl.wholeI f)
  repeat' split
  all_goals first | exact ⟨rfl, .inl rfl⟩ | exact ⟨rfl, .inr (.inr rfl)⟩ | exact ⟨rfl, hm⟩ | exact ⟨rfl, hz⟩
theorem class_cases {v : S28} (h : classV v = 2) : v.f0 = 1 ∨ (v.f0 = 3 ∧ Fl.fin v.f2) := by
  unfold classV at h
  by_cases hm : mayB v.f0 v.f1 v.f2 v.f3 = true
  · rw [if_pos hm] at h
    unfold mayB at hm
    by_cases k0 : v.f0 = 0
    · rw [if_pos k0] at h; omega
    · rw [if_neg k0] at h hm
      by_cases k2 : v.f0 = 2
      · rw [if_pos k2] at h; omega
      · by_cases k1 : v.f0 = 1
        · exact .inl k1
        · rw [if_neg k1, if_neg k2] at hm
          by_cases k3 : v.f0 = 3
          · rw [if_pos k3] at hm
            simp only [Bool.and_eq_true, decide_eq_true_eq] at hm
            exact .inr ⟨k3, hm.2.2.1⟩
          · rw [if_neg k3] at hm; cases hm
  · rw [if_neg hm] at h; omega
theorem class_text {v : S28} (h : classV v = 3) : v.f0 = 2 ∧ (v.f3.size : Int) ≤ 65535 := by
  unfold classV at h
  by_cases hm : mayB v.f0 v.f1 v.f2 v.f3 = true
  · rw [if_pos hm] at h
    by_cases k0 : v.f0 = 0
    · rw [if_pos k0] at h; omega
    · rw [if_neg k0] at h
      by_cases k2 : v.f0 = 2
      · refine ⟨k2, ?_⟩
        unfold mayB at hm
        rw [if_neg k0, if_neg (by omega), if_pos k2] at hm
        simp only [Bool.and_eq_true, decide_eq_true_eq] at hm
        exact hm.2.2
      · rw [if_neg k2] at h; omega
  · rw [if_neg hm] at h; omega
theorem class_range (v : S28) : classV v = 0 ∨ classV v = 1 ∨ classV v = 2 ∨ classV v = 3 := by
  unfold classV; repeat' split
  all_goals omega
theorem or_two (t c : Int) (hc : c ≠ 0) (n : Nat) : cmp_Or_int.f (n + 3) [t, c] = some (orI t c) := by
  unfold cmp_Or_int.f orI
  simp only [cmp_Or_int.l0]
  have r0 : rd [t, c] 0 = t := rfl
  have r1 : rd [t, c] 1 = c := rfl
  have w1 : wrap64 (0 + 1) = 1 := by unfold wrap64; omega
  rw [w1, r0, r1]
  by_cases h : t = 0
  · simp [h, hc]
  · simp [h]
theorem cmpF_prog {a b : Nat} (ha : Fl.fin a) (hb : Fl.fin b) : cmp_Compare_float64.f a b = some (cmpF a b) := by
  have na : fne a a = false := by
    unfold fne
    have : FloatKind.f64.format.order a a = some (Fl.cmpI (Fl.sv a) (Fl.sv a)) := Fl.order_fin ha ha
    rw [this]; unfold Fl.cmpI; simp
  have nb : fne b b = false := by
    unfold fne
    have : FloatKind.f64.format.order b b = some (Fl.cmpI (Fl.sv b) (Fl.sv b)) := Fl.order_fin hb hb
    rw [this]; unfold Fl.cmpI; simp
  unfold cmp_Compare_float64.f cmp_isNaN_float64.f cmpF
  simp only [na, nb, Option.bind_some, Bool.false_eq_true, if_false]
  repeat' split
  all_goals rfl
theorem prog_class (v : S28) (h : v.f2 < 2 ^ 64) (n : Nat) : value_class.f (n + 2) v.f0 v.f1 v.f2 v.f3 = some (classV v) := by
  unfold value_class.f classV
  rw [prog_may _ _ _ h n]
  simp only [Option.bind_some]
  repeat' split
  all_goals rfl
theorem wrap_neg {t : Int} (h : t = -1 ∨ t = 0 ∨ t = 1) : wrap64 (-t) = -t := by unfold wrap64; omega
theorem prog_cmp (a b : S28) (ha : a.f2 < 2 ^ 64) (hb : b.f2 < 2 ^ 64) (n : Nat) : value_Compare.f (n + 5) a.f0 a.f1 a.f2 a.f3 b.f0 b.f1 b.f2 b.f3 = some (cmpV a b) := by
  unfold value_Compare.f cmpV
  rw [prog_class a ha (n + 3), prog_class b hb (n + 3)]
  simp only [Option.bind_some, compare_int]
  by_cases hc : classV a = classV b
  · have hz : cmpZ (classV a) (classV b) = 0 := by unfold cmpZ; rw [hc]; simp
    rw [if_pos hz, if_pos hc]
    by_cases h2 : classV a < 2
    · rw [if_pos h2, if_pos h2]
    · rw [if_neg h2, if_neg h2]
      by_cases k2 : a.f0 = 2
      · rw [if_pos k2, if_pos k2]; rfl
      · rw [if_neg k2, if_neg k2]
        have ca : classV a = 2 := by
          rcases class_range a with e | e | e | e
          · omega
          · omega
          · exact e
          · exact absurd (class_text e).1 k2
        have cb : classV b = 2 := by rw [← hc]; exact ca
        simp only [value_Compare.j0, value_Compare.j1, compare_int64, Option.bind_some]
        rcases class_cases ca with a1 | ⟨a3, fa⟩
        · rw [if_pos a1, if_pos a1]
          rcases class_cases cb with b1 | ⟨b3, fb⟩
          · rw [if_pos b1]; simp [a1, b1]
          · have nb : ¬ b.f0 = 1 := by omega
            have hm := mixed_some a.f1 fb
            rw [if_neg nb]
            simp only [a1, b3, value_against.f, hm.1, Option.bind_some, or_two _ _ (show (-1 : Int) ≠ 0 by decide)]
            simp
        · have na : ¬ a.f0 = 1 := by omega
          rw [if_neg na, if_neg na]
          rcases class_cases cb with b1 | ⟨b3, fb⟩
          · have nb : ¬ b.f0 = 3 := by omega
            have hm := mixed_some b.f1 fa
            rw [if_neg nb]
            simp only [a3, b1, value_against.f, hm.1, Option.bind_some, wrap_neg hm.2, or_two _ _ (show (1 : Int) ≠ 0 by decide)]
            simp
          · rw [if_pos b3]
            simp only [a3, b3, cmpF_prog fa fb, Option.bind_some]
            simp
  · have hz : ¬ cmpZ (classV a) (classV b) = 0 := by unfold cmpZ; repeat' split
                                                     all_goals omega
    rw [if_neg hz, if_neg hc]

theorem bt_cons {s : ByteArray} {i : Nat} (h : i < s.size) : ∃ c : UInt8, s.data.toList.drop i = c :: s.data.toList.drop (i + 1) ∧ bt s (i : Int) = c.toNat := by
  have hl : i < s.data.toList.length := by rw [data_length]; exact h
  refine ⟨s[i]'h, ?_, ?_⟩
  · rw [List.drop_eq_getElem_cons hl]; rfl
  · unfold bt
    rw [Int.toNat_natCast, dif_pos h]
theorem wrap_byte (c : UInt8) : wrap64 (c.toNat : Int) = c.toNat := by
  have := c.toNat_lt
  unfold wrap64; omega
theorem texts_from (a b : ByteArray) (ha : (a.size : Int) ≤ 65535) (hb : (b.size : Int) ≤ 65535) (d : Nat) : ∀ (i k : Nat), i ≤ a.size → i ≤ b.size → a.size - i = d → 2 * d + 3 ≤ k →
    colonnaderef05_texts.l0 k a b i = some (Lib.compareBytes (a.data.toList.drop i) (b.data.toList.drop i)) := by
  have hend : ∀ (i k : Nat), i ≤ a.size → i ≤ b.size → (i = a.size ∨ i = b.size) → colonnaderef05_less.f a.size b.size = some (Lib.compareBytes (a.data.toList.drop i) (b.data.toList.drop i)) := by
    intro i k h1 h2 he
    rw [less_eq]
    unfold cmpZ
    rcases he with e | e
    · have ea : a.data.toList.drop i = [] := by rw [List.drop_eq_nil_iff, data_length]; omega
      rw [ea]
      by_cases e2 : i = b.size
      · have eb : b.data.toList.drop i = [] := by rw [List.drop_eq_nil_iff, data_length]; omega
        rw [eb, if_neg (by omega), if_neg (by omega)]; rfl
      · obtain ⟨c, hc, _⟩ := bt_cons (s := b) (i := i) (by omega)
        rw [hc, if_pos (by omega)]; rfl
    · by_cases e2 : i = a.size
      · have ea : a.data.toList.drop i = [] := by rw [List.drop_eq_nil_iff, data_length]; omega
        have eb : b.data.toList.drop i = [] := by rw [List.drop_eq_nil_iff, data_length]; omega
        rw [ea, eb, if_neg (by omega), if_neg (by omega)]; rfl
      · have eb : b.data.toList.drop i = [] := by rw [List.drop_eq_nil_iff, data_length]; omega
        obtain ⟨c, hc, _⟩ := bt_cons (s := a) (i := i) (by omega)
        rw [hc, eb, if_neg (by omega), if_pos (by omega)]; rfl
  induction d with
  | zero =>
    intro i k h1 h2 hd hk
    obtain ⟨k, rfl⟩ : ∃ m, k = m + 2 := ⟨k - 2, by omega⟩
    simp only [colonnaderef05_texts.l0, colonnaderef05_texts.j1]
    rw [if_neg (by omega), if_neg (by decide), hend i k h1 h2 (.inl (by omega))]; rfl
  | succ d ih =>
    intro i k h1 h2 hd hk
    obtain ⟨k, rfl⟩ : ∃ m, k = m + 2 := ⟨k - 2, by omega⟩
    simp only [colonnaderef05_texts.l0, colonnaderef05_texts.j1]
    rw [if_pos (by omega)]
    by_cases hb2 : i < b.size
    · have q1 : ((i : Int) < (b.size : Int)) := by omega
      rw [if_pos (decide_eq_true q1), if_pos (by omega), if_pos (by omega), if_pos q1]
      obtain ⟨c, hc, ec⟩ := bt_cons (s := a) (i := i) (by omega)
      obtain ⟨e, he, ee⟩ := bt_cons (s := b) (i := i) hb2
      rw [ec, ee, hc, he, wrap_byte, wrap_byte, less_eq]
      unfold Lib.compareBytes
      by_cases hce : (c.toNat : Int) = e.toNat
      · have : c = e := UInt8.toNat_inj.1 (by omega)
        subst this
        have w1 : wrap64 ((i : Int) + 1) = ((i + 1 : Nat) : Int) := by unfold wrap64; omega
        rw [if_pos rfl, w1, ih (i + 1) k (by omega) (by omega) (by omega) (by omega), if_neg (by simp), if_neg (by simp)]
      · rw [if_neg hce]
        unfold cmpZ
        by_cases hlt : (c.toNat : Int) < e.toNat
        · have : c < e := UInt8.lt_iff_toNat_lt.2 (by omega)
          rw [if_pos hlt, if_pos this]; rfl
        · have n1 : ¬ c < e := fun h => hlt (by have := UInt8.lt_iff_toNat_lt.1 h; omega)
          have n2 : e < c := UInt8.lt_iff_toNat_lt.2 (by omega)
          rw [if_neg hlt, if_pos (by omega), if_neg n1, if_pos n2]; rfl
    · have q1 : ¬ ((i : Int) < (b.size : Int)) := by omega
      rw [decide_eq_false q1, if_neg (by decide), hend i k h1 h2 (.inr (by omega))]; rfl
theorem texts_eq (a b : ByteArray) (ha : (a.size : Int) ≤ 65535) (hb : (b.size : Int) ≤ 65535) (n : Nat) (hn : 131080 ≤ n) : colonnaderef05_texts.f n a b = some (strCmp a b) := by
  unfold colonnaderef05_texts.f strCmp
  have := texts_from a b ha hb a.size 0 n (by omega) (by omega) (by omega) (by omega)
  rw [List.drop_zero, List.drop_zero] at this
  exact this

def rclass (v : S28) : Int := if v.f0 = 0 then 0 else if v.f0 = 2 then 2 else 1
theorem ref_class (v : S28) : colonnaderef05_class.f v.f0 v.f1 v.f2 v.f3 = some (rclass v) := by
  unfold colonnaderef05_class.f rclass
  repeat' split
  all_goals rfl
theorem rclass_eq {v : S28} (h : mayB v.f0 v.f1 v.f2 v.f3 = true) : classV v = rclass v + 1 := by
  unfold classV rclass
  rw [if_pos h]
  repeat' split
  all_goals rfl
theorem cmpZ_succ (a b : Int) : cmpZ (a + 1) (b + 1) = cmpZ a b := by
  unfold cmpZ
  repeat' split
  all_goals omega
theorem ref_numbers (a b : S28) (ca : classV a = 2) (cb : classV b = 2) :
    colonnaderef05_numbers.f a.f0 a.f1 a.f2 a.f3 b.f0 b.f1 b.f2 b.f3 = some (if a.f0 = 1 then (if b.f0 = 1 then cmpZ a.f1 b.f1 else mixedI a.f1 b.f2) else (if b.f0 = 3 then cmpF a.f2 b.f2 else -(mixedI b.f1 a.f2))) := by
  unfold colonnaderef05_numbers.f
  rcases class_cases ca with a1 | ⟨a3, fa⟩
  · have na : ¬ a.f0 = 3 := by omega
    rcases class_cases cb with b1 | ⟨b3, fb⟩
    · rw [if_neg na, if_pos ⟨a1, b1⟩, if_pos a1, if_pos b1]
    · have nb : ¬ b.f0 = 1 := by omega
      rw [if_neg na, if_neg (fun h => nb h.2), if_pos a1, if_neg nb, (mixed_some a.f1 fb).1]
  · have na : ¬ a.f0 = 1 := by omega
    rcases class_cases cb with b1 | ⟨b3, fb⟩
    · have nb : ¬ b.f0 = 3 := by omega
      have hm := mixed_some b.f1 fa
      rw [if_pos a3, if_neg nb, if_neg na, if_neg nb, hm.1]
      simp only [Option.map_some, wrap_neg hm.2]
    · rw [if_pos a3, if_pos b3, if_neg na, if_pos b3]; rfl
theorem rclass_range (v : S28) : 0 ≤ rclass v ∧ rclass v ≤ 2 := by
  unfold rclass; repeat' split
  all_goals omega
theorem ref_cmp (a b : S28) (ha : a.f2 < 2 ^ 64) (hb : b.f2 < 2 ^ 64) (n : Nat) (hn : 131080 ≤ n) : colonnaderef05_Compare.f (n + 1) a.f0 a.f1 a.f2 a.f3 b.f0 b.f1 b.f2 b.f3 = some (cmpV a b) := by
  unfold colonnaderef05_Compare.f
  rw [ref_may _ _ _ ha n, ref_may _ _ _ hb n]
  simp only [Option.bind_some, colonnaderef05_Compare.j0, ref_class, less_eq]
  have ra := rclass_range a
  have rb := rclass_range b
  cases hma : mayB a.f0 a.f1 a.f2 a.f3
  · have ca : classV a = 0 := by unfold classV; rw [hma]; rfl
    simp only [Bool.false_eq_true, if_false, if_true]
    cases hmb : mayB b.f0 b.f1 b.f2 b.f3
    · have cb : classV b = 0 := by unfold classV; rw [hmb]; rfl
      unfold cmpV
      rw [ca, cb]; rfl
    · have cb := rclass_eq hmb
      have h1 : ¬ (0 : Int) = rclass b + 1 := by omega
      have h2 : (0 : Int) < rclass b + 1 := by omega
      unfold cmpV
      rw [ca, cb, if_neg h1]
      unfold cmpZ
      rw [if_pos h2]; rfl
  · have ca := rclass_eq hma
    simp only [if_true]
    cases hmb : mayB b.f0 b.f1 b.f2 b.f3
    · have cb : classV b = 0 := by unfold classV; rw [hmb]; rfl
      have h1 : ¬ rclass a + 1 = 0 := by omega
      have h2 : ¬ rclass a + 1 < 0 := by omega
      have h3 : 0 < rclass a + 1 := by omega
      unfold cmpV
      rw [ca, cb, if_neg h1]
      unfold cmpZ
      rw [if_neg h2, if_pos h3]; rfl
    · have cb := rclass_eq hmb
      simp only [Bool.not_true, Bool.false_eq_true, if_false]
      unfold cmpV
      by_cases hc : rclass a = rclass b
      · have hc' : classV a = classV b := by omega
        rw [if_pos hc, if_pos hc']
        by_cases h0 : rclass a = 0
        · rw [if_pos h0, if_pos (by omega)]
        · have h0' : ¬ classV a < 2 := by have := class_range a; omega
          rw [if_neg h0, if_neg h0']
          by_cases h2 : rclass a = 2
          · have k2 := class_text (v := a) (by omega)
            have l2 := class_text (v := b) (by omega)
            simp only [if_pos k2.1]
            rw [if_pos h2, texts_eq _ _ k2.2 l2.2 _ hn]; rfl
          · have c2 : classV a = 2 := by have := class_range a; omega
            have d2 : classV b = 2 := by omega
            rw [if_neg h2, ref_numbers a b c2 d2]
            simp only [Option.bind_some]
            rcases class_cases c2 with a1 | ⟨a3, fa⟩
            · rw [if_neg (show ¬ a.f0 = 2 by omega), if_pos a1, if_pos a1]
              rcases class_cases d2 with b1 | ⟨b3, fb⟩
              · rw [if_pos b1, if_pos b1]
                by_cases z : cmpZ a.f1 b.f1 = 0
                · rw [if_pos z, z, a1, b1]; rfl
                · rw [if_neg z]
              · rw [if_neg (show ¬ b.f0 = 1 by omega), if_neg (show ¬ b.f0 = 1 by omega)]
                unfold orI
                by_cases z : mixedI a.f1 b.f2 = 0
                · rw [if_pos z, if_pos z, a1, b3]; rfl
                · rw [if_neg z, if_neg z]
            · rw [if_neg (show ¬ a.f0 = 2 by omega), if_neg (show ¬ a.f0 = 1 by omega), if_neg (show ¬ a.f0 = 1 by omega)]
              rcases class_cases d2 with b1 | ⟨b3, fb⟩
              · rw [if_neg (show ¬ b.f0 = 3 by omega), if_neg (show ¬ b.f0 = 3 by omega)]
                unfold orI
                by_cases z : -mixedI b.f1 a.f2 = 0
                · rw [if_pos z, if_pos z, a3, b1]; rfl
                · rw [if_neg z, if_neg z]
              · rw [if_pos b3, if_pos b3]
                by_cases z : cmpF a.f2 b.f2 = 0
                · rw [if_pos z, z, a3, b3]; rfl
                · rw [if_neg z]
      · rw [if_neg hc, if_neg (by omega), ca, cb, cmpZ_succ]
end Go.Proofs.Ytgpkjdjjjenhcaa.Q
