/- Contracts of functions of the program: the call of each comes to what the plain Lean function of its name says, wherever that one is 'some'. Written by a program of this session. -/
import Derived.Test.YtgpkjdjjjenhcaaQx0
import Derived.Test.YtgpkjdjjjenhcaaQx5
import Derived.Test.YtgpkjdjjjenhcaaQx6
import Derived.Test.YtgpkjdjjjenhcaaAs2
namespace Go.Proofs.Ytgpkjdjjjenhcaa.Q
open Go.RowKit Go.Proofs.YtgpkjdjjjenhcaaW.PrintWords Go.Proofs.YtgpkjdjjjenhcaaW.PrintLast Go.Proofs.Ytgpkjdjjjenhcaa.Fw Go.Proofs.YtgpkjdjjjenhcaaW.PrintMore
attribute [local go_sem] max2_int min2_int max_two min_two max_three min_three max_four min_four   -- for this text's walks alone
set_option linter.unusedVariables false
set_option linter.unusedSimpArgs false

/-! ### value_Compare: function 21 -/
mutual
def value_Compare.j0 : Nat → Bool → Int → Int → Nat → ByteArray → Int → Int → Nat → ByteArray → Option (Int)
  | 0, _, _, _, _, _, _, _, _, _ => none
  | k + 1, x27, x159000, x159001, x159002, x159003, x160000, x160001, x160002, x160003 => if x27 = true then ((cmp_Compare_int64.f x159001 x160001).bind fun t165 => (some t165)) else (if x159000 = 3 then (value_Compare.j1 k (x160000 == 3) x159000 x159001 x159002 x159003 x160000 x160001 x160002 x160003) else (value_Compare.j1 k false x159000 x159001 x159002 x159003 x160000 x160001 x160002 x160003))
def value_Compare.j1 : Nat → Bool → Int → Int → Nat → ByteArray → Int → Int → Nat → ByteArray → Option (Int)
  | 0, _, _, _, _, _, _, _, _, _ => none
  | k + 1, x41, x159000, x159001, x159002, x159003, x160000, x160001, x160002, x160003 => if x41 = true then ((cmp_Compare_float64.f x159002 x160002).bind fun t166 => (some t166)) else (if x159000 = 1 then ((value_against.f x159001 x160002).bind fun t167 => ((cmp_Or_int.f k (([t167, (-1)] : List Int))).bind fun t171 => (some t171))) else ((value_against.f x160001 x159002).bind fun t172 => ((cmp_Or_int.f k (([wrap64 (-t172), 1] : List Int))).bind fun t176 => (some t176))))
end
def value_Compare.f (k : Nat) (a0_0 : Int) (a0_1 : Int) (a0_2 : Nat) (a0_3 : ByteArray) (a1_0 : Int) (a1_1 : Int) (a1_2 : Nat) (a1_3 : ByteArray) : Option (Int) := (value_class.f k a0_0 a0_1 a0_2 a0_3).bind fun t160 => ((value_class.f k a1_0 a1_1 a1_2 a1_3).bind fun t161 => ((cmp_Compare_int.f t160 t161).bind fun t162 => (if t162 = 0 then ((value_class.f k a0_0 a0_1 a0_2 a0_3).bind fun t163 => (if t163 < 2 then (some 0) else (if a0_0 = 2 then ((strings_Compare.f a0_3 a1_3).bind fun t164 => (some t164)) else (if a0_0 = 1 then (value_Compare.j0 k (a1_0 == 1) a0_0 a0_1 a0_2 a0_3 a1_0 a1_1 a1_2 a1_3) else (value_Compare.j0 k false a0_0 a0_1 a0_2 a0_3 a1_0 a1_1 a1_2 a1_3))))) else (some t162))))
theorem value_Compare.mono_l : ∀ k, (∀ y0 y1 y2 y3 y4 y5 y6 y7 y8, LeO (value_Compare.j0 k y0 y1 y2 y3 y4 y5 y6 y7 y8) (value_Compare.j0 (k + 1) y0 y1 y2 y3 y4 y5 y6 y7 y8)) ∧ (∀ y0 y1 y2 y3 y4 y5 y6 y7 y8, LeO (value_Compare.j1 k y0 y1 y2 y3 y4 y5 y6 y7 y8) (value_Compare.j1 (k + 1) y0 y1 y2 y3 y4 y5 y6 y7 y8))
  | 0 => ⟨fun _ _ _ _ _ _ _ _ _ r h => by simp [value_Compare.j0] at h, fun _ _ _ _ _ _ _ _ _ r h => by simp [value_Compare.j1] at h⟩
  | k + 1 => by
    obtain ⟨ih0, ih1⟩ := value_Compare.mono_l k
    refine ⟨?_, ?_⟩
    · intro y0 y1 y2 y3 y4 y5 y6 y7 y8
      unfold value_Compare.j0
      repeat' first
      | (with_reducible exact ih0 _ _ _ _ _ _ _ _ _)
      | (with_reducible exact ih1 _ _ _ _ _ _ _ _ _)
      | (with_reducible exact cmp_Or_int.mono _ _)
      | (with_reducible exact value_class.mono _ _ _ _ _)
      | (with_reducible exact LeO.refl _)
      | (with_reducible exact LeO.none _)
      | (with_reducible refine LeO.ite ?_ ?_)
      | (with_reducible refine LeO.bind ?_ (fun _ => ?_))
      | exact ih0 _ _ _ _ _ _ _ _ _
      | exact ih1 _ _ _ _ _ _ _ _ _
      | exact cmp_Or_int.mono _ _
      | exact value_class.mono _ _ _ _ _
      | exact LeO.none _
      | refine LeO.ite ?_ ?_
      | refine LeO.bind ?_ (fun _ => ?_)
    · intro y0 y1 y2 y3 y4 y5 y6 y7 y8
      unfold value_Compare.j1
      repeat' first
      | (with_reducible exact ih0 _ _ _ _ _ _ _ _ _)
      | (with_reducible exact ih1 _ _ _ _ _ _ _ _ _)
      | (with_reducible exact cmp_Or_int.mono _ _)
      | (with_reducible exact value_class.mono _ _ _ _ _)
      | (with_reducible exact LeO.refl _)
      | (with_reducible exact LeO.none _)
      | (with_reducible refine LeO.ite ?_ ?_)
      | (with_reducible refine LeO.bind ?_ (fun _ => ?_))
      | exact ih0 _ _ _ _ _ _ _ _ _
      | exact ih1 _ _ _ _ _ _ _ _ _
      | exact cmp_Or_int.mono _ _
      | exact value_class.mono _ _ _ _ _
      | exact LeO.none _
      | refine LeO.ite ?_ ?_
      | refine LeO.bind ?_ (fun _ => ?_)
theorem value_Compare.mono : ∀ a0 a1 a2 a3 a4 a5 a6 a7 k, LeO (value_Compare.f k a0 a1 a2 a3 a4 a5 a6 a7) (value_Compare.f (k + 1) a0 a1 a2 a3 a4 a5 a6 a7) := by
  intro a0 a1 a2 a3 a4 a5 a6 a7 k
  obtain ⟨ih0, ih1⟩ := value_Compare.mono_l k
  unfold value_Compare.f
  repeat' first
      | (with_reducible exact ih0 _ _ _ _ _ _ _ _ _)
      | (with_reducible exact ih1 _ _ _ _ _ _ _ _ _)
      | (with_reducible exact cmp_Or_int.mono _ _)
      | (with_reducible exact value_class.mono _ _ _ _ _)
      | (with_reducible exact LeO.refl _)
      | (with_reducible exact LeO.none _)
      | (with_reducible refine LeO.ite ?_ ?_)
      | (with_reducible refine LeO.bind ?_ (fun _ => ?_))
      | exact ih0 _ _ _ _ _ _ _ _ _
      | exact ih1 _ _ _ _ _ _ _ _ _
      | exact cmp_Or_int.mono _ _
      | exact value_class.mono _ _ _ _ _
      | exact LeO.none _
      | refine LeO.ite ?_ ?_
      | refine LeO.bind ?_ (fun _ => ?_)
set_option maxHeartbeats 8000000 in
set_option maxRecDepth 100000 in
theorem value_Compare.calls (k : Nat) (a0_0 : Int) (a0_1 : Int) (a0_2 : Nat) (a0_3 : ByteArray) (a1_0 : Int) (a1_1 : Int) (a1_2 : Nat) (a1_3 : ByteArray) (r : Int) (w : World) (h : value_Compare.f k a0_0 a0_1 a0_2 a0_3 a1_0 a1_1 a1_2 a1_3 = some r) :
  Calls Try.prog 21 #[.agg #[.int .i64 a0_0,.int .i64 a0_1,.float .f64 a0_2,.string a0_3],.agg #[.int .i64 a1_0,.int .i64 a1_1,.float .f64 a1_2,.string a1_3]] w fun e w' => e = .returned (.int .i64 r) ∧ Below w.heap.size w w' := by
 have hu28 := Try.underlying28
 have HB := Aside0.mk (Below.refl w.heap.size w)
 have H : ((value_class.f k a0_0 a0_1 a0_2 a0_3).bind fun t160 => ((value_class.f k a1_0 a1_1 a1_2 a1_3).bind fun t161 => ((cmp_Compare_int.f t160 t161).bind fun t162 => (if t162 = 0 then ((value_class.f k a0_0 a0_1 a0_2 a0_3).bind fun t163 => (if t163 < 2 then (some 0) else (if a0_0 = 2 then ((strings_Compare.f a0_3 a1_3).bind fun t164 => (some t164)) else (if a0_0 = 1 then (value_Compare.j0 k (a1_0 == 1) a0_0 a0_1 a0_2 a0_3 a1_0 a1_1 a1_2 a1_3) else (value_Compare.j0 k false a0_0 a0_1 a0_2 a0_3 a1_0 a1_1 a1_2 a1_3))))) else (some t162))))) = some r := h
 clear h
 replace H := Option.bind_eq_some_iff.mp H
 obtain ⟨t160,A30,H⟩ := H
 replace H : ((value_class.f k a1_0 a1_1 a1_2 a1_3).bind fun t161 => ((cmp_Compare_int.f t160 t161).bind fun t162 => (if t162 = 0 then ((value_class.f k a0_0 a0_1 a0_2 a0_3).bind fun t163 => (if t163 < 2 then (some 0) else (if a0_0 = 2 then ((strings_Compare.f a0_3 a1_3).bind fun t164 => (some t164)) else (if a0_0 = 1 then (value_Compare.j0 k (a1_0 == 1) a0_0 a0_1 a0_2 a0_3 a1_0 a1_1 a1_2 a1_3) else (value_Compare.j0 k false a0_0 a0_1 a0_2 a0_3 a1_0 a1_1 a1_2 a1_3))))) else (some t162)))) = some r := H
 have A3 := Aside0.mk A30
 clear A30
 replace H := Option.bind_eq_some_iff.mp H
 obtain ⟨t161,A40,H⟩ := H
 replace H : ((cmp_Compare_int.f t160 t161).bind fun t162 => (if t162 = 0 then ((value_class.f k a0_0 a0_1 a0_2 a0_3).bind fun t163 => (if t163 < 2 then (some 0) else (if a0_0 = 2 then ((strings_Compare.f a0_3 a1_3).bind fun t164 => (some t164)) else (if a0_0 = 1 then (value_Compare.j0 k (a1_0 == 1) a0_0 a0_1 a0_2 a0_3 a1_0 a1_1 a1_2 a1_3) else (value_Compare.j0 k false a0_0 a0_1 a0_2 a0_3 a1_0 a1_1 a1_2 a1_3))))) else (some t162))) = some r := H
 have A4 := Aside0.mk A40
 clear A40
 replace H := Option.bind_eq_some_iff.mp H
 obtain ⟨t162,A50,H⟩ := H
 replace H : (if t162 = 0 then ((value_class.f k a0_0 a0_1 a0_2 a0_3).bind fun t163 => (if t163 < 2 then (some 0) else (if a0_0 = 2 then ((strings_Compare.f a0_3 a1_3).bind fun t164 => (some t164)) else (if a0_0 = 1 then (value_Compare.j0 k (a1_0 == 1) a0_0 a0_1 a0_2 a0_3 a1_0 a1_1 a1_2 a1_3) else (value_Compare.j0 k false a0_0 a0_1 a0_2 a0_3 a1_0 a1_1 a1_2 a1_3))))) else (some t162)) = some r := H
 have A5 := Aside0.mk A50
 clear A50
 by_cases c6 : t162 = 0
 ·
  rw [if_pos c6] at H
  have c6b0 : (t162 == 0) = true := beq_iff_eq.mpr c6
  have c6b1 : (t162 != 0) = false := bne_eq_false_iff_eq.mpr c6
  clear c6
  replace H := Option.bind_eq_some_iff.mp H
  obtain ⟨t163,A70,H⟩ := H
  replace H : (if t163 < 2 then (some 0) else (if a0_0 = 2 then ((strings_Compare.f a0_3 a1_3).bind fun t164 => (some t164)) else (if a0_0 = 1 then (value_Compare.j0 k (a1_0 == 1) a0_0 a0_1 a0_2 a0_3 a1_0 a1_1 a1_2 a1_3) else (value_Compare.j0 k false a0_0 a0_1 a0_2 a0_3 a1_0 a1_1 a1_2 a1_3)))) = some r := H
  have A7 := Aside0.mk A70
  clear A70
  by_cases c8 : t163 < 2
  ·
   rw [if_pos c8] at H
   have c8b0 : decide (t163 < 2) = true := decide_eq_true c8
   clear c8
   obtain rfl := Option.some.inj H
   go_enter Try.func21,Try.ntmps21
   try go_wp2_with (first | ((with_reducible refine gate_dst (N := 2) rfl ?_); refine box_event ?hg (N := 2) ?hd (cs := #[.int .i64 a0_0,.int .i64 a0_1,.float .f64 a0_2,.string a0_3]) (t := 28) ?hr ?_; (case hd => rfl); (case hg => rfl); (case hr => first | (go_simp; done) | (go_simp; rfl)); intro gb158 hg w9 hbox hb; have n0_ := Aside0.mk (below_step (by repeat (first | (with_reducible first | exact HB.out | apply below_alloc | apply pw_below_drewN | apply below_drew1) | exact HB.out)) hb); have n1_ := Aside0.mk (hbox); have n2_ := Aside0.mk ((by rw [hg]; exact (below_size (by repeat (first | (with_reducible first | exact HB.out | apply below_alloc | apply pw_below_drewN | apply below_drew1) | exact HB.out))) : w.heap.size ≤ gb158)); have n3_ := Aside0.mk ((by rw [hg]; exact (below_size (by repeat (first | (with_reducible first | exact HB.out | apply below_alloc | apply pw_below_drewN | apply below_drew1) | exact HB.out))) : w.heap.size ≤ gb158)); clear HB; have HB := n0_; have BK158 := n1_; have GW158 := n2_; have GE158 := n3_; clear n0_ n1_ n2_ n3_; clear hb hbox hg) | ((with_reducible refine gate_dst (N := 3) rfl ?_); refine box_event ?hg (N := 3) ?hd (cs := #[.int .i64 a1_0,.int .i64 a1_1,.float .f64 a1_2,.string a1_3]) (t := 28) ?hr ?_; (case hd => rfl); (case hg => rfl); (case hr => first | (go_simp; done) | (go_simp; rfl)); intro gb159 hg w10 hbox hb; have n0_ := Aside0.mk (blk_below (g := gb158) (o := .cells #[.int .i64 a0_0,.int .i64 a0_1,.float .f64 a0_2,.string a0_3] 28 (0,0)) (by (with_reducible repeat (first | refine blk_drewN ?_ _ | refine blk_drew ?_ | refine blk_alloc ?_ _)); exact BK158.out) hb); have n1_ := Aside0.mk (below_step (by repeat (first | (with_reducible first | exact HB.out | apply below_alloc | apply pw_below_drewN | apply below_drew1 | refine below_set ?_ GE158.out) | exact HB.out)) hb); have n2_ := Aside0.mk (hbox); have n3_ := Aside0.mk ((by rw [hg]; exact (below_size (by repeat (first | (with_reducible first | exact HB.out | apply below_alloc | apply pw_below_drewN | apply below_drew1 | refine below_set ?_ GE158.out) | exact HB.out))) : w.heap.size ≤ gb159)); have n4_ := Aside0.mk ((by rw [hg]; exact (below_size (by repeat (first | (with_reducible first | exact HB.out | apply below_alloc | apply pw_below_drewN | apply below_drew1 | refine below_set ?_ GE158.out) | exact HB.out))) : w.heap.size ≤ gb159)); have n5_ := Aside0.mk ((by rw [hg]; exact Nat.ne_of_lt (blk_lt (g := gb158) (o := .cells #[.int .i64 a0_0,.int .i64 a0_1,.float .f64 a0_2,.string a0_3] 28 (0,0)) (by (with_reducible repeat (first | refine blk_drewN ?_ _ | refine blk_drew ?_ | refine blk_alloc ?_ _)); exact BK158.out)) : gb158 ≠ gb159)); have n6_ := Aside0.mk ((by rw [hg]; exact Nat.ne_of_gt (blk_lt (g := gb158) (o := .cells #[.int .i64 a0_0,.int .i64 a0_1,.float .f64 a0_2,.string a0_3] 28 (0,0)) (by (with_reducible repeat (first | refine blk_drewN ?_ _ | refine blk_drew ?_ | refine blk_alloc ?_ _)); exact BK158.out)) : gb159 ≠ gb158)); clear BK158; clear HB; have BK158 := n0_; have HB := n1_; have BK159 := n2_; have GW159 := n3_; have GE159 := n4_; have NB158_159 := n5_; have NB159_158 := n6_; clear n0_ n1_ n2_ n3_ n4_ n5_ n6_; clear hb hbox hg))
   have n0_ := Aside0.mk (blk_drew BK158.out)
   have n1_ := Aside0.mk (blk_drew BK159.out)
   have n2_ := Aside0.mk (below_drew1 HB.out)
   clear BK158
   clear BK159
   clear HB
   have BK158 := n0_
   have BK159 := n1_
   have HB := n2_
   clear n0_ n1_ n2_
   refine start_ (n := 6) (S := fun w' => w'.cell? ⟨gb158,0,none⟩ = some (.int .i64 a0_0) ∧ w'.cell? ⟨gb158,1,none⟩ = some (.int .i64 a0_1) ∧ w'.cell? ⟨gb158,2,none⟩ = some (.float .f64 a0_2) ∧ w'.cell? ⟨gb158,3,none⟩ = some (.string a0_3) ∧ w'.cell? ⟨gb159,0,none⟩ = some (.int .i64 a1_0) ∧ w'.cell? ⟨gb159,1,none⟩ = some (.int .i64 a1_1) ∧ w'.cell? ⟨gb159,2,none⟩ = some (.float .f64 a1_2) ∧ w'.cell? ⟨gb159,3,none⟩ = some (.string a1_3)) (ds := []) #[false,false,false,false,false,false] (by kernel_rfl) rfl rfl ⟨(blk_cell BK158.out 0).trans rfl,(blk_cell BK158.out 1).trans rfl,(blk_cell BK158.out 2).trans rfl,(blk_cell BK158.out 3).trans rfl,(blk_cell BK159.out 0).trans rfl,(blk_cell BK159.out 1).trans rfl,(blk_cell BK159.out 2).trans rfl,(blk_cell BK159.out 3).trans rfl⟩ (fun hHeld => ?_)
   generalize w10.drew = w11 at BK158 BK159 HB hHeld ⊢
   refine take_ (i := 0) (N := some 6) (v := ?_) (a' := ?_) #[true,false,false,false,false,false] rfl rfl (by kernel_rfl) (fun _ _ _ h => h) (Or.inl ⟨by rfl,?_⟩) hHeld ?_ ?_
   rotate_left
   ·
    rintro w' ⟨s0,s1,s2,s3,s4,s5,s6,s7⟩
    go_simp
    with_reducible rfl
   rotate_left
   ·
    simp only [Act.put,List.setIfInBounds_toArray,List.set_cons_zero,List.set_cons_succ,i64_w,i32_w]
    rfl
   refine take_ (i := 2) (N := some 8) (v := ?_) (a' := ?_) #[true,false,true,false,false,false] rfl rfl (by kernel_rfl) (fun _ _ _ h => h) (Or.inl ⟨by rfl,?_⟩) hHeld ?_ ?_
   rotate_left
   ·
    rintro w' ⟨s0,s1,s2,s3,s4,s5,s6,s7⟩
    go_simp
    with_reducible rfl
   rotate_left
   ·
    simp only [Act.put,List.setIfInBounds_toArray,List.set_cons_zero,List.set_cons_succ,i64_w,i32_w]
    rfl
   refine one_ (i := 1) (N := some 7) #[true,true,true,false,false,false] rfl rfl (by kernel_rfl) (by decide) (fun K hK => ?_)
   refine goes_ Try.func31 (by kernel_rfl) rfl #[.agg #[.int .i64 a0_0,.int .i64 a0_1,.float .f64 a0_2,.string a0_3]] (by rfl) rfl rfl (by (try simp only [List.map_toArray,List.map_cons,List.map_nil]); first | done | rfl | (simp only [List.length_drop,List.length_take]; rfl)) ?_
   with_reducible refine (value_class.calls k a0_0 a0_1 a0_2 a0_3 t160 _ A3.out).mono ?_
   rintro e w12 ⟨rfl,hb⟩
   refine ⟨_,rfl,?_⟩
   have n0_ := Aside0.mk (blk_below (g := gb158) (o := .cells #[.int .i64 a0_0,.int .i64 a0_1,.float .f64 a0_2,.string a0_3] 28 (0,0)) (by (with_reducible repeat (first | refine blk_drewN ?_ _ | refine blk_drew ?_ | refine blk_alloc ?_ _)); exact BK158.out) hb)
   have n1_ := Aside0.mk (blk_below (g := gb159) (o := .cells #[.int .i64 a1_0,.int .i64 a1_1,.float .f64 a1_2,.string a1_3] 28 (0,0)) (by (with_reducible repeat (first | refine blk_drewN ?_ _ | refine blk_drew ?_ | refine blk_alloc ?_ _)); exact BK159.out) hb)
   have n2_ := Aside0.mk (below_step (by repeat (first | (with_reducible first | exact HB.out | apply below_alloc | apply pw_below_drewN | apply below_drew1 | refine below_set ?_ GE158.out | refine below_set ?_ GE159.out) | exact HB.out)) hb)
   clear BK158
   clear BK159
   clear HB
   have BK158 := n0_
   have BK159 := n1_
   have HB := n2_
   clear n0_ n1_ n2_
   (try clear hb)
   (try clear hb2)
   (try clear hk)
   (try clear hi)
   refine hK.out _ _ ⟨(blk_cell BK158.out 0).trans rfl,(blk_cell BK158.out 1).trans rfl,(blk_cell BK158.out 2).trans rfl,(blk_cell BK158.out 3).trans rfl,(blk_cell BK159.out 0).trans rfl,(blk_cell BK159.out 1).trans rfl,(blk_cell BK159.out 2).trans rfl,(blk_cell BK159.out 3).trans rfl⟩ (fun hHeld => ?_)
   clear hK K
   refine norm_ (a' := ?_) ?_ ?_
   rotate_left
   ·
    show Act.put _ (some 7) _ = _
    simp only [Act.put,List.setIfInBounds_toArray,List.set_cons_zero,List.set_cons_succ,i64_w,i32_w]
    rfl
   refine one_ (i := 3) (N := some 9) #[true,true,true,true,false,false] rfl rfl (by kernel_rfl) (by decide) (fun K hK => ?_)
   refine goes_ Try.func31 (by kernel_rfl) rfl #[.agg #[.int .i64 a1_0,.int .i64 a1_1,.float .f64 a1_2,.string a1_3]] (by rfl) rfl rfl (by (try simp only [List.map_toArray,List.map_cons,List.map_nil]); first | done | rfl | (simp only [List.length_drop,List.length_take]; rfl)) ?_
   with_reducible refine (value_class.calls k a1_0 a1_1 a1_2 a1_3 t161 _ A4.out).mono ?_
   rintro e w13 ⟨rfl,hb⟩
   refine ⟨_,rfl,?_⟩
   have n0_ := Aside0.mk (blk_below (g := gb158) (o := .cells #[.int .i64 a0_0,.int .i64 a0_1,.float .f64 a0_2,.string a0_3] 28 (0,0)) (by (with_reducible repeat (first | refine blk_drewN ?_ _ | refine blk_drew ?_ | refine blk_alloc ?_ _)); exact BK158.out) hb)
   have n1_ := Aside0.mk (blk_below (g := gb159) (o := .cells #[.int .i64 a1_0,.int .i64 a1_1,.float .f64 a1_2,.string a1_3] 28 (0,0)) (by (with_reducible repeat (first | refine blk_drewN ?_ _ | refine blk_drew ?_ | refine blk_alloc ?_ _)); exact BK159.out) hb)
   have n2_ := Aside0.mk (below_step (by repeat (first | (with_reducible first | exact HB.out | apply below_alloc | apply pw_below_drewN | apply below_drew1 | refine below_set ?_ GE158.out | refine below_set ?_ GE159.out) | exact HB.out)) hb)
   clear BK158
   clear BK159
   clear HB
   have BK158 := n0_
   have BK159 := n1_
   have HB := n2_
   clear n0_ n1_ n2_
   (try clear hb)
   (try clear hb2)
   (try clear hk)
   (try clear hi)
   refine hK.out _ _ ⟨(blk_cell BK158.out 0).trans rfl,(blk_cell BK158.out 1).trans rfl,(blk_cell BK158.out 2).trans rfl,(blk_cell BK158.out 3).trans rfl,(blk_cell BK159.out 0).trans rfl,(blk_cell BK159.out 1).trans rfl,(blk_cell BK159.out 2).trans rfl,(blk_cell BK159.out 3).trans rfl⟩ (fun hHeld => ?_)
   clear hK K
   refine norm_ (a' := ?_) ?_ ?_
   rotate_left
   ·
    show Act.put _ (some 9) _ = _
    simp only [Act.put,List.setIfInBounds_toArray,List.set_cons_zero,List.set_cons_succ,i64_w,i32_w]
    rfl
   refine one_ (i := 4) (N := some 10) #[true,true,true,true,true,false] rfl rfl (by kernel_rfl) (by decide) (fun K hK => ?_)
   refine goes_ Try.func30 (by kernel_rfl) rfl #[.int .i64 t160,.int .i64 t161] (by rfl) rfl rfl (by (try simp only [List.map_toArray,List.map_cons,List.map_nil]); first | done | rfl | (simp only [List.length_drop,List.length_take]; rfl)) ?_
   with_reducible refine (cmp_Compare_int.calls t160 t161 t162 _ A5.out).mono ?_
   rintro e w' ⟨rfl,⟨nd,rfl⟩⟩
   refine ⟨_,rfl,?_⟩
   refine hK.out _ _ ⟨(blk_cell BK158.out 0).trans rfl,(blk_cell BK158.out 1).trans rfl,(blk_cell BK158.out 2).trans rfl,(blk_cell BK158.out 3).trans rfl,(blk_cell BK159.out 0).trans rfl,(blk_cell BK159.out 1).trans rfl,(blk_cell BK159.out 2).trans rfl,(blk_cell BK159.out 3).trans rfl⟩ (fun hHeld => ?_)
   clear hK K
   refine norm_ (a' := ?_) ?_ ?_
   rotate_left
   ·
    show Act.put _ (some 10) _ = _
    simp only [Act.put,List.setIfInBounds_toArray,List.set_cons_zero,List.set_cons_succ,i64_w,i32_w]
    rfl
   refine pure_ (i := 5) (N := some 5) (v := ?_) (a' := ?_) #[true,true,true,true,true,true] rfl rfl (by kernel_rfl) (fun _ _ _ h => h) (Or.inl ⟨by rfl,?_⟩) ?_ ?_
   rotate_left
   ·
    intro w'
    go_simp
    with_reducible rfl
   rotate_left
   ·
    simp only [Act.put,List.setIfInBounds_toArray,List.set_cons_zero,List.set_cons_succ,i64_w,i32_w]
    rfl
   refine done_ (by kernel_rfl) ?_
   have hnb14 := NB158_159.out
   have hnc14 := NB159_158.out
   have hcz15_0 : w13.cell? ⟨gb158,0,none⟩ = some (.int .i64 a0_0) := (blk_cell BK158.out 0).trans rfl
   have hcz15_1 : w13.cell? ⟨gb158,1,none⟩ = some (.int .i64 a0_1) := (blk_cell BK158.out 1).trans rfl
   have hcz15_2 : w13.cell? ⟨gb158,2,none⟩ = some (.float .f64 a0_2) := (blk_cell BK158.out 2).trans rfl
   have hcz15_3 : w13.cell? ⟨gb158,3,none⟩ = some (.string a0_3) := (blk_cell BK158.out 3).trans rfl
   have hfz15_0 := blk_frozen BK158.out 0
   have hfz15_1 := blk_frozen BK158.out 1
   have hfz15_2 := blk_frozen BK158.out 2
   have hfz15_3 := blk_frozen BK158.out 3
   try go_wp2_with (first | ((with_reducible refine gate_callee (f := 31) rfl ?_); refine goesL_ (some 16) rfl rfl Try.func31 (by kernel_rfl) rfl #[.agg #[.int .i64 a0_0,.int .i64 a0_1,.float .f64 a0_2,.string a0_3]] rfl (by (try simp only [List.map_toArray,List.map_cons,List.map_nil]); first | done | rfl | (simp only [List.length_drop,List.length_take]; rfl)) ?_; (with_reducible refine (value_class.calls k a0_0 a0_1 a0_2 a0_3 t163 _ A7.out).mono ?_); rintro e w16 ⟨rfl,hb⟩; refine ⟨_,rfl,?_⟩; have n0_ := Aside0.mk (blk_below (g := gb158) (o := .cells #[.int .i64 a0_0,.int .i64 a0_1,.float .f64 a0_2,.string a0_3] 28 (0,0)) (by (with_reducible repeat (first | refine blk_drewN ?_ _ | refine blk_drew ?_ | refine blk_alloc ?_ _)); exact BK158.out) hb); have n1_ := Aside0.mk (blk_below (g := gb159) (o := .cells #[.int .i64 a1_0,.int .i64 a1_1,.float .f64 a1_2,.string a1_3] 28 (0,0)) (by (with_reducible repeat (first | refine blk_drewN ?_ _ | refine blk_drew ?_ | refine blk_alloc ?_ _)); exact BK159.out) hb); have n2_ := Aside0.mk (below_step (by repeat (first | (with_reducible first | exact HB.out | apply below_alloc | apply pw_below_drewN | apply below_drew1 | refine below_set ?_ GE158.out | refine below_set ?_ GE159.out) | exact HB.out)) hb); clear BK158; clear BK159; clear HB; have BK158 := n0_; have BK159 := n1_; have HB := n2_; clear n0_ n1_ n2_; (try clear hb); (try clear hb2); (try clear hk); (try clear hi)))
   go_ret
   exact ⟨by first | rfl | (simp [errW_none,errW_some] <;> rfl) | (simp [*,errW_none,errW_some] <;> rfl),by repeat (first | (with_reducible first | exact HB.out | apply below_alloc | apply pw_below_drewN | apply below_drew1 | refine below_set ?_ GE158.out | refine below_set ?_ GE159.out) | exact HB.out)⟩
  ·
   rw [if_neg c8] at H
   have c8b0 : decide (t163 < 2) = false := decide_eq_false c8
   clear c8
   by_cases c17 : a0_0 = 2
   ·
    rw [if_pos c17] at H
    have c17b0 : (a0_0 == 2) = true := beq_iff_eq.mpr c17
    have c17b1 : (a0_0 != 2) = false := bne_eq_false_iff_eq.mpr c17
    clear c17
    replace H := Option.bind_eq_some_iff.mp H
    obtain ⟨t164,A180,H⟩ := H
    replace H : (some t164) = some r := H
    have A18 := Aside0.mk A180
    clear A180
    obtain rfl := Option.some.inj H
    go_enter Try.func21,Try.ntmps21
    try go_wp2_with (first | ((with_reducible refine gate_dst (N := 2) rfl ?_); refine box_event ?hg (N := 2) ?hd (cs := #[.int .i64 a0_0,.int .i64 a0_1,.float .f64 a0_2,.string a0_3]) (t := 28) ?hr ?_; (case hd => rfl); (case hg => rfl); (case hr => first | (go_simp; done) | (go_simp; rfl)); intro gb158 hg w19 hbox hb; have n0_ := Aside0.mk (below_step (by repeat (first | (with_reducible first | exact HB.out | apply below_alloc | apply pw_below_drewN | apply below_drew1) | exact HB.out)) hb); have n1_ := Aside0.mk (hbox); have n2_ := Aside0.mk ((by rw [hg]; exact (below_size (by repeat (first | (with_reducible first | exact HB.out | apply below_alloc | apply pw_below_drewN | apply below_drew1) | exact HB.out))) : w.heap.size ≤ gb158)); have n3_ := Aside0.mk ((by rw [hg]; exact (below_size (by repeat (first | (with_reducible first | exact HB.out | apply below_alloc | apply pw_below_drewN | apply below_drew1) | exact HB.out))) : w.heap.size ≤ gb158)); clear HB; have HB := n0_; have BK158 := n1_; have GW158 := n2_; have GE158 := n3_; clear n0_ n1_ n2_ n3_; clear hb hbox hg) | ((with_reducible refine gate_dst (N := 3) rfl ?_); refine box_event ?hg (N := 3) ?hd (cs := #[.int .i64 a1_0,.int .i64 a1_1,.float .f64 a1_2,.string a1_3]) (t := 28) ?hr ?_; (case hd => rfl); (case hg => rfl); (case hr => first | (go_simp; done) | (go_simp; rfl)); intro gb159 hg w20 hbox hb; have n0_ := Aside0.mk (blk_below (g := gb158) (o := .cells #[.int .i64 a0_0,.int .i64 a0_1,.float .f64 a0_2,.string a0_3] 28 (0,0)) (by (with_reducible repeat (first | refine blk_drewN ?_ _ | refine blk_drew ?_ | refine blk_alloc ?_ _)); exact BK158.out) hb); have n1_ := Aside0.mk (below_step (by repeat (first | (with_reducible first | exact HB.out | apply below_alloc | apply pw_below_drewN | apply below_drew1 | refine below_set ?_ GE158.out) | exact HB.out)) hb); have n2_ := Aside0.mk (hbox); have n3_ := Aside0.mk ((by rw [hg]; exact (below_size (by repeat (first | (with_reducible first | exact HB.out | apply below_alloc | apply pw_below_drewN | apply below_drew1 | refine below_set ?_ GE158.out) | exact HB.out))) : w.heap.size ≤ gb159)); have n4_ := Aside0.mk ((by rw [hg]; exact (below_size (by repeat (first | (with_reducible first | exact HB.out | apply below_alloc | apply pw_below_drewN | apply below_drew1 | refine below_set ?_ GE158.out) | exact HB.out))) : w.heap.size ≤ gb159)); have n5_ := Aside0.mk ((by rw [hg]; exact Nat.ne_of_lt (blk_lt (g := gb158) (o := .cells #[.int .i64 a0_0,.int .i64 a0_1,.float .f64 a0_2,.string a0_3] 28 (0,0)) (by (with_reducible repeat (first | refine blk_drewN ?_ _ | refine blk_drew ?_ | refine blk_alloc ?_ _)); exact BK158.out)) : gb158 ≠ gb159)); have n6_ := Aside0.mk ((by rw [hg]; exact Nat.ne_of_gt (blk_lt (g := gb158) (o := .cells #[.int .i64 a0_0,.int .i64 a0_1,.float .f64 a0_2,.string a0_3] 28 (0,0)) (by (with_reducible repeat (first | refine blk_drewN ?_ _ | refine blk_drew ?_ | refine blk_alloc ?_ _)); exact BK158.out)) : gb159 ≠ gb158)); clear BK158; clear HB; have BK158 := n0_; have HB := n1_; have BK159 := n2_; have GW159 := n3_; have GE159 := n4_; have NB158_159 := n5_; have NB159_158 := n6_; clear n0_ n1_ n2_ n3_ n4_ n5_ n6_; clear hb hbox hg))
    have n0_ := Aside0.mk (blk_drew BK158.out)
    have n1_ := Aside0.mk (blk_drew BK159.out)
    have n2_ := Aside0.mk (below_drew1 HB.out)
    clear BK158
    clear BK159
    clear HB
    have BK158 := n0_
    have BK159 := n1_
    have HB := n2_
    clear n0_ n1_ n2_
    refine start_ (n := 6) (S := fun w' => w'.cell? ⟨gb158,0,none⟩ = some (.int .i64 a0_0) ∧ w'.cell? ⟨gb158,1,none⟩ = some (.int .i64 a0_1) ∧ w'.cell? ⟨gb158,2,none⟩ = some (.float .f64 a0_2) ∧ w'.cell? ⟨gb158,3,none⟩ = some (.string a0_3) ∧ w'.cell? ⟨gb159,0,none⟩ = some (.int .i64 a1_0) ∧ w'.cell? ⟨gb159,1,none⟩ = some (.int .i64 a1_1) ∧ w'.cell? ⟨gb159,2,none⟩ = some (.float .f64 a1_2) ∧ w'.cell? ⟨gb159,3,none⟩ = some (.string a1_3)) (ds := []) #[false,false,false,false,false,false] (by kernel_rfl) rfl rfl ⟨(blk_cell BK158.out 0).trans rfl,(blk_cell BK158.out 1).trans rfl,(blk_cell BK158.out 2).trans rfl,(blk_cell BK158.out 3).trans rfl,(blk_cell BK159.out 0).trans rfl,(blk_cell BK159.out 1).trans rfl,(blk_cell BK159.out 2).trans rfl,(blk_cell BK159.out 3).trans rfl⟩ (fun hHeld => ?_)
    generalize w20.drew = w21 at BK158 BK159 HB hHeld ⊢
    refine take_ (i := 0) (N := some 6) (v := ?_) (a' := ?_) #[true,false,false,false,false,false] rfl rfl (by kernel_rfl) (fun _ _ _ h => h) (Or.inl ⟨by rfl,?_⟩) hHeld ?_ ?_
    rotate_left
    ·
     rintro w' ⟨s0,s1,s2,s3,s4,s5,s6,s7⟩
     go_simp
     with_reducible rfl
    rotate_left
    ·
     simp only [Act.put,List.setIfInBounds_toArray,List.set_cons_zero,List.set_cons_succ,i64_w,i32_w]
     rfl
    refine take_ (i := 2) (N := some 8) (v := ?_) (a' := ?_) #[true,false,true,false,false,false] rfl rfl (by kernel_rfl) (fun _ _ _ h => h) (Or.inl ⟨by rfl,?_⟩) hHeld ?_ ?_
    rotate_left
    ·
     rintro w' ⟨s0,s1,s2,s3,s4,s5,s6,s7⟩
     go_simp
     with_reducible rfl
    rotate_left
    ·
     simp only [Act.put,List.setIfInBounds_toArray,List.set_cons_zero,List.set_cons_succ,i64_w,i32_w]
     rfl
    refine one_ (i := 1) (N := some 7) #[true,true,true,false,false,false] rfl rfl (by kernel_rfl) (by decide) (fun K hK => ?_)
    refine goes_ Try.func31 (by kernel_rfl) rfl #[.agg #[.int .i64 a0_0,.int .i64 a0_1,.float .f64 a0_2,.string a0_3]] (by rfl) rfl rfl (by (try simp only [List.map_toArray,List.map_cons,List.map_nil]); first | done | rfl | (simp only [List.length_drop,List.length_take]; rfl)) ?_
    with_reducible refine (value_class.calls k a0_0 a0_1 a0_2 a0_3 t160 _ A3.out).mono ?_
    rintro e w22 ⟨rfl,hb⟩
    refine ⟨_,rfl,?_⟩
    have n0_ := Aside0.mk (blk_below (g := gb158) (o := .cells #[.int .i64 a0_0,.int .i64 a0_1,.float .f64 a0_2,.string a0_3] 28 (0,0)) (by (with_reducible repeat (first | refine blk_drewN ?_ _ | refine blk_drew ?_ | refine blk_alloc ?_ _)); exact BK158.out) hb)
    have n1_ := Aside0.mk (blk_below (g := gb159) (o := .cells #[.int .i64 a1_0,.int .i64 a1_1,.float .f64 a1_2,.string a1_3] 28 (0,0)) (by (with_reducible repeat (first | refine blk_drewN ?_ _ | refine blk_drew ?_ | refine blk_alloc ?_ _)); exact BK159.out) hb)
    have n2_ := Aside0.mk (below_step (by repeat (first | (with_reducible first | exact HB.out | apply below_alloc | apply pw_below_drewN | apply below_drew1 | refine below_set ?_ GE158.out | refine below_set ?_ GE159.out) | exact HB.out)) hb)
    clear BK158
    clear BK159
    clear HB
    have BK158 := n0_
    have BK159 := n1_
    have HB := n2_
    clear n0_ n1_ n2_
    (try clear hb)
    (try clear hb2)
    (try clear hk)
    (try clear hi)
    refine hK.out _ _ ⟨(blk_cell BK158.out 0).trans rfl,(blk_cell BK158.out 1).trans rfl,(blk_cell BK158.out 2).trans rfl,(blk_cell BK158.out 3).trans rfl,(blk_cell BK159.out 0).trans rfl,(blk_cell BK159.out 1).trans rfl,(blk_cell BK159.out 2).trans rfl,(blk_cell BK159.out 3).trans rfl⟩ (fun hHeld => ?_)
    clear hK K
    refine norm_ (a' := ?_) ?_ ?_
    rotate_left
    ·
     show Act.put _ (some 7) _ = _
     simp only [Act.put,List.setIfInBounds_toArray,List.set_cons_zero,List.set_cons_succ,i64_w,i32_w]
     rfl
    refine one_ (i := 3) (N := some 9) #[true,true,true,true,false,false] rfl rfl (by kernel_rfl) (by decide) (fun K hK => ?_)
    refine goes_ Try.func31 (by kernel_rfl) rfl #[.agg #[.int .i64 a1_0,.int .i64 a1_1,.float .f64 a1_2,.string a1_3]] (by rfl) rfl rfl (by (try simp only [List.map_toArray,List.map_cons,List.map_nil]); first | done | rfl | (simp only [List.length_drop,List.length_take]; rfl)) ?_
    with_reducible refine (value_class.calls k a1_0 a1_1 a1_2 a1_3 t161 _ A4.out).mono ?_
    rintro e w23 ⟨rfl,hb⟩
    refine ⟨_,rfl,?_⟩
    have n0_ := Aside0.mk (blk_below (g := gb158) (o := .cells #[.int .i64 a0_0,.int .i64 a0_1,.float .f64 a0_2,.string a0_3] 28 (0,0)) (by (with_reducible repeat (first | refine blk_drewN ?_ _ | refine blk_drew ?_ | refine blk_alloc ?_ _)); exact BK158.out) hb)
    have n1_ := Aside0.mk (blk_below (g := gb159) (o := .cells #[.int .i64 a1_0,.int .i64 a1_1,.float .f64 a1_2,.string a1_3] 28 (0,0)) (by (with_reducible repeat (first | refine blk_drewN ?_ _ | refine blk_drew ?_ | refine blk_alloc ?_ _)); exact BK159.out) hb)
    have n2_ := Aside0.mk (below_step (by repeat (first | (with_reducible first | exact HB.out | apply below_alloc | apply pw_below_drewN | apply below_drew1 | refine below_set ?_ GE158.out | refine below_set ?_ GE159.out) | exact HB.out)) hb)
    clear BK158
    clear BK159
    clear HB
    have BK158 := n0_
    have BK159 := n1_
    have HB := n2_
    clear n0_ n1_ n2_
    (try clear hb)
    (try clear hb2)
    (try clear hk)
    (try clear hi)
    refine hK.out _ _ ⟨(blk_cell BK158.out 0).trans rfl,(blk_cell BK158.out 1).trans rfl,(blk_cell BK158.out 2).trans rfl,(blk_cell BK158.out 3).trans rfl,(blk_cell BK159.out 0).trans rfl,(blk_cell BK159.out 1).trans rfl,(blk_cell BK159.out 2).trans rfl,(blk_cell BK159.out 3).trans rfl⟩ (fun hHeld => ?_)
    clear hK K
    refine norm_ (a' := ?_) ?_ ?_
    rotate_left
    ·
     show Act.put _ (some 9) _ = _
     simp only [Act.put,List.setIfInBounds_toArray,List.set_cons_zero,List.set_cons_succ,i64_w,i32_w]
     rfl
    refine one_ (i := 4) (N := some 10) #[true,true,true,true,true,false] rfl rfl (by kernel_rfl) (by decide) (fun K hK => ?_)
    refine goes_ Try.func30 (by kernel_rfl) rfl #[.int .i64 t160,.int .i64 t161] (by rfl) rfl rfl (by (try simp only [List.map_toArray,List.map_cons,List.map_nil]); first | done | rfl | (simp only [List.length_drop,List.length_take]; rfl)) ?_
    with_reducible refine (cmp_Compare_int.calls t160 t161 t162 _ A5.out).mono ?_
    rintro e w' ⟨rfl,⟨nd,rfl⟩⟩
    refine ⟨_,rfl,?_⟩
    refine hK.out _ _ ⟨(blk_cell BK158.out 0).trans rfl,(blk_cell BK158.out 1).trans rfl,(blk_cell BK158.out 2).trans rfl,(blk_cell BK158.out 3).trans rfl,(blk_cell BK159.out 0).trans rfl,(blk_cell BK159.out 1).trans rfl,(blk_cell BK159.out 2).trans rfl,(blk_cell BK159.out 3).trans rfl⟩ (fun hHeld => ?_)
    clear hK K
    refine norm_ (a' := ?_) ?_ ?_
    rotate_left
    ·
     show Act.put _ (some 10) _ = _
     simp only [Act.put,List.setIfInBounds_toArray,List.set_cons_zero,List.set_cons_succ,i64_w,i32_w]
     rfl
    refine pure_ (i := 5) (N := some 5) (v := ?_) (a' := ?_) #[true,true,true,true,true,true] rfl rfl (by kernel_rfl) (fun _ _ _ h => h) (Or.inl ⟨by rfl,?_⟩) ?_ ?_
    rotate_left
    ·
     intro w'
     go_simp
     with_reducible rfl
    rotate_left
    ·
     simp only [Act.put,List.setIfInBounds_toArray,List.set_cons_zero,List.set_cons_succ,i64_w,i32_w]
     rfl
    refine done_ (by kernel_rfl) ?_
    have hnb24 := NB158_159.out
    have hnc24 := NB159_158.out
    have hcz25_0 : w23.cell? ⟨gb158,0,none⟩ = some (.int .i64 a0_0) := (blk_cell BK158.out 0).trans rfl
    have hcz25_1 : w23.cell? ⟨gb158,1,none⟩ = some (.int .i64 a0_1) := (blk_cell BK158.out 1).trans rfl
    have hcz25_2 : w23.cell? ⟨gb158,2,none⟩ = some (.float .f64 a0_2) := (blk_cell BK158.out 2).trans rfl
    have hcz25_3 : w23.cell? ⟨gb158,3,none⟩ = some (.string a0_3) := (blk_cell BK158.out 3).trans rfl
    have hfz25_0 := blk_frozen BK158.out 0
    have hfz25_1 := blk_frozen BK158.out 1
    have hfz25_2 := blk_frozen BK158.out 2
    have hfz25_3 := blk_frozen BK158.out 3
    try go_wp2_with (first | ((with_reducible refine gate_callee (f := 31) rfl ?_); refine goesL_ (some 16) rfl rfl Try.func31 (by kernel_rfl) rfl #[.agg #[.int .i64 a0_0,.int .i64 a0_1,.float .f64 a0_2,.string a0_3]] rfl (by (try simp only [List.map_toArray,List.map_cons,List.map_nil]); first | done | rfl | (simp only [List.length_drop,List.length_take]; rfl)) ?_; (with_reducible refine (value_class.calls k a0_0 a0_1 a0_2 a0_3 t163 _ A7.out).mono ?_); rintro e w26 ⟨rfl,hb⟩; refine ⟨_,rfl,?_⟩; have n0_ := Aside0.mk (blk_below (g := gb158) (o := .cells #[.int .i64 a0_0,.int .i64 a0_1,.float .f64 a0_2,.string a0_3] 28 (0,0)) (by (with_reducible repeat (first | refine blk_drewN ?_ _ | refine blk_drew ?_ | refine blk_alloc ?_ _)); exact BK158.out) hb); have n1_ := Aside0.mk (blk_below (g := gb159) (o := .cells #[.int .i64 a1_0,.int .i64 a1_1,.float .f64 a1_2,.string a1_3] 28 (0,0)) (by (with_reducible repeat (first | refine blk_drewN ?_ _ | refine blk_drew ?_ | refine blk_alloc ?_ _)); exact BK159.out) hb); have n2_ := Aside0.mk (below_step (by repeat (first | (with_reducible first | exact HB.out | apply below_alloc | apply pw_below_drewN | apply below_drew1 | refine below_set ?_ GE158.out | refine below_set ?_ GE159.out) | exact HB.out)) hb); clear BK158; clear BK159; clear HB; have BK158 := n0_; have BK159 := n1_; have HB := n2_; clear n0_ n1_ n2_; (try clear hb); (try clear hb2); (try clear hk); (try clear hi); have hcz27_0 : w26.cell? ⟨gb158,0,none⟩ = some (.int .i64 a0_0) := (blk_cell BK158.out 0).trans rfl; have hcz27_1 : w26.cell? ⟨gb158,1,none⟩ = some (.int .i64 a0_1) := (blk_cell BK158.out 1).trans rfl; have hcz27_2 : w26.cell? ⟨gb158,2,none⟩ = some (.float .f64 a0_2) := (blk_cell BK158.out 2).trans rfl; have hcz27_3 : w26.cell? ⟨gb158,3,none⟩ = some (.string a0_3) := (blk_cell BK158.out 3).trans rfl; have hfz27_0 := blk_frozen BK158.out 0; have hfz27_1 := blk_frozen BK158.out 1; have hfz27_2 := blk_frozen BK158.out 2; have hfz27_3 := blk_frozen BK158.out 3; have hcz28_0 : w26.cell? ⟨gb159,0,none⟩ = some (.int .i64 a1_0) := (blk_cell BK159.out 0).trans rfl; have hcz28_1 : w26.cell? ⟨gb159,1,none⟩ = some (.int .i64 a1_1) := (blk_cell BK159.out 1).trans rfl; have hcz28_2 : w26.cell? ⟨gb159,2,none⟩ = some (.float .f64 a1_2) := (blk_cell BK159.out 2).trans rfl; have hcz28_3 : w26.cell? ⟨gb159,3,none⟩ = some (.string a1_3) := (blk_cell BK159.out 3).trans rfl; have hfz28_0 := blk_frozen BK159.out 0; have hfz28_1 := blk_frozen BK159.out 1; have hfz28_2 := blk_frozen BK159.out 2; have hfz28_3 := blk_frozen BK159.out 3) | ((with_reducible refine gate_callee (f := 32) rfl ?_); refine goesL_ (some 26) rfl rfl Try.func32 (by kernel_rfl) rfl #[.string a0_3,.string a1_3] rfl (by (try simp only [List.map_toArray,List.map_cons,List.map_nil]); first | done | rfl | (simp only [List.length_drop,List.length_take]; rfl)) ?_; (with_reducible refine (strings_Compare.calls a0_3 a1_3 t164 _ A18.out).mono ?_); rintro e w' ⟨rfl,⟨nd,rfl⟩⟩; refine ⟨_,rfl,?_⟩))
    go_ret
    exact ⟨by first | rfl | (simp [errW_none,errW_some] <;> rfl) | (simp [*,errW_none,errW_some] <;> rfl),by repeat (first | (with_reducible first | exact HB.out | apply below_alloc | apply pw_below_drewN | apply below_drew1 | refine below_set ?_ GE158.out | refine below_set ?_ GE159.out) | exact HB.out)⟩
   ·
    rw [if_neg c17] at H
    have c17b0 : (a0_0 == 2) = false := beq_eq_false_iff_ne.mpr c17
    have c17b1 : (a0_0 != 2) = true := bne_iff_ne.mpr c17
    have HC29 := Aside0.mk H
    clear H
    go_enter Try.func21,Try.ntmps21
    try go_wp2_with (first | ((with_reducible refine gate_dst (N := 2) rfl ?_); refine box_event ?hg (N := 2) ?hd (cs := #[.int .i64 a0_0,.int .i64 a0_1,.float .f64 a0_2,.string a0_3]) (t := 28) ?hr ?_; (case hd => rfl); (case hg => rfl); (case hr => first | (go_simp; done) | (go_simp; rfl)); intro gb158 hg w30 hbox hb; have n0_ := Aside0.mk (below_step (by repeat (first | (with_reducible first | exact HB.out | apply below_alloc | apply pw_below_drewN | apply below_drew1) | exact HB.out)) hb); have n1_ := Aside0.mk (hbox); have n2_ := Aside0.mk ((by rw [hg]; exact (below_size (by repeat (first | (with_reducible first | exact HB.out | apply below_alloc | apply pw_below_drewN | apply below_drew1) | exact HB.out))) : w.heap.size ≤ gb158)); have n3_ := Aside0.mk ((by rw [hg]; exact (below_size (by repeat (first | (with_reducible first | exact HB.out | apply below_alloc | apply pw_below_drewN | apply below_drew1) | exact HB.out))) : w.heap.size ≤ gb158)); clear HB; have HB := n0_; have BK158 := n1_; have GW158 := n2_; have GE158 := n3_; clear n0_ n1_ n2_ n3_; clear hb hbox hg) | ((with_reducible refine gate_dst (N := 3) rfl ?_); refine box_event ?hg (N := 3) ?hd (cs := #[.int .i64 a1_0,.int .i64 a1_1,.float .f64 a1_2,.string a1_3]) (t := 28) ?hr ?_; (case hd => rfl); (case hg => rfl); (case hr => first | (go_simp; done) | (go_simp; rfl)); intro gb159 hg w31 hbox hb; have n0_ := Aside0.mk (blk_below (g := gb158) (o := .cells #[.int .i64 a0_0,.int .i64 a0_1,.float .f64 a0_2,.string a0_3] 28 (0,0)) (by (with_reducible repeat (first | refine blk_drewN ?_ _ | refine blk_drew ?_ | refine blk_alloc ?_ _)); exact BK158.out) hb); have n1_ := Aside0.mk (below_step (by repeat (first | (with_reducible first | exact HB.out | apply below_alloc | apply pw_below_drewN | apply below_drew1 | refine below_set ?_ GE158.out) | exact HB.out)) hb); have n2_ := Aside0.mk (hbox); have n3_ := Aside0.mk ((by rw [hg]; exact (below_size (by repeat (first | (with_reducible first | exact HB.out | apply below_alloc | apply pw_below_drewN | apply below_drew1 | refine below_set ?_ GE158.out) | exact HB.out))) : w.heap.size ≤ gb159)); have n4_ := Aside0.mk ((by rw [hg]; exact (below_size (by repeat (first | (with_reducible first | exact HB.out | apply below_alloc | apply pw_below_drewN | apply below_drew1 | refine below_set ?_ GE158.out) | exact HB.out))) : w.heap.size ≤ gb159)); have n5_ := Aside0.mk ((by rw [hg]; exact Nat.ne_of_lt (blk_lt (g := gb158) (o := .cells #[.int .i64 a0_0,.int .i64 a0_1,.float .f64 a0_2,.string a0_3] 28 (0,0)) (by (with_reducible repeat (first | refine blk_drewN ?_ _ | refine blk_drew ?_ | refine blk_alloc ?_ _)); exact BK158.out)) : gb158 ≠ gb159)); have n6_ := Aside0.mk ((by rw [hg]; exact Nat.ne_of_gt (blk_lt (g := gb158) (o := .cells #[.int .i64 a0_0,.int .i64 a0_1,.float .f64 a0_2,.string a0_3] 28 (0,0)) (by (with_reducible repeat (first | refine blk_drewN ?_ _ | refine blk_drew ?_ | refine blk_alloc ?_ _)); exact BK158.out)) : gb159 ≠ gb158)); clear BK158; clear HB; have BK158 := n0_; have HB := n1_; have BK159 := n2_; have GW159 := n3_; have GE159 := n4_; have NB158_159 := n5_; have NB159_158 := n6_; clear n0_ n1_ n2_ n3_ n4_ n5_ n6_; clear hb hbox hg))
    have n0_ := Aside0.mk (blk_drew BK158.out)
    have n1_ := Aside0.mk (blk_drew BK159.out)
    have n2_ := Aside0.mk (below_drew1 HB.out)
    clear BK158
    clear BK159
    clear HB
    have BK158 := n0_
    have BK159 := n1_
    have HB := n2_
    clear n0_ n1_ n2_
    refine start_ (n := 6) (S := fun w' => w'.cell? ⟨gb158,0,none⟩ = some (.int .i64 a0_0) ∧ w'.cell? ⟨gb158,1,none⟩ = some (.int .i64 a0_1) ∧ w'.cell? ⟨gb158,2,none⟩ = some (.float .f64 a0_2) ∧ w'.cell? ⟨gb158,3,none⟩ = some (.string a0_3) ∧ w'.cell? ⟨gb159,0,none⟩ = some (.int .i64 a1_0) ∧ w'.cell? ⟨gb159,1,none⟩ = some (.int .i64 a1_1) ∧ w'.cell? ⟨gb159,2,none⟩ = some (.float .f64 a1_2) ∧ w'.cell? ⟨gb159,3,none⟩ = some (.string a1_3)) (ds := []) #[false,false,false,false,false,false] (by kernel_rfl) rfl rfl ⟨(blk_cell BK158.out 0).trans rfl,(blk_cell BK158.out 1).trans rfl,(blk_cell BK158.out 2).trans rfl,(blk_cell BK158.out 3).trans rfl,(blk_cell BK159.out 0).trans rfl,(blk_cell BK159.out 1).trans rfl,(blk_cell BK159.out 2).trans rfl,(blk_cell BK159.out 3).trans rfl⟩ (fun hHeld => ?_)
    generalize w31.drew = w32 at BK158 BK159 HB hHeld ⊢
    refine take_ (i := 0) (N := some 6) (v := ?_) (a' := ?_) #[true,false,false,false,false,false] rfl rfl (by kernel_rfl) (fun _ _ _ h => h) (Or.inl ⟨by rfl,?_⟩) hHeld ?_ ?_
    rotate_left
    ·
     rintro w' ⟨s0,s1,s2,s3,s4,s5,s6,s7⟩
     go_simp
     with_reducible rfl
    rotate_left
    ·
     simp only [Act.put,List.setIfInBounds_toArray,List.set_cons_zero,List.set_cons_succ,i64_w,i32_w]
     rfl
    refine take_ (i := 2) (N := some 8) (v := ?_) (a' := ?_) #[true,false,true,false,false,false] rfl rfl (by kernel_rfl) (fun _ _ _ h => h) (Or.inl ⟨by rfl,?_⟩) hHeld ?_ ?_
    rotate_left
    ·
     rintro w' ⟨s0,s1,s2,s3,s4,s5,s6,s7⟩
     go_simp
     with_reducible rfl
    rotate_left
    ·
     simp only [Act.put,List.setIfInBounds_toArray,List.set_cons_zero,List.set_cons_succ,i64_w,i32_w]
     rfl
    refine one_ (i := 1) (N := some 7) #[true,true,true,false,false,false] rfl rfl (by kernel_rfl) (by decide) (fun K hK => ?_)
    refine goes_ Try.func31 (by kernel_rfl) rfl #[.agg #[.int .i64 a0_0,.int .i64 a0_1,.float .f64 a0_2,.string a0_3]] (by rfl) rfl rfl (by (try simp only [List.map_toArray,List.map_cons,List.map_nil]); first | done | rfl | (simp only [List.length_drop,List.length_take]; rfl)) ?_
    with_reducible refine (value_class.calls k a0_0 a0_1 a0_2 a0_3 t160 _ A3.out).mono ?_
    rintro e w33 ⟨rfl,hb⟩
    refine ⟨_,rfl,?_⟩
    have n0_ := Aside0.mk (blk_below (g := gb158) (o := .cells #[.int .i64 a0_0,.int .i64 a0_1,.float .f64 a0_2,.string a0_3] 28 (0,0)) (by (with_reducible repeat (first | refine blk_drewN ?_ _ | refine blk_drew ?_ | refine blk_alloc ?_ _)); exact BK158.out) hb)
    have n1_ := Aside0.mk (blk_below (g := gb159) (o := .cells #[.int .i64 a1_0,.int .i64 a1_1,.float .f64 a1_2,.string a1_3] 28 (0,0)) (by (with_reducible repeat (first | refine blk_drewN ?_ _ | refine blk_drew ?_ | refine blk_alloc ?_ _)); exact BK159.out) hb)
    have n2_ := Aside0.mk (below_step (by repeat (first | (with_reducible first | exact HB.out | apply below_alloc | apply pw_below_drewN | apply below_drew1 | refine below_set ?_ GE158.out | refine below_set ?_ GE159.out) | exact HB.out)) hb)
    clear BK158
    clear BK159
    clear HB
    have BK158 := n0_
    have BK159 := n1_
    have HB := n2_
    clear n0_ n1_ n2_
    (try clear hb)
    (try clear hb2)
    (try clear hk)
    (try clear hi)
    refine hK.out _ _ ⟨(blk_cell BK158.out 0).trans rfl,(blk_cell BK158.out 1).trans rfl,(blk_cell BK158.out 2).trans rfl,(blk_cell BK158.out 3).trans rfl,(blk_cell BK159.out 0).trans rfl,(blk_cell BK159.out 1).trans rfl,(blk_cell BK159.out 2).trans rfl,(blk_cell BK159.out 3).trans rfl⟩ (fun hHeld => ?_)
    clear hK K
    refine norm_ (a' := ?_) ?_ ?_
    rotate_left
    ·
     show Act.put _ (some 7) _ = _
     simp only [Act.put,List.setIfInBounds_toArray,List.set_cons_zero,List.set_cons_succ,i64_w,i32_w]
     rfl
    refine one_ (i := 3) (N := some 9) #[true,true,true,true,false,false] rfl rfl (by kernel_rfl) (by decide) (fun K hK => ?_)
    refine goes_ Try.func31 (by kernel_rfl) rfl #[.agg #[.int .i64 a1_0,.int .i64 a1_1,.float .f64 a1_2,.string a1_3]] (by rfl) rfl rfl (by (try simp only [List.map_toArray,List.map_cons,List.map_nil]); first | done | rfl | (simp only [List.length_drop,List.length_take]; rfl)) ?_
    with_reducible refine (value_class.calls k a1_0 a1_1 a1_2 a1_3 t161 _ A4.out).mono ?_
    rintro e w34 ⟨rfl,hb⟩
    refine ⟨_,rfl,?_⟩
    have n0_ := Aside0.mk (blk_below (g := gb158) (o := .cells #[.int .i64 a0_0,.int .i64 a0_1,.float .f64 a0_2,.string a0_3] 28 (0,0)) (by (with_reducible repeat (first | refine blk_drewN ?_ _ | refine blk_drew ?_ | refine blk_alloc ?_ _)); exact BK158.out) hb)
    have n1_ := Aside0.mk (blk_below (g := gb159) (o := .cells #[.int .i64 a1_0,.int .i64 a1_1,.float .f64 a1_2,.string a1_3] 28 (0,0)) (by (with_reducible repeat (first | refine blk_drewN ?_ _ | refine blk_drew ?_ | refine blk_alloc ?_ _)); exact BK159.out) hb)
    have n2_ := Aside0.mk (below_step (by repeat (first | (with_reducible first | exact HB.out | apply below_alloc | apply pw_below_drewN | apply below_drew1 | refine below_set ?_ GE158.out | refine below_set ?_ GE159.out) | exact HB.out)) hb)
    clear BK158
    clear BK159
    clear HB
    have BK158 := n0_
    have BK159 := n1_
    have HB := n2_
    clear n0_ n1_ n2_
    (try clear hb)
    (try clear hb2)
    (try clear hk)
    (try clear hi)
    refine hK.out _ _ ⟨(blk_cell BK158.out 0).trans rfl,(blk_cell BK158.out 1).trans rfl,(blk_cell BK158.out 2).trans rfl,(blk_cell BK158.out 3).trans rfl,(blk_cell BK159.out 0).trans rfl,(blk_cell BK159.out 1).trans rfl,(blk_cell BK159.out 2).trans rfl,(blk_cell BK159.out 3).trans rfl⟩ (fun hHeld => ?_)
    clear hK K
    refine norm_ (a' := ?_) ?_ ?_
    rotate_left
    ·
     show Act.put _ (some 9) _ = _
     simp only [Act.put,List.setIfInBounds_toArray,List.set_cons_zero,List.set_cons_succ,i64_w,i32_w]
     rfl
    refine one_ (i := 4) (N := some 10) #[true,true,true,true,true,false] rfl rfl (by kernel_rfl) (by decide) (fun K hK => ?_)
    refine goes_ Try.func30 (by kernel_rfl) rfl #[.int .i64 t160,.int .i64 t161] (by rfl) rfl rfl (by (try simp only [List.map_toArray,List.map_cons,List.map_nil]); first | done | rfl | (simp only [List.length_drop,List.length_take]; rfl)) ?_
    with_reducible refine (cmp_Compare_int.calls t160 t161 t162 _ A5.out).mono ?_
    rintro e w' ⟨rfl,⟨nd,rfl⟩⟩
    refine ⟨_,rfl,?_⟩
    refine hK.out _ _ ⟨(blk_cell BK158.out 0).trans rfl,(blk_cell BK158.out 1).trans rfl,(blk_cell BK158.out 2).trans rfl,(blk_cell BK158.out 3).trans rfl,(blk_cell BK159.out 0).trans rfl,(blk_cell BK159.out 1).trans rfl,(blk_cell BK159.out 2).trans rfl,(blk_cell BK159.out 3).trans rfl⟩ (fun hHeld => ?_)
    clear hK K
    refine norm_ (a' := ?_) ?_ ?_
    rotate_left
    ·
     show Act.put _ (some 10) _ = _
     simp only [Act.put,List.setIfInBounds_toArray,List.set_cons_zero,List.set_cons_succ,i64_w,i32_w]
     rfl
    refine pure_ (i := 5) (N := some 5) (v := ?_) (a' := ?_) #[true,true,true,true,true,true] rfl rfl (by kernel_rfl) (fun _ _ _ h => h) (Or.inl ⟨by rfl,?_⟩) ?_ ?_
    rotate_left
    ·
     intro w'
     go_simp
     with_reducible rfl
    rotate_left
    ·
     simp only [Act.put,List.setIfInBounds_toArray,List.set_cons_zero,List.set_cons_succ,i64_w,i32_w]
     rfl
    refine done_ (by kernel_rfl) ?_
    have hnb35 := NB158_159.out
    have hnc35 := NB159_158.out
    have hcz36_0 : w34.cell? ⟨gb158,0,none⟩ = some (.int .i64 a0_0) := (blk_cell BK158.out 0).trans rfl
    have hcz36_1 : w34.cell? ⟨gb158,1,none⟩ = some (.int .i64 a0_1) := (blk_cell BK158.out 1).trans rfl
    have hcz36_2 : w34.cell? ⟨gb158,2,none⟩ = some (.float .f64 a0_2) := (blk_cell BK158.out 2).trans rfl
    have hcz36_3 : w34.cell? ⟨gb158,3,none⟩ = some (.string a0_3) := (blk_cell BK158.out 3).trans rfl
    have hfz36_0 := blk_frozen BK158.out 0
    have hfz36_1 := blk_frozen BK158.out 1
    have hfz36_2 := blk_frozen BK158.out 2
    have hfz36_3 := blk_frozen BK158.out 3
    go_upto_region 8 with (first | ((with_reducible refine gate_callee (f := 31) rfl ?_); refine goesL_ (some 16) rfl rfl Try.func31 (by kernel_rfl) rfl #[.agg #[.int .i64 a0_0,.int .i64 a0_1,.float .f64 a0_2,.string a0_3]] rfl (by (try simp only [List.map_toArray,List.map_cons,List.map_nil]); first | done | rfl | (simp only [List.length_drop,List.length_take]; rfl)) ?_; (with_reducible refine (value_class.calls k a0_0 a0_1 a0_2 a0_3 t163 _ A7.out).mono ?_); rintro e w37 ⟨rfl,hb⟩; refine ⟨_,rfl,?_⟩; have n0_ := Aside0.mk (blk_below (g := gb158) (o := .cells #[.int .i64 a0_0,.int .i64 a0_1,.float .f64 a0_2,.string a0_3] 28 (0,0)) (by (with_reducible repeat (first | refine blk_drewN ?_ _ | refine blk_drew ?_ | refine blk_alloc ?_ _)); exact BK158.out) hb); have n1_ := Aside0.mk (blk_below (g := gb159) (o := .cells #[.int .i64 a1_0,.int .i64 a1_1,.float .f64 a1_2,.string a1_3] 28 (0,0)) (by (with_reducible repeat (first | refine blk_drewN ?_ _ | refine blk_drew ?_ | refine blk_alloc ?_ _)); exact BK159.out) hb); have n2_ := Aside0.mk (below_step (by repeat (first | (with_reducible first | exact HB.out | apply below_alloc | apply pw_below_drewN | apply below_drew1 | refine below_set ?_ GE158.out | refine below_set ?_ GE159.out) | exact HB.out)) hb); clear BK158; clear BK159; clear HB; have BK158 := n0_; have BK159 := n1_; have HB := n2_; clear n0_ n1_ n2_; (try clear hb); (try clear hb2); (try clear hk); (try clear hi); have hcz38_0 : w37.cell? ⟨gb158,0,none⟩ = some (.int .i64 a0_0) := (blk_cell BK158.out 0).trans rfl; have hcz38_1 : w37.cell? ⟨gb158,1,none⟩ = some (.int .i64 a0_1) := (blk_cell BK158.out 1).trans rfl; have hcz38_2 : w37.cell? ⟨gb158,2,none⟩ = some (.float .f64 a0_2) := (blk_cell BK158.out 2).trans rfl; have hcz38_3 : w37.cell? ⟨gb158,3,none⟩ = some (.string a0_3) := (blk_cell BK158.out 3).trans rfl; have hfz38_0 := blk_frozen BK158.out 0; have hfz38_1 := blk_frozen BK158.out 1; have hfz38_2 := blk_frozen BK158.out 2; have hfz38_3 := blk_frozen BK158.out 3))
    (try simp only [Act.put,List.setIfInBounds_toArray,List.set_cons_zero,List.set_cons_succ])
    go_cut [27] (fun v27 wc => ∃ (kq : Nat) (x27_28 : Bool),v27 = .bool x27_28 ∧ Aside0 (value_Compare.j0 kq x27_28 a0_0 a0_1 a0_2 a0_3 a1_0 a1_1 a1_2 a1_3 = some r) ∧ Aside0 (kq ≤ k) ∧ Aside0 (wc.heap[gb158]? = some (.cells #[.int .i64 a0_0,.int .i64 a0_1,.float .f64 a0_2,.string a0_3] 28 (0,0))) ∧ Aside0 (wc.heap[gb159]? = some (.cells #[.int .i64 a1_0,.int .i64 a1_1,.float .f64 a1_2,.string a1_3] 28 (0,0))) ∧ Aside0 (Below w.heap.size w wc))
    case first =>
     have H := HC29.out
     clear HC29
     by_cases c39 : a0_0 = 1
     ·
      rw [if_pos c39] at H
      have c39b0 : (a0_0 == 1) = true := beq_iff_eq.mpr c39
      have c39b1 : (a0_0 != 1) = false := bne_eq_false_iff_eq.mpr c39
      clear c39
      (first | rw [c39b0] | (simp only [i64_w,i32_w]; rw [c39b0]) | skip)
      have H' := Aside0.mk H
      clear H
      have hnb40 := NB158_159.out
      have hnc40 := NB159_158.out
      have hcz41_0 : w37.cell? ⟨gb158,0,none⟩ = some (.int .i64 a0_0) := (blk_cell BK158.out 0).trans rfl
      have hcz41_1 : w37.cell? ⟨gb158,1,none⟩ = some (.int .i64 a0_1) := (blk_cell BK158.out 1).trans rfl
      have hcz41_2 : w37.cell? ⟨gb158,2,none⟩ = some (.float .f64 a0_2) := (blk_cell BK158.out 2).trans rfl
      have hcz41_3 : w37.cell? ⟨gb158,3,none⟩ = some (.string a0_3) := (blk_cell BK158.out 3).trans rfl
      have hfz41_0 := blk_frozen BK158.out 0
      have hfz41_1 := blk_frozen BK158.out 1
      have hfz41_2 := blk_frozen BK158.out 2
      have hfz41_3 := blk_frozen BK158.out 3
      have hcz42_0 : w37.cell? ⟨gb159,0,none⟩ = some (.int .i64 a1_0) := (blk_cell BK159.out 0).trans rfl
      have hcz42_1 : w37.cell? ⟨gb159,1,none⟩ = some (.int .i64 a1_1) := (blk_cell BK159.out 1).trans rfl
      have hcz42_2 : w37.cell? ⟨gb159,2,none⟩ = some (.float .f64 a1_2) := (blk_cell BK159.out 2).trans rfl
      have hcz42_3 : w37.cell? ⟨gb159,3,none⟩ = some (.string a1_3) := (blk_cell BK159.out 3).trans rfl
      have hfz42_0 := blk_frozen BK159.out 0
      have hfz42_1 := blk_frozen BK159.out 1
      have hfz42_2 := blk_frozen BK159.out 2
      have hfz42_3 := blk_frozen BK159.out 3
      go_wp2
      go_meet
      case rel => exact ⟨_,((a1_0 == 1)),(by first | rfl | (simp; done) | (simp [*]; done)),H',⟨by first | omega | exact Nat.le_refl _⟩,⟨by (with_reducible repeat (first | refine blk_drewN ?_ _ | refine blk_drew ?_ | refine blk_alloc ?_ _)); exact BK158.out⟩,⟨by (with_reducible repeat (first | refine blk_drewN ?_ _ | refine blk_drew ?_ | refine blk_alloc ?_ _)); exact BK159.out⟩,⟨by repeat (first | (with_reducible first | exact HB.out | apply below_alloc | apply pw_below_drewN | apply below_drew1 | refine below_set ?_ GE158.out | refine below_set ?_ GE159.out) | exact HB.out)⟩⟩
     ·
      rw [if_neg c39] at H
      have c39b0 : (a0_0 == 1) = false := beq_eq_false_iff_ne.mpr c39
      have c39b1 : (a0_0 != 1) = true := bne_iff_ne.mpr c39
      (first | rw [c39b0] | (simp only [i64_w,i32_w]; rw [c39b0]) | skip)
      have H' := Aside0.mk H
      clear H
      have hnb43 := NB158_159.out
      have hnc43 := NB159_158.out
      have hcz44_0 : w37.cell? ⟨gb158,0,none⟩ = some (.int .i64 a0_0) := (blk_cell BK158.out 0).trans rfl
      have hcz44_1 : w37.cell? ⟨gb158,1,none⟩ = some (.int .i64 a0_1) := (blk_cell BK158.out 1).trans rfl
      have hcz44_2 : w37.cell? ⟨gb158,2,none⟩ = some (.float .f64 a0_2) := (blk_cell BK158.out 2).trans rfl
      have hcz44_3 : w37.cell? ⟨gb158,3,none⟩ = some (.string a0_3) := (blk_cell BK158.out 3).trans rfl
      have hfz44_0 := blk_frozen BK158.out 0
      have hfz44_1 := blk_frozen BK158.out 1
      have hfz44_2 := blk_frozen BK158.out 2
      have hfz44_3 := blk_frozen BK158.out 3
      go_wp2
      go_meet
      case rel => exact ⟨_,(false),(by first | rfl | (simp; done) | (simp [*]; done)),H',⟨by first | omega | exact Nat.le_refl _⟩,⟨by (with_reducible repeat (first | refine blk_drewN ?_ _ | refine blk_drew ?_ | refine blk_alloc ?_ _)); exact BK158.out⟩,⟨by (with_reducible repeat (first | refine blk_drewN ?_ _ | refine blk_drew ?_ | refine blk_alloc ?_ _)); exact BK159.out⟩,⟨by repeat (first | (with_reducible first | exact HB.out | apply below_alloc | apply pw_below_drewN | apply below_drew1 | refine below_set ?_ GE158.out | refine below_set ?_ GE159.out) | exact HB.out)⟩⟩
    case rest =>
     clear HC29
     try clear c1
     try clear c2
     try clear p2
     try clear c3
     try clear c4
     try clear c6
     try clear c6b0
     try clear c6b1
     try clear c8
     try clear c8b0
     try clear c14
     try clear c17
     try clear c17b0
     try clear c17b1
     try clear c21
     try clear c24
     try clear c30
     try clear c31
     try clear c32
     try clear c35
     try clear c39
     try clear c39b0
     try clear c39b1
     try clear c40
     try clear c43
     try clear hcz15_0
     try clear hcz15_1
     try clear hcz15_2
     try clear hcz15_3
     try clear hcz25_0
     try clear hcz25_1
     try clear hcz25_2
     try clear hcz25_3
     try clear hcz27_0
     try clear hcz27_1
     try clear hcz27_2
     try clear hcz27_3
     try clear hcz28_0
     try clear hcz28_1
     try clear hcz28_2
     try clear hcz28_3
     try clear hcz36_0
     try clear hcz36_1
     try clear hcz36_2
     try clear hcz36_3
     try clear hcz38_0
     try clear hcz38_1
     try clear hcz38_2
     try clear hcz38_3
     try clear hcz41_0
     try clear hcz41_1
     try clear hcz41_2
     try clear hcz41_3
     try clear hcz42_0
     try clear hcz42_1
     try clear hcz42_2
     try clear hcz42_3
     try clear hcz44_0
     try clear hcz44_1
     try clear hcz44_2
     try clear hcz44_3
     try clear hfz15_0
     try clear hfz15_1
     try clear hfz15_2
     try clear hfz15_3
     try clear hfz25_0
     try clear hfz25_1
     try clear hfz25_2
     try clear hfz25_3
     try clear hfz27_0
     try clear hfz27_1
     try clear hfz27_2
     try clear hfz27_3
     try clear hfz28_0
     try clear hfz28_1
     try clear hfz28_2
     try clear hfz28_3
     try clear hfz36_0
     try clear hfz36_1
     try clear hfz36_2
     try clear hfz36_3
     try clear hfz38_0
     try clear hfz38_1
     try clear hfz38_2
     try clear hfz38_3
     try clear hfz41_0
     try clear hfz41_1
     try clear hfz41_2
     try clear hfz41_3
     try clear hfz42_0
     try clear hfz42_1
     try clear hfz42_2
     try clear hfz42_3
     try clear hfz44_0
     try clear hfz44_1
     try clear hfz44_2
     try clear hfz44_3
     obtain ⟨kq,x27_28,rfl,HA,HJ28,BK158,BK159,HB⟩ := hcut
     cases kq with
     | zero => exact absurd HA.out (by simp [value_Compare.j0])
     | succ kj28 =>
      have H := HA.out
      clear HA
      simp only [value_Compare.j0] at H
      by_cases c45 : x27_28 = true
      ·
       subst c45
       have H1 : ((cmp_Compare_int64.f a0_1 a1_1).bind fun t165 => (some t165)) = some r := by rw [if_pos rfl] at H; exact H
       clear H
       have H := H1
       clear H1
       replace H := Option.bind_eq_some_iff.mp H
       obtain ⟨t165,A460,H⟩ := H
       replace H : (some t165) = some r := H
       have A46 := Aside0.mk A460
       clear A460
       obtain rfl := Option.some.inj H
       have hnb47 := NB158_159.out
       have hnc47 := NB159_158.out
       have hcz48_0 : wc.cell? ⟨gb158,0,none⟩ = some (.int .i64 a0_0) := (blk_cell BK158.out 0).trans rfl
       have hcz48_1 : wc.cell? ⟨gb158,1,none⟩ = some (.int .i64 a0_1) := (blk_cell BK158.out 1).trans rfl
       have hcz48_2 : wc.cell? ⟨gb158,2,none⟩ = some (.float .f64 a0_2) := (blk_cell BK158.out 2).trans rfl
       have hcz48_3 : wc.cell? ⟨gb158,3,none⟩ = some (.string a0_3) := (blk_cell BK158.out 3).trans rfl
       have hfz48_0 := blk_frozen BK158.out 0
       have hfz48_1 := blk_frozen BK158.out 1
       have hfz48_2 := blk_frozen BK158.out 2
       have hfz48_3 := blk_frozen BK158.out 3
       have hcz49_0 : wc.cell? ⟨gb159,0,none⟩ = some (.int .i64 a1_0) := (blk_cell BK159.out 0).trans rfl
       have hcz49_1 : wc.cell? ⟨gb159,1,none⟩ = some (.int .i64 a1_1) := (blk_cell BK159.out 1).trans rfl
       have hcz49_2 : wc.cell? ⟨gb159,2,none⟩ = some (.float .f64 a1_2) := (blk_cell BK159.out 2).trans rfl
       have hcz49_3 : wc.cell? ⟨gb159,3,none⟩ = some (.string a1_3) := (blk_cell BK159.out 3).trans rfl
       have hfz49_0 := blk_frozen BK159.out 0
       have hfz49_1 := blk_frozen BK159.out 1
       have hfz49_2 := blk_frozen BK159.out 2
       have hfz49_3 := blk_frozen BK159.out 3
       go_wp2_with (first | ((with_reducible refine gate_callee (f := 33) rfl ?_); refine goesL_ (some 40) rfl rfl Try.func33 (by kernel_rfl) rfl #[.int .i64 a0_1,.int .i64 a1_1] rfl (by (try simp only [List.map_toArray,List.map_cons,List.map_nil]); first | done | rfl | (simp only [List.length_drop,List.length_take]; rfl)) ?_; (with_reducible refine (cmp_Compare_int64.calls a0_1 a1_1 t165 _ A46.out).mono ?_); rintro e w' ⟨rfl,⟨nd,rfl⟩⟩; refine ⟨_,rfl,?_⟩))
       go_ret
       exact ⟨by first | rfl | (simp [errW_none,errW_some] <;> rfl) | (simp [*,errW_none,errW_some] <;> rfl),by repeat (first | (with_reducible first | exact HB.out | apply below_alloc | apply pw_below_drewN | apply below_drew1 | refine below_set ?_ GE158.out | refine below_set ?_ GE159.out) | exact HB.out)⟩
      ·
       replace c45 := Bool.eq_false_iff.mpr c45
       subst c45
       have H1 : (if a0_0 = 3 then (value_Compare.j1 kj28 (a1_0 == 3) a0_0 a0_1 a0_2 a0_3 a1_0 a1_1 a1_2 a1_3) else (value_Compare.j1 kj28 false a0_0 a0_1 a0_2 a0_3 a1_0 a1_1 a1_2 a1_3)) = some r := by rw [if_neg (show ¬ (false = true) by decide)] at H; exact H
       clear H
       have H := H1
       clear H1
       have HC50 := Aside0.mk H
       clear H
       go_upto_region 10 with (fail)
       go_cut [41] (fun v41 wc => ∃ (kq : Nat) (x41_49 : Bool),v41 = .bool x41_49 ∧ Aside0 (value_Compare.j1 kq x41_49 a0_0 a0_1 a0_2 a0_3 a1_0 a1_1 a1_2 a1_3 = some r) ∧ Aside0 (kq ≤ kj28) ∧ Aside0 (wc.heap[gb158]? = some (.cells #[.int .i64 a0_0,.int .i64 a0_1,.float .f64 a0_2,.string a0_3] 28 (0,0))) ∧ Aside0 (wc.heap[gb159]? = some (.cells #[.int .i64 a1_0,.int .i64 a1_1,.float .f64 a1_2,.string a1_3] 28 (0,0))) ∧ Aside0 (Below w.heap.size w wc))
       case first =>
        have H := HC50.out
        clear HC50
        by_cases c51 : a0_0 = 3
        ·
         rw [if_pos c51] at H
         have c51b0 : (a0_0 == 3) = true := beq_iff_eq.mpr c51
         have c51b1 : (a0_0 != 3) = false := bne_eq_false_iff_eq.mpr c51
         clear c51
         (first | rw [c51b0] | (simp only [i64_w,i32_w]; rw [c51b0]) | skip)
         have H' := Aside0.mk H
         clear H
         have hnb52 := NB158_159.out
         have hnc52 := NB159_158.out
         have hcz53_0 : wc.cell? ⟨gb158,0,none⟩ = some (.int .i64 a0_0) := (blk_cell BK158.out 0).trans rfl
         have hcz53_1 : wc.cell? ⟨gb158,1,none⟩ = some (.int .i64 a0_1) := (blk_cell BK158.out 1).trans rfl
         have hcz53_2 : wc.cell? ⟨gb158,2,none⟩ = some (.float .f64 a0_2) := (blk_cell BK158.out 2).trans rfl
         have hcz53_3 : wc.cell? ⟨gb158,3,none⟩ = some (.string a0_3) := (blk_cell BK158.out 3).trans rfl
         have hfz53_0 := blk_frozen BK158.out 0
         have hfz53_1 := blk_frozen BK158.out 1
         have hfz53_2 := blk_frozen BK158.out 2
         have hfz53_3 := blk_frozen BK158.out 3
         have hcz54_0 : wc.cell? ⟨gb159,0,none⟩ = some (.int .i64 a1_0) := (blk_cell BK159.out 0).trans rfl
         have hcz54_1 : wc.cell? ⟨gb159,1,none⟩ = some (.int .i64 a1_1) := (blk_cell BK159.out 1).trans rfl
         have hcz54_2 : wc.cell? ⟨gb159,2,none⟩ = some (.float .f64 a1_2) := (blk_cell BK159.out 2).trans rfl
         have hcz54_3 : wc.cell? ⟨gb159,3,none⟩ = some (.string a1_3) := (blk_cell BK159.out 3).trans rfl
         have hfz54_0 := blk_frozen BK159.out 0
         have hfz54_1 := blk_frozen BK159.out 1
         have hfz54_2 := blk_frozen BK159.out 2
         have hfz54_3 := blk_frozen BK159.out 3
         go_wp2
         go_meet
         case rel => exact ⟨_,((a1_0 == 3)),(by first | rfl | (simp; done) | (simp [*]; done)),H',⟨by have := HJ28.out; first | omega | exact Nat.le_refl _⟩,⟨by (with_reducible repeat (first | refine blk_drewN ?_ _ | refine blk_drew ?_ | refine blk_alloc ?_ _)); exact BK158.out⟩,⟨by (with_reducible repeat (first | refine blk_drewN ?_ _ | refine blk_drew ?_ | refine blk_alloc ?_ _)); exact BK159.out⟩,⟨by repeat (first | (with_reducible first | exact HB.out | apply below_alloc | apply pw_below_drewN | apply below_drew1 | refine below_set ?_ GE158.out | refine below_set ?_ GE159.out) | exact HB.out)⟩⟩
        ·
         rw [if_neg c51] at H
         have c51b0 : (a0_0 == 3) = false := beq_eq_false_iff_ne.mpr c51
         have c51b1 : (a0_0 != 3) = true := bne_iff_ne.mpr c51
         (first | rw [c51b0] | (simp only [i64_w,i32_w]; rw [c51b0]) | skip)
         have H' := Aside0.mk H
         clear H
         have hnb55 := NB158_159.out
         have hnc55 := NB159_158.out
         have hcz56_0 : wc.cell? ⟨gb158,0,none⟩ = some (.int .i64 a0_0) := (blk_cell BK158.out 0).trans rfl
         have hcz56_1 : wc.cell? ⟨gb158,1,none⟩ = some (.int .i64 a0_1) := (blk_cell BK158.out 1).trans rfl
         have hcz56_2 : wc.cell? ⟨gb158,2,none⟩ = some (.float .f64 a0_2) := (blk_cell BK158.out 2).trans rfl
         have hcz56_3 : wc.cell? ⟨gb158,3,none⟩ = some (.string a0_3) := (blk_cell BK158.out 3).trans rfl
         have hfz56_0 := blk_frozen BK158.out 0
         have hfz56_1 := blk_frozen BK158.out 1
         have hfz56_2 := blk_frozen BK158.out 2
         have hfz56_3 := blk_frozen BK158.out 3
         go_wp2
         go_meet
         case rel => exact ⟨_,(false),(by first | rfl | (simp; done) | (simp [*]; done)),H',⟨by have := HJ28.out; first | omega | exact Nat.le_refl _⟩,⟨by (with_reducible repeat (first | refine blk_drewN ?_ _ | refine blk_drew ?_ | refine blk_alloc ?_ _)); exact BK158.out⟩,⟨by (with_reducible repeat (first | refine blk_drewN ?_ _ | refine blk_drew ?_ | refine blk_alloc ?_ _)); exact BK159.out⟩,⟨by repeat (first | (with_reducible first | exact HB.out | apply below_alloc | apply pw_below_drewN | apply below_drew1 | refine below_set ?_ GE158.out | refine below_set ?_ GE159.out) | exact HB.out)⟩⟩
       case rest =>
        clear HC50
        try clear c1
        try clear c2
        try clear p2
        try clear c3
        try clear c4
        try clear c5
        try clear c6
        try clear c6b0
        try clear c6b1
        try clear c8
        try clear c8b0
        try clear c14
        try clear c17
        try clear c17b0
        try clear c17b1
        try clear c21
        try clear c24
        try clear c30
        try clear c31
        try clear c32
        try clear c33
        try clear c35
        try clear c39
        try clear c39b0
        try clear c39b1
        try clear c40
        try clear c43
        try clear c45
        try clear c47
        try clear c51
        try clear c51b0
        try clear c51b1
        try clear c52
        try clear c55
        try clear hcz15_0
        try clear hcz15_1
        try clear hcz15_2
        try clear hcz15_3
        try clear hcz25_0
        try clear hcz25_1
        try clear hcz25_2
        try clear hcz25_3
        try clear hcz27_0
        try clear hcz27_1
        try clear hcz27_2
        try clear hcz27_3
        try clear hcz28_0
        try clear hcz28_1
        try clear hcz28_2
        try clear hcz28_3
        try clear hcz36_0
        try clear hcz36_1
        try clear hcz36_2
        try clear hcz36_3
        try clear hcz38_0
        try clear hcz38_1
        try clear hcz38_2
        try clear hcz38_3
        try clear hcz41_0
        try clear hcz41_1
        try clear hcz41_2
        try clear hcz41_3
        try clear hcz42_0
        try clear hcz42_1
        try clear hcz42_2
        try clear hcz42_3
        try clear hcz44_0
        try clear hcz44_1
        try clear hcz44_2
        try clear hcz44_3
        try clear hcz48_0
        try clear hcz48_1
        try clear hcz48_2
        try clear hcz48_3
        try clear hcz49_0
        try clear hcz49_1
        try clear hcz49_2
        try clear hcz49_3
        try clear hcz53_0
        try clear hcz53_1
        try clear hcz53_2
        try clear hcz53_3
        try clear hcz54_0
        try clear hcz54_1
        try clear hcz54_2
        try clear hcz54_3
        try clear hcz56_0
        try clear hcz56_1
        try clear hcz56_2
        try clear hcz56_3
        try clear hfz15_0
        try clear hfz15_1
        try clear hfz15_2
        try clear hfz15_3
        try clear hfz25_0
        try clear hfz25_1
        try clear hfz25_2
        try clear hfz25_3
        try clear hfz27_0
        try clear hfz27_1
        try clear hfz27_2
        try clear hfz27_3
        try clear hfz28_0
        try clear hfz28_1
        try clear hfz28_2
        try clear hfz28_3
        try clear hfz36_0
        try clear hfz36_1
        try clear hfz36_2
        try clear hfz36_3
        try clear hfz38_0
        try clear hfz38_1
        try clear hfz38_2
        try clear hfz38_3
        try clear hfz41_0
        try clear hfz41_1
        try clear hfz41_2
        try clear hfz41_3
        try clear hfz42_0
        try clear hfz42_1
        try clear hfz42_2
        try clear hfz42_3
        try clear hfz44_0
        try clear hfz44_1
        try clear hfz44_2
        try clear hfz44_3
        try clear hfz48_0
        try clear hfz48_1
        try clear hfz48_2
        try clear hfz48_3
        try clear hfz49_0
        try clear hfz49_1
        try clear hfz49_2
        try clear hfz49_3
        try clear hfz53_0
        try clear hfz53_1
        try clear hfz53_2
        try clear hfz53_3
        try clear hfz54_0
        try clear hfz54_1
        try clear hfz54_2
        try clear hfz54_3
        try clear hfz56_0
        try clear hfz56_1
        try clear hfz56_2
        try clear hfz56_3
        try clear p2
        obtain ⟨kq,x41_49,rfl,HA,HJ49,BK158,BK159,HB⟩ := hcut
        cases kq with
        | zero => exact absurd HA.out (by simp [value_Compare.j1])
        | succ kj49 =>
         have H := HA.out
         clear HA
         simp only [value_Compare.j1] at H
         by_cases c57 : x41_49 = true
         ·
          subst c57
          have H1 : ((cmp_Compare_float64.f a0_2 a1_2).bind fun t166 => (some t166)) = some r := by rw [if_pos rfl] at H; exact H
          clear H
          have H := H1
          clear H1
          replace H := Option.bind_eq_some_iff.mp H
          obtain ⟨t166,A580,H⟩ := H
          replace H : (some t166) = some r := H
          have A58 := Aside0.mk A580
          clear A580
          obtain rfl := Option.some.inj H
          have hnb59 := NB158_159.out
          have hnc59 := NB159_158.out
          have hcz60_0 : wc.cell? ⟨gb158,0,none⟩ = some (.int .i64 a0_0) := (blk_cell BK158.out 0).trans rfl
          have hcz60_1 : wc.cell? ⟨gb158,1,none⟩ = some (.int .i64 a0_1) := (blk_cell BK158.out 1).trans rfl
          have hcz60_2 : wc.cell? ⟨gb158,2,none⟩ = some (.float .f64 a0_2) := (blk_cell BK158.out 2).trans rfl
          have hcz60_3 : wc.cell? ⟨gb158,3,none⟩ = some (.string a0_3) := (blk_cell BK158.out 3).trans rfl
          have hfz60_0 := blk_frozen BK158.out 0
          have hfz60_1 := blk_frozen BK158.out 1
          have hfz60_2 := blk_frozen BK158.out 2
          have hfz60_3 := blk_frozen BK158.out 3
          have hcz61_0 : wc.cell? ⟨gb159,0,none⟩ = some (.int .i64 a1_0) := (blk_cell BK159.out 0).trans rfl
          have hcz61_1 : wc.cell? ⟨gb159,1,none⟩ = some (.int .i64 a1_1) := (blk_cell BK159.out 1).trans rfl
          have hcz61_2 : wc.cell? ⟨gb159,2,none⟩ = some (.float .f64 a1_2) := (blk_cell BK159.out 2).trans rfl
          have hcz61_3 : wc.cell? ⟨gb159,3,none⟩ = some (.string a1_3) := (blk_cell BK159.out 3).trans rfl
          have hfz61_0 := blk_frozen BK159.out 0
          have hfz61_1 := blk_frozen BK159.out 1
          have hfz61_2 := blk_frozen BK159.out 2
          have hfz61_3 := blk_frozen BK159.out 3
          go_wp2_with (first | ((with_reducible refine gate_callee (f := 34) rfl ?_); refine goesL_ (some 54) rfl rfl Try.func34 (by kernel_rfl) rfl #[.float .f64 a0_2,.float .f64 a1_2] rfl (by (try simp only [List.map_toArray,List.map_cons,List.map_nil]); first | done | rfl | (simp only [List.length_drop,List.length_take]; rfl)) ?_; (with_reducible refine (cmp_Compare_float64.calls a0_2 a1_2 t166 _ A58.out).mono ?_); rintro e w' ⟨rfl,⟨nd,rfl⟩⟩; refine ⟨_,rfl,?_⟩))
          go_ret
          exact ⟨by first | rfl | (simp [errW_none,errW_some] <;> rfl) | (simp [*,errW_none,errW_some] <;> rfl),by repeat (first | (with_reducible first | exact HB.out | apply below_alloc | apply pw_below_drewN | apply below_drew1 | refine below_set ?_ GE158.out | refine below_set ?_ GE159.out) | exact HB.out)⟩
         ·
          replace c57 := Bool.eq_false_iff.mpr c57
          subst c57
          have H1 : (if a0_0 = 1 then ((value_against.f a0_1 a1_2).bind fun t167 => ((cmp_Or_int.f kj49 (([t167,(-1)] : List Int))).bind fun t171 => (some t171))) else ((value_against.f a1_1 a0_2).bind fun t172 => ((cmp_Or_int.f kj49 (([wrap64 (-t172),1] : List Int))).bind fun t176 => (some t176)))) = some r := by rw [if_neg (show ¬ (false = true) by decide)] at H; exact H
          clear H
          have H := H1
          clear H1
          by_cases c62 : a0_0 = 1
          ·
           rw [if_pos c62] at H
           have c62b0 : (a0_0 == 1) = true := beq_iff_eq.mpr c62
           have c62b1 : (a0_0 != 1) = false := bne_eq_false_iff_eq.mpr c62
           clear c62
           replace H := Option.bind_eq_some_iff.mp H
           obtain ⟨t167,A630,H⟩ := H
           replace H : ((cmp_Or_int.f kj49 (([t167,(-1)] : List Int))).bind fun t171 => (some t171)) = some r := H
           have A63 := Aside0.mk A630
           clear A630
           obtain ⟨y168,hy168⟩ : ∃ y_ : List Int,y_ = (([t167,(-1)] : List Int)) := ⟨_,rfl⟩
           replace H : ((cmp_Or_int.f kj49 y168).bind fun t171 => (some t171)) = some r := by first | (rw [hy168]; with_reducible exact H) | (have H2_ := (Option.bind_some _ _).symm.trans H; rw [hy168]; with_reducible exact H2_) | (have H2_ := (Option.bind_some _ _).symm.trans H; with_reducible exact H2_) | with_reducible exact H | (rw [hy168]; exact H) | exact H
           have Ny168 := Aside0.mk hy168
           clear hy168
           replace H := Option.bind_eq_some_iff.mp H
           obtain ⟨t171,A640,H⟩ := H
           replace H : (some t171) = some r := H
           have A64 := Aside0.mk A640
           clear A640
           obtain rfl := Option.some.inj H
           have hnb65 := NB158_159.out
           have hnc65 := NB159_158.out
           have hcz66_0 : wc.cell? ⟨gb158,0,none⟩ = some (.int .i64 a0_0) := (blk_cell BK158.out 0).trans rfl
           have hcz66_1 : wc.cell? ⟨gb158,1,none⟩ = some (.int .i64 a0_1) := (blk_cell BK158.out 1).trans rfl
           have hcz66_2 : wc.cell? ⟨gb158,2,none⟩ = some (.float .f64 a0_2) := (blk_cell BK158.out 2).trans rfl
           have hcz66_3 : wc.cell? ⟨gb158,3,none⟩ = some (.string a0_3) := (blk_cell BK158.out 3).trans rfl
           have hfz66_0 := blk_frozen BK158.out 0
           have hfz66_1 := blk_frozen BK158.out 1
           have hfz66_2 := blk_frozen BK158.out 2
           have hfz66_3 := blk_frozen BK158.out 3
           have hcz67_0 : wc.cell? ⟨gb159,0,none⟩ = some (.int .i64 a1_0) := (blk_cell BK159.out 0).trans rfl
           have hcz67_1 : wc.cell? ⟨gb159,1,none⟩ = some (.int .i64 a1_1) := (blk_cell BK159.out 1).trans rfl
           have hcz67_2 : wc.cell? ⟨gb159,2,none⟩ = some (.float .f64 a1_2) := (blk_cell BK159.out 2).trans rfl
           have hcz67_3 : wc.cell? ⟨gb159,3,none⟩ = some (.string a1_3) := (blk_cell BK159.out 3).trans rfl
           have hfz67_0 := blk_frozen BK159.out 0
           have hfz67_1 := blk_frozen BK159.out 1
           have hfz67_2 := blk_frozen BK159.out 2
           have hfz67_3 := blk_frozen BK159.out 3
           go_wp2_with (first | ((with_reducible refine gate_callee (f := 36) rfl ?_); refine goesL_ (some 63) rfl rfl Try.func36 (by kernel_rfl) rfl #[.int .i64 a0_1,.float .f64 a1_2] rfl (by (try simp only [List.map_toArray,List.map_cons,List.map_nil]); first | done | rfl | (simp only [List.length_drop,List.length_take]; rfl)) ?_; (with_reducible refine (value_against.calls a0_1 a1_2 t167 _ A63.out).mono ?_); rintro e w' ⟨rfl,⟨nd,rfl⟩⟩; refine ⟨_,rfl,?_⟩) | ((with_reducible refine gate_dst (N := 64) rfl ?_); refine Kd.R_lit (Kd.int .i64) _ 3 ?hg (N := 64) ?hd (xs := ([t167,(-1)] : List Int)) (inner := [.int .i64 t167,.int .i64 (-1)]) (ok := fun _ => True) (okp := fun _ => True) ?hr ?hp (fun _ hk => hk) trivial (Below.refl _ _) (Nat.le_refl _) (by simp) ?_; (case hd => rfl); (case hg => rfl); (case hr => first | (go_simp; done) | (go_simp; rfl)); (case hp => exact (Reps.one (show Kd.M (Kd.int .i64) _ _ _ t167 [.int .i64 t167] from rfl) (Reps.one (show Kd.M (Kd.int .i64) _ _ _ (-1) [.int .i64 (-1)] from rfl) (Reps.none _ _)))); intro v169 w68 ho69 hb hg_ hnew_; clear hg_ hnew_; (first | rw [← Ny168.out] at ho69 | (simp only [Int.reduceToNat] at ho69; rw [← Ny168.out] at ho69)); have n0_ := Aside0.mk (Kd.R_lower ho69 (below_size (by repeat (first | (with_reducible first | exact HB.out | apply below_alloc | apply pw_below_drewN | apply below_drew1 | refine below_set ?_ GE158.out | refine below_set ?_ GE159.out) | exact HB.out)))); have n1_ := Aside0.mk (blk_below (g := gb158) (o := .cells #[.int .i64 a0_0,.int .i64 a0_1,.float .f64 a0_2,.string a0_3] 28 (0,0)) (by (with_reducible repeat (first | refine blk_drewN ?_ _ | refine blk_drew ?_ | refine blk_alloc ?_ _)); exact BK158.out) hb); have n2_ := Aside0.mk (blk_below (g := gb159) (o := .cells #[.int .i64 a1_0,.int .i64 a1_1,.float .f64 a1_2,.string a1_3] 28 (0,0)) (by (with_reducible repeat (first | refine blk_drewN ?_ _ | refine blk_drew ?_ | refine blk_alloc ?_ _)); exact BK159.out) hb); have n3_ := Aside0.mk (below_step (by repeat (first | (with_reducible first | exact HB.out | apply below_alloc | apply pw_below_drewN | apply below_drew1 | refine below_set ?_ GE158.out | refine below_set ?_ GE159.out) | exact HB.out)) hb); clear BK158; clear BK159; clear HB; have HO170 := n0_; have BK158 := n1_; have BK159 := n2_; have HB := n3_; clear n0_ n1_ n2_ n3_; clear hb ho69; obtain ⟨Ao70,co70,eo70⟩ := Kd.R_slice HO170.out; subst eo70) | ((with_reducible refine gate_callee (f := 35) rfl ?_); refine goesL_ (some 65) rfl rfl Try.func35 (by kernel_rfl) rfl #[.slice Ao70 y168.length co70] rfl (by (try simp only [List.map_toArray,List.map_cons,List.map_nil]); first | done | rfl | (simp only [List.length_drop,List.length_take]; rfl)) ?_; (with_reducible refine (cmp_Or_int.calls kj49 _ _ y168 t171 _ ?side1 ?side2 A64.out).mono ?_); (case side1 => repeat (first | exact (Kd.R_reads' HO170.out).2.2 | (with_reducible refine Kd.C_alloc ?_ _) | (with_reducible refine Kd.C_drewN ?_ _) | (with_reducible refine Kd.C_drew ?_))); (case side2 => exact (Kd.R_reads' HO170.out).2.1); rintro e w' ⟨rfl,⟨nd,rfl⟩⟩; refine ⟨_,rfl,?_⟩))
           go_ret
           exact ⟨by first | rfl | (simp [errW_none,errW_some] <;> rfl) | (simp [*,errW_none,errW_some] <;> rfl),by repeat (first | (with_reducible first | exact HB.out | apply below_alloc | apply pw_below_drewN | apply below_drew1 | refine below_set ?_ GE158.out | refine below_set ?_ GE159.out) | exact HB.out)⟩
          ·
           rw [if_neg c62] at H
           have c62b0 : (a0_0 == 1) = false := beq_eq_false_iff_ne.mpr c62
           have c62b1 : (a0_0 != 1) = true := bne_iff_ne.mpr c62
           replace H := Option.bind_eq_some_iff.mp H
           obtain ⟨t172,A710,H⟩ := H
           replace H : ((cmp_Or_int.f kj49 (([wrap64 (-t172),1] : List Int))).bind fun t176 => (some t176)) = some r := H
           have A71 := Aside0.mk A710
           clear A710
           obtain ⟨y173,hy173⟩ : ∃ y_ : List Int,y_ = (([wrap64 (-t172),1] : List Int)) := ⟨_,rfl⟩
           replace H : ((cmp_Or_int.f kj49 y173).bind fun t176 => (some t176)) = some r := by first | (rw [hy173]; with_reducible exact H) | (have H2_ := (Option.bind_some _ _).symm.trans H; rw [hy173]; with_reducible exact H2_) | (have H2_ := (Option.bind_some _ _).symm.trans H; with_reducible exact H2_) | with_reducible exact H | (rw [hy173]; exact H) | exact H
           have Ny173 := Aside0.mk hy173
           clear hy173
           replace H := Option.bind_eq_some_iff.mp H
           obtain ⟨t176,A720,H⟩ := H
           replace H : (some t176) = some r := H
           have A72 := Aside0.mk A720
           clear A720
           obtain rfl := Option.some.inj H
           have hnb73 := NB158_159.out
           have hnc73 := NB159_158.out
           have hcz74_0 : wc.cell? ⟨gb158,0,none⟩ = some (.int .i64 a0_0) := (blk_cell BK158.out 0).trans rfl
           have hcz74_1 : wc.cell? ⟨gb158,1,none⟩ = some (.int .i64 a0_1) := (blk_cell BK158.out 1).trans rfl
           have hcz74_2 : wc.cell? ⟨gb158,2,none⟩ = some (.float .f64 a0_2) := (blk_cell BK158.out 2).trans rfl
           have hcz74_3 : wc.cell? ⟨gb158,3,none⟩ = some (.string a0_3) := (blk_cell BK158.out 3).trans rfl
           have hfz74_0 := blk_frozen BK158.out 0
           have hfz74_1 := blk_frozen BK158.out 1
           have hfz74_2 := blk_frozen BK158.out 2
           have hfz74_3 := blk_frozen BK158.out 3
           have hcz75_0 : wc.cell? ⟨gb159,0,none⟩ = some (.int .i64 a1_0) := (blk_cell BK159.out 0).trans rfl
           have hcz75_1 : wc.cell? ⟨gb159,1,none⟩ = some (.int .i64 a1_1) := (blk_cell BK159.out 1).trans rfl
           have hcz75_2 : wc.cell? ⟨gb159,2,none⟩ = some (.float .f64 a1_2) := (blk_cell BK159.out 2).trans rfl
           have hcz75_3 : wc.cell? ⟨gb159,3,none⟩ = some (.string a1_3) := (blk_cell BK159.out 3).trans rfl
           have hfz75_0 := blk_frozen BK159.out 0
           have hfz75_1 := blk_frozen BK159.out 1
           have hfz75_2 := blk_frozen BK159.out 2
           have hfz75_3 := blk_frozen BK159.out 3
           go_wp2_with (first | ((with_reducible refine gate_callee (f := 36) rfl ?_); refine goesL_ (some 70) rfl rfl Try.func36 (by kernel_rfl) rfl #[.int .i64 a1_1,.float .f64 a0_2] rfl (by (try simp only [List.map_toArray,List.map_cons,List.map_nil]); first | done | rfl | (simp only [List.length_drop,List.length_take]; rfl)) ?_; (with_reducible refine (value_against.calls a1_1 a0_2 t172 _ A71.out).mono ?_); rintro e w' ⟨rfl,⟨nd,rfl⟩⟩; refine ⟨_,rfl,?_⟩) | ((with_reducible refine gate_dst (N := 72) rfl ?_); refine Kd.R_lit (Kd.int .i64) _ 3 ?hg (N := 72) ?hd (xs := ([wrap64 (-t172),1] : List Int)) (inner := [.int .i64 (wrap64 (-t172)),.int .i64 1]) (ok := fun _ => True) (okp := fun _ => True) ?hr ?hp (fun _ hk => hk) trivial (Below.refl _ _) (Nat.le_refl _) (by simp) ?_; (case hd => rfl); (case hg => rfl); (case hr => first | (go_simp; done) | (go_simp; rfl)); (case hp => exact (Reps.one (show Kd.M (Kd.int .i64) _ _ _ (wrap64 (-t172)) [.int .i64 (wrap64 (-t172))] from rfl) (Reps.one (show Kd.M (Kd.int .i64) _ _ _ 1 [.int .i64 1] from rfl) (Reps.none _ _)))); intro v174 w76 ho77 hb hg_ hnew_; clear hg_ hnew_; (first | rw [← Ny173.out] at ho77 | (simp only [Int.reduceToNat] at ho77; rw [← Ny173.out] at ho77)); have n0_ := Aside0.mk (Kd.R_lower ho77 (below_size (by repeat (first | (with_reducible first | exact HB.out | apply below_alloc | apply pw_below_drewN | apply below_drew1 | refine below_set ?_ GE158.out | refine below_set ?_ GE159.out) | exact HB.out)))); have n1_ := Aside0.mk (blk_below (g := gb158) (o := .cells #[.int .i64 a0_0,.int .i64 a0_1,.float .f64 a0_2,.string a0_3] 28 (0,0)) (by (with_reducible repeat (first | refine blk_drewN ?_ _ | refine blk_drew ?_ | refine blk_alloc ?_ _)); exact BK158.out) hb); have n2_ := Aside0.mk (blk_below (g := gb159) (o := .cells #[.int .i64 a1_0,.int .i64 a1_1,.float .f64 a1_2,.string a1_3] 28 (0,0)) (by (with_reducible repeat (first | refine blk_drewN ?_ _ | refine blk_drew ?_ | refine blk_alloc ?_ _)); exact BK159.out) hb); have n3_ := Aside0.mk (below_step (by repeat (first | (with_reducible first | exact HB.out | apply below_alloc | apply pw_below_drewN | apply below_drew1 | refine below_set ?_ GE158.out | refine below_set ?_ GE159.out) | exact HB.out)) hb); clear BK158; clear BK159; clear HB; have HO175 := n0_; have BK158 := n1_; have BK159 := n2_; have HB := n3_; clear n0_ n1_ n2_ n3_; clear hb ho77; obtain ⟨Ao78,co78,eo78⟩ := Kd.R_slice HO175.out; subst eo78) | ((with_reducible refine gate_callee (f := 35) rfl ?_); refine goesL_ (some 73) rfl rfl Try.func35 (by kernel_rfl) rfl #[.slice Ao78 y173.length co78] rfl (by (try simp only [List.map_toArray,List.map_cons,List.map_nil]); first | done | rfl | (simp only [List.length_drop,List.length_take]; rfl)) ?_; (with_reducible refine (cmp_Or_int.calls kj49 _ _ y173 t176 _ ?side1 ?side2 A72.out).mono ?_); (case side1 => repeat (first | exact (Kd.R_reads' HO175.out).2.2 | (with_reducible refine Kd.C_alloc ?_ _) | (with_reducible refine Kd.C_drewN ?_ _) | (with_reducible refine Kd.C_drew ?_))); (case side2 => exact (Kd.R_reads' HO175.out).2.1); rintro e w' ⟨rfl,⟨nd,rfl⟩⟩; refine ⟨_,rfl,?_⟩))
           go_ret
           exact ⟨by first | rfl | (simp [errW_none,errW_some] <;> rfl) | (simp [*,errW_none,errW_some] <;> rfl),by repeat (first | (with_reducible first | exact HB.out | apply below_alloc | apply pw_below_drewN | apply below_drew1 | refine below_set ?_ GE158.out | refine below_set ?_ GE159.out) | exact HB.out)⟩
 ·
  rw [if_neg c6] at H
  have c6b0 : (t162 == 0) = false := beq_eq_false_iff_ne.mpr c6
  have c6b1 : (t162 != 0) = true := bne_iff_ne.mpr c6
  obtain rfl := Option.some.inj H
  go_enter Try.func21,Try.ntmps21
  try go_wp2_with (first | ((with_reducible refine gate_dst (N := 2) rfl ?_); refine box_event ?hg (N := 2) ?hd (cs := #[.int .i64 a0_0,.int .i64 a0_1,.float .f64 a0_2,.string a0_3]) (t := 28) ?hr ?_; (case hd => rfl); (case hg => rfl); (case hr => first | (go_simp; done) | (go_simp; rfl)); intro gb158 hg w79 hbox hb; have n0_ := Aside0.mk (below_step (by repeat (first | (with_reducible first | exact HB.out | apply below_alloc | apply pw_below_drewN | apply below_drew1) | exact HB.out)) hb); have n1_ := Aside0.mk (hbox); have n2_ := Aside0.mk ((by rw [hg]; exact (below_size (by repeat (first | (with_reducible first | exact HB.out | apply below_alloc | apply pw_below_drewN | apply below_drew1) | exact HB.out))) : w.heap.size ≤ gb158)); have n3_ := Aside0.mk ((by rw [hg]; exact (below_size (by repeat (first | (with_reducible first | exact HB.out | apply below_alloc | apply pw_below_drewN | apply below_drew1) | exact HB.out))) : w.heap.size ≤ gb158)); clear HB; have HB := n0_; have BK158 := n1_; have GW158 := n2_; have GE158 := n3_; clear n0_ n1_ n2_ n3_; clear hb hbox hg) | ((with_reducible refine gate_dst (N := 3) rfl ?_); refine box_event ?hg (N := 3) ?hd (cs := #[.int .i64 a1_0,.int .i64 a1_1,.float .f64 a1_2,.string a1_3]) (t := 28) ?hr ?_; (case hd => rfl); (case hg => rfl); (case hr => first | (go_simp; done) | (go_simp; rfl)); intro gb159 hg w80 hbox hb; have n0_ := Aside0.mk (blk_below (g := gb158) (o := .cells #[.int .i64 a0_0,.int .i64 a0_1,.float .f64 a0_2,.string a0_3] 28 (0,0)) (by (with_reducible repeat (first | refine blk_drewN ?_ _ | refine blk_drew ?_ | refine blk_alloc ?_ _)); exact BK158.out) hb); have n1_ := Aside0.mk (below_step (by repeat (first | (with_reducible first | exact HB.out | apply below_alloc | apply pw_below_drewN | apply below_drew1 | refine below_set ?_ GE158.out) | exact HB.out)) hb); have n2_ := Aside0.mk (hbox); have n3_ := Aside0.mk ((by rw [hg]; exact (below_size (by repeat (first | (with_reducible first | exact HB.out | apply below_alloc | apply pw_below_drewN | apply below_drew1 | refine below_set ?_ GE158.out) | exact HB.out))) : w.heap.size ≤ gb159)); have n4_ := Aside0.mk ((by rw [hg]; exact (below_size (by repeat (first | (with_reducible first | exact HB.out | apply below_alloc | apply pw_below_drewN | apply below_drew1 | refine below_set ?_ GE158.out) | exact HB.out))) : w.heap.size ≤ gb159)); have n5_ := Aside0.mk ((by rw [hg]; exact Nat.ne_of_lt (blk_lt (g := gb158) (o := .cells #[.int .i64 a0_0,.int .i64 a0_1,.float .f64 a0_2,.string a0_3] 28 (0,0)) (by (with_reducible repeat (first | refine blk_drewN ?_ _ | refine blk_drew ?_ | refine blk_alloc ?_ _)); exact BK158.out)) : gb158 ≠ gb159)); have n6_ := Aside0.mk ((by rw [hg]; exact Nat.ne_of_gt (blk_lt (g := gb158) (o := .cells #[.int .i64 a0_0,.int .i64 a0_1,.float .f64 a0_2,.string a0_3] 28 (0,0)) (by (with_reducible repeat (first | refine blk_drewN ?_ _ | refine blk_drew ?_ | refine blk_alloc ?_ _)); exact BK158.out)) : gb159 ≠ gb158)); clear BK158; clear HB; have BK158 := n0_; have HB := n1_; have BK159 := n2_; have GW159 := n3_; have GE159 := n4_; have NB158_159 := n5_; have NB159_158 := n6_; clear n0_ n1_ n2_ n3_ n4_ n5_ n6_; clear hb hbox hg))
  have n0_ := Aside0.mk (blk_drew BK158.out)
  have n1_ := Aside0.mk (blk_drew BK159.out)
  have n2_ := Aside0.mk (below_drew1 HB.out)
  clear BK158
  clear BK159
  clear HB
  have BK158 := n0_
  have BK159 := n1_
  have HB := n2_
  clear n0_ n1_ n2_
  refine start_ (n := 6) (S := fun w' => w'.cell? ⟨gb158,0,none⟩ = some (.int .i64 a0_0) ∧ w'.cell? ⟨gb158,1,none⟩ = some (.int .i64 a0_1) ∧ w'.cell? ⟨gb158,2,none⟩ = some (.float .f64 a0_2) ∧ w'.cell? ⟨gb158,3,none⟩ = some (.string a0_3) ∧ w'.cell? ⟨gb159,0,none⟩ = some (.int .i64 a1_0) ∧ w'.cell? ⟨gb159,1,none⟩ = some (.int .i64 a1_1) ∧ w'.cell? ⟨gb159,2,none⟩ = some (.float .f64 a1_2) ∧ w'.cell? ⟨gb159,3,none⟩ = some (.string a1_3)) (ds := []) #[false,false,false,false,false,false] (by kernel_rfl) rfl rfl ⟨(blk_cell BK158.out 0).trans rfl,(blk_cell BK158.out 1).trans rfl,(blk_cell BK158.out 2).trans rfl,(blk_cell BK158.out 3).trans rfl,(blk_cell BK159.out 0).trans rfl,(blk_cell BK159.out 1).trans rfl,(blk_cell BK159.out 2).trans rfl,(blk_cell BK159.out 3).trans rfl⟩ (fun hHeld => ?_)
  generalize w80.drew = w81 at BK158 BK159 HB hHeld ⊢
  refine take_ (i := 0) (N := some 6) (v := ?_) (a' := ?_) #[true,false,false,false,false,false] rfl rfl (by kernel_rfl) (fun _ _ _ h => h) (Or.inl ⟨by rfl,?_⟩) hHeld ?_ ?_
  rotate_left
  ·
   rintro w' ⟨s0,s1,s2,s3,s4,s5,s6,s7⟩
   go_simp
   with_reducible rfl
  rotate_left
  ·
   simp only [Act.put,List.setIfInBounds_toArray,List.set_cons_zero,List.set_cons_succ,i64_w,i32_w]
   rfl
  refine take_ (i := 2) (N := some 8) (v := ?_) (a' := ?_) #[true,false,true,false,false,false] rfl rfl (by kernel_rfl) (fun _ _ _ h => h) (Or.inl ⟨by rfl,?_⟩) hHeld ?_ ?_
  rotate_left
  ·
   rintro w' ⟨s0,s1,s2,s3,s4,s5,s6,s7⟩
   go_simp
   with_reducible rfl
  rotate_left
  ·
   simp only [Act.put,List.setIfInBounds_toArray,List.set_cons_zero,List.set_cons_succ,i64_w,i32_w]
   rfl
  refine one_ (i := 1) (N := some 7) #[true,true,true,false,false,false] rfl rfl (by kernel_rfl) (by decide) (fun K hK => ?_)
  refine goes_ Try.func31 (by kernel_rfl) rfl #[.agg #[.int .i64 a0_0,.int .i64 a0_1,.float .f64 a0_2,.string a0_3]] (by rfl) rfl rfl (by (try simp only [List.map_toArray,List.map_cons,List.map_nil]); first | done | rfl | (simp only [List.length_drop,List.length_take]; rfl)) ?_
  with_reducible refine (value_class.calls k a0_0 a0_1 a0_2 a0_3 t160 _ A3.out).mono ?_
  rintro e w82 ⟨rfl,hb⟩
  refine ⟨_,rfl,?_⟩
  have n0_ := Aside0.mk (blk_below (g := gb158) (o := .cells #[.int .i64 a0_0,.int .i64 a0_1,.float .f64 a0_2,.string a0_3] 28 (0,0)) (by (with_reducible repeat (first | refine blk_drewN ?_ _ | refine blk_drew ?_ | refine blk_alloc ?_ _)); exact BK158.out) hb)
  have n1_ := Aside0.mk (blk_below (g := gb159) (o := .cells #[.int .i64 a1_0,.int .i64 a1_1,.float .f64 a1_2,.string a1_3] 28 (0,0)) (by (with_reducible repeat (first | refine blk_drewN ?_ _ | refine blk_drew ?_ | refine blk_alloc ?_ _)); exact BK159.out) hb)
  have n2_ := Aside0.mk (below_step (by repeat (first | (with_reducible first | exact HB.out | apply below_alloc | apply pw_below_drewN | apply below_drew1 | refine below_set ?_ GE158.out | refine below_set ?_ GE159.out) | exact HB.out)) hb)
  clear BK158
  clear BK159
  clear HB
  have BK158 := n0_
  have BK159 := n1_
  have HB := n2_
  clear n0_ n1_ n2_
  (try clear hb)
  (try clear hb2)
  (try clear hk)
  (try clear hi)
  refine hK.out _ _ ⟨(blk_cell BK158.out 0).trans rfl,(blk_cell BK158.out 1).trans rfl,(blk_cell BK158.out 2).trans rfl,(blk_cell BK158.out 3).trans rfl,(blk_cell BK159.out 0).trans rfl,(blk_cell BK159.out 1).trans rfl,(blk_cell BK159.out 2).trans rfl,(blk_cell BK159.out 3).trans rfl⟩ (fun hHeld => ?_)
  clear hK K
  refine norm_ (a' := ?_) ?_ ?_
  rotate_left
  ·
   show Act.put _ (some 7) _ = _
   simp only [Act.put,List.setIfInBounds_toArray,List.set_cons_zero,List.set_cons_succ,i64_w,i32_w]
   rfl
  refine one_ (i := 3) (N := some 9) #[true,true,true,true,false,false] rfl rfl (by kernel_rfl) (by decide) (fun K hK => ?_)
  refine goes_ Try.func31 (by kernel_rfl) rfl #[.agg #[.int .i64 a1_0,.int .i64 a1_1,.float .f64 a1_2,.string a1_3]] (by rfl) rfl rfl (by (try simp only [List.map_toArray,List.map_cons,List.map_nil]); first | done | rfl | (simp only [List.length_drop,List.length_take]; rfl)) ?_
  with_reducible refine (value_class.calls k a1_0 a1_1 a1_2 a1_3 t161 _ A4.out).mono ?_
  rintro e w83 ⟨rfl,hb⟩
  refine ⟨_,rfl,?_⟩
  have n0_ := Aside0.mk (blk_below (g := gb158) (o := .cells #[.int .i64 a0_0,.int .i64 a0_1,.float .f64 a0_2,.string a0_3] 28 (0,0)) (by (with_reducible repeat (first | refine blk_drewN ?_ _ | refine blk_drew ?_ | refine blk_alloc ?_ _)); exact BK158.out) hb)
  have n1_ := Aside0.mk (blk_below (g := gb159) (o := .cells #[.int .i64 a1_0,.int .i64 a1_1,.float .f64 a1_2,.string a1_3] 28 (0,0)) (by (with_reducible repeat (first | refine blk_drewN ?_ _ | refine blk_drew ?_ | refine blk_alloc ?_ _)); exact BK159.out) hb)
  have n2_ := Aside0.mk (below_step (by repeat (first | (with_reducible first | exact HB.out | apply below_alloc | apply pw_below_drewN | apply below_drew1 | refine below_set ?_ GE158.out | refine below_set ?_ GE159.out) | exact HB.out)) hb)
  clear BK158
  clear BK159
  clear HB
  have BK158 := n0_
  have BK159 := n1_
  have HB := n2_
  clear n0_ n1_ n2_
  (try clear hb)
  (try clear hb2)
  (try clear hk)
  (try clear hi)
  refine hK.out _ _ ⟨(blk_cell BK158.out 0).trans rfl,(blk_cell BK158.out 1).trans rfl,(blk_cell BK158.out 2).trans rfl,(blk_cell BK158.out 3).trans rfl,(blk_cell BK159.out 0).trans rfl,(blk_cell BK159.out 1).trans rfl,(blk_cell BK159.out 2).trans rfl,(blk_cell BK159.out 3).trans rfl⟩ (fun hHeld => ?_)
  clear hK K
  refine norm_ (a' := ?_) ?_ ?_
  rotate_left
  ·
   show Act.put _ (some 9) _ = _
   simp only [Act.put,List.setIfInBounds_toArray,List.set_cons_zero,List.set_cons_succ,i64_w,i32_w]
   rfl
  refine one_ (i := 4) (N := some 10) #[true,true,true,true,true,false] rfl rfl (by kernel_rfl) (by decide) (fun K hK => ?_)
  refine goes_ Try.func30 (by kernel_rfl) rfl #[.int .i64 t160,.int .i64 t161] (by rfl) rfl rfl (by (try simp only [List.map_toArray,List.map_cons,List.map_nil]); first | done | rfl | (simp only [List.length_drop,List.length_take]; rfl)) ?_
  with_reducible refine (cmp_Compare_int.calls t160 t161 t162 _ A5.out).mono ?_
  rintro e w' ⟨rfl,⟨nd,rfl⟩⟩
  refine ⟨_,rfl,?_⟩
  refine hK.out _ _ ⟨(blk_cell BK158.out 0).trans rfl,(blk_cell BK158.out 1).trans rfl,(blk_cell BK158.out 2).trans rfl,(blk_cell BK158.out 3).trans rfl,(blk_cell BK159.out 0).trans rfl,(blk_cell BK159.out 1).trans rfl,(blk_cell BK159.out 2).trans rfl,(blk_cell BK159.out 3).trans rfl⟩ (fun hHeld => ?_)
  clear hK K
  refine norm_ (a' := ?_) ?_ ?_
  rotate_left
  ·
   show Act.put _ (some 10) _ = _
   simp only [Act.put,List.setIfInBounds_toArray,List.set_cons_zero,List.set_cons_succ,i64_w,i32_w]
   rfl
  refine pure_ (i := 5) (N := some 5) (v := ?_) (a' := ?_) #[true,true,true,true,true,true] rfl rfl (by kernel_rfl) (fun _ _ _ h => h) (Or.inl ⟨by rfl,?_⟩) ?_ ?_
  rotate_left
  ·
   intro w'
   go_simp
   with_reducible rfl
  rotate_left
  ·
   simp only [Act.put,List.setIfInBounds_toArray,List.set_cons_zero,List.set_cons_succ,i64_w,i32_w]
   rfl
  refine done_ (by kernel_rfl) ?_
  try go_wp2
  go_ret
  exact ⟨by first | rfl | (simp [errW_none,errW_some] <;> rfl) | (simp [*,errW_none,errW_some] <;> rfl),by repeat (first | (with_reducible first | exact HB.out | apply below_alloc | apply pw_below_drewN | apply below_drew1 | refine below_set ?_ GE158.out | refine below_set ?_ GE159.out) | exact HB.out)⟩


end Go.Proofs.Ytgpkjdjjjenhcaa.Q
