/- Contracts of functions of the program: the call of each comes to what the plain Lean function of its name says, wherever that one is 'some'. Written by a program of this session. -/
import Derived.Test.YtgpkjdjjjenhcaaQx0
import Derived.Test.YtgpkjdjjjenhcaaQx4
import Derived.Test.YtgpkjdjjjenhcaaAs2
namespace Go.Proofs.Ytgpkjdjjjenhcaa.Q
open Go.RowKit Go.Proofs.YtgpkjdjjjenhcaaW.PrintWords Go.Proofs.YtgpkjdjjjenhcaaW.PrintLast Go.Proofs.Ytgpkjdjjjenhcaa.Fw Go.Proofs.YtgpkjdjjjenhcaaW.PrintMore
attribute [local go_sem] max2_int min2_int max_two min_two max_three min_three max_four min_four   -- for this text's walks alone
set_option linter.unusedVariables false
set_option linter.unusedSimpArgs false

/-! ### colonnaderef05_Compare: function 10 -/
def colonnaderef05_Compare.j0 : Nat → Bool → Bool → Bool → Int → Int → Nat → ByteArray → Int → Int → Nat → ByteArray → Option (Int)
  | 0, _, _, _, _, _, _, _, _, _, _, _ => none
  | k + 1, x5, x6, x17, x131000, x131001, x131002, x131003, x132000, x132001, x132002, x132003 => if x17 = true then (if (x5 == x6) = true then (some 0) else (if x5 = true then (some 1) else (some (-1)))) else ((colonnaderef05_class.f x131000 x131001 x131002 x131003).bind fun t134 => ((colonnaderef05_class.f x132000 x132001 x132002 x132003).bind fun t135 => (if t134 = t135 then ((colonnaderef05_class.f x131000 x131001 x131002 x131003).bind fun t139 => (if t139 = 0 then (some 0) else ((colonnaderef05_class.f x131000 x131001 x131002 x131003).bind fun t140 => (if t140 = 2 then ((colonnaderef05_texts.f k x131003 x132003).bind fun t141 => (some t141)) else ((colonnaderef05_numbers.f x131000 x131001 x131002 x131003 x132000 x132001 x132002 x132003).bind fun t142 => (if t142 = 0 then ((colonnaderef05_less.f x131000 x132000).bind fun t143 => (some t143)) else (some t142))))))) else ((colonnaderef05_class.f x131000 x131001 x131002 x131003).bind fun t136 => ((colonnaderef05_class.f x132000 x132001 x132002 x132003).bind fun t137 => ((colonnaderef05_less.f t136 t137).bind fun t138 => (some t138)))))))
def colonnaderef05_Compare.f (k : Nat) (a0_0 : Int) (a0_1 : Int) (a0_2 : Nat) (a0_3 : ByteArray) (a1_0 : Int) (a1_1 : Int) (a1_2 : Nat) (a1_3 : ByteArray) : Option (Int) := (colonnaderef05_May.f k a0_0 a0_1 a0_2 a0_3).bind fun t132 => ((colonnaderef05_May.f k a1_0 a1_1 a1_2 a1_3).bind fun t133 => (if t132 = true then (colonnaderef05_Compare.j0 k t132 t133 (!t133) a0_0 a0_1 a0_2 a0_3 a1_0 a1_1 a1_2 a1_3) else (colonnaderef05_Compare.j0 k t132 t133 true a0_0 a0_1 a0_2 a0_3 a1_0 a1_1 a1_2 a1_3)))
theorem colonnaderef05_Compare.mono_l : ∀ k, (∀ y0 y1 y2 y3 y4 y5 y6 y7 y8 y9 y10, LeO (colonnaderef05_Compare.j0 k y0 y1 y2 y3 y4 y5 y6 y7 y8 y9 y10) (colonnaderef05_Compare.j0 (k + 1) y0 y1 y2 y3 y4 y5 y6 y7 y8 y9 y10))
  | 0 => fun _ _ _ _ _ _ _ _ _ _ _ r h => by simp [colonnaderef05_Compare.j0] at h
  | k + 1 => by
    have ih0 := colonnaderef05_Compare.mono_l k
    · intro y0 y1 y2 y3 y4 y5 y6 y7 y8 y9 y10
      unfold colonnaderef05_Compare.j0
      repeat' first
      | (with_reducible exact ih0 _ _ _ _ _ _ _ _ _ _ _)
      | (with_reducible exact colonnaderef05_May.mono _ _ _ _ _)
      | (with_reducible exact colonnaderef05_texts.mono _ _ _)
      | (with_reducible exact LeO.refl _)
      | (with_reducible exact LeO.none _)
      | (with_reducible refine LeO.ite ?_ ?_)
      | (with_reducible refine LeO.bind ?_ (fun _ => ?_))
      | exact ih0 _ _ _ _ _ _ _ _ _ _ _
      | exact colonnaderef05_May.mono _ _ _ _ _
      | exact colonnaderef05_texts.mono _ _ _
      | exact LeO.none _
      | refine LeO.ite ?_ ?_
      | refine LeO.bind ?_ (fun _ => ?_)
theorem colonnaderef05_Compare.mono : ∀ a0 a1 a2 a3 a4 a5 a6 a7 k, LeO (colonnaderef05_Compare.f k a0 a1 a2 a3 a4 a5 a6 a7) (colonnaderef05_Compare.f (k + 1) a0 a1 a2 a3 a4 a5 a6 a7) := by
  intro a0 a1 a2 a3 a4 a5 a6 a7 k
  have ih0 := colonnaderef05_Compare.mono_l k
  unfold colonnaderef05_Compare.f
  repeat' first
      | (with_reducible exact ih0 _ _ _ _ _ _ _ _ _ _ _)
      | (with_reducible exact colonnaderef05_May.mono _ _ _ _ _)
      | (with_reducible exact colonnaderef05_texts.mono _ _ _)
      | (with_reducible exact LeO.refl _)
      | (with_reducible exact LeO.none _)
      | (with_reducible refine LeO.ite ?_ ?_)
      | (with_reducible refine LeO.bind ?_ (fun _ => ?_))
      | exact ih0 _ _ _ _ _ _ _ _ _ _ _
      | exact colonnaderef05_May.mono _ _ _ _ _
      | exact colonnaderef05_texts.mono _ _ _
      | exact LeO.none _
      | refine LeO.ite ?_ ?_
      | refine LeO.bind ?_ (fun _ => ?_)
set_option maxHeartbeats 8000000 in
set_option maxRecDepth 100000 in
theorem colonnaderef05_Compare.calls (k : Nat) (a0_0 : Int) (a0_1 : Int) (a0_2 : Nat) (a0_3 : ByteArray) (a1_0 : Int) (a1_1 : Int) (a1_2 : Nat) (a1_3 : ByteArray) (r : Int) (w : World) (h : colonnaderef05_Compare.f k a0_0 a0_1 a0_2 a0_3 a1_0 a1_1 a1_2 a1_3 = some r) :
  Calls Try.prog 10 #[.agg #[.int .i64 a0_0,.int .i64 a0_1,.float .f64 a0_2,.string a0_3],.agg #[.int .i64 a1_0,.int .i64 a1_1,.float .f64 a1_2,.string a1_3]] w fun e w' => e = .returned (.int .i64 r) ∧ Below w.heap.size w w' := by
 have hu28 := Try.underlying28
 have HB := Aside0.mk (Below.refl w.heap.size w)
 have H : ((colonnaderef05_May.f k a0_0 a0_1 a0_2 a0_3).bind fun t132 => ((colonnaderef05_May.f k a1_0 a1_1 a1_2 a1_3).bind fun t133 => (if t132 = true then (colonnaderef05_Compare.j0 k t132 t133 (!t133) a0_0 a0_1 a0_2 a0_3 a1_0 a1_1 a1_2 a1_3) else (colonnaderef05_Compare.j0 k t132 t133 true a0_0 a0_1 a0_2 a0_3 a1_0 a1_1 a1_2 a1_3)))) = some r := h
 clear h
 replace H := Option.bind_eq_some_iff.mp H
 obtain ⟨t132,A30,H⟩ := H
 replace H : ((colonnaderef05_May.f k a1_0 a1_1 a1_2 a1_3).bind fun t133 => (if t132 = true then (colonnaderef05_Compare.j0 k t132 t133 (!t133) a0_0 a0_1 a0_2 a0_3 a1_0 a1_1 a1_2 a1_3) else (colonnaderef05_Compare.j0 k t132 t133 true a0_0 a0_1 a0_2 a0_3 a1_0 a1_1 a1_2 a1_3))) = some r := H
 have A3 := Aside0.mk A30
 clear A30
 replace H := Option.bind_eq_some_iff.mp H
 obtain ⟨t133,A40,H⟩ := H
 replace H : (if t132 = true then (colonnaderef05_Compare.j0 k t132 t133 (!t133) a0_0 a0_1 a0_2 a0_3 a1_0 a1_1 a1_2 a1_3) else (colonnaderef05_Compare.j0 k t132 t133 true a0_0 a0_1 a0_2 a0_3 a1_0 a1_1 a1_2 a1_3)) = some r := H
 have A4 := Aside0.mk A40
 clear A40
 have HC5 := Aside0.mk H
 clear H
 go_enter Try.func10,Try.ntmps10
 go_upto_region 3 with (first | ((with_reducible refine gate_dst (N := 2) rfl ?_); refine box_event ?hg (N := 2) ?hd (cs := #[.int .i64 a0_0,.int .i64 a0_1,.float .f64 a0_2,.string a0_3]) (t := 28) ?hr ?_; (case hd => rfl); (case hg => rfl); (case hr => first | (go_simp; done) | (go_simp; rfl)); intro gb130 hg w6 hbox hb; have n0_ := Aside0.mk (below_step (by repeat (first | (with_reducible first | exact HB.out | apply below_alloc | apply pw_below_drewN | apply below_drew1) | exact HB.out)) hb); have n1_ := Aside0.mk (hbox); have n2_ := Aside0.mk ((by rw [hg]; exact (below_size (by repeat (first | (with_reducible first | exact HB.out | apply below_alloc | apply pw_below_drewN | apply below_drew1) | exact HB.out))) : w.heap.size ≤ gb130)); have n3_ := Aside0.mk ((by rw [hg]; exact (below_size (by repeat (first | (with_reducible first | exact HB.out | apply below_alloc | apply pw_below_drewN | apply below_drew1) | exact HB.out))) : w.heap.size ≤ gb130)); clear HB; have HB := n0_; have BK130 := n1_; have GW130 := n2_; have GE130 := n3_; clear n0_ n1_ n2_ n3_; clear hb hbox hg) | ((with_reducible refine gate_dst (N := 3) rfl ?_); refine box_event ?hg (N := 3) ?hd (cs := #[.int .i64 a1_0,.int .i64 a1_1,.float .f64 a1_2,.string a1_3]) (t := 28) ?hr ?_; (case hd => rfl); (case hg => rfl); (case hr => first | (go_simp; done) | (go_simp; rfl)); intro gb131 hg w7 hbox hb; have n0_ := Aside0.mk (blk_below (g := gb130) (o := .cells #[.int .i64 a0_0,.int .i64 a0_1,.float .f64 a0_2,.string a0_3] 28 (0,0)) (by (with_reducible repeat (first | refine blk_drewN ?_ _ | refine blk_drew ?_ | refine blk_alloc ?_ _)); exact BK130.out) hb); have n1_ := Aside0.mk (below_step (by repeat (first | (with_reducible first | exact HB.out | apply below_alloc | apply pw_below_drewN | apply below_drew1 | refine below_set ?_ GE130.out) | exact HB.out)) hb); have n2_ := Aside0.mk (hbox); have n3_ := Aside0.mk ((by rw [hg]; exact (below_size (by repeat (first | (with_reducible first | exact HB.out | apply below_alloc | apply pw_below_drewN | apply below_drew1 | refine below_set ?_ GE130.out) | exact HB.out))) : w.heap.size ≤ gb131)); have n4_ := Aside0.mk ((by rw [hg]; exact (below_size (by repeat (first | (with_reducible first | exact HB.out | apply below_alloc | apply pw_below_drewN | apply below_drew1 | refine below_set ?_ GE130.out) | exact HB.out))) : w.heap.size ≤ gb131)); have n5_ := Aside0.mk ((by rw [hg]; exact Nat.ne_of_lt (blk_lt (g := gb130) (o := .cells #[.int .i64 a0_0,.int .i64 a0_1,.float .f64 a0_2,.string a0_3] 28 (0,0)) (by (with_reducible repeat (first | refine blk_drewN ?_ _ | refine blk_drew ?_ | refine blk_alloc ?_ _)); exact BK130.out)) : gb130 ≠ gb131)); have n6_ := Aside0.mk ((by rw [hg]; exact Nat.ne_of_gt (blk_lt (g := gb130) (o := .cells #[.int .i64 a0_0,.int .i64 a0_1,.float .f64 a0_2,.string a0_3] 28 (0,0)) (by (with_reducible repeat (first | refine blk_drewN ?_ _ | refine blk_drew ?_ | refine blk_alloc ?_ _)); exact BK130.out)) : gb131 ≠ gb130)); clear BK130; clear HB; have BK130 := n0_; have HB := n1_; have BK131 := n2_; have GW131 := n3_; have GE131 := n4_; have NB130_131 := n5_; have NB131_130 := n6_; clear n0_ n1_ n2_ n3_ n4_ n5_ n6_; clear hb hbox hg; have hnb8 := NB130_131.out; have hnc8 := NB131_130.out; have hcz9_0 : w7.cell? ⟨gb130,0,none⟩ = some (.int .i64 a0_0) := (blk_cell BK130.out 0).trans rfl; have hcz9_1 : w7.cell? ⟨gb130,1,none⟩ = some (.int .i64 a0_1) := (blk_cell BK130.out 1).trans rfl; have hcz9_2 : w7.cell? ⟨gb130,2,none⟩ = some (.float .f64 a0_2) := (blk_cell BK130.out 2).trans rfl; have hcz9_3 : w7.cell? ⟨gb130,3,none⟩ = some (.string a0_3) := (blk_cell BK130.out 3).trans rfl; have hfz9_0 := blk_frozen BK130.out 0; have hfz9_1 := blk_frozen BK130.out 1; have hfz9_2 := blk_frozen BK130.out 2; have hfz9_3 := blk_frozen BK130.out 3) | ((with_reducible refine gate_callee (f := 14) rfl ?_); refine goesL_ (some 9) rfl rfl Try.func14 (by kernel_rfl) rfl #[.agg #[.int .i64 a0_0,.int .i64 a0_1,.float .f64 a0_2,.string a0_3]] rfl (by (try simp only [List.map_toArray,List.map_cons,List.map_nil]); first | done | rfl | (simp only [List.length_drop,List.length_take]; rfl)) ?_; (with_reducible refine (colonnaderef05_May.calls k a0_0 a0_1 a0_2 a0_3 t132 _ A3.out).mono ?_); rintro e w10 ⟨rfl,hb⟩; refine ⟨_,rfl,?_⟩; have n0_ := Aside0.mk (blk_below (g := gb130) (o := .cells #[.int .i64 a0_0,.int .i64 a0_1,.float .f64 a0_2,.string a0_3] 28 (0,0)) (by (with_reducible repeat (first | refine blk_drewN ?_ _ | refine blk_drew ?_ | refine blk_alloc ?_ _)); exact BK130.out) hb); have n1_ := Aside0.mk (blk_below (g := gb131) (o := .cells #[.int .i64 a1_0,.int .i64 a1_1,.float .f64 a1_2,.string a1_3] 28 (0,0)) (by (with_reducible repeat (first | refine blk_drewN ?_ _ | refine blk_drew ?_ | refine blk_alloc ?_ _)); exact BK131.out) hb); have n2_ := Aside0.mk (below_step (by repeat (first | (with_reducible first | exact HB.out | apply below_alloc | apply pw_below_drewN | apply below_drew1 | refine below_set ?_ GE130.out | refine below_set ?_ GE131.out) | exact HB.out)) hb); clear BK130; clear BK131; clear HB; have BK130 := n0_; have BK131 := n1_; have HB := n2_; clear n0_ n1_ n2_; (try clear hb); (try clear hb2); (try clear hk); (try clear hi); have hcz11_0 : w10.cell? ⟨gb131,0,none⟩ = some (.int .i64 a1_0) := (blk_cell BK131.out 0).trans rfl; have hcz11_1 : w10.cell? ⟨gb131,1,none⟩ = some (.int .i64 a1_1) := (blk_cell BK131.out 1).trans rfl; have hcz11_2 : w10.cell? ⟨gb131,2,none⟩ = some (.float .f64 a1_2) := (blk_cell BK131.out 2).trans rfl; have hcz11_3 : w10.cell? ⟨gb131,3,none⟩ = some (.string a1_3) := (blk_cell BK131.out 3).trans rfl; have hfz11_0 := blk_frozen BK131.out 0; have hfz11_1 := blk_frozen BK131.out 1; have hfz11_2 := blk_frozen BK131.out 2; have hfz11_3 := blk_frozen BK131.out 3) | ((with_reducible refine gate_callee (f := 14) rfl ?_); refine goesL_ (some 11) rfl rfl Try.func14 (by kernel_rfl) rfl #[.agg #[.int .i64 a1_0,.int .i64 a1_1,.float .f64 a1_2,.string a1_3]] rfl (by (try simp only [List.map_toArray,List.map_cons,List.map_nil]); first | done | rfl | (simp only [List.length_drop,List.length_take]; rfl)) ?_; (with_reducible refine (colonnaderef05_May.calls k a1_0 a1_1 a1_2 a1_3 t133 _ A4.out).mono ?_); rintro e w12 ⟨rfl,hb⟩; refine ⟨_,rfl,?_⟩; have n0_ := Aside0.mk (blk_below (g := gb130) (o := .cells #[.int .i64 a0_0,.int .i64 a0_1,.float .f64 a0_2,.string a0_3] 28 (0,0)) (by (with_reducible repeat (first | refine blk_drewN ?_ _ | refine blk_drew ?_ | refine blk_alloc ?_ _)); exact BK130.out) hb); have n1_ := Aside0.mk (blk_below (g := gb131) (o := .cells #[.int .i64 a1_0,.int .i64 a1_1,.float .f64 a1_2,.string a1_3] 28 (0,0)) (by (with_reducible repeat (first | refine blk_drewN ?_ _ | refine blk_drew ?_ | refine blk_alloc ?_ _)); exact BK131.out) hb); have n2_ := Aside0.mk (below_step (by repeat (first | (with_reducible first | exact HB.out | apply below_alloc | apply pw_below_drewN | apply below_drew1 | refine below_set ?_ GE130.out | refine below_set ?_ GE131.out) | exact HB.out)) hb); clear BK130; clear BK131; clear HB; have BK130 := n0_; have BK131 := n1_; have HB := n2_; clear n0_ n1_ n2_; (try clear hb); (try clear hb2); (try clear hk); (try clear hi)))
 (try simp only [Act.put,List.setIfInBounds_toArray,List.set_cons_zero,List.set_cons_succ])
 go_cut [17] (fun v17 wc => ∃ (kq : Nat) (x17_4 : Bool),v17 = .bool x17_4 ∧ Aside0 (colonnaderef05_Compare.j0 kq t132 t133 x17_4 a0_0 a0_1 a0_2 a0_3 a1_0 a1_1 a1_2 a1_3 = some r) ∧ Aside0 (kq ≤ k) ∧ Aside0 (wc.heap[gb130]? = some (.cells #[.int .i64 a0_0,.int .i64 a0_1,.float .f64 a0_2,.string a0_3] 28 (0,0))) ∧ Aside0 (wc.heap[gb131]? = some (.cells #[.int .i64 a1_0,.int .i64 a1_1,.float .f64 a1_2,.string a1_3] 28 (0,0))) ∧ Aside0 (Below w.heap.size w wc))
 case first =>
  have H := HC5.out
  clear HC5
  by_cases c13 : t132 = true
  ·
   subst c13
   have H1 : (colonnaderef05_Compare.j0 k true t133 (!t133) a0_0 a0_1 a0_2 a0_3 a1_0 a1_1 a1_2 a1_3) = some r := by rw [if_pos rfl] at H; exact H
   clear H
   have H := H1
   clear H1
   have H' := Aside0.mk H
   clear H
   go_wp2
   go_meet
   case rel => exact ⟨_,(!t133),(by first | rfl | (simp; done) | (simp [*]; done)),H',⟨by first | omega | exact Nat.le_refl _⟩,⟨by (with_reducible repeat (first | refine blk_drewN ?_ _ | refine blk_drew ?_ | refine blk_alloc ?_ _)); exact BK130.out⟩,⟨by (with_reducible repeat (first | refine blk_drewN ?_ _ | refine blk_drew ?_ | refine blk_alloc ?_ _)); exact BK131.out⟩,⟨by repeat (first | (with_reducible first | exact HB.out | apply below_alloc | apply pw_below_drewN | apply below_drew1 | refine below_set ?_ GE130.out | refine below_set ?_ GE131.out) | exact HB.out)⟩⟩
  ·
   replace c13 := Bool.eq_false_iff.mpr c13
   subst c13
   have H1 : (colonnaderef05_Compare.j0 k false t133 true a0_0 a0_1 a0_2 a0_3 a1_0 a1_1 a1_2 a1_3) = some r := by rw [if_neg (show ¬ (false = true) by decide)] at H; exact H
   clear H
   have H := H1
   clear H1
   have H' := Aside0.mk H
   clear H
   go_wp2
   go_meet
   case rel => exact ⟨_,(true),(by first | rfl | (simp; done) | (simp [*]; done)),H',⟨by first | omega | exact Nat.le_refl _⟩,⟨by (with_reducible repeat (first | refine blk_drewN ?_ _ | refine blk_drew ?_ | refine blk_alloc ?_ _)); exact BK130.out⟩,⟨by (with_reducible repeat (first | refine blk_drewN ?_ _ | refine blk_drew ?_ | refine blk_alloc ?_ _)); exact BK131.out⟩,⟨by repeat (first | (with_reducible first | exact HB.out | apply below_alloc | apply pw_below_drewN | apply below_drew1 | refine below_set ?_ GE130.out | refine below_set ?_ GE131.out) | exact HB.out)⟩⟩
 case rest =>
  clear HC5
  try clear c1
  try clear p2
  try clear c8
  try clear c10
  try clear c13
  try clear hcz11_0
  try clear hcz11_1
  try clear hcz11_2
  try clear hcz11_3
  try clear hcz9_0
  try clear hcz9_1
  try clear hcz9_2
  try clear hcz9_3
  try clear hfz11_0
  try clear hfz11_1
  try clear hfz11_2
  try clear hfz11_3
  try clear hfz9_0
  try clear hfz9_1
  try clear hfz9_2
  try clear hfz9_3
  obtain ⟨kq,x17_4,rfl,HA,HJ4,BK130,BK131,HB⟩ := hcut
  cases kq with
  | zero => exact absurd HA.out (by simp [colonnaderef05_Compare.j0])
  | succ kj4 =>
   have H := HA.out
   clear HA
   simp only [colonnaderef05_Compare.j0] at H
   by_cases c14 : x17_4 = true
   ·
    subst c14
    have H1 : (if (t132 == t133) = true then (some 0) else (if t132 = true then (some 1) else (some (-1)))) = some r := by rw [if_pos rfl] at H; exact H
    clear H
    have H := H1
    clear H1
    by_cases c15 : (t132 == t133) = true
    ·
     rw [if_pos c15] at H
     have c15b0 : (t132 == t133) = true := c15
     (try (have c15b1 : decide (t132 = t133) = true := by simpa using c15))
     (try (have c15b2 : (t132 == t133) = true := by simpa using c15))
     clear c15
     obtain rfl := Option.some.inj H
     go_wp2
     go_ret
     exact ⟨by first | rfl | (simp [errW_none,errW_some] <;> rfl) | (simp [*,errW_none,errW_some] <;> rfl),by repeat (first | (with_reducible first | exact HB.out | apply below_alloc | apply pw_below_drewN | apply below_drew1 | refine below_set ?_ GE130.out | refine below_set ?_ GE131.out) | exact HB.out)⟩
    ·
     rw [if_neg c15] at H
     have c15b0 : (t132 == t133) = false := by simpa using c15
     (try (have c15b1 : decide (t132 = t133) = false := by simpa using c15))
     (try (have c15b2 : (t132 == t133) = false := by simpa using c15))
     (try (have c15b3 : ¬ (t132 = t133) := by simpa using c15))
     clear c15
     by_cases c16 : t132 = true
     ·
      subst c16
      have H1 : (some 1) = some r := by rw [if_pos rfl] at H; exact H
      clear H
      have H := H1
      clear H1
      obtain rfl := Option.some.inj H
      go_wp2
      go_ret
      exact ⟨by first | rfl | (simp [errW_none,errW_some] <;> rfl) | (simp [*,errW_none,errW_some] <;> rfl),by repeat (first | (with_reducible first | exact HB.out | apply below_alloc | apply pw_below_drewN | apply below_drew1 | refine below_set ?_ GE130.out | refine below_set ?_ GE131.out) | exact HB.out)⟩
     ·
      replace c16 := Bool.eq_false_iff.mpr c16
      subst c16
      have H1 : (some (-1)) = some r := by rw [if_neg (show ¬ (false = true) by decide)] at H; exact H
      clear H
      have H := H1
      clear H1
      obtain rfl := Option.some.inj H
      go_wp2
      go_ret
      exact ⟨by first | rfl | (simp [errW_none,errW_some] <;> rfl) | (simp [*,errW_none,errW_some] <;> rfl),by repeat (first | (with_reducible first | exact HB.out | apply below_alloc | apply pw_below_drewN | apply below_drew1 | refine below_set ?_ GE130.out | refine below_set ?_ GE131.out) | exact HB.out)⟩
   ·
    replace c14 := Bool.eq_false_iff.mpr c14
    subst c14
    have H1 : ((colonnaderef05_class.f a0_0 a0_1 a0_2 a0_3).bind fun t134 => ((colonnaderef05_class.f a1_0 a1_1 a1_2 a1_3).bind fun t135 => (if t134 = t135 then ((colonnaderef05_class.f a0_0 a0_1 a0_2 a0_3).bind fun t139 => (if t139 = 0 then (some 0) else ((colonnaderef05_class.f a0_0 a0_1 a0_2 a0_3).bind fun t140 => (if t140 = 2 then ((colonnaderef05_texts.f kj4 a0_3 a1_3).bind fun t141 => (some t141)) else ((colonnaderef05_numbers.f a0_0 a0_1 a0_2 a0_3 a1_0 a1_1 a1_2 a1_3).bind fun t142 => (if t142 = 0 then ((colonnaderef05_less.f a0_0 a1_0).bind fun t143 => (some t143)) else (some t142))))))) else ((colonnaderef05_class.f a0_0 a0_1 a0_2 a0_3).bind fun t136 => ((colonnaderef05_class.f a1_0 a1_1 a1_2 a1_3).bind fun t137 => ((colonnaderef05_less.f t136 t137).bind fun t138 => (some t138))))))) = some r := by rw [if_neg (show ¬ (false = true) by decide)] at H; exact H
    clear H
    have H := H1
    clear H1
    replace H := Option.bind_eq_some_iff.mp H
    obtain ⟨t134,A170,H⟩ := H
    replace H : ((colonnaderef05_class.f a1_0 a1_1 a1_2 a1_3).bind fun t135 => (if t134 = t135 then ((colonnaderef05_class.f a0_0 a0_1 a0_2 a0_3).bind fun t139 => (if t139 = 0 then (some 0) else ((colonnaderef05_class.f a0_0 a0_1 a0_2 a0_3).bind fun t140 => (if t140 = 2 then ((colonnaderef05_texts.f kj4 a0_3 a1_3).bind fun t141 => (some t141)) else ((colonnaderef05_numbers.f a0_0 a0_1 a0_2 a0_3 a1_0 a1_1 a1_2 a1_3).bind fun t142 => (if t142 = 0 then ((colonnaderef05_less.f a0_0 a1_0).bind fun t143 => (some t143)) else (some t142))))))) else ((colonnaderef05_class.f a0_0 a0_1 a0_2 a0_3).bind fun t136 => ((colonnaderef05_class.f a1_0 a1_1 a1_2 a1_3).bind fun t137 => ((colonnaderef05_less.f t136 t137).bind fun t138 => (some t138)))))) = some r := H
    have A17 := Aside0.mk A170
    clear A170
    replace H := Option.bind_eq_some_iff.mp H
    obtain ⟨t135,A180,H⟩ := H
    replace H : (if t134 = t135 then ((colonnaderef05_class.f a0_0 a0_1 a0_2 a0_3).bind fun t139 => (if t139 = 0 then (some 0) else ((colonnaderef05_class.f a0_0 a0_1 a0_2 a0_3).bind fun t140 => (if t140 = 2 then ((colonnaderef05_texts.f kj4 a0_3 a1_3).bind fun t141 => (some t141)) else ((colonnaderef05_numbers.f a0_0 a0_1 a0_2 a0_3 a1_0 a1_1 a1_2 a1_3).bind fun t142 => (if t142 = 0 then ((colonnaderef05_less.f a0_0 a1_0).bind fun t143 => (some t143)) else (some t142))))))) else ((colonnaderef05_class.f a0_0 a0_1 a0_2 a0_3).bind fun t136 => ((colonnaderef05_class.f a1_0 a1_1 a1_2 a1_3).bind fun t137 => ((colonnaderef05_less.f t136 t137).bind fun t138 => (some t138))))) = some r := H
    have A18 := Aside0.mk A180
    clear A180
    by_cases c19 : t134 = t135
    ·
     rw [if_pos c19] at H
     have c19b0 : (t134 == t135) = true := beq_iff_eq.mpr c19
     have c19b1 : (t134 != t135) = false := bne_eq_false_iff_eq.mpr c19
     clear c19
     replace H := Option.bind_eq_some_iff.mp H
     obtain ⟨t139,A200,H⟩ := H
     replace H : (if t139 = 0 then (some 0) else ((colonnaderef05_class.f a0_0 a0_1 a0_2 a0_3).bind fun t140 => (if t140 = 2 then ((colonnaderef05_texts.f kj4 a0_3 a1_3).bind fun t141 => (some t141)) else ((colonnaderef05_numbers.f a0_0 a0_1 a0_2 a0_3 a1_0 a1_1 a1_2 a1_3).bind fun t142 => (if t142 = 0 then ((colonnaderef05_less.f a0_0 a1_0).bind fun t143 => (some t143)) else (some t142)))))) = some r := H
     have A20 := Aside0.mk A200
     clear A200
     by_cases c21 : t139 = 0
     ·
      rw [if_pos c21] at H
      have c21b0 : (t139 == 0) = true := beq_iff_eq.mpr c21
      have c21b1 : (t139 != 0) = false := bne_eq_false_iff_eq.mpr c21
      clear c21
      obtain rfl := Option.some.inj H
      try go_wp2
      have n0_ := Aside0.mk (blk_drew BK130.out)
      have n1_ := Aside0.mk (blk_drew BK131.out)
      have n2_ := Aside0.mk (below_drew1 HB.out)
      clear BK130
      clear BK131
      clear HB
      have BK130 := n0_
      have BK131 := n1_
      have HB := n2_
      clear n0_ n1_ n2_
      refine start_ (n := 5) (S := fun w' => w'.cell? ⟨gb130,0,none⟩ = some (.int .i64 a0_0) ∧ w'.cell? ⟨gb130,1,none⟩ = some (.int .i64 a0_1) ∧ w'.cell? ⟨gb130,2,none⟩ = some (.float .f64 a0_2) ∧ w'.cell? ⟨gb130,3,none⟩ = some (.string a0_3) ∧ w'.cell? ⟨gb131,0,none⟩ = some (.int .i64 a1_0) ∧ w'.cell? ⟨gb131,1,none⟩ = some (.int .i64 a1_1) ∧ w'.cell? ⟨gb131,2,none⟩ = some (.float .f64 a1_2) ∧ w'.cell? ⟨gb131,3,none⟩ = some (.string a1_3)) (ds := []) #[false,false,false,false,false] (by kernel_rfl) rfl rfl ⟨(blk_cell BK130.out 0).trans rfl,(blk_cell BK130.out 1).trans rfl,(blk_cell BK130.out 2).trans rfl,(blk_cell BK130.out 3).trans rfl,(blk_cell BK131.out 0).trans rfl,(blk_cell BK131.out 1).trans rfl,(blk_cell BK131.out 2).trans rfl,(blk_cell BK131.out 3).trans rfl⟩ (fun hHeld => ?_)
      generalize wc.drew = w22 at BK130 BK131 HB hHeld ⊢
      refine take_ (i := 0) (N := some 22) (v := ?_) (a' := ?_) #[true,false,false,false,false] rfl rfl (by kernel_rfl) (fun _ _ _ h => h) (Or.inl ⟨by rfl,?_⟩) hHeld ?_ ?_
      rotate_left
      ·
       rintro w' ⟨s0,s1,s2,s3,s4,s5,s6,s7⟩
       go_simp
       with_reducible rfl
      rotate_left
      ·
       simp only [Act.put,List.setIfInBounds_toArray,List.set_cons_zero,List.set_cons_succ,i64_w,i32_w]
       rfl
      refine take_ (i := 2) (N := some 24) (v := ?_) (a' := ?_) #[true,false,true,false,false] rfl rfl (by kernel_rfl) (fun _ _ _ h => h) (Or.inl ⟨by rfl,?_⟩) hHeld ?_ ?_
      rotate_left
      ·
       rintro w' ⟨s0,s1,s2,s3,s4,s5,s6,s7⟩
       go_simp
       with_reducible rfl
      rotate_left
      ·
       simp only [Act.put,List.setIfInBounds_toArray,List.set_cons_zero,List.set_cons_succ,i64_w,i32_w]
       rfl
      refine one_ (i := 1) (N := some 23) #[true,true,true,false,false] rfl rfl (by kernel_rfl) (by decide) (fun K hK => ?_)
      refine goes_ Try.func15 (by kernel_rfl) rfl #[.agg #[.int .i64 a0_0,.int .i64 a0_1,.float .f64 a0_2,.string a0_3]] (by rfl) rfl rfl (by (try simp only [List.map_toArray,List.map_cons,List.map_nil]); first | done | rfl | (simp only [List.length_drop,List.length_take]; rfl)) ?_
      with_reducible refine (colonnaderef05_class.calls a0_0 a0_1 a0_2 a0_3 t134 _ A17.out).mono ?_
      rintro e w23 ⟨rfl,hb⟩
      refine ⟨_,rfl,?_⟩
      have n0_ := Aside0.mk (blk_below (g := gb130) (o := .cells #[.int .i64 a0_0,.int .i64 a0_1,.float .f64 a0_2,.string a0_3] 28 (0,0)) (by (with_reducible repeat (first | refine blk_drewN ?_ _ | refine blk_drew ?_ | refine blk_alloc ?_ _)); exact BK130.out) hb)
      have n1_ := Aside0.mk (blk_below (g := gb131) (o := .cells #[.int .i64 a1_0,.int .i64 a1_1,.float .f64 a1_2,.string a1_3] 28 (0,0)) (by (with_reducible repeat (first | refine blk_drewN ?_ _ | refine blk_drew ?_ | refine blk_alloc ?_ _)); exact BK131.out) hb)
      have n2_ := Aside0.mk (below_step (by repeat (first | (with_reducible first | exact HB.out | apply below_alloc | apply pw_below_drewN | apply below_drew1 | refine below_set ?_ GE130.out | refine below_set ?_ GE131.out) | exact HB.out)) hb)
      clear BK130
      clear BK131
      clear HB
      have BK130 := n0_
      have BK131 := n1_
      have HB := n2_
      clear n0_ n1_ n2_
      (try clear hb)
      (try clear hb2)
      (try clear hk)
      (try clear hi)
      refine hK.out _ _ ⟨(blk_cell BK130.out 0).trans rfl,(blk_cell BK130.out 1).trans rfl,(blk_cell BK130.out 2).trans rfl,(blk_cell BK130.out 3).trans rfl,(blk_cell BK131.out 0).trans rfl,(blk_cell BK131.out 1).trans rfl,(blk_cell BK131.out 2).trans rfl,(blk_cell BK131.out 3).trans rfl⟩ (fun hHeld => ?_)
      clear hK K
      refine norm_ (a' := ?_) ?_ ?_
      rotate_left
      ·
       show Act.put _ (some 23) _ = _
       simp only [Act.put,List.setIfInBounds_toArray,List.set_cons_zero,List.set_cons_succ,i64_w,i32_w]
       rfl
      refine one_ (i := 3) (N := some 25) #[true,true,true,true,false] rfl rfl (by kernel_rfl) (by decide) (fun K hK => ?_)
      refine goes_ Try.func15 (by kernel_rfl) rfl #[.agg #[.int .i64 a1_0,.int .i64 a1_1,.float .f64 a1_2,.string a1_3]] (by rfl) rfl rfl (by (try simp only [List.map_toArray,List.map_cons,List.map_nil]); first | done | rfl | (simp only [List.length_drop,List.length_take]; rfl)) ?_
      with_reducible refine (colonnaderef05_class.calls a1_0 a1_1 a1_2 a1_3 t135 _ A18.out).mono ?_
      rintro e w24 ⟨rfl,hb⟩
      refine ⟨_,rfl,?_⟩
      have n0_ := Aside0.mk (blk_below (g := gb130) (o := .cells #[.int .i64 a0_0,.int .i64 a0_1,.float .f64 a0_2,.string a0_3] 28 (0,0)) (by (with_reducible repeat (first | refine blk_drewN ?_ _ | refine blk_drew ?_ | refine blk_alloc ?_ _)); exact BK130.out) hb)
      have n1_ := Aside0.mk (blk_below (g := gb131) (o := .cells #[.int .i64 a1_0,.int .i64 a1_1,.float .f64 a1_2,.string a1_3] 28 (0,0)) (by (with_reducible repeat (first | refine blk_drewN ?_ _ | refine blk_drew ?_ | refine blk_alloc ?_ _)); exact BK131.out) hb)
      have n2_ := Aside0.mk (below_step (by repeat (first | (with_reducible first | exact HB.out | apply below_alloc | apply pw_below_drewN | apply below_drew1 | refine below_set ?_ GE130.out | refine below_set ?_ GE131.out) | exact HB.out)) hb)
      clear BK130
      clear BK131
      clear HB
      have BK130 := n0_
      have BK131 := n1_
      have HB := n2_
      clear n0_ n1_ n2_
      (try clear hb)
      (try clear hb2)
      (try clear hk)
      (try clear hi)
      refine hK.out _ _ ⟨(blk_cell BK130.out 0).trans rfl,(blk_cell BK130.out 1).trans rfl,(blk_cell BK130.out 2).trans rfl,(blk_cell BK130.out 3).trans rfl,(blk_cell BK131.out 0).trans rfl,(blk_cell BK131.out 1).trans rfl,(blk_cell BK131.out 2).trans rfl,(blk_cell BK131.out 3).trans rfl⟩ (fun hHeld => ?_)
      clear hK K
      refine norm_ (a' := ?_) ?_ ?_
      rotate_left
      ·
       show Act.put _ (some 25) _ = _
       simp only [Act.put,List.setIfInBounds_toArray,List.set_cons_zero,List.set_cons_succ,i64_w,i32_w]
       rfl
      refine pure_ (i := 4) (N := some 26) (v := ?_) (a' := ?_) #[true,true,true,true,true] rfl rfl (by kernel_rfl) (fun _ _ _ h => h) (Or.inl ⟨by rfl,?_⟩) ?_ ?_
      rotate_left
      ·
       intro w'
       go_simp
       with_reducible rfl
      rotate_left
      ·
       simp only [Act.put,List.setIfInBounds_toArray,List.set_cons_zero,List.set_cons_succ,i64_w,i32_w]
       rfl
      refine done_ (by kernel_rfl) ?_
      have hnb25 := NB130_131.out
      have hnc25 := NB131_130.out
      have hcz26_0 : w24.cell? ⟨gb130,0,none⟩ = some (.int .i64 a0_0) := (blk_cell BK130.out 0).trans rfl
      have hcz26_1 : w24.cell? ⟨gb130,1,none⟩ = some (.int .i64 a0_1) := (blk_cell BK130.out 1).trans rfl
      have hcz26_2 : w24.cell? ⟨gb130,2,none⟩ = some (.float .f64 a0_2) := (blk_cell BK130.out 2).trans rfl
      have hcz26_3 : w24.cell? ⟨gb130,3,none⟩ = some (.string a0_3) := (blk_cell BK130.out 3).trans rfl
      have hfz26_0 := blk_frozen BK130.out 0
      have hfz26_1 := blk_frozen BK130.out 1
      have hfz26_2 := blk_frozen BK130.out 2
      have hfz26_3 := blk_frozen BK130.out 3
      try go_wp2_with (first | ((with_reducible refine gate_callee (f := 15) rfl ?_); refine goesL_ (some 33) rfl rfl Try.func15 (by kernel_rfl) rfl #[.agg #[.int .i64 a0_0,.int .i64 a0_1,.float .f64 a0_2,.string a0_3]] rfl (by (try simp only [List.map_toArray,List.map_cons,List.map_nil]); first | done | rfl | (simp only [List.length_drop,List.length_take]; rfl)) ?_; (with_reducible refine (colonnaderef05_class.calls a0_0 a0_1 a0_2 a0_3 t139 _ A20.out).mono ?_); rintro e w27 ⟨rfl,hb⟩; refine ⟨_,rfl,?_⟩; have n0_ := Aside0.mk (blk_below (g := gb130) (o := .cells #[.int .i64 a0_0,.int .i64 a0_1,.float .f64 a0_2,.string a0_3] 28 (0,0)) (by (with_reducible repeat (first | refine blk_drewN ?_ _ | refine blk_drew ?_ | refine blk_alloc ?_ _)); exact BK130.out) hb); have n1_ := Aside0.mk (blk_below (g := gb131) (o := .cells #[.int .i64 a1_0,.int .i64 a1_1,.float .f64 a1_2,.string a1_3] 28 (0,0)) (by (with_reducible repeat (first | refine blk_drewN ?_ _ | refine blk_drew ?_ | refine blk_alloc ?_ _)); exact BK131.out) hb); have n2_ := Aside0.mk (below_step (by repeat (first | (with_reducible first | exact HB.out | apply below_alloc | apply pw_below_drewN | apply below_drew1 | refine below_set ?_ GE130.out | refine below_set ?_ GE131.out) | exact HB.out)) hb); clear BK130; clear BK131; clear HB; have BK130 := n0_; have BK131 := n1_; have HB := n2_; clear n0_ n1_ n2_; (try clear hb); (try clear hb2); (try clear hk); (try clear hi)))
      go_ret
      exact ⟨by first | rfl | (simp [errW_none,errW_some] <;> rfl) | (simp [*,errW_none,errW_some] <;> rfl),by repeat (first | (with_reducible first | exact HB.out | apply below_alloc | apply pw_below_drewN | apply below_drew1 | refine below_set ?_ GE130.out | refine below_set ?_ GE131.out) | exact HB.out)⟩
     ·
      rw [if_neg c21] at H
      have c21b0 : (t139 == 0) = false := beq_eq_false_iff_ne.mpr c21
      have c21b1 : (t139 != 0) = true := bne_iff_ne.mpr c21
      replace H := Option.bind_eq_some_iff.mp H
      obtain ⟨t140,A280,H⟩ := H
      replace H : (if t140 = 2 then ((colonnaderef05_texts.f kj4 a0_3 a1_3).bind fun t141 => (some t141)) else ((colonnaderef05_numbers.f a0_0 a0_1 a0_2 a0_3 a1_0 a1_1 a1_2 a1_3).bind fun t142 => (if t142 = 0 then ((colonnaderef05_less.f a0_0 a1_0).bind fun t143 => (some t143)) else (some t142)))) = some r := H
      have A28 := Aside0.mk A280
      clear A280
      by_cases c29 : t140 = 2
      ·
       rw [if_pos c29] at H
       have c29b0 : (t140 == 2) = true := beq_iff_eq.mpr c29
       have c29b1 : (t140 != 2) = false := bne_eq_false_iff_eq.mpr c29
       clear c29
       replace H := Option.bind_eq_some_iff.mp H
       obtain ⟨t141,A300,H⟩ := H
       replace H : (some t141) = some r := H
       have A30 := Aside0.mk A300
       clear A300
       obtain rfl := Option.some.inj H
       try go_wp2
       have n0_ := Aside0.mk (blk_drew BK130.out)
       have n1_ := Aside0.mk (blk_drew BK131.out)
       have n2_ := Aside0.mk (below_drew1 HB.out)
       clear BK130
       clear BK131
       clear HB
       have BK130 := n0_
       have BK131 := n1_
       have HB := n2_
       clear n0_ n1_ n2_
       refine start_ (n := 5) (S := fun w' => w'.cell? ⟨gb130,0,none⟩ = some (.int .i64 a0_0) ∧ w'.cell? ⟨gb130,1,none⟩ = some (.int .i64 a0_1) ∧ w'.cell? ⟨gb130,2,none⟩ = some (.float .f64 a0_2) ∧ w'.cell? ⟨gb130,3,none⟩ = some (.string a0_3) ∧ w'.cell? ⟨gb131,0,none⟩ = some (.int .i64 a1_0) ∧ w'.cell? ⟨gb131,1,none⟩ = some (.int .i64 a1_1) ∧ w'.cell? ⟨gb131,2,none⟩ = some (.float .f64 a1_2) ∧ w'.cell? ⟨gb131,3,none⟩ = some (.string a1_3)) (ds := []) #[false,false,false,false,false] (by kernel_rfl) rfl rfl ⟨(blk_cell BK130.out 0).trans rfl,(blk_cell BK130.out 1).trans rfl,(blk_cell BK130.out 2).trans rfl,(blk_cell BK130.out 3).trans rfl,(blk_cell BK131.out 0).trans rfl,(blk_cell BK131.out 1).trans rfl,(blk_cell BK131.out 2).trans rfl,(blk_cell BK131.out 3).trans rfl⟩ (fun hHeld => ?_)
       generalize wc.drew = w31 at BK130 BK131 HB hHeld ⊢
       refine take_ (i := 0) (N := some 22) (v := ?_) (a' := ?_) #[true,false,false,false,false] rfl rfl (by kernel_rfl) (fun _ _ _ h => h) (Or.inl ⟨by rfl,?_⟩) hHeld ?_ ?_
       rotate_left
       ·
        rintro w' ⟨s0,s1,s2,s3,s4,s5,s6,s7⟩
        go_simp
        with_reducible rfl
       rotate_left
       ·
        simp only [Act.put,List.setIfInBounds_toArray,List.set_cons_zero,List.set_cons_succ,i64_w,i32_w]
        rfl
       refine take_ (i := 2) (N := some 24) (v := ?_) (a' := ?_) #[true,false,true,false,false] rfl rfl (by kernel_rfl) (fun _ _ _ h => h) (Or.inl ⟨by rfl,?_⟩) hHeld ?_ ?_
       rotate_left
       ·
        rintro w' ⟨s0,s1,s2,s3,s4,s5,s6,s7⟩
        go_simp
        with_reducible rfl
       rotate_left
       ·
        simp only [Act.put,List.setIfInBounds_toArray,List.set_cons_zero,List.set_cons_succ,i64_w,i32_w]
        rfl
       refine one_ (i := 1) (N := some 23) #[true,true,true,false,false] rfl rfl (by kernel_rfl) (by decide) (fun K hK => ?_)
       refine goes_ Try.func15 (by kernel_rfl) rfl #[.agg #[.int .i64 a0_0,.int .i64 a0_1,.float .f64 a0_2,.string a0_3]] (by rfl) rfl rfl (by (try simp only [List.map_toArray,List.map_cons,List.map_nil]); first | done | rfl | (simp only [List.length_drop,List.length_take]; rfl)) ?_
       with_reducible refine (colonnaderef05_class.calls a0_0 a0_1 a0_2 a0_3 t134 _ A17.out).mono ?_
       rintro e w32 ⟨rfl,hb⟩
       refine ⟨_,rfl,?_⟩
       have n0_ := Aside0.mk (blk_below (g := gb130) (o := .cells #[.int .i64 a0_0,.int .i64 a0_1,.float .f64 a0_2,.string a0_3] 28 (0,0)) (by (with_reducible repeat (first | refine blk_drewN ?_ _ | refine blk_drew ?_ | refine blk_alloc ?_ _)); exact BK130.out) hb)
       have n1_ := Aside0.mk (blk_below (g := gb131) (o := .cells #[.int .i64 a1_0,.int .i64 a1_1,.float .f64 a1_2,.string a1_3] 28 (0,0)) (by (with_reducible repeat (first | refine blk_drewN ?_ _ | refine blk_drew ?_ | refine blk_alloc ?_ _)); exact BK131.out) hb)
       have n2_ := Aside0.mk (below_step (by repeat (first | (with_reducible first | exact HB.out | apply below_alloc | apply pw_below_drewN | apply below_drew1 | refine below_set ?_ GE130.out | refine below_set ?_ GE131.out) | exact HB.out)) hb)
       clear BK130
       clear BK131
       clear HB
       have BK130 := n0_
       have BK131 := n1_
       have HB := n2_
       clear n0_ n1_ n2_
       (try clear hb)
       (try clear hb2)
       (try clear hk)
       (try clear hi)
       refine hK.out _ _ ⟨(blk_cell BK130.out 0).trans rfl,(blk_cell BK130.out 1).trans rfl,(blk_cell BK130.out 2).trans rfl,(blk_cell BK130.out 3).trans rfl,(blk_cell BK131.out 0).trans rfl,(blk_cell BK131.out 1).trans rfl,(blk_cell BK131.out 2).trans rfl,(blk_cell BK131.out 3).trans rfl⟩ (fun hHeld => ?_)
       clear hK K
       refine norm_ (a' := ?_) ?_ ?_
       rotate_left
       ·
        show Act.put _ (some 23) _ = _
        simp only [Act.put,List.setIfInBounds_toArray,List.set_cons_zero,List.set_cons_succ,i64_w,i32_w]
        rfl
       refine one_ (i := 3) (N := some 25) #[true,true,true,true,false] rfl rfl (by kernel_rfl) (by decide) (fun K hK => ?_)
       refine goes_ Try.func15 (by kernel_rfl) rfl #[.agg #[.int .i64 a1_0,.int .i64 a1_1,.float .f64 a1_2,.string a1_3]] (by rfl) rfl rfl (by (try simp only [List.map_toArray,List.map_cons,List.map_nil]); first | done | rfl | (simp only [List.length_drop,List.length_take]; rfl)) ?_
       with_reducible refine (colonnaderef05_class.calls a1_0 a1_1 a1_2 a1_3 t135 _ A18.out).mono ?_
       rintro e w33 ⟨rfl,hb⟩
       refine ⟨_,rfl,?_⟩
       have n0_ := Aside0.mk (blk_below (g := gb130) (o := .cells #[.int .i64 a0_0,.int .i64 a0_1,.float .f64 a0_2,.string a0_3] 28 (0,0)) (by (with_reducible repeat (first | refine blk_drewN ?_ _ | refine blk_drew ?_ | refine blk_alloc ?_ _)); exact BK130.out) hb)
       have n1_ := Aside0.mk (blk_below (g := gb131) (o := .cells #[.int .i64 a1_0,.int .i64 a1_1,.float .f64 a1_2,.string a1_3] 28 (0,0)) (by (with_reducible repeat (first | refine blk_drewN ?_ _ | refine blk_drew ?_ | refine blk_alloc ?_ _)); exact BK131.out) hb)
       have n2_ := Aside0.mk (below_step (by repeat (first | (with_reducible first | exact HB.out | apply below_alloc | apply pw_below_drewN | apply below_drew1 | refine below_set ?_ GE130.out | refine below_set ?_ GE131.out) | exact HB.out)) hb)
       clear BK130
       clear BK131
       clear HB
       have BK130 := n0_
       have BK131 := n1_
       have HB := n2_
       clear n0_ n1_ n2_
       (try clear hb)
       (try clear hb2)
       (try clear hk)
       (try clear hi)
       refine hK.out _ _ ⟨(blk_cell BK130.out 0).trans rfl,(blk_cell BK130.out 1).trans rfl,(blk_cell BK130.out 2).trans rfl,(blk_cell BK130.out 3).trans rfl,(blk_cell BK131.out 0).trans rfl,(blk_cell BK131.out 1).trans rfl,(blk_cell BK131.out 2).trans rfl,(blk_cell BK131.out 3).trans rfl⟩ (fun hHeld => ?_)
       clear hK K
       refine norm_ (a' := ?_) ?_ ?_
       rotate_left
       ·
        show Act.put _ (some 25) _ = _
        simp only [Act.put,List.setIfInBounds_toArray,List.set_cons_zero,List.set_cons_succ,i64_w,i32_w]
        rfl
       refine pure_ (i := 4) (N := some 26) (v := ?_) (a' := ?_) #[true,true,true,true,true] rfl rfl (by kernel_rfl) (fun _ _ _ h => h) (Or.inl ⟨by rfl,?_⟩) ?_ ?_
       rotate_left
       ·
        intro w'
        go_simp
        with_reducible rfl
       rotate_left
       ·
        simp only [Act.put,List.setIfInBounds_toArray,List.set_cons_zero,List.set_cons_succ,i64_w,i32_w]
        rfl
       refine done_ (by kernel_rfl) ?_
       have hnb34 := NB130_131.out
       have hnc34 := NB131_130.out
       have hcz35_0 : w33.cell? ⟨gb130,0,none⟩ = some (.int .i64 a0_0) := (blk_cell BK130.out 0).trans rfl
       have hcz35_1 : w33.cell? ⟨gb130,1,none⟩ = some (.int .i64 a0_1) := (blk_cell BK130.out 1).trans rfl
       have hcz35_2 : w33.cell? ⟨gb130,2,none⟩ = some (.float .f64 a0_2) := (blk_cell BK130.out 2).trans rfl
       have hcz35_3 : w33.cell? ⟨gb130,3,none⟩ = some (.string a0_3) := (blk_cell BK130.out 3).trans rfl
       have hfz35_0 := blk_frozen BK130.out 0
       have hfz35_1 := blk_frozen BK130.out 1
       have hfz35_2 := blk_frozen BK130.out 2
       have hfz35_3 := blk_frozen BK130.out 3
       try go_wp2_with (first | ((with_reducible refine gate_callee (f := 15) rfl ?_); refine goesL_ (some 33) rfl rfl Try.func15 (by kernel_rfl) rfl #[.agg #[.int .i64 a0_0,.int .i64 a0_1,.float .f64 a0_2,.string a0_3]] rfl (by (try simp only [List.map_toArray,List.map_cons,List.map_nil]); first | done | rfl | (simp only [List.length_drop,List.length_take]; rfl)) ?_; (with_reducible refine (colonnaderef05_class.calls a0_0 a0_1 a0_2 a0_3 t139 _ A20.out).mono ?_); rintro e w36 ⟨rfl,hb⟩; refine ⟨_,rfl,?_⟩; have n0_ := Aside0.mk (blk_below (g := gb130) (o := .cells #[.int .i64 a0_0,.int .i64 a0_1,.float .f64 a0_2,.string a0_3] 28 (0,0)) (by (with_reducible repeat (first | refine blk_drewN ?_ _ | refine blk_drew ?_ | refine blk_alloc ?_ _)); exact BK130.out) hb); have n1_ := Aside0.mk (blk_below (g := gb131) (o := .cells #[.int .i64 a1_0,.int .i64 a1_1,.float .f64 a1_2,.string a1_3] 28 (0,0)) (by (with_reducible repeat (first | refine blk_drewN ?_ _ | refine blk_drew ?_ | refine blk_alloc ?_ _)); exact BK131.out) hb); have n2_ := Aside0.mk (below_step (by repeat (first | (with_reducible first | exact HB.out | apply below_alloc | apply pw_below_drewN | apply below_drew1 | refine below_set ?_ GE130.out | refine below_set ?_ GE131.out) | exact HB.out)) hb); clear BK130; clear BK131; clear HB; have BK130 := n0_; have BK131 := n1_; have HB := n2_; clear n0_ n1_ n2_; (try clear hb); (try clear hb2); (try clear hk); (try clear hi); have hcz37_0 : w36.cell? ⟨gb130,0,none⟩ = some (.int .i64 a0_0) := (blk_cell BK130.out 0).trans rfl; have hcz37_1 : w36.cell? ⟨gb130,1,none⟩ = some (.int .i64 a0_1) := (blk_cell BK130.out 1).trans rfl; have hcz37_2 : w36.cell? ⟨gb130,2,none⟩ = some (.float .f64 a0_2) := (blk_cell BK130.out 2).trans rfl; have hcz37_3 : w36.cell? ⟨gb130,3,none⟩ = some (.string a0_3) := (blk_cell BK130.out 3).trans rfl; have hfz37_0 := blk_frozen BK130.out 0; have hfz37_1 := blk_frozen BK130.out 1; have hfz37_2 := blk_frozen BK130.out 2; have hfz37_3 := blk_frozen BK130.out 3) | ((with_reducible refine gate_callee (f := 15) rfl ?_); refine goesL_ (some 36) rfl rfl Try.func15 (by kernel_rfl) rfl #[.agg #[.int .i64 a0_0,.int .i64 a0_1,.float .f64 a0_2,.string a0_3]] rfl (by (try simp only [List.map_toArray,List.map_cons,List.map_nil]); first | done | rfl | (simp only [List.length_drop,List.length_take]; rfl)) ?_; (with_reducible refine (colonnaderef05_class.calls a0_0 a0_1 a0_2 a0_3 t140 _ A28.out).mono ?_); rintro e w38 ⟨rfl,hb⟩; refine ⟨_,rfl,?_⟩; have n0_ := Aside0.mk (blk_below (g := gb130) (o := .cells #[.int .i64 a0_0,.int .i64 a0_1,.float .f64 a0_2,.string a0_3] 28 (0,0)) (by (with_reducible repeat (first | refine blk_drewN ?_ _ | refine blk_drew ?_ | refine blk_alloc ?_ _)); exact BK130.out) hb); have n1_ := Aside0.mk (blk_below (g := gb131) (o := .cells #[.int .i64 a1_0,.int .i64 a1_1,.float .f64 a1_2,.string a1_3] 28 (0,0)) (by (with_reducible repeat (first | refine blk_drewN ?_ _ | refine blk_drew ?_ | refine blk_alloc ?_ _)); exact BK131.out) hb); have n2_ := Aside0.mk (below_step (by repeat (first | (with_reducible first | exact HB.out | apply below_alloc | apply pw_below_drewN | apply below_drew1 | refine below_set ?_ GE130.out | refine below_set ?_ GE131.out) | exact HB.out)) hb); clear BK130; clear BK131; clear HB; have BK130 := n0_; have BK131 := n1_; have HB := n2_; clear n0_ n1_ n2_; (try clear hb); (try clear hb2); (try clear hk); (try clear hi); have hcz39_0 : w38.cell? ⟨gb130,0,none⟩ = some (.int .i64 a0_0) := (blk_cell BK130.out 0).trans rfl; have hcz39_1 : w38.cell? ⟨gb130,1,none⟩ = some (.int .i64 a0_1) := (blk_cell BK130.out 1).trans rfl; have hcz39_2 : w38.cell? ⟨gb130,2,none⟩ = some (.float .f64 a0_2) := (blk_cell BK130.out 2).trans rfl; have hcz39_3 : w38.cell? ⟨gb130,3,none⟩ = some (.string a0_3) := (blk_cell BK130.out 3).trans rfl; have hfz39_0 := blk_frozen BK130.out 0; have hfz39_1 := blk_frozen BK130.out 1; have hfz39_2 := blk_frozen BK130.out 2; have hfz39_3 := blk_frozen BK130.out 3; have hcz40_0 : w38.cell? ⟨gb131,0,none⟩ = some (.int .i64 a1_0) := (blk_cell BK131.out 0).trans rfl; have hcz40_1 : w38.cell? ⟨gb131,1,none⟩ = some (.int .i64 a1_1) := (blk_cell BK131.out 1).trans rfl; have hcz40_2 : w38.cell? ⟨gb131,2,none⟩ = some (.float .f64 a1_2) := (blk_cell BK131.out 2).trans rfl; have hcz40_3 : w38.cell? ⟨gb131,3,none⟩ = some (.string a1_3) := (blk_cell BK131.out 3).trans rfl; have hfz40_0 := blk_frozen BK131.out 0; have hfz40_1 := blk_frozen BK131.out 1; have hfz40_2 := blk_frozen BK131.out 2; have hfz40_3 := blk_frozen BK131.out 3) | ((with_reducible refine gate_callee (f := 17) rfl ?_); refine goesL_ (some 42) rfl rfl Try.func17 (by kernel_rfl) rfl #[.string a0_3,.string a1_3] rfl (by (try simp only [List.map_toArray,List.map_cons,List.map_nil]); first | done | rfl | (simp only [List.length_drop,List.length_take]; rfl)) ?_; (with_reducible refine (colonnaderef05_texts.calls kj4 a0_3 a1_3 t141 _ A30.out).mono ?_); rintro e w' ⟨rfl,⟨nd,rfl⟩⟩; refine ⟨_,rfl,?_⟩))
       go_ret
       exact ⟨by first | rfl | (simp [errW_none,errW_some] <;> rfl) | (simp [*,errW_none,errW_some] <;> rfl),by repeat (first | (with_reducible first | exact HB.out | apply below_alloc | apply pw_below_drewN | apply below_drew1 | refine below_set ?_ GE130.out | refine below_set ?_ GE131.out) | exact HB.out)⟩
      ·
       rw [if_neg c29] at H
       have c29b0 : (t140 == 2) = false := beq_eq_false_iff_ne.mpr c29
       have c29b1 : (t140 != 2) = true := bne_iff_ne.mpr c29
       replace H := Option.bind_eq_some_iff.mp H
       obtain ⟨t142,A410,H⟩ := H
       replace H : (if t142 = 0 then ((colonnaderef05_less.f a0_0 a1_0).bind fun t143 => (some t143)) else (some t142)) = some r := H
       have A41 := Aside0.mk A410
       clear A410
       by_cases c42 : t142 = 0
       ·
        rw [if_pos c42] at H
        have c42b0 : (t142 == 0) = true := beq_iff_eq.mpr c42
        have c42b1 : (t142 != 0) = false := bne_eq_false_iff_eq.mpr c42
        clear c42
        replace H := Option.bind_eq_some_iff.mp H
        obtain ⟨t143,A430,H⟩ := H
        replace H : (some t143) = some r := H
        have A43 := Aside0.mk A430
        clear A430
        obtain rfl := Option.some.inj H
        try go_wp2
        have n0_ := Aside0.mk (blk_drew BK130.out)
        have n1_ := Aside0.mk (blk_drew BK131.out)
        have n2_ := Aside0.mk (below_drew1 HB.out)
        clear BK130
        clear BK131
        clear HB
        have BK130 := n0_
        have BK131 := n1_
        have HB := n2_
        clear n0_ n1_ n2_
        refine start_ (n := 5) (S := fun w' => w'.cell? ⟨gb130,0,none⟩ = some (.int .i64 a0_0) ∧ w'.cell? ⟨gb130,1,none⟩ = some (.int .i64 a0_1) ∧ w'.cell? ⟨gb130,2,none⟩ = some (.float .f64 a0_2) ∧ w'.cell? ⟨gb130,3,none⟩ = some (.string a0_3) ∧ w'.cell? ⟨gb131,0,none⟩ = some (.int .i64 a1_0) ∧ w'.cell? ⟨gb131,1,none⟩ = some (.int .i64 a1_1) ∧ w'.cell? ⟨gb131,2,none⟩ = some (.float .f64 a1_2) ∧ w'.cell? ⟨gb131,3,none⟩ = some (.string a1_3)) (ds := []) #[false,false,false,false,false] (by kernel_rfl) rfl rfl ⟨(blk_cell BK130.out 0).trans rfl,(blk_cell BK130.out 1).trans rfl,(blk_cell BK130.out 2).trans rfl,(blk_cell BK130.out 3).trans rfl,(blk_cell BK131.out 0).trans rfl,(blk_cell BK131.out 1).trans rfl,(blk_cell BK131.out 2).trans rfl,(blk_cell BK131.out 3).trans rfl⟩ (fun hHeld => ?_)
        generalize wc.drew = w44 at BK130 BK131 HB hHeld ⊢
        refine take_ (i := 0) (N := some 22) (v := ?_) (a' := ?_) #[true,false,false,false,false] rfl rfl (by kernel_rfl) (fun _ _ _ h => h) (Or.inl ⟨by rfl,?_⟩) hHeld ?_ ?_
        rotate_left
        ·
         rintro w' ⟨s0,s1,s2,s3,s4,s5,s6,s7⟩
         go_simp
         with_reducible rfl
        rotate_left
        ·
         simp only [Act.put,List.setIfInBounds_toArray,List.set_cons_zero,List.set_cons_succ,i64_w,i32_w]
         rfl
        refine take_ (i := 2) (N := some 24) (v := ?_) (a' := ?_) #[true,false,true,false,false] rfl rfl (by kernel_rfl) (fun _ _ _ h => h) (Or.inl ⟨by rfl,?_⟩) hHeld ?_ ?_
        rotate_left
        ·
         rintro w' ⟨s0,s1,s2,s3,s4,s5,s6,s7⟩
         go_simp
         with_reducible rfl
        rotate_left
        ·
         simp only [Act.put,List.setIfInBounds_toArray,List.set_cons_zero,List.set_cons_succ,i64_w,i32_w]
         rfl
        refine one_ (i := 1) (N := some 23) #[true,true,true,false,false] rfl rfl (by kernel_rfl) (by decide) (fun K hK => ?_)
        refine goes_ Try.func15 (by kernel_rfl) rfl #[.agg #[.int .i64 a0_0,.int .i64 a0_1,.float .f64 a0_2,.string a0_3]] (by rfl) rfl rfl (by (try simp only [List.map_toArray,List.map_cons,List.map_nil]); first | done | rfl | (simp only [List.length_drop,List.length_take]; rfl)) ?_
        with_reducible refine (colonnaderef05_class.calls a0_0 a0_1 a0_2 a0_3 t134 _ A17.out).mono ?_
        rintro e w45 ⟨rfl,hb⟩
        refine ⟨_,rfl,?_⟩
        have n0_ := Aside0.mk (blk_below (g := gb130) (o := .cells #[.int .i64 a0_0,.int .i64 a0_1,.float .f64 a0_2,.string a0_3] 28 (0,0)) (by (with_reducible repeat (first | refine blk_drewN ?_ _ | refine blk_drew ?_ | refine blk_alloc ?_ _)); exact BK130.out) hb)
        have n1_ := Aside0.mk (blk_below (g := gb131) (o := .cells #[.int .i64 a1_0,.int .i64 a1_1,.float .f64 a1_2,.string a1_3] 28 (0,0)) (by (with_reducible repeat (first | refine blk_drewN ?_ _ | refine blk_drew ?_ | refine blk_alloc ?_ _)); exact BK131.out) hb)
        have n2_ := Aside0.mk (below_step (by repeat (first | (with_reducible first | exact HB.out | apply below_alloc | apply pw_below_drewN | apply below_drew1 | refine below_set ?_ GE130.out | refine below_set ?_ GE131.out) | exact HB.out)) hb)
        clear BK130
        clear BK131
        clear HB
        have BK130 := n0_
        have BK131 := n1_
        have HB := n2_
        clear n0_ n1_ n2_
        (try clear hb)
        (try clear hb2)
        (try clear hk)
        (try clear hi)
        refine hK.out _ _ ⟨(blk_cell BK130.out 0).trans rfl,(blk_cell BK130.out 1).trans rfl,(blk_cell BK130.out 2).trans rfl,(blk_cell BK130.out 3).trans rfl,(blk_cell BK131.out 0).trans rfl,(blk_cell BK131.out 1).trans rfl,(blk_cell BK131.out 2).trans rfl,(blk_cell BK131.out 3).trans rfl⟩ (fun hHeld => ?_)
        clear hK K
        refine norm_ (a' := ?_) ?_ ?_
        rotate_left
        ·
         show Act.put _ (some 23) _ = _
         simp only [Act.put,List.setIfInBounds_toArray,List.set_cons_zero,List.set_cons_succ,i64_w,i32_w]
         rfl
        refine one_ (i := 3) (N := some 25) #[true,true,true,true,false] rfl rfl (by kernel_rfl) (by decide) (fun K hK => ?_)
        refine goes_ Try.func15 (by kernel_rfl) rfl #[.agg #[.int .i64 a1_0,.int .i64 a1_1,.float .f64 a1_2,.string a1_3]] (by rfl) rfl rfl (by (try simp only [List.map_toArray,List.map_cons,List.map_nil]); first | done | rfl | (simp only [List.length_drop,List.length_take]; rfl)) ?_
        with_reducible refine (colonnaderef05_class.calls a1_0 a1_1 a1_2 a1_3 t135 _ A18.out).mono ?_
        rintro e w46 ⟨rfl,hb⟩
        refine ⟨_,rfl,?_⟩
        have n0_ := Aside0.mk (blk_below (g := gb130) (o := .cells #[.int .i64 a0_0,.int .i64 a0_1,.float .f64 a0_2,.string a0_3] 28 (0,0)) (by (with_reducible repeat (first | refine blk_drewN ?_ _ | refine blk_drew ?_ | refine blk_alloc ?_ _)); exact BK130.out) hb)
        have n1_ := Aside0.mk (blk_below (g := gb131) (o := .cells #[.int .i64 a1_0,.int .i64 a1_1,.float .f64 a1_2,.string a1_3] 28 (0,0)) (by (with_reducible repeat (first | refine blk_drewN ?_ _ | refine blk_drew ?_ | refine blk_alloc ?_ _)); exact BK131.out) hb)
        have n2_ := Aside0.mk (below_step (by repeat (first | (with_reducible first | exact HB.out | apply below_alloc | apply pw_below_drewN | apply below_drew1 | refine below_set ?_ GE130.out | refine below_set ?_ GE131.out) | exact HB.out)) hb)
        clear BK130
        clear BK131
        clear HB
        have BK130 := n0_
        have BK131 := n1_
        have HB := n2_
        clear n0_ n1_ n2_
        (try clear hb)
        (try clear hb2)
        (try clear hk)
        (try clear hi)
        refine hK.out _ _ ⟨(blk_cell BK130.out 0).trans rfl,(blk_cell BK130.out 1).trans rfl,(blk_cell BK130.out 2).trans rfl,(blk_cell BK130.out 3).trans rfl,(blk_cell BK131.out 0).trans rfl,(blk_cell BK131.out 1).trans rfl,(blk_cell BK131.out 2).trans rfl,(blk_cell BK131.out 3).trans rfl⟩ (fun hHeld => ?_)
        clear hK K
        refine norm_ (a' := ?_) ?_ ?_
        rotate_left
        ·
         show Act.put _ (some 25) _ = _
         simp only [Act.put,List.setIfInBounds_toArray,List.set_cons_zero,List.set_cons_succ,i64_w,i32_w]
         rfl
        refine pure_ (i := 4) (N := some 26) (v := ?_) (a' := ?_) #[true,true,true,true,true] rfl rfl (by kernel_rfl) (fun _ _ _ h => h) (Or.inl ⟨by rfl,?_⟩) ?_ ?_
        rotate_left
        ·
         intro w'
         go_simp
         with_reducible rfl
        rotate_left
        ·
         simp only [Act.put,List.setIfInBounds_toArray,List.set_cons_zero,List.set_cons_succ,i64_w,i32_w]
         rfl
        refine done_ (by kernel_rfl) ?_
        have hnb47 := NB130_131.out
        have hnc47 := NB131_130.out
        have hcz48_0 : w46.cell? ⟨gb130,0,none⟩ = some (.int .i64 a0_0) := (blk_cell BK130.out 0).trans rfl
        have hcz48_1 : w46.cell? ⟨gb130,1,none⟩ = some (.int .i64 a0_1) := (blk_cell BK130.out 1).trans rfl
        have hcz48_2 : w46.cell? ⟨gb130,2,none⟩ = some (.float .f64 a0_2) := (blk_cell BK130.out 2).trans rfl
        have hcz48_3 : w46.cell? ⟨gb130,3,none⟩ = some (.string a0_3) := (blk_cell BK130.out 3).trans rfl
        have hfz48_0 := blk_frozen BK130.out 0
        have hfz48_1 := blk_frozen BK130.out 1
        have hfz48_2 := blk_frozen BK130.out 2
        have hfz48_3 := blk_frozen BK130.out 3
        try go_wp2_with (first | ((with_reducible refine gate_callee (f := 15) rfl ?_); refine goesL_ (some 33) rfl rfl Try.func15 (by kernel_rfl) rfl #[.agg #[.int .i64 a0_0,.int .i64 a0_1,.float .f64 a0_2,.string a0_3]] rfl (by (try simp only [List.map_toArray,List.map_cons,List.map_nil]); first | done | rfl | (simp only [List.length_drop,List.length_take]; rfl)) ?_; (with_reducible refine (colonnaderef05_class.calls a0_0 a0_1 a0_2 a0_3 t139 _ A20.out).mono ?_); rintro e w49 ⟨rfl,hb⟩; refine ⟨_,rfl,?_⟩; have n0_ := Aside0.mk (blk_below (g := gb130) (o := .cells #[.int .i64 a0_0,.int .i64 a0_1,.float .f64 a0_2,.string a0_3] 28 (0,0)) (by (with_reducible repeat (first | refine blk_drewN ?_ _ | refine blk_drew ?_ | refine blk_alloc ?_ _)); exact BK130.out) hb); have n1_ := Aside0.mk (blk_below (g := gb131) (o := .cells #[.int .i64 a1_0,.int .i64 a1_1,.float .f64 a1_2,.string a1_3] 28 (0,0)) (by (with_reducible repeat (first | refine blk_drewN ?_ _ | refine blk_drew ?_ | refine blk_alloc ?_ _)); exact BK131.out) hb); have n2_ := Aside0.mk (below_step (by repeat (first | (with_reducible first | exact HB.out | apply below_alloc | apply pw_below_drewN | apply below_drew1 | refine below_set ?_ GE130.out | refine below_set ?_ GE131.out) | exact HB.out)) hb); clear BK130; clear BK131; clear HB; have BK130 := n0_; have BK131 := n1_; have HB := n2_; clear n0_ n1_ n2_; (try clear hb); (try clear hb2); (try clear hk); (try clear hi); have hcz50_0 : w49.cell? ⟨gb130,0,none⟩ = some (.int .i64 a0_0) := (blk_cell BK130.out 0).trans rfl; have hcz50_1 : w49.cell? ⟨gb130,1,none⟩ = some (.int .i64 a0_1) := (blk_cell BK130.out 1).trans rfl; have hcz50_2 : w49.cell? ⟨gb130,2,none⟩ = some (.float .f64 a0_2) := (blk_cell BK130.out 2).trans rfl; have hcz50_3 : w49.cell? ⟨gb130,3,none⟩ = some (.string a0_3) := (blk_cell BK130.out 3).trans rfl; have hfz50_0 := blk_frozen BK130.out 0; have hfz50_1 := blk_frozen BK130.out 1; have hfz50_2 := blk_frozen BK130.out 2; have hfz50_3 := blk_frozen BK130.out 3) | ((with_reducible refine gate_callee (f := 15) rfl ?_); refine goesL_ (some 36) rfl rfl Try.func15 (by kernel_rfl) rfl #[.agg #[.int .i64 a0_0,.int .i64 a0_1,.float .f64 a0_2,.string a0_3]] rfl (by (try simp only [List.map_toArray,List.map_cons,List.map_nil]); first | done | rfl | (simp only [List.length_drop,List.length_take]; rfl)) ?_; (with_reducible refine (colonnaderef05_class.calls a0_0 a0_1 a0_2 a0_3 t140 _ A28.out).mono ?_); rintro e w51 ⟨rfl,hb⟩; refine ⟨_,rfl,?_⟩; have n0_ := Aside0.mk (blk_below (g := gb130) (o := .cells #[.int .i64 a0_0,.int .i64 a0_1,.float .f64 a0_2,.string a0_3] 28 (0,0)) (by (with_reducible repeat (first | refine blk_drewN ?_ _ | refine blk_drew ?_ | refine blk_alloc ?_ _)); exact BK130.out) hb); have n1_ := Aside0.mk (blk_below (g := gb131) (o := .cells #[.int .i64 a1_0,.int .i64 a1_1,.float .f64 a1_2,.string a1_3] 28 (0,0)) (by (with_reducible repeat (first | refine blk_drewN ?_ _ | refine blk_drew ?_ | refine blk_alloc ?_ _)); exact BK131.out) hb); have n2_ := Aside0.mk (below_step (by repeat (first | (with_reducible first | exact HB.out | apply below_alloc | apply pw_below_drewN | apply below_drew1 | refine below_set ?_ GE130.out | refine below_set ?_ GE131.out) | exact HB.out)) hb); clear BK130; clear BK131; clear HB; have BK130 := n0_; have BK131 := n1_; have HB := n2_; clear n0_ n1_ n2_; (try clear hb); (try clear hb2); (try clear hk); (try clear hi); have hcz52_0 : w51.cell? ⟨gb130,0,none⟩ = some (.int .i64 a0_0) := (blk_cell BK130.out 0).trans rfl; have hcz52_1 : w51.cell? ⟨gb130,1,none⟩ = some (.int .i64 a0_1) := (blk_cell BK130.out 1).trans rfl; have hcz52_2 : w51.cell? ⟨gb130,2,none⟩ = some (.float .f64 a0_2) := (blk_cell BK130.out 2).trans rfl; have hcz52_3 : w51.cell? ⟨gb130,3,none⟩ = some (.string a0_3) := (blk_cell BK130.out 3).trans rfl; have hfz52_0 := blk_frozen BK130.out 0; have hfz52_1 := blk_frozen BK130.out 1; have hfz52_2 := blk_frozen BK130.out 2; have hfz52_3 := blk_frozen BK130.out 3; have hcz53_0 : w51.cell? ⟨gb131,0,none⟩ = some (.int .i64 a1_0) := (blk_cell BK131.out 0).trans rfl; have hcz53_1 : w51.cell? ⟨gb131,1,none⟩ = some (.int .i64 a1_1) := (blk_cell BK131.out 1).trans rfl; have hcz53_2 : w51.cell? ⟨gb131,2,none⟩ = some (.float .f64 a1_2) := (blk_cell BK131.out 2).trans rfl; have hcz53_3 : w51.cell? ⟨gb131,3,none⟩ = some (.string a1_3) := (blk_cell BK131.out 3).trans rfl; have hfz53_0 := blk_frozen BK131.out 0; have hfz53_1 := blk_frozen BK131.out 1; have hfz53_2 := blk_frozen BK131.out 2; have hfz53_3 := blk_frozen BK131.out 3) | ((with_reducible refine gate_callee (f := 18) rfl ?_); refine goesL_ (some 45) rfl rfl Try.func18 (by kernel_rfl) rfl #[.agg #[.int .i64 a0_0,.int .i64 a0_1,.float .f64 a0_2,.string a0_3],.agg #[.int .i64 a1_0,.int .i64 a1_1,.float .f64 a1_2,.string a1_3]] rfl (by (try simp only [List.map_toArray,List.map_cons,List.map_nil]); first | done | rfl | (simp only [List.length_drop,List.length_take]; rfl)) ?_; (with_reducible refine (colonnaderef05_numbers.calls a0_0 a0_1 a0_2 a0_3 a1_0 a1_1 a1_2 a1_3 t142 _ A41.out).mono ?_); rintro e w54 ⟨rfl,hb⟩; refine ⟨_,rfl,?_⟩; have n0_ := Aside0.mk (blk_below (g := gb130) (o := .cells #[.int .i64 a0_0,.int .i64 a0_1,.float .f64 a0_2,.string a0_3] 28 (0,0)) (by (with_reducible repeat (first | refine blk_drewN ?_ _ | refine blk_drew ?_ | refine blk_alloc ?_ _)); exact BK130.out) hb); have n1_ := Aside0.mk (blk_below (g := gb131) (o := .cells #[.int .i64 a1_0,.int .i64 a1_1,.float .f64 a1_2,.string a1_3] 28 (0,0)) (by (with_reducible repeat (first | refine blk_drewN ?_ _ | refine blk_drew ?_ | refine blk_alloc ?_ _)); exact BK131.out) hb); have n2_ := Aside0.mk (below_step (by repeat (first | (with_reducible first | exact HB.out | apply below_alloc | apply pw_below_drewN | apply below_drew1 | refine below_set ?_ GE130.out | refine below_set ?_ GE131.out) | exact HB.out)) hb); clear BK130; clear BK131; clear HB; have BK130 := n0_; have BK131 := n1_; have HB := n2_; clear n0_ n1_ n2_; (try clear hb); (try clear hb2); (try clear hk); (try clear hi); have hcz55_0 : w54.cell? ⟨gb130,0,none⟩ = some (.int .i64 a0_0) := (blk_cell BK130.out 0).trans rfl; have hcz55_1 : w54.cell? ⟨gb130,1,none⟩ = some (.int .i64 a0_1) := (blk_cell BK130.out 1).trans rfl; have hcz55_2 : w54.cell? ⟨gb130,2,none⟩ = some (.float .f64 a0_2) := (blk_cell BK130.out 2).trans rfl; have hcz55_3 : w54.cell? ⟨gb130,3,none⟩ = some (.string a0_3) := (blk_cell BK130.out 3).trans rfl; have hfz55_0 := blk_frozen BK130.out 0; have hfz55_1 := blk_frozen BK130.out 1; have hfz55_2 := blk_frozen BK130.out 2; have hfz55_3 := blk_frozen BK130.out 3; have hcz56_0 : w54.cell? ⟨gb131,0,none⟩ = some (.int .i64 a1_0) := (blk_cell BK131.out 0).trans rfl; have hcz56_1 : w54.cell? ⟨gb131,1,none⟩ = some (.int .i64 a1_1) := (blk_cell BK131.out 1).trans rfl; have hcz56_2 : w54.cell? ⟨gb131,2,none⟩ = some (.float .f64 a1_2) := (blk_cell BK131.out 2).trans rfl; have hcz56_3 : w54.cell? ⟨gb131,3,none⟩ = some (.string a1_3) := (blk_cell BK131.out 3).trans rfl; have hfz56_0 := blk_frozen BK131.out 0; have hfz56_1 := blk_frozen BK131.out 1; have hfz56_2 := blk_frozen BK131.out 2; have hfz56_3 := blk_frozen BK131.out 3) | ((with_reducible refine gate_callee (f := 16) rfl ?_); refine goesL_ (some 52) rfl rfl Try.func16 (by kernel_rfl) rfl #[.int .i64 a0_0,.int .i64 a1_0] rfl (by (try simp only [List.map_toArray,List.map_cons,List.map_nil]); first | done | rfl | (simp only [List.length_drop,List.length_take]; rfl)) ?_; (with_reducible refine (colonnaderef05_less.calls a0_0 a1_0 t143 _ A43.out).mono ?_); rintro e w' ⟨rfl,⟨nd,rfl⟩⟩; refine ⟨_,rfl,?_⟩))
        go_ret
        exact ⟨by first | rfl | (simp [errW_none,errW_some] <;> rfl) | (simp [*,errW_none,errW_some] <;> rfl),by repeat (first | (with_reducible first | exact HB.out | apply below_alloc | apply pw_below_drewN | apply below_drew1 | refine below_set ?_ GE130.out | refine below_set ?_ GE131.out) | exact HB.out)⟩
       ·
        rw [if_neg c42] at H
        have c42b0 : (t142 == 0) = false := beq_eq_false_iff_ne.mpr c42
        have c42b1 : (t142 != 0) = true := bne_iff_ne.mpr c42
        obtain rfl := Option.some.inj H
        try go_wp2
        have n0_ := Aside0.mk (blk_drew BK130.out)
        have n1_ := Aside0.mk (blk_drew BK131.out)
        have n2_ := Aside0.mk (below_drew1 HB.out)
        clear BK130
        clear BK131
        clear HB
        have BK130 := n0_
        have BK131 := n1_
        have HB := n2_
        clear n0_ n1_ n2_
        refine start_ (n := 5) (S := fun w' => w'.cell? ⟨gb130,0,none⟩ = some (.int .i64 a0_0) ∧ w'.cell? ⟨gb130,1,none⟩ = some (.int .i64 a0_1) ∧ w'.cell? ⟨gb130,2,none⟩ = some (.float .f64 a0_2) ∧ w'.cell? ⟨gb130,3,none⟩ = some (.string a0_3) ∧ w'.cell? ⟨gb131,0,none⟩ = some (.int .i64 a1_0) ∧ w'.cell? ⟨gb131,1,none⟩ = some (.int .i64 a1_1) ∧ w'.cell? ⟨gb131,2,none⟩ = some (.float .f64 a1_2) ∧ w'.cell? ⟨gb131,3,none⟩ = some (.string a1_3)) (ds := []) #[false,false,false,false,false] (by kernel_rfl) rfl rfl ⟨(blk_cell BK130.out 0).trans rfl,(blk_cell BK130.out 1).trans rfl,(blk_cell BK130.out 2).trans rfl,(blk_cell BK130.out 3).trans rfl,(blk_cell BK131.out 0).trans rfl,(blk_cell BK131.out 1).trans rfl,(blk_cell BK131.out 2).trans rfl,(blk_cell BK131.out 3).trans rfl⟩ (fun hHeld => ?_)
        generalize wc.drew = w57 at BK130 BK131 HB hHeld ⊢
        refine take_ (i := 0) (N := some 22) (v := ?_) (a' := ?_) #[true,false,false,false,false] rfl rfl (by kernel_rfl) (fun _ _ _ h => h) (Or.inl ⟨by rfl,?_⟩) hHeld ?_ ?_
        rotate_left
        ·
         rintro w' ⟨s0,s1,s2,s3,s4,s5,s6,s7⟩
         go_simp
         with_reducible rfl
        rotate_left
        ·
         simp only [Act.put,List.setIfInBounds_toArray,List.set_cons_zero,List.set_cons_succ,i64_w,i32_w]
         rfl
        refine take_ (i := 2) (N := some 24) (v := ?_) (a' := ?_) #[true,false,true,false,false] rfl rfl (by kernel_rfl) (fun _ _ _ h => h) (Or.inl ⟨by rfl,?_⟩) hHeld ?_ ?_
        rotate_left
        ·
         rintro w' ⟨s0,s1,s2,s3,s4,s5,s6,s7⟩
         go_simp
         with_reducible rfl
        rotate_left
        ·
         simp only [Act.put,List.setIfInBounds_toArray,List.set_cons_zero,List.set_cons_succ,i64_w,i32_w]
         rfl
        refine one_ (i := 1) (N := some 23) #[true,true,true,false,false] rfl rfl (by kernel_rfl) (by decide) (fun K hK => ?_)
        refine goes_ Try.func15 (by kernel_rfl) rfl #[.agg #[.int .i64 a0_0,.int .i64 a0_1,.float .f64 a0_2,.string a0_3]] (by rfl) rfl rfl (by (try simp only [List.map_toArray,List.map_cons,List.map_nil]); first | done | rfl | (simp only [List.length_drop,List.length_take]; rfl)) ?_
        with_reducible refine (colonnaderef05_class.calls a0_0 a0_1 a0_2 a0_3 t134 _ A17.out).mono ?_
        rintro e w58 ⟨rfl,hb⟩
        refine ⟨_,rfl,?_⟩
        have n0_ := Aside0.mk (blk_below (g := gb130) (o := .cells #[.int .i64 a0_0,.int .i64 a0_1,.float .f64 a0_2,.string a0_3] 28 (0,0)) (by (with_reducible repeat (first | refine blk_drewN ?_ _ | refine blk_drew ?_ | refine blk_alloc ?_ _)); exact BK130.out) hb)
        have n1_ := Aside0.mk (blk_below (g := gb131) (o := .cells #[.int .i64 a1_0,.int .i64 a1_1,.float .f64 a1_2,.string a1_3] 28 (0,0)) (by (with_reducible repeat (first | refine blk_drewN ?_ _ | refine blk_drew ?_ | refine blk_alloc ?_ _)); exact BK131.out) hb)
        have n2_ := Aside0.mk (below_step (by repeat (first | (with_reducible first | exact HB.out | apply below_alloc | apply pw_below_drewN | apply below_drew1 | refine below_set ?_ GE130.out | refine below_set ?_ GE131.out) | exact HB.out)) hb)
        clear BK130
        clear BK131
        clear HB
        have BK130 := n0_
        have BK131 := n1_
        have HB := n2_
        clear n0_ n1_ n2_
        (try clear hb)
        (try clear hb2)
        (try clear hk)
        (try clear hi)
        refine hK.out _ _ ⟨(blk_cell BK130.out 0).trans rfl,(blk_cell BK130.out 1).trans rfl,(blk_cell BK130.out 2).trans rfl,(blk_cell BK130.out 3).trans rfl,(blk_cell BK131.out 0).trans rfl,(blk_cell BK131.out 1).trans rfl,(blk_cell BK131.out 2).trans rfl,(blk_cell BK131.out 3).trans rfl⟩ (fun hHeld => ?_)
        clear hK K
        refine norm_ (a' := ?_) ?_ ?_
        rotate_left
        ·
         show Act.put _ (some 23) _ = _
         simp only [Act.put,List.setIfInBounds_toArray,List.set_cons_zero,List.set_cons_succ,i64_w,i32_w]
         rfl
        refine one_ (i := 3) (N := some 25) #[true,true,true,true,false] rfl rfl (by kernel_rfl) (by decide) (fun K hK => ?_)
        refine goes_ Try.func15 (by kernel_rfl) rfl #[.agg #[.int .i64 a1_0,.int .i64 a1_1,.float .f64 a1_2,.string a1_3]] (by rfl) rfl rfl (by (try simp only [List.map_toArray,List.map_cons,List.map_nil]); first | done | rfl | (simp only [List.length_drop,List.length_take]; rfl)) ?_
        with_reducible refine (colonnaderef05_class.calls a1_0 a1_1 a1_2 a1_3 t135 _ A18.out).mono ?_
        rintro e w59 ⟨rfl,hb⟩
        refine ⟨_,rfl,?_⟩
        have n0_ := Aside0.mk (blk_below (g := gb130) (o := .cells #[.int .i64 a0_0,.int .i64 a0_1,.float .f64 a0_2,.string a0_3] 28 (0,0)) (by (with_reducible repeat (first | refine blk_drewN ?_ _ | refine blk_drew ?_ | refine blk_alloc ?_ _)); exact BK130.out) hb)
        have n1_ := Aside0.mk (blk_below (g := gb131) (o := .cells #[.int .i64 a1_0,.int .i64 a1_1,.float .f64 a1_2,.string a1_3] 28 (0,0)) (by (with_reducible repeat (first | refine blk_drewN ?_ _ | refine blk_drew ?_ | refine blk_alloc ?_ _)); exact BK131.out) hb)
        have n2_ := Aside0.mk (below_step (by repeat (first | (with_reducible first | exact HB.out | apply below_alloc | apply pw_below_drewN | apply below_drew1 | refine below_set ?_ GE130.out | refine below_set ?_ GE131.out) | exact HB.out)) hb)
        clear BK130
        clear BK131
        clear HB
        have BK130 := n0_
        have BK131 := n1_
        have HB := n2_
        clear n0_ n1_ n2_
        (try clear hb)
        (try clear hb2)
        (try clear hk)
        (try clear hi)
        refine hK.out _ _ ⟨(blk_cell BK130.out 0).trans rfl,(blk_cell BK130.out 1).trans rfl,(blk_cell BK130.out 2).trans rfl,(blk_cell BK130.out 3).trans rfl,(blk_cell BK131.out 0).trans rfl,(blk_cell BK131.out 1).trans rfl,(blk_cell BK131.out 2).trans rfl,(blk_cell BK131.out 3).trans rfl⟩ (fun hHeld => ?_)
        clear hK K
        refine norm_ (a' := ?_) ?_ ?_
        rotate_left
        ·
         show Act.put _ (some 25) _ = _
         simp only [Act.put,List.setIfInBounds_toArray,List.set_cons_zero,List.set_cons_succ,i64_w,i32_w]
         rfl
        refine pure_ (i := 4) (N := some 26) (v := ?_) (a' := ?_) #[true,true,true,true,true] rfl rfl (by kernel_rfl) (fun _ _ _ h => h) (Or.inl ⟨by rfl,?_⟩) ?_ ?_
        rotate_left
        ·
         intro w'
         go_simp
         with_reducible rfl
        rotate_left
        ·
         simp only [Act.put,List.setIfInBounds_toArray,List.set_cons_zero,List.set_cons_succ,i64_w,i32_w]
         rfl
        refine done_ (by kernel_rfl) ?_
        have hnb60 := NB130_131.out
        have hnc60 := NB131_130.out
        have hcz61_0 : w59.cell? ⟨gb130,0,none⟩ = some (.int .i64 a0_0) := (blk_cell BK130.out 0).trans rfl
        have hcz61_1 : w59.cell? ⟨gb130,1,none⟩ = some (.int .i64 a0_1) := (blk_cell BK130.out 1).trans rfl
        have hcz61_2 : w59.cell? ⟨gb130,2,none⟩ = some (.float .f64 a0_2) := (blk_cell BK130.out 2).trans rfl
        have hcz61_3 : w59.cell? ⟨gb130,3,none⟩ = some (.string a0_3) := (blk_cell BK130.out 3).trans rfl
        have hfz61_0 := blk_frozen BK130.out 0
        have hfz61_1 := blk_frozen BK130.out 1
        have hfz61_2 := blk_frozen BK130.out 2
        have hfz61_3 := blk_frozen BK130.out 3
        try go_wp2_with (first | ((with_reducible refine gate_callee (f := 15) rfl ?_); refine goesL_ (some 33) rfl rfl Try.func15 (by kernel_rfl) rfl #[.agg #[.int .i64 a0_0,.int .i64 a0_1,.float .f64 a0_2,.string a0_3]] rfl (by (try simp only [List.map_toArray,List.map_cons,List.map_nil]); first | done | rfl | (simp only [List.length_drop,List.length_take]; rfl)) ?_; (with_reducible refine (colonnaderef05_class.calls a0_0 a0_1 a0_2 a0_3 t139 _ A20.out).mono ?_); rintro e w62 ⟨rfl,hb⟩; refine ⟨_,rfl,?_⟩; have n0_ := Aside0.mk (blk_below (g := gb130) (o := .cells #[.int .i64 a0_0,.int .i64 a0_1,.float .f64 a0_2,.string a0_3] 28 (0,0)) (by (with_reducible repeat (first | refine blk_drewN ?_ _ | refine blk_drew ?_ | refine blk_alloc ?_ _)); exact BK130.out) hb); have n1_ := Aside0.mk (blk_below (g := gb131) (o := .cells #[.int .i64 a1_0,.int .i64 a1_1,.float .f64 a1_2,.string a1_3] 28 (0,0)) (by (with_reducible repeat (first | refine blk_drewN ?_ _ | refine blk_drew ?_ | refine blk_alloc ?_ _)); exact BK131.out) hb); have n2_ := Aside0.mk (below_step (by repeat (first | (with_reducible first | exact HB.out | apply below_alloc | apply pw_below_drewN | apply below_drew1 | refine below_set ?_ GE130.out | refine below_set ?_ GE131.out) | exact HB.out)) hb); clear BK130; clear BK131; clear HB; have BK130 := n0_; have BK131 := n1_; have HB := n2_; clear n0_ n1_ n2_; (try clear hb); (try clear hb2); (try clear hk); (try clear hi); have hcz63_0 : w62.cell? ⟨gb130,0,none⟩ = some (.int .i64 a0_0) := (blk_cell BK130.out 0).trans rfl; have hcz63_1 : w62.cell? ⟨gb130,1,none⟩ = some (.int .i64 a0_1) := (blk_cell BK130.out 1).trans rfl; have hcz63_2 : w62.cell? ⟨gb130,2,none⟩ = some (.float .f64 a0_2) := (blk_cell BK130.out 2).trans rfl; have hcz63_3 : w62.cell? ⟨gb130,3,none⟩ = some (.string a0_3) := (blk_cell BK130.out 3).trans rfl; have hfz63_0 := blk_frozen BK130.out 0; have hfz63_1 := blk_frozen BK130.out 1; have hfz63_2 := blk_frozen BK130.out 2; have hfz63_3 := blk_frozen BK130.out 3) | ((with_reducible refine gate_callee (f := 15) rfl ?_); refine goesL_ (some 36) rfl rfl Try.func15 (by kernel_rfl) rfl #[.agg #[.int .i64 a0_0,.int .i64 a0_1,.float .f64 a0_2,.string a0_3]] rfl (by (try simp only [List.map_toArray,List.map_cons,List.map_nil]); first | done | rfl | (simp only [List.length_drop,List.length_take]; rfl)) ?_; (with_reducible refine (colonnaderef05_class.calls a0_0 a0_1 a0_2 a0_3 t140 _ A28.out).mono ?_); rintro e w64 ⟨rfl,hb⟩; refine ⟨_,rfl,?_⟩; have n0_ := Aside0.mk (blk_below (g := gb130) (o := .cells #[.int .i64 a0_0,.int .i64 a0_1,.float .f64 a0_2,.string a0_3] 28 (0,0)) (by (with_reducible repeat (first | refine blk_drewN ?_ _ | refine blk_drew ?_ | refine blk_alloc ?_ _)); exact BK130.out) hb); have n1_ := Aside0.mk (blk_below (g := gb131) (o := .cells #[.int .i64 a1_0,.int .i64 a1_1,.float .f64 a1_2,.string a1_3] 28 (0,0)) (by (with_reducible repeat (first | refine blk_drewN ?_ _ | refine blk_drew ?_ | refine blk_alloc ?_ _)); exact BK131.out) hb); have n2_ := Aside0.mk (below_step (by repeat (first | (with_reducible first | exact HB.out | apply below_alloc | apply pw_below_drewN | apply below_drew1 | refine below_set ?_ GE130.out | refine below_set ?_ GE131.out) | exact HB.out)) hb); clear BK130; clear BK131; clear HB; have BK130 := n0_; have BK131 := n1_; have HB := n2_; clear n0_ n1_ n2_; (try clear hb); (try clear hb2); (try clear hk); (try clear hi); have hcz65_0 : w64.cell? ⟨gb130,0,none⟩ = some (.int .i64 a0_0) := (blk_cell BK130.out 0).trans rfl; have hcz65_1 : w64.cell? ⟨gb130,1,none⟩ = some (.int .i64 a0_1) := (blk_cell BK130.out 1).trans rfl; have hcz65_2 : w64.cell? ⟨gb130,2,none⟩ = some (.float .f64 a0_2) := (blk_cell BK130.out 2).trans rfl; have hcz65_3 : w64.cell? ⟨gb130,3,none⟩ = some (.string a0_3) := (blk_cell BK130.out 3).trans rfl; have hfz65_0 := blk_frozen BK130.out 0; have hfz65_1 := blk_frozen BK130.out 1; have hfz65_2 := blk_frozen BK130.out 2; have hfz65_3 := blk_frozen BK130.out 3; have hcz66_0 : w64.cell? ⟨gb131,0,none⟩ = some (.int .i64 a1_0) := (blk_cell BK131.out 0).trans rfl; have hcz66_1 : w64.cell? ⟨gb131,1,none⟩ = some (.int .i64 a1_1) := (blk_cell BK131.out 1).trans rfl; have hcz66_2 : w64.cell? ⟨gb131,2,none⟩ = some (.float .f64 a1_2) := (blk_cell BK131.out 2).trans rfl; have hcz66_3 : w64.cell? ⟨gb131,3,none⟩ = some (.string a1_3) := (blk_cell BK131.out 3).trans rfl; have hfz66_0 := blk_frozen BK131.out 0; have hfz66_1 := blk_frozen BK131.out 1; have hfz66_2 := blk_frozen BK131.out 2; have hfz66_3 := blk_frozen BK131.out 3) | ((with_reducible refine gate_callee (f := 18) rfl ?_); refine goesL_ (some 45) rfl rfl Try.func18 (by kernel_rfl) rfl #[.agg #[.int .i64 a0_0,.int .i64 a0_1,.float .f64 a0_2,.string a0_3],.agg #[.int .i64 a1_0,.int .i64 a1_1,.float .f64 a1_2,.string a1_3]] rfl (by (try simp only [List.map_toArray,List.map_cons,List.map_nil]); first | done | rfl | (simp only [List.length_drop,List.length_take]; rfl)) ?_; (with_reducible refine (colonnaderef05_numbers.calls a0_0 a0_1 a0_2 a0_3 a1_0 a1_1 a1_2 a1_3 t142 _ A41.out).mono ?_); rintro e w67 ⟨rfl,hb⟩; refine ⟨_,rfl,?_⟩; have n0_ := Aside0.mk (blk_below (g := gb130) (o := .cells #[.int .i64 a0_0,.int .i64 a0_1,.float .f64 a0_2,.string a0_3] 28 (0,0)) (by (with_reducible repeat (first | refine blk_drewN ?_ _ | refine blk_drew ?_ | refine blk_alloc ?_ _)); exact BK130.out) hb); have n1_ := Aside0.mk (blk_below (g := gb131) (o := .cells #[.int .i64 a1_0,.int .i64 a1_1,.float .f64 a1_2,.string a1_3] 28 (0,0)) (by (with_reducible repeat (first | refine blk_drewN ?_ _ | refine blk_drew ?_ | refine blk_alloc ?_ _)); exact BK131.out) hb); have n2_ := Aside0.mk (below_step (by repeat (first | (with_reducible first | exact HB.out | apply below_alloc | apply pw_below_drewN | apply below_drew1 | refine below_set ?_ GE130.out | refine below_set ?_ GE131.out) | exact HB.out)) hb); clear BK130; clear BK131; clear HB; have BK130 := n0_; have BK131 := n1_; have HB := n2_; clear n0_ n1_ n2_; (try clear hb); (try clear hb2); (try clear hk); (try clear hi)))
        go_ret
        exact ⟨by first | rfl | (simp [errW_none,errW_some] <;> rfl) | (simp [*,errW_none,errW_some] <;> rfl),by repeat (first | (with_reducible first | exact HB.out | apply below_alloc | apply pw_below_drewN | apply below_drew1 | refine below_set ?_ GE130.out | refine below_set ?_ GE131.out) | exact HB.out)⟩
    ·
     rw [if_neg c19] at H
     have c19b0 : (t134 == t135) = false := beq_eq_false_iff_ne.mpr c19
     have c19b1 : (t134 != t135) = true := bne_iff_ne.mpr c19
     replace H := Option.bind_eq_some_iff.mp H
     obtain ⟨t136,A680,H⟩ := H
     replace H : ((colonnaderef05_class.f a1_0 a1_1 a1_2 a1_3).bind fun t137 => ((colonnaderef05_less.f t136 t137).bind fun t138 => (some t138))) = some r := H
     have A68 := Aside0.mk A680
     clear A680
     replace H := Option.bind_eq_some_iff.mp H
     obtain ⟨t137,A690,H⟩ := H
     replace H : ((colonnaderef05_less.f t136 t137).bind fun t138 => (some t138)) = some r := H
     have A69 := Aside0.mk A690
     clear A690
     replace H := Option.bind_eq_some_iff.mp H
     obtain ⟨t138,A700,H⟩ := H
     replace H : (some t138) = some r := H
     have A70 := Aside0.mk A700
     clear A700
     obtain rfl := Option.some.inj H
     try go_wp2
     have n0_ := Aside0.mk (blk_drew BK130.out)
     have n1_ := Aside0.mk (blk_drew BK131.out)
     have n2_ := Aside0.mk (below_drew1 HB.out)
     clear BK130
     clear BK131
     clear HB
     have BK130 := n0_
     have BK131 := n1_
     have HB := n2_
     clear n0_ n1_ n2_
     refine start_ (n := 5) (S := fun w' => w'.cell? ⟨gb130,0,none⟩ = some (.int .i64 a0_0) ∧ w'.cell? ⟨gb130,1,none⟩ = some (.int .i64 a0_1) ∧ w'.cell? ⟨gb130,2,none⟩ = some (.float .f64 a0_2) ∧ w'.cell? ⟨gb130,3,none⟩ = some (.string a0_3) ∧ w'.cell? ⟨gb131,0,none⟩ = some (.int .i64 a1_0) ∧ w'.cell? ⟨gb131,1,none⟩ = some (.int .i64 a1_1) ∧ w'.cell? ⟨gb131,2,none⟩ = some (.float .f64 a1_2) ∧ w'.cell? ⟨gb131,3,none⟩ = some (.string a1_3)) (ds := []) #[false,false,false,false,false] (by kernel_rfl) rfl rfl ⟨(blk_cell BK130.out 0).trans rfl,(blk_cell BK130.out 1).trans rfl,(blk_cell BK130.out 2).trans rfl,(blk_cell BK130.out 3).trans rfl,(blk_cell BK131.out 0).trans rfl,(blk_cell BK131.out 1).trans rfl,(blk_cell BK131.out 2).trans rfl,(blk_cell BK131.out 3).trans rfl⟩ (fun hHeld => ?_)
     generalize wc.drew = w71 at BK130 BK131 HB hHeld ⊢
     refine take_ (i := 0) (N := some 22) (v := ?_) (a' := ?_) #[true,false,false,false,false] rfl rfl (by kernel_rfl) (fun _ _ _ h => h) (Or.inl ⟨by rfl,?_⟩) hHeld ?_ ?_
     rotate_left
     ·
      rintro w' ⟨s0,s1,s2,s3,s4,s5,s6,s7⟩
      go_simp
      with_reducible rfl
     rotate_left
     ·
      simp only [Act.put,List.setIfInBounds_toArray,List.set_cons_zero,List.set_cons_succ,i64_w,i32_w]
      rfl
     refine take_ (i := 2) (N := some 24) (v := ?_) (a' := ?_) #[true,false,true,false,false] rfl rfl (by kernel_rfl) (fun _ _ _ h => h) (Or.inl ⟨by rfl,?_⟩) hHeld ?_ ?_
     rotate_left
     ·
      rintro w' ⟨s0,s1,s2,s3,s4,s5,s6,s7⟩
      go_simp
      with_reducible rfl
     rotate_left
     ·
      simp only [Act.put,List.setIfInBounds_toArray,List.set_cons_zero,List.set_cons_succ,i64_w,i32_w]
      rfl
     refine one_ (i := 1) (N := some 23) #[true,true,true,false,false] rfl rfl (by kernel_rfl) (by decide) (fun K hK => ?_)
     refine goes_ Try.func15 (by kernel_rfl) rfl #[.agg #[.int .i64 a0_0,.int .i64 a0_1,.float .f64 a0_2,.string a0_3]] (by rfl) rfl rfl (by (try simp only [List.map_toArray,List.map_cons,List.map_nil]); first | done | rfl | (simp only [List.length_drop,List.length_take]; rfl)) ?_
     with_reducible refine (colonnaderef05_class.calls a0_0 a0_1 a0_2 a0_3 t134 _ A17.out).mono ?_
     rintro e w72 ⟨rfl,hb⟩
     refine ⟨_,rfl,?_⟩
     have n0_ := Aside0.mk (blk_below (g := gb130) (o := .cells #[.int .i64 a0_0,.int .i64 a0_1,.float .f64 a0_2,.string a0_3] 28 (0,0)) (by (with_reducible repeat (first | refine blk_drewN ?_ _ | refine blk_drew ?_ | refine blk_alloc ?_ _)); exact BK130.out) hb)
     have n1_ := Aside0.mk (blk_below (g := gb131) (o := .cells #[.int .i64 a1_0,.int .i64 a1_1,.float .f64 a1_2,.string a1_3] 28 (0,0)) (by (with_reducible repeat (first | refine blk_drewN ?_ _ | refine blk_drew ?_ | refine blk_alloc ?_ _)); exact BK131.out) hb)
     have n2_ := Aside0.mk (below_step (by repeat (first | (with_reducible first | exact HB.out | apply below_alloc | apply pw_below_drewN | apply below_drew1 | refine below_set ?_ GE130.out | refine below_set ?_ GE131.out) | exact HB.out)) hb)
     clear BK130
     clear BK131
     clear HB
     have BK130 := n0_
     have BK131 := n1_
     have HB := n2_
     clear n0_ n1_ n2_
     (try clear hb)
     (try clear hb2)
     (try clear hk)
     (try clear hi)
     refine hK.out _ _ ⟨(blk_cell BK130.out 0).trans rfl,(blk_cell BK130.out 1).trans rfl,(blk_cell BK130.out 2).trans rfl,(blk_cell BK130.out 3).trans rfl,(blk_cell BK131.out 0).trans rfl,(blk_cell BK131.out 1).trans rfl,(blk_cell BK131.out 2).trans rfl,(blk_cell BK131.out 3).trans rfl⟩ (fun hHeld => ?_)
     clear hK K
     refine norm_ (a' := ?_) ?_ ?_
     rotate_left
     ·
      show Act.put _ (some 23) _ = _
      simp only [Act.put,List.setIfInBounds_toArray,List.set_cons_zero,List.set_cons_succ,i64_w,i32_w]
      rfl
     refine one_ (i := 3) (N := some 25) #[true,true,true,true,false] rfl rfl (by kernel_rfl) (by decide) (fun K hK => ?_)
     refine goes_ Try.func15 (by kernel_rfl) rfl #[.agg #[.int .i64 a1_0,.int .i64 a1_1,.float .f64 a1_2,.string a1_3]] (by rfl) rfl rfl (by (try simp only [List.map_toArray,List.map_cons,List.map_nil]); first | done | rfl | (simp only [List.length_drop,List.length_take]; rfl)) ?_
     with_reducible refine (colonnaderef05_class.calls a1_0 a1_1 a1_2 a1_3 t135 _ A18.out).mono ?_
     rintro e w73 ⟨rfl,hb⟩
     refine ⟨_,rfl,?_⟩
     have n0_ := Aside0.mk (blk_below (g := gb130) (o := .cells #[.int .i64 a0_0,.int .i64 a0_1,.float .f64 a0_2,.string a0_3] 28 (0,0)) (by (with_reducible repeat (first | refine blk_drewN ?_ _ | refine blk_drew ?_ | refine blk_alloc ?_ _)); exact BK130.out) hb)
     have n1_ := Aside0.mk (blk_below (g := gb131) (o := .cells #[.int .i64 a1_0,.int .i64 a1_1,.float .f64 a1_2,.string a1_3] 28 (0,0)) (by (with_reducible repeat (first | refine blk_drewN ?_ _ | refine blk_drew ?_ | refine blk_alloc ?_ _)); exact BK131.out) hb)
     have n2_ := Aside0.mk (below_step (by repeat (first | (with_reducible first | exact HB.out | apply below_alloc | apply pw_below_drewN | apply below_drew1 | refine below_set ?_ GE130.out | refine below_set ?_ GE131.out) | exact HB.out)) hb)
     clear BK130
     clear BK131
     clear HB
     have BK130 := n0_
     have BK131 := n1_
     have HB := n2_
     clear n0_ n1_ n2_
     (try clear hb)
     (try clear hb2)
     (try clear hk)
     (try clear hi)
     refine hK.out _ _ ⟨(blk_cell BK130.out 0).trans rfl,(blk_cell BK130.out 1).trans rfl,(blk_cell BK130.out 2).trans rfl,(blk_cell BK130.out 3).trans rfl,(blk_cell BK131.out 0).trans rfl,(blk_cell BK131.out 1).trans rfl,(blk_cell BK131.out 2).trans rfl,(blk_cell BK131.out 3).trans rfl⟩ (fun hHeld => ?_)
     clear hK K
     refine norm_ (a' := ?_) ?_ ?_
     rotate_left
     ·
      show Act.put _ (some 25) _ = _
      simp only [Act.put,List.setIfInBounds_toArray,List.set_cons_zero,List.set_cons_succ,i64_w,i32_w]
      rfl
     refine pure_ (i := 4) (N := some 26) (v := ?_) (a' := ?_) #[true,true,true,true,true] rfl rfl (by kernel_rfl) (fun _ _ _ h => h) (Or.inl ⟨by rfl,?_⟩) ?_ ?_
     rotate_left
     ·
      intro w'
      go_simp
      with_reducible rfl
     rotate_left
     ·
      simp only [Act.put,List.setIfInBounds_toArray,List.set_cons_zero,List.set_cons_succ,i64_w,i32_w]
      rfl
     refine done_ (by kernel_rfl) ?_
     try go_wp2
     have n0_ := Aside0.mk (blk_drew BK130.out)
     have n1_ := Aside0.mk (blk_drew BK131.out)
     have n2_ := Aside0.mk (below_drew1 HB.out)
     clear BK130
     clear BK131
     clear HB
     have BK130 := n0_
     have BK131 := n1_
     have HB := n2_
     clear n0_ n1_ n2_
     refine start_ (n := 6) (S := fun w' => w'.cell? ⟨gb130,0,none⟩ = some (.int .i64 a0_0) ∧ w'.cell? ⟨gb130,1,none⟩ = some (.int .i64 a0_1) ∧ w'.cell? ⟨gb130,2,none⟩ = some (.float .f64 a0_2) ∧ w'.cell? ⟨gb130,3,none⟩ = some (.string a0_3) ∧ w'.cell? ⟨gb131,0,none⟩ = some (.int .i64 a1_0) ∧ w'.cell? ⟨gb131,1,none⟩ = some (.int .i64 a1_1) ∧ w'.cell? ⟨gb131,2,none⟩ = some (.float .f64 a1_2) ∧ w'.cell? ⟨gb131,3,none⟩ = some (.string a1_3)) (ds := []) #[false,false,false,false,false,false] (by kernel_rfl) rfl rfl ⟨(blk_cell BK130.out 0).trans rfl,(blk_cell BK130.out 1).trans rfl,(blk_cell BK130.out 2).trans rfl,(blk_cell BK130.out 3).trans rfl,(blk_cell BK131.out 0).trans rfl,(blk_cell BK131.out 1).trans rfl,(blk_cell BK131.out 2).trans rfl,(blk_cell BK131.out 3).trans rfl⟩ (fun hHeld => ?_)
     generalize w73.drew = w74 at BK130 BK131 HB hHeld ⊢
     refine take_ (i := 0) (N := some 27) (v := ?_) (a' := ?_) #[true,false,false,false,false,false] rfl rfl (by kernel_rfl) (fun _ _ _ h => h) (Or.inl ⟨by rfl,?_⟩) hHeld ?_ ?_
     rotate_left
     ·
      rintro w' ⟨s0,s1,s2,s3,s4,s5,s6,s7⟩
      go_simp
      with_reducible rfl
     rotate_left
     ·
      simp only [Act.put,List.setIfInBounds_toArray,List.set_cons_zero,List.set_cons_succ,i64_w,i32_w]
      rfl
     refine take_ (i := 2) (N := some 29) (v := ?_) (a' := ?_) #[true,false,true,false,false,false] rfl rfl (by kernel_rfl) (fun _ _ _ h => h) (Or.inl ⟨by rfl,?_⟩) hHeld ?_ ?_
     rotate_left
     ·
      rintro w' ⟨s0,s1,s2,s3,s4,s5,s6,s7⟩
      go_simp
      with_reducible rfl
     rotate_left
     ·
      simp only [Act.put,List.setIfInBounds_toArray,List.set_cons_zero,List.set_cons_succ,i64_w,i32_w]
      rfl
     refine one_ (i := 1) (N := some 28) #[true,true,true,false,false,false] rfl rfl (by kernel_rfl) (by decide) (fun K hK => ?_)
     refine goes_ Try.func15 (by kernel_rfl) rfl #[.agg #[.int .i64 a0_0,.int .i64 a0_1,.float .f64 a0_2,.string a0_3]] (by rfl) rfl rfl (by (try simp only [List.map_toArray,List.map_cons,List.map_nil]); first | done | rfl | (simp only [List.length_drop,List.length_take]; rfl)) ?_
     with_reducible refine (colonnaderef05_class.calls a0_0 a0_1 a0_2 a0_3 t136 _ A68.out).mono ?_
     rintro e w75 ⟨rfl,hb⟩
     refine ⟨_,rfl,?_⟩
     have n0_ := Aside0.mk (blk_below (g := gb130) (o := .cells #[.int .i64 a0_0,.int .i64 a0_1,.float .f64 a0_2,.string a0_3] 28 (0,0)) (by (with_reducible repeat (first | refine blk_drewN ?_ _ | refine blk_drew ?_ | refine blk_alloc ?_ _)); exact BK130.out) hb)
     have n1_ := Aside0.mk (blk_below (g := gb131) (o := .cells #[.int .i64 a1_0,.int .i64 a1_1,.float .f64 a1_2,.string a1_3] 28 (0,0)) (by (with_reducible repeat (first | refine blk_drewN ?_ _ | refine blk_drew ?_ | refine blk_alloc ?_ _)); exact BK131.out) hb)
     have n2_ := Aside0.mk (below_step (by repeat (first | (with_reducible first | exact HB.out | apply below_alloc | apply pw_below_drewN | apply below_drew1 | refine below_set ?_ GE130.out | refine below_set ?_ GE131.out) | exact HB.out)) hb)
     clear BK130
     clear BK131
     clear HB
     have BK130 := n0_
     have BK131 := n1_
     have HB := n2_
     clear n0_ n1_ n2_
     (try clear hb)
     (try clear hb2)
     (try clear hk)
     (try clear hi)
     refine hK.out _ _ ⟨(blk_cell BK130.out 0).trans rfl,(blk_cell BK130.out 1).trans rfl,(blk_cell BK130.out 2).trans rfl,(blk_cell BK130.out 3).trans rfl,(blk_cell BK131.out 0).trans rfl,(blk_cell BK131.out 1).trans rfl,(blk_cell BK131.out 2).trans rfl,(blk_cell BK131.out 3).trans rfl⟩ (fun hHeld => ?_)
     clear hK K
     refine norm_ (a' := ?_) ?_ ?_
     rotate_left
     ·
      show Act.put _ (some 28) _ = _
      simp only [Act.put,List.setIfInBounds_toArray,List.set_cons_zero,List.set_cons_succ,i64_w,i32_w]
      rfl
     refine one_ (i := 3) (N := some 30) #[true,true,true,true,false,false] rfl rfl (by kernel_rfl) (by decide) (fun K hK => ?_)
     refine goes_ Try.func15 (by kernel_rfl) rfl #[.agg #[.int .i64 a1_0,.int .i64 a1_1,.float .f64 a1_2,.string a1_3]] (by rfl) rfl rfl (by (try simp only [List.map_toArray,List.map_cons,List.map_nil]); first | done | rfl | (simp only [List.length_drop,List.length_take]; rfl)) ?_
     with_reducible refine (colonnaderef05_class.calls a1_0 a1_1 a1_2 a1_3 t137 _ A69.out).mono ?_
     rintro e w76 ⟨rfl,hb⟩
     refine ⟨_,rfl,?_⟩
     have n0_ := Aside0.mk (blk_below (g := gb130) (o := .cells #[.int .i64 a0_0,.int .i64 a0_1,.float .f64 a0_2,.string a0_3] 28 (0,0)) (by (with_reducible repeat (first | refine blk_drewN ?_ _ | refine blk_drew ?_ | refine blk_alloc ?_ _)); exact BK130.out) hb)
     have n1_ := Aside0.mk (blk_below (g := gb131) (o := .cells #[.int .i64 a1_0,.int .i64 a1_1,.float .f64 a1_2,.string a1_3] 28 (0,0)) (by (with_reducible repeat (first | refine blk_drewN ?_ _ | refine blk_drew ?_ | refine blk_alloc ?_ _)); exact BK131.out) hb)
     have n2_ := Aside0.mk (below_step (by repeat (first | (with_reducible first | exact HB.out | apply below_alloc | apply pw_below_drewN | apply below_drew1 | refine below_set ?_ GE130.out | refine below_set ?_ GE131.out) | exact HB.out)) hb)
     clear BK130
     clear BK131
     clear HB
     have BK130 := n0_
     have BK131 := n1_
     have HB := n2_
     clear n0_ n1_ n2_
     (try clear hb)
     (try clear hb2)
     (try clear hk)
     (try clear hi)
     refine hK.out _ _ ⟨(blk_cell BK130.out 0).trans rfl,(blk_cell BK130.out 1).trans rfl,(blk_cell BK130.out 2).trans rfl,(blk_cell BK130.out 3).trans rfl,(blk_cell BK131.out 0).trans rfl,(blk_cell BK131.out 1).trans rfl,(blk_cell BK131.out 2).trans rfl,(blk_cell BK131.out 3).trans rfl⟩ (fun hHeld => ?_)
     clear hK K
     refine norm_ (a' := ?_) ?_ ?_
     rotate_left
     ·
      show Act.put _ (some 30) _ = _
      simp only [Act.put,List.setIfInBounds_toArray,List.set_cons_zero,List.set_cons_succ,i64_w,i32_w]
      rfl
     refine one_ (i := 4) (N := some 31) #[true,true,true,true,true,false] rfl rfl (by kernel_rfl) (by decide) (fun K hK => ?_)
     refine goes_ Try.func16 (by kernel_rfl) rfl #[.int .i64 t136,.int .i64 t137] (by rfl) rfl rfl (by (try simp only [List.map_toArray,List.map_cons,List.map_nil]); first | done | rfl | (simp only [List.length_drop,List.length_take]; rfl)) ?_
     with_reducible refine (colonnaderef05_less.calls t136 t137 t138 _ A70.out).mono ?_
     rintro e w' ⟨rfl,⟨nd,rfl⟩⟩
     refine ⟨_,rfl,?_⟩
     refine hK.out _ _ ⟨(blk_cell BK130.out 0).trans rfl,(blk_cell BK130.out 1).trans rfl,(blk_cell BK130.out 2).trans rfl,(blk_cell BK130.out 3).trans rfl,(blk_cell BK131.out 0).trans rfl,(blk_cell BK131.out 1).trans rfl,(blk_cell BK131.out 2).trans rfl,(blk_cell BK131.out 3).trans rfl⟩ (fun hHeld => ?_)
     clear hK K
     refine norm_ (a' := ?_) ?_ ?_
     rotate_left
     ·
      show Act.put _ (some 31) _ = _
      simp only [Act.put,List.setIfInBounds_toArray,List.set_cons_zero,List.set_cons_succ,i64_w,i32_w]
      rfl
     refine pure_ (i := 5) (N := some 4) (v := ?_) (a' := ?_) #[true,true,true,true,true,true] rfl rfl (by kernel_rfl) (fun _ _ _ h => h) (Or.inl ⟨by rfl,?_⟩) ?_ ?_
     rotate_left
     ·
      intro w'
      go_simp
      with_reducible rfl
     rotate_left
     ·
      simp only [Act.put,List.setIfInBounds_toArray,List.set_cons_zero,List.set_cons_succ,i64_w,i32_w]
      rfl
     refine done_ (by kernel_rfl) ?_
     try go_wp2
     go_ret
     exact ⟨by first | rfl | (simp [errW_none,errW_some] <;> rfl) | (simp [*,errW_none,errW_some] <;> rfl),by repeat (first | (with_reducible first | exact HB.out | apply below_alloc | apply pw_below_drewN | apply below_drew1 | refine below_set ?_ GE130.out | refine below_set ?_ GE131.out) | exact HB.out)⟩


end Go.Proofs.Ytgpkjdjjjenhcaa.Q
