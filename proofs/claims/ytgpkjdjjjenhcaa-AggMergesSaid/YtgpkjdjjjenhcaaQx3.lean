/- Contracts of functions of the program: the call of each comes to what the plain Lean function of its name says, wherever that one is 'some'. Written by a program of this session. -/
import Derived.Test.YtgpkjdjjjenhcaaQx0
import Derived.Test.YtgpkjdjjjenhcaaQx1
import Derived.Test.YtgpkjdjjjenhcaaQx2
namespace Go.Proofs.Ytgpkjdjjjenhcaa.Q
open Go.RowKit Go.Proofs.YtgpkjdjjjenhcaaW.PrintWords Go.Proofs.YtgpkjdjjjenhcaaW.PrintLast Go.Proofs.Ytgpkjdjjjenhcaa.Fw Go.Proofs.YtgpkjdjjjenhcaaW.PrintMore
attribute [local go_sem] max2_int min2_int max_two min_two max_three min_three max_four min_four   -- for this text's walks alone
set_option linter.unusedVariables false
set_option linter.unusedSimpArgs false

attribute [local go_sem high] eqA25 eqA28
/-! ### colonnadelaw22_states: function 4 -/
def colonnadelaw22_states.l0 : Nat → List (S34) → List (S30) → Int → Option ((List (S30)))
  | 0, _, _, _ => none
  | k + 1, x0, x3, x4 => if x4 < (x0.length : Int) then (if 0 ≤ x4 then (if x3.length < 1256584717458 then (colonnadelaw22_states.l0 k x0 (x3 ++ [(⟨(rd_T34 x0 x4).f0, (rd_T34 x0 x4).f1, (⟨(rd_T34 x0 x4).f2, (rd_T34 x0 x4).f3⟩ : S25), (⟨(rd_T34 x0 x4).f4.f0, (rd_T34 x0 x4).f4.f1, (rd_T34 x0 x4).f4.f2, (rd_T34 x0 x4).f4.f3⟩ : S28), (⟨(rd_T34 x0 x4).f5.f0, (rd_T34 x0 x4).f5.f1, (rd_T34 x0 x4).f5.f2, (rd_T34 x0 x4).f5.f3⟩ : S28)⟩ : S30)]) (wrap64 (x4 + 1))) else (none)) else (none)) else (some x3)
def colonnadelaw22_states.f (k : Nat) (l0 : List (S34)) : Option ((List (S30))) := colonnadelaw22_states.l0 k l0 ([] : List (S30)) 0
theorem colonnadelaw22_states.mono_l : ∀ k, (∀ y0 y1 y2, LeO (colonnadelaw22_states.l0 k y0 y1 y2) (colonnadelaw22_states.l0 (k + 1) y0 y1 y2))
  | 0 => fun _ _ _ r h => by simp [colonnadelaw22_states.l0] at h
  | k + 1 => by
    have ih0 := colonnadelaw22_states.mono_l k
    · intro y0 y1 y2
      unfold colonnadelaw22_states.l0
      repeat' first
      | (with_reducible exact ih0 _ _ _)
      | (with_reducible exact LeO.refl _)
      | (with_reducible exact LeO.none _)
      | (with_reducible refine LeO.ite ?_ ?_)
      | (with_reducible refine LeO.bind ?_ (fun _ => ?_))
      | exact ih0 _ _ _
      | exact LeO.none _
      | refine LeO.ite ?_ ?_
      | refine LeO.bind ?_ (fun _ => ?_)
theorem colonnadelaw22_states.mono : ∀ a0 k, LeO (colonnadelaw22_states.f k a0) (colonnadelaw22_states.f (k + 1) a0) := by
  intro a0 k
  have ih0 := colonnadelaw22_states.mono_l k
  unfold colonnadelaw22_states.f
  repeat' first
      | (with_reducible exact ih0 _ _ _)
      | (with_reducible exact LeO.refl _)
      | (with_reducible exact LeO.none _)
      | (with_reducible refine LeO.ite ?_ ?_)
      | (with_reducible refine LeO.bind ?_ (fun _ => ?_))
      | exact ih0 _ _ _
      | exact LeO.none _
      | refine LeO.ite ?_ ?_
      | refine LeO.bind ?_ (fun _ => ?_)
def colonnadelaw22_states.T5 : Bool × List (List Nat × List Nat) := (true, [([], []), ([], []), ([], []), ([1, 2], [1, 2]), ([3], [3]), ([4], [4]), ([], []), ([], []), ([6, 7], [6, 7]), ([8], [8]), ([9], [9]), ([], []), ([], []), ([11, 12], [11, 12]), ([13], [13]), ([14], [14]), ([], []), ([], []), ([16, 17], [16, 17]), ([18], [18]), ([19], [19]), ([15, 20], [15, 20]), ([], []), ([], []), ([22, 23], [22, 23]), ([24], [24]), ([25], [25]), ([], []), ([], []), ([27, 28], [27, 28]), ([29], [29]), ([30], [30]), ([5, 10, 21, 26, 31], [5, 10, 21, 26, 31]), ([32], [32]), ([0, 33], [0, 33]), ([34, 34, 0, 1, 2, 3, 4, 5, 6, 7, 8, 9, 10, 11, 12, 13, 14, 15, 16, 17, 18, 19, 20, 21, 22, 23, 24, 25, 26, 27, 28, 29, 30, 31, 32, 33, 34], [0, 34])])
def colonnadelaw22_states.B5 : List Nat := [0, 0, 0, 6, 14, 30, 0, 0, 192, 448, 960, 0, 0, 6144, 14336, 30720, 0, 0, 196608, 458752, 983040, 2095104, 0, 0, 12582912, 29360128, 62914560, 0, 0, 402653184, 939524096, 2013265920, 4294967294, 8589934590, 17179869183, 34359738367]
theorem colonnadelaw22_states.tab5 : rtab .any (opsOf Try.f4 5) = colonnadelaw22_states.T5 := by kernel_rfl
theorem colonnadelaw22_states.bits5 : waitsOk colonnadelaw22_states.T5.2 colonnadelaw22_states.B5 = true := by kernel_rfl
set_option maxHeartbeats 8000000 in
set_option maxRecDepth 100000 in
theorem colonnadelaw22_states.calls (k : Nat) (A0 : Option Addr) (c0 : Nat) (l0 : List (S34)) (r : List (S30)) (w : World) (hr0 : Kd.C k34 w A0 l0.length l0) (hc0 : l0.length ≤ c0) (h : colonnadelaw22_states.f k l0 = some r) :
  Calls Try.prog 4 #[.slice A0 l0.length c0] w fun e w' => ∃ v0_ : Value,e = .returned (v0_) ∧ Kd.R k30 30 w' w.heap.size (fun _ => True) v0_ r ∧ Below w.heap.size w w' := by
 have hu25 := Try.underlying25
 have hu28 := Try.underlying28
 have hu30 := Try.underlying30
 have HR0 := Aside0.mk hr0
 have HC0 := Aside0.mk hc0
 clear hr0 hc0
 have HB := Aside0.mk (Below.refl w.heap.size w)
 have H : (colonnadelaw22_states.l0 k l0 ([] : List (S30)) 0) = some r := h
 clear h
 have H' := Aside0.mk H
 clear H
 go_enter Try.func4,Try.ntmps4
 go_wp2
 go_loopg [3,4] k (fun kq v3 v4 w' => ∃ (x3_1 : List (S30)) (x4_1 : Int),v4 = .int .i64 x4_1 ∧ Aside0 (colonnadelaw22_states.l0 kq l0 x3_1 x4_1 = some r) ∧ Aside0 (kq ≤ k) ∧ Aside0 (Kd.R k30 30 w' w.heap.size (fun _ => True) v3 x3_1) ∧ Aside0 (Below w.heap.size w w'))
 case atStart => exact ⟨(([] : List (S30))),(0),(by first | rfl | (simp; done) | (simp [*]; done)),H',⟨Nat.le_refl _⟩,⟨by first | exact Kd.R_nil _ _ _ _ _ | exact Kd.N_nil _ _ _ _ _ | exact Kd.V_nil _ _ _ _ _ | exact Kd.Q_nil _ _ _ _ _ | exact Kd.S_nil _ _ _ _ _⟩,⟨by repeat (first | (with_reducible first | exact HB.out | apply below_alloc | apply pw_below_drewN | apply below_drew1) | exact HB.out)⟩⟩
 case round =>
  clear H'
  obtain ⟨x3_1,x4_1,rfl,HA,HK1,HO_3,HB⟩ := hrel
  cases gk with
  | zero => exact absurd HA.out (by simp [colonnadelaw22_states.l0])
  | succ k1 =>
   have H := HA.out
   clear HA
   simp only [colonnadelaw22_states.l0] at H
   by_cases c2 : x4_1 < (l0.length : Int)
   ·
    rw [if_pos c2] at H
    have c2b0 : decide (x4_1 < (l0.length : Int)) = true := decide_eq_true c2
    clear c2
    by_cases c3 : 0 ≤ x4_1
    ·
     rw [if_pos c3] at H
     have c3b0 : decide (0 ≤ x4_1) = true := decide_eq_true c3
     clear c3
     by_cases c4 : x3_1.length < 1256584717458
     ·
      rw [if_pos c4] at H
      have LMc4 := Aside0.mk c4
      clear c4
      obtain ⟨y107,hy107⟩ : ∃ y_ : List (S30),y_ = (x3_1 ++ [(⟨(rd_T34 l0 x4_1).f0,(rd_T34 l0 x4_1).f1,(⟨(rd_T34 l0 x4_1).f2,(rd_T34 l0 x4_1).f3⟩ : S25),(⟨(rd_T34 l0 x4_1).f4.f0,(rd_T34 l0 x4_1).f4.f1,(rd_T34 l0 x4_1).f4.f2,(rd_T34 l0 x4_1).f4.f3⟩ : S28),(⟨(rd_T34 l0 x4_1).f5.f0,(rd_T34 l0 x4_1).f5.f1,(rd_T34 l0 x4_1).f5.f2,(rd_T34 l0 x4_1).f5.f3⟩ : S28)⟩ : S30)]) := ⟨_,rfl⟩
      replace H : (colonnadelaw22_states.l0 k1 l0 y107 (wrap64 (x4_1 + 1))) = some r := by first | (rw [hy107]; with_reducible exact H) | (have H2_ := (Option.bind_some _ _).symm.trans H; rw [hy107]; with_reducible exact H2_) | (have H2_ := (Option.bind_some _ _).symm.trans H; with_reducible exact H2_) | with_reducible exact H | (rw [hy107]; exact H) | exact H
      have Ny107 := Aside0.mk hy107
      clear hy107
      have H' := Aside0.mk H
      clear H
      try go_wp2
      have n0_ := Aside0.mk (Kd.R_drew HO_3.out)
      have n1_ := Aside0.mk (below_drew1 HB.out)
      clear HO_3
      clear HB
      have HO_3 := n0_
      have HB := n1_
      clear n0_ n1_
      have p101 : 0 ≤ (x4_1 : Int) := of_decide_eq_true (by first | (with_reducible assumption) | assumption)
      have q101 : x4_1 < (l0.length : Int) := of_decide_eq_true (by first | (with_reducible assumption) | assumption)
      obtain ⟨ad101,e101,hx101_0,-,-,-,-,-,-,-,-,-,-,-⟩ := at_T34 HR0.out x4_1 p101 q101
      have hw101_0 := hx101_0
      cases e101
      replace hx101_0 := (HB.out.cell (World.block_lt_of_cell? w _ hx101_0)).trans hx101_0
      replace p101 := eq_true p101
      replace q101 := eq_true q101
      have p102 : 0 ≤ (x4_1 : Int) := of_decide_eq_true (by first | (with_reducible assumption) | assumption)
      have q102 : x4_1 < (l0.length : Int) := of_decide_eq_true (by first | (with_reducible assumption) | assumption)
      obtain ⟨ad102,e102,-,hx102_1,-,-,-,-,-,-,-,-,-,-⟩ := at_T34 HR0.out x4_1 p102 q102
      have hw102_1 := hx102_1
      obtain rfl : ad101 = ad102 := (by injection e102)
      replace hx102_1 := (HB.out.cell (World.block_lt_of_cell? w _ hx102_1)).trans hx102_1
      replace p102 := eq_true p102
      replace q102 := eq_true q102
      have p103 : 0 ≤ (x4_1 : Int) := of_decide_eq_true (by first | (with_reducible assumption) | assumption)
      have q103 : x4_1 < (l0.length : Int) := of_decide_eq_true (by first | (with_reducible assumption) | assumption)
      obtain ⟨ad103,e103,-,-,hx103_2,-,-,-,-,-,-,-,-,-⟩ := at_T34 HR0.out x4_1 p103 q103
      have hw103_2 := hx103_2
      obtain rfl : ad101 = ad103 := (by injection e103)
      replace hx103_2 := (HB.out.cell (World.block_lt_of_cell? w _ hx103_2)).trans hx103_2
      replace p103 := eq_true p103
      replace q103 := eq_true q103
      have p104 : 0 ≤ (x4_1 : Int) := of_decide_eq_true (by first | (with_reducible assumption) | assumption)
      have q104 : x4_1 < (l0.length : Int) := of_decide_eq_true (by first | (with_reducible assumption) | assumption)
      obtain ⟨ad104,e104,-,-,-,hx104_3,-,-,-,-,-,-,-,-⟩ := at_T34 HR0.out x4_1 p104 q104
      have hw104_3 := hx104_3
      obtain rfl : ad101 = ad104 := (by injection e104)
      replace hx104_3 := (HB.out.cell (World.block_lt_of_cell? w _ hx104_3)).trans hx104_3
      replace p104 := eq_true p104
      replace q104 := eq_true q104
      have p105 : 0 ≤ (x4_1 : Int) := of_decide_eq_true (by first | (with_reducible assumption) | assumption)
      have q105 : x4_1 < (l0.length : Int) := of_decide_eq_true (by first | (with_reducible assumption) | assumption)
      obtain ⟨ad105,e105,-,-,-,-,hx105_4,hx105_5,hx105_6,hx105_7,-,-,-,-⟩ := at_T34 HR0.out x4_1 p105 q105
      have hw105_7 := hx105_7
      have hw105_6 := hx105_6
      have hw105_5 := hx105_5
      have hw105_4 := hx105_4
      obtain rfl : ad101 = ad105 := (by injection e105)
      replace hx105_4 := (HB.out.cell (World.block_lt_of_cell? w _ hx105_4)).trans hx105_4
      replace hx105_5 := (HB.out.cell (World.block_lt_of_cell? w _ hx105_5)).trans hx105_5
      replace hx105_6 := (HB.out.cell (World.block_lt_of_cell? w _ hx105_6)).trans hx105_6
      replace hx105_7 := (HB.out.cell (World.block_lt_of_cell? w _ hx105_7)).trans hx105_7
      replace p105 := eq_true p105
      replace q105 := eq_true q105
      have p106 : 0 ≤ (x4_1 : Int) := of_decide_eq_true (by first | (with_reducible assumption) | assumption)
      have q106 : x4_1 < (l0.length : Int) := of_decide_eq_true (by first | (with_reducible assumption) | assumption)
      obtain ⟨ad106,e106,-,-,-,-,-,-,-,-,hx106_8,hx106_9,hx106_10,hx106_11⟩ := at_T34 HR0.out x4_1 p106 q106
      have hw106_11 := hx106_11
      have hw106_10 := hx106_10
      have hw106_9 := hx106_9
      have hw106_8 := hx106_8
      obtain rfl : ad101 = ad106 := (by injection e106)
      replace hx106_8 := (HB.out.cell (World.block_lt_of_cell? w _ hx106_8)).trans hx106_8
      replace hx106_9 := (HB.out.cell (World.block_lt_of_cell? w _ hx106_9)).trans hx106_9
      replace hx106_10 := (HB.out.cell (World.block_lt_of_cell? w _ hx106_10)).trans hx106_10
      replace hx106_11 := (HB.out.cell (World.block_lt_of_cell? w _ hx106_11)).trans hx106_11
      replace p106 := eq_true p106
      replace q106 := eq_true q106
      refine start_ (n := 36) (S := fun w' => w'.cell? (ad101.add ((x4_1).toNat * 12)) = some (.int .i64 ((rd_T34 l0 x4_1).f0)) ∧ w'.cell? ⟨(ad101.add ((x4_1).toNat * 12)).block,(ad101.add ((x4_1).toNat * 12)).off + 1,none⟩ = some (.int .i64 ((rd_T34 l0 x4_1).f1)) ∧ w'.cell? ⟨(ad101.add ((x4_1).toNat * 12)).block,(ad101.add ((x4_1).toNat * 12)).off + 2,none⟩ = some (.int .i64 ((rd_T34 l0 x4_1).f2)) ∧ w'.cell? ⟨(ad101.add ((x4_1).toNat * 12)).block,(ad101.add ((x4_1).toNat * 12)).off + 3,none⟩ = some (.int .u64 ((rd_T34 l0 x4_1).f3)) ∧ w'.cell? ⟨(ad101.add ((x4_1).toNat * 12)).block,(ad101.add ((x4_1).toNat * 12)).off + 4,none⟩ = some (.int .i64 ((rd_T34 l0 x4_1).f4.f0)) ∧ w'.cell? ⟨(ad101.add ((x4_1).toNat * 12)).block,(ad101.add ((x4_1).toNat * 12)).off + 5,none⟩ = some (.int .i64 ((rd_T34 l0 x4_1).f4.f1)) ∧ w'.cell? ⟨(ad101.add ((x4_1).toNat * 12)).block,(ad101.add ((x4_1).toNat * 12)).off + 6,none⟩ = some (.float .f64 ((rd_T34 l0 x4_1).f4.f2)) ∧ w'.cell? ⟨(ad101.add ((x4_1).toNat * 12)).block,(ad101.add ((x4_1).toNat * 12)).off + 7,none⟩ = some (.string ((rd_T34 l0 x4_1).f4.f3)) ∧ w'.cell? ⟨(ad101.add ((x4_1).toNat * 12)).block,(ad101.add ((x4_1).toNat * 12)).off + 8,none⟩ = some (.int .i64 ((rd_T34 l0 x4_1).f5.f0)) ∧ w'.cell? ⟨(ad101.add ((x4_1).toNat * 12)).block,(ad101.add ((x4_1).toNat * 12)).off + 9,none⟩ = some (.int .i64 ((rd_T34 l0 x4_1).f5.f1)) ∧ w'.cell? ⟨(ad101.add ((x4_1).toNat * 12)).block,(ad101.add ((x4_1).toNat * 12)).off + 10,none⟩ = some (.float .f64 ((rd_T34 l0 x4_1).f5.f2)) ∧ w'.cell? ⟨(ad101.add ((x4_1).toNat * 12)).block,(ad101.add ((x4_1).toNat * 12)).off + 11,none⟩ = some (.string ((rd_T34 l0 x4_1).f5.f3))) (ds := []) #[false,false,false,false,false,false,false,false,false,false,false,false,false,false,false,false,false,false,false,false,false,false,false,false,false,false,false,false,false,false,false,false,false,false,false,false] (by kernel_rfl) rfl rfl ⟨((HB.out.cell (World.block_lt_of_cell? w _ hw101_0)).trans hw101_0),((HB.out.cell (World.block_lt_of_cell? w _ hw102_1)).trans hw102_1),((HB.out.cell (World.block_lt_of_cell? w _ hw103_2)).trans hw103_2),((HB.out.cell (World.block_lt_of_cell? w _ hw104_3)).trans hw104_3),((HB.out.cell (World.block_lt_of_cell? w _ hw105_4)).trans hw105_4),((HB.out.cell (World.block_lt_of_cell? w _ hw105_5)).trans hw105_5),((HB.out.cell (World.block_lt_of_cell? w _ hw105_6)).trans hw105_6),((HB.out.cell (World.block_lt_of_cell? w _ hw105_7)).trans hw105_7),((HB.out.cell (World.block_lt_of_cell? w _ hw106_8)).trans hw106_8),((HB.out.cell (World.block_lt_of_cell? w _ hw106_9)).trans hw106_9),((HB.out.cell (World.block_lt_of_cell? w _ hw106_10)).trans hw106_10),((HB.out.cell (World.block_lt_of_cell? w _ hw106_11)).trans hw106_11)⟩ (fun hHeld => ?_); refine with_tabW colonnadelaw22_states.tab5 colonnadelaw22_states.bits5 (fun HT_ HW_ => ?_)
      generalize wr.drew = w5 at HO_3 HB hx101_0 hx102_1 hx103_2 hx104_3 hx105_4 hx105_5 hx105_6 hx105_7 hx106_10 hx106_11 hx106_8 hx106_9 hHeld ⊢
      refine pure_ (i := 0) (N := some 11) (v := ?_) (a' := ?_) #[true,false,false,false,false,false,false,false,false,false,false,false,false,false,false,false,false,false,false,false,false,false,false,false,false,false,false,false,false,false,false,false,false,false,false,false] rfl rfl (any_of HT_.out (by kernel_rfl)) (fun _ _ _ h => h) (Or.inl ⟨by rfl,?_⟩) ?_ ?_
      rotate_left
      ·
       intro w'
       go_simp
       with_reducible rfl
      rotate_left
      ·
       simp only [Act.put,List.setIfInBounds_toArray,List.set_cons_zero,List.set_cons_succ,i64_w,i32_w]
       rfl
      refine pure_ (i := 1) (N := some 12) (v := ?_) (a' := ?_) #[true,true,false,false,false,false,false,false,false,false,false,false,false,false,false,false,false,false,false,false,false,false,false,false,false,false,false,false,false,false,false,false,false,false,false,false] rfl rfl (any_of HT_.out (by kernel_rfl)) (fun _ _ _ h => h) (Or.inl ⟨by rfl,?_⟩) ?_ ?_
      rotate_left
      ·
       intro w'
       go_simp
       with_reducible rfl
      rotate_left
      ·
       simp only [Act.put,List.setIfInBounds_toArray,List.set_cons_zero,List.set_cons_succ,i64_w,i32_w]
       rfl
      refine pure_ (i := 2) (N := some 13) (v := ?_) (a' := ?_) #[true,true,true,false,false,false,false,false,false,false,false,false,false,false,false,false,false,false,false,false,false,false,false,false,false,false,false,false,false,false,false,false,false,false,false,false] rfl rfl (any_of HT_.out (by kernel_rfl)) (fun _ _ _ h => h) (Or.inl ⟨by rfl,?_⟩) ?_ ?_
      rotate_left
      ·
       intro w'
       go_simp
       with_reducible rfl
      rotate_left
      ·
       simp only [Act.put,List.setIfInBounds_toArray,List.set_cons_zero,List.set_cons_succ,i64_w,i32_w]
       rfl
      refine pure_ (i := 3) (N := some 14) (v := ?_) (a' := ?_) #[true,true,true,true,false,false,false,false,false,false,false,false,false,false,false,false,false,false,false,false,false,false,false,false,false,false,false,false,false,false,false,false,false,false,false,false] rfl rfl (any_of HT_.out (by kernel_rfl)) (fun _ _ _ h => h) (Or.inl ⟨by rfl,?_⟩) ?_ ?_
      rotate_left
      ·
       intro w'
       go_simp
       with_reducible rfl
      rotate_left
      ·
       simp only [Act.put,List.setIfInBounds_toArray,List.set_cons_zero,List.set_cons_succ,i64_w,i32_w]
       rfl
      refine pure_ (i := 4) (N := some 15) (v := ?_) (a' := ?_) #[true,true,true,true,true,false,false,false,false,false,false,false,false,false,false,false,false,false,false,false,false,false,false,false,false,false,false,false,false,false,false,false,false,false,false,false] rfl rfl (any_of HT_.out (by kernel_rfl)) (fun _ _ _ h => h) (Or.inl ⟨by rfl,?_⟩) ?_ ?_
      rotate_left
      ·
       intro w'
       go_simp
       with_reducible rfl
      rotate_left
      ·
       simp only [Act.put,List.setIfInBounds_toArray,List.set_cons_zero,List.set_cons_succ,i64_w,i32_w]
       rfl
      refine pure_ (i := 6) (N := some 17) (v := ?_) (a' := ?_) #[true,true,true,true,true,false,true,false,false,false,false,false,false,false,false,false,false,false,false,false,false,false,false,false,false,false,false,false,false,false,false,false,false,false,false,false] rfl rfl (any_of HT_.out (by kernel_rfl)) (fun _ _ _ h => h) (Or.inl ⟨by rfl,?_⟩) ?_ ?_
      rotate_left
      ·
       intro w'
       go_simp
       with_reducible rfl
      rotate_left
      ·
       simp only [Act.put,List.setIfInBounds_toArray,List.set_cons_zero,List.set_cons_succ,i64_w,i32_w]
       rfl
      refine pure_ (i := 7) (N := some 18) (v := ?_) (a' := ?_) #[true,true,true,true,true,false,true,true,false,false,false,false,false,false,false,false,false,false,false,false,false,false,false,false,false,false,false,false,false,false,false,false,false,false,false,false] rfl rfl (any_of HT_.out (by kernel_rfl)) (fun _ _ _ h => h) (Or.inl ⟨by rfl,?_⟩) ?_ ?_
      rotate_left
      ·
       intro w'
       go_simp
       with_reducible rfl
      rotate_left
      ·
       simp only [Act.put,List.setIfInBounds_toArray,List.set_cons_zero,List.set_cons_succ,i64_w,i32_w]
       rfl
      refine pure_ (i := 8) (N := some 19) (v := ?_) (a' := ?_) #[true,true,true,true,true,false,true,true,true,false,false,false,false,false,false,false,false,false,false,false,false,false,false,false,false,false,false,false,false,false,false,false,false,false,false,false] rfl rfl (any_of HT_.out (by kernel_rfl)) (fun _ _ _ h => h) (Or.inl ⟨by rfl,?_⟩) ?_ ?_
      rotate_left
      ·
       intro w'
       go_simp
       with_reducible rfl
      rotate_left
      ·
       simp only [Act.put,List.setIfInBounds_toArray,List.set_cons_zero,List.set_cons_succ,i64_w,i32_w]
       rfl
      refine pure_ (i := 9) (N := some 20) (v := ?_) (a' := ?_) #[true,true,true,true,true,false,true,true,true,true,false,false,false,false,false,false,false,false,false,false,false,false,false,false,false,false,false,false,false,false,false,false,false,false,false,false] rfl rfl (any_of HT_.out (by kernel_rfl)) (fun _ _ _ h => h) (Or.inl ⟨by rfl,?_⟩) ?_ ?_
      rotate_left
      ·
       intro w'
       go_simp
       with_reducible rfl
      rotate_left
      ·
       simp only [Act.put,List.setIfInBounds_toArray,List.set_cons_zero,List.set_cons_succ,i64_w,i32_w]
       rfl
      refine pure_ (i := 11) (N := some 22) (v := ?_) (a' := ?_) #[true,true,true,true,true,false,true,true,true,true,false,true,false,false,false,false,false,false,false,false,false,false,false,false,false,false,false,false,false,false,false,false,false,false,false,false] rfl rfl (any_of HT_.out (by kernel_rfl)) (fun _ _ _ h => h) (Or.inl ⟨by rfl,?_⟩) ?_ ?_
      rotate_left
      ·
       intro w'
       go_simp
       with_reducible rfl
      rotate_left
      ·
       simp only [Act.put,List.setIfInBounds_toArray,List.set_cons_zero,List.set_cons_succ,i64_w,i32_w]
       rfl
      refine pure_ (i := 12) (N := some 23) (v := ?_) (a' := ?_) #[true,true,true,true,true,false,true,true,true,true,false,true,true,false,false,false,false,false,false,false,false,false,false,false,false,false,false,false,false,false,false,false,false,false,false,false] rfl rfl (any_of HT_.out (by kernel_rfl)) (fun _ _ _ h => h) (Or.inl ⟨by rfl,?_⟩) ?_ ?_
      rotate_left
      ·
       intro w'
       go_simp
       with_reducible rfl
      rotate_left
      ·
       simp only [Act.put,List.setIfInBounds_toArray,List.set_cons_zero,List.set_cons_succ,i64_w,i32_w]
       rfl
      refine pure_ (i := 13) (N := some 24) (v := ?_) (a' := ?_) #[true,true,true,true,true,false,true,true,true,true,false,true,true,true,false,false,false,false,false,false,false,false,false,false,false,false,false,false,false,false,false,false,false,false,false,false] rfl rfl (any_of HT_.out (by kernel_rfl)) (fun _ _ _ h => h) (Or.inl ⟨by rfl,?_⟩) ?_ ?_
      rotate_left
      ·
       intro w'
       go_simp
       with_reducible rfl
      rotate_left
      ·
       simp only [Act.put,List.setIfInBounds_toArray,List.set_cons_zero,List.set_cons_succ,i64_w,i32_w]
       rfl
      refine pure_ (i := 14) (N := some 25) (v := ?_) (a' := ?_) #[true,true,true,true,true,false,true,true,true,true,false,true,true,true,true,false,false,false,false,false,false,false,false,false,false,false,false,false,false,false,false,false,false,false,false,false] rfl rfl (any_of HT_.out (by kernel_rfl)) (fun _ _ _ h => h) (Or.inl ⟨by rfl,?_⟩) ?_ ?_
      rotate_left
      ·
       intro w'
       go_simp
       with_reducible rfl
      rotate_left
      ·
       simp only [Act.put,List.setIfInBounds_toArray,List.set_cons_zero,List.set_cons_succ,i64_w,i32_w]
       rfl
      refine pure_ (i := 16) (N := some 27) (v := ?_) (a' := ?_) #[true,true,true,true,true,false,true,true,true,true,false,true,true,true,true,false,true,false,false,false,false,false,false,false,false,false,false,false,false,false,false,false,false,false,false,false] rfl rfl (any_of HT_.out (by kernel_rfl)) (fun _ _ _ h => h) (Or.inl ⟨by rfl,?_⟩) ?_ ?_
      rotate_left
      ·
       intro w'
       go_simp
       with_reducible rfl
      rotate_left
      ·
       simp only [Act.put,List.setIfInBounds_toArray,List.set_cons_zero,List.set_cons_succ,i64_w,i32_w]
       rfl
      refine pure_ (i := 17) (N := some 28) (v := ?_) (a' := ?_) #[true,true,true,true,true,false,true,true,true,true,false,true,true,true,true,false,true,true,false,false,false,false,false,false,false,false,false,false,false,false,false,false,false,false,false,false] rfl rfl (any_of HT_.out (by kernel_rfl)) (fun _ _ _ h => h) (Or.inl ⟨by rfl,?_⟩) ?_ ?_
      rotate_left
      ·
       intro w'
       go_simp
       with_reducible rfl
      rotate_left
      ·
       simp only [Act.put,List.setIfInBounds_toArray,List.set_cons_zero,List.set_cons_succ,i64_w,i32_w]
       rfl
      refine pure_ (i := 18) (N := some 29) (v := ?_) (a' := ?_) #[true,true,true,true,true,false,true,true,true,true,false,true,true,true,true,false,true,true,true,false,false,false,false,false,false,false,false,false,false,false,false,false,false,false,false,false] rfl rfl (any_of HT_.out (by kernel_rfl)) (fun _ _ _ h => h) (Or.inl ⟨by rfl,?_⟩) ?_ ?_
      rotate_left
      ·
       intro w'
       go_simp
       with_reducible rfl
      rotate_left
      ·
       simp only [Act.put,List.setIfInBounds_toArray,List.set_cons_zero,List.set_cons_succ,i64_w,i32_w]
       rfl
      refine pure_ (i := 19) (N := some 30) (v := ?_) (a' := ?_) #[true,true,true,true,true,false,true,true,true,true,false,true,true,true,true,false,true,true,true,true,false,false,false,false,false,false,false,false,false,false,false,false,false,false,false,false] rfl rfl (any_of HT_.out (by kernel_rfl)) (fun _ _ _ h => h) (Or.inl ⟨by rfl,?_⟩) ?_ ?_
      rotate_left
      ·
       intro w'
       go_simp
       with_reducible rfl
      rotate_left
      ·
       simp only [Act.put,List.setIfInBounds_toArray,List.set_cons_zero,List.set_cons_succ,i64_w,i32_w]
       rfl
      refine pure_ (i := 22) (N := some 33) (v := ?_) (a' := ?_) #[true,true,true,true,true,false,true,true,true,true,false,true,true,true,true,false,true,true,true,true,false,false,true,false,false,false,false,false,false,false,false,false,false,false,false,false] rfl rfl (any_of HT_.out (by kernel_rfl)) (fun _ _ _ h => h) (Or.inl ⟨by rfl,?_⟩) ?_ ?_
      rotate_left
      ·
       intro w'
       go_simp
       with_reducible rfl
      rotate_left
      ·
       simp only [Act.put,List.setIfInBounds_toArray,List.set_cons_zero,List.set_cons_succ,i64_w,i32_w]
       rfl
      refine pure_ (i := 23) (N := some 34) (v := ?_) (a' := ?_) #[true,true,true,true,true,false,true,true,true,true,false,true,true,true,true,false,true,true,true,true,false,false,true,true,false,false,false,false,false,false,false,false,false,false,false,false] rfl rfl (any_of HT_.out (by kernel_rfl)) (fun _ _ _ h => h) (Or.inl ⟨by rfl,?_⟩) ?_ ?_
      rotate_left
      ·
       intro w'
       go_simp
       with_reducible rfl
      rotate_left
      ·
       simp only [Act.put,List.setIfInBounds_toArray,List.set_cons_zero,List.set_cons_succ,i64_w,i32_w]
       rfl
      refine pure_ (i := 24) (N := some 35) (v := ?_) (a' := ?_) #[true,true,true,true,true,false,true,true,true,true,false,true,true,true,true,false,true,true,true,true,false,false,true,true,true,false,false,false,false,false,false,false,false,false,false,false] rfl rfl (any_of HT_.out (by kernel_rfl)) (fun _ _ _ h => h) (Or.inl ⟨by rfl,?_⟩) ?_ ?_
      rotate_left
      ·
       intro w'
       go_simp
       with_reducible rfl
      rotate_left
      ·
       simp only [Act.put,List.setIfInBounds_toArray,List.set_cons_zero,List.set_cons_succ,i64_w,i32_w]
       rfl
      refine pure_ (i := 25) (N := some 36) (v := ?_) (a' := ?_) #[true,true,true,true,true,false,true,true,true,true,false,true,true,true,true,false,true,true,true,true,false,false,true,true,true,true,false,false,false,false,false,false,false,false,false,false] rfl rfl (any_of HT_.out (by kernel_rfl)) (fun _ _ _ h => h) (Or.inl ⟨by rfl,?_⟩) ?_ ?_
      rotate_left
      ·
       intro w'
       go_simp
       with_reducible rfl
      rotate_left
      ·
       simp only [Act.put,List.setIfInBounds_toArray,List.set_cons_zero,List.set_cons_succ,i64_w,i32_w]
       rfl
      refine pure_ (i := 27) (N := some 38) (v := ?_) (a' := ?_) #[true,true,true,true,true,false,true,true,true,true,false,true,true,true,true,false,true,true,true,true,false,false,true,true,true,true,false,true,false,false,false,false,false,false,false,false] rfl rfl (any_of HT_.out (by kernel_rfl)) (fun _ _ _ h => h) (Or.inl ⟨by rfl,?_⟩) ?_ ?_
      rotate_left
      ·
       intro w'
       go_simp
       with_reducible rfl
      rotate_left
      ·
       simp only [Act.put,List.setIfInBounds_toArray,List.set_cons_zero,List.set_cons_succ,i64_w,i32_w]
       rfl
      refine pure_ (i := 28) (N := some 39) (v := ?_) (a' := ?_) #[true,true,true,true,true,false,true,true,true,true,false,true,true,true,true,false,true,true,true,true,false,false,true,true,true,true,false,true,true,false,false,false,false,false,false,false] rfl rfl (any_of HT_.out (by kernel_rfl)) (fun _ _ _ h => h) (Or.inl ⟨by rfl,?_⟩) ?_ ?_
      rotate_left
      ·
       intro w'
       go_simp
       with_reducible rfl
      rotate_left
      ·
       simp only [Act.put,List.setIfInBounds_toArray,List.set_cons_zero,List.set_cons_succ,i64_w,i32_w]
       rfl
      refine pure_ (i := 29) (N := some 40) (v := ?_) (a' := ?_) #[true,true,true,true,true,false,true,true,true,true,false,true,true,true,true,false,true,true,true,true,false,false,true,true,true,true,false,true,true,true,false,false,false,false,false,false] rfl rfl (any_of HT_.out (by kernel_rfl)) (fun _ _ _ h => h) (Or.inl ⟨by rfl,?_⟩) ?_ ?_
      rotate_left
      ·
       intro w'
       go_simp
       with_reducible rfl
      rotate_left
      ·
       simp only [Act.put,List.setIfInBounds_toArray,List.set_cons_zero,List.set_cons_succ,i64_w,i32_w]
       rfl
      refine pure_ (i := 30) (N := some 41) (v := ?_) (a' := ?_) #[true,true,true,true,true,false,true,true,true,true,false,true,true,true,true,false,true,true,true,true,false,false,true,true,true,true,false,true,true,true,true,false,false,false,false,false] rfl rfl (any_of HT_.out (by kernel_rfl)) (fun _ _ _ h => h) (Or.inl ⟨by rfl,?_⟩) ?_ ?_
      rotate_left
      ·
       intro w'
       go_simp
       with_reducible rfl
      rotate_left
      ·
       simp only [Act.put,List.setIfInBounds_toArray,List.set_cons_zero,List.set_cons_succ,i64_w,i32_w]
       rfl
      refine take_ (i := 5) (N := some 16) (v := ?_) (a' := ?_) #[true,true,true,true,true,true,true,true,true,true,false,true,true,true,true,false,true,true,true,true,false,false,true,true,true,true,false,true,true,true,true,false,false,false,false,false] rfl rfl (take_ofW HT_.out HW_.out (by kernel_rfl)) (fun _ _ _ h => h) (Or.inl ⟨by rfl,?_⟩) hHeld ?_ ?_
      rotate_left
      ·
       rintro w' ⟨s0,s1,s2,s3,s4,s5,s6,s7,s8,s9,s10,s11⟩
       go_simp
       with_reducible rfl
      rotate_left
      ·
       simp only [Act.put,List.setIfInBounds_toArray,List.set_cons_zero,List.set_cons_succ,i64_w,i32_w]
       rfl
      refine take_ (i := 10) (N := some 21) (v := ?_) (a' := ?_) #[true,true,true,true,true,true,true,true,true,true,true,true,true,true,true,false,true,true,true,true,false,false,true,true,true,true,false,true,true,true,true,false,false,false,false,false] rfl rfl (take_ofW HT_.out HW_.out (by kernel_rfl)) (fun _ _ _ h => h) (Or.inl ⟨by rfl,?_⟩) hHeld ?_ ?_
      rotate_left
      ·
       rintro w' ⟨s0,s1,s2,s3,s4,s5,s6,s7,s8,s9,s10,s11⟩
       go_simp
       with_reducible rfl
      rotate_left
      ·
       simp only [Act.put,List.setIfInBounds_toArray,List.set_cons_zero,List.set_cons_succ,i64_w,i32_w]
       rfl
      refine take_ (i := 15) (N := some 26) (v := ?_) (a' := ?_) #[true,true,true,true,true,true,true,true,true,true,true,true,true,true,true,true,true,true,true,true,false,false,true,true,true,true,false,true,true,true,true,false,false,false,false,false] rfl rfl (take_ofW HT_.out HW_.out (by kernel_rfl)) (fun _ _ _ h => h) (Or.inl ⟨by rfl,?_⟩) hHeld ?_ ?_
      rotate_left
      ·
       rintro w' ⟨s0,s1,s2,s3,s4,s5,s6,s7,s8,s9,s10,s11⟩
       go_simp
       with_reducible rfl
      rotate_left
      ·
       simp only [Act.put,List.setIfInBounds_toArray,List.set_cons_zero,List.set_cons_succ,i64_w,i32_w]
       rfl
      refine take_ (i := 20) (N := some 31) (v := ?_) (a' := ?_) #[true,true,true,true,true,true,true,true,true,true,true,true,true,true,true,true,true,true,true,true,true,false,true,true,true,true,false,true,true,true,true,false,false,false,false,false] rfl rfl (take_ofW HT_.out HW_.out (by kernel_rfl)) (fun _ _ _ h => h) (Or.inl ⟨by rfl,?_⟩) hHeld ?_ ?_
      rotate_left
      ·
       rintro w' ⟨s0,s1,s2,s3,s4,s5,s6,s7,s8,s9,s10,s11⟩
       go_simp
       with_reducible rfl
      rotate_left
      ·
       simp only [Act.put,List.setIfInBounds_toArray,List.set_cons_zero,List.set_cons_succ,i64_w,i32_w]
       rfl
      refine pure_ (i := 21) (N := some 32) (v := ?_) (a' := ?_) #[true,true,true,true,true,true,true,true,true,true,true,true,true,true,true,true,true,true,true,true,true,true,true,true,true,true,false,true,true,true,true,false,false,false,false,false] rfl rfl (any_of HT_.out (by kernel_rfl)) (fun _ _ _ h => h) (Or.inl ⟨by rfl,?_⟩) ?_ ?_
      rotate_left
      ·
       intro w'
       go_simp
       with_reducible rfl
      rotate_left
      ·
       simp only [Act.put,List.setIfInBounds_toArray,List.set_cons_zero,List.set_cons_succ,i64_w,i32_w]
       rfl
      refine take_ (i := 26) (N := some 37) (v := ?_) (a' := ?_) #[true,true,true,true,true,true,true,true,true,true,true,true,true,true,true,true,true,true,true,true,true,true,true,true,true,true,true,true,true,true,true,false,false,false,false,false] rfl rfl (take_ofW HT_.out HW_.out (by kernel_rfl)) (fun _ _ _ h => h) (Or.inl ⟨by rfl,?_⟩) hHeld ?_ ?_
      rotate_left
      ·
       rintro w' ⟨s0,s1,s2,s3,s4,s5,s6,s7,s8,s9,s10,s11⟩
       go_simp
       with_reducible rfl
      rotate_left
      ·
       simp only [Act.put,List.setIfInBounds_toArray,List.set_cons_zero,List.set_cons_succ,i64_w,i32_w]
       rfl
      refine take_ (i := 31) (N := some 42) (v := ?_) (a' := ?_) #[true,true,true,true,true,true,true,true,true,true,true,true,true,true,true,true,true,true,true,true,true,true,true,true,true,true,true,true,true,true,true,true,false,false,false,false] rfl rfl (take_ofW HT_.out HW_.out (by kernel_rfl)) (fun _ _ _ h => h) (Or.inl ⟨by rfl,?_⟩) hHeld ?_ ?_
      rotate_left
      ·
       rintro w' ⟨s0,s1,s2,s3,s4,s5,s6,s7,s8,s9,s10,s11⟩
       go_simp
       with_reducible rfl
      rotate_left
      ·
       simp only [Act.put,List.setIfInBounds_toArray,List.set_cons_zero,List.set_cons_succ,i64_w,i32_w]
       rfl
      refine pure_ (i := 32) (N := some 43) (v := ?_) (a' := ?_) #[true,true,true,true,true,true,true,true,true,true,true,true,true,true,true,true,true,true,true,true,true,true,true,true,true,true,true,true,true,true,true,true,true,false,false,false] rfl rfl (any_of HT_.out (by kernel_rfl)) (fun _ _ _ h => h) (Or.inl ⟨by rfl,?_⟩) ?_ ?_
      rotate_left
      ·
       intro w'
       go_simp
       with_reducible rfl
      rotate_left
      ·
       simp only [Act.put,List.setIfInBounds_toArray,List.set_cons_zero,List.set_cons_succ,i64_w,i32_w]
       rfl
      refine one_ (i := 33) (N := some 44) #[true,true,true,true,true,true,true,true,true,true,true,true,true,true,true,true,true,true,true,true,true,true,true,true,true,true,true,true,true,true,true,true,true,true,false,false] rfl rfl (one_of HT_.out (by kernel_rfl)) (by decide) (fun K hK => ?_)
      refine value_ (w1 := ?_) (v := ?_) (by rfl) rfl ?_ ?_
      rotate_left 2
      ·
       go_simp
       constructor
       ·
        rfl
       ·
        rfl
      refine hK.out _ _ ⟨(World.cell?_alloc_lt _ _ _ (World.block_lt_of_cell? _ _ (((HB.out.cell (World.block_lt_of_cell? w _ hw101_0)).trans hw101_0)))).trans (((HB.out.cell (World.block_lt_of_cell? w _ hw101_0)).trans hw101_0)),(World.cell?_alloc_lt _ _ _ (World.block_lt_of_cell? _ _ (((HB.out.cell (World.block_lt_of_cell? w _ hw102_1)).trans hw102_1)))).trans (((HB.out.cell (World.block_lt_of_cell? w _ hw102_1)).trans hw102_1)),(World.cell?_alloc_lt _ _ _ (World.block_lt_of_cell? _ _ (((HB.out.cell (World.block_lt_of_cell? w _ hw103_2)).trans hw103_2)))).trans (((HB.out.cell (World.block_lt_of_cell? w _ hw103_2)).trans hw103_2)),(World.cell?_alloc_lt _ _ _ (World.block_lt_of_cell? _ _ (((HB.out.cell (World.block_lt_of_cell? w _ hw104_3)).trans hw104_3)))).trans (((HB.out.cell (World.block_lt_of_cell? w _ hw104_3)).trans hw104_3)),(World.cell?_alloc_lt _ _ _ (World.block_lt_of_cell? _ _ (((HB.out.cell (World.block_lt_of_cell? w _ hw105_4)).trans hw105_4)))).trans (((HB.out.cell (World.block_lt_of_cell? w _ hw105_4)).trans hw105_4)),(World.cell?_alloc_lt _ _ _ (World.block_lt_of_cell? _ _ (((HB.out.cell (World.block_lt_of_cell? w _ hw105_5)).trans hw105_5)))).trans (((HB.out.cell (World.block_lt_of_cell? w _ hw105_5)).trans hw105_5)),(World.cell?_alloc_lt _ _ _ (World.block_lt_of_cell? _ _ (((HB.out.cell (World.block_lt_of_cell? w _ hw105_6)).trans hw105_6)))).trans (((HB.out.cell (World.block_lt_of_cell? w _ hw105_6)).trans hw105_6)),(World.cell?_alloc_lt _ _ _ (World.block_lt_of_cell? _ _ (((HB.out.cell (World.block_lt_of_cell? w _ hw105_7)).trans hw105_7)))).trans (((HB.out.cell (World.block_lt_of_cell? w _ hw105_7)).trans hw105_7)),(World.cell?_alloc_lt _ _ _ (World.block_lt_of_cell? _ _ (((HB.out.cell (World.block_lt_of_cell? w _ hw106_8)).trans hw106_8)))).trans (((HB.out.cell (World.block_lt_of_cell? w _ hw106_8)).trans hw106_8)),(World.cell?_alloc_lt _ _ _ (World.block_lt_of_cell? _ _ (((HB.out.cell (World.block_lt_of_cell? w _ hw106_9)).trans hw106_9)))).trans (((HB.out.cell (World.block_lt_of_cell? w _ hw106_9)).trans hw106_9)),(World.cell?_alloc_lt _ _ _ (World.block_lt_of_cell? _ _ (((HB.out.cell (World.block_lt_of_cell? w _ hw106_10)).trans hw106_10)))).trans (((HB.out.cell (World.block_lt_of_cell? w _ hw106_10)).trans hw106_10)),(World.cell?_alloc_lt _ _ _ (World.block_lt_of_cell? _ _ (((HB.out.cell (World.block_lt_of_cell? w _ hw106_11)).trans hw106_11)))).trans (((HB.out.cell (World.block_lt_of_cell? w _ hw106_11)).trans hw106_11))⟩ (fun hHeld => ?_)
      clear hK K
      refine norm_ (a' := ?_) ?_ ?_
      rotate_left
      ·
       show Act.put _ (some 44) _ = _
       simp only [Act.put,List.setIfInBounds_toArray,List.set_cons_zero,List.set_cons_succ,i64_w,i32_w]
       rfl
      refine one_ (i := 34) (N := some 45) #[true,true,true,true,true,true,true,true,true,true,true,true,true,true,true,true,true,true,true,true,true,true,true,true,true,true,true,true,true,true,true,true,true,true,true,false] rfl rfl (one_of HT_.out (by kernel_rfl)) (by decide) (fun K hK => ?_)
      refine Kd.R_append_step k30 (w0 := w) w.heap.size (by rfl) (.tmp 11) (.tmp 44) 31 30 (.agg #[(.int .i64 0),(.int .i64 0),(.int .i64 0),(.int .u64 0),(.int .i64 0),(.int .i64 0),(.float .f64 0),(.string ⟨#[]⟩),(.int .i64 0),(.int .i64 0),(.float .f64 0),(.string ⟨#[]⟩)]) 112 rfl Try.underlying31 info30 rfl (by decide) (by omega) u3 x3_1 (⟨(rd_T34 l0 x4_1).f0,(rd_T34 l0 x4_1).f1,(⟨(rd_T34 l0 x4_1).f2,(rd_T34 l0 x4_1).f3⟩ : S25),(⟨(rd_T34 l0 x4_1).f4.f0,(rd_T34 l0 x4_1).f4.f1,(rd_T34 l0 x4_1).f4.f2,(rd_T34 l0 x4_1).f4.f3⟩ : S28),(⟨(rd_T34 l0 x4_1).f5.f0,(rd_T34 l0 x4_1).f5.f1,(rd_T34 l0 x4_1).f5.f2,(rd_T34 l0 x4_1).f5.f3⟩ : S28)⟩ : S30) [.int .i64 ((rd_T34 l0 x4_1).f0),.int .i64 ((rd_T34 l0 x4_1).f1),.int .i64 ((rd_T34 l0 x4_1).f2),.int .u64 ((rd_T34 l0 x4_1).f3),.int .i64 ((rd_T34 l0 x4_1).f4.f0),.int .i64 ((rd_T34 l0 x4_1).f4.f1),.float .f64 ((rd_T34 l0 x4_1).f4.f2),.string ((rd_T34 l0 x4_1).f4.f3),.int .i64 ((rd_T34 l0 x4_1).f5.f0),.int .i64 ((rd_T34 l0 x4_1).f5.f1),.float .f64 ((rd_T34 l0 x4_1).f5.f2),.string ((rd_T34 l0 x4_1).f5.f3)] (fun _ => True) (fun _ => False) rfl rfl ?aP (fun _ hk => hk.elim) ?aF ?aO ?aB ?aS ?aL ?_
      (case aP => exact k30_mkM _ _ _ (⟨(rd_T34 l0 x4_1).f0,(rd_T34 l0 x4_1).f1,(⟨(rd_T34 l0 x4_1).f2,(rd_T34 l0 x4_1).f3⟩ : S25),(⟨(rd_T34 l0 x4_1).f4.f0,(rd_T34 l0 x4_1).f4.f1,(rd_T34 l0 x4_1).f4.f2,(rd_T34 l0 x4_1).f4.f3⟩ : S28),(⟨(rd_T34 l0 x4_1).f5.f0,(rd_T34 l0 x4_1).f5.f1,(rd_T34 l0 x4_1).f5.f2,(rd_T34 l0 x4_1).f5.f3⟩ : S28)⟩ : S30))
      (case aB => exact (by repeat (first | (with_reducible first | exact HB.out | apply below_alloc | apply pw_below_drewN | apply below_drew1) | exact HB.out)))
      (case aF => exact (fun _ _ => trivial))
      (case aO => exact (by (with_reducible repeat (first | apply Kd.R_alloc | apply Kd.R_drewN | apply Kd.R_drew)); exact HO_3.out))
      (case aS => exact (below_size (by repeat (first | (with_reducible first | exact HB.out | apply below_alloc | apply pw_below_drewN | apply below_drew1) | exact HB.out))))
      (case aL => have := LMc4.out; omega)
      intro v108 w6 ho hb hg hat
      rw [← Ny107.out] at ho
      have n0_ := Aside0.mk (hb)
      have n1_ := Aside0.mk (ho)
      clear HB
      clear HO_3
      have HB := n0_
      have HO109 := n1_
      clear n0_ n1_
      clear ho hb hg hat
      refine hK.out _ _ ⟨((HB.out.cell (World.block_lt_of_cell? w _ hw101_0)).trans hw101_0),((HB.out.cell (World.block_lt_of_cell? w _ hw102_1)).trans hw102_1),((HB.out.cell (World.block_lt_of_cell? w _ hw103_2)).trans hw103_2),((HB.out.cell (World.block_lt_of_cell? w _ hw104_3)).trans hw104_3),((HB.out.cell (World.block_lt_of_cell? w _ hw105_4)).trans hw105_4),((HB.out.cell (World.block_lt_of_cell? w _ hw105_5)).trans hw105_5),((HB.out.cell (World.block_lt_of_cell? w _ hw105_6)).trans hw105_6),((HB.out.cell (World.block_lt_of_cell? w _ hw105_7)).trans hw105_7),((HB.out.cell (World.block_lt_of_cell? w _ hw106_8)).trans hw106_8),((HB.out.cell (World.block_lt_of_cell? w _ hw106_9)).trans hw106_9),((HB.out.cell (World.block_lt_of_cell? w _ hw106_10)).trans hw106_10),((HB.out.cell (World.block_lt_of_cell? w _ hw106_11)).trans hw106_11)⟩ (fun hHeld => ?_)
      clear hK K
      refine norm_ (a' := ?_) ?_ ?_
      rotate_left
      ·
       show Act.put _ (some 45) _ = _
       simp only [Act.put,List.setIfInBounds_toArray,List.set_cons_zero,List.set_cons_succ,i64_w,i32_w]
       rfl
      refine pure_ (i := 35) (N := some 3) (v := ?_) (a' := ?_) #[true,true,true,true,true,true,true,true,true,true,true,true,true,true,true,true,true,true,true,true,true,true,true,true,true,true,true,true,true,true,true,true,true,true,true,true] rfl rfl (any_of HT_.out (by kernel_rfl)) (fun _ _ _ h => h) (Or.inl ⟨by rfl,?_⟩) ?_ ?_
      rotate_left
      ·
       intro w'
       go_simp
       with_reducible rfl
      rotate_left
      ·
       simp only [Act.put,List.setIfInBounds_toArray,List.set_cons_zero,List.set_cons_succ,i64_w,i32_w]
       rfl
      refine done_ (done_of HT_.out (by kernel_rfl)) ?_
      try go_wp2
      go_roundg k1
      case measure => have := HK1.out; omega
      case rel => exact ⟨(y107),(wrap64 (x4_1 + 1)),(by first | rfl | (simp; done) | (simp [*]; done)),H',⟨by have := HK1.out; omega⟩,⟨by (with_reducible repeat (first | apply Kd.R_alloc | apply Kd.R_drewN | apply Kd.R_drew)); exact HO109.out⟩,⟨by repeat (first | (with_reducible first | exact HB.out | apply below_alloc | apply pw_below_drewN | apply below_drew1) | exact HB.out)⟩⟩
     ·
      rw [if_neg c4] at H
      exact absurd H (by simp)
    ·
     rw [if_neg c3] at H
     exact absurd H (by simp)
   ·
    rw [if_neg c2] at H
    have c2b0 : decide (x4_1 < (l0.length : Int)) = false := decide_eq_false c2
    clear c2
    obtain rfl := Option.some.inj H
    go_wp2
    go_ret
    exact ⟨_,by first | rfl | (simp [errW_none,errW_some] <;> rfl) | (simp [*,errW_none,errW_some] <;> rfl),by (with_reducible repeat (first | apply Kd.R_alloc | apply Kd.R_drewN | apply Kd.R_drew)); exact HO_3.out,by repeat (first | (with_reducible first | exact HB.out | apply below_alloc | apply pw_below_drewN | apply below_drew1) | exact HB.out)⟩


/-! ### colonnadelaw22_alike: function 11 -/
def colonnadelaw22_alike.f (a0_0 : Int) (a0_1 : Int) (a0_2 : Nat) (a0_3 : ByteArray) (a1_0 : Int) (a1_1 : Int) (a1_2 : Nat) (a1_3 : ByteArray) : Option (Bool) := if (fne a0_2 a0_2) = true then (if (fne a1_2 a1_2) = true then (some (a0_0 == a1_0 && (a0_1 == a1_1 && (feq 0 0 && (a0_3.toList == a1_3.toList))))) else (some (a0_0 == a1_0 && (a0_1 == a1_1 && (feq a0_2 a1_2 && (a0_3.toList == a1_3.toList)))))) else (some (a0_0 == a1_0 && (a0_1 == a1_1 && (feq a0_2 a1_2 && (a0_3.toList == a1_3.toList)))))
set_option maxHeartbeats 8000000 in
set_option maxRecDepth 100000 in
theorem colonnadelaw22_alike.calls (a0_0 : Int) (a0_1 : Int) (a0_2 : Nat) (a0_3 : ByteArray) (a1_0 : Int) (a1_1 : Int) (a1_2 : Nat) (a1_3 : ByteArray) (r : Bool) (w : World) (h : colonnadelaw22_alike.f a0_0 a0_1 a0_2 a0_3 a1_0 a1_1 a1_2 a1_3 = some r) :
    Calls Try.prog 11 #[.agg #[.int .i64 a0_0, .int .i64 a0_1, .float .f64 a0_2, .string a0_3], .agg #[.int .i64 a1_0, .int .i64 a1_1, .float .f64 a1_2, .string a1_3]] w fun e w' => e = .returned (.bool r) ∧ Below w.heap.size w w' := by
  have hu28 := Try.underlying28
  have HB := Aside0.mk (Below.refl w.heap.size w)
  have H : (if (fne a0_2 a0_2) = true then (if (fne a1_2 a1_2) = true then (some (a0_0 == a1_0 && (a0_1 == a1_1 && (feq 0 0 && (a0_3.toList == a1_3.toList))))) else (some (a0_0 == a1_0 && (a0_1 == a1_1 && (feq a0_2 a1_2 && (a0_3.toList == a1_3.toList)))))) else (some (a0_0 == a1_0 && (a0_1 == a1_1 && (feq a0_2 a1_2 && (a0_3.toList == a1_3.toList)))))) = some r := h
  clear h
  by_cases c3 : (fne a0_2 a0_2) = true
  · rw [if_pos c3] at H
    have c3b0 : (fne a0_2 a0_2) = true := c3
    clear c3
    by_cases c4 : (fne a1_2 a1_2) = true
    · rw [if_pos c4] at H
      have c4b0 : (fne a1_2 a1_2) = true := c4
      clear c4
      obtain rfl := Option.some.inj H
      go_enter Try.func11, Try.ntmps11
      go_wp2_with (first | ((with_reducible refine gate_dst (N := 2) rfl ?_); refine box_event ?hg (N := 2) ?hd (cs := #[.int .i64 a0_0, .int .i64 a0_1, .float .f64 a0_2, .string a0_3]) (t := 28) ?hr ?_; (case hd => rfl); (case hg => rfl); (case hr => first | (go_simp; done) | (go_simp; rfl)); intro gb110 hg w5 hbox hb; have n0_ := Aside0.mk (below_step (by repeat (first | (with_reducible first | exact HB.out | apply below_alloc | apply pw_below_drewN | apply below_drew1) | exact HB.out)) hb); have n1_ := Aside0.mk (hbox); have n2_ := Aside0.mk ((by rw [hg]; exact (below_size (by repeat (first | (with_reducible first | exact HB.out | apply below_alloc | apply pw_below_drewN | apply below_drew1) | exact HB.out))) : w.heap.size ≤ gb110)); have n3_ := Aside0.mk ((by rw [hg]; exact (below_size (by repeat (first | (with_reducible first | exact HB.out | apply below_alloc | apply pw_below_drewN | apply below_drew1) | exact HB.out))) : w.heap.size ≤ gb110)); clear HB; have HB := n0_; have BK110 := n1_; have GW110 := n2_; have GE110 := n3_; clear n0_ n1_ n2_ n3_; clear hb hbox hg) | ((with_reducible refine gate_dst (N := 3) rfl ?_); refine box_event ?hg (N := 3) ?hd (cs := #[.int .i64 a1_0, .int .i64 a1_1, .float .f64 a1_2, .string a1_3]) (t := 28) ?hr ?_; (case hd => rfl); (case hg => rfl); (case hr => first | (go_simp; done) | (go_simp; rfl)); intro gb111 hg w6 hbox hb; have n0_ := Aside0.mk (blk_below (g := gb110) (o := .cells #[.int .i64 a0_0, .int .i64 a0_1, .float .f64 a0_2, .string a0_3] 28 (0, 0)) (by (with_reducible repeat (first | refine blk_drewN ?_ _ | refine blk_drew ?_ | refine blk_alloc ?_ _)); exact BK110.out) hb); have n1_ := Aside0.mk (below_step (by repeat (first | (with_reducible first | exact HB.out | apply below_alloc | apply pw_below_drewN | apply below_drew1 | refine below_set ?_ GE110.out) | exact HB.out)) hb); have n2_ := Aside0.mk (hbox); have n3_ := Aside0.mk ((by rw [hg]; exact (below_size (by repeat (first | (with_reducible first | exact HB.out | apply below_alloc | apply pw_below_drewN | apply below_drew1 | refine below_set ?_ GE110.out) | exact HB.out))) : w.heap.size ≤ gb111)); have n4_ := Aside0.mk ((by rw [hg]; exact (below_size (by repeat (first | (with_reducible first | exact HB.out | apply below_alloc | apply pw_below_drewN | apply below_drew1 | refine below_set ?_ GE110.out) | exact HB.out))) : w.heap.size ≤ gb111)); have n5_ := Aside0.mk ((by rw [hg]; exact Nat.ne_of_lt (blk_lt (g := gb110) (o := .cells #[.int .i64 a0_0, .int .i64 a0_1, .float .f64 a0_2, .string a0_3] 28 (0, 0)) (by (with_reducible repeat (first | refine blk_drewN ?_ _ | refine blk_drew ?_ | refine blk_alloc ?_ _)); exact BK110.out)) : gb110 ≠ gb111)); have n6_ := Aside0.mk ((by rw [hg]; exact Nat.ne_of_gt (blk_lt (g := gb110) (o := .cells #[.int .i64 a0_0, .int .i64 a0_1, .float .f64 a0_2, .string a0_3] 28 (0, 0)) (by (with_reducible repeat (first | refine blk_drewN ?_ _ | refine blk_drew ?_ | refine blk_alloc ?_ _)); exact BK110.out)) : gb111 ≠ gb110)); clear BK110; clear HB; have BK110 := n0_; have HB := n1_; have BK111 := n2_; have GW111 := n3_; have GE111 := n4_; have NB110_111 := n5_; have NB111_110 := n6_; clear n0_ n1_ n2_ n3_ n4_ n5_ n6_; clear hb hbox hg; have hnb7 := NB110_111.out; have hnc7 := NB111_110.out; have hcz8_0 : w6.cell? ⟨gb110, 0, none⟩ = some (.int .i64 a0_0) := (blk_cell BK110.out 0).trans rfl; have hcz8_1 : w6.cell? ⟨gb110, 1, none⟩ = some (.int .i64 a0_1) := (blk_cell BK110.out 1).trans rfl; have hcz8_2 : w6.cell? ⟨gb110, 2, none⟩ = some (.float .f64 a0_2) := (blk_cell BK110.out 2).trans rfl; have hcz8_3 : w6.cell? ⟨gb110, 3, none⟩ = some (.string a0_3) := (blk_cell BK110.out 3).trans rfl; have hfz8_0 := blk_frozen BK110.out 0; have hfz8_1 := blk_frozen BK110.out 1; have hfz8_2 := blk_frozen BK110.out 2; have hfz8_3 := blk_frozen BK110.out 3; have hcz9_0 : w6.cell? ⟨gb111, 0, none⟩ = some (.int .i64 a1_0) := (blk_cell BK111.out 0).trans rfl; have hcz9_1 : w6.cell? ⟨gb111, 1, none⟩ = some (.int .i64 a1_1) := (blk_cell BK111.out 1).trans rfl; have hcz9_2 : w6.cell? ⟨gb111, 2, none⟩ = some (.float .f64 a1_2) := (blk_cell BK111.out 2).trans rfl; have hcz9_3 : w6.cell? ⟨gb111, 3, none⟩ = some (.string a1_3) := (blk_cell BK111.out 3).trans rfl; have hfz9_0 := blk_frozen BK111.out 0; have hfz9_1 := blk_frozen BK111.out 1; have hfz9_2 := blk_frozen BK111.out 2; have hfz9_3 := blk_frozen BK111.out 3))
      go_ret
      exact ⟨by first | rfl | (simp [errW_none, errW_some] <;> rfl) | (simp [*, errW_none, errW_some] <;> rfl), by repeat (first | (with_reducible first | exact HB.out | apply below_alloc | apply pw_below_drewN | apply below_drew1 | refine below_set ?_ GE110.out | refine below_set ?_ GE111.out) | exact HB.out)⟩
    · rw [if_neg c4] at H
      have c4b0 : (fne a1_2 a1_2) = false := by simpa using c4
      clear c4
      obtain rfl := Option.some.inj H
      go_enter Try.func11, Try.ntmps11
      go_wp2_with (first | ((with_reducible refine gate_dst (N := 2) rfl ?_); refine box_event ?hg (N := 2) ?hd (cs := #[.int .i64 a0_0, .int .i64 a0_1, .float .f64 a0_2, .string a0_3]) (t := 28) ?hr ?_; (case hd => rfl); (case hg => rfl); (case hr => first | (go_simp; done) | (go_simp; rfl)); intro gb110 hg w10 hbox hb; have n0_ := Aside0.mk (below_step (by repeat (first | (with_reducible first | exact HB.out | apply below_alloc | apply pw_below_drewN | apply below_drew1) | exact HB.out)) hb); have n1_ := Aside0.mk (hbox); have n2_ := Aside0.mk ((by rw [hg]; exact (below_size (by repeat (first | (with_reducible first | exact HB.out | apply below_alloc | apply pw_below_drewN | apply below_drew1) | exact HB.out))) : w.heap.size ≤ gb110)); have n3_ := Aside0.mk ((by rw [hg]; exact (below_size (by repeat (first | (with_reducible first | exact HB.out | apply below_alloc | apply pw_below_drewN | apply below_drew1) | exact HB.out))) : w.heap.size ≤ gb110)); clear HB; have HB := n0_; have BK110 := n1_; have GW110 := n2_; have GE110 := n3_; clear n0_ n1_ n2_ n3_; clear hb hbox hg) | ((with_reducible refine gate_dst (N := 3) rfl ?_); refine box_event ?hg (N := 3) ?hd (cs := #[.int .i64 a1_0, .int .i64 a1_1, .float .f64 a1_2, .string a1_3]) (t := 28) ?hr ?_; (case hd => rfl); (case hg => rfl); (case hr => first | (go_simp; done) | (go_simp; rfl)); intro gb111 hg w11 hbox hb; have n0_ := Aside0.mk (blk_below (g := gb110) (o := .cells #[.int .i64 a0_0, .int .i64 a0_1, .float .f64 a0_2, .string a0_3] 28 (0, 0)) (by (with_reducible repeat (first | refine blk_drewN ?_ _ | refine blk_drew ?_ | refine blk_alloc ?_ _)); exact BK110.out) hb); have n1_ := Aside0.mk (below_step (by repeat (first | (with_reducible first | exact HB.out | apply below_alloc | apply pw_below_drewN | apply below_drew1 | refine below_set ?_ GE110.out) | exact HB.out)) hb); have n2_ := Aside0.mk (hbox); have n3_ := Aside0.mk ((by rw [hg]; exact (below_size (by repeat (first | (with_reducible first | exact HB.out | apply below_alloc | apply pw_below_drewN | apply below_drew1 | refine below_set ?_ GE110.out) | exact HB.out))) : w.heap.size ≤ gb111)); have n4_ := Aside0.mk ((by rw [hg]; exact (below_size (by repeat (first | (with_reducible first | exact HB.out | apply below_alloc | apply pw_below_drewN | apply below_drew1 | refine below_set ?_ GE110.out) | exact HB.out))) : w.heap.size ≤ gb111)); have n5_ := Aside0.mk ((by rw [hg]; exact Nat.ne_of_lt (blk_lt (g := gb110) (o := .cells #[.int .i64 a0_0, .int .i64 a0_1, .float .f64 a0_2, .string a0_3] 28 (0, 0)) (by (with_reducible repeat (first | refine blk_drewN ?_ _ | refine blk_drew ?_ | refine blk_alloc ?_ _)); exact BK110.out)) : gb110 ≠ gb111)); have n6_ := Aside0.mk ((by rw [hg]; exact Nat.ne_of_gt (blk_lt (g := gb110) (o := .cells #[.int .i64 a0_0, .int .i64 a0_1, .float .f64 a0_2, .string a0_3] 28 (0, 0)) (by (with_reducible repeat (first | refine blk_drewN ?_ _ | refine blk_drew ?_ | refine blk_alloc ?_ _)); exact BK110.out)) : gb111 ≠ gb110)); clear BK110; clear HB; have BK110 := n0_; have HB := n1_; have BK111 := n2_; have GW111 := n3_; have GE111 := n4_; have NB110_111 := n5_; have NB111_110 := n6_; clear n0_ n1_ n2_ n3_ n4_ n5_ n6_; clear hb hbox hg; have hnb12 := NB110_111.out; have hnc12 := NB111_110.out; have hcz13_0 : w11.cell? ⟨gb110, 0, none⟩ = some (.int .i64 a0_0) := (blk_cell BK110.out 0).trans rfl; have hcz13_1 : w11.cell? ⟨gb110, 1, none⟩ = some (.int .i64 a0_1) := (blk_cell BK110.out 1).trans rfl; have hcz13_2 : w11.cell? ⟨gb110, 2, none⟩ = some (.float .f64 a0_2) := (blk_cell BK110.out 2).trans rfl; have hcz13_3 : w11.cell? ⟨gb110, 3, none⟩ = some (.string a0_3) := (blk_cell BK110.out 3).trans rfl; have hfz13_0 := blk_frozen BK110.out 0; have hfz13_1 := blk_frozen BK110.out 1; have hfz13_2 := blk_frozen BK110.out 2; have hfz13_3 := blk_frozen BK110.out 3; have hcz14_0 : w11.cell? ⟨gb111, 0, none⟩ = some (.int .i64 a1_0) := (blk_cell BK111.out 0).trans rfl; have hcz14_1 : w11.cell? ⟨gb111, 1, none⟩ = some (.int .i64 a1_1) := (blk_cell BK111.out 1).trans rfl; have hcz14_2 : w11.cell? ⟨gb111, 2, none⟩ = some (.float .f64 a1_2) := (blk_cell BK111.out 2).trans rfl; have hcz14_3 : w11.cell? ⟨gb111, 3, none⟩ = some (.string a1_3) := (blk_cell BK111.out 3).trans rfl; have hfz14_0 := blk_frozen BK111.out 0; have hfz14_1 := blk_frozen BK111.out 1; have hfz14_2 := blk_frozen BK111.out 2; have hfz14_3 := blk_frozen BK111.out 3))
      go_ret
      exact ⟨by first | rfl | (simp [errW_none, errW_some] <;> rfl) | (simp [*, errW_none, errW_some] <;> rfl), by repeat (first | (with_reducible first | exact HB.out | apply below_alloc | apply pw_below_drewN | apply below_drew1 | refine below_set ?_ GE110.out | refine below_set ?_ GE111.out) | exact HB.out)⟩
  · rw [if_neg c3] at H
    have c3b0 : (fne a0_2 a0_2) = false := by simpa using c3
    clear c3
    obtain rfl := Option.some.inj H
    go_enter Try.func11, Try.ntmps11
    go_wp2_with (first | ((with_reducible refine gate_dst (N := 2) rfl ?_); refine box_event ?hg (N := 2) ?hd (cs := #[.int .i64 a0_0, .int .i64 a0_1, .float .f64 a0_2, .string a0_3]) (t := 28) ?hr ?_; (case hd => rfl); (case hg => rfl); (case hr => first | (go_simp; done) | (go_simp; rfl)); intro gb110 hg w15 hbox hb; have n0_ := Aside0.mk (below_step (by repeat (first | (with_reducible first | exact HB.out | apply below_alloc | apply pw_below_drewN | apply below_drew1) | exact HB.out)) hb); have n1_ := Aside0.mk (hbox); have n2_ := Aside0.mk ((by rw [hg]; exact (below_size (by repeat (first | (with_reducible first | exact HB.out | apply below_alloc | apply pw_below_drewN | apply below_drew1) | exact HB.out))) : w.heap.size ≤ gb110)); have n3_ := Aside0.mk ((by rw [hg]; exact (below_size (by repeat (first | (with_reducible first | exact HB.out | apply below_alloc | apply pw_below_drewN | apply below_drew1) | exact HB.out))) : w.heap.size ≤ gb110)); clear HB; have HB := n0_; have BK110 := n1_; have GW110 := n2_; have GE110 := n3_; clear n0_ n1_ n2_ n3_; clear hb hbox hg) | ((with_reducible refine gate_dst (N := 3) rfl ?_); refine box_event ?hg (N := 3) ?hd (cs := #[.int .i64 a1_0, .int .i64 a1_1, .float .f64 a1_2, .string a1_3]) (t := 28) ?hr ?_; (case hd => rfl); (case hg => rfl); (case hr => first | (go_simp; done) | (go_simp; rfl)); intro gb111 hg w16 hbox hb; have n0_ := Aside0.mk (blk_below (g := gb110) (o := .cells #[.int .i64 a0_0, .int .i64 a0_1, .float .f64 a0_2, .string a0_3] 28 (0, 0)) (by (with_reducible repeat (first | refine blk_drewN ?_ _ | refine blk_drew ?_ | refine blk_alloc ?_ _)); exact BK110.out) hb); have n1_ := Aside0.mk (below_step (by repeat (first | (with_reducible first | exact HB.out | apply below_alloc | apply pw_below_drewN | apply below_drew1 | refine below_set ?_ GE110.out) | exact HB.out)) hb); have n2_ := Aside0.mk (hbox); have n3_ := Aside0.mk ((by rw [hg]; exact (below_size (by repeat (first | (with_reducible first | exact HB.out | apply below_alloc | apply pw_below_drewN | apply below_drew1 | refine below_set ?_ GE110.out) | exact HB.out))) : w.heap.size ≤ gb111)); have n4_ := Aside0.mk ((by rw [hg]; exact (below_size (by repeat (first | (with_reducible first | exact HB.out | apply below_alloc | apply pw_below_drewN | apply below_drew1 | refine below_set ?_ GE110.out) | exact HB.out))) : w.heap.size ≤ gb111)); have n5_ := Aside0.mk ((by rw [hg]; exact Nat.ne_of_lt (blk_lt (g := gb110) (o := .cells #[.int .i64 a0_0, .int .i64 a0_1, .float .f64 a0_2, .string a0_3] 28 (0, 0)) (by (with_reducible repeat (first | refine blk_drewN ?_ _ | refine blk_drew ?_ | refine blk_alloc ?_ _)); exact BK110.out)) : gb110 ≠ gb111)); have n6_ := Aside0.mk ((by rw [hg]; exact Nat.ne_of_gt (blk_lt (g := gb110) (o := .cells #[.int .i64 a0_0, .int .i64 a0_1, .float .f64 a0_2, .string a0_3] 28 (0, 0)) (by (with_reducible repeat (first | refine blk_drewN ?_ _ | refine blk_drew ?_ | refine blk_alloc ?_ _)); exact BK110.out)) : gb111 ≠ gb110)); clear BK110; clear HB; have BK110 := n0_; have HB := n1_; have BK111 := n2_; have GW111 := n3_; have GE111 := n4_; have NB110_111 := n5_; have NB111_110 := n6_; clear n0_ n1_ n2_ n3_ n4_ n5_ n6_; clear hb hbox hg; have hnb17 := NB110_111.out; have hnc17 := NB111_110.out; have hcz18_0 : w16.cell? ⟨gb110, 0, none⟩ = some (.int .i64 a0_0) := (blk_cell BK110.out 0).trans rfl; have hcz18_1 : w16.cell? ⟨gb110, 1, none⟩ = some (.int .i64 a0_1) := (blk_cell BK110.out 1).trans rfl; have hcz18_2 : w16.cell? ⟨gb110, 2, none⟩ = some (.float .f64 a0_2) := (blk_cell BK110.out 2).trans rfl; have hcz18_3 : w16.cell? ⟨gb110, 3, none⟩ = some (.string a0_3) := (blk_cell BK110.out 3).trans rfl; have hfz18_0 := blk_frozen BK110.out 0; have hfz18_1 := blk_frozen BK110.out 1; have hfz18_2 := blk_frozen BK110.out 2; have hfz18_3 := blk_frozen BK110.out 3; have hcz19_0 : w16.cell? ⟨gb111, 0, none⟩ = some (.int .i64 a1_0) := (blk_cell BK111.out 0).trans rfl; have hcz19_1 : w16.cell? ⟨gb111, 1, none⟩ = some (.int .i64 a1_1) := (blk_cell BK111.out 1).trans rfl; have hcz19_2 : w16.cell? ⟨gb111, 2, none⟩ = some (.float .f64 a1_2) := (blk_cell BK111.out 2).trans rfl; have hcz19_3 : w16.cell? ⟨gb111, 3, none⟩ = some (.string a1_3) := (blk_cell BK111.out 3).trans rfl; have hfz19_0 := blk_frozen BK111.out 0; have hfz19_1 := blk_frozen BK111.out 1; have hfz19_2 := blk_frozen BK111.out 2; have hfz19_3 := blk_frozen BK111.out 3))
    go_ret
    exact ⟨by first | rfl | (simp [errW_none, errW_some] <;> rfl) | (simp [*, errW_none, errW_some] <;> rfl), by repeat (first | (with_reducible first | exact HB.out | apply below_alloc | apply pw_below_drewN | apply below_drew1 | refine below_set ?_ GE110.out | refine below_set ?_ GE111.out) | exact HB.out)⟩

/-! ### colonnadelaw22_same: function 6 -/
def colonnadelaw22_same.f (a0_0 : Int) (a0_1 : Int) (a0_2 : Int) (a0_3 : Int) (a0_4 : Int) (a0_5 : Int) (a0_6 : Nat) (a0_7 : ByteArray) (a0_8 : Int) (a0_9 : Int) (a0_10 : Nat) (a0_11 : ByteArray) (a1_0 : Int) (a1_1 : Int) (a1_2 : Int) (a1_3 : Int) (a1_4 : Int) (a1_5 : Int) (a1_6 : Nat) (a1_7 : ByteArray) (a1_8 : Int) (a1_9 : Int) (a1_10 : Nat) (a1_11 : ByteArray) : Option (Bool) := if a0_0 = a1_0 then (if a0_1 = a1_1 then (if (a0_2 == a1_2 && (a0_3 == a1_3)) = true then ((colonnadelaw22_alike.f a0_4 a0_5 a0_6 a0_7 a1_4 a1_5 a1_6 a1_7).bind fun t114 => (if t114 = true then ((colonnadelaw22_alike.f a0_8 a0_9 a0_10 a0_11 a1_8 a1_9 a1_10 a1_11).bind fun t115 => (some t115)) else (some false))) else (some false)) else (some false)) else (some false)
set_option maxHeartbeats 8000000 in
set_option maxRecDepth 100000 in
theorem colonnadelaw22_same.calls (a0_0 : Int) (a0_1 : Int) (a0_2 : Int) (a0_3 : Int) (a0_4 : Int) (a0_5 : Int) (a0_6 : Nat) (a0_7 : ByteArray) (a0_8 : Int) (a0_9 : Int) (a0_10 : Nat) (a0_11 : ByteArray) (a1_0 : Int) (a1_1 : Int) (a1_2 : Int) (a1_3 : Int) (a1_4 : Int) (a1_5 : Int) (a1_6 : Nat) (a1_7 : ByteArray) (a1_8 : Int) (a1_9 : Int) (a1_10 : Nat) (a1_11 : ByteArray) (r : Bool) (w : World) (h : colonnadelaw22_same.f a0_0 a0_1 a0_2 a0_3 a0_4 a0_5 a0_6 a0_7 a0_8 a0_9 a0_10 a0_11 a1_0 a1_1 a1_2 a1_3 a1_4 a1_5 a1_6 a1_7 a1_8 a1_9 a1_10 a1_11 = some r) :
  Calls Try.prog 6 #[.agg #[.int .i64 a0_0,.int .i64 a0_1,.int .i64 a0_2,.int .u64 a0_3,.int .i64 a0_4,.int .i64 a0_5,.float .f64 a0_6,.string a0_7,.int .i64 a0_8,.int .i64 a0_9,.float .f64 a0_10,.string a0_11],.agg #[.int .i64 a1_0,.int .i64 a1_1,.int .i64 a1_2,.int .u64 a1_3,.int .i64 a1_4,.int .i64 a1_5,.float .f64 a1_6,.string a1_7,.int .i64 a1_8,.int .i64 a1_9,.float .f64 a1_10,.string a1_11]] w fun e w' => e = .returned (.bool r) ∧ Below w.heap.size w w' := by
 have hu30 := Try.underlying30
 have hu34 := Try.underlying34
 have hu25 := Try.underlying25
 have hu28 := Try.underlying28
 have HB := Aside0.mk (Below.refl w.heap.size w)
 have H : (if a0_0 = a1_0 then (if a0_1 = a1_1 then (if (a0_2 == a1_2 && (a0_3 == a1_3)) = true then ((colonnadelaw22_alike.f a0_4 a0_5 a0_6 a0_7 a1_4 a1_5 a1_6 a1_7).bind fun t114 => (if t114 = true then ((colonnadelaw22_alike.f a0_8 a0_9 a0_10 a0_11 a1_8 a1_9 a1_10 a1_11).bind fun t115 => (some t115)) else (some false))) else (some false)) else (some false)) else (some false)) = some r := h
 clear h
 by_cases c3 : a0_0 = a1_0
 ·
  rw [if_pos c3] at H
  have c3b0 : (a0_0 == a1_0) = true := beq_iff_eq.mpr c3
  have c3b1 : (a0_0 != a1_0) = false := bne_eq_false_iff_eq.mpr c3
  clear c3
  by_cases c4 : a0_1 = a1_1
  ·
   rw [if_pos c4] at H
   have c4b0 : (a0_1 == a1_1) = true := beq_iff_eq.mpr c4
   have c4b1 : (a0_1 != a1_1) = false := bne_eq_false_iff_eq.mpr c4
   clear c4
   by_cases c5 : (a0_2 == a1_2 && (a0_3 == a1_3)) = true
   ·
    rw [if_pos c5] at H
    have c5b0 : (a0_2 == a1_2 && (a0_3 == a1_3)) = true := c5
    (try (have c5b1 : decide (a0_2 = a1_2 && (a0_3 == a1_3)) = true := by simpa using c5))
    (try (have c5b2 : (a0_2 == a1_2 && (a0_3 == a1_3)) = true := by simpa using c5))
    clear c5
    replace H := Option.bind_eq_some_iff.mp H
    obtain ⟨t114,A60,H⟩ := H
    replace H : (if t114 = true then ((colonnadelaw22_alike.f a0_8 a0_9 a0_10 a0_11 a1_8 a1_9 a1_10 a1_11).bind fun t115 => (some t115)) else (some false)) = some r := H
    have A6 := Aside0.mk A60
    clear A60
    by_cases c7 : t114 = true
    ·
     subst c7
     have H1 : ((colonnadelaw22_alike.f a0_8 a0_9 a0_10 a0_11 a1_8 a1_9 a1_10 a1_11).bind fun t115 => (some t115)) = some r := by rw [if_pos rfl] at H; exact H
     clear H
     have H := H1
     clear H1
     replace H := Option.bind_eq_some_iff.mp H
     obtain ⟨t115,A80,H⟩ := H
     replace H : (some t115) = some r := H
     have A8 := Aside0.mk A80
     clear A80
     obtain rfl := Option.some.inj H
     go_enter Try.func6,Try.ntmps6
     go_wp2_with (first | ((with_reducible refine gate_dst (N := 2) rfl ?_); refine box_event ?hg (N := 2) ?hd (cs := #[.int .i64 a0_0,.int .i64 a0_1,.int .i64 a0_2,.int .u64 a0_3,.int .i64 a0_4,.int .i64 a0_5,.float .f64 a0_6,.string a0_7,.int .i64 a0_8,.int .i64 a0_9,.float .f64 a0_10,.string a0_11]) (t := 30) ?hr ?_; (case hd => rfl); (case hg => rfl); (case hr => first | (go_simp; done) | (go_simp; rfl)); intro gb112 hg w9 hbox hb; have n0_ := Aside0.mk (below_step (by repeat (first | (with_reducible first | exact HB.out | apply below_alloc | apply pw_below_drewN | apply below_drew1) | exact HB.out)) hb); have n1_ := Aside0.mk (hbox); have n2_ := Aside0.mk ((by rw [hg]; exact (below_size (by repeat (first | (with_reducible first | exact HB.out | apply below_alloc | apply pw_below_drewN | apply below_drew1) | exact HB.out))) : w.heap.size ≤ gb112)); have n3_ := Aside0.mk ((by rw [hg]; exact (below_size (by repeat (first | (with_reducible first | exact HB.out | apply below_alloc | apply pw_below_drewN | apply below_drew1) | exact HB.out))) : w.heap.size ≤ gb112)); clear HB; have HB := n0_; have BK112 := n1_; have GW112 := n2_; have GE112 := n3_; clear n0_ n1_ n2_ n3_; clear hb hbox hg) | ((with_reducible refine gate_dst (N := 3) rfl ?_); refine box_event ?hg (N := 3) ?hd (cs := #[.int .i64 a1_0,.int .i64 a1_1,.int .i64 a1_2,.int .u64 a1_3,.int .i64 a1_4,.int .i64 a1_5,.float .f64 a1_6,.string a1_7,.int .i64 a1_8,.int .i64 a1_9,.float .f64 a1_10,.string a1_11]) (t := 34) ?hr ?_; (case hd => rfl); (case hg => rfl); (case hr => first | (go_simp; done) | (go_simp; rfl)); intro gb113 hg w10 hbox hb; have n0_ := Aside0.mk (blk_below (g := gb112) (o := .cells #[.int .i64 a0_0,.int .i64 a0_1,.int .i64 a0_2,.int .u64 a0_3,.int .i64 a0_4,.int .i64 a0_5,.float .f64 a0_6,.string a0_7,.int .i64 a0_8,.int .i64 a0_9,.float .f64 a0_10,.string a0_11] 30 (0,0)) (by (with_reducible repeat (first | refine blk_drewN ?_ _ | refine blk_drew ?_ | refine blk_alloc ?_ _)); exact BK112.out) hb); have n1_ := Aside0.mk (below_step (by repeat (first | (with_reducible first | exact HB.out | apply below_alloc | apply pw_below_drewN | apply below_drew1 | refine below_set ?_ GE112.out) | exact HB.out)) hb); have n2_ := Aside0.mk (hbox); have n3_ := Aside0.mk ((by rw [hg]; exact (below_size (by repeat (first | (with_reducible first | exact HB.out | apply below_alloc | apply pw_below_drewN | apply below_drew1 | refine below_set ?_ GE112.out) | exact HB.out))) : w.heap.size ≤ gb113)); have n4_ := Aside0.mk ((by rw [hg]; exact (below_size (by repeat (first | (with_reducible first | exact HB.out | apply below_alloc | apply pw_below_drewN | apply below_drew1 | refine below_set ?_ GE112.out) | exact HB.out))) : w.heap.size ≤ gb113)); have n5_ := Aside0.mk ((by rw [hg]; exact Nat.ne_of_lt (blk_lt (g := gb112) (o := .cells #[.int .i64 a0_0,.int .i64 a0_1,.int .i64 a0_2,.int .u64 a0_3,.int .i64 a0_4,.int .i64 a0_5,.float .f64 a0_6,.string a0_7,.int .i64 a0_8,.int .i64 a0_9,.float .f64 a0_10,.string a0_11] 30 (0,0)) (by (with_reducible repeat (first | refine blk_drewN ?_ _ | refine blk_drew ?_ | refine blk_alloc ?_ _)); exact BK112.out)) : gb112 ≠ gb113)); have n6_ := Aside0.mk ((by rw [hg]; exact Nat.ne_of_gt (blk_lt (g := gb112) (o := .cells #[.int .i64 a0_0,.int .i64 a0_1,.int .i64 a0_2,.int .u64 a0_3,.int .i64 a0_4,.int .i64 a0_5,.float .f64 a0_6,.string a0_7,.int .i64 a0_8,.int .i64 a0_9,.float .f64 a0_10,.string a0_11] 30 (0,0)) (by (with_reducible repeat (first | refine blk_drewN ?_ _ | refine blk_drew ?_ | refine blk_alloc ?_ _)); exact BK112.out)) : gb113 ≠ gb112)); clear BK112; clear HB; have BK112 := n0_; have HB := n1_; have BK113 := n2_; have GW113 := n3_; have GE113 := n4_; have NB112_113 := n5_; have NB113_112 := n6_; clear n0_ n1_ n2_ n3_ n4_ n5_ n6_; clear hb hbox hg; have hnb11 := NB112_113.out; have hnc11 := NB113_112.out; have hcz12_0 : w10.cell? ⟨gb112,0,none⟩ = some (.int .i64 a0_0) := (blk_cell BK112.out 0).trans rfl; have hcz12_1 : w10.cell? ⟨gb112,1,none⟩ = some (.int .i64 a0_1) := (blk_cell BK112.out 1).trans rfl; have hcz12_2 : w10.cell? ⟨gb112,2,none⟩ = some (.int .i64 a0_2) := (blk_cell BK112.out 2).trans rfl; have hcz12_3 : w10.cell? ⟨gb112,3,none⟩ = some (.int .u64 a0_3) := (blk_cell BK112.out 3).trans rfl; have hcz12_4 : w10.cell? ⟨gb112,4,none⟩ = some (.int .i64 a0_4) := (blk_cell BK112.out 4).trans rfl; have hcz12_5 : w10.cell? ⟨gb112,5,none⟩ = some (.int .i64 a0_5) := (blk_cell BK112.out 5).trans rfl; have hcz12_6 : w10.cell? ⟨gb112,6,none⟩ = some (.float .f64 a0_6) := (blk_cell BK112.out 6).trans rfl; have hcz12_7 : w10.cell? ⟨gb112,7,none⟩ = some (.string a0_7) := (blk_cell BK112.out 7).trans rfl; have hcz12_8 : w10.cell? ⟨gb112,8,none⟩ = some (.int .i64 a0_8) := (blk_cell BK112.out 8).trans rfl; have hcz12_9 : w10.cell? ⟨gb112,9,none⟩ = some (.int .i64 a0_9) := (blk_cell BK112.out 9).trans rfl; have hcz12_10 : w10.cell? ⟨gb112,10,none⟩ = some (.float .f64 a0_10) := (blk_cell BK112.out 10).trans rfl; have hcz12_11 : w10.cell? ⟨gb112,11,none⟩ = some (.string a0_11) := (blk_cell BK112.out 11).trans rfl; have hfz12_0 := blk_frozen BK112.out 0; have hfz12_1 := blk_frozen BK112.out 1; have hfz12_2 := blk_frozen BK112.out 2; have hfz12_3 := blk_frozen BK112.out 3; have hfz12_4 := blk_frozen BK112.out 4; have hfz12_5 := blk_frozen BK112.out 5; have hfz12_6 := blk_frozen BK112.out 6; have hfz12_7 := blk_frozen BK112.out 7; have hfz12_8 := blk_frozen BK112.out 8; have hfz12_9 := blk_frozen BK112.out 9; have hfz12_10 := blk_frozen BK112.out 10; have hfz12_11 := blk_frozen BK112.out 11; have hcz13_0 : w10.cell? ⟨gb113,0,none⟩ = some (.int .i64 a1_0) := (blk_cell BK113.out 0).trans rfl; have hcz13_1 : w10.cell? ⟨gb113,1,none⟩ = some (.int .i64 a1_1) := (blk_cell BK113.out 1).trans rfl; have hcz13_2 : w10.cell? ⟨gb113,2,none⟩ = some (.int .i64 a1_2) := (blk_cell BK113.out 2).trans rfl; have hcz13_3 : w10.cell? ⟨gb113,3,none⟩ = some (.int .u64 a1_3) := (blk_cell BK113.out 3).trans rfl; have hcz13_4 : w10.cell? ⟨gb113,4,none⟩ = some (.int .i64 a1_4) := (blk_cell BK113.out 4).trans rfl; have hcz13_5 : w10.cell? ⟨gb113,5,none⟩ = some (.int .i64 a1_5) := (blk_cell BK113.out 5).trans rfl; have hcz13_6 : w10.cell? ⟨gb113,6,none⟩ = some (.float .f64 a1_6) := (blk_cell BK113.out 6).trans rfl; have hcz13_7 : w10.cell? ⟨gb113,7,none⟩ = some (.string a1_7) := (blk_cell BK113.out 7).trans rfl; have hcz13_8 : w10.cell? ⟨gb113,8,none⟩ = some (.int .i64 a1_8) := (blk_cell BK113.out 8).trans rfl; have hcz13_9 : w10.cell? ⟨gb113,9,none⟩ = some (.int .i64 a1_9) := (blk_cell BK113.out 9).trans rfl; have hcz13_10 : w10.cell? ⟨gb113,10,none⟩ = some (.float .f64 a1_10) := (blk_cell BK113.out 10).trans rfl; have hcz13_11 : w10.cell? ⟨gb113,11,none⟩ = some (.string a1_11) := (blk_cell BK113.out 11).trans rfl; have hfz13_0 := blk_frozen BK113.out 0; have hfz13_1 := blk_frozen BK113.out 1; have hfz13_2 := blk_frozen BK113.out 2; have hfz13_3 := blk_frozen BK113.out 3; have hfz13_4 := blk_frozen BK113.out 4; have hfz13_5 := blk_frozen BK113.out 5; have hfz13_6 := blk_frozen BK113.out 6; have hfz13_7 := blk_frozen BK113.out 7; have hfz13_8 := blk_frozen BK113.out 8; have hfz13_9 := blk_frozen BK113.out 9; have hfz13_10 := blk_frozen BK113.out 10; have hfz13_11 := blk_frozen BK113.out 11) | (go_at_call 11; (with_reducible refine (colonnadelaw22_alike.calls a0_4 a0_5 a0_6 a0_7 a1_4 a1_5 a1_6 a1_7 true _ A6.out).mono ?_); rintro e w14 ⟨rfl,hb⟩; have n0_ := Aside0.mk (blk_below (g := gb112) (o := .cells #[.int .i64 a0_0,.int .i64 a0_1,.int .i64 a0_2,.int .u64 a0_3,.int .i64 a0_4,.int .i64 a0_5,.float .f64 a0_6,.string a0_7,.int .i64 a0_8,.int .i64 a0_9,.float .f64 a0_10,.string a0_11] 30 (0,0)) (by (with_reducible repeat (first | refine blk_drewN ?_ _ | refine blk_drew ?_ | refine blk_alloc ?_ _)); exact BK112.out) hb); have n1_ := Aside0.mk (blk_below (g := gb113) (o := .cells #[.int .i64 a1_0,.int .i64 a1_1,.int .i64 a1_2,.int .u64 a1_3,.int .i64 a1_4,.int .i64 a1_5,.float .f64 a1_6,.string a1_7,.int .i64 a1_8,.int .i64 a1_9,.float .f64 a1_10,.string a1_11] 34 (0,0)) (by (with_reducible repeat (first | refine blk_drewN ?_ _ | refine blk_drew ?_ | refine blk_alloc ?_ _)); exact BK113.out) hb); have n2_ := Aside0.mk (below_step (by repeat (first | (with_reducible first | exact HB.out | apply below_alloc | apply pw_below_drewN | apply below_drew1 | refine below_set ?_ GE112.out | refine below_set ?_ GE113.out) | exact HB.out)) hb); clear BK112; clear BK113; clear HB; have BK112 := n0_; have BK113 := n1_; have HB := n2_; clear n0_ n1_ n2_; (try clear hb); (try clear hb2); (try clear hk); (try clear hi); have hcz15_0 : w14.cell? ⟨gb112,0,none⟩ = some (.int .i64 a0_0) := (blk_cell BK112.out 0).trans rfl; have hcz15_1 : w14.cell? ⟨gb112,1,none⟩ = some (.int .i64 a0_1) := (blk_cell BK112.out 1).trans rfl; have hcz15_2 : w14.cell? ⟨gb112,2,none⟩ = some (.int .i64 a0_2) := (blk_cell BK112.out 2).trans rfl; have hcz15_3 : w14.cell? ⟨gb112,3,none⟩ = some (.int .u64 a0_3) := (blk_cell BK112.out 3).trans rfl; have hcz15_4 : w14.cell? ⟨gb112,4,none⟩ = some (.int .i64 a0_4) := (blk_cell BK112.out 4).trans rfl; have hcz15_5 : w14.cell? ⟨gb112,5,none⟩ = some (.int .i64 a0_5) := (blk_cell BK112.out 5).trans rfl; have hcz15_6 : w14.cell? ⟨gb112,6,none⟩ = some (.float .f64 a0_6) := (blk_cell BK112.out 6).trans rfl; have hcz15_7 : w14.cell? ⟨gb112,7,none⟩ = some (.string a0_7) := (blk_cell BK112.out 7).trans rfl; have hcz15_8 : w14.cell? ⟨gb112,8,none⟩ = some (.int .i64 a0_8) := (blk_cell BK112.out 8).trans rfl; have hcz15_9 : w14.cell? ⟨gb112,9,none⟩ = some (.int .i64 a0_9) := (blk_cell BK112.out 9).trans rfl; have hcz15_10 : w14.cell? ⟨gb112,10,none⟩ = some (.float .f64 a0_10) := (blk_cell BK112.out 10).trans rfl; have hcz15_11 : w14.cell? ⟨gb112,11,none⟩ = some (.string a0_11) := (blk_cell BK112.out 11).trans rfl; have hfz15_0 := blk_frozen BK112.out 0; have hfz15_1 := blk_frozen BK112.out 1; have hfz15_2 := blk_frozen BK112.out 2; have hfz15_3 := blk_frozen BK112.out 3; have hfz15_4 := blk_frozen BK112.out 4; have hfz15_5 := blk_frozen BK112.out 5; have hfz15_6 := blk_frozen BK112.out 6; have hfz15_7 := blk_frozen BK112.out 7; have hfz15_8 := blk_frozen BK112.out 8; have hfz15_9 := blk_frozen BK112.out 9; have hfz15_10 := blk_frozen BK112.out 10; have hfz15_11 := blk_frozen BK112.out 11; have hcz16_0 : w14.cell? ⟨gb113,0,none⟩ = some (.int .i64 a1_0) := (blk_cell BK113.out 0).trans rfl; have hcz16_1 : w14.cell? ⟨gb113,1,none⟩ = some (.int .i64 a1_1) := (blk_cell BK113.out 1).trans rfl; have hcz16_2 : w14.cell? ⟨gb113,2,none⟩ = some (.int .i64 a1_2) := (blk_cell BK113.out 2).trans rfl; have hcz16_3 : w14.cell? ⟨gb113,3,none⟩ = some (.int .u64 a1_3) := (blk_cell BK113.out 3).trans rfl; have hcz16_4 : w14.cell? ⟨gb113,4,none⟩ = some (.int .i64 a1_4) := (blk_cell BK113.out 4).trans rfl; have hcz16_5 : w14.cell? ⟨gb113,5,none⟩ = some (.int .i64 a1_5) := (blk_cell BK113.out 5).trans rfl; have hcz16_6 : w14.cell? ⟨gb113,6,none⟩ = some (.float .f64 a1_6) := (blk_cell BK113.out 6).trans rfl; have hcz16_7 : w14.cell? ⟨gb113,7,none⟩ = some (.string a1_7) := (blk_cell BK113.out 7).trans rfl; have hcz16_8 : w14.cell? ⟨gb113,8,none⟩ = some (.int .i64 a1_8) := (blk_cell BK113.out 8).trans rfl; have hcz16_9 : w14.cell? ⟨gb113,9,none⟩ = some (.int .i64 a1_9) := (blk_cell BK113.out 9).trans rfl; have hcz16_10 : w14.cell? ⟨gb113,10,none⟩ = some (.float .f64 a1_10) := (blk_cell BK113.out 10).trans rfl; have hcz16_11 : w14.cell? ⟨gb113,11,none⟩ = some (.string a1_11) := (blk_cell BK113.out 11).trans rfl; have hfz16_0 := blk_frozen BK113.out 0; have hfz16_1 := blk_frozen BK113.out 1; have hfz16_2 := blk_frozen BK113.out 2; have hfz16_3 := blk_frozen BK113.out 3; have hfz16_4 := blk_frozen BK113.out 4; have hfz16_5 := blk_frozen BK113.out 5; have hfz16_6 := blk_frozen BK113.out 6; have hfz16_7 := blk_frozen BK113.out 7; have hfz16_8 := blk_frozen BK113.out 8; have hfz16_9 := blk_frozen BK113.out 9; have hfz16_10 := blk_frozen BK113.out 10; have hfz16_11 := blk_frozen BK113.out 11) | (go_at_call 11; (with_reducible refine (colonnadelaw22_alike.calls a0_8 a0_9 a0_10 a0_11 a1_8 a1_9 a1_10 a1_11 t115 _ A8.out).mono ?_); rintro e w17 ⟨rfl,hb⟩; have n0_ := Aside0.mk (blk_below (g := gb112) (o := .cells #[.int .i64 a0_0,.int .i64 a0_1,.int .i64 a0_2,.int .u64 a0_3,.int .i64 a0_4,.int .i64 a0_5,.float .f64 a0_6,.string a0_7,.int .i64 a0_8,.int .i64 a0_9,.float .f64 a0_10,.string a0_11] 30 (0,0)) (by (with_reducible repeat (first | refine blk_drewN ?_ _ | refine blk_drew ?_ | refine blk_alloc ?_ _)); exact BK112.out) hb); have n1_ := Aside0.mk (blk_below (g := gb113) (o := .cells #[.int .i64 a1_0,.int .i64 a1_1,.int .i64 a1_2,.int .u64 a1_3,.int .i64 a1_4,.int .i64 a1_5,.float .f64 a1_6,.string a1_7,.int .i64 a1_8,.int .i64 a1_9,.float .f64 a1_10,.string a1_11] 34 (0,0)) (by (with_reducible repeat (first | refine blk_drewN ?_ _ | refine blk_drew ?_ | refine blk_alloc ?_ _)); exact BK113.out) hb); have n2_ := Aside0.mk (below_step (by repeat (first | (with_reducible first | exact HB.out | apply below_alloc | apply pw_below_drewN | apply below_drew1 | refine below_set ?_ GE112.out | refine below_set ?_ GE113.out) | exact HB.out)) hb); clear BK112; clear BK113; clear HB; have BK112 := n0_; have BK113 := n1_; have HB := n2_; clear n0_ n1_ n2_; (try clear hb); (try clear hb2); (try clear hk); (try clear hi)))
     go_ret
     exact ⟨by first | rfl | (simp [errW_none,errW_some] <;> rfl) | (simp [*,errW_none,errW_some] <;> rfl),by repeat (first | (with_reducible first | exact HB.out | apply below_alloc | apply pw_below_drewN | apply below_drew1 | refine below_set ?_ GE112.out | refine below_set ?_ GE113.out) | exact HB.out)⟩
    ·
     replace c7 := Bool.eq_false_iff.mpr c7
     subst c7
     have H1 : (some false) = some r := by rw [if_neg (show ¬ (false = true) by decide)] at H; exact H
     clear H
     have H := H1
     clear H1
     obtain rfl := Option.some.inj H
     go_enter Try.func6,Try.ntmps6
     go_wp2_with (first | ((with_reducible refine gate_dst (N := 2) rfl ?_); refine box_event ?hg (N := 2) ?hd (cs := #[.int .i64 a0_0,.int .i64 a0_1,.int .i64 a0_2,.int .u64 a0_3,.int .i64 a0_4,.int .i64 a0_5,.float .f64 a0_6,.string a0_7,.int .i64 a0_8,.int .i64 a0_9,.float .f64 a0_10,.string a0_11]) (t := 30) ?hr ?_; (case hd => rfl); (case hg => rfl); (case hr => first | (go_simp; done) | (go_simp; rfl)); intro gb112 hg w18 hbox hb; have n0_ := Aside0.mk (below_step (by repeat (first | (with_reducible first | exact HB.out | apply below_alloc | apply pw_below_drewN | apply below_drew1) | exact HB.out)) hb); have n1_ := Aside0.mk (hbox); have n2_ := Aside0.mk ((by rw [hg]; exact (below_size (by repeat (first | (with_reducible first | exact HB.out | apply below_alloc | apply pw_below_drewN | apply below_drew1) | exact HB.out))) : w.heap.size ≤ gb112)); have n3_ := Aside0.mk ((by rw [hg]; exact (below_size (by repeat (first | (with_reducible first | exact HB.out | apply below_alloc | apply pw_below_drewN | apply below_drew1) | exact HB.out))) : w.heap.size ≤ gb112)); clear HB; have HB := n0_; have BK112 := n1_; have GW112 := n2_; have GE112 := n3_; clear n0_ n1_ n2_ n3_; clear hb hbox hg) | ((with_reducible refine gate_dst (N := 3) rfl ?_); refine box_event ?hg (N := 3) ?hd (cs := #[.int .i64 a1_0,.int .i64 a1_1,.int .i64 a1_2,.int .u64 a1_3,.int .i64 a1_4,.int .i64 a1_5,.float .f64 a1_6,.string a1_7,.int .i64 a1_8,.int .i64 a1_9,.float .f64 a1_10,.string a1_11]) (t := 34) ?hr ?_; (case hd => rfl); (case hg => rfl); (case hr => first | (go_simp; done) | (go_simp; rfl)); intro gb113 hg w19 hbox hb; have n0_ := Aside0.mk (blk_below (g := gb112) (o := .cells #[.int .i64 a0_0,.int .i64 a0_1,.int .i64 a0_2,.int .u64 a0_3,.int .i64 a0_4,.int .i64 a0_5,.float .f64 a0_6,.string a0_7,.int .i64 a0_8,.int .i64 a0_9,.float .f64 a0_10,.string a0_11] 30 (0,0)) (by (with_reducible repeat (first | refine blk_drewN ?_ _ | refine blk_drew ?_ | refine blk_alloc ?_ _)); exact BK112.out) hb); have n1_ := Aside0.mk (below_step (by repeat (first | (with_reducible first | exact HB.out | apply below_alloc | apply pw_below_drewN | apply below_drew1 | refine below_set ?_ GE112.out) | exact HB.out)) hb); have n2_ := Aside0.mk (hbox); have n3_ := Aside0.mk ((by rw [hg]; exact (below_size (by repeat (first | (with_reducible first | exact HB.out | apply below_alloc | apply pw_below_drewN | apply below_drew1 | refine below_set ?_ GE112.out) | exact HB.out))) : w.heap.size ≤ gb113)); have n4_ := Aside0.mk ((by rw [hg]; exact (below_size (by repeat (first | (with_reducible first | exact HB.out | apply below_alloc | apply pw_below_drewN | apply below_drew1 | refine below_set ?_ GE112.out) | exact HB.out))) : w.heap.size ≤ gb113)); have n5_ := Aside0.mk ((by rw [hg]; exact Nat.ne_of_lt (blk_lt (g := gb112) (o := .cells #[.int .i64 a0_0,.int .i64 a0_1,.int .i64 a0_2,.int .u64 a0_3,.int .i64 a0_4,.int .i64 a0_5,.float .f64 a0_6,.string a0_7,.int .i64 a0_8,.int .i64 a0_9,.float .f64 a0_10,.string a0_11] 30 (0,0)) (by (with_reducible repeat (first | refine blk_drewN ?_ _ | refine blk_drew ?_ | refine blk_alloc ?_ _)); exact BK112.out)) : gb112 ≠ gb113)); have n6_ := Aside0.mk ((by rw [hg]; exact Nat.ne_of_gt (blk_lt (g := gb112) (o := .cells #[.int .i64 a0_0,.int .i64 a0_1,.int .i64 a0_2,.int .u64 a0_3,.int .i64 a0_4,.int .i64 a0_5,.float .f64 a0_6,.string a0_7,.int .i64 a0_8,.int .i64 a0_9,.float .f64 a0_10,.string a0_11] 30 (0,0)) (by (with_reducible repeat (first | refine blk_drewN ?_ _ | refine blk_drew ?_ | refine blk_alloc ?_ _)); exact BK112.out)) : gb113 ≠ gb112)); clear BK112; clear HB; have BK112 := n0_; have HB := n1_; have BK113 := n2_; have GW113 := n3_; have GE113 := n4_; have NB112_113 := n5_; have NB113_112 := n6_; clear n0_ n1_ n2_ n3_ n4_ n5_ n6_; clear hb hbox hg; have hnb20 := NB112_113.out; have hnc20 := NB113_112.out; have hcz21_0 : w19.cell? ⟨gb112,0,none⟩ = some (.int .i64 a0_0) := (blk_cell BK112.out 0).trans rfl; have hcz21_1 : w19.cell? ⟨gb112,1,none⟩ = some (.int .i64 a0_1) := (blk_cell BK112.out 1).trans rfl; have hcz21_2 : w19.cell? ⟨gb112,2,none⟩ = some (.int .i64 a0_2) := (blk_cell BK112.out 2).trans rfl; have hcz21_3 : w19.cell? ⟨gb112,3,none⟩ = some (.int .u64 a0_3) := (blk_cell BK112.out 3).trans rfl; have hcz21_4 : w19.cell? ⟨gb112,4,none⟩ = some (.int .i64 a0_4) := (blk_cell BK112.out 4).trans rfl; have hcz21_5 : w19.cell? ⟨gb112,5,none⟩ = some (.int .i64 a0_5) := (blk_cell BK112.out 5).trans rfl; have hcz21_6 : w19.cell? ⟨gb112,6,none⟩ = some (.float .f64 a0_6) := (blk_cell BK112.out 6).trans rfl; have hcz21_7 : w19.cell? ⟨gb112,7,none⟩ = some (.string a0_7) := (blk_cell BK112.out 7).trans rfl; have hcz21_8 : w19.cell? ⟨gb112,8,none⟩ = some (.int .i64 a0_8) := (blk_cell BK112.out 8).trans rfl; have hcz21_9 : w19.cell? ⟨gb112,9,none⟩ = some (.int .i64 a0_9) := (blk_cell BK112.out 9).trans rfl; have hcz21_10 : w19.cell? ⟨gb112,10,none⟩ = some (.float .f64 a0_10) := (blk_cell BK112.out 10).trans rfl; have hcz21_11 : w19.cell? ⟨gb112,11,none⟩ = some (.string a0_11) := (blk_cell BK112.out 11).trans rfl; have hfz21_0 := blk_frozen BK112.out 0; have hfz21_1 := blk_frozen BK112.out 1; have hfz21_2 := blk_frozen BK112.out 2; have hfz21_3 := blk_frozen BK112.out 3; have hfz21_4 := blk_frozen BK112.out 4; have hfz21_5 := blk_frozen BK112.out 5; have hfz21_6 := blk_frozen BK112.out 6; have hfz21_7 := blk_frozen BK112.out 7; have hfz21_8 := blk_frozen BK112.out 8; have hfz21_9 := blk_frozen BK112.out 9; have hfz21_10 := blk_frozen BK112.out 10; have hfz21_11 := blk_frozen BK112.out 11; have hcz22_0 : w19.cell? ⟨gb113,0,none⟩ = some (.int .i64 a1_0) := (blk_cell BK113.out 0).trans rfl; have hcz22_1 : w19.cell? ⟨gb113,1,none⟩ = some (.int .i64 a1_1) := (blk_cell BK113.out 1).trans rfl; have hcz22_2 : w19.cell? ⟨gb113,2,none⟩ = some (.int .i64 a1_2) := (blk_cell BK113.out 2).trans rfl; have hcz22_3 : w19.cell? ⟨gb113,3,none⟩ = some (.int .u64 a1_3) := (blk_cell BK113.out 3).trans rfl; have hcz22_4 : w19.cell? ⟨gb113,4,none⟩ = some (.int .i64 a1_4) := (blk_cell BK113.out 4).trans rfl; have hcz22_5 : w19.cell? ⟨gb113,5,none⟩ = some (.int .i64 a1_5) := (blk_cell BK113.out 5).trans rfl; have hcz22_6 : w19.cell? ⟨gb113,6,none⟩ = some (.float .f64 a1_6) := (blk_cell BK113.out 6).trans rfl; have hcz22_7 : w19.cell? ⟨gb113,7,none⟩ = some (.string a1_7) := (blk_cell BK113.out 7).trans rfl; have hcz22_8 : w19.cell? ⟨gb113,8,none⟩ = some (.int .i64 a1_8) := (blk_cell BK113.out 8).trans rfl; have hcz22_9 : w19.cell? ⟨gb113,9,none⟩ = some (.int .i64 a1_9) := (blk_cell BK113.out 9).trans rfl; have hcz22_10 : w19.cell? ⟨gb113,10,none⟩ = some (.float .f64 a1_10) := (blk_cell BK113.out 10).trans rfl; have hcz22_11 : w19.cell? ⟨gb113,11,none⟩ = some (.string a1_11) := (blk_cell BK113.out 11).trans rfl; have hfz22_0 := blk_frozen BK113.out 0; have hfz22_1 := blk_frozen BK113.out 1; have hfz22_2 := blk_frozen BK113.out 2; have hfz22_3 := blk_frozen BK113.out 3; have hfz22_4 := blk_frozen BK113.out 4; have hfz22_5 := blk_frozen BK113.out 5; have hfz22_6 := blk_frozen BK113.out 6; have hfz22_7 := blk_frozen BK113.out 7; have hfz22_8 := blk_frozen BK113.out 8; have hfz22_9 := blk_frozen BK113.out 9; have hfz22_10 := blk_frozen BK113.out 10; have hfz22_11 := blk_frozen BK113.out 11) | (go_at_call 11; (with_reducible refine (colonnadelaw22_alike.calls a0_4 a0_5 a0_6 a0_7 a1_4 a1_5 a1_6 a1_7 false _ A6.out).mono ?_); rintro e w23 ⟨rfl,hb⟩; have n0_ := Aside0.mk (blk_below (g := gb112) (o := .cells #[.int .i64 a0_0,.int .i64 a0_1,.int .i64 a0_2,.int .u64 a0_3,.int .i64 a0_4,.int .i64 a0_5,.float .f64 a0_6,.string a0_7,.int .i64 a0_8,.int .i64 a0_9,.float .f64 a0_10,.string a0_11] 30 (0,0)) (by (with_reducible repeat (first | refine blk_drewN ?_ _ | refine blk_drew ?_ | refine blk_alloc ?_ _)); exact BK112.out) hb); have n1_ := Aside0.mk (blk_below (g := gb113) (o := .cells #[.int .i64 a1_0,.int .i64 a1_1,.int .i64 a1_2,.int .u64 a1_3,.int .i64 a1_4,.int .i64 a1_5,.float .f64 a1_6,.string a1_7,.int .i64 a1_8,.int .i64 a1_9,.float .f64 a1_10,.string a1_11] 34 (0,0)) (by (with_reducible repeat (first | refine blk_drewN ?_ _ | refine blk_drew ?_ | refine blk_alloc ?_ _)); exact BK113.out) hb); have n2_ := Aside0.mk (below_step (by repeat (first | (with_reducible first | exact HB.out | apply below_alloc | apply pw_below_drewN | apply below_drew1 | refine below_set ?_ GE112.out | refine below_set ?_ GE113.out) | exact HB.out)) hb); clear BK112; clear BK113; clear HB; have BK112 := n0_; have BK113 := n1_; have HB := n2_; clear n0_ n1_ n2_; (try clear hb); (try clear hb2); (try clear hk); (try clear hi)))
     go_ret
     exact ⟨by first | rfl | (simp [errW_none,errW_some] <;> rfl) | (simp [*,errW_none,errW_some] <;> rfl),by repeat (first | (with_reducible first | exact HB.out | apply below_alloc | apply pw_below_drewN | apply below_drew1 | refine below_set ?_ GE112.out | refine below_set ?_ GE113.out) | exact HB.out)⟩
   ·
    rw [if_neg c5] at H
    have c5b0 : (a0_2 == a1_2 && (a0_3 == a1_3)) = false := by simpa using c5
    (try (have c5b1 : decide (a0_2 = a1_2 && (a0_3 == a1_3)) = false := by simpa using c5))
    (try (have c5b2 : (a0_2 == a1_2 && (a0_3 == a1_3)) = false := by simpa using c5))
    (try (have c5b3 : ¬ (a0_2 = a1_2 && (a0_3 == a1_3)) := by simpa using c5))
    clear c5
    obtain rfl := Option.some.inj H
    go_enter Try.func6,Try.ntmps6
    go_wp2_with (first | ((with_reducible refine gate_dst (N := 2) rfl ?_); refine box_event ?hg (N := 2) ?hd (cs := #[.int .i64 a0_0,.int .i64 a0_1,.int .i64 a0_2,.int .u64 a0_3,.int .i64 a0_4,.int .i64 a0_5,.float .f64 a0_6,.string a0_7,.int .i64 a0_8,.int .i64 a0_9,.float .f64 a0_10,.string a0_11]) (t := 30) ?hr ?_; (case hd => rfl); (case hg => rfl); (case hr => first | (go_simp; done) | (go_simp; rfl)); intro gb112 hg w24 hbox hb; have n0_ := Aside0.mk (below_step (by repeat (first | (with_reducible first | exact HB.out | apply below_alloc | apply pw_below_drewN | apply below_drew1) | exact HB.out)) hb); have n1_ := Aside0.mk (hbox); have n2_ := Aside0.mk ((by rw [hg]; exact (below_size (by repeat (first | (with_reducible first | exact HB.out | apply below_alloc | apply pw_below_drewN | apply below_drew1) | exact HB.out))) : w.heap.size ≤ gb112)); have n3_ := Aside0.mk ((by rw [hg]; exact (below_size (by repeat (first | (with_reducible first | exact HB.out | apply below_alloc | apply pw_below_drewN | apply below_drew1) | exact HB.out))) : w.heap.size ≤ gb112)); clear HB; have HB := n0_; have BK112 := n1_; have GW112 := n2_; have GE112 := n3_; clear n0_ n1_ n2_ n3_; clear hb hbox hg) | ((with_reducible refine gate_dst (N := 3) rfl ?_); refine box_event ?hg (N := 3) ?hd (cs := #[.int .i64 a1_0,.int .i64 a1_1,.int .i64 a1_2,.int .u64 a1_3,.int .i64 a1_4,.int .i64 a1_5,.float .f64 a1_6,.string a1_7,.int .i64 a1_8,.int .i64 a1_9,.float .f64 a1_10,.string a1_11]) (t := 34) ?hr ?_; (case hd => rfl); (case hg => rfl); (case hr => first | (go_simp; done) | (go_simp; rfl)); intro gb113 hg w25 hbox hb; have n0_ := Aside0.mk (blk_below (g := gb112) (o := .cells #[.int .i64 a0_0,.int .i64 a0_1,.int .i64 a0_2,.int .u64 a0_3,.int .i64 a0_4,.int .i64 a0_5,.float .f64 a0_6,.string a0_7,.int .i64 a0_8,.int .i64 a0_9,.float .f64 a0_10,.string a0_11] 30 (0,0)) (by (with_reducible repeat (first | refine blk_drewN ?_ _ | refine blk_drew ?_ | refine blk_alloc ?_ _)); exact BK112.out) hb); have n1_ := Aside0.mk (below_step (by repeat (first | (with_reducible first | exact HB.out | apply below_alloc | apply pw_below_drewN | apply below_drew1 | refine below_set ?_ GE112.out) | exact HB.out)) hb); have n2_ := Aside0.mk (hbox); have n3_ := Aside0.mk ((by rw [hg]; exact (below_size (by repeat (first | (with_reducible first | exact HB.out | apply below_alloc | apply pw_below_drewN | apply below_drew1 | refine below_set ?_ GE112.out) | exact HB.out))) : w.heap.size ≤ gb113)); have n4_ := Aside0.mk ((by rw [hg]; exact (below_size (by repeat (first | (with_reducible first | exact HB.out | apply below_alloc | apply pw_below_drewN | apply below_drew1 | refine below_set ?_ GE112.out) | exact HB.out))) : w.heap.size ≤ gb113)); have n5_ := Aside0.mk ((by rw [hg]; exact Nat.ne_of_lt (blk_lt (g := gb112) (o := .cells #[.int .i64 a0_0,.int .i64 a0_1,.int .i64 a0_2,.int .u64 a0_3,.int .i64 a0_4,.int .i64 a0_5,.float .f64 a0_6,.string a0_7,.int .i64 a0_8,.int .i64 a0_9,.float .f64 a0_10,.string a0_11] 30 (0,0)) (by (with_reducible repeat (first | refine blk_drewN ?_ _ | refine blk_drew ?_ | refine blk_alloc ?_ _)); exact BK112.out)) : gb112 ≠ gb113)); have n6_ := Aside0.mk ((by rw [hg]; exact Nat.ne_of_gt (blk_lt (g := gb112) (o := .cells #[.int .i64 a0_0,.int .i64 a0_1,.int .i64 a0_2,.int .u64 a0_3,.int .i64 a0_4,.int .i64 a0_5,.float .f64 a0_6,.string a0_7,.int .i64 a0_8,.int .i64 a0_9,.float .f64 a0_10,.string a0_11] 30 (0,0)) (by (with_reducible repeat (first | refine blk_drewN ?_ _ | refine blk_drew ?_ | refine blk_alloc ?_ _)); exact BK112.out)) : gb113 ≠ gb112)); clear BK112; clear HB; have BK112 := n0_; have HB := n1_; have BK113 := n2_; have GW113 := n3_; have GE113 := n4_; have NB112_113 := n5_; have NB113_112 := n6_; clear n0_ n1_ n2_ n3_ n4_ n5_ n6_; clear hb hbox hg; have hnb26 := NB112_113.out; have hnc26 := NB113_112.out; have hcz27_0 : w25.cell? ⟨gb112,0,none⟩ = some (.int .i64 a0_0) := (blk_cell BK112.out 0).trans rfl; have hcz27_1 : w25.cell? ⟨gb112,1,none⟩ = some (.int .i64 a0_1) := (blk_cell BK112.out 1).trans rfl; have hcz27_2 : w25.cell? ⟨gb112,2,none⟩ = some (.int .i64 a0_2) := (blk_cell BK112.out 2).trans rfl; have hcz27_3 : w25.cell? ⟨gb112,3,none⟩ = some (.int .u64 a0_3) := (blk_cell BK112.out 3).trans rfl; have hcz27_4 : w25.cell? ⟨gb112,4,none⟩ = some (.int .i64 a0_4) := (blk_cell BK112.out 4).trans rfl; have hcz27_5 : w25.cell? ⟨gb112,5,none⟩ = some (.int .i64 a0_5) := (blk_cell BK112.out 5).trans rfl; have hcz27_6 : w25.cell? ⟨gb112,6,none⟩ = some (.float .f64 a0_6) := (blk_cell BK112.out 6).trans rfl; have hcz27_7 : w25.cell? ⟨gb112,7,none⟩ = some (.string a0_7) := (blk_cell BK112.out 7).trans rfl; have hcz27_8 : w25.cell? ⟨gb112,8,none⟩ = some (.int .i64 a0_8) := (blk_cell BK112.out 8).trans rfl; have hcz27_9 : w25.cell? ⟨gb112,9,none⟩ = some (.int .i64 a0_9) := (blk_cell BK112.out 9).trans rfl; have hcz27_10 : w25.cell? ⟨gb112,10,none⟩ = some (.float .f64 a0_10) := (blk_cell BK112.out 10).trans rfl; have hcz27_11 : w25.cell? ⟨gb112,11,none⟩ = some (.string a0_11) := (blk_cell BK112.out 11).trans rfl; have hfz27_0 := blk_frozen BK112.out 0; have hfz27_1 := blk_frozen BK112.out 1; have hfz27_2 := blk_frozen BK112.out 2; have hfz27_3 := blk_frozen BK112.out 3; have hfz27_4 := blk_frozen BK112.out 4; have hfz27_5 := blk_frozen BK112.out 5; have hfz27_6 := blk_frozen BK112.out 6; have hfz27_7 := blk_frozen BK112.out 7; have hfz27_8 := blk_frozen BK112.out 8; have hfz27_9 := blk_frozen BK112.out 9; have hfz27_10 := blk_frozen BK112.out 10; have hfz27_11 := blk_frozen BK112.out 11; have hcz28_0 : w25.cell? ⟨gb113,0,none⟩ = some (.int .i64 a1_0) := (blk_cell BK113.out 0).trans rfl; have hcz28_1 : w25.cell? ⟨gb113,1,none⟩ = some (.int .i64 a1_1) := (blk_cell BK113.out 1).trans rfl; have hcz28_2 : w25.cell? ⟨gb113,2,none⟩ = some (.int .i64 a1_2) := (blk_cell BK113.out 2).trans rfl; have hcz28_3 : w25.cell? ⟨gb113,3,none⟩ = some (.int .u64 a1_3) := (blk_cell BK113.out 3).trans rfl; have hcz28_4 : w25.cell? ⟨gb113,4,none⟩ = some (.int .i64 a1_4) := (blk_cell BK113.out 4).trans rfl; have hcz28_5 : w25.cell? ⟨gb113,5,none⟩ = some (.int .i64 a1_5) := (blk_cell BK113.out 5).trans rfl; have hcz28_6 : w25.cell? ⟨gb113,6,none⟩ = some (.float .f64 a1_6) := (blk_cell BK113.out 6).trans rfl; have hcz28_7 : w25.cell? ⟨gb113,7,none⟩ = some (.string a1_7) := (blk_cell BK113.out 7).trans rfl; have hcz28_8 : w25.cell? ⟨gb113,8,none⟩ = some (.int .i64 a1_8) := (blk_cell BK113.out 8).trans rfl; have hcz28_9 : w25.cell? ⟨gb113,9,none⟩ = some (.int .i64 a1_9) := (blk_cell BK113.out 9).trans rfl; have hcz28_10 : w25.cell? ⟨gb113,10,none⟩ = some (.float .f64 a1_10) := (blk_cell BK113.out 10).trans rfl; have hcz28_11 : w25.cell? ⟨gb113,11,none⟩ = some (.string a1_11) := (blk_cell BK113.out 11).trans rfl; have hfz28_0 := blk_frozen BK113.out 0; have hfz28_1 := blk_frozen BK113.out 1; have hfz28_2 := blk_frozen BK113.out 2; have hfz28_3 := blk_frozen BK113.out 3; have hfz28_4 := blk_frozen BK113.out 4; have hfz28_5 := blk_frozen BK113.out 5; have hfz28_6 := blk_frozen BK113.out 6; have hfz28_7 := blk_frozen BK113.out 7; have hfz28_8 := blk_frozen BK113.out 8; have hfz28_9 := blk_frozen BK113.out 9; have hfz28_10 := blk_frozen BK113.out 10; have hfz28_11 := blk_frozen BK113.out 11))
    go_ret
    exact ⟨by first | rfl | (simp [errW_none,errW_some] <;> rfl) | (simp [*,errW_none,errW_some] <;> rfl),by repeat (first | (with_reducible first | exact HB.out | apply below_alloc | apply pw_below_drewN | apply below_drew1 | refine below_set ?_ GE112.out | refine below_set ?_ GE113.out) | exact HB.out)⟩
  ·
   rw [if_neg c4] at H
   have c4b0 : (a0_1 == a1_1) = false := beq_eq_false_iff_ne.mpr c4
   have c4b1 : (a0_1 != a1_1) = true := bne_iff_ne.mpr c4
   obtain rfl := Option.some.inj H
   go_enter Try.func6,Try.ntmps6
   go_wp2_with (first | ((with_reducible refine gate_dst (N := 2) rfl ?_); refine box_event ?hg (N := 2) ?hd (cs := #[.int .i64 a0_0,.int .i64 a0_1,.int .i64 a0_2,.int .u64 a0_3,.int .i64 a0_4,.int .i64 a0_5,.float .f64 a0_6,.string a0_7,.int .i64 a0_8,.int .i64 a0_9,.float .f64 a0_10,.string a0_11]) (t := 30) ?hr ?_; (case hd => rfl); (case hg => rfl); (case hr => first | (go_simp; done) | (go_simp; rfl)); intro gb112 hg w29 hbox hb; have n0_ := Aside0.mk (below_step (by repeat (first | (with_reducible first | exact HB.out | apply below_alloc | apply pw_below_drewN | apply below_drew1) | exact HB.out)) hb); have n1_ := Aside0.mk (hbox); have n2_ := Aside0.mk ((by rw [hg]; exact (below_size (by repeat (first | (with_reducible first | exact HB.out | apply below_alloc | apply pw_below_drewN | apply below_drew1) | exact HB.out))) : w.heap.size ≤ gb112)); have n3_ := Aside0.mk ((by rw [hg]; exact (below_size (by repeat (first | (with_reducible first | exact HB.out | apply below_alloc | apply pw_below_drewN | apply below_drew1) | exact HB.out))) : w.heap.size ≤ gb112)); clear HB; have HB := n0_; have BK112 := n1_; have GW112 := n2_; have GE112 := n3_; clear n0_ n1_ n2_ n3_; clear hb hbox hg) | ((with_reducible refine gate_dst (N := 3) rfl ?_); refine box_event ?hg (N := 3) ?hd (cs := #[.int .i64 a1_0,.int .i64 a1_1,.int .i64 a1_2,.int .u64 a1_3,.int .i64 a1_4,.int .i64 a1_5,.float .f64 a1_6,.string a1_7,.int .i64 a1_8,.int .i64 a1_9,.float .f64 a1_10,.string a1_11]) (t := 34) ?hr ?_; (case hd => rfl); (case hg => rfl); (case hr => first | (go_simp; done) | (go_simp; rfl)); intro gb113 hg w30 hbox hb; have n0_ := Aside0.mk (blk_below (g := gb112) (o := .cells #[.int .i64 a0_0,.int .i64 a0_1,.int .i64 a0_2,.int .u64 a0_3,.int .i64 a0_4,.int .i64 a0_5,.float .f64 a0_6,.string a0_7,.int .i64 a0_8,.int .i64 a0_9,.float .f64 a0_10,.string a0_11] 30 (0,0)) (by (with_reducible repeat (first | refine blk_drewN ?_ _ | refine blk_drew ?_ | refine blk_alloc ?_ _)); exact BK112.out) hb); have n1_ := Aside0.mk (below_step (by repeat (first | (with_reducible first | exact HB.out | apply below_alloc | apply pw_below_drewN | apply below_drew1 | refine below_set ?_ GE112.out) | exact HB.out)) hb); have n2_ := Aside0.mk (hbox); have n3_ := Aside0.mk ((by rw [hg]; exact (below_size (by repeat (first | (with_reducible first | exact HB.out | apply below_alloc | apply pw_below_drewN | apply below_drew1 | refine below_set ?_ GE112.out) | exact HB.out))) : w.heap.size ≤ gb113)); have n4_ := Aside0.mk ((by rw [hg]; exact (below_size (by repeat (first | (with_reducible first | exact HB.out | apply below_alloc | apply pw_below_drewN | apply below_drew1 | refine below_set ?_ GE112.out) | exact HB.out))) : w.heap.size ≤ gb113)); have n5_ := Aside0.mk ((by rw [hg]; exact Nat.ne_of_lt (blk_lt (g := gb112) (o := .cells #[.int .i64 a0_0,.int .i64 a0_1,.int .i64 a0_2,.int .u64 a0_3,.int .i64 a0_4,.int .i64 a0_5,.float .f64 a0_6,.string a0_7,.int .i64 a0_8,.int .i64 a0_9,.float .f64 a0_10,.string a0_11] 30 (0,0)) (by (with_reducible repeat (first | refine blk_drewN ?_ _ | refine blk_drew ?_ | refine blk_alloc ?_ _)); exact BK112.out)) : gb112 ≠ gb113)); have n6_ := Aside0.mk ((by rw [hg]; exact Nat.ne_of_gt (blk_lt (g := gb112) (o := .cells #[.int .i64 a0_0,.int .i64 a0_1,.int .i64 a0_2,.int .u64 a0_3,.int .i64 a0_4,.int .i64 a0_5,.float .f64 a0_6,.string a0_7,.int .i64 a0_8,.int .i64 a0_9,.float .f64 a0_10,.string a0_11] 30 (0,0)) (by (with_reducible repeat (first | refine blk_drewN ?_ _ | refine blk_drew ?_ | refine blk_alloc ?_ _)); exact BK112.out)) : gb113 ≠ gb112)); clear BK112; clear HB; have BK112 := n0_; have HB := n1_; have BK113 := n2_; have GW113 := n3_; have GE113 := n4_; have NB112_113 := n5_; have NB113_112 := n6_; clear n0_ n1_ n2_ n3_ n4_ n5_ n6_; clear hb hbox hg; have hnb31 := NB112_113.out; have hnc31 := NB113_112.out; have hcz32_0 : w30.cell? ⟨gb112,0,none⟩ = some (.int .i64 a0_0) := (blk_cell BK112.out 0).trans rfl; have hcz32_1 : w30.cell? ⟨gb112,1,none⟩ = some (.int .i64 a0_1) := (blk_cell BK112.out 1).trans rfl; have hcz32_2 : w30.cell? ⟨gb112,2,none⟩ = some (.int .i64 a0_2) := (blk_cell BK112.out 2).trans rfl; have hcz32_3 : w30.cell? ⟨gb112,3,none⟩ = some (.int .u64 a0_3) := (blk_cell BK112.out 3).trans rfl; have hcz32_4 : w30.cell? ⟨gb112,4,none⟩ = some (.int .i64 a0_4) := (blk_cell BK112.out 4).trans rfl; have hcz32_5 : w30.cell? ⟨gb112,5,none⟩ = some (.int .i64 a0_5) := (blk_cell BK112.out 5).trans rfl; have hcz32_6 : w30.cell? ⟨gb112,6,none⟩ = some (.float .f64 a0_6) := (blk_cell BK112.out 6).trans rfl; have hcz32_7 : w30.cell? ⟨gb112,7,none⟩ = some (.string a0_7) := (blk_cell BK112.out 7).trans rfl; have hcz32_8 : w30.cell? ⟨gb112,8,none⟩ = some (.int .i64 a0_8) := (blk_cell BK112.out 8).trans rfl; have hcz32_9 : w30.cell? ⟨gb112,9,none⟩ = some (.int .i64 a0_9) := (blk_cell BK112.out 9).trans rfl; have hcz32_10 : w30.cell? ⟨gb112,10,none⟩ = some (.float .f64 a0_10) := (blk_cell BK112.out 10).trans rfl; have hcz32_11 : w30.cell? ⟨gb112,11,none⟩ = some (.string a0_11) := (blk_cell BK112.out 11).trans rfl; have hfz32_0 := blk_frozen BK112.out 0; have hfz32_1 := blk_frozen BK112.out 1; have hfz32_2 := blk_frozen BK112.out 2; have hfz32_3 := blk_frozen BK112.out 3; have hfz32_4 := blk_frozen BK112.out 4; have hfz32_5 := blk_frozen BK112.out 5; have hfz32_6 := blk_frozen BK112.out 6; have hfz32_7 := blk_frozen BK112.out 7; have hfz32_8 := blk_frozen BK112.out 8; have hfz32_9 := blk_frozen BK112.out 9; have hfz32_10 := blk_frozen BK112.out 10; have hfz32_11 := blk_frozen BK112.out 11; have hcz33_0 : w30.cell? ⟨gb113,0,none⟩ = some (.int .i64 a1_0) := (blk_cell BK113.out 0).trans rfl; have hcz33_1 : w30.cell? ⟨gb113,1,none⟩ = some (.int .i64 a1_1) := (blk_cell BK113.out 1).trans rfl; have hcz33_2 : w30.cell? ⟨gb113,2,none⟩ = some (.int .i64 a1_2) := (blk_cell BK113.out 2).trans rfl; have hcz33_3 : w30.cell? ⟨gb113,3,none⟩ = some (.int .u64 a1_3) := (blk_cell BK113.out 3).trans rfl; have hcz33_4 : w30.cell? ⟨gb113,4,none⟩ = some (.int .i64 a1_4) := (blk_cell BK113.out 4).trans rfl; have hcz33_5 : w30.cell? ⟨gb113,5,none⟩ = some (.int .i64 a1_5) := (blk_cell BK113.out 5).trans rfl; have hcz33_6 : w30.cell? ⟨gb113,6,none⟩ = some (.float .f64 a1_6) := (blk_cell BK113.out 6).trans rfl; have hcz33_7 : w30.cell? ⟨gb113,7,none⟩ = some (.string a1_7) := (blk_cell BK113.out 7).trans rfl; have hcz33_8 : w30.cell? ⟨gb113,8,none⟩ = some (.int .i64 a1_8) := (blk_cell BK113.out 8).trans rfl; have hcz33_9 : w30.cell? ⟨gb113,9,none⟩ = some (.int .i64 a1_9) := (blk_cell BK113.out 9).trans rfl; have hcz33_10 : w30.cell? ⟨gb113,10,none⟩ = some (.float .f64 a1_10) := (blk_cell BK113.out 10).trans rfl; have hcz33_11 : w30.cell? ⟨gb113,11,none⟩ = some (.string a1_11) := (blk_cell BK113.out 11).trans rfl; have hfz33_0 := blk_frozen BK113.out 0; have hfz33_1 := blk_frozen BK113.out 1; have hfz33_2 := blk_frozen BK113.out 2; have hfz33_3 := blk_frozen BK113.out 3; have hfz33_4 := blk_frozen BK113.out 4; have hfz33_5 := blk_frozen BK113.out 5; have hfz33_6 := blk_frozen BK113.out 6; have hfz33_7 := blk_frozen BK113.out 7; have hfz33_8 := blk_frozen BK113.out 8; have hfz33_9 := blk_frozen BK113.out 9; have hfz33_10 := blk_frozen BK113.out 10; have hfz33_11 := blk_frozen BK113.out 11))
   go_ret
   exact ⟨by first | rfl | (simp [errW_none,errW_some] <;> rfl) | (simp [*,errW_none,errW_some] <;> rfl),by repeat (first | (with_reducible first | exact HB.out | apply below_alloc | apply pw_below_drewN | apply below_drew1 | refine below_set ?_ GE112.out | refine below_set ?_ GE113.out) | exact HB.out)⟩
 ·
  rw [if_neg c3] at H
  have c3b0 : (a0_0 == a1_0) = false := beq_eq_false_iff_ne.mpr c3
  have c3b1 : (a0_0 != a1_0) = true := bne_iff_ne.mpr c3
  obtain rfl := Option.some.inj H
  go_enter Try.func6,Try.ntmps6
  go_wp2_with (first | ((with_reducible refine gate_dst (N := 2) rfl ?_); refine box_event ?hg (N := 2) ?hd (cs := #[.int .i64 a0_0,.int .i64 a0_1,.int .i64 a0_2,.int .u64 a0_3,.int .i64 a0_4,.int .i64 a0_5,.float .f64 a0_6,.string a0_7,.int .i64 a0_8,.int .i64 a0_9,.float .f64 a0_10,.string a0_11]) (t := 30) ?hr ?_; (case hd => rfl); (case hg => rfl); (case hr => first | (go_simp; done) | (go_simp; rfl)); intro gb112 hg w34 hbox hb; have n0_ := Aside0.mk (below_step (by repeat (first | (with_reducible first | exact HB.out | apply below_alloc | apply pw_below_drewN | apply below_drew1) | exact HB.out)) hb); have n1_ := Aside0.mk (hbox); have n2_ := Aside0.mk ((by rw [hg]; exact (below_size (by repeat (first | (with_reducible first | exact HB.out | apply below_alloc | apply pw_below_drewN | apply below_drew1) | exact HB.out))) : w.heap.size ≤ gb112)); have n3_ := Aside0.mk ((by rw [hg]; exact (below_size (by repeat (first | (with_reducible first | exact HB.out | apply below_alloc | apply pw_below_drewN | apply below_drew1) | exact HB.out))) : w.heap.size ≤ gb112)); clear HB; have HB := n0_; have BK112 := n1_; have GW112 := n2_; have GE112 := n3_; clear n0_ n1_ n2_ n3_; clear hb hbox hg) | ((with_reducible refine gate_dst (N := 3) rfl ?_); refine box_event ?hg (N := 3) ?hd (cs := #[.int .i64 a1_0,.int .i64 a1_1,.int .i64 a1_2,.int .u64 a1_3,.int .i64 a1_4,.int .i64 a1_5,.float .f64 a1_6,.string a1_7,.int .i64 a1_8,.int .i64 a1_9,.float .f64 a1_10,.string a1_11]) (t := 34) ?hr ?_; (case hd => rfl); (case hg => rfl); (case hr => first | (go_simp; done) | (go_simp; rfl)); intro gb113 hg w35 hbox hb; have n0_ := Aside0.mk (blk_below (g := gb112) (o := .cells #[.int .i64 a0_0,.int .i64 a0_1,.int .i64 a0_2,.int .u64 a0_3,.int .i64 a0_4,.int .i64 a0_5,.float .f64 a0_6,.string a0_7,.int .i64 a0_8,.int .i64 a0_9,.float .f64 a0_10,.string a0_11] 30 (0,0)) (by (with_reducible repeat (first | refine blk_drewN ?_ _ | refine blk_drew ?_ | refine blk_alloc ?_ _)); exact BK112.out) hb); have n1_ := Aside0.mk (below_step (by repeat (first | (with_reducible first | exact HB.out | apply below_alloc | apply pw_below_drewN | apply below_drew1 | refine below_set ?_ GE112.out) | exact HB.out)) hb); have n2_ := Aside0.mk (hbox); have n3_ := Aside0.mk ((by rw [hg]; exact (below_size (by repeat (first | (with_reducible first | exact HB.out | apply below_alloc | apply pw_below_drewN | apply below_drew1 | refine below_set ?_ GE112.out) | exact HB.out))) : w.heap.size ≤ gb113)); have n4_ := Aside0.mk ((by rw [hg]; exact (below_size (by repeat (first | (with_reducible first | exact HB.out | apply below_alloc | apply pw_below_drewN | apply below_drew1 | refine below_set ?_ GE112.out) | exact HB.out))) : w.heap.size ≤ gb113)); have n5_ := Aside0.mk ((by rw [hg]; exact Nat.ne_of_lt (blk_lt (g := gb112) (o := .cells #[.int .i64 a0_0,.int .i64 a0_1,.int .i64 a0_2,.int .u64 a0_3,.int .i64 a0_4,.int .i64 a0_5,.float .f64 a0_6,.string a0_7,.int .i64 a0_8,.int .i64 a0_9,.float .f64 a0_10,.string a0_11] 30 (0,0)) (by (with_reducible repeat (first | refine blk_drewN ?_ _ | refine blk_drew ?_ | refine blk_alloc ?_ _)); exact BK112.out)) : gb112 ≠ gb113)); have n6_ := Aside0.mk ((by rw [hg]; exact Nat.ne_of_gt (blk_lt (g := gb112) (o := .cells #[.int .i64 a0_0,.int .i64 a0_1,.int .i64 a0_2,.int .u64 a0_3,.int .i64 a0_4,.int .i64 a0_5,.float .f64 a0_6,.string a0_7,.int .i64 a0_8,.int .i64 a0_9,.float .f64 a0_10,.string a0_11] 30 (0,0)) (by (with_reducible repeat (first | refine blk_drewN ?_ _ | refine blk_drew ?_ | refine blk_alloc ?_ _)); exact BK112.out)) : gb113 ≠ gb112)); clear BK112; clear HB; have BK112 := n0_; have HB := n1_; have BK113 := n2_; have GW113 := n3_; have GE113 := n4_; have NB112_113 := n5_; have NB113_112 := n6_; clear n0_ n1_ n2_ n3_ n4_ n5_ n6_; clear hb hbox hg; have hnb36 := NB112_113.out; have hnc36 := NB113_112.out; have hcz37_0 : w35.cell? ⟨gb112,0,none⟩ = some (.int .i64 a0_0) := (blk_cell BK112.out 0).trans rfl; have hcz37_1 : w35.cell? ⟨gb112,1,none⟩ = some (.int .i64 a0_1) := (blk_cell BK112.out 1).trans rfl; have hcz37_2 : w35.cell? ⟨gb112,2,none⟩ = some (.int .i64 a0_2) := (blk_cell BK112.out 2).trans rfl; have hcz37_3 : w35.cell? ⟨gb112,3,none⟩ = some (.int .u64 a0_3) := (blk_cell BK112.out 3).trans rfl; have hcz37_4 : w35.cell? ⟨gb112,4,none⟩ = some (.int .i64 a0_4) := (blk_cell BK112.out 4).trans rfl; have hcz37_5 : w35.cell? ⟨gb112,5,none⟩ = some (.int .i64 a0_5) := (blk_cell BK112.out 5).trans rfl; have hcz37_6 : w35.cell? ⟨gb112,6,none⟩ = some (.float .f64 a0_6) := (blk_cell BK112.out 6).trans rfl; have hcz37_7 : w35.cell? ⟨gb112,7,none⟩ = some (.string a0_7) := (blk_cell BK112.out 7).trans rfl; have hcz37_8 : w35.cell? ⟨gb112,8,none⟩ = some (.int .i64 a0_8) := (blk_cell BK112.out 8).trans rfl; have hcz37_9 : w35.cell? ⟨gb112,9,none⟩ = some (.int .i64 a0_9) := (blk_cell BK112.out 9).trans rfl; have hcz37_10 : w35.cell? ⟨gb112,10,none⟩ = some (.float .f64 a0_10) := (blk_cell BK112.out 10).trans rfl; have hcz37_11 : w35.cell? ⟨gb112,11,none⟩ = some (.string a0_11) := (blk_cell BK112.out 11).trans rfl; have hfz37_0 := blk_frozen BK112.out 0; have hfz37_1 := blk_frozen BK112.out 1; have hfz37_2 := blk_frozen BK112.out 2; have hfz37_3 := blk_frozen BK112.out 3; have hfz37_4 := blk_frozen BK112.out 4; have hfz37_5 := blk_frozen BK112.out 5; have hfz37_6 := blk_frozen BK112.out 6; have hfz37_7 := blk_frozen BK112.out 7; have hfz37_8 := blk_frozen BK112.out 8; have hfz37_9 := blk_frozen BK112.out 9; have hfz37_10 := blk_frozen BK112.out 10; have hfz37_11 := blk_frozen BK112.out 11; have hcz38_0 : w35.cell? ⟨gb113,0,none⟩ = some (.int .i64 a1_0) := (blk_cell BK113.out 0).trans rfl; have hcz38_1 : w35.cell? ⟨gb113,1,none⟩ = some (.int .i64 a1_1) := (blk_cell BK113.out 1).trans rfl; have hcz38_2 : w35.cell? ⟨gb113,2,none⟩ = some (.int .i64 a1_2) := (blk_cell BK113.out 2).trans rfl; have hcz38_3 : w35.cell? ⟨gb113,3,none⟩ = some (.int .u64 a1_3) := (blk_cell BK113.out 3).trans rfl; have hcz38_4 : w35.cell? ⟨gb113,4,none⟩ = some (.int .i64 a1_4) := (blk_cell BK113.out 4).trans rfl; have hcz38_5 : w35.cell? ⟨gb113,5,none⟩ = some (.int .i64 a1_5) := (blk_cell BK113.out 5).trans rfl; have hcz38_6 : w35.cell? ⟨gb113,6,none⟩ = some (.float .f64 a1_6) := (blk_cell BK113.out 6).trans rfl; have hcz38_7 : w35.cell? ⟨gb113,7,none⟩ = some (.string a1_7) := (blk_cell BK113.out 7).trans rfl; have hcz38_8 : w35.cell? ⟨gb113,8,none⟩ = some (.int .i64 a1_8) := (blk_cell BK113.out 8).trans rfl; have hcz38_9 : w35.cell? ⟨gb113,9,none⟩ = some (.int .i64 a1_9) := (blk_cell BK113.out 9).trans rfl; have hcz38_10 : w35.cell? ⟨gb113,10,none⟩ = some (.float .f64 a1_10) := (blk_cell BK113.out 10).trans rfl; have hcz38_11 : w35.cell? ⟨gb113,11,none⟩ = some (.string a1_11) := (blk_cell BK113.out 11).trans rfl; have hfz38_0 := blk_frozen BK113.out 0; have hfz38_1 := blk_frozen BK113.out 1; have hfz38_2 := blk_frozen BK113.out 2; have hfz38_3 := blk_frozen BK113.out 3; have hfz38_4 := blk_frozen BK113.out 4; have hfz38_5 := blk_frozen BK113.out 5; have hfz38_6 := blk_frozen BK113.out 6; have hfz38_7 := blk_frozen BK113.out 7; have hfz38_8 := blk_frozen BK113.out 8; have hfz38_9 := blk_frozen BK113.out 9; have hfz38_10 := blk_frozen BK113.out 10; have hfz38_11 := blk_frozen BK113.out 11))
  go_ret
  exact ⟨by first | rfl | (simp [errW_none,errW_some] <;> rfl) | (simp [*,errW_none,errW_some] <;> rfl),by repeat (first | (with_reducible first | exact HB.out | apply below_alloc | apply pw_below_drewN | apply below_drew1 | refine below_set ?_ GE112.out | refine below_set ?_ GE113.out) | exact HB.out)⟩


-- NOT PRINTED: function 29 (math_Float64bits)

/-! ### math_Signbit: function 23 -/
def math_Signbit.f (a0 : Nat) : Option (Bool) := some (decide ((wrap64 (fbits a0)) < 0))
set_option maxHeartbeats 8000000 in
set_option maxRecDepth 100000 in
theorem math_Signbit.calls (a0 : Nat) (r : Bool) (w : World) (h : math_Signbit.f a0 = some r) :
    Calls Try.prog 23 #[.float .f64 a0] w fun e w' => e = .returned (.bool r) ∧ Drawn0 w w' := by
  have H : (some (decide ((wrap64 (fbits a0)) < 0))) = some r := h
  clear h
  obtain rfl := Option.some.inj H
  go_enter Try.func23, Try.ntmps23
  go_wp2
  go_ret
  exact ⟨by first | rfl | (simp; done) | (simp [*]; done), by repeat (first | exact Drawn0.refl _ | apply Drawn0.step)⟩

/-! ### colonnaderef05_plus: function 22 -/
def colonnaderef05_plus.f (a0 : Nat) : Option (Bool) := if (feq a0 0) = true then ((math_Signbit.f a0).bind fun t116 => (some (!t116))) else (some false)
set_option maxHeartbeats 8000000 in
set_option maxRecDepth 100000 in
theorem colonnaderef05_plus.calls (a0 : Nat) (r : Bool) (w : World) (h : colonnaderef05_plus.f a0 = some r) :
    Calls Try.prog 22 #[.float .f64 a0] w fun e w' => e = .returned (.bool r) ∧ Drawn0 w w' := by
  have H : (if (feq a0 0) = true then ((math_Signbit.f a0).bind fun t116 => (some (!t116))) else (some false)) = some r := h
  clear h
  by_cases c2 : (feq a0 0) = true
  · rw [if_pos c2] at H
    have c2b0 : (feq a0 0) = true := c2
    clear c2
    replace H := Option.bind_eq_some_iff.mp H
    obtain ⟨t116, A30, H⟩ := H
    replace H : (some (!t116)) = some r := H
    have A3 := Aside0.mk A30
    clear A30
    obtain rfl := Option.some.inj H
    go_enter Try.func22, Try.ntmps22
    go_wp2_with (first | (go_at_call 23; (with_reducible refine (math_Signbit.calls a0 t116 _ A3.out).mono ?_); rintro e w' ⟨rfl, ⟨nd, rfl⟩⟩))
    go_ret
    exact ⟨by first | rfl | (simp; done) | (simp [*]; done), by repeat (first | exact Drawn0.refl _ | apply Drawn0.step)⟩
  · rw [if_neg c2] at H
    have c2b0 : (feq a0 0) = false := by simpa using c2
    clear c2
    obtain rfl := Option.some.inj H
    go_enter Try.func22, Try.ntmps22
    go_wp2
    go_ret
    exact ⟨by first | rfl | (simp; done) | (simp [*]; done), by repeat (first | exact Drawn0.refl _ | apply Drawn0.step)⟩

/-! ### math_IsNaN: function 24 -/
def math_IsNaN.f (a0 : Nat) : Option (Bool) := some (fne a0 a0)
set_option maxHeartbeats 8000000 in
set_option maxRecDepth 100000 in
theorem math_IsNaN.calls (a0 : Nat) (r : Bool) (w : World) (h : math_IsNaN.f a0 = some r) :
    Calls Try.prog 24 #[.float .f64 a0] w fun e w' => e = .returned (.bool r) ∧ Drawn0 w w' := by
  have H : (some (fne a0 a0)) = some r := h
  clear h
  obtain rfl := Option.some.inj H
  go_enter Try.func24, Try.ntmps24
  go_wp2
  go_ret
  exact ⟨by first | rfl | (simp; done) | (simp [*]; done), by repeat (first | exact Drawn0.refl _ | apply Drawn0.step)⟩

-- NOT PRINTED: function 39 (math_Float64frombits)

/-! ### math_Abs: function 28 -/
def math_Abs.f (a0 : Nat) : Option (Nat) := some (ffrom (Go.bits .andNot .u64 (fbits a0) 9223372036854775808))
set_option maxHeartbeats 8000000 in
set_option maxRecDepth 100000 in
theorem math_Abs.calls (a0 : Nat) (r : Nat) (w : World) (h : math_Abs.f a0 = some r) :
    Calls Try.prog 28 #[.float .f64 a0] w fun e w' => e = .returned (.float .f64 r) ∧ Drawn0 w w' := by
  have H : (some (ffrom (Go.bits .andNot .u64 (fbits a0) 9223372036854775808))) = some r := h
  clear h
  obtain rfl := Option.some.inj H
  go_enter Try.func28, Try.ntmps28
  go_wp2
  go_ret
  exact ⟨by first | rfl | (simp; done) | (simp [*]; done), by repeat (first | exact Drawn0.refl _ | apply Drawn0.step)⟩

/-! ### math_IsInf: function 25 -/
def math_IsInf.f (a0 : Nat) (a1 : Int) : Option (Bool) := if a1 = 0 then ((math_Abs.f a0).bind fun t117 => (some (fgt t117 9218868437227405311))) else (if a1 < 0 then (some (fgt (fneg a0) 9218868437227405311)) else (some (fgt a0 9218868437227405311)))
set_option maxHeartbeats 8000000 in
set_option maxRecDepth 100000 in
theorem math_IsInf.calls (a0 : Nat) (a1 : Int) (r : Bool) (w : World) (h : math_IsInf.f a0 a1 = some r) :
    Calls Try.prog 25 #[.float .f64 a0, .int .i64 a1] w fun e w' => e = .returned (.bool r) ∧ Drawn0 w w' := by
  have H : (if a1 = 0 then ((math_Abs.f a0).bind fun t117 => (some (fgt t117 9218868437227405311))) else (if a1 < 0 then (some (fgt (fneg a0) 9218868437227405311)) else (some (fgt a0 9218868437227405311)))) = some r := h
  clear h
  by_cases c3 : a1 = 0
  · rw [if_pos c3] at H
    have c3b0 : (a1 == 0) = true := beq_iff_eq.mpr c3
    have c3b1 : (a1 != 0) = false := bne_eq_false_iff_eq.mpr c3
    clear c3
    replace H := Option.bind_eq_some_iff.mp H
    obtain ⟨t117, A40, H⟩ := H
    replace H : (some (fgt t117 9218868437227405311)) = some r := H
    have A4 := Aside0.mk A40
    clear A40
    obtain rfl := Option.some.inj H
    go_enter Try.func25, Try.ntmps25
    go_wp2_with (first | ((with_reducible refine gate_callee (f := 28) rfl ?_); refine goesL_ (some 8) rfl rfl Try.func28 (by kernel_rfl) rfl #[.float .f64 a0] rfl (by (try simp only [List.map_toArray, List.map_cons, List.map_nil]); first | done | rfl | (simp only [List.length_drop, List.length_take]; rfl)) ?_; (with_reducible refine (math_Abs.calls a0 t117 _ A4.out).mono ?_); rintro e w' ⟨rfl, ⟨nd, rfl⟩⟩; refine ⟨_, rfl, ?_⟩))
    go_ret
    exact ⟨by first | rfl | (simp; done) | (simp [*]; done), by repeat (first | exact Drawn0.refl _ | apply Drawn0.step)⟩
  · rw [if_neg c3] at H
    have c3b0 : (a1 == 0) = false := beq_eq_false_iff_ne.mpr c3
    have c3b1 : (a1 != 0) = true := bne_iff_ne.mpr c3
    by_cases c5 : a1 < 0
    · rw [if_pos c5] at H
      have c5b0 : decide (a1 < 0) = true := decide_eq_true c5
      clear c5
      obtain rfl := Option.some.inj H
      go_enter Try.func25, Try.ntmps25
      go_wp2
      go_ret
      exact ⟨by first | rfl | (simp; done) | (simp [*]; done), by repeat (first | exact Drawn0.refl _ | apply Drawn0.step)⟩
    · rw [if_neg c5] at H
      have c5b0 : decide (a1 < 0) = false := decide_eq_false c5
      clear c5
      obtain rfl := Option.some.inj H
      go_enter Try.func25, Try.ntmps25
      go_wp2
      go_ret
      exact ⟨by first | rfl | (simp; done) | (simp [*]; done), by repeat (first | exact Drawn0.refl _ | apply Drawn0.step)⟩

end Go.Proofs.Ytgpkjdjjjenhcaa.Q
