/- Contracts by hand: the range over a set of no members, and what AggNames makes of it. -/
import Derived.Test.YtgpkjdjjjenhcaaDoorNm1
import Derived.RangeFuncNested
import Derived.RangeFuncBound
import Derived.RangeFuncCalls
import Derived.RangeFuncLeaves
import Derived.Shelf.Abstract
import Derived.Shelf.RegionOpen
import Derived.WalkKit
import Derived.OwnWalkIn
import Derived.TacticsInMore
import Derived.LoopNIn
import Derived.LoopIn
namespace Go.Proofs.YtgpkjdjjjenhcaaDoor.Nm
open Go.RowKit Go.Shelf Go.Proofs.YtgpkjdjjjenhcaaDoor.Hd
attribute [local go_sem] Oper.semAt_some
set_option linter.unusedVariables false
set_option linter.unusedSimpArgs false
set_option maxRecDepth 100000
set_option maxHeartbeats 2000000

theorem grown_of_below {w w' : World} (h : Below w.heap.size w w') : w.grownBy w' none := ⟨h.os, h.tape, h.output, h.size, fun k hk _ => h.block k hk⟩

/-- The iterator of a set of no members. -/
theorem all1_stops (B b : Nat) (w : World) (hB : w.cell? ⟨B, 0, none⟩ = some (.pointer (some ⟨b, 0, none⟩))) (h : Empty w b) :
    SeqStopsK Fence.wide 4 Tryd.prog 36 #[.pointer (some ⟨B, 0, none⟩)] (fun x : Int => #[.int .i64 x]) (fun _ _ => True) (fun xs => xs = []) (fun _ => False) 0 w := by
  intro l J Jx W hW hJ _ _ h0
  have hBl : B < w.heap.size := World.block_lt_of_cell? w _ hB
  have hB' : W.cell? ⟨B, 0, none⟩ = some (.pointer (some ⟨b, 0, none⟩)) := (hW.cell (p := ⟨B, 0, none⟩) hBl).trans hB
  obtain ⟨a, h⟩ := h
  have h' : Empty W b := ⟨a, blk_below h hW⟩
  refine callsIn_of_wp Tryd.func36 rfl trivial ?_ rfl
  simp only [Tryd.ntmps36, List.size_toArray, List.length_cons, List.length_nil, Nat.reduceAdd, Nat.reduceSub, Array.replicate_succ, Array.replicate_zero, List.push_toArray, List.append_toArray, List.nil_append, List.cons_append]
  gi_wp2_with fail
  refine ⟨trivial, (callsIn_wide.2 (words0 W b h')).mono ?_⟩
  rintro e W2 ⟨⟨a', rfl⟩, hb2⟩
  gi_wp2_with fail
  refine wpIn_loop_once ?_
  gi_wp2_with fail
  go_end0
  exact ⟨⟨_, rfl⟩, .inl ⟨[], rfl, hJ [] W W2 none h0 (grown_of_below hb2) (fun r e => by cases e)⟩⟩

theorem appendSeq0 (B b : Nat) (w : World) (hB : w.cell? ⟨B, 0, none⟩ = some (.pointer (some ⟨b, 0, none⟩))) (h : Empty w b) :
    Calls Tryd.prog 61 #[.slice none 0 0, .func (.func 36) #[] #[.pointer (some ⟨B, 0, none⟩)]] w fun e w' => e = .returned (.slice none 0 0) ∧ Below w.heap.size w w' := by
  refine (callsIn_wide (n := 5)).1 ?_
  refine callsIn_of_wp_marks Tryd.func61 rfl trivial ?_ rfl
  simp only [Tryd.ntmps61, List.size_toArray, List.length_cons, List.length_nil, Nat.reduceAdd, Nat.reduceSub, Array.replicate_succ, Array.replicate_zero, List.push_toArray, List.append_toArray, List.nil_append, List.cons_append]
  gi_wp2_with fail
  have hs := blk_new w (.cells #[.slice none 0 0] 78)
  have hB1 : (w.alloc (.cells #[.slice none 0 0] 78)).cell? ⟨B, 0, none⟩ = some (.pointer (some ⟨b, 0, none⟩)) := ((bl1 _).cell (p := ⟨B, 0, none⟩) (World.block_lt_of_cell? w _ hB)).trans hB
  obtain ⟨a, h⟩ := h
  have h1 : Empty (w.alloc (.cells #[.slice none 0 0] 78)) b := ⟨a, blk_alloc h _⟩
  have hc := (blk_cell hs 0).trans rfl
  refine wpIn_rangeFunc_ownF rfl (by omega) (gf := 36) (lb := #[.pointer (some ⟨B, 0, none⟩)]) rfl trivial (enters_of Tryd.func36 (by kernel_rfl) rfl)
    (all1_stops B b _ hB1 h1) (fun _ _ => trivial) (fun _ _ _ _ _ _ _ _ => trivial) (Below.refl _ _) (fun _ => rfl)
    (fun _ W => W.cell? ⟨w.heap.size, 0, none⟩ = some (.slice none 0 0) ∧ Below w.heap.size w W) (fun _ _ _ => False)
    (OwnFrom.and (Own.from (fun s A B row hs hg hr => cell_kept hs hg hr) _) (ownFrom_below (Nat.le_refl _) (by simp)))
    (fun _ _ _ _ _ hs _ _ => hs) ⟨hc, bl1 _⟩ (fun x => { tmps := #[.slice none 0 0, .func (.func 36) #[] #[.pointer (some ⟨B, 0, none⟩)], .pointer (some ⟨w.heap.size, 0, none⟩), undef, .slice none 0 0, .int .i64 x, .func (.func 36) #[] #[.pointer (some ⟨B, 0, none⟩)], .int .i64 x, undef, undef, undef, undef, undef], defers := [] }) ?assign ?body ?done ?stop
  case assign =>
    intro l x W K hK
    gi_wp2
    exact hK
  case body => exact fun l pre x W _ h => absurd h (Nat.not_lt_zero _)
  case done =>
    rintro D xs W hD rfl ⟨hc, hB⟩ hK
    gi_wp2_with fail
    refine ⟨by simp, .inl ⟨_, _, rfl, run_takeDeferred hK, ?_⟩⟩
    exact ⟨_, results_tmp rfl _ _ _, rfl, hB.trans (belowK_b (w := w) (Nat.le_refl _) W D _ _ (by simp at hD; omega) hK rfl rfl)⟩
  case stop => exact fun _ _ _ _ _ h => h.elim
theorem collect0 (B b : Nat) (w : World) (hB : w.cell? ⟨B, 0, none⟩ = some (.pointer (some ⟨b, 0, none⟩))) (h : Empty w b) :
    Calls Tryd.prog 50 #[.func (.func 36) #[] #[.pointer (some ⟨B, 0, none⟩)]] w fun e w' => e = .returned (.slice none 0 0) ∧ Below w.heap.size w w' := by
  go_enter Tryd.func50, Tryd.ntmps50
  go_wp2_with fail
  refine (appendSeq0 B b w hB h).mono ?_
  rintro e w' ⟨rfl, hb⟩
  go_wp2_with fail
  go_ret
  exact ⟨rfl, hb⟩
/-- No members: a list of none. -/
theorem own0 (b : Nat) (w : World) (h : Empty w b) : Calls Tryd.prog 30 #[.pointer (some ⟨b, 0, none⟩)] w fun e w' => e = .returned (.iface 118 (.agg #[.int .i64 0, .slice none 0 0])) ∧ Below w.heap.size w w' := by
  have H := h
  go_enter Tryd.func30, Tryd.ntmps30
  go_wp2_with fail
  refine (count0 _ b h).mono ?_
  rintro e w1 ⟨rfl, rfl⟩
  go_wp2_with fail
  refine (setLen _ b h).mono ?_
  rintro e w' ⟨rfl, rfl⟩
  go_wp2_with fail
  refine (few _).mono ?_
  rintro e w' ⟨rfl, rfl⟩
  go_wp2_with fail
  refine (setLen _ b h).mono ?_
  rintro e w' ⟨rfl, rfl⟩
  go_wp2_with fail
  refine (setAll _ _).mono ?_
  rintro e w' ⟨rfl, rfl⟩
  go_wp2_with fail
  refine (collect0 _ b _ ((blk_cell (blk_new _ _) 0).trans rfl) ?_).mono ?_
  · obtain ⟨a, h⟩ := h
    exact ⟨a, blk_alloc h _⟩
  rintro e w2 ⟨rfl, hb⟩
  go_wp2_with fail
  go_ret
  exact ⟨rfl, below_step (bl1 _) hb⟩
theorem make0_ (b : Nat) (w : World) (h : Empty w b) : Calls Tryd.prog 13 #[.pointer (some ⟨b, 0, none⟩)] w fun e w' => e = .returned (.iface 118 (.agg #[.int .i64 0, .slice none 0 0])) ∧ Below w.heap.size w w' := by
  go_enter Tryd.func13, Tryd.ntmps13
  go_wp2_with fail
  refine (setClone _ b h).mono ?_
  rintro e w1 ⟨b', rfl, h1, hb1⟩
  go_wp2_with fail
  refine (own0 b' _ h1).mono ?_
  rintro e w2 ⟨rfl, hb2⟩
  go_wp2_with fail
  go_ret
  exact ⟨rfl, below_step hb1 hb2⟩
theorem selNone (w : World) : Calls Tryd.prog 5 #[.int .i64 0] w fun e w' => e = .returned (.iface 118 (.agg #[.int .i64 0, .slice none 0 0])) ∧ Below w.heap.size w w' := by
  go_enter Tryd.func5, Tryd.ntmps5
  go_wp2_with fail
  refine (bitsNew _).mono ?_
  rintro e w1 ⟨b', rfl, -, h1, hb1⟩
  go_wp2_with fail
  refine (make0_ b' _ h1).mono ?_
  rintro e w2 ⟨rfl, hb2⟩
  go_wp2_with fail
  go_ret
  exact ⟨rfl, below_step hb1 hb2⟩
/-- Fold of no chunk. -/
theorem fold_none (s : Value) (w : World) : Calls Tryd.prog 4 #[.pointer none, s] w fun e w' => e = .returned (.tuple #[zst, .int .i64 1]) ∧ Below w.heap.size w w' := by
  go_enter Tryd.func4, Tryd.ntmps4
  go_wp2_with fail
  refine (nulls_none _).mono ?_
  rintro e w1 ⟨rfl, rfl⟩
  go_wp2_with fail
  refine bodyPost_ret (v := .tuple #[zst, .int .i64 1]) ?_ rfl ⟨rfl, bl1 _⟩
  exact results_ct (fn := Tryd.f4) (p := 4) (u := 5) rfl _ _ w.heap.size 38 #[.int .i64 0, .int .i64 0, .int .i64 0, .int .u64 0, .int .i64 0, .int .i64 0, .float .f64 0, .string ⟨#[]⟩, .int .i64 0, .int .i64 0, .float .f64 0, .string ⟨#[]⟩] (0, 0) _ rfl (blk_new w (.cells #[.int .i64 0, .int .i64 0, .int .i64 0, .int .u64 0, .int .i64 0, .int .i64 0, .float .f64 0, .string ⟨#[]⟩, .int .i64 0, .int .i64 0, .float .f64 0, .string ⟨#[]⟩] 38)) Tryd.underlying38 rfl (by kernel_rfl)
theorem fold_zero (s : Value) (w : World) (g : Nat) (h : w.cell? ⟨g, 6, none⟩ = some .nilIface) : Calls Tryd.prog 4 #[.pointer (some ⟨g, 0, none⟩), s] w fun e w' => e = .returned (.tuple #[zst, .int .i64 1]) ∧ Below w.heap.size w w' := by
  have h' : (w.alloc (.cells #[.int .i64 0, .int .i64 0, .int .i64 0, .int .u64 0, .int .i64 0, .int .i64 0, .float .f64 0, .string ⟨#[]⟩, .int .i64 0, .int .i64 0, .float .f64 0, .string ⟨#[]⟩] 38)).cell? ⟨g, 6, none⟩ = some .nilIface := ((bl1 _).cell (p := ⟨g, 6, none⟩) (World.block_lt_of_cell? w _ h)).trans h
  go_enter Tryd.func4, Tryd.ntmps4
  go_wp2_with fail
  refine (nulls_zero _ g h').mono ?_
  rintro e w1 ⟨rfl, rfl⟩
  go_wp2_with fail
  refine bodyPost_ret (v := .tuple #[zst, .int .i64 1]) ?_ rfl ⟨rfl, bl1 _⟩
  exact results_ct (fn := Tryd.f4) (p := 4) (u := 5) rfl _ _ w.heap.size 38 #[.int .i64 0, .int .i64 0, .int .i64 0, .int .u64 0, .int .i64 0, .int .i64 0, .float .f64 0, .string ⟨#[]⟩, .int .i64 0, .int .i64 0, .float .f64 0, .string ⟨#[]⟩] (0, 0) _ rfl (blk_new w (.cells #[.int .i64 0, .int .i64 0, .int .i64 0, .int .u64 0, .int .i64 0, .int .i64 0, .float .f64 0, .string ⟨#[]⟩, .int .i64 0, .int .i64 0, .float .f64 0, .string ⟨#[]⟩] 38)) Tryd.underlying38 rfl (by kernel_rfl)
/-- A state of nothing in memory, cell by cell. -/
theorem zcells {w : World} {g : Nat} (h : w.heap[g]? = some (.cells #[.int .i64 0, .int .i64 0, .int .i64 0, .int .u64 0, .int .i64 0, .int .i64 0, .float .f64 0, .string ⟨#[]⟩, .int .i64 0, .int .i64 0, .float .f64 0, .string ⟨#[]⟩] 38)) : w.cell? ⟨g, 0, none⟩ = some (.int .i64 0) ∧ w.cell? ⟨g, 1, none⟩ = some (.int .i64 0) ∧ w.cell? ⟨g, 2, none⟩ = some (.int .i64 0) ∧ w.cell? ⟨g, 3, none⟩ = some (.int .u64 0) ∧ w.cell? ⟨g, 4, none⟩ = some (.int .i64 0) ∧ w.cell? ⟨g, 5, none⟩ = some (.int .i64 0) ∧ w.cell? ⟨g, 6, none⟩ = some (.float .f64 0) ∧ w.cell? ⟨g, 7, none⟩ = some (.string ⟨#[]⟩) ∧ w.cell? ⟨g, 8, none⟩ = some (.int .i64 0) ∧ w.cell? ⟨g, 9, none⟩ = some (.int .i64 0) ∧ w.cell? ⟨g, 10, none⟩ = some (.float .f64 0) ∧ w.cell? ⟨g, 11, none⟩ = some (.string ⟨#[]⟩) := by
  refine ⟨(blk_cell h 0).trans rfl, (blk_cell h 1).trans rfl, (blk_cell h 2).trans rfl, (blk_cell h 3).trans rfl, (blk_cell h 4).trans rfl, (blk_cell h 5).trans rfl, (blk_cell h 6).trans rfl, (blk_cell h 7).trans rfl, (blk_cell h 8).trans rfl, (blk_cell h 9).trans rfl, (blk_cell h 10).trans rfl, (blk_cell h 11).trans rfl⟩
/-- The law. -/
theorem aggNames (w : World) : Calls Tryd.prog 3 #[] w fun e w' => e = .returned (.bool true) ∧ Below w.heap.size w w' := by
  have hz := eqz
  go_enter Tryd.func3, Tryd.ntmps3
  go_wp2_with fail
  refine (selNone _).mono ?_
  rintro e w1 ⟨rfl, hb1⟩
  go_wp2_with fail
  refine (fold_none _ _).mono ?_
  rintro e w2 ⟨rfl, hb2⟩
  go_wp2_with fail
  refine (selNone _).mono ?_
  rintro e w3 ⟨rfl, hb3⟩
  go_wp2_with fail
  have hZ2 : w3.heap[w2.heap.size]? = some (.cells #[.int .i64 0, .int .i64 0, .int .i64 0, .int .u64 0, .int .i64 0, .int .i64 0, .float .f64 0, .string ⟨#[]⟩, .int .i64 0, .int .i64 0, .float .f64 0, .string ⟨#[]⟩] 38) := blk_below (blk_new w2 (.cells #[.int .i64 0, .int .i64 0, .int .i64 0, .int .u64 0, .int .i64 0, .int .i64 0, .float .f64 0, .string ⟨#[]⟩, .int .i64 0, .int .i64 0, .float .f64 0, .string ⟨#[]⟩] 38)) hb3
  have hZ1 : w3.cell? ⟨w.heap.size, 6, none⟩ = some .nilIface := by
    have h1 : w1.heap[w.heap.size]? = _ := blk_below (blk_new w _) hb1
    have h2 := blk_below (blk_alloc (blk_below h1 hb2) (.cells #[.int .i64 0, .int .i64 0, .int .i64 0, .int .u64 0, .int .i64 0, .int .i64 0, .float .f64 0, .string ⟨#[]⟩, .int .i64 0, .int .i64 0, .float .f64 0, .string ⟨#[]⟩] 38)) hb3
    exact (blk_cell h2 6).trans rfl
  refine (fold_zero _ _ _ hZ1).mono ?_
  rintro e w4 ⟨rfl, hb4⟩
  go_wp2_with fail
  refine (fold_none _ _).mono ?_
  rintro e w5 ⟨rfl, hb5⟩
  go_wp2_with fail
  refine (none_ _).mono ?_
  rintro e w6 ⟨rfl, hb6⟩
  have hZ4 : w5.heap[w4.heap.size]? = some (.cells #[.int .i64 0, .int .i64 0, .int .i64 0, .int .u64 0, .int .i64 0, .int .i64 0, .float .f64 0, .string ⟨#[]⟩, .int .i64 0, .int .i64 0, .float .f64 0, .string ⟨#[]⟩] 38) := blk_below (blk_new w4 (.cells #[.int .i64 0, .int .i64 0, .int .i64 0, .int .u64 0, .int .i64 0, .int .i64 0, .float .f64 0, .string ⟨#[]⟩, .int .i64 0, .int .i64 0, .float .f64 0, .string ⟨#[]⟩] 38)) hb5
  obtain ⟨x0, x1, x2, x3, x4, x5, x6, x7, x8, x9, x10, x11⟩ := zcells (blk_below (blk_alloc (blk_below (blk_alloc (blk_below hZ2 hb4) (.cells #[.int .i64 0, .int .i64 0, .int .i64 0, .int .u64 0, .int .i64 0, .int .i64 0, .float .f64 0, .string ⟨#[]⟩, .int .i64 0, .int .i64 0, .float .f64 0, .string ⟨#[]⟩] 38)) hb5) (.cells #[.int .i64 0, .int .i64 0, .int .i64 0, .int .u64 0, .int .i64 0, .int .i64 0, .float .f64 0, .string ⟨#[]⟩, .int .i64 0, .int .i64 0, .float .f64 0, .string ⟨#[]⟩] 38)) hb6)
  obtain ⟨y0, y1, y2, y3, y4, y5, y6, y7, y8, y9, y10, y11⟩ := zcells (blk_below (blk_alloc hZ4 (.cells #[.int .i64 0, .int .i64 0, .int .i64 0, .int .u64 0, .int .i64 0, .int .i64 0, .float .f64 0, .string ⟨#[]⟩, .int .i64 0, .int .i64 0, .float .f64 0, .string ⟨#[]⟩] 38)) hb6)
  obtain ⟨z0, z1, z2, z3, z4, z5, z6, z7, z8, z9, z10, z11⟩ := zcells (blk_below (blk_new w5 (.cells #[.int .i64 0, .int .i64 0, .int .i64 0, .int .u64 0, .int .i64 0, .int .i64 0, .float .f64 0, .string ⟨#[]⟩, .int .i64 0, .int .i64 0, .float .f64 0, .string ⟨#[]⟩] 38)) hb6)
  go_wp2_with fail
  refine (merge_ _).mono ?_
  rintro e w7 ⟨rfl, hb7⟩
  go_wp2_with fail
  go_ret
  have s2 := below_step (below_step (bl1 _) hb1) hb2
  have s4 := below_step (below_step (s2.alloc s2.size _) hb3) hb4
  have s5 := below_step (s4.alloc s4.size _) hb5
  exact ⟨rfl, below_step (below_step (s5.alloc s5.size _) hb6) hb7⟩
end Go.Proofs.YtgpkjdjjjenhcaaDoor.Nm
