/- Contracts by hand: the least functions that AggNames comes to. -/
import Derived.Test.YtgpkjdjjjenhcaaDoorHd
namespace Go.Proofs.YtgpkjdjjjenhcaaDoor.Nm
open Go.RowKit Go.Proofs.YtgpkjdjjjenhcaaDoor.Hd
set_option linter.unusedVariables false
set_option linter.unusedSimpArgs false
set_option maxRecDepth 100000
set_option maxHeartbeats 2000000

@[go_sem] theorem run_store_float {P : Program} (w : World) (a : Addr) (m : Mode) (k : FloatKind) (b : Nat) : (store a (.float k b) m).run P w = stored P w a (.float k b) m := run_store P w a _ m rfl
@[reducible] def zst : Value := .agg #[.int .i64 0, .int .i64 0, .int .i64 0, .int .u64 0, .int .i64 0, .int .i64 0, .float .f64 0, .string ⟨#[]⟩, .int .i64 0, .int .i64 0, .float .f64 0, .string ⟨#[]⟩]
theorem eqz (w : World) : (binOp .eql 38 zst zst).run Tryd.prog w = .ok (.bool true) w := by kernel_rfl

/-- A set of no members, in memory. -/
def Empty (w : World) (b : Nat) : Prop := ∃ a, w.heap[b]? = some (.cells #[.int .i64 0, .slice (some a) 0 0] 61 (0, 0))

theorem info64 : (Tryd.prog.info? 31).map (fun i => (i.zero, i.size, i.bytes)) = some (some (.int .u64 0), 1, 8) := by kernel_rfl
theorem make0 (w : World) : (Instr.makeSlice 59 (.int .i64 0) (.int .i64 0)).run Tryd.prog w = .ok (.slice (some ⟨w.heap.size, 0, none⟩) 0 0) (w.alloc (.cells #[] 31)) := by
  obtain ⟨i, hi, he⟩ := Option.map_eq_some_iff.1 info64
  simp only [Prod.mk.injEq] at he
  obtain ⟨hz, hs, hb⟩ := he
  have h := run_makeSlice (P := Tryd.prog) w 59 31 i _ Tryd.underlying59 hi hz .i64 .i64 0 0 (by omega) (by omega) (by simp) (by simp) (by omega)
  simpa [madeCells, Array.range_zero'] using h
theorem sliceNil (w : World) (a : Addr) (n c : Nat) : (binOp .eql 59 (.slice (some a) n c) (.slice none 0 0)).run Tryd.prog w = .ok (.bool false) w :=
  Lib.run_eql_slice_nil w _ _ (some a) n c 0 0 Tryd.underlying59
theorem append0 (w : World) (a b : Addr) : (Builtin.append_ #[59, 59] 59 #[.slice (some a) 0 0, .slice (some b) 0 0]).run Tryd.prog w = .ok (.slice (some a) 0 0) w := by
  obtain ⟨i, hi, he⟩ := Option.map_eq_some_iff.1 info64
  simp only [Prod.mk.injEq] at he
  exact run_append_nothing w _ _ _ _ i Tryd.underlying59 hi (some a) 0 0 (Nat.le_refl _) _ (Src.ofSlice w Tryd.underlying59 b 0 0 [] (by simp) (by simp) (by simp))

theorem words (w : World) : Calls Tryd.prog 31 #[.int .i64 0] w fun e w' => e = .returned (.int .i64 0) ∧ w' = w := by
  go_enter Tryd.func31, Tryd.ntmps31
  go_wp2
  go_ret
  exact ⟨rfl, rfl⟩
theorem bitsNew (w : World) : Calls Tryd.prog 14 #[.int .i64 0] w fun e w' => ∃ b, e = .returned (.pointer (some ⟨b, 0, none⟩)) ∧ w.heap.size ≤ b ∧ Empty w' b ∧ Below w.heap.size w w' := by
  go_enter Tryd.func14, Tryd.ntmps14
  go_wp2_with fail
  refine (words _).mono ?_
  rintro e w' ⟨rfl, rfl⟩
  have hm := make0
  go_wp2_with fail
  go_ret
  exact ⟨_, rfl, by omega, ⟨_, by simpa using blk_new (w'.alloc _) _⟩, (bl1 _).alloc (by simp) _⟩
theorem setLen (w : World) (b : Nat) (h : Empty w b) : Calls Tryd.prog 9 #[.pointer (some ⟨b, 0, none⟩)] w fun e w' => e = .returned (.int .i64 0) ∧ w' = w := by
  obtain ⟨a, h⟩ := h
  have h0 := (blk_cell h 0).trans rfl
  go_enter Tryd.func9, Tryd.ntmps9
  go_wp2
  go_ret
  exact ⟨rfl, rfl⟩
theorem few (w : World) : Calls Tryd.prog 49 #[.int .i64 0, .int .i64 0] w fun e w' => e = .returned (.bool true) ∧ w' = w := by
  go_enter Tryd.func49, Tryd.ntmps49
  go_wp2
  go_ret
  exact ⟨rfl, rfl⟩
theorem clone64 (w : World) (a : Addr) : Calls Tryd.prog 35 #[.slice (some a) 0 0] w fun e w' => (∃ a', e = .returned (.slice (some a') 0 0)) ∧ Below w.heap.size w w' := by
  have h0 := sliceNil
  have h1 := append0
  go_enter Tryd.func35, Tryd.ntmps35
  go_wp2_with fail
  go_ret
  exact ⟨⟨_, rfl⟩, bl1 _⟩
theorem setClone (w : World) (b : Nat) (h : Empty w b) : Calls Tryd.prog 18 #[.pointer (some ⟨b, 0, none⟩)] w fun e w' => ∃ b', e = .returned (.pointer (some ⟨b', 0, none⟩)) ∧ Empty w' b' ∧ Below w.heap.size w w' := by
  obtain ⟨a, h⟩ := h
  have h0 : w.cell? ⟨b, 0, none⟩ = some (.int .i64 0) := (blk_cell h 0).trans rfl
  have h1 : w.cell? ⟨b, 1, none⟩ = some (.slice (some a) 0 0) := (blk_cell h 1).trans rfl
  have hb := blk_lt h
  have key : ∀ w', Below w.heap.size w w' → w'.cell? ⟨b, 0, none⟩ = some (.int .i64 0) ∧ w'.cell? ⟨b, 1, none⟩ = some (.slice (some a) 0 0) ∧ Below w.heap.size w w' := fun w' hB => ⟨(hB.cell hb).trans h0, (hB.cell hb).trans h1, hB⟩
  have KEY := Aside0.mk key
  have KEY2 := Aside0.mk (fun (w1 w2 : World) (h1 : w1.cell? ⟨b, 0, none⟩ = some (.int .i64 0) ∧ w1.cell? ⟨b, 1, none⟩ = some (.slice (some a) 0 0) ∧ Below w.heap.size w w1) (h2 : Below w1.heap.size w1 w2) => key w2 (below_step h1.2.2 h2))
  clear key h
  go_enter Tryd.func18, Tryd.ntmps18
  go_upto_region 3 with (fail)
  go_region_held3 (fun w' => w'.cell? ⟨b, 0, none⟩ = some (.int .i64 0) ∧ w'.cell? ⟨b, 1, none⟩ = some (.slice (some a) 0 0) ∧ Below w.heap.size w w') (first | exact KEY.out _ (Below.refl _ _).drew | assumption | exact KEY2.out _ _ (by assumption) hb2 | exact KEY2.out _ _ (by assumption) (bl1 _)) (first | (go_at_call 35; refine (clone64 _ _).mono ?_; rintro e w2 ⟨⟨a', rfl⟩, hb2⟩))
  rename_i hS
  obtain ⟨-, -, hB⟩ := hS
  go_wp2_with fail
  go_ret
  exact ⟨_, rfl, ⟨_, blk_new w2 _⟩, hB⟩
theorem there_nil (w : World) : Calls Tryd.prog 17 #[.pointer none] w fun e w' => e = .returned (.bool false) ∧ w' = w := by
  go_enter Tryd.func17, Tryd.ntmps17
  go_wp2
  go_ret
  exact ⟨rfl, rfl⟩
/-- No chunk, and a chunk of nothing. -/
theorem there_zero (w : World) (g : Nat) (h : w.cell? ⟨g, 6, none⟩ = some .nilIface) : Calls Tryd.prog 17 #[.pointer (some ⟨g, 0, none⟩)] w fun e w' => e = .returned (.bool false) ∧ w' = w := by
  go_enter Tryd.func17, Tryd.ntmps17
  go_wp2
  go_ret
  exact ⟨rfl, rfl⟩
theorem rank0 (w : World) (b : Nat) (h : Empty w b) : Calls Tryd.prog 24 #[.pointer (some ⟨b, 0, none⟩), .int .i64 0] w fun e w' => e = .returned (.int .i64 0) ∧ w' = w := by
  go_enter Tryd.func24, Tryd.ntmps24
  go_wp2_with fail
  refine (setLen _ b h).mono ?_
  rintro e w' ⟨rfl, rfl⟩
  go_wp2_with fail
  refine wp_loop_once ?_
  go_wp2_with fail
  go_ret
  exact ⟨rfl, rfl⟩
theorem count0 (w : World) (b : Nat) (h : Empty w b) : Calls Tryd.prog 27 #[.pointer (some ⟨b, 0, none⟩)] w fun e w' => e = .returned (.int .i64 0) ∧ w' = w := by
  go_enter Tryd.func27, Tryd.ntmps27
  go_wp2_with fail
  refine (setLen _ b h).mono ?_
  rintro e w' ⟨rfl, rfl⟩
  go_wp2_with fail
  refine (rank0 _ b h).mono ?_
  rintro e w' ⟨rfl, rfl⟩
  go_wp2_with fail
  go_ret
  exact ⟨rfl, rfl⟩
theorem words0 (w : World) (b : Nat) (h : Empty w b) : Calls Tryd.prog 37 #[.pointer (some ⟨b, 0, none⟩)] w fun e w' => (∃ a, e = .returned (.slice (some a) 0 0)) ∧ Below w.heap.size w w' := by
  obtain ⟨a, h⟩ := h
  have h1 : w.cell? ⟨b, 1, none⟩ = some (.slice (some a) 0 0) := (blk_cell h 1).trans rfl
  go_enter Tryd.func37, Tryd.ntmps37
  go_wp2_with fail
  refine (clone64 _ _).mono ?_
  rintro e w2 ⟨⟨a', rfl⟩, hb2⟩
  go_wp2_with fail
  go_ret
  exact ⟨⟨_, rfl⟩, hb2⟩
theorem setAll (w : World) (p : Option Addr) : Calls Tryd.prog 19 #[.pointer p] w fun e w' => e = .returned (.func (.func 36) #[] #[.pointer (some ⟨w.heap.size, 0, none⟩)]) ∧ w' = w.alloc (.cells #[.pointer p] 26) := by
  go_enter Tryd.func19, Tryd.ntmps19
  go_wp2_with fail
  go_ret
  exact ⟨rfl, rfl⟩
theorem nulls_none (w : World) : Calls Tryd.prog 8 #[.pointer none] w fun e w' => e = .returned (.pointer none) ∧ w' = w := by
  go_enter Tryd.func8, Tryd.ntmps8
  go_wp2_with fail
  refine (there_nil _).mono ?_
  rintro e w' ⟨rfl, rfl⟩
  go_wp2_with fail
  go_ret
  exact ⟨rfl, rfl⟩
theorem nulls_zero (w : World) (g : Nat) (h : w.cell? ⟨g, 6, none⟩ = some .nilIface) : Calls Tryd.prog 8 #[.pointer (some ⟨g, 0, none⟩)] w fun e w' => e = .returned (.pointer none) ∧ w' = w := by
  go_enter Tryd.func8, Tryd.ntmps8
  go_wp2_with fail
  refine (there_zero _ g h).mono ?_
  rintro e w' ⟨rfl, rfl⟩
  go_wp2_with fail
  go_ret
  exact ⟨rfl, rfl⟩
theorem none_ (w : World) : Calls Tryd.prog 6 #[] w fun e w' => e = .returned zst ∧ Below w.heap.size w w' := by
  go_enter Tryd.func6, Tryd.ntmps6
  go_wp2_with fail
  exact bodyPost_ret (v := zst) (results_cell_row rfl _ _ w.heap.size 38 #[.int .i64 0, .int .i64 0, .int .i64 0, .int .u64 0, .int .i64 0, .int .i64 0, .float .f64 0, .string ⟨#[]⟩, .int .i64 0, .int .i64 0, .float .f64 0, .string ⟨#[]⟩] (0, 0) _ rfl (blk_new w (.cells #[.int .i64 0, .int .i64 0, .int .i64 0, .int .u64 0, .int .i64 0, .int .i64 0, .float .f64 0, .string ⟨#[]⟩, .int .i64 0, .int .i64 0, .float .f64 0, .string ⟨#[]⟩] 38)) Tryd.underlying38 rfl (by kernel_rfl)) rfl ⟨rfl, bl1 _⟩
theorem merge_ (w : World) : Calls Tryd.prog 7 #[.slice none 0 0] w fun e w' => e = .returned zst ∧ Below w.heap.size w w' := by
  go_enter Tryd.func7, Tryd.ntmps7
  go_wp2_with fail
  refine wp_loop_once ?_
  go_wp2_with fail
  exact bodyPost_ret (v := zst) (results_cell_row rfl _ _ w.heap.size 38 #[.int .i64 0, .int .i64 0, .int .i64 0, .int .u64 0, .int .i64 0, .int .i64 0, .float .f64 0, .string ⟨#[]⟩, .int .i64 0, .int .i64 0, .float .f64 0, .string ⟨#[]⟩] (0, 0) _ rfl (blk_alloc (blk_new w (.cells #[.int .i64 0, .int .i64 0, .int .i64 0, .int .u64 0, .int .i64 0, .int .i64 0, .float .f64 0, .string ⟨#[]⟩, .int .i64 0, .int .i64 0, .float .f64 0, .string ⟨#[]⟩] 38)) (.cells #[.int .i64 0, .int .i64 0, .int .i64 0, .int .u64 0, .int .i64 0, .int .i64 0, .float .f64 0, .string ⟨#[]⟩, .int .i64 0, .int .i64 0, .float .f64 0, .string ⟨#[]⟩] 38)) Tryd.underlying38 rfl (by kernel_rfl)) rfl ⟨rfl, (bl1 _).alloc (by simp) _⟩
end Go.Proofs.YtgpkjdjjjenhcaaDoor.Nm
