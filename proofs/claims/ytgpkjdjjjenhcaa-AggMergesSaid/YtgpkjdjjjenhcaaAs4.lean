/- Contract by hand: the merge of states, in the program. -/
import Derived.Test.YtgpkjdjjjenhcaaAs3
import Derived.Laws.Rows
import Derived.Laws.CopyOwn
namespace Go.Proofs.Ytgpkjdjjjenhcaa.Q
open Go.RowKit Go.Proofs.YtgpkjdjjjenhcaaW.PrintWords Go.Proofs.YtgpkjdjjjenhcaaW.PrintLast Go.Proofs.Ytgpkjdjjjenhcaa.Fw Go.Proofs.YtgpkjdjjjenhcaaW.PrintMore
set_option linter.unusedVariables false
set_option linter.unusedSimpArgs false

def plusW (a b : S25) : S25 := ⟨wrap64 ((IntKind.u64.wrap a.f0 + IntKind.u64.wrap b.f0 + (a.f1 + b.f1) / 18446744073709551616) % 18446744073709551616), (a.f1 + b.f1) % 18446744073709551616⟩
def stepA (s x : S30) : S30 := ⟨wrap64 (s.f0 + x.f0), wrap64 (s.f1 + x.f1), plusW s.f2 x.f2, takeMin x.f3 s.f3, takeMax x.f4 s.f4⟩
def mergeA (l : List S30) : S30 := l.foldl stepA z30
def okS (s : S30) : Bool := decide (s.f3.f2 < 2 ^ 64) && (decide (s.f4.f2 < 2 ^ 64) && (decide (0 ≤ s.f2.f1) && decide (s.f2.f1 < 18446744073709551616)))
def okL (l : List S30) : Bool := l.all okS
def agg_Merge.f (k : Nat) (l : List S30) : Option (Int × Int × Int × Int × Int × Int × Nat × ByteArray × Int × Int × Nat × ByteArray) := if okL l = true ∧ l.length ≤ 140737488355328 then some (flatS (mergeA l)) else none
theorem agg_Merge.mono : ∀ a0 k, LeO (agg_Merge.f k a0) (agg_Merge.f (k + 1) a0) := fun _ _ => LeO.refl _

theorem okS_take {x m : S28} (h1 : x.f2 < 2 ^ 64) (h2 : m.f2 < 2 ^ 64) : (takeMin x m).f2 < 2 ^ 64 ∧ (takeMax x m).f2 < 2 ^ 64 := by
  unfold takeMin takeMax
  constructor <;> (repeat' split) <;> assumption
theorem okS_iff (s : S30) : okS s = true ↔ s.f3.f2 < 2 ^ 64 ∧ s.f4.f2 < 2 ^ 64 ∧ 0 ≤ s.f2.f1 ∧ s.f2.f1 < 18446744073709551616 := by
  unfold okS
  simp only [Bool.and_eq_true, decide_eq_true_eq]
theorem okS_step {s x : S30} (hs : okS s = true) (hx : okS x = true) : okS (stepA s x) = true := by
  rw [okS_iff] at *
  obtain ⟨a1, a2, a3, a4⟩ := hs
  obtain ⟨b1, b2, b3, b4⟩ := hx
  refine ⟨(okS_take b1 a1).1, (okS_take b2 a2).2, ?_, ?_⟩
  · show 0 ≤ (s.f2.f1 + x.f2.f1) % 18446744073709551616; omega
  · show (s.f2.f1 + x.f2.f1) % 18446744073709551616 < _; omega
theorem okS_merge : ∀ (l : List S30) (s : S30), okS s = true → okL l = true → okS (l.foldl stepA s) = true
  | [], s, hs, _ => hs
  | x :: l, s, hs, hl => by
    have h := hl
    unfold okL at h
    rw [List.all_cons, Bool.and_eq_true] at h
    exact okS_merge l _ (okS_step hs h.1) h.2
theorem okL_get {l : List S30} (h : okL l = true) (i : Nat) (hi : i < l.length) : okS (l[i]'hi) = true := by
  unfold okL at h
  rw [List.all_eq_true] at h
  exact h _ (List.getElem_mem hi)
theorem okL_take {l : List S30} (h : okL l = true) (i : Nat) : okL (l.take i) = true := by
  unfold okL at *
  rw [List.all_eq_true] at *
  exact fun x hx => h x (List.mem_of_mem_take hx)
theorem merge_snoc (l : List S30) (i : Nat) (hi : i < l.length) : mergeA (l.take (i + 1)) = stepA (mergeA (l.take i)) (l[i]'hi) := by
  unfold mergeA
  rw [List.take_succ_eq_append_getElem hi, List.foldl_append]; rfl
theorem rd_get (l : List S30) (i : Nat) (hi : i < l.length) : rd_T30 l (i : Int) = l[i]'hi := by
  unfold rd_T30
  rw [Int.toNat_natCast, List.getD_eq_getElem?_getD, List.getElem?_eq_getElem hi]; rfl

/-- What stands in memory between two rounds: the sum so far, the result's place. -/
def StM (w wr : World) (s : S30) : Prop :=
  wr.heap[w.heap.size + 1]? = some (.cells #[.int .i64 s.f0, .int .i64 s.f1, .int .i64 s.f2.f0, .int .u64 s.f2.f1, .int .i64 s.f3.f0, .int .i64 s.f3.f1, .float .f64 s.f3.f2, .string s.f3.f3, .int .i64 s.f4.f0, .int .i64 s.f4.f1, .float .f64 s.f4.f2, .string s.f4.f3] 30 (0, 0)) ∧
  wr.heap[w.heap.size]? = some (.cells #[.int .i64 0, .int .i64 0, .int .i64 0, .int .u64 0, .int .i64 0, .int .i64 0, .float .f64 0, .string ⟨#[]⟩, .int .i64 0, .int .i64 0, .float .f64 0, .string ⟨#[]⟩] 30 (0, 0)) ∧ Below w.heap.size w wr

/-- Behind the counts: the block of the sum, the element's own block, the result's place. -/
theorem round1 {w wr w2 : World} {s : S30} {x y : Value} {o : Obj} {z : Obj}
    (hs : wr.heap[w.heap.size + 1]? = some (.cells #[.int .i64 s.f0, .int .i64 s.f1, .int .i64 s.f2.f0, .int .u64 s.f2.f1, .int .i64 s.f3.f0, .int .i64 s.f3.f1, .float .f64 s.f3.f2, .string s.f3.f3, .int .i64 s.f4.f0, .int .i64 s.f4.f1, .float .f64 s.f4.f2, .string s.f4.f3] 30 (0, 0)))
    (hz : wr.heap[w.heap.size]? = some z) (hB : Below w.heap.size w wr)
    (hb : Below (((wr.setCell ⟨w.heap.size + 1, 0, none⟩ x).setCell ⟨w.heap.size + 1, 1, none⟩ y).alloc o).heap.size (((wr.setCell ⟨w.heap.size + 1, 0, none⟩ x).setCell ⟨w.heap.size + 1, 1, none⟩ y).alloc o) w2) :
    w2.heap[w.heap.size + 1]? = some (.cells #[x, y, .int .i64 s.f2.f0, .int .u64 s.f2.f1, .int .i64 s.f3.f0, .int .i64 s.f3.f1, .float .f64 s.f3.f2, .string s.f3.f3, .int .i64 s.f4.f0, .int .i64 s.f4.f1, .float .f64 s.f4.f2, .string s.f4.f3] 30 (0, 0)) ∧
    w2.heap[wr.heap.size]? = some o ∧ w2.heap[w.heap.size]? = some z ∧ Below w.heap.size w w2 ∧ w.heap.size + 1 < wr.heap.size ∧ wr.heap.size < w2.heap.size := by
  have hlt := blk_lt hs
  have hsz : (((wr.setCell ⟨w.heap.size + 1, 0, none⟩ x).setCell ⟨w.heap.size + 1, 1, none⟩ y).alloc o).heap.size = wr.heap.size + 1 := by simp
  rw [hsz] at hb
  refine ⟨?_, ?_, ?_, ?_, hlt, ?_⟩
  · refine (hb.block _ (by omega)).trans ?_
    refine blk_alloc ?_ _
    have h1 := blk_set (blk_set hs 0 x) 1 y
    simpa using h1
  · refine (hb.block _ (by omega)).trans ?_
    have h1 := heap_alloc_new ((wr.setCell ⟨w.heap.size + 1, 0, none⟩ x).setCell ⟨w.heap.size + 1, 1, none⟩ y) o
    have h2 : ((wr.setCell ⟨w.heap.size + 1, 0, none⟩ x).setCell ⟨w.heap.size + 1, 1, none⟩ y).heap.size = wr.heap.size := by simp
    rw [h2] at h1
    exact h1
  · refine (hb.block _ (by omega)).trans ?_
    refine (Below.heap_alloc _ _ _ (by simp; omega)).trans ?_
    rw [Below.heap_setCell _ _ _ _ (by simp), Below.heap_setCell _ _ _ _ (by simp)]
    exact hz
  · exact (((hB.setCell (by simp) _).setCell (by simp) _).alloc (by have := hB.size; simp; omega) _).trans (hb.mono (by omega))
  · have := hb.size; rw [hsz] at this; omega

set_option maxRecDepth 100000 in
set_option maxHeartbeats 8000000 in
theorem agg_Merge.calls (k : Nat) (A0 : Option Addr) (c0 : Nat) (l0 : List S30) (r1 r2 r3 r4 r5 r6 : Int) (r7 : Nat) (r8 : ByteArray) (r9 r10 : Int) (r11 : Nat) (r12 : ByteArray) (w : World) (hr0 : Kd.C k30 w A0 l0.length l0) (hc0 : l0.length ≤ c0) (h : agg_Merge.f k l0 = some (r1, r2, r3, r4, r5, r6, r7, r8, r9, r10, r11, r12)) :
    Calls Try.prog 7 #[.slice A0 l0.length c0] w fun e w' => e = .returned (.agg #[.int .i64 r1, .int .i64 r2, .int .i64 r3, .int .u64 r4, .int .i64 r5, .int .i64 r6, .float .f64 r7, .string r8, .int .i64 r9, .int .i64 r10, .float .f64 r11, .string r12]) ∧ Below w.heap.size w w' := by
  unfold agg_Merge.f at h
  by_cases hok : okL l0 = true ∧ l0.length ≤ 140737488355328
  · rw [if_pos hok] at h
    have h' := Option.some.inj h
    unfold flatS at h'
    simp only [Prod.mk.injEq] at h'
    obtain ⟨rfl, rfl, rfl, rfl, rfl, rfl, rfl, rfl, rfl, rfl, rfl, rfl⟩ := h'
    have HR := Aside0.mk hr0
    have HOK := Aside0.mk hok.1
    have HL := Aside0.mk hok.2
    clear h hr0 hok
    have hu30 := Try.underlying30
    go_enter Try.func7, Try.ntmps7
    go_wp2_with fail
    go_loopw [8] (fun i wr => ∃ x : Nat, i = .int .i64 x ∧ x ≤ l0.length ∧ StM w wr (mergeA (l0.take x))) (fun i wr => l0.length - (intOf i).toNat)
    case atStart =>
      refine ⟨0, rfl, Nat.zero_le _, ?_, ?_, ?_⟩
      · have := heap_alloc_new (w.alloc (.cells #[.int .i64 0, .int .i64 0, .int .i64 0, .int .u64 0, .int .i64 0, .int .i64 0, .float .f64 0, .string ⟨#[]⟩, .int .i64 0, .int .i64 0, .float .f64 0, .string ⟨#[]⟩] 30)) (.cells #[.int .i64 0, .int .i64 0, .int .i64 0, .int .u64 0, .int .i64 0, .int .i64 0, .float .f64 0, .string ⟨#[]⟩, .int .i64 0, .int .i64 0, .float .f64 0, .string ⟨#[]⟩] 30)
        rw [World.size_alloc] at this
        exact this
      · exact (Below.heap_alloc _ _ _ (by simp)).trans (heap_alloc_new w _)
      · exact below2
    case round =>
      obtain ⟨x, rfl, hx, hst⟩ := hrel
      have HB := Aside0.mk hst.2.2
      have HZ := Aside0.mk hst.2.1
      have HS := Aside0.mk hst.1
      clear hst
      have hlen : l0.length ≤ 140737488355328 := HL.out
      by_cases hlt : x < l0.length
      · obtain ⟨ad, e0, x0, x1, x2, x3, x4, x5, x6, x7, x8, x9, x10, x11⟩ := at_T30 (Kd.C_below HR.out HB.out) (x : Int) (by omega) (by omega)
        subst e0
        rw [rd_get l0 x hlt] at x0 x1 x2 x3 x4 x5 x6 x7 x8 x9 x10 x11
        rw [Int.toNat_natCast] at x0 x1 x2 x3 x4 x5 x6 x7 x8 x9 x10 x11
        have HM := Aside0.mk (merge_snoc l0 x hlt)
        have HE := Aside0.mk (okL_get HOK.out x hlt)
        have HQ := Aside0.mk (okS_merge (l0.take x) z30 (by decide) (okL_take HOK.out x))
        obtain ⟨e, he⟩ : ∃ e, e = l0[x]'hlt := ⟨_, rfl⟩
        rw [← he] at x0 x1 x2 x3 x4 x5 x6 x7 x8 x9 x10 x11 HM HE
        obtain ⟨s, hs⟩ : ∃ s, s = mergeA (l0.take x) := ⟨_, rfl⟩
        rw [← hs] at HS HM
        have HQ' : Aside0 (okS s = true) := ⟨by rw [hs]; exact HQ.out⟩
        clear HQ he hs
        have c0' := (blk_cell HS.out 0).trans rfl
        have f0' := blk_frozen HS.out 0
        have c1' := (blk_cell HS.out 1).trans rfl
        have f1' := blk_frozen HS.out 1
        have c2' := (blk_cell HS.out 2).trans rfl
        have f2' := blk_frozen HS.out 2
        have c3' := (blk_cell HS.out 3).trans rfl
        have f3' := blk_frozen HS.out 3
        have hg := blk_lt HS.out
        go_wp2_with fail
        obtain ⟨hq1, hq2, hq3, hq4⟩ := (okS_iff s).1 HQ'.out
        obtain ⟨he1, he2, he3, he4⟩ := (okS_iff e).1 HE.out
        have HP := Aside0.mk (show wide_Wide_Plus.f s.f2.f0 s.f2.f1 e.f2.f0 e.f2.f1 = some ((plusW s.f2 e.f2).f0, (plusW s.f2 e.f2).f1) from by unfold wide_Wide_Plus.f; rw [if_pos ⟨hq3, hq4, he3, he4⟩]; rfl)
        refine (wide_Wide_Plus.calls _ _ _ _ _ _ _ HP.out).mono ?_
        rintro e' w2 ⟨rfl, hb2⟩
        obtain ⟨n1, n2, n3, n4, n5, n6⟩ := round1 HS.out HZ.out HB.out hb2
        clear x0 x1 x2 x3 x4 x5 x6 x7 x8 x9 x10 x11 c0' c1' c2' c3' f0' f1' f2' f3' hb2 hg
        have hne : ¬ wr.heap.size = w.heap.size + 1 := by omega
        have hne2 : ¬ w.heap.size + 1 = wr.heap.size := by omega
        obtain ⟨be, hbe⟩ : ∃ be, wr.heap.size = be := ⟨_, rfl⟩
        rw [hbe] at n2 n5 n6 hne hne2 ⊢
        have N1 := Aside0.mk n1
        have N2 := Aside0.mk n2
        have N3 := Aside0.mk n3
        have N4 := Aside0.mk n4
        clear n1 n2 n3 n4 hbe HS HZ HB
        have c2' := (blk_cell N1.out 2).trans rfl
        have f2' := blk_frozen N1.out 2
        have c3' := (blk_cell N1.out 3).trans rfl
        have f3' := blk_frozen N1.out 3
        have d4 := (blk_cell N2.out 4).trans rfl
        have d5 := (blk_cell N2.out 5).trans rfl
        have d6 := (blk_cell N2.out 6).trans rfl
        have d7 := (blk_cell N2.out 7).trans rfl
        have d8 := (blk_cell N2.out 8).trans rfl
        have d9 := (blk_cell N2.out 9).trans rfl
        have d10 := (blk_cell N2.out 10).trans rfl
        have d11 := (blk_cell N2.out 11).trans rfl
        go_wp2_with fail
        refine (agg_State_ends.calls 7 (w.heap.size + 1) _ _ _ _ _ _ _ _ _ _ _ _ _ _ _ _ _ _ _ _ _ _ _ _ _ _ _ _ _ _ _ _ w _ ?hI ?hB (ends_eq ⟨wrap64 (s.f0 + e.f0), wrap64 (s.f1 + e.f1), plusW s.f2 e.f2, s.f3, s.f4⟩ e.f3 e.f4 he1 he2 hq1 hq2 0)).mono ?_
        case hI =>
          refine ⟨?_, by omega⟩
          have := blk_set (blk_set N1.out 2 (.int .i64 (plusW s.f2 e.f2).f0)) 3 (.int .u64 (plusW s.f2 e.f2).f1)
          simpa using this
        case hB => exact (N4.out.setCell (by simp) _).setCell (by simp) _
        rintro e' w4 ⟨rfl, hI4, hB4, hK4⟩
        have HT := Aside0.mk (show StM w w4 (mergeA (l0.take (x + 1))) by
          rw [HM.out]
          refine ⟨hI4.1, ?_, hB4⟩
          refine (hK4.2 w.heap.size (by simp; omega) (by omega) (by simp)).trans ?_
          rw [Below.heap_setCell _ _ _ _ (by simp), Below.heap_setCell _ _ _ _ (by simp)]
          exact N3.out)
        clear hI4 hB4 hK4 c2' f2' c3' f3' d4 d5 d6 d7 d8 d9 d10 d11
        go_wp2_with fail
        go_roundw
        case rel => exact ⟨x + 1, by go_num, by omega, HT.out⟩
        case measure => simp [intOf]; omega
      · have hxe : x = l0.length := by omega
        have HX := Aside0.mk hxe
        clear hxe hlen
        have hnlt : ¬ ((x : Int) < (l0.length : Int)) := by omega
        have g0 := (blk_cell HS.out 0).trans rfl
        have z0 := (blk_cell HZ.out 0).trans rfl
        have y0 := blk_frozen HZ.out 0
        have g1 := (blk_cell HS.out 1).trans rfl
        have z1 := (blk_cell HZ.out 1).trans rfl
        have y1 := blk_frozen HZ.out 1
        have g2 := (blk_cell HS.out 2).trans rfl
        have z2 := (blk_cell HZ.out 2).trans rfl
        have y2 := blk_frozen HZ.out 2
        have g3 := (blk_cell HS.out 3).trans rfl
        have z3 := (blk_cell HZ.out 3).trans rfl
        have y3 := blk_frozen HZ.out 3
        have g4 := (blk_cell HS.out 4).trans rfl
        have z4 := (blk_cell HZ.out 4).trans rfl
        have y4 := blk_frozen HZ.out 4
        have g5 := (blk_cell HS.out 5).trans rfl
        have z5 := (blk_cell HZ.out 5).trans rfl
        have y5 := blk_frozen HZ.out 5
        have g6 := (blk_cell HS.out 6).trans rfl
        have z6 := (blk_cell HZ.out 6).trans rfl
        have y6 := blk_frozen HZ.out 6
        have g7 := (blk_cell HS.out 7).trans rfl
        have z7 := (blk_cell HZ.out 7).trans rfl
        have y7 := blk_frozen HZ.out 7
        have g8 := (blk_cell HS.out 8).trans rfl
        have z8 := (blk_cell HZ.out 8).trans rfl
        have y8 := blk_frozen HZ.out 8
        have g9 := (blk_cell HS.out 9).trans rfl
        have z9 := (blk_cell HZ.out 9).trans rfl
        have y9 := blk_frozen HZ.out 9
        have g10 := (blk_cell HS.out 10).trans rfl
        have z10 := (blk_cell HZ.out 10).trans rfl
        have y10 := blk_frozen HZ.out 10
        have g11 := (blk_cell HS.out 11).trans rfl
        have z11 := (blk_cell HZ.out 11).trans rfl
        have y11 := blk_frozen HZ.out 11
        go_wp2_with fail
        have HF := (blk_set (blk_set (blk_set (blk_set (blk_set (blk_set (blk_set (blk_set (blk_set (blk_set (blk_set (blk_set HZ.out 0 (.int .i64 (mergeA (l0.take x)).f0)) 1 (.int .i64 (mergeA (l0.take x)).f1)) 2 (.int .i64 (mergeA (l0.take x)).f2.f0)) 3 (.int .u64 (mergeA (l0.take x)).f2.f1)) 4 (.int .i64 (mergeA (l0.take x)).f3.f0)) 5 (.int .i64 (mergeA (l0.take x)).f3.f1)) 6 (.float .f64 (mergeA (l0.take x)).f3.f2)) 7 (.string (mergeA (l0.take x)).f3.f3)) 8 (.int .i64 (mergeA (l0.take x)).f4.f0)) 9 (.int .i64 (mergeA (l0.take x)).f4.f1)) 10 (.float .f64 (mergeA (l0.take x)).f4.f2)) 11 (.string (mergeA (l0.take x)).f4.f3))
        refine bodyPost_ret (v := .agg #[.int .i64 (mergeA (l0.take x)).f0, .int .i64 (mergeA (l0.take x)).f1, .int .i64 (mergeA (l0.take x)).f2.f0, .int .u64 (mergeA (l0.take x)).f2.f1, .int .i64 (mergeA (l0.take x)).f3.f0, .int .i64 (mergeA (l0.take x)).f3.f1, .float .f64 (mergeA (l0.take x)).f3.f2, .string (mergeA (l0.take x)).f3.f3, .int .i64 (mergeA (l0.take x)).f4.f0, .int .i64 (mergeA (l0.take x)).f4.f1, .float .f64 (mergeA (l0.take x)).f4.f2, .string (mergeA (l0.take x)).f4.f3]) (results_cell_row rfl _ _ w.heap.size 30 #[.int .i64 (mergeA (l0.take x)).f0, .int .i64 (mergeA (l0.take x)).f1, .int .i64 (mergeA (l0.take x)).f2.f0, .int .u64 (mergeA (l0.take x)).f2.f1, .int .i64 (mergeA (l0.take x)).f3.f0, .int .i64 (mergeA (l0.take x)).f3.f1, .float .f64 (mergeA (l0.take x)).f3.f2, .string (mergeA (l0.take x)).f3.f3, .int .i64 (mergeA (l0.take x)).f4.f0, .int .i64 (mergeA (l0.take x)).f4.f1, .float .f64 (mergeA (l0.take x)).f4.f2, .string (mergeA (l0.take x)).f4.f3] (0, 0) _ rfl (by simpa using HF) hu30 rfl (by kernel_rfl)) rfl ⟨?_, ((((((((((((HB.out.setCell (p := ⟨w.heap.size, 0, none⟩) (Nat.le_refl _) _).setCell (p := ⟨w.heap.size, 1, none⟩) (Nat.le_refl _) _).setCell (p := ⟨w.heap.size, 2, none⟩) (Nat.le_refl _) _).setCell (p := ⟨w.heap.size, 3, none⟩) (Nat.le_refl _) _).setCell (p := ⟨w.heap.size, 4, none⟩) (Nat.le_refl _) _).setCell (p := ⟨w.heap.size, 5, none⟩) (Nat.le_refl _) _).setCell (p := ⟨w.heap.size, 6, none⟩) (Nat.le_refl _) _).setCell (p := ⟨w.heap.size, 7, none⟩) (Nat.le_refl _) _).setCell (p := ⟨w.heap.size, 8, none⟩) (Nat.le_refl _) _).setCell (p := ⟨w.heap.size, 9, none⟩) (Nat.le_refl _) _).setCell (p := ⟨w.heap.size, 10, none⟩) (Nat.le_refl _) _).setCell (p := ⟨w.heap.size, 11, none⟩) (Nat.le_refl _) _)⟩
        rw [HX.out, List.take_length]
  · rw [if_neg hok] at h; cases h
end Go.Proofs.Ytgpkjdjjjenhcaa.Q
