/- Contract by hand: the document's merge of states. -/
import Derived.Test.YtgpkjdjjjenhcaaAs4
import Derived.Test.YtgpkjdjjjenhcaaRg
namespace Go.Proofs.Ytgpkjdjjjenhcaa.Q
open Go.RowKit Go.Proofs.YtgpkjdjjjenhcaaW.PrintWords Go.Proofs.YtgpkjdjjjenhcaaW.PrintLast Go.Proofs.Ytgpkjdjjjenhcaa.Fw Go.Proofs.YtgpkjdjjjenhcaaW.PrintMore Go.Proofs.Ytgpkjdjjjenhcaa.Rg
set_option linter.unusedVariables false
set_option linter.unusedSimpArgs false

def toA (x : S34) : S30 := ⟨x.f0, x.f1, ⟨x.f2, x.f3⟩, x.f4, x.f5⟩
def stepR (s x : S34) : S34 := ⟨wrap64 (s.f0 + x.f0), wrap64 (s.f1 + x.f1), (plusW ⟨s.f2, s.f3⟩ ⟨x.f2, x.f3⟩).f0, (plusW ⟨s.f2, s.f3⟩ ⟨x.f2, x.f3⟩).f1, takeMin x.f4 s.f4, takeMax x.f5 s.f5⟩
def mergeR (l : List S34) : S34 := l.foldl stepR z34
theorem toA_step (s x : S34) : toA (stepR s x) = stepA (toA s) (toA x) := rfl
theorem toA_fold : ∀ (l : List S34) (s : S34), toA (l.foldl stepR s) = (l.map toA).foldl stepA (toA s)
  | [], _ => rfl
  | x :: l, s => by rw [List.foldl_cons, toA_fold l, toA_step]; rfl
theorem toA_merge (l : List S34) : toA (mergeR l) = mergeA (l.map toA) := toA_fold l z34
def okR (l : List S34) : Bool := okL (l.map toA)
theorem mergeR_snoc (l : List S34) (i : Nat) (hi : i < l.length) : mergeR (l.take (i + 1)) = stepR (mergeR (l.take i)) (l[i]'hi) := by
  unfold mergeR
  rw [List.take_succ_eq_append_getElem hi, List.foldl_append]; rfl
theorem rd_get34 (l : List S34) (i : Nat) (hi : i < l.length) : rd_T34 l (i : Int) = l[i]'hi := by
  unfold rd_T34
  rw [Int.toNat_natCast, List.getD_eq_getElem?_getD, List.getElem?_eq_getElem hi]; rfl
theorem okR_get {l : List S34} (h : okR l = true) (i : Nat) (hi : i < l.length) : okS (toA (l[i]'hi)) = true := by
  have := okL_get h i (by simpa using hi)
  simpa using this
theorem okR_merge (l : List S34) (h : okR l = true) (i : Nat) : okS (toA (mergeR (l.take i))) = true := by
  rw [toA_merge, List.map_take]
  exact okS_merge _ z30 (by decide) (okL_take h i)

theorem plus_eq (a b c d : Int) (h1 : 0 ≤ b) (h2 : b < 18446744073709551616) (h3 : 0 ≤ d) (h4 : d < 18446744073709551616) : colonnaderef22_plus.f a b c d = some ((plusW ⟨a, b⟩ ⟨c, d⟩).f0, (plusW ⟨a, b⟩ ⟨c, d⟩).f1) := by
  unfold colonnaderef22_plus.f plusW
  have e : ∀ x, IntKind.u64.wrap x = x % 18446744073709551616 := fun x => by simp [IntKind.wrap, IntKind.signed, IntKind.bits]
  simp only [e]
  by_cases h : (b + d) % 18446744073709551616 < b
  · rw [if_pos h]
    have : (b + d) / 18446744073709551616 = 1 := by omega
    rw [this]; congr 2; congr 1; omega
  · rw [if_neg h]
    have : (b + d) / 18446744073709551616 = 0 := by omega
    rw [this]; congr 2; congr 1; omega

def thereB (v : S28) : Bool := !(v.f0 == 0) && mayB v.f0 v.f1 v.f2 v.f3
theorem there_eq (v : S28) (h : v.f2 < 2 ^ 64) (n : Nat) : colonnaderef22_there.f (n + 1) v.f0 v.f1 v.f2 v.f3 = some (thereB v) := by
  unfold colonnaderef22_there.f thereB
  rw [ref_may _ _ _ h n]
  by_cases e : v.f0 = 0
  · rw [if_pos e, e]; rfl
  · have : (v.f0 == 0) = false := by simpa using e
    rw [if_neg e, this]; rfl

theorem takeMin_eq (l m : S28) : takeMin l m = if thereB l = true then (if m.f0 = 0 then l else if cmpV l m < 0 then l else m) else m := by
  unfold takeMin thereB
  by_cases h : l.f0 = 0
  · simp [h]
  · have : (l.f0 == 0) = false := by simpa using h
    simp [h, this]
theorem takeMax_eq (l m : S28) : takeMax l m = if thereB l = true then (if m.f0 = 0 then l else if cmpV l m > 0 then l else m) else m := by
  unfold takeMax thereB
  by_cases h : l.f0 = 0
  · simp [h]
  · have : (l.f0 == 0) = false := by simpa using h
    simp [h, this]
@[reducible] def v28 (v : S28) : Value := .agg #[.int .i64 v.f0, .int .i64 v.f1, .float .f64 v.f2, .string v.f3]
@[reducible] def a34 (s : S34) : Array Value := #[.int .i64 s.f0, .int .i64 s.f1, .int .i64 s.f2, .int .u64 s.f3, .int .i64 s.f4.f0, .int .i64 s.f4.f1, .float .f64 s.f4.f2, .string s.f4.f3, .int .i64 s.f5.f0, .int .i64 s.f5.f1, .float .f64 s.f5.f2, .string s.f5.f3]
@[reducible] def c34 (s : S34) : Obj := .cells (a34 s) 34 (0, 0)
theorem there_calls (v : S28) (h : v.f2 < 2 ^ 64) (w : World) : Calls Try.prog 9 #[v28 v] w fun e w' => e = .returned (.bool (thereB v)) ∧ Below w.heap.size w w' :=
  colonnaderef22_there.calls 1 _ _ _ _ _ w (there_eq v h 0)
theorem cmp_calls (a b : S28) (ha : a.f2 < 2 ^ 64) (hb : b.f2 < 2 ^ 64) (w : World) : Calls Try.prog 10 #[v28 a, v28 b] w fun e w' => e = .returned (.int .i64 (cmpV a b)) ∧ Below w.heap.size w w' :=
  colonnaderef05_Compare.calls 131081 _ _ _ _ _ _ _ _ _ w (ref_cmp a b ha hb 131080 (Nat.le_refl _))

/-- What stands in memory between two rounds. -/
def StR (w wr : World) (s : S34) : Prop := wr.heap[w.heap.size + 1]? = some (c34 s) ∧ wr.heap[w.heap.size]? = some (c34 z34) ∧ Below w.heap.size w wr

@[reducible] def Cells34 (g : Nat) (s : S34) (w' : World) : Prop := w'.cell? ⟨g, 0, none⟩ = some (.int .i64 s.f0) ∧ w'.cell? ⟨g, 1, none⟩ = some (.int .i64 s.f1) ∧ w'.cell? ⟨g, 2, none⟩ = some (.int .i64 s.f2) ∧ w'.cell? ⟨g, 3, none⟩ = some (.int .u64 s.f3) ∧ w'.cell? ⟨g, 4, none⟩ = some (.int .i64 s.f4.f0) ∧ w'.cell? ⟨g, 5, none⟩ = some (.int .i64 s.f4.f1) ∧ w'.cell? ⟨g, 6, none⟩ = some (.float .f64 s.f4.f2) ∧ w'.cell? ⟨g, 7, none⟩ = some (.string s.f4.f3) ∧ w'.cell? ⟨g, 8, none⟩ = some (.int .i64 s.f5.f0) ∧ w'.cell? ⟨g, 9, none⟩ = some (.int .i64 s.f5.f1) ∧ w'.cell? ⟨g, 10, none⟩ = some (.float .f64 s.f5.f2) ∧ w'.cell? ⟨g, 11, none⟩ = some (.string s.f5.f3)
@[reducible] def Elem34 (ad : Addr) (x : Nat) (e : S34) (w' : World) : Prop := w'.cell? (ad.add (x * 12)) = some (.int .i64 e.f0) ∧ w'.cell? ⟨(ad.add (x * 12)).block, (ad.add (x * 12)).off + 1, none⟩ = some (.int .i64 e.f1) ∧ w'.cell? ⟨(ad.add (x * 12)).block, (ad.add (x * 12)).off + 2, none⟩ = some (.int .i64 e.f2) ∧ w'.cell? ⟨(ad.add (x * 12)).block, (ad.add (x * 12)).off + 3, none⟩ = some (.int .u64 e.f3) ∧ w'.cell? ⟨(ad.add (x * 12)).block, (ad.add (x * 12)).off + 4, none⟩ = some (.int .i64 e.f4.f0) ∧ w'.cell? ⟨(ad.add (x * 12)).block, (ad.add (x * 12)).off + 5, none⟩ = some (.int .i64 e.f4.f1) ∧ w'.cell? ⟨(ad.add (x * 12)).block, (ad.add (x * 12)).off + 6, none⟩ = some (.float .f64 e.f4.f2) ∧ w'.cell? ⟨(ad.add (x * 12)).block, (ad.add (x * 12)).off + 7, none⟩ = some (.string e.f4.f3) ∧ w'.cell? ⟨(ad.add (x * 12)).block, (ad.add (x * 12)).off + 8, none⟩ = some (.int .i64 e.f5.f0) ∧ w'.cell? ⟨(ad.add (x * 12)).block, (ad.add (x * 12)).off + 9, none⟩ = some (.int .i64 e.f5.f1) ∧ w'.cell? ⟨(ad.add (x * 12)).block, (ad.add (x * 12)).off + 10, none⟩ = some (.float .f64 e.f5.f2) ∧ w'.cell? ⟨(ad.add (x * 12)).block, (ad.add (x * 12)).off + 11, none⟩ = some (.string e.f5.f3)
theorem StR.cells {w w' : World} {s : S34} (h : StR w w' s) : Cells34 (w.heap.size + 1) s w' :=
  ⟨(blk_cell h.1 0).trans rfl, (blk_cell h.1 1).trans rfl, (blk_cell h.1 2).trans rfl, (blk_cell h.1 3).trans rfl, (blk_cell h.1 4).trans rfl, (blk_cell h.1 5).trans rfl, (blk_cell h.1 6).trans rfl, (blk_cell h.1 7).trans rfl, (blk_cell h.1 8).trans rfl, (blk_cell h.1 9).trans rfl, (blk_cell h.1 10).trans rfl, (blk_cell h.1 11).trans rfl⟩
theorem StR.frozen {w w' : World} {s : S34} (h : StR w w' s) (i : Nat) : w'.frozen? ⟨w.heap.size + 1, i, none⟩ = false := blk_frozen h.1 i
theorem StR.elem {w w' : World} {s e : S34} {ad : Addr} {x : Nat} (h : StR w w' s) (he : Elem34 ad x e w) : Elem34 ad x e w' := by
  obtain ⟨h0, h1, h2, h3, h4, h5, h6, h7, h8, h9, h10, h11⟩ := he
  have hb := h.2.2
  exact ⟨(hb.cell (World.block_lt_of_cell? w _ h0)).trans h0, (hb.cell (World.block_lt_of_cell? w _ h1)).trans h1, (hb.cell (World.block_lt_of_cell? w _ h2)).trans h2, (hb.cell (World.block_lt_of_cell? w _ h3)).trans h3, (hb.cell (World.block_lt_of_cell? w _ h4)).trans h4, (hb.cell (World.block_lt_of_cell? w _ h5)).trans h5, (hb.cell (World.block_lt_of_cell? w _ h6)).trans h6, (hb.cell (World.block_lt_of_cell? w _ h7)).trans h7, (hb.cell (World.block_lt_of_cell? w _ h8)).trans h8, (hb.cell (World.block_lt_of_cell? w _ h9)).trans h9, (hb.cell (World.block_lt_of_cell? w _ h10)).trans h10, (hb.cell (World.block_lt_of_cell? w _ h11)).trans h11⟩
theorem StR.set {w w' : World} {s s' : S34} (h : StR w w' s) (i : Nat) (v : Value) (hs : (a34 s).setIfInBounds i v = a34 s') : StR w (w'.setCell ⟨w.heap.size + 1, i, none⟩ v) s' :=
  ⟨by rw [c34, ← hs]; exact blk_set h.1 i v, (Below.heap_setCell _ _ _ _ (by simp)).trans h.2.1, h.2.2.setCell (by simp) v⟩
theorem StR.drew {w w' : World} {s : S34} (h : StR w w' s) : StR w w'.drew s := ⟨h.1, h.2.1, h.2.2.drew⟩
theorem StR.drewN {w w' : World} {s : S34} (h : StR w w' s) (n : Nat) : StR w (w'.drewN n) s := ⟨h.1, h.2.1, ⟨h.2.2.os, h.2.2.tape, h.2.2.output, h.2.2.size, h.2.2.block⟩⟩
theorem StR.below {w w' w2 : World} {s : S34} (h : StR w w' s) (hb : Below w'.heap.size w' w2) : StR w w2 s := ⟨blk_below h.1 hb, blk_below h.2.1 hb, below_step h.2.2 hb⟩

set_option maxRecDepth 100000 in
set_option maxHeartbeats 8000000 in
theorem ref_Merge.calls (A0 : Option Addr) (c0 : Nat) (l0 : List S34) (w : World) (hr0 : Kd.C k34 w A0 l0.length l0) (hok : okR l0 = true) (hlen : l0.length ≤ 140737488355328) :
    Calls Try.prog 5 #[.slice A0 l0.length c0] w fun e w' => e = .returned (.agg #[.int .i64 (mergeR l0).f0, .int .i64 (mergeR l0).f1, .int .i64 (mergeR l0).f2, .int .u64 (mergeR l0).f3, .int .i64 (mergeR l0).f4.f0, .int .i64 (mergeR l0).f4.f1, .float .f64 (mergeR l0).f4.f2, .string (mergeR l0).f4.f3, .int .i64 (mergeR l0).f5.f0, .int .i64 (mergeR l0).f5.f1, .float .f64 (mergeR l0).f5.f2, .string (mergeR l0).f5.f3]) ∧ Below w.heap.size w w' := by
  have HR := Aside0.mk hr0
  have HOK := Aside0.mk hok
  have HL := Aside0.mk hlen
  clear hr0 hok hlen
  have hu34 := Try.underlying34
  go_enter Try.func5, Try.ntmps5
  go_wp2_with fail
  go_loopw [4] (fun i wr => ∃ x : Nat, i = .int .i64 x ∧ x ≤ l0.length ∧ StR w wr (mergeR (l0.take x))) (fun i wr => l0.length - (intOf i).toNat)
  case atStart =>
    refine ⟨0, rfl, Nat.zero_le _, ?_, ?_, below2⟩
    · have := heap_alloc_new (w.alloc (c34 z34)) (c34 z34)
      rw [World.size_alloc] at this
      exact this
    · exact (Below.heap_alloc _ _ _ (by simp)).trans (heap_alloc_new w _)
  case round =>
    obtain ⟨x, rfl, hx, hst⟩ := hrel
    have HB := Aside0.mk hst.2.2
    have HZ := Aside0.mk hst.2.1
    have HS := Aside0.mk hst.1
    clear hst
    have hlen : l0.length ≤ 140737488355328 := HL.out
    by_cases hlt : x < l0.length
    · obtain ⟨ad, e0, x0, x1, x2, x3, x4, x5, x6, x7, x8, x9, x10, x11⟩ := at_T34 HR.out (x : Int) (by omega) (by omega)
      subst e0
      rw [rd_get34 l0 x hlt] at x0 x1 x2 x3 x4 x5 x6 x7 x8 x9 x10 x11
      rw [Int.toNat_natCast] at x0 x1 x2 x3 x4 x5 x6 x7 x8 x9 x10 x11
      have HM := Aside0.mk (mergeR_snoc l0 x hlt)
      have HE := Aside0.mk (okR_get HOK.out x hlt)
      have HQ := Aside0.mk (okR_merge l0 HOK.out x)
      obtain ⟨e, he⟩ : ∃ e, e = l0[x]'hlt := ⟨_, rfl⟩
      rw [← he] at x0 x1 x2 x3 x4 x5 x6 x7 x8 x9 x10 x11 HM HE
      have EL := Aside0.mk (show Elem34 ad x e w from ⟨x0, x1, x2, x3, x4, x5, x6, x7, x8, x9, x10, x11⟩)
      clear x0 x1 x2 x3 x4 x5 x6 x7 x8 x9 x10 x11
      obtain ⟨s, hs⟩ : ∃ s, s = mergeR (l0.take x) := ⟨_, rfl⟩
      rw [← hs] at HS HM HQ
      clear he hs
      have ST := Aside0.mk (show StR w wr s from ⟨HS.out, HZ.out, HB.out⟩)
      clear HS HZ HB
      go_upto_region 5 with (fail)
      refine begin_ (StR w · s) [9] ST.out.drew (fun w1 hS => ?_)
      refine p_ ?_
      refine d_ (fun w' h => h.cells) hS ?_
      iterate 4 refine p_ ?_
      refine d_ (fun w' h => h.elem EL.out) hS ?_
      iterate 2 refine p_ ?_
      obtain ⟨c0', -⟩ := hS.cells
      have f0 := hS.frozen 0
      refine s_ ?_
      refine end_ ?_
      clear c0' f0
      replace ST := Aside0.mk (hS.set (s' := { s with f0 := wrap64 (s.f0 + e.f0) }) 0 (.int .i64 (IntKind.i64.wrap (s.f0 + e.f0))) (by rw [i64_w]; rfl))
      clear hS
      generalize hw2 : w1.setCell ⟨w.heap.size + 1, 0, none⟩ (.int .i64 (IntKind.i64.wrap (s.f0 + e.f0))) = w2 at ST ⊢
      clear hw2
      go_upto_region 6 with (fail)
      refine begin_ (StR w · _) [9] ST.out.drew (fun w1 hS => ?_)
      refine p_ ?_
      refine d_ (fun w' h => h.cells) hS ?_
      iterate 4 refine p_ ?_
      refine d_ (fun w' h => h.elem EL.out) hS ?_
      iterate 2 refine p_ ?_
      obtain ⟨-, c0', -⟩ := hS.cells
      have f0 := hS.frozen 1
      refine s_ ?_
      refine end_ ?_
      clear c0' f0
      replace ST := Aside0.mk (hS.set (s' := { s with f0 := wrap64 (s.f0 + e.f0), f1 := wrap64 (s.f1 + e.f1) }) 1 (.int .i64 (IntKind.i64.wrap (s.f1 + e.f1))) (by rw [i64_w]; rfl))
      clear hS
      generalize hw2 : w1.setCell ⟨w.heap.size + 1, 1, none⟩ (.int .i64 (IntKind.i64.wrap (s.f1 + e.f1))) = w2 at ST ⊢
      clear hw2
      obtain ⟨hq1, hq2, hq3, hq4⟩ := (okS_iff _).1 HQ.out
      obtain ⟨he1, he2, he3, he4⟩ := (okS_iff _).1 HE.out
      have HP := Aside0.mk (plus_eq s.f2 s.f3 e.f2 e.f3 hq3 hq4 he3 he4)
      have HF := Aside0.mk (And.intro hq1 (And.intro hq2 (And.intro he1 he2)))
      clear hq1 hq2 hq3 hq4 he1 he2 he3 he4
      go_upto_region 7 with (fail)
      refine begin_ (StR w · _) [19, 21] ST.out.drew (fun w1 hS => ?_)
      refine p_ ?_
      refine d_ (fun w' h => h.cells) hS ?_
      refine p_ ?_
      refine d_ (fun w' h => h.cells) hS ?_
      iterate 4 refine p_ ?_
      refine d_ (fun w' h => h.elem EL.out) hS ?_
      iterate 4 refine p_ ?_
      refine d_ (fun w' h => h.elem EL.out) hS ?_
      refine c_ (colonnaderef22_plus.calls _ _ _ _ _ _ _ HP.out) Try.func8 ?_
      rintro _ w3 ⟨rfl, ⟨nd, rfl⟩⟩
      refine ⟨_, rfl, hS.drewN nd, fun hS => ?_⟩
      iterate 4 refine p_ ?_
      obtain ⟨-, -, c2', c3', -⟩ := hS.cells
      have f2' := hS.frozen 2
      have f3' := hS.frozen 3
      refine s_ ?_
      refine p_ ?_
      refine s_ ?_
      refine end_ ?_
      clear c2' c3' f2' f3'
      have S1 := (hS.set (s' := { s with f0 := wrap64 (s.f0 + e.f0), f1 := wrap64 (s.f1 + e.f1), f2 := (plusW ⟨s.f2, s.f3⟩ ⟨e.f2, e.f3⟩).f0 }) 2 (.int .i64 (plusW ⟨s.f2, s.f3⟩ ⟨e.f2, e.f3⟩).f0) rfl).set (s' := { s with f0 := wrap64 (s.f0 + e.f0), f1 := wrap64 (s.f1 + e.f1), f2 := (plusW ⟨s.f2, s.f3⟩ ⟨e.f2, e.f3⟩).f0, f3 := (plusW ⟨s.f2, s.f3⟩ ⟨e.f2, e.f3⟩).f1 }) 3 (.int .u64 (plusW ⟨s.f2, s.f3⟩ ⟨e.f2, e.f3⟩).f1) rfl
      clear ST
      have ST := Aside0.mk S1
      clear S1 hS
      generalize hw2 : ((w1.drewN nd).setCell ⟨w.heap.size + 1, 2, none⟩ (.int .i64 (plusW ⟨s.f2, s.f3⟩ ⟨e.f2, e.f3⟩).f0)).setCell ⟨w.heap.size + 1, 3, none⟩ (.int .u64 (plusW ⟨s.f2, s.f3⟩ ⟨e.f2, e.f3⟩).f1) = w2 at ST ⊢
      clear hw2
      have HM2 := Aside0.mk (show stepR s e = ⟨wrap64 (s.f0 + e.f0), wrap64 (s.f1 + e.f1), (plusW ⟨s.f2, s.f3⟩ ⟨e.f2, e.f3⟩).f0, (plusW ⟨s.f2, s.f3⟩ ⟨e.f2, e.f3⟩).f1, takeMin e.f4 s.f4, takeMax e.f5 s.f5⟩ from rfl)
      obtain ⟨q, hq, hq4, hq5⟩ : ∃ q : S34, q = { s with f0 := wrap64 (s.f0 + e.f0), f1 := wrap64 (s.f1 + e.f1), f2 := (plusW ⟨s.f2, s.f3⟩ ⟨e.f2, e.f3⟩).f0, f3 := (plusW ⟨s.f2, s.f3⟩ ⟨e.f2, e.f3⟩).f1 } ∧ q.f4 = s.f4 ∧ q.f5 = s.f5 := ⟨_, rfl, rfl, rfl⟩
      rw [← hq] at ST
      have HQE := Aside0.mk hq
      have HF2 : Aside0 (q.f4.f2 < 2 ^ 64 ∧ q.f5.f2 < 2 ^ 64 ∧ e.f4.f2 < 2 ^ 64 ∧ e.f5.f2 < 2 ^ 64) := ⟨by rw [hq4, hq5]; exact HF.out⟩
      clear hq hq4 hq5 HF HP HQ
      go_upto_region 8 with (fail)
      go_cut [71] (fun v wc => ∃ b, v = .bool b ∧ StR w wc q ∧ takeMin e.f4 q.f4 = (if b = true then e.f4 else q.f4))
      case first =>
        by_cases ht : thereB e.f4 = true
        · have HT := Aside0.mk ht
          by_cases hk : q.f4.f0 = 0
          · have HV := Aside0.mk (show takeMin e.f4 q.f4 = e.f4 by rw [takeMin_eq, if_pos ht, if_pos hk])
            have hk' : (q.f4.f0 == 0) = true := by simpa using hk
            clear ht hk
            refine begin_ (StR w · q) [] ST.out.drew (fun w1 hS => ?_)
            iterate 4 refine p_ ?_
            refine d_ (fun w' h => h.elem EL.out) hS ?_
            refine c_ (there_calls e.f4 HF2.out.2.2.1 w1) Try.func9 ?_
            rintro _ w3 ⟨rfl, hb⟩
            refine ⟨.bool true, by rw [HT.out], hS.below hb, fun hS => ?_⟩
            iterate 3 refine p_ ?_
            refine d_ (fun w' h => h.cells) hS ?_
            iterate 13 refine p_ ?_
            refine end_ ?_
            go_wp2_with fail
            go_meet
            case rel => exact ⟨true, rfl, hS, HV.out⟩
          · have hk' : (q.f4.f0 == 0) = false := by simpa using hk
            by_cases hc : cmpV e.f4 q.f4 < 0
            · have HV := Aside0.mk (show takeMin e.f4 q.f4 = e.f4 by rw [takeMin_eq, if_pos ht, if_neg hk, if_pos hc])
              have hc' : decide (cmpV e.f4 q.f4 < 0) = true := decide_eq_true hc
              clear ht hk
              refine begin_ (StR w · q) [] ST.out.drew (fun w1 hS => ?_)
              iterate 4 refine p_ ?_
              refine d_ (fun w' h => h.elem EL.out) hS ?_
              refine c_ (there_calls e.f4 HF2.out.2.2.1 w1) Try.func9 ?_
              rintro _ w3 ⟨rfl, hb⟩
              refine ⟨.bool true, by rw [HT.out], hS.below hb, fun hS => ?_⟩
              iterate 3 refine p_ ?_
              refine d_ (fun w' h => h.cells) hS ?_
              iterate 6 refine p_ ?_
              refine d_ (fun w' h => h.elem EL.out) hS ?_
              refine p_ ?_
              refine d_ (fun w' h => h.cells) hS ?_
              refine c_ (cmp_calls e.f4 q.f4 HF2.out.2.2.1 HF2.out.1 _) Try.func10 ?_
              rintro _ w4 ⟨rfl, hb2⟩
              refine ⟨_, rfl, hS.below hb2, fun hS => ?_⟩
              iterate 3 refine p_ ?_
              refine end_ ?_
              go_wp2_with fail
              go_meet
              case rel => exact ⟨true, rfl, hS, HV.out⟩
            · have HV := Aside0.mk (show takeMin e.f4 q.f4 = q.f4 by rw [takeMin_eq, if_pos ht, if_neg hk, if_neg hc])
              have hc' : decide (cmpV e.f4 q.f4 < 0) = false := decide_eq_false hc
              clear ht hk
              refine begin_ (StR w · q) [] ST.out.drew (fun w1 hS => ?_)
              iterate 4 refine p_ ?_
              refine d_ (fun w' h => h.elem EL.out) hS ?_
              refine c_ (there_calls e.f4 HF2.out.2.2.1 w1) Try.func9 ?_
              rintro _ w3 ⟨rfl, hb⟩
              refine ⟨.bool true, by rw [HT.out], hS.below hb, fun hS => ?_⟩
              iterate 3 refine p_ ?_
              refine d_ (fun w' h => h.cells) hS ?_
              iterate 6 refine p_ ?_
              refine d_ (fun w' h => h.elem EL.out) hS ?_
              refine p_ ?_
              refine d_ (fun w' h => h.cells) hS ?_
              refine c_ (cmp_calls e.f4 q.f4 HF2.out.2.2.1 HF2.out.1 _) Try.func10 ?_
              rintro _ w4 ⟨rfl, hb2⟩
              refine ⟨_, rfl, hS.below hb2, fun hS => ?_⟩
              iterate 3 refine p_ ?_
              refine end_ ?_
              go_wp2_with fail
              go_meet
              case rel => exact ⟨false, rfl, hS, HV.out⟩
        · have HV := Aside0.mk (show takeMin e.f4 q.f4 = q.f4 by rw [takeMin_eq, if_neg ht])
          have HT : Aside0 (thereB e.f4 = false) := ⟨by simpa using ht⟩
          clear ht
          refine begin_ (StR w · q) [] ST.out.drew (fun w1 hS => ?_)
          iterate 4 refine p_ ?_
          refine d_ (fun w' h => h.elem EL.out) hS ?_
          refine c_ (there_calls e.f4 HF2.out.2.2.1 w1) Try.func9 ?_
          rintro _ w3 ⟨rfl, hb⟩
          refine ⟨.bool false, by rw [HT.out], hS.below hb, fun hS => ?_⟩
          iterate 17 refine p_ ?_
          refine end_ ?_
          go_wp2_with fail
          go_meet
          case rel => exact ⟨false, rfl, hS, HV.out⟩
      case' rest => skip
      obtain ⟨b, rfl, hS, hV⟩ := hcut
      clear ST
      go_upto_if 71 with (fail)
      go_cut [] (fun wc => StR w wc { q with f4 := takeMin e.f4 q.f4 })
      case first =>
        cases b with
        | false =>
          have HV := Aside0.mk (hV.trans (if_neg (by decide)))
          clear hV
          go_wp2_with fail
          go_meet
          case rel => rw [HV.out]; exact hS
        | true =>
          have HV := Aside0.mk (hV.trans (if_pos rfl))
          clear hV
          obtain ⟨c0', c1', c2', c3', c4', c5', c6', c7', c8', c9', c10', c11'⟩ := hS.cells
          obtain ⟨x0, x1, x2, x3, x4, x5, x6, x7, x8, x9, x10, x11⟩ := hS.elem EL.out
          have f0' := hS.frozen 4
          have f1' := hS.frozen 5
          have f2' := hS.frozen 6
          have f3' := hS.frozen 7
          go_wp2_with fail
          go_meet
          case rel => rw [HV.out]; exact (((hS.set (s' := { q with f4 := ⟨e.f4.f0, q.f4.f1, q.f4.f2, q.f4.f3⟩ }) 4 (.int .i64 e.f4.f0) rfl).set (s' := { q with f4 := ⟨e.f4.f0, e.f4.f1, q.f4.f2, q.f4.f3⟩ }) 5 (.int .i64 e.f4.f1) rfl).set (s' := { q with f4 := ⟨e.f4.f0, e.f4.f1, e.f4.f2, q.f4.f3⟩ }) 6 (.float .f64 e.f4.f2) rfl).set (s' := { q with f4 := e.f4 }) 7 (.string e.f4.f3) rfl
      case' rest => skip
      clear hS hV
      have ST := Aside0.mk hcut
      clear hcut
      obtain ⟨q2, hq, hq4, hq5⟩ : ∃ q2 : S34, q2 = { q with f4 := takeMin e.f4 q.f4 } ∧ q2.f5 = q.f5 ∧ True := ⟨_, rfl, rfl, trivial⟩
      rw [← hq] at ST
      have HQ2 := Aside0.mk hq
      replace HF2 : Aside0 (q.f4.f2 < 2 ^ 64 ∧ q2.f5.f2 < 2 ^ 64 ∧ e.f4.f2 < 2 ^ 64 ∧ e.f5.f2 < 2 ^ 64) := ⟨by rw [hq4]; exact HF2.out⟩
      have HQ5 := Aside0.mk hq4
      clear hq hq4 hq5
      have HFIN := Aside0.mk (show stepR s e = { q2 with f5 := takeMax e.f5 q2.f5 } by rw [HQ2.out, HQE.out]; rfl)
      go_upto_region 10 with (fail)
      go_cut [100] (fun v wc => ∃ b, v = .bool b ∧ StR w wc q2 ∧ takeMax e.f5 q2.f5 = (if b = true then e.f5 else q2.f5))
      case first =>
        by_cases ht : thereB e.f5 = true
        · have HT := Aside0.mk ht
          by_cases hk : q2.f5.f0 = 0
          · have HV := Aside0.mk (show takeMax e.f5 q2.f5 = e.f5 by rw [takeMax_eq, if_pos ht, if_pos hk])
            have hk' : (q2.f5.f0 == 0) = true := by simpa using hk
            clear ht hk
            refine begin_ (StR w · q2) [] ST.out.drew (fun w1 hS => ?_)
            iterate 4 refine p_ ?_
            refine d_ (fun w' h => h.elem EL.out) hS ?_
            refine c_ (there_calls e.f5 HF2.out.2.2.2 w1) Try.func9 ?_
            rintro _ w3 ⟨rfl, hb⟩
            refine ⟨.bool true, by rw [HT.out], hS.below hb, fun hS => ?_⟩
            iterate 3 refine p_ ?_
            refine d_ (fun w' h => h.cells) hS ?_
            iterate 13 refine p_ ?_
            refine end_ ?_
            go_wp2_with fail
            go_meet
            case rel => exact ⟨true, rfl, hS, HV.out⟩
          · have hk' : (q2.f5.f0 == 0) = false := by simpa using hk
            by_cases hc : cmpV e.f5 q2.f5 > 0
            · have HV := Aside0.mk (show takeMax e.f5 q2.f5 = e.f5 by rw [takeMax_eq, if_pos ht, if_neg hk, if_pos hc])
              have hc' : decide (cmpV e.f5 q2.f5 > 0) = true := decide_eq_true hc
              clear ht hk
              refine begin_ (StR w · q2) [] ST.out.drew (fun w1 hS => ?_)
              iterate 4 refine p_ ?_
              refine d_ (fun w' h => h.elem EL.out) hS ?_
              refine c_ (there_calls e.f5 HF2.out.2.2.2 w1) Try.func9 ?_
              rintro _ w3 ⟨rfl, hb⟩
              refine ⟨.bool true, by rw [HT.out], hS.below hb, fun hS => ?_⟩
              iterate 3 refine p_ ?_
              refine d_ (fun w' h => h.cells) hS ?_
              iterate 6 refine p_ ?_
              refine d_ (fun w' h => h.elem EL.out) hS ?_
              refine p_ ?_
              refine d_ (fun w' h => h.cells) hS ?_
              refine c_ (cmp_calls e.f5 q2.f5 HF2.out.2.2.2 HF2.out.2.1 _) Try.func10 ?_
              rintro _ w4 ⟨rfl, hb2⟩
              refine ⟨_, rfl, hS.below hb2, fun hS => ?_⟩
              iterate 3 refine p_ ?_
              refine end_ ?_
              go_wp2_with fail
              go_meet
              case rel => exact ⟨true, rfl, hS, HV.out⟩
            · have HV := Aside0.mk (show takeMax e.f5 q2.f5 = q2.f5 by rw [takeMax_eq, if_pos ht, if_neg hk, if_neg hc])
              have hc' : decide (cmpV e.f5 q2.f5 > 0) = false := decide_eq_false hc
              clear ht hk
              refine begin_ (StR w · q2) [] ST.out.drew (fun w1 hS => ?_)
              iterate 4 refine p_ ?_
              refine d_ (fun w' h => h.elem EL.out) hS ?_
              refine c_ (there_calls e.f5 HF2.out.2.2.2 w1) Try.func9 ?_
              rintro _ w3 ⟨rfl, hb⟩
              refine ⟨.bool true, by rw [HT.out], hS.below hb, fun hS => ?_⟩
              iterate 3 refine p_ ?_
              refine d_ (fun w' h => h.cells) hS ?_
              iterate 6 refine p_ ?_
              refine d_ (fun w' h => h.elem EL.out) hS ?_
              refine p_ ?_
              refine d_ (fun w' h => h.cells) hS ?_
              refine c_ (cmp_calls e.f5 q2.f5 HF2.out.2.2.2 HF2.out.2.1 _) Try.func10 ?_
              rintro _ w4 ⟨rfl, hb2⟩
              refine ⟨_, rfl, hS.below hb2, fun hS => ?_⟩
              iterate 3 refine p_ ?_
              refine end_ ?_
              go_wp2_with fail
              go_meet
              case rel => exact ⟨false, rfl, hS, HV.out⟩
        · have HV := Aside0.mk (show takeMax e.f5 q2.f5 = q2.f5 by rw [takeMax_eq, if_neg ht])
          have HT : Aside0 (thereB e.f5 = false) := ⟨by simpa using ht⟩
          clear ht
          refine begin_ (StR w · q2) [] ST.out.drew (fun w1 hS => ?_)
          iterate 4 refine p_ ?_
          refine d_ (fun w' h => h.elem EL.out) hS ?_
          refine c_ (there_calls e.f5 HF2.out.2.2.2 w1) Try.func9 ?_
          rintro _ w3 ⟨rfl, hb⟩
          refine ⟨.bool false, by rw [HT.out], hS.below hb, fun hS => ?_⟩
          iterate 17 refine p_ ?_
          refine end_ ?_
          go_wp2_with fail
          go_meet
          case rel => exact ⟨false, rfl, hS, HV.out⟩
      case' rest => skip
      obtain ⟨b, rfl, hS, hV⟩ := hcut
      clear ST
      cases b with
        | false =>
          have HV := Aside0.mk (hV.trans (if_neg (by decide)))
          have S2 := Aside0.mk (show StR w wc { q2 with f5 := q2.f5 } from hS)
          clear hV hS
          go_wp2_with fail
          go_roundw
          case rel => exact ⟨x + 1, by go_num, by omega, by
            rw [HM.out, HFIN.out, HV.out]
            exact S2.out⟩
          case measure => simp [intOf]; omega
        | true =>
          have HV := Aside0.mk (hV.trans (if_pos rfl))
          clear hV
          obtain ⟨c0', c1', c2', c3', c4', c5', c6', c7', c8', c9', c10', c11'⟩ := hS.cells
          obtain ⟨x0, x1, x2, x3, x4, x5, x6, x7, x8, x9, x10, x11⟩ := hS.elem EL.out
          have f0' := hS.frozen 8
          have f1' := hS.frozen 9
          have f2' := hS.frozen 10
          have f3' := hS.frozen 11
          have S2 := Aside0.mk ((((hS.set (s' := { q2 with f5 := ⟨e.f5.f0, q2.f5.f1, q2.f5.f2, q2.f5.f3⟩ }) 8 (.int .i64 e.f5.f0) rfl).set (s' := { q2 with f5 := ⟨e.f5.f0, e.f5.f1, q2.f5.f2, q2.f5.f3⟩ }) 9 (.int .i64 e.f5.f1) rfl).set (s' := { q2 with f5 := ⟨e.f5.f0, e.f5.f1, e.f5.f2, q2.f5.f3⟩ }) 10 (.float .f64 e.f5.f2) rfl).set (s' := { q2 with f5 := e.f5 }) 11 (.string e.f5.f3) rfl)
          clear hS
          go_wp2_with fail
          go_roundw
          case rel => exact ⟨x + 1, by go_num, by omega, by
            rw [HM.out, HFIN.out, HV.out]
            exact S2.out⟩
          case measure => simp [intOf]; omega
    · have hxe : x = l0.length := by omega
      have HX := Aside0.mk hxe
      clear hxe hlen
      have hnlt : ¬ ((x : Int) < (l0.length : Int)) := by omega
      have g0 := (blk_cell HS.out 0).trans rfl
      have z0 := (blk_cell HZ.out 0).trans rfl
      have y0 := blk_frozen HZ.out 0
      have g1 := (blk_cell HS.out 1).trans rfl
      have z1 := (blk_cell HZ.out 1).trans rfl
      have y1 := blk_frozen HZ.out 1
      have g2 := (blk_cell HS.out 2).trans rfl
      have z2 := (blk_cell HZ.out 2).trans rfl
      have y2 := blk_frozen HZ.out 2
      have g3 := (blk_cell HS.out 3).trans rfl
      have z3 := (blk_cell HZ.out 3).trans rfl
      have y3 := blk_frozen HZ.out 3
      have g4 := (blk_cell HS.out 4).trans rfl
      have z4 := (blk_cell HZ.out 4).trans rfl
      have y4 := blk_frozen HZ.out 4
      have g5 := (blk_cell HS.out 5).trans rfl
      have z5 := (blk_cell HZ.out 5).trans rfl
      have y5 := blk_frozen HZ.out 5
      have g6 := (blk_cell HS.out 6).trans rfl
      have z6 := (blk_cell HZ.out 6).trans rfl
      have y6 := blk_frozen HZ.out 6
      have g7 := (blk_cell HS.out 7).trans rfl
      have z7 := (blk_cell HZ.out 7).trans rfl
      have y7 := blk_frozen HZ.out 7
      have g8 := (blk_cell HS.out 8).trans rfl
      have z8 := (blk_cell HZ.out 8).trans rfl
      have y8 := blk_frozen HZ.out 8
      have g9 := (blk_cell HS.out 9).trans rfl
      have z9 := (blk_cell HZ.out 9).trans rfl
      have y9 := blk_frozen HZ.out 9
      have g10 := (blk_cell HS.out 10).trans rfl
      have z10 := (blk_cell HZ.out 10).trans rfl
      have y10 := blk_frozen HZ.out 10
      have g11 := (blk_cell HS.out 11).trans rfl
      have z11 := (blk_cell HZ.out 11).trans rfl
      have y11 := blk_frozen HZ.out 11
      go_wp2_with fail
      have HF := blk_set (blk_set (blk_set (blk_set (blk_set (blk_set (blk_set (blk_set (blk_set (blk_set (blk_set (blk_set HZ.out 0 (.int .i64 (mergeR (l0.take x)).f0)) 1 (.int .i64 (mergeR (l0.take x)).f1)) 2 (.int .i64 (mergeR (l0.take x)).f2)) 3 (.int .u64 (mergeR (l0.take x)).f3)) 4 (.int .i64 (mergeR (l0.take x)).f4.f0)) 5 (.int .i64 (mergeR (l0.take x)).f4.f1)) 6 (.float .f64 (mergeR (l0.take x)).f4.f2)) 7 (.string (mergeR (l0.take x)).f4.f3)) 8 (.int .i64 (mergeR (l0.take x)).f5.f0)) 9 (.int .i64 (mergeR (l0.take x)).f5.f1)) 10 (.float .f64 (mergeR (l0.take x)).f5.f2)) 11 (.string (mergeR (l0.take x)).f5.f3)
      refine bodyPost_ret (v := .agg #[.int .i64 (mergeR (l0.take x)).f0, .int .i64 (mergeR (l0.take x)).f1, .int .i64 (mergeR (l0.take x)).f2, .int .u64 (mergeR (l0.take x)).f3, .int .i64 (mergeR (l0.take x)).f4.f0, .int .i64 (mergeR (l0.take x)).f4.f1, .float .f64 (mergeR (l0.take x)).f4.f2, .string (mergeR (l0.take x)).f4.f3, .int .i64 (mergeR (l0.take x)).f5.f0, .int .i64 (mergeR (l0.take x)).f5.f1, .float .f64 (mergeR (l0.take x)).f5.f2, .string (mergeR (l0.take x)).f5.f3]) (results_cell_row rfl _ _ w.heap.size 34 #[.int .i64 (mergeR (l0.take x)).f0, .int .i64 (mergeR (l0.take x)).f1, .int .i64 (mergeR (l0.take x)).f2, .int .u64 (mergeR (l0.take x)).f3, .int .i64 (mergeR (l0.take x)).f4.f0, .int .i64 (mergeR (l0.take x)).f4.f1, .float .f64 (mergeR (l0.take x)).f4.f2, .string (mergeR (l0.take x)).f4.f3, .int .i64 (mergeR (l0.take x)).f5.f0, .int .i64 (mergeR (l0.take x)).f5.f1, .float .f64 (mergeR (l0.take x)).f5.f2, .string (mergeR (l0.take x)).f5.f3] (0, 0) _ rfl (by simpa using HF) hu34 rfl (by kernel_rfl)) rfl ⟨?_, ((((((((((((HB.out.setCell (p := ⟨w.heap.size, 0, none⟩) (Nat.le_refl _) _).setCell (p := ⟨w.heap.size, 1, none⟩) (Nat.le_refl _) _).setCell (p := ⟨w.heap.size, 2, none⟩) (Nat.le_refl _) _).setCell (p := ⟨w.heap.size, 3, none⟩) (Nat.le_refl _) _).setCell (p := ⟨w.heap.size, 4, none⟩) (Nat.le_refl _) _).setCell (p := ⟨w.heap.size, 5, none⟩) (Nat.le_refl _) _).setCell (p := ⟨w.heap.size, 6, none⟩) (Nat.le_refl _) _).setCell (p := ⟨w.heap.size, 7, none⟩) (Nat.le_refl _) _).setCell (p := ⟨w.heap.size, 8, none⟩) (Nat.le_refl _) _).setCell (p := ⟨w.heap.size, 9, none⟩) (Nat.le_refl _) _).setCell (p := ⟨w.heap.size, 10, none⟩) (Nat.le_refl _) _).setCell (p := ⟨w.heap.size, 11, none⟩) (Nat.le_refl _) _)⟩
      rw [HX.out, List.take_length]
end Go.Proofs.Ytgpkjdjjjenhcaa.Q
