/- The law AggMerges, walked by hand. -/
import Derived.Test.YtgpkjdjjjenhcaaAs6
import Derived.Test.YtgpkjdjjjenhcaaRm
import Derived.Test.YtgpkjdjjjenhcaaRw
namespace Go.Proofs.Ytgpkjdjjjenhcaa.Q
open Go.RowKit Go.Proofs.YtgpkjdjjjenhcaaW.PrintWords Go.Proofs.YtgpkjdjjjenhcaaW.PrintLast Go.Proofs.Ytgpkjdjjjenhcaa.Fw Go.Proofs.YtgpkjdjjjenhcaaW.PrintMore
set_option linter.unusedVariables false
set_option linter.unusedSimpArgs false

def mk : S30 := ⟨-77, 77, ⟨0, 0⟩, ⟨0, 0, 0, ⟨#[]⟩⟩, ⟨0, 0, 0, ⟨#[]⟩⟩⟩
@[reducible] def a30 (s : S30) : Array Value := #[.int .i64 s.f0, .int .i64 s.f1, .int .i64 s.f2.f0, .int .u64 s.f2.f1, .int .i64 s.f3.f0, .int .i64 s.f3.f1, .float .f64 s.f3.f2, .string s.f3.f3, .int .i64 s.f4.f0, .int .i64 s.f4.f1, .float .f64 s.f4.f2, .string s.f4.f3]
@[reducible] def c30 (s : S30) : Obj := .cells (a30 s) 30 (0, 0)
@[reducible] def Cells30 (g : Nat) (s : S30) (w' : World) : Prop := w'.cell? ⟨g, 0, none⟩ = some (.int .i64 s.f0) ∧ w'.cell? ⟨g, 1, none⟩ = some (.int .i64 s.f1) ∧ w'.cell? ⟨g, 2, none⟩ = some (.int .i64 s.f2.f0) ∧ w'.cell? ⟨g, 3, none⟩ = some (.int .u64 s.f2.f1) ∧ w'.cell? ⟨g, 4, none⟩ = some (.int .i64 s.f3.f0) ∧ w'.cell? ⟨g, 5, none⟩ = some (.int .i64 s.f3.f1) ∧ w'.cell? ⟨g, 6, none⟩ = some (.float .f64 s.f3.f2) ∧ w'.cell? ⟨g, 7, none⟩ = some (.string s.f3.f3) ∧ w'.cell? ⟨g, 8, none⟩ = some (.int .i64 s.f4.f0) ∧ w'.cell? ⟨g, 9, none⟩ = some (.int .i64 s.f4.f1) ∧ w'.cell? ⟨g, 10, none⟩ = some (.float .f64 s.f4.f2) ∧ w'.cell? ⟨g, 11, none⟩ = some (.string s.f4.f3)
theorem cells30 {w : World} {g : Nat} {s : S30} (h : w.heap[g]? = some (c30 s)) : Cells30 g s w :=
  ⟨(blk_cell h 0).trans rfl, (blk_cell h 1).trans rfl, (blk_cell h 2).trans rfl, (blk_cell h 3).trans rfl, (blk_cell h 4).trans rfl, (blk_cell h 5).trans rfl, (blk_cell h 6).trans rfl, (blk_cell h 7).trans rfl, (blk_cell h 8).trans rfl, (blk_cell h 9).trans rfl, (blk_cell h 10).trans rfl, (blk_cell h 11).trans rfl⟩

@[reducible] def zv34 : Value := .agg #[.int .i64 0, .int .i64 0, .int .i64 0, .int .u64 0, .int .i64 0, .int .i64 0, .float .f64 0, .string ⟨#[]⟩, .int .i64 0, .int .i64 0, .float .f64 0, .string ⟨#[]⟩]
theorem inf34 : (Try.prog.info? 34).map (fun i => (i.zero, i.size, i.bytes)) = some (some zv34, 12, 112) := by kernel_rfl
/-- The cells of an element of a row. -/
@[reducible] def El30 (g i : Nat) (s : S30) (w' : World) : Prop := w'.cell? ⟨g, i * 12, none⟩ = some (.int .i64 s.f0) ∧ w'.cell? ⟨g, i * 12 + 1, none⟩ = some (.int .i64 s.f1) ∧ w'.cell? ⟨g, i * 12 + 2, none⟩ = some (.int .i64 s.f2.f0) ∧ w'.cell? ⟨g, i * 12 + 3, none⟩ = some (.int .u64 s.f2.f1) ∧ w'.cell? ⟨g, i * 12 + 4, none⟩ = some (.int .i64 s.f3.f0) ∧ w'.cell? ⟨g, i * 12 + 5, none⟩ = some (.int .i64 s.f3.f1) ∧ w'.cell? ⟨g, i * 12 + 6, none⟩ = some (.float .f64 s.f3.f2) ∧ w'.cell? ⟨g, i * 12 + 7, none⟩ = some (.string s.f3.f3) ∧ w'.cell? ⟨g, i * 12 + 8, none⟩ = some (.int .i64 s.f4.f0) ∧ w'.cell? ⟨g, i * 12 + 9, none⟩ = some (.int .i64 s.f4.f1) ∧ w'.cell? ⟨g, i * 12 + 10, none⟩ = some (.float .f64 s.f4.f2) ∧ w'.cell? ⟨g, i * 12 + 11, none⟩ = some (.string s.f4.f3)
theorem el30 {w : World} {base : Nat} {ok : Nat → Prop} {g n cap : Nat} {zs : List S30} (h : Kd.R k30 30 w base ok (.slice (some ⟨g, 0, none⟩) n cap) zs) (i : Nat) {s : S30} (hs : zs[i]? = some s) : El30 g i s w := by
  have hn := (Kd.R_reads' h).1
  have hi := (List.getElem?_eq_some_iff.1 hs).1
  obtain ⟨c, hc, hM, hcell, -⟩ := Kd.R_elem h z30 (i : Int) (by omega) (by omega)
  obtain rfl := k30_openM hM
  rw [Int.toNat_natCast, List.getD_eq_getElem?_getD, hs, Option.getD_some] at hcell
  exact ⟨hcell 0 _ rfl, hcell 1 _ rfl, hcell 2 _ rfl, hcell 3 _ rfl, hcell 4 _ rfl, hcell 5 _ rfl, hcell 6 _ rfl, hcell 7 _ rfl, hcell 8 _ rfl, hcell 9 _ rfl, hcell 10 _ rfl, hcell 11 _ rfl⟩
/-- What a turn does to a state. -/
def upd (turn : Nat) (i : Nat) (s : S30) : S30 := { s with f0 := wrap64 (wrap64 (s.f0 + i) + 1), f2 := ⟨s.f2.f0, (s.f2.f1 * 3) % 18446744073709551616⟩, f3 := if s.f3.f0 = 1 then { s.f3 with f1 := wrap64 (s.f3.f1 - turn) } else s.f3 }
theorem upd_ok {turn i : Nat} {s : S30} (h : okS s = true) : okS (upd turn i s) = true := by
  rw [okS_iff] at *
  obtain ⟨h1, h2, h3, h4⟩ := h
  refine ⟨?_, h2, ?_, ?_⟩
  · unfold upd
    dsimp only
    split <;> exact h1
  · show 0 ≤ (s.f2.f1 * 3) % 18446744073709551616; omega
  · show (s.f2.f1 * 3) % 18446744073709551616 < _; omega

theorem cells34 {w : World} {g : Nat} {s : S34} (h : w.heap[g]? = some (c34 s)) : Cells34 g s w :=
  ⟨(blk_cell h 0).trans rfl, (blk_cell h 1).trans rfl, (blk_cell h 2).trans rfl, (blk_cell h 3).trans rfl, (blk_cell h 4).trans rfl, (blk_cell h 5).trans rfl, (blk_cell h 6).trans rfl, (blk_cell h 7).trans rfl, (blk_cell h 8).trans rfl, (blk_cell h 9).trans rfl, (blk_cell h 10).trans rfl, (blk_cell h 11).trans rfl⟩
theorem El30.keep {g i : Nat} {s : S30} {wo w' : World} (hx : El30 g i s wo) (hg : g < wo.heap.size) (hb : Below wo.heap.size wo w') : El30 g i s w' := by
  obtain ⟨h0, h1, h2, h3, h4, h5, h6, h7, h8, h9, h10, h11⟩ := hx
  exact ⟨(hb.cell hg).trans h0, (hb.cell hg).trans h1, (hb.cell hg).trans h2, (hb.cell hg).trans h3, (hb.cell hg).trans h4, (hb.cell hg).trans h5, (hb.cell hg).trans h6, (hb.cell hg).trans h7, (hb.cell hg).trans h8, (hb.cell hg).trans h9, (hb.cell hg).trans h10, (hb.cell hg).trans h11⟩
theorem neq_mk (w : World) : (binOp .neq 30 (.agg #[.int .i64 mk.f0, .int .i64 mk.f1, .int .i64 mk.f2.f0, .int .u64 mk.f2.f1, .int .i64 mk.f3.f0, .int .i64 mk.f3.f1, .float .f64 mk.f3.f2, .string mk.f3.f3, .int .i64 mk.f4.f0, .int .i64 mk.f4.f1, .float .f64 mk.f4.f2, .string mk.f4.f3]) (.agg #[.int .i64 mk.f0, .int .i64 mk.f1, .int .i64 mk.f2.f0, .int .u64 mk.f2.f1, .int .i64 mk.f3.f0, .int .i64 mk.f3.f1, .float .f64 mk.f3.f2, .string mk.f3.f3, .int .i64 mk.f4.f0, .int .i64 mk.f4.f1, .float .f64 mk.f4.f2, .string mk.f4.f3])).run Try.prog w = .ok (.bool false) w := by kernel_rfl
theorem el34 {w : World} {base : Nat} {ok : Nat → Prop} {g n cap : Nat} {zs : List S34} (h : Kd.R k34 34 w base ok (.slice (some ⟨g, 0, none⟩) n cap) zs) (i : Nat) {s : S30} (hs : zs[i]? = some (toB s)) : El30 g i s w := by
  have hn := (Kd.R_reads' h).1
  have hi := (List.getElem?_eq_some_iff.1 hs).1
  obtain ⟨c, hc, hM, hcell, -⟩ := Kd.R_elem h z34 (i : Int) (by omega) (by omega)
  obtain rfl := k34_openM hM
  rw [Int.toNat_natCast, List.getD_eq_getElem?_getD, hs, Option.getD_some] at hcell
  exact ⟨hcell 0 _ rfl, hcell 1 _ rfl, hcell 2 _ rfl, hcell 3 _ rfl, hcell 4 _ rfl, hcell 5 _ rfl, hcell 6 _ rfl, hcell 7 _ rfl, hcell 8 _ rfl, hcell 9 _ rfl, hcell 10 _ rfl, hcell 11 _ rfl⟩
/-- What a round of the last loop keeps. -/
def Rn (w wo : World) (g b n cap c6 p : Nat) (ys zs : List S30) (wi : World) : Prop :=
  Kd.R k30 30 wi w.heap.size (fun k => k ≠ w.heap.size) (.slice (some ⟨g, 0, none⟩) (n + 2) cap) (zs ++ [mk, mk]) ∧ Kd.R k34 34 wi wo.heap.size (fun _ => True) (.slice (some ⟨b, 0, none⟩) n c6) (ys.map toB) ∧ wi.heap[w.heap.size]? = some (c30 mk) ∧ Below w.heap.size w wi
theorem Rn.drew {w wo : World} {g b n cap c6 p : Nat} {ys zs : List S30} {wi : World} (h : Rn w wo g b n cap c6 p ys zs wi) : Rn w wo g b n cap c6 p ys zs wi.drew := ⟨Kd.R_drew h.1, Kd.R_drew h.2.1, h.2.2.1, h.2.2.2.drew⟩
theorem Rn.below {w wo : World} {g b n cap c6 p : Nat} {ys zs : List S30} {wi w' : World} (h : Rn w wo g b n cap c6 p ys zs wi) (hb : Below wi.heap.size wi w') : Rn w wo g b n cap c6 p ys zs w' := ⟨Kd.R_below h.1 hb, Kd.R_below h.2.1 hb, blk_below h.2.2.1 hb, below_then h.2.2.2 h.2.2.2.size hb⟩
theorem Rn.set {w wo : World} {g b n cap c6 p : Nat} {ys zs : List S30} {wi : World} (h : Rn w wo g b n cap c6 p ys zs wi) (hg : g < wo.heap.size) (i : Nat) {s : S30} (hs : zs[i]? = some s) (j : Nat) (hj : j < 12) (v : Value) (s' : S30) (ha : (a30 s).setIfInBounds j v = a30 s') :
    Rn w wo g b n cap c6 p ys (zs.set i s') (wi.setCell ⟨g, i * 12 + j, none⟩ v) := by
  obtain ⟨h1, h2, h3, h4⟩ := h
  have hi := (List.getElem?_eq_some_iff.1 hs)
  obtain ⟨hi, hs'⟩ := hi
  have hgm : g ≠ w.heap.size := h1.1 g rfl
  have hgb : w.heap.size ≤ g := Kd.R_base h1 g rfl
  obtain ⟨hr, hgr⟩ := Rw.cell_ h1 i (by simp; omega) j hj v s' (fun c hc => by
    rw [List.getElem_append_left hi, hs'] at hc
    obtain rfl := k30_openM hc
    have e : (a30 s').toList = ((a30 s).toList).set j v := by rw [← ha]; simp
    have h5 := k30_mkM wi w.heap.size (fun k => k ≠ w.heap.size ∧ k ≠ g) s'
    exact e ▸ h5)
  refine ⟨?_, ?_, ?_, ?_⟩
  · rw [List.set_append_left _ _ hi] at hr
    exact hr
  · exact Kd.R_mono (Kd.R_far (p := ⟨g, i * 12 + j, none⟩) (Kd.R_bound h2) (fun k hk => by have := hk.2.1; show k ≠ g; omega) v) (fun _ _ => trivial)
  · exact (Below.heap_setCell _ _ _ _ (by show w.heap.size ≠ g; omega)).trans h3
  · exact h4.setCell (p := ⟨g, i * 12 + j, none⟩) hgb v
theorem now_step {ys : List S30} {n p : Nat} {e : S30} (hy : ys.length = n) (he : ys[p]? = some e) : (((ys.take p).map toB ++ List.replicate (n - p) z34).set p (toB e)) = (ys.take (p + 1)).map toB ++ List.replicate (n - (p + 1)) z34 := by
  obtain ⟨hp, he'⟩ := List.getElem?_eq_some_iff.1 he
  have h1 : n - p = (n - (p + 1)) + 1 := by omega
  rw [h1, List.replicate_succ, List.set_append_right _ _ (by simp; omega)]
  rw [List.take_succ_eq_append_getElem hp, List.map_append, he']
  have h2 : p - ((ys.take p).map toB).length = 0 := by simp; omega
  rw [h2, List.set_cons_zero]
  simp
theorem map_toB_toA (ys : List S30) : (ys.map toB).map toA = ys := by
  rw [List.map_map]
  exact List.map_id'' (fun x => toA_toB x) ys
theorem merge_toB (ys : List S30) : mergeR (ys.map toB) = toB (mergeA ys) := by
  have := toA_merge (ys.map toB)
  rw [map_toB_toA] at this
  rw [← this, toB_toA]
set_option maxRecDepth 100000 in
set_option maxHeartbeats 8000000 in
theorem law_calls (A0 : Option Addr) (c0 : Nat) (l0 : List S34) (w : World) (hr0 : Kd.C k34 w A0 l0.length l0) (hc0 : l0.length ≤ c0) (hok : okR l0 = true) (hlen : l0.length ≤ 1256584717450) :
    Calls Try.prog 3 #[.slice A0 l0.length c0] w fun e w' => e = .returned (.bool true) ∧ Below w.heap.size w w' := by
  have HR := Aside0.mk hr0
  have HC := Aside0.mk hc0
  have HOK := Aside0.mk hok
  have HL := Aside0.mk hlen
  clear hr0 hc0 hok hlen
  have hu30 := Try.underlying30
  go_enter Try.func3, Try.ntmps3
  go_upto_region 2 with (fail)
  have hm0 : (w.alloc (c30 mk)).heap[w.heap.size]? = some (c30 mk) := heap_alloc_new w _
  have hb0 : Below w.heap.size w (w.alloc (c30 mk)) := (Below.refl _ _).alloc (Nat.le_refl _) _
  refine Rm.begin_ (n := 7) (fun w' => w'.heap[w.heap.size]? = some (c30 mk) ∧ Below w.heap.size w w') [] ⟨hm0, hb0.drew⟩ (fun w1 hS => ?_)
  refine Rm.p_ 0 1 ?_
  refine Rm.d_ 2 5 (fun w' h => cells30 h.1) hS ?_
  refine Rm.d_ 3 13 (fun w' h => cells30 h.1) hS ?_
  refine Rm.join_ (σ := Value × Nat) 2 31 (fun s => [(12, s.1), (15, .slice (some ⟨s.2, 0, none⟩) 2 2)])
    (fun s w' => (w'.heap[w.heap.size]? = some (c30 mk) ∧ Below w.heap.size w w') ∧ Kd.R k30 30 w' w.heap.size (fun k => k ≠ w.heap.size ∧ k ≠ s.2) s.1 (l0.map toA) ∧ w'.heap[s.2]? = some (.cells (a30 mk ++ a30 mk) 30 (0, 0)) ∧ w.heap.size < s.2) (fun hcont => ?_) ?_
  · refine Rm.oo_ 1 4 15 29 (fun K hK => ?_) (fun K hK => ?_)
    · refine Rm.call_ (states_calls A0 c0 l0 w1 (Kd.C_below HR.out hS.2) HC.out HL.out) Try.func4 ?_
      rintro _ w2 ⟨v, rfl, hv, hb2⟩
      refine ⟨v, rfl, hK v w2 ⟨blk_below hS.1 hb2, below_step hS.2 hb2⟩ (fun hS2 => ?_)⟩
      refine Rm.o_ 4 31 (fun K2 hK2 => ?_)
      refine Rm.value_ ?_
      refine hK2 _ _ ⟨blk_alloc hS2.1 _, hS2.2.alloc hS2.2.size _⟩ (fun hS3 => ?_)
      have hc := hcont (v, w2.heap.size) (w2.alloc (.cells (a30 mk ++ a30 mk) 30)) ⟨hS3, ?_, heap_alloc_new w2 _, blk_lt hS2.1⟩
      · exact hc
      · have h1 := blk_lt hS.1
        have h2 := blk_lt hS2.1
        exact Kd.R_below (Kd.R_lower (Kd.R_mono (Kd.R_bound hv) (fun k hk => ⟨by have := hk.2.1; omega, by have := hk.2.2.1; show k ≠ w2.heap.size; omega⟩)) (by omega)) ((Below.refl _ _).alloc (Nat.le_refl _) _)
    · refine Rm.value_ ?_
      refine hK _ _ ⟨blk_alloc hS.1 _, hS.2.alloc hS.2.size _⟩ (fun hS2 => ?_)
      refine Rm.o_ 1 31 (fun K2 hK2 => ?_)
      refine Rm.call_ (states_calls A0 c0 l0 _ (Kd.C_below HR.out hS2.2) HC.out HL.out) Try.func4 ?_
      rintro _ w2 ⟨v, rfl, hv, hb2⟩
      refine ⟨v, rfl, hK2 v w2 ⟨blk_below hS2.1 hb2, below_step hS2.2 hb2⟩ (fun hS3 => ?_)⟩
      have hc := hcont (v, w1.heap.size) w2 ⟨hS3, ?_, blk_below (heap_alloc_new w1 _) hb2, blk_lt hS.1⟩
      · exact Rm.norm_ hc
      · have h1 := blk_lt hS.1
        exact Kd.R_lower (Kd.R_mono (Kd.R_bound hv) (fun k hk => ⟨by have := hk.2.1; simp at this; omega, by have := hk.2.1; simp at this; show k ≠ w1.heap.size; omega⟩)) (by simp; omega)
  · rintro ⟨v12, g15⟩ w2 ⟨hS2, hv, hg, hlt⟩
    dsimp only at hv hg hlt
    obtain ⟨A12, c12, rfl⟩ := Kd.R_slice hv
    rw [List.length_map] at hv ⊢
    have happ : ∃ g cap w3, (Builtin.append_ #[31, 31] 31 #[.slice A12 l0.length c12, .slice (some ⟨g15, 0, none⟩) 2 2]).run Try.prog w2 = .ok (.slice (some ⟨g, 0, none⟩) (l0.length + 2) cap) w3 ∧ Kd.R k30 30 w3 w.heap.size (fun k => k ≠ w.heap.size) (.slice (some ⟨g, 0, none⟩) (l0.length + 2) cap) (l0.map toA ++ [mk, mk]) ∧ (w3.heap[w.heap.size]? = some (c30 mk) ∧ Below w.heap.size w w3) := by
      have hlen := HL.out
      have hbd := Kd.R_bound hv
      obtain ⟨hok1, inner, ho, hr⟩ := hv
      obtain ⟨i, hi, he⟩ := Option.map_eq_some_iff.1 info30
      simp only [Prod.mk.injEq] at he
      obtain ⟨hz, hs, hby⟩ := he
      have hs' : i.size = 12 := hs
      rw [List.length_map] at ho
      obtain ⟨g, cap, w3, h1, h2, h3, h4, h5⟩ := run_append_lies (P := Try.prog) (w := w2) 31 31 w.heap.size 30 i _ 12 112 Try.underlying31 hi hz hs' hby rfl (by decide) _ l0.length inner ho ⟨g15, 0, none⟩ 2 2 (a30 mk ++ a30 mk).toList rfl (fun j u hu => by
        have := (blk_cell hg j).trans (by simpa using hu)
        by_cases h0 : j = 0 <;> simpa [Addr.add, h0] using this) (by decide) (by decide) (by simp [maxLen]; omega) (by omega) hS2.2.size _ rfl
      have hne : ∀ k, (Value.slice A12 l0.length c12).ownBlock = some k → k ≠ w.heap.size := fun k hk => (hok1 k hk).1
      refine ⟨g, cap, w3, h1, ⟨fun k hk => ?_, inner ++ (a30 mk ++ a30 mk).toList, ?_, ?_⟩, ?_, ?_⟩
      · have hk' : k = g := by simpa [Value.ownBlock] using hk.symm
        subst hk'
        rcases h4 with h4 | h4
        · exact hne _ h4
        · have := blk_lt hS2.1
          rw [h4]; omega
      · rw [show (l0.map toA ++ [mk, mk]).length = l0.length + 2 by simp]; exact h2
      · exact Kd.reps_append (hr.imp_ (fun p c hp => by rw [k30_openM hp]; exact k30_mkM _ _ _ p)) (Reps.snoc (Reps.snoc (Reps.none _ 12) (k30_mkM _ _ _ mk) rfl) (k30_mkM _ _ _ mk) rfl)
      · exact (h3.block _ (blk_lt hS2.1) (fun e => hne _ e.symm rfl)).trans hS2.1
      · exact hS2.2.grown h3 hS2.2.size (fun k hk => own_base ho k hk)
    obtain ⟨g, cap, w3, hrun, hR3, hS3⟩ := happ
    refine Rm.nrm_ ?_
    refine Rm.o_ 5 63 (fun K hK => ?_)
    refine Rm.append_ hrun (hK _ _ hS3 (fun hS4 => ?_))
    refine Rm.p_ 6 127 ?_
    refine Rm.end_ ?_
    clear hS hS2 hv hg hlt hrun hS3 hm0 hb0
    generalize hK0 : l0.map toA = y0 at hR3
    have HY : Aside0 (y0.length = l0.length ∧ okL y0 = true) := ⟨by rw [← hK0]; exact ⟨List.length_map .., HOK.out⟩⟩
    clear hK0
    have HX := Aside0.mk hR3
    have HM := Aside0.mk hS4.1
    have HB := Aside0.mk hS4.2
    clear hR3 hS4
    go_wp2_with fail
    go_loopw [5] (fun i wr => ∃ (x : Nat) (ys : List S30), i = .int .i64 x ∧ x ≤ 3 ∧ (ys.length = l0.length ∧ okL ys = true) ∧ Kd.R k30 30 wr w.heap.size (fun k => k ≠ w.heap.size) (.slice (some ⟨g, 0, none⟩) (l0.length + 2) cap) (ys ++ [mk, mk]) ∧ wr.heap[w.heap.size]? = some (c30 mk) ∧ Below w.heap.size w wr) (fun i wr => 3 - (intOf i).toNat)
    case atStart => exact ⟨0, y0, rfl, by omega, HY.out, HX.out, HM.out, HB.out⟩
    case round =>
      obtain ⟨x, ys, rfl, hx, hys, hR, hm, hb⟩ := hrel
      have HX := Aside0.mk hR
      have HM := Aside0.mk hm
      have HB := Aside0.mk hb
      have HYS := Aside0.mk hys
      clear hR hm hb hys
      have hlen := HL.out
      by_cases hlt : x < 3
      · go_wp2_with ((with_reducible refine gate_dst (N := 23) rfl ?_); go_loud (refine Kd.R_make k34 wr.heap.size 34 rfl (N := 23) rfl 22 _ _ rfl (l0.length : Int) rfl rfl Try.underlying22 zv34 112 inf34 rfl (by decide) (by omega) z34 (ok := fun _ => True) (okp := fun _ => True) (k34_mkM _ _ _ z34) (fun _ hk => hk) trivial (Int.natCast_nonneg _) (by rw [Int.toNat_natCast]; omega) (Below.refl _ _) (Nat.le_refl _) ?_); intro v6 w4 hN hb4 hg4 hn4)
        obtain ⟨b, hown, hbw⟩ := hn4
        obtain ⟨c6, rfl⟩ := Rw.head_ hN hown
        rw [List.length_replicate, Int.toNat_natCast] at hN ⊢
        have HN := Aside0.mk hN
        have HB4 := Aside0.mk hb4
        clear hN hb4 hg4 hown
        have HBW := Aside0.mk hbw
        obtain ⟨wo, hwo⟩ : ∃ wo : World, wo = wr := ⟨_, rfl⟩
        rw [← hwo] at HX HM HB HB4 HBW HN
        clear hwo hbw
        go_loopw [7] (fun i wi => ∃ (p : Nat), i = .int .i64 p ∧ p ≤ l0.length ∧ Kd.R k34 34 wi wo.heap.size (fun _ => True) (.slice (some ⟨b, 0, none⟩) l0.length c6) ((ys.take p).map toB ++ List.replicate (l0.length - p) z34) ∧ Below wo.heap.size wo wi) (fun i wr => l0.length - (intOf i).toNat)
        case atStart => exact ⟨0, rfl, Nat.zero_le _, by simpa using HN.out, HB4.out⟩
        case round =>
          obtain ⟨p, rfl, hp, hN, hB⟩ := hrel
          have HN := Aside0.mk hN
          have HB4 := Aside0.mk hB
          clear hN hB
          by_cases hlt2 : p < l0.length
          · obtain ⟨e, he⟩ : ∃ e, ys[p]? = some e := ⟨_, List.getElem?_eq_getElem (by rw [HYS.out.1]; exact hlt2)⟩
            have hx0 := el30 HX.out p ((List.getElem?_append_left (by rw [HYS.out.1]; exact hlt2)).trans he)
            have HE := Aside0.mk he
            obtain ⟨cur, hgh, -⟩ := Rw.block_ HX.out
            have hglt := blk_lt hgh
            have HK : Aside0 (∀ w', Below wo.heap.size wo w' → El30 g p e w') := ⟨fun w' hb => hx0.keep hglt hb⟩
            clear hx0 he hgh hglt cur
            have hq1 : (p : Int) < (l0.length : Int) + 2 := by omega
            go_upto_region 10 with (fail)
            refine Rg.begin_ (fun w' => Kd.R k34 34 w' wo.heap.size (fun _ => True) (.slice (some ⟨b, 0, none⟩) l0.length c6) ((ys.take p).map toB ++ List.replicate (l0.length - p) z34) ∧ Below wo.heap.size wo w') [36] ⟨Kd.R_drew HN.out, HB4.out.drew⟩ (fun w1 hS => ?_)
            iterate 6 refine Rg.p_ ?_
            refine Rg.d_ (fun w' h => HK.out w' h.2) hS ?_
            iterate 4 refine Rg.p_ ?_
            refine Rg.d_ (fun w' h => HK.out w' h.2) hS ?_
            iterate 5 refine Rg.p_ ?_
            refine Rg.d_ (fun w' h => HK.out w' h.2) hS ?_
            iterate 5 refine Rg.p_ ?_
            refine Rg.d_ (fun w' h => HK.out w' h.2) hS ?_
            iterate 4 refine Rg.p_ ?_
            refine Rg.d_ (fun w' h => HK.out w' h.2) hS ?_
            iterate 4 refine Rg.p_ ?_
            refine Rg.d_ (fun w' h => HK.out w' h.2) hS ?_
            iterate 2 refine Rg.p_ ?_
            obtain ⟨hst, hR2, hg2⟩ := Rw.put_ (P := Try.prog) hS.1 p (by have := HYS.out.1; simp; omega) (toB e) (v34 (toB e)) 34 (k34_mkM _ _ _ (toB e)) (by kernel_rfl)
            refine Rg.s_ (hrun := by simp [execOp, Act.eval]; exact (congrArg (Result.andThen · _) hst).trans rfl) ?_
            refine Rg.end_ ?_
            have HR2 := Aside0.mk hR2
            have HB5 := Aside0.mk (hS.2.grown hg2 (Nat.le_of_lt (Nat.lt_of_le_of_lt HBW.out (Kd.R_lt hS.1 b rfl))) (fun k hk => by cases hk; exact HBW.out))
            generalize w1.setCells b (p * k34.sz) (v34 (toB e)).cells.toList = w6 at HR2 HB5 ⊢
            clear hS hst hR2 hg2
            go_wp2_with fail
            go_roundw
            case rel => exact ⟨p + 1, by go_num, by omega, by rw [← now_step HYS.out.1 HE.out]; exact HR2.out, HB5.out⟩
            case measure => simp [intOf]; omega
          · obtain rfl : p = l0.length := by omega
            have HN2 : Aside0 (Kd.R k34 34 wr wo.heap.size (fun _ => True) (.slice (some ⟨b, 0, none⟩) l0.length c6) (ys.map toB)) := ⟨by have := HN.out; rwa [Nat.sub_self, List.replicate_zero, List.append_nil, List.take_of_length_le (by rw [HYS.out.1]; exact Nat.le_refl _)] at this⟩
            have hlB : (ys.map toB).length = l0.length := by rw [List.length_map]; exact HYS.out.1
            have hM := ref_Merge.calls (some ⟨b, 0, none⟩) c6 (ys.map toB) wr (Kd.R_reads' HN2.out).2.2 (by unfold okR; rw [map_toB_toA]; exact HYS.out.2) (by rw [hlB]; omega)
            rw [hlB, merge_toB] at hM
            have HMC := Aside0.mk hM
            clear hlB hM HN
            go_wp2_with fail
            refine HMC.out.mono ?_
            rintro _ w5 ⟨rfl, hb5⟩
            have HB6 : Aside0 (Below wo.heap.size wo (w5.alloc (c34 (toB (mergeA ys))))) := ⟨(below_then HB4.out (HB4.out.size) hb5).alloc (Nat.le_trans HB4.out.size hb5.size) _⟩
            have HN6 : Aside0 (Kd.R k34 34 (w5.alloc (c34 (toB (mergeA ys)))) wo.heap.size (fun _ => True) (.slice (some ⟨b, 0, none⟩) l0.length c6) (ys.map toB)) := ⟨Kd.R_alloc (Kd.R_below HN2.out hb5) _⟩
            have HW6 : Aside0 ((w5.alloc (c34 (toB (mergeA ys)))).heap[w5.heap.size]? = some (c34 (toB (mergeA ys)))) := ⟨heap_alloc_new w5 _⟩
            clear hb5 HN2 HMC HB4
            obtain ⟨cur, hgh, -, -, hcap2, -⟩ := Rw.block_ HX.out
            have HG := Aside0.mk (blk_lt hgh)
            have hcap : l0.length ≤ cap := by omega
            clear hgh cur hcap2
            have HE0 := Aside0.mk (el30 HX.out l0.length (s := mk) (by rw [List.getElem?_append_right (by rw [HYS.out.1]; exact Nat.le_refl _), HYS.out.1, Nat.sub_self]; rfl))
            have HE1 := Aside0.mk (el30 HX.out (l0.length + 1) (s := mk) (by rw [List.getElem?_append_right (by rw [HYS.out.1]; omega), HYS.out.1, Nat.add_sub_cancel_left]; rfl))
            have HAM := fun w (h : Kd.C k30 w (some ⟨g, 0, none⟩) l0.length ys) => agg_Merge.calls 1 (some ⟨g, 0, none⟩) cap ys _ _ _ _ _ _ _ _ _ _ _ _ w (by rw [HYS.out.1]; exact h) (by rw [HYS.out.1]; have := (Rw.block_ HX.out); obtain ⟨_, _, _, _, h4, _⟩ := this; omega) (show agg_Merge.f 1 ys = some (flatS (mergeA ys)) by unfold agg_Merge.f; rw [if_pos ⟨HYS.out.2, by rw [HYS.out.1]; omega⟩])
            rw [HYS.out.1] at HAM
            replace HAM := Aside0.mk HAM
            go_upto_region 12 with (fail)
            generalize w5.alloc (c34 (toB (mergeA ys))) = w6 at HB6 HN6 HW6 ⊢
            generalize w5.heap.size = q at HW6 ⊢
            have hn1 : (l0.length : Int) < (l0.length : Int) + 2 := by omega
            have hn2 : (l0.length : Int) + 1 < (l0.length : Int) + 2 := by omega
            have hnm := neq_mk
            have hw1 : IntKind.i64.wrap ((l0.length : Int) + 1) = (l0.length : Int) + 1 := Go.IntWalk.i64_in _ (by omega)
            have hw2 : ((l0.length : Int) + 1).toNat = l0.length + 1 := by omega
            have hw3 : (0 : Int) ≤ (l0.length : Int) + 1 := by omega
            refine Rm.begin_ (n := 27) (fun w' => w'.heap[q]? = some (c34 (toB (mergeA ys))) ∧ Kd.R k34 34 w' wo.heap.size (fun _ => True) (.slice (some ⟨b, 0, none⟩) l0.length c6) (ys.map toB) ∧ Below wo.heap.size wo w') [] ⟨HW6.out, Kd.R_drew HN6.out, HB6.out.drew⟩ (fun w1 hS => ?_)
            refine Rm.p_ 0 1 ?_
            refine Rm.p_ 1 3 ?_
            refine Rm.p_ 2 7 ?_
            refine Rm.p_ 3 15 ?_
            refine Rm.d_ 5 47 (fun w' h => cells34 h.1) hS ?_
            refine Rm.o_ 4 63 (fun K hK => ?_)
            refine Rm.call_ (HAM.out _ ?_) Try.func7 ?_
            · have hxr := (Kd.R_reads' (Kd.R_take (Kd.R_below HX.out hS.2.2) (m := l0.length) (by rw [List.length_append, HYS.out.1]; omega))).2.2
              rwa [List.take_left' HYS.out.1, HYS.out.1] at hxr
            rintro _ w7 ⟨rfl, hb7⟩
            refine ⟨_, rfl, hK _ _ ⟨blk_below hS.1 hb7, Kd.R_below hS.2.1 hb7, below_then hS.2.2 hS.2.2.size hb7⟩ (fun hS2 => ?_)⟩
            clear hK hS
            have hS := hS2
            clear hS2
            refine Rm.o_ 6 127 (fun K hK => ?_)
            refine Rm.call_ (same_calls (mergeA ys) _) Try.func6 ?_
            rintro _ w8 ⟨rfl, hb8⟩
            refine ⟨_, rfl, hK _ _ ⟨blk_below hS.1 hb8, Kd.R_below hS.2.1 hb8, below_then hS.2.2 hS.2.2.size hb8⟩ (fun hS2 => ?_)⟩
            clear hK hS
            have hS := hS2
            clear hS2
            refine Rm.p_ 7 255 ?_
            refine Rm.p_ 8 511 ?_
            refine Rm.p_ 9 1023 ?_
            refine Rm.p_ 10 2047 ?_
            refine Rm.p_ 11 4095 ?_
            refine Rm.p_ 12 8191 ?_
            refine Rm.d_ 13 16383 (fun w' h => HE0.out.keep HG.out h.2.2) hS ?_
            refine Rm.d_ 14 32767 (fun w' h => cells30 (blk_below HM.out h.2.2)) hS ?_
            refine Rm.p_ 15 65535 ?_
            refine Rm.p_ 16 131071 ?_
            refine Rm.p_ 17 262143 ?_
            refine Rm.p_ 18 524287 ?_
            refine Rm.p_ 19 1048575 ?_
            refine Rm.p_ 20 2097151 ?_
            refine Rm.p_ 21 4194303 ?_
            refine Rm.p_ 22 8388607 ?_
            refine Rm.d_ 23 16777215 (fun w' h => HE1.out.keep HG.out h.2.2) hS ?_
            refine Rm.d_ 24 33554431 (fun w' h => cells30 (blk_below HM.out h.2.2)) hS ?_
            refine Rm.p_ 25 67108863 ?_
            refine Rm.p_ 26 134217727 ?_
            refine Rm.end_ ?_
            clear hnm hw1 hw2 hw3 HAM HE0 HE1 hn1 hn2
            have HS9 := Aside0.mk hS
            clear hS HN6 HB6 HW6
            go_wp2_with fail
            have HRn : Aside0 (∀ w9, (w9.heap[q]? = some (c34 (toB (mergeA ys))) ∧ Kd.R k34 34 w9 wo.heap.size (fun _ => True) (.slice (some ⟨b, 0, none⟩) l0.length c6) (ys.map toB) ∧ Below wo.heap.size wo w9) → Rn w wo g b l0.length cap c6 0 ys ys w9) := ⟨fun w9 h9 => ⟨Kd.R_below HX.out h9.2.2, h9.2.1, blk_below HM.out h9.2.2, below_then HB.out HB.out.size h9.2.2⟩⟩
            go_loopw [9] (fun i wi => ∃ (p : Nat) (zs : List S30), i = .int .i64 p ∧ p ≤ l0.length ∧ (zs.length = l0.length ∧ okL zs = true ∧ ∀ i, p ≤ i → zs[i]? = ys[i]?) ∧ Rn w wo g b l0.length cap c6 0 ys zs wi) (fun i wr => l0.length - (intOf i).toNat)
            case atStart => exact ⟨0, ys, rfl, Nat.zero_le _, ⟨HYS.out.1, HYS.out.2, fun _ _ => rfl⟩, HRn.out _ HS9.out⟩
            case round =>
              clear HS9 HRn
              obtain ⟨p, zs, rfl, hp, hz, hR⟩ := hrel
              have HZ := Aside0.mk hz
              have HR9 := Aside0.mk hR
              clear hz hR
              by_cases hlt2 : p < l0.length
              · obtain ⟨e, he⟩ : ∃ e, ys[p]? = some e := ⟨_, List.getElem?_eq_getElem (by rw [HYS.out.1]; exact hlt2)⟩
                have HE : Aside0 ((zs ++ [mk, mk])[p]? = some e) := ⟨(List.getElem?_append_left (by rw [HZ.out.1]; exact hlt2)).trans ((HZ.out.2.2 p (Nat.le_refl _)).trans he)⟩
                have HEZ : Aside0 (zs[p]? = some e) := ⟨(HZ.out.2.2 p (Nat.le_refl _)).trans he⟩
                have HE2 : Aside0 ((ys.map toB)[p]? = some (toB e)) := ⟨by rw [List.getElem?_map, he]; rfl⟩
                have HOKE : Aside0 (okS e = true) := ⟨by obtain ⟨h1, h2⟩ := List.getElem?_eq_some_iff.1 he; rw [← h2]; exact okL_get HYS.out.2 p h1⟩
                clear he
                have hq1 : (p : Int) < (l0.length : Int) + 2 := by omega
                go_upto_region 17 with (fail)
                refine Rg.begin_ (Rn w wo g b l0.length cap c6 0 ys zs) [] HR9.out.drew (fun w1 hS => ?_)
                iterate 3 refine Rg.p_ ?_
                refine Rg.d_ (fun w' h => el30 h.1 p HE.out) hS ?_
                iterate 3 refine Rg.p_ ?_
                refine Rg.d_ (fun w' h => el34 h.2.1 p HE2.out) hS ?_
                refine Rg.c_ (same_calls e _) Try.func6 ?_
                rintro _ w8 ⟨rfl, hb8⟩
                refine ⟨_, rfl, hS.below hb8, fun hS => ?_⟩
                iterate 1 refine Rg.p_ ?_
                refine Rg.end_ ?_
                clear HR9
                have HR9 := Aside0.mk hS
                clear hS
                clear hb8
                have hgl : g < wo.heap.size := HG.out
                have c0' := (el30 HR9.out.1 p HE.out).1
                have f0' : w8.frozen? ⟨g, p * 12, none⟩ = false := by obtain ⟨cur, h, -⟩ := Rw.block_ HR9.out.1; exact blk_frozen h _
                go_upto_region 20 with (fail)
                clear c0' f0'
                obtain ⟨e1, he1⟩ : ∃ e1 : S30, e1 = { e with f0 := wrap64 (wrap64 (e.f0 + p) + 1) } := ⟨_, rfl⟩
                have HR1 : Aside0 (Rn w wo g b l0.length cap c6 0 ys (zs.set p e1) (w8.setCell ⟨g, p * 12, none⟩ (.int .i64 (wrap64 (wrap64 (e.f0 + p) + 1))))) := ⟨by rw [he1]; exact HR9.out.set hgl p HEZ.out 0 (by decide) _ _ rfl⟩
                have HEZ1 : Aside0 ((zs.set p e1)[p]? = some e1 ∧ (zs.set p e1 ++ [mk, mk])[p]? = some e1) := ⟨by
                  have h1 : (zs.set p e1)[p]? = some e1 := List.getElem?_set_self (by rw [HZ.out.1]; exact hlt2)
                  exact ⟨h1, (List.getElem?_append_left (by rw [List.length_set, HZ.out.1]; exact hlt2)).trans h1⟩⟩
                have HO1 : Aside0 (okS e1 = true ∧ (zs.set p e1).length = l0.length ∧ zs.set p e1 = zs.set p e1) := ⟨by rw [he1]; exact HOKE.out, by rw [List.length_set]; exact HZ.out.1, rfl⟩
                generalize w8.setCell ⟨g, p * 12, none⟩ (.int .i64 (wrap64 (wrap64 (e.f0 + p) + 1))) = w10 at HR1 ⊢
                clear he1 HR9 HE HEZ HE2 HOKE
                have c3' := (el30 HR1.out.1 p HEZ1.out.2).2.2.2.1
                have f3' : w10.frozen? ⟨g, p * 12 + 3, none⟩ = false := by obtain ⟨cur, h, -⟩ := Rw.block_ HR1.out.1; exact blk_frozen h _
                go_upto_region 21 with (fail)
                clear c3' f3'
                obtain ⟨e2, he2⟩ : ∃ e2 : S30, e2 = { e1 with f2 := ⟨e1.f2.f0, IntKind.u64.wrap (e1.f2.f1 * 3)⟩ } := ⟨_, rfl⟩
                have HR2 : Aside0 (Rn w wo g b l0.length cap c6 0 ys ((zs.set p e1).set p e2) (w10.setCell ⟨g, p * 12 + 2 + 1, none⟩ (.int .u64 (IntKind.u64.wrap (e1.f2.f1 * 3))))) := ⟨by rw [he2]; exact HR1.out.set hgl p HEZ1.out.1 3 (by decide) _ _ rfl⟩
                have HEZ2 : Aside0 (((zs.set p e1).set p e2)[p]? = some e2 ∧ ((zs.set p e1).set p e2 ++ [mk, mk])[p]? = some e2) := ⟨by
                  have h1 : ((zs.set p e1).set p e2)[p]? = some e2 := List.getElem?_set_self (by rw [HO1.out.2.1]; exact hlt2)
                  exact ⟨h1, (List.getElem?_append_left (by rw [List.length_set, HO1.out.2.1]; exact hlt2)).trans h1⟩⟩
                have HO2 : Aside0 (okS e2 = true) := ⟨by
                  rw [he2]
                  have h := (okS_iff e1).1 HO1.out.1
                  rw [okS_iff]
                  have e : ∀ x, IntKind.u64.wrap x = x % 18446744073709551616 := fun x => by simp [IntKind.wrap, IntKind.signed, IntKind.bits]
                  refine ⟨h.1, h.2.1, ?_, ?_⟩
                  · show 0 ≤ IntKind.u64.wrap _; rw [e]; omega
                  · show IntKind.u64.wrap _ < _; rw [e]; omega⟩
                have HFR : Aside0 (∀ e3 : S30, okS e3 = true → (((zs.set p e1).set p e2).set p e3).length = l0.length ∧ okL (((zs.set p e1).set p e2).set p e3) = true ∧ ∀ i, p + 1 ≤ i → (((zs.set p e1).set p e2).set p e3)[i]? = ys[i]?) := ⟨fun e3 h3 => by
                  rw [List.set_set, List.set_set]
                  refine ⟨by rw [List.length_set]; exact HZ.out.1, ?_, fun i hi => ?_⟩
                  · have := HZ.out.2.1
                    unfold okL at this ⊢
                    rw [List.all_eq_true] at this ⊢
                    intro y hy
                    rcases List.mem_or_eq_of_mem_set hy with hy | hy
                    · exact this y hy
                    · rw [hy]; exact h3
                  · rw [List.getElem?_set_ne (by omega)]
                    exact HZ.out.2.2 i (by omega)⟩
                generalize (zs.set p e1).set p e2 = zt at HR2 HEZ2 HFR
                generalize w10.setCell ⟨g, p * 12 + 2 + 1, none⟩ (.int .u64 (IntKind.u64.wrap (e1.f2.f1 * 3))) = w11 at HR2 ⊢
                clear he2 HR1 HEZ1 HO1
                have HSS := Aside0.mk (show zt.set p e2 = zt from by obtain ⟨h, he⟩ := List.getElem?_eq_some_iff.1 HEZ2.out.1; rw [← he]; exact List.set_getElem_self _)
                have c4' := (el30 HR2.out.1 p HEZ2.out.2).2.2.2.2.1
                by_cases hk : e2.f3.f0 = 1
                · have hk' : (e2.f3.f0 == 1) = true := by simpa using hk
                  clear hk
                  have c5' := (el30 HR2.out.1 p HEZ2.out.2).2.2.2.2.2.1
                  have f5' : w11.frozen? ⟨g, p * 12 + 4 + 1, none⟩ = false := by obtain ⟨cur, h, -⟩ := Rw.block_ HR2.out.1; exact blk_frozen h _
                  go_wp2_with fail
                  go_roundw
                  case rel => exact ⟨p + 1, _, by go_num, by omega, HFR.out { e2 with f3 := ⟨e2.f3.f0, wrap64 (e2.f3.f1 - x), e2.f3.f2, e2.f3.f3⟩ } HO2.out, HR2.out.set hgl p HEZ2.out.1 5 (by decide) _ _ rfl⟩
                  case measure => simp [intOf]; omega
                · have hk' : (e2.f3.f0 == 1) = false := by simpa using hk
                  clear hk
                  go_wp2_with fail
                  go_roundw
                  case rel => exact ⟨p + 1, zt, by go_num, by omega, by have := HFR.out e2 HO2.out; rwa [HSS.out] at this, HR2.out⟩
                  case measure => simp [intOf]; omega
              · have HEND : Aside0 (Kd.R k30 30 wr w.heap.size (fun k => k ≠ w.heap.size) (.slice (some ⟨g, 0, none⟩) (l0.length + 2) cap) (zs ++ [mk, mk]) ∧ wr.heap[w.heap.size]? = some (c30 mk) ∧ Below w.heap.size w wr) := ⟨⟨HR9.out.1, HR9.out.2.2.1, HR9.out.2.2.2⟩⟩
                go_wp2_with fail
                go_roundw
                case rel => exact ⟨x + 1, zs, by go_num, by omega, ⟨HZ.out.1, HZ.out.2.1⟩, HEND.out.1, HEND.out.2.1, HEND.out.2.2⟩
                case measure => simp [intOf]; omega
      · go_wp2_with fail
        go_ret
        exact ⟨rfl, HB.out⟩
end Go.Proofs.Ytgpkjdjjjenhcaa.Q
