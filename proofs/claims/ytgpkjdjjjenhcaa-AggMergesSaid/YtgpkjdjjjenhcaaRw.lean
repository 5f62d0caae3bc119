/- Small words of this session for rows of structs (Kd.R): an element is stored whole, or a cell of it. Plain lemmas. -/
import Derived.Test.YtgpkjdjjjenhcaaWMore
import Derived.KernelRfl
namespace Go.Proofs.Ytgpkjdjjjenhcaa.Rw
open Go.RowKit Go.Proofs.YtgpkjdjjjenhcaaW.PrintWords Go.Proofs.YtgpkjdjjjenhcaaW.PrintLast Go.Proofs.YtgpkjdjjjenhcaaW.PrintMore
variable {α : Type} {d : Kd α} {e base : Nat} {ok : Nat → Prop} {w : World} {g n cap : Nat} {xs : List α}
theorem head_ {v : Value} (h : d.R e w base ok v xs) {b : Nat} (hb : v.ownBlock = some b) : ∃ cap, v = .slice (some ⟨b, 0, none⟩) xs.length cap := by
  obtain ⟨_, inner, ho, hr⟩ := h
  rcases ho.2 with ⟨rfl, _⟩ | ⟨g, cap, cur, rfl, _⟩
  · simp [Value.ownBlock] at hb
  · obtain rfl : g = b := by simpa [Value.ownBlock] using hb
    exact ⟨cap, rfl⟩
/-- The block of a row. -/
theorem block_ (h : d.R e w base ok (.slice (some ⟨g, 0, none⟩) n cap) xs) : ∃ cur, w.heap[g]? = some (.cells cur e (0, 0)) ∧ cur.size = cap * d.sz ∧ n = xs.length ∧ n ≤ cap ∧ base ≤ g := by
  have hn := (Kd.R_reads' h).1
  obtain ⟨_, inner, ho, hr⟩ := h
  rcases ho.2 with ⟨hv, _⟩ | ⟨g', cap', cur, hv, hb, hh, hnc', hcm, hcs, ht⟩
  · cases hv
  injection hv with ha _ hc
  injection ha with ha
  injection ha with hg
  subst hg; subst hc
  exact ⟨cur, hh, hcs, hn, by omega, hb⟩
/-- Element i is stored whole. -/
theorem put_ {P : Program} (h : d.R e w base ok (.slice (some ⟨g, 0, none⟩) n cap) xs) (i : Nat) (hi : i < xs.length) (x' : α) (u : Value) (t : TypeId) (hu : d.M w base (fun k => ok k ∧ k ≠ g) x' u.cells.toList) (ht : (P.info? t).map (·.size) = some d.sz) :
    (Instr.storeAt t (.pointer (some ⟨g, i * d.sz, none⟩)) u).run P w = .ok () (w.setCells g (i * d.sz) u.cells.toList) ∧ d.R e (w.setCells g (i * d.sz) u.cells.toList) base ok (.slice (some ⟨g, 0, none⟩) n cap) (xs.set i x') ∧ w.grownBy (w.setCells g (i * d.sz) u.cells.toList) (some g) := by
  obtain ⟨cur, hh, hcs, hn, hnc, hb⟩ := block_ h
  have hl : u.cells.toList.length = d.sz := d.K_len (d.K_of_M hu)
  have hfit : i * d.sz + d.sz ≤ cur.size := by
    rw [hcs, ← Nat.succ_mul]
    exact Nat.mul_le_mul_right _ (by omega)
  have h1 := run_store_run (P := P) t u u.cells.toList hh (o := i * d.sz) rfl (by rw [ht, hl]) (by rw [hl]; exact hfit) (d.K_one (d.K_of_M hu))
  obtain ⟨c, hc, _, hcell, _⟩ := Kd.R_elem h x' (i : Int) (by omega) (by omega)
  have h2 := Kd.R_seg h (i : Int) (by omega) (by omega) (c := c) (seg := u.cells.toList) (j := 0) hc hcell (by omega) (x' := x') (okp := fun k => ok k ∧ k ≠ g) (by rw [hl, List.take_zero, List.nil_append, Nat.zero_add, List.drop_of_length_le (by omega), List.append_nil]; exact hu) (fun k hk => hk)
  exact ⟨h1, h2⟩
/-- A cell of element i is stored. -/
theorem cell_ (h : d.R e w base ok (.slice (some ⟨g, 0, none⟩) n cap) xs) (i : Nat) (hi : i < xs.length) (j : Nat) (hj : j < d.sz) (v : Value) (x' : α) (hM : ∀ c, d.M w base (fun k => ok k ∧ k ≠ g) (xs[i]'hi) c → d.M w base (fun k => ok k ∧ k ≠ g) x' (c.set j v)) :
    d.R e (w.setCell ⟨g, i * d.sz + j, none⟩ v) base ok (.slice (some ⟨g, 0, none⟩) n cap) (xs.set i x') ∧ w.grownBy (w.setCell ⟨g, i * d.sz + j, none⟩ v) (some g) := by
  obtain ⟨cur, hh, hcs, hn, hnc, hb⟩ := block_ h
  obtain ⟨c, hc, hM0, hcell, _⟩ := Kd.R_elem h x' (i : Int) (by omega) (by omega)
  have hx : xs.getD ((i : Int)).toNat x' = xs[i]'hi := by simp [List.getD_eq_getElem?_getD, List.getElem?_eq_getElem hi]
  rw [hx] at hM0
  have h3 := hM c hM0
  rw [List.set_eq_take_append_cons_drop, if_pos (by omega)] at h3
  exact Kd.R_seg h (i : Int) (by omega) (by omega) (c := c) (seg := [v]) (j := j) hc hcell (by simp; omega) (x' := x') (okp := fun k => ok k ∧ k ≠ g) (by simpa using h3) (fun k hk => hk)
end Go.Proofs.Ytgpkjdjjjenhcaa.Rw
