/- Small words of this session: what comes in, opened: out of the form's own reading of an argument (DataW.trod), by its type's shape, the words 'Kd' of the print, and what its numbers and sizes are bound by. Plain lemmas. -/
import Derived.Test.YtgpkjdjjjenhcaaWWords
import Derived.Deep.Slices
import Derived.Deep.Fields
import Derived.ChangeSame
import Derived.SizedLaws
import Derived.ProofKit
namespace Go.Proofs.Ytgpkjdjjjenhcaa.Opn
open Go.RowKit Go.ChangeShapes Go.WideShapes Go.Deep Go.Proofs.YtgpkjdjjjenhcaaW.PrintWords
section
variable {H : Type} {enc : TypeId × Value → H} {P : Program} {w : World} {base : Nat} {spare : Nat → Bool} {held : Bool}
/-- A type's reading gives what d says, and G. -/
def Opens (enc : TypeId × Value → H) (P : Program) (w : World) (base : Nat) (spare : Nat → Bool) (held : Bool) (t : TypeId) {α : Type} (d : Kd α) (G : α → Prop) : Prop :=
  ∀ fuel cs x, DataW.trod enc P w base spare held fuel t cs = some x → cs.length = d.sz ∧ ∃ a, d.K w a cs ∧ ((∀ n ∈ x.1.weights P t, n ≤ reachBytes) → G a)
theorem opens_imp {t : TypeId} {α : Type} {d : Kd α} {G G' : α → Prop} (h : Opens enc P w base spare held t d G) (hg : ∀ a, G a → G' a) : Opens enc P w base spare held t d G' := fun fuel cs x hx => by
  obtain ⟨hl, a, hk, hG⟩ := h fuel cs x hx
  exact ⟨hl, a, hk, fun hn => hg a (hG hn)⟩
theorem opens_int {t : TypeId} {k : IntKind} (ht : P.underlying t = some (.int k)) : Opens enc P w base spare held t (Kd.int k) (fun n => (Lit.int k n).wf = true) := fun fuel cs x hx => by
  obtain ⟨n, rfl, rfl, hw⟩ := DataW.trod_int ht hx
  exact ⟨rfl, n, rfl, fun _ => hw⟩
theorem opens_bool {t : TypeId} (ht : P.underlying t = some .bool) : Opens enc P w base spare held t Kd.bool (fun _ => True) := fun fuel cs x hx => by
  obtain ⟨n, rfl, rfl⟩ := DataW.trod_bool ht hx
  exact ⟨rfl, n, rfl, fun _ => trivial⟩
theorem opens_string {t : TypeId} (ht : P.underlying t = some .string) : Opens enc P w base spare held t Kd.string (fun s => s.size ≤ 140737488351232) := fun fuel cs x hx => by
  obtain ⟨n, rfl, rfl, hw⟩ := DataW.trod_string ht hx
  exact ⟨rfl, n, rfl, fun h => by have := h n.data.toList.length (by simp [DataW.weights]); rw [Array.length_toList] at this; exact this⟩
theorem trod_f64 {fuel : Nat} {t : TypeId} {cs : List Value} {x : DataW H × List MemPlace} (ht : P.underlying t = some (.float .f64)) (h : DataW.trod enc P w base spare held fuel t cs = some x) : ∃ b, cs = [.float .f64 b] ∧ x = (.lit (.float .f64 b), []) ∧ b < 2 ^ 64 := by
  cases fuel with
  | zero => simp [DataW.trod] at h
  | succ n =>
    unfold DataW.trod at h
    rw [ht] at h
    split at h <;> simp_all
    rename_i hk
    rw [← hk] at h
    have h2 := h.1
    simp [Lit.wf] at h2
    exact h2.2
theorem chosen {α : Type} {Q : Nat → α → Prop} : ∀ n, (∀ i, i < n → ∃ a, Q i a) → ∃ l : List α, l.length = n ∧ ∀ i a, l[i]? = some a → Q i a
  | 0, _ => ⟨[], rfl, fun i a h => by simp at h⟩
  | n + 1, h => by
    obtain ⟨l, hl, hq⟩ := chosen n (fun i hi => h i (by omega))
    obtain ⟨a, ha⟩ := h n (by omega)
    refine ⟨l ++ [a], by simp [hl], fun i b hb => ?_⟩
    rcases Nat.lt_or_ge i n with hi | hi
    · rw [List.getElem?_append_left (by omega)] at hb
      exact hq i b hb
    · rw [List.getElem?_append_right (by omega)] at hb
      have : i - l.length = 0 := by
        have := (List.getElem?_eq_some_iff.1 hb).1
        simp at this; omega
      rw [this] at hb
      obtain rfl : a = b := by simpa using hb
      obtain rfl : i = n := by omega
      exact ha
theorem opens_f64 {t : TypeId} (kd : Kd Nat) (hkd : kd = Kd.scalar (Value.float .f64) (fun _ => rfl)) (ht : P.underlying t = some (.float .f64)) : Opens enc P w base spare held t kd (fun b => b < 2 ^ 64) := fun fuel cs x hx => by
  obtain ⟨b, rfl, rfl, hw⟩ := trod_f64 ht hx
  subst hkd
  exact ⟨rfl, b, rfl, fun _ => hw⟩
theorem opens_slice {t e : TypeId} {α : Type} {d : Kd α} {G : α → Prop} (ht : P.underlying t = some (.slice e)) (hc : P.cellsOf e = d.sz) (h : Opens enc P w base spare held e d G) : Opens enc P w base spare held t (Kd.slice e d) (fun xs => xs.length * P.bytesOf e ≤ 140737488351232 ∧ ∀ a ∈ xs, G a) := fun fuel cs x hx => by
  rcases open_slice ht hx with ⟨rfl, rfl⟩ | ⟨ad, len, cap, m, n, D, Pl, rfl, hb, hl, hm, hmm, rfl, hi⟩
  · exact ⟨rfl, [], ⟨none, 0, rfl, Nat.le_refl _, Kd.C_nil d w⟩, fun _ => ⟨by simp, fun a ha => by cases ha⟩⟩
  · have hlm : len ≤ m := by rw [hmm]; split <;> omega
    have key : ∀ i, i < len → ∃ a : α, (∃ cs', cs'.length = d.sz ∧ d.K w a cs' ∧ ∀ j u, cs'[j]? = some u → w.cell? (ad.add (i * d.sz + j)) = some u) ∧ ((∀ n ∈ (D i).weights P e, n ≤ reachBytes) → G a) := fun i hil => by
      obtain ⟨cs', hcs, htr⟩ := hi i (by omega)
      obtain ⟨hl', a, hk, hG⟩ := h n cs' _ htr
      obtain ⟨_, hcl, hat⟩ := World.cells?_some hcs
      refine ⟨a, ⟨cs', hl', hk, fun j u hu => ?_⟩, hG⟩
      have hj : j < cs'.length := (List.getElem?_eq_some_iff.1 hu).1
      have := hat j (by omega)
      rw [hc, Go.Deep.add_add] at this
      rw [this, hu]
    obtain ⟨l, hll, hq⟩ := chosen len key
    refine ⟨rfl, l, ⟨some ad, cap, by rw [hll], by rw [hll]; exact hl, ?_⟩, fun hn => ⟨?_, fun a ha => ?_⟩⟩
    · exact ⟨rfl, by rw [hll]; unfold maxLen at hm; omega, fun _ => ⟨ad, rfl, fun j p hp => (hq j p hp).1⟩⟩
    · have h1 := hn ((((List.range len).map D).length + ((List.range (m - len)).map fun j => D (len + j)).length) * P.bytesOf e) (by simp only [DataW.weights, ht]; exact List.mem_cons_self)
      rw [List.length_map, List.length_range] at h1
      rw [hll]
      exact Nat.le_trans (Nat.mul_le_mul_right _ (Nat.le_add_right _ _)) h1
    · obtain ⟨i, hia⟩ := List.getElem?_of_mem ha
      have hil : i < len := by have := (List.getElem?_eq_some_iff.1 hia).1; omega
      refine (hq i a hia).2 (fun n hn' => hn n ?_)
      simp only [DataW.weights, ht, List.mem_cons, List.mem_append]
      refine .inr (.inl ?_)
      have : ∀ l : List (DataW H), D i ∈ l → n ∈ DataW.weightsAll P e l := by
        intro l
        induction l with
        | nil => intro h; cases h
        | cons y r ih =>
          intro h
          simp only [DataW.weightsAll, List.mem_append]
          rcases List.mem_cons.1 h with h | h
          · exact .inl (h ▸ hn')
          · exact .inr (ih h)
      exact this _ (List.mem_map.2 ⟨i, by simpa using hil, rfl⟩)
/-- The fields of a struct, one behind the other. -/
def OpensS (enc : TypeId × Value → H) (P : Program) (w : World) (base : Nat) (spare : Nat → Bool) (held : Bool) (ts : List TypeId) {α : Type} (d : Kd α) (G : α → Prop) : Prop :=
  ∀ (n : Nat) (cs : List Value) (xs : List (DataW H × List MemPlace)), cs.length = (ts.map P.cellsOf).sum → xs.length = ts.length → (∀ (i : Nat) t, ts[i]? = some t → DataW.trod enc P w base spare held n t ((cs.drop ((ts.take i).map P.cellsOf).sum).take (P.cellsOf t)) = xs[i]?) →
    cs.length = d.sz ∧ ∃ a, d.K w a cs ∧ ((∀ n ∈ DataW.weightsEach P ts (xs.map (·.1)), n ≤ reachBytes) → G a)
theorem opensS_one {t : TypeId} {α : Type} {d : Kd α} {G : α → Prop} (h : Opens enc P w base spare held t d G) : OpensS enc P w base spare held [t] d G := fun n cs xs hl hx ht => by
  obtain ⟨x, rfl⟩ : ∃ x, xs = [x] := by
    match xs, hx with
    | [x], _ => exact ⟨x, rfl⟩
  have h0 := ht 0 t rfl
  simp only [List.map_cons, List.map_nil, List.sum_cons, List.sum_nil, Nat.add_zero] at hl
  rw [List.take_zero, List.map_nil, List.sum_nil, List.drop_zero, List.take_of_length_le (by omega)] at h0
  obtain ⟨h1, a, hk, hG⟩ := h n cs x (by simpa using h0)
  exact ⟨h1, a, hk, fun hn => hG (fun m hm => hn m (by simp [DataW.weightsEach, hm]))⟩
theorem opensS_cons {t : TypeId} {ts : List TypeId} {α β : Type} {d : Kd α} {d' : Kd β} {G : α → Prop} {G' : β → Prop} (h : Opens enc P w base spare held t d G) (h' : OpensS enc P w base spare held ts d' G') : OpensS enc P w base spare held (t :: ts) (Kd.pair d d') (fun x => G x.1 ∧ G' x.2) := fun n cs xs hl hx ht => by
  obtain ⟨x, xs, rfl⟩ : ∃ x r, xs = x :: r := by
    match xs, hx with
    | x :: r, _ => exact ⟨x, r, rfl⟩
  have h0 := ht 0 t rfl
  simp only [List.map_cons, List.sum_cons] at hl
  rw [List.take_zero, List.map_nil, List.sum_nil, List.drop_zero] at h0
  obtain ⟨h1, a, hk, hG⟩ := h n _ x (by simpa using h0)
  obtain ⟨h2, b, hk', hG'⟩ := h' n (cs.drop (P.cellsOf t)) xs (by rw [List.length_drop]; omega) (by simpa using hx) (fun i t' hi => by
    have := ht (i + 1) t' (by simpa using hi)
    rw [List.take_succ_cons, List.map_cons, List.sum_cons, List.getElem?_cons_succ, ← List.drop_drop] at this
    exact this)
  rw [List.length_take] at h1
  rw [List.length_drop] at h2
  refine ⟨by show cs.length = d.sz + d'.sz; omega, (a, b), ⟨_, _, (List.take_append_drop (P.cellsOf t) cs).symm, hk, hk'⟩, fun hn => ⟨hG (fun m hm => hn m ?_), hG' (fun m hm => hn m ?_)⟩⟩
  · simp only [List.map_cons, DataW.weightsEach, List.mem_append]; exact .inl hm
  · simp only [List.map_cons, DataW.weightsEach, List.mem_append]; exact .inr hm
/-- The places of the fields are as they follow one another. -/
def offsB (P : Program) : Nat → List Field → Bool
  | _, [] => true
  | o, f :: r => f.offset == o && offsB P (o + P.cellsOf f.type) r
theorem offs_of {P : Program} : ∀ {fs : List Field} {o : Nat}, offsB P o fs = true → ∀ (i : Nat) (f : Field), fs[i]? = some f → f.offset = o + (((fs.map (·.type)).take i).map P.cellsOf).sum
  | [], _, _, i, f, hf => by simp at hf
  | g :: r, o, h, 0, f, hf => by
    simp only [offsB, Bool.and_eq_true, beq_iff_eq] at h
    obtain rfl : g = f := by simpa using hf
    simpa using h.1
  | g :: r, o, h, i + 1, f, hf => by
    simp only [offsB, Bool.and_eq_true, beq_iff_eq] at h
    have := offs_of h.2 i f (by simpa using hf)
    simp only [List.map_cons, List.take_succ_cons, List.sum_cons]
    omega
theorem opens_struct {t : TypeId} {fs : Array Field} {α : Type} {d : Kd α} {G : α → Prop} (ht : P.underlying t = some (.struct fs)) (hc : P.cellsOf t = ((fs.toList.map (·.type)).map P.cellsOf).sum) (ho : offsB P 0 fs.toList = true) (h : OpensS enc P w base spare held (fs.toList.map (·.type)) d G) : Opens enc P w base spare held t d G := fun fuel cs x hx => by
  obtain ⟨xs, n, rfl, rfl, hl, hxl, hf⟩ := DataW.trod_struct ht hx
  obtain ⟨h1, a, hk, hG⟩ := h n cs xs (hl.trans hc) (by simpa using hxl) (fun i t' hi => by
    rw [List.getElem?_map] at hi
    obtain ⟨f, hi', rfl⟩ := Option.map_eq_some_iff.1 hi
    have := offs_of ho i f hi'
    rw [Nat.zero_add] at this
    rw [← hf i f (by simpa using hi'), this])
  exact ⟨h1, a, hk, fun hn => hG (fun m hm => hn m (by simp only [DataW.weights, ht]; exact hm))⟩
theorem opens_iso {t : TypeId} {α β : Type} {d : Kd α} {G : α → Prop} {f : β → α} (g : α → β) (hg : ∀ a, f (g a) = a) (h : Opens enc P w base spare held t d G) : Opens enc P w base spare held t (Kd.iso d f) (fun b => G (f b)) := fun fuel cs x hx => by
  obtain ⟨hl, a, hk, hG⟩ := h fuel cs x hx
  exact ⟨hl, g a, (by show d.K w (f (g a)) cs; rw [hg]; exact hk), fun hn => by show G (f (g a)); rw [hg]; exact hG hn⟩
/-- An argument. -/
theorem opens_arg {t : TypeId} {α : Type} {d : Kd α} {G : α → Prop} (h : Opens enc P w base spare held t d G) {v : Value} {x : DataW H} {p : List MemPlace} (hx : DataW.Trod enc P w base spare held t v x p)
    {ts : List TypeId} {ds : List (DataW H)} {j : Nat} (hsz : (DataW.weightsEach P ts ds).all (· ≤ reachBytes) = true) (ht : ts[j]? = some t) (hd : ds[j]? = some x) : ∃ a, d.K w a v.cells.toList ∧ G a := by
  obtain ⟨fuel, hf⟩ := hx
  obtain ⟨_, a, hk, hG⟩ := h fuel _ _ hf
  refine ⟨a, hk, hG (fun n hn => ?_)⟩
  have := List.all_eq_true.1 hsz _ (DataW.weights_mem_each ht hd n hn)
  simpa using this
/-- .. that is a slice. -/
theorem opens_arg_slice {t e : TypeId} {α : Type} {d : Kd α} {G : List α → Prop} (h : Opens enc P w base spare held t (Kd.slice e d) G) {A : Option Addr} {len cap : Nat} {x : DataW H} {p : List MemPlace} (hx : DataW.Trod enc P w base spare held t (.slice A len cap) x p)
    {ts : List TypeId} {ds : List (DataW H)} {j : Nat} (hsz : (DataW.weightsEach P ts ds).all (· ≤ reachBytes) = true) (ht : ts[j]? = some t) (hd : ds[j]? = some x) : ∃ l : List α, l.length = len ∧ l.length ≤ cap ∧ d.C w A l.length l ∧ G l := by
  obtain ⟨l, ⟨A', c, hcs, hlc, hC⟩, hG⟩ := opens_arg h hx hsz ht hd
  simp [Value.cells] at hcs
  obtain ⟨rfl, rfl, rfl⟩ := hcs
  exact ⟨l, rfl, hlc, hC, hG⟩
end
end Go.Proofs.Ytgpkjdjjjenhcaa.Opn
