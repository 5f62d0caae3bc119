/- Small words of this session for a region that draws its order, walked in the order of its numbers: each step one word; what it asks is shown by default. Plain theorems over the printed words 'PrintLast'. -/
import Derived.Test.YtgpkjdjjjenhcaaWLast
import Derived.KernelRfl
import Derived.Tactics
namespace Go.Proofs.Ytgpkjdjjjenhcaa.Rg
open Go.RowKit Go.Proofs.YtgpkjdjjjenhcaaW.PrintLast

/-- The first k of n have come. -/
def arr (n k : Nat) : Array Bool := (Array.range n).map fun j => decide (j < k)
variable {P : Program} {ops : Array Oper} {Q : Exit → Act → World → Prop} {S : World → Prop} {ds : List Nat}
/-- What is owed when the first k operations have come up; S holds. -/
def At (P : Program) (ops : Array Oper) (Q : Exit → Act → World → Prop) (S : World → Prop) (ds : List Nat) (k : Nat) (a : Act) (w : World) : Prop := wpAnyLast P .any ops Q S ds (ops.size - k) (arr ops.size k) a w
theorem lt_of {k : Nat} {o : Oper} (h : ops[k]? = some o) : ops.size - k = (ops.size - (k + 1)) + 1 := by
  have := (Array.getElem?_eq_some_iff.1 h).1
  omega
theorem arr0 (n : Nat) : Array.replicate n false = arr n 0 := by
  apply Array.ext
  · simp [arr]
  · intro i h1 h2; simp [arr]
theorem arrSet {n k : Nat} (h : k < n) : (arr n k).setIfInBounds k true = arr n (k + 1) := by
  unfold arr
  apply Array.ext_getElem?
  intro i
  rw [Array.getElem?_setIfInBounds]
  by_cases e : k = i
  · subst e; simp [h]
  · rw [if_neg e]
    have h2 : decide (i < k) = decide (i < k + 1) := by
      have : (i < k) ↔ (i < k + 1) := by omega
      simp [this]
    by_cases hi : i < n
    · simp [hi, h2]
    · simp [hi]
/-- It begins. -/
theorem begin_ {id : Nat} {a : Act} {w : World} (S : World → Prop) (ds : List Nat) (hS : S w.drew) (h : ∀ w1, S w1 → At P ops Q S ds 0 a w1) (hm : P.follows .mixedOrders = true := by kernel_rfl) : (Code.region id ops true).wp P Q a w := by
  refine start_ (S := S) (ds := ds) (n := ops.size) (arr ops.size 0) hm rfl (arr0 _) hS ?_
  exact fun hS => h _ hS
/-- It ends. -/
theorem end_ {k : Nat} {a : Act} {w : World} (h : Q .normal a w) (hr : (Region.ready .any ops (arr ops.size k) == []) = true := by kernel_rfl) : At P ops Q S ds k a w := done_ hr h
/-- An operation that yields in whatever world, or is not wanted. -/
theorem pure1 {k : Nat} {oi : Oper} {N : Option Tmp} {v : Value} {a a' : Act} {w : World} (h : At P ops Q S ds (k + 1) a' w) (hi : ops[k]? = some oi)  (hN : oi.dst = N)
    (hc : (Region.noSelect ops && Region.free .any ops (arr ops.size k) k && (Region.ready .any ops (arr ops.size k)).contains k) = true)
    (hQ : ∀ c a w, Q (.panic c) (a.put oi.dst v) w → Q (.panic c) a w) (hy : Yields P ops oi v a) (ha : a.put N v = a') : At P ops Q S ds k a w := by
  subst hN
  subst ha
  have hk := (Array.getElem?_eq_some_iff.1 hi).1
  unfold At at *
  rw [lt_of hi]
  refine pure_ (i := k) (oi := oi) (v := v) _ hi rfl ?_ hQ hy rfl h
  unfold anyB
  rw [hc, arrSet hk]
  simp
/-- A load and the like: it yields in every world that meets S. -/
theorem take1 {k : Nat} {oi : Oper} {N : Option Tmp} {v : Value} {a a' : Act} {w : World} (h : At P ops Q S ds (k + 1) a' w) (hS : S w) (hi : ops[k]? = some oi) (hN : oi.dst = N)
    (hc : (Region.noSelect ops && Region.free .any ops (arr ops.size k) k && (Region.ready .any ops (arr ops.size k)).contains k && Region.closedB .any ops (arr ops.size k) && Region.lastB .any ops (arr ops.size k) ds k) = true)
    (hQ : ∀ c a w, Q (.panic c) (a.put oi.dst v) w → Q (.panic c) a w) (hy : YieldsIf P ops S oi v a) (ha : a.put N v = a') : At P ops Q S ds k a w := by
  subst hN
  subst ha
  have hk := (Array.getElem?_eq_some_iff.1 hi).1
  unfold At at *
  rw [lt_of hi]
  refine take_ (i := k) (oi := oi) (v := v) _ hi rfl ?_ hQ hy hS rfl h
  unfold takeB
  rw [hc, arrSet hk]
  simp
/-- A call that alone may come up now. -/
theorem call1 {k : Nat} {oi : Oper} {N : Option Tmp} {a : Act} {w : World} {f : FuncId} {fn : Func} {as : Array Operand} {ts : Array TypeId} {args : Array Value} {R : Ending → World → Prop} (hcall : Calls P f args w R)
    (h : ∀ e w', R e w' → ∃ v, e = .returned v ∧ S w' ∧ (S w' → At P ops Q S ds (k + 1) (a.put N v) w'))
    (hi : ops[k]? = some oi) (hN : oi.dst = N) (hop : oi.op = .call { callee := .value (.func f), args := as, argTypes := ts }) (hargs : as.map a.eval = args)
    (hf : P.funcs[f]? = some fn) (hname : (fn.name == "runtime.NumGoroutine") = false) (hb : fn.body.isSome = true)
    (hw : Region.wanted oi (yielded ops a.tmps) = true) (hd : k ∉ ds) (hc : (Region.ready .any ops (arr ops.size k) == [k]) = true) : At P ops Q S ds k a w := by
  subst hN
  have hk := (Array.getElem?_eq_some_iff.1 hi).1
  unfold At at *
  rw [lt_of hi]
  refine one_ (i := k) (oi := oi) (arr ops.size (k + 1)) hi rfl ?_ hd ?_
  · unfold readyB
    rw [hc, arrSet hk]
    simp
  · intro K hK
    refine goes_ (oi := oi) hf hname hb args hw rfl hop hargs (hcall.mono ?_)
    intro e w' hR
    obtain ⟨v, rfl, hS, hn⟩ := h e w' hR
    exact ⟨v, rfl, hK.out _ _ hS hn⟩
/-- A store that alone may come up now: nothing is shown behind it. -/
theorem store1 {k : Nat} {oi : Oper} {a : Act} {w w' : World} (h : At P ops Q S ds (k + 1) a w') (hi : ops[k]? = some oi) (hN : oi.dst = none) (hd : k ∈ ds) (hw : Region.wanted oi (yielded ops a.tmps) = true)
    (hrun : (execOp a.eval oi).run P w = .ok .skip w') (hc : (Region.ready .any ops (arr ops.size k) == [k]) = true) : At P ops Q S ds k a w := by
  have hk := (Array.getElem?_eq_some_iff.1 hi).1
  unfold At at *
  rw [lt_of hi]
  refine last_ (i := k) (oi := oi) (N := none) (arr ops.size (k + 1)) hi hN ?_ hd ?_
  · unfold readyB
    rw [hc, arrSet hk]
    simp
  · intro K hK
    refine skip_ hw hN hrun ?_
    exact hK.out _ _ h
/-! ### The same, what they ask shown by default -/
theorem p_ {k : Nat} {oi : Oper} {N : Option Tmp} {v : Value} {a a' : Act} {w : World} (h : At P ops Q S ds (k + 1) a' w) (hi : ops[k]? = some oi := by rfl) (hN : oi.dst = N := by (conv => lhs; whnf))
    (hc : (Region.noSelect ops && Region.free .any ops (arr ops.size k) k && (Region.ready .any ops (arr ops.size k)).contains k) = true := by kernel_rfl)
    (hQ : ∀ c a w, Q (.panic c) (a.put oi.dst v) w → Q (.panic c) a w := by exact fun _ _ _ h => h)
    (hy : Yields P ops oi v a := by first | exact Or.inr ⟨by rfl, rfl⟩ | (refine Or.inl ⟨by rfl, ?_⟩; intro w'; go_simp; with_reducible rfl))
    (ha : a.put N v = a' := by (simp only [Act.put, List.setIfInBounds_toArray, List.set_cons_zero, List.set_cons_succ]; rfl)) : At P ops Q S ds k a w := pure1 h hi hN hc hQ hy ha
theorem l_ {k : Nat} {oi : Oper} {N : Option Tmp} {v : Value} {a a' : Act} {w : World} (hS : S w) (h : At P ops Q S ds (k + 1) a' w) (hi : ops[k]? = some oi := by rfl) (hN : oi.dst = N := by (conv => lhs; whnf))
    (hc : (Region.noSelect ops && Region.free .any ops (arr ops.size k) k && (Region.ready .any ops (arr ops.size k)).contains k && Region.closedB .any ops (arr ops.size k) && Region.lastB .any ops (arr ops.size k) ds k) = true := by kernel_rfl)
    (hQ : ∀ c a w, Q (.panic c) (a.put oi.dst v) w → Q (.panic c) a w := by exact fun _ _ _ h => h)
    (hy : YieldsIf P ops S oi v a := by (refine Or.inl ⟨by rfl, ?_⟩; intro w' hSw; (try dsimp only at hSw); go_split_ands; go_simp; with_reducible rfl))
    (ha : a.put N v = a' := by (simp only [Act.put, List.setIfInBounds_toArray, List.set_cons_zero, List.set_cons_succ]; rfl)) : At P ops Q S ds k a w := take1 h hS hi hN hc hQ hy ha
/-- A load whose cells T tells. -/
theorem d_ {T : World → Prop} {k : Nat} {oi : Oper} {N : Option Tmp} {v : Value} {a a' : Act} {w : World} (hT : ∀ w, S w → T w) (hS : S w) (h : At P ops Q S ds (k + 1) a' w) (hi : ops[k]? = some oi := by rfl) (hN : oi.dst = N := by (conv => lhs; whnf))
    (hc : (Region.noSelect ops && Region.free .any ops (arr ops.size k) k && (Region.ready .any ops (arr ops.size k)).contains k && Region.closedB .any ops (arr ops.size k) && Region.lastB .any ops (arr ops.size k) ds k) = true := by kernel_rfl)
    (hQ : ∀ c a w, Q (.panic c) (a.put oi.dst v) w → Q (.panic c) a w := by exact fun _ _ _ h => h)
    (hw : Region.wanted oi (yielded ops a.tmps) = true := by rfl)
    (hy : ∀ w', T w' → (execOp a.eval oi).run P w' = .ok (.value v) w' := by (intro w' hSw; (try dsimp only at hSw); go_split_ands; go_simp; with_reducible rfl))
    (ha : a.put N v = a' := by (simp only [Act.put, List.setIfInBounds_toArray, List.set_cons_zero, List.set_cons_succ]; rfl)) : At P ops Q S ds k a w :=
  take1 h hS hi hN hc hQ (Or.inl ⟨hw, fun w' hS => hy w' (hT w' hS)⟩) ha
/-- A store. -/
theorem s_ {k : Nat} {oi : Oper} {a : Act} {w w' : World} (h : At P ops Q S ds (k + 1) a w') (hi : ops[k]? = some oi := by rfl) (hN : oi.dst = none := by rfl) (hd : k ∈ ds := by decide) (hw : Region.wanted oi (yielded ops a.tmps) = true := by rfl)
    (hrun : (execOp a.eval oi).run P w = .ok .skip w' := by (go_simp; with_reducible rfl)) (hc : (Region.ready .any ops (arr ops.size k) == [k]) = true := by kernel_rfl) : At P ops Q S ds k a w := store1 h hi hN hd hw hrun hc
theorem c_ {k : Nat} {oi : Oper} {N : Option Tmp} {a : Act} {w : World} {f : FuncId} {fn : Func} {as : Array Operand} {ts : Array TypeId} {args : Array Value} {R : Ending → World → Prop} (hcall : Calls P f args w R)
    (hf : P.funcs[f]? = some fn)
    (h : ∀ e w', R e w' → ∃ v, e = .returned v ∧ S w' ∧ (S w' → At P ops Q S ds (k + 1) (a.put N v) w'))
    (hi : ops[k]? = some oi := by rfl) (hN : oi.dst = N := by (conv => lhs; whnf)) (hop : oi.op = .call { callee := .value (.func f), args := as, argTypes := ts } := by rfl) (hargs : as.map a.eval = args := by first | (simp only [List.map_toArray, List.map_cons, List.map_nil]; done) | (simp only [List.map_toArray, List.map_cons, List.map_nil]; rfl) | rfl)
    (hname : (fn.name == "runtime.NumGoroutine") = false := by kernel_rfl) (hb : fn.body.isSome = true := by rfl)
    (hw : Region.wanted oi (yielded ops a.tmps) = true := by rfl) (hd : k ∉ ds := by decide) (hc : (Region.ready .any ops (arr ops.size k) == [k]) = true := by kernel_rfl) : At P ops Q S ds k a w :=
  call1 hcall h hi hN hop hargs hf hname hb hw hd hc
end Go.Proofs.Ytgpkjdjjjenhcaa.Rg
