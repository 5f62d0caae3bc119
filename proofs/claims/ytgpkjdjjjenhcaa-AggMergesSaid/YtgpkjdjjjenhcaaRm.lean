/- Small words of this session for a region that draws its order, where the order of the numbers is not the order of the steps: what has come is told by a mask. Plain theorems over the printed words 'PrintLast'. -/
import Derived.Test.YtgpkjdjjjenhcaaRg
namespace Go.Proofs.Ytgpkjdjjjenhcaa.Rm
open Go.RowKit Go.Proofs.YtgpkjdjjjenhcaaW.PrintLast

/-- What has come, as a mask. -/
def arm (n m : Nat) : Array Bool := (Array.range n).map fun j => m.testBit j
variable {P : Program} {ops : Array Oper} {Q : Exit → Act → World → Prop} {S : World → Prop} {ds : List Nat}
/-- What is owed with f operations left, m told to have come. -/
def At (P : Program) (ops : Array Oper) (Q : Exit → Act → World → Prop) (S : World → Prop) (ds : List Nat) (f m : Nat) (a : Act) (w : World) : Prop := wpAnyLast P .any ops Q S ds f (arm ops.size m) a w
theorem arm0 (n : Nat) : Array.replicate n false = arm n 0 := by
  apply Array.ext
  · simp [arm]
  · intro i h1 h2; simp [arm]
theorem begin_ {id n : Nat} {a : Act} {w : World} (S : World → Prop) (ds : List Nat) (hS : S w.drew) (h : ∀ w1, S w1 → At P ops Q S ds n 0 a w1) (hn : ops.size = n := by rfl) (hm : P.follows .mixedOrders = true := by kernel_rfl) : (Code.region id ops true).wp P Q a w := by
  subst hn
  refine start_ (S := S) (ds := ds) (n := ops.size) (arm ops.size 0) hm rfl (arm0 _) hS ?_
  exact fun hS => h _ hS
theorem end_ {f m : Nat} {a : Act} {w : World} (h : Q .normal a w) (hr : (Region.ready .any ops (arm ops.size m) == []) = true := by kernel_rfl) : At P ops Q S ds f m a w := done_ hr h
theorem p_ {f m : Nat} (i m' : Nat) {oi : Oper} {N : Option Tmp} {v : Value} {a a' : Act} {w : World} (h : At P ops Q S ds f m' a' w) (hi : ops[i]? = some oi := by rfl) (hN : oi.dst = N := by (conv => lhs; whnf))
    (hc : anyB .any ops (arm ops.size m) (arm ops.size m') i = true := by kernel_rfl)
    (hQ : ∀ c a w, Q (.panic c) (a.put oi.dst v) w → Q (.panic c) a w := by exact fun _ _ _ h => h)
    (hy : Yields P ops oi v a := by first | exact Or.inr ⟨by rfl, rfl⟩ | (refine Or.inl ⟨by rfl, ?_⟩; intro w'; go_simp; with_reducible rfl))
    (ha : a.put N v = a' := by (simp only [Act.put, List.setIfInBounds_toArray, List.set_cons_zero, List.set_cons_succ]; rfl)) : At P ops Q S ds (f + 1) m a w :=
  pure_ (i := i) _ hi hN hc hQ hy ha h
theorem d_ {f m : Nat} (i m' : Nat) {T : World → Prop} {oi : Oper} {N : Option Tmp} {v : Value} {a a' : Act} {w : World} (hT : ∀ w, S w → T w) (hS : S w) (h : At P ops Q S ds f m' a' w) (hi : ops[i]? = some oi := by rfl) (hN : oi.dst = N := by (conv => lhs; whnf))
    (hc : takeB .any ops ds (arm ops.size m) (arm ops.size m') i = true := by kernel_rfl)
    (hQ : ∀ c a w, Q (.panic c) (a.put oi.dst v) w → Q (.panic c) a w := by exact fun _ _ _ h => h)
    (hw : Region.wanted oi (yielded ops a.tmps) = true := by rfl)
    (hy : ∀ w', T w' → (execOp a.eval oi).run P w' = .ok (.value v) w' := by (intro w' hSw; (try dsimp only at hSw); go_split_ands; go_simp; with_reducible rfl))
    (ha : a.put N v = a' := by (simp only [Act.put, List.setIfInBounds_toArray, List.set_cons_zero, List.set_cons_succ]; rfl)) : At P ops Q S ds (f + 1) m a w :=
  take_ (i := i) _ hi hN hc hQ (Or.inl ⟨hw, fun w' hS => hy w' (hT w' hS)⟩) hS ha h
/-- One that alone may come up: whatever it does. -/
theorem o_ {f m : Nat} (i m' : Nat) {oi : Oper} {N : Option Tmp} {a : Act} {w : World}
    (h : ∀ K : Act → World → Prop, (∀ v w', S w' → (S w' → At P ops Q S ds f m' (a.put N v) w') → K (a.put N v) w') → Oper.wp P oi a w K Q)
    (hi : ops[i]? = some oi := by rfl) (hN : oi.dst = N := by (conv => lhs; whnf))
    (hw : Region.wanted oi (yielded ops a.tmps) = true := by rfl) (hd : i ∉ ds := by decide) (hc : readyB .any ops (arm ops.size m) (arm ops.size m') i = true := by kernel_rfl) : At P ops Q S ds (f + 1) m a w := by
  refine one_ (i := i) (oi := oi) (N := N) (arm ops.size m') hi hN hc hd ?_
  intro K hK
  rw [if_pos hw]
  exact h K (fun v w' hS hn => hK.out _ _ hS hn)
/-- Two that may come up: each in its turn. -/
theorem oo_ {f m : Nat} (i j mi mj : Nat) {oi oj : Oper} {Ni Nj : Option Tmp} {a : Act} {w : World}
    (h1 : ∀ K : Act → World → Prop, (∀ v w', S w' → (S w' → At P ops Q S ds f mi (a.put Ni v) w') → K (a.put Ni v) w') → Oper.wp P oi a w K Q)
    (h2 : ∀ K : Act → World → Prop, (∀ v w', S w' → (S w' → At P ops Q S ds f mj (a.put Nj v) w') → K (a.put Nj v) w') → Oper.wp P oj a w K Q)
    (hi : ops[i]? = some oi := by rfl) (hNi : oi.dst = Ni := by (conv => lhs; whnf)) (hj : ops[j]? = some oj := by rfl) (hNj : oj.dst = Nj := by (conv => lhs; whnf))
    (hwi : Region.wanted oi (yielded ops a.tmps) = true := by rfl) (hwj : Region.wanted oj (yielded ops a.tmps) = true := by rfl) (hdi : i ∉ ds := by decide) (hdj : j ∉ ds := by decide)
    (hc : (Region.ready .any ops (arm ops.size m) == [i, j] && (arm ops.size m).setIfInBounds i true == arm ops.size mi && (arm ops.size m).setIfInBounds j true == arm ops.size mj) = true := by kernel_rfl) : At P ops Q S ds (f + 1) m a w := by
  refine two_ (i := i) (j := j) (oi := oi) (oj := oj) (Ni := Ni) (Nj := Nj) (arm ops.size mi) (arm ops.size mj) hi hj hNi hNj hc hdi hdj ?_ ?_
  · intro K hK
    rw [if_pos hwi]
    exact h1 K (fun v w' hS hn => hK.out _ _ hS hn)
  · intro K hK
    rw [if_pos hwj]
    exact h2 K (fun v w' hS hn => hK.out _ _ hS hn)
/-- What such an operation is, where it calls a Go function. -/
theorem call_ {oi : Oper} {a : Act} {w : World} {K : Act → World → Prop} {f : FuncId} {fn : Func} {as : Array Operand} {ts : Array TypeId} {args : Array Value} {R : Ending → World → Prop} (hcall : Calls P f args w R) (hf : P.funcs[f]? = some fn)
    (h : ∀ e w', R e w' → ∃ v, e = .returned v ∧ K (a.put oi.dst v) w') (hop : oi.op = .call { callee := .value (.func f), args := as, argTypes := ts } := by rfl)
    (hargs : as.map a.eval = args := by first | (simp only [List.map_toArray, List.map_cons, List.map_nil]; done) | (simp only [List.map_toArray, List.map_cons, List.map_nil]; rfl) | rfl)
    (hname : (fn.name == "runtime.NumGoroutine") = false := by kernel_rfl) (hb : fn.body.isSome = true := by rfl) : Oper.wp P oi a w K Q := by
  have he := enters_ hf hname hb args w
  have hrun : (execOp a.eval oi).run P w = .ok (.enter f args) w := by
    unfold execOp
    simp [hop, resolve, Deferred.ofValue, invoke, Act.eval, hargs, he]
  unfold Oper.wp
  rw [hrun, Oper.upon_enter]
  refine hcall.mono fun e w'' hh => ?_
  obtain ⟨v, rfl, hk⟩ := h _ _ hh
  exact hk
/-- .. where it yields a value. -/
theorem value_ {oi : Oper} {N : Option Tmp} {a : Act} {w w' : World} {v : Value} {K : Act → World → Prop} (h : K (a.put N v) w') (hN : oi.dst = N := by (conv => lhs; whnf)) (hrun : (execOp a.eval oi).run P w = .ok (.value v) w' := by (go_simp; first | with_reducible rfl | exact ⟨rfl, rfl⟩)) : Oper.wp P oi a w K Q := by
  subst hN
  unfold Oper.wp
  rw [hrun]
  exact h
/-- .. where it appends. -/
theorem append_ {oi : Oper} {N : Option Tmp} {a : Act} {w w' : World} {v u1 u2 : Value} {s x : Operand} {t : TypeId} {K : Act → World → Prop} (hrun : (Builtin.append_ #[t, t] t #[u1, u2]).run P w = .ok v w') (h : K (a.put N v) w')
    (ho : oi.op = .call { callee := .builtin .append, args := #[s, x], argTypes := #[t, t] } := by rfl) (ht : oi.type = t := by rfl) (hs : a.eval s = u1 := by rfl) (hx : a.eval x = u2 := by rfl) (hN : oi.dst = N := by (conv => lhs; whnf)) : Oper.wp P oi a w K Q := by
  subst hN
  unfold Oper.wp execOp
  simp only [ho, ht, resolve, invoke, builtin, Sem.run_bind, Sem.run_pure, Result.andThen_ok, List.map_toArray, List.map_cons, List.map_nil, hs, hx, hrun]
  exact h
/-- A store; its number is one of ds. -/
theorem s_ {f m : Nat} (i m' : Nat) {oi : Oper} {a : Act} {w w' : World} (h : At P ops Q S ds f m' a w') (hi : ops[i]? = some oi := by rfl) (hN : oi.dst = none := by rfl) (hd : i ∈ ds := by decide) (hw : Region.wanted oi (yielded ops a.tmps) = true := by rfl)
    (hrun : (execOp a.eval oi).run P w = .ok .skip w' := by (go_simp; with_reducible rfl)) (hc : readyB .any ops (arm ops.size m) (arm ops.size m') i = true := by kernel_rfl) : At P ops Q S ds (f + 1) m a w := by
  refine last_ (i := i) (oi := oi) (N := none) (arm ops.size m') hi hN hc hd ?_
  intro K hK
  refine skip_ hw hN hrun ?_
  exact hK.out _ _ h
/-- The act written out. -/
theorem nrm_ {f m : Nat} {a a' : Act} {w : World} (h : At P ops Q S ds f m a' w) (ha : a = a' := by (simp only [putAll, Act.put, List.setIfInBounds_toArray, List.set_cons_zero, List.set_cons_succ]; rfl)) : At P ops Q S ds f m a w := by
  subst ha
  exact h
/-- What follows, once, behind two orders. -/
theorem join_ {σ : Type} {f m : Nat} {a : Act} {w : World} (f' m' : Nat) (ns : σ → List (Tmp × Value)) (F : σ → World → Prop)
    (h : (∀ s w', F s w' → At P ops Q S ds f' m' (putAll a (ns s)) w') → At P ops Q S ds f m a w)
    (hcont : ∀ s w', F s w' → At P ops Q S ds f' m' (putAll a (ns s)) w') : At P ops Q S ds f m a w := h hcont
theorem norm_ {f m : Nat} {a a' : Act} {w : World} (h : At P ops Q S ds f m a' w) (ha : a = a' := by (simp only [putAll, Act.put, List.setIfInBounds_toArray, List.set_cons_zero, List.set_cons_succ])) : At P ops Q S ds f m a w := by
  subst ha
  exact h
end Go.Proofs.Ytgpkjdjjjenhcaa.Rm
