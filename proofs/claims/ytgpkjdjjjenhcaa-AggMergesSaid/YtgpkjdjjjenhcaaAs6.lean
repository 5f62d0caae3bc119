/- Small contracts for the law by hand: a state is the same as itself told in the document's form; the states of the document's states. -/
import Derived.Test.YtgpkjdjjjenhcaaAs5
namespace Go.Proofs.Ytgpkjdjjjenhcaa.Q
open Go.RowKit Go.Proofs.YtgpkjdjjjenhcaaW.PrintWords Go.Proofs.YtgpkjdjjjenhcaaW.PrintLast Go.Proofs.Ytgpkjdjjjenhcaa.Fw Go.Proofs.YtgpkjdjjjenhcaaW.PrintMore Go.Proofs.Ytgpkjdjjjenhcaa.Rg
set_option linter.unusedVariables false
set_option linter.unusedSimpArgs false

def toB (x : S30) : S34 := ⟨x.f0, x.f1, x.f2.f0, x.f2.f1, x.f3, x.f4⟩
theorem toA_toB (x : S30) : toA (toB x) = x := rfl
theorem toB_toA (x : S34) : toB (toA x) = x := rfl
theorem alike_refl (v : S28) : colonnadelaw22_alike.f v.f0 v.f1 v.f2 v.f3 v.f0 v.f1 v.f2 v.f3 = some true := by
  unfold colonnadelaw22_alike.f
  by_cases h : fne v.f2 v.f2 = true
  · rw [if_pos h, if_pos h]
    have : feq 0 0 = true := by decide
    simp [this]
  · rw [if_neg h]
    have h2 : feq v.f2 v.f2 = true := by
      unfold fne at h
      unfold feq
      simpa using h
    simp [h2]
theorem same_refl (x : S30) : colonnadelaw22_same.f x.f0 x.f1 x.f2.f0 x.f2.f1 x.f3.f0 x.f3.f1 x.f3.f2 x.f3.f3 x.f4.f0 x.f4.f1 x.f4.f2 x.f4.f3 x.f0 x.f1 x.f2.f0 x.f2.f1 x.f3.f0 x.f3.f1 x.f3.f2 x.f3.f3 x.f4.f0 x.f4.f1 x.f4.f2 x.f4.f3 = some true := by
  unfold colonnadelaw22_same.f
  rw [if_pos rfl, if_pos rfl, if_pos (by simp), alike_refl, alike_refl]
  rfl
@[reducible] def v30 (x : S30) : Value := .agg #[.int .i64 x.f0, .int .i64 x.f1, .int .i64 x.f2.f0, .int .u64 x.f2.f1, .int .i64 x.f3.f0, .int .i64 x.f3.f1, .float .f64 x.f3.f2, .string x.f3.f3, .int .i64 x.f4.f0, .int .i64 x.f4.f1, .float .f64 x.f4.f2, .string x.f4.f3]
@[reducible] def v34 (x : S34) : Value := .agg (a34 x)
theorem same_calls (x : S30) (w : World) : Calls Try.prog 6 #[v30 x, v34 (toB x)] w fun e w' => e = .returned (.bool true) ∧ Below w.heap.size w w' :=
  colonnadelaw22_same.calls _ _ _ _ _ _ _ _ _ _ _ _ _ _ _ _ _ _ _ _ _ _ _ _ true w (same_refl x)

theorem states_from (l : List S34) (h : l.length ≤ 1256584717450) : ∀ (d i : Nat) (out : List S30), i + d = l.length → out.length = i → ∀ k, d + 1 ≤ k → colonnadelaw22_states.l0 k l out (i : Int) = some (out ++ (l.drop i).map toA)
  | 0, i, out, hi, ho, k, hk => by
    obtain ⟨k, rfl⟩ : ∃ j, k = j + 1 := ⟨k - 1, by omega⟩
    simp only [colonnadelaw22_states.l0]
    rw [if_neg (by omega), List.drop_of_length_le (by omega)]
    simp
  | d + 1, i, out, hi, ho, k, hk => by
    obtain ⟨k, rfl⟩ : ∃ j, k = j + 1 := ⟨k - 1, by omega⟩
    simp only [colonnadelaw22_states.l0]
    have hlt : i < l.length := by omega
    rw [if_pos (by omega), if_pos (by omega), if_pos (by omega)]
    have e1 : wrap64 ((i : Int) + 1) = ((i + 1 : Nat) : Int) := by unfold wrap64; omega
    rw [e1, rd_get34 l i hlt]
    have := states_from l h d (i + 1) (out ++ [toA (l[i]'hlt)]) (by omega) (by simp [ho]) k (by omega)
    have e2 : l.drop i = (l[i]'hlt) :: l.drop (i + 1) := List.drop_eq_getElem_cons hlt
    rw [e2, List.map_cons]
    have e3 : out ++ toA (l[i]'hlt) :: (l.drop (i + 1)).map toA = (out ++ [toA (l[i]'hlt)]) ++ (l.drop (i + 1)).map toA := by simp
    rw [e3]
    exact this
theorem states_calls (A0 : Option Addr) (c0 : Nat) (l0 : List S34) (w : World) (hr0 : Kd.C k34 w A0 l0.length l0) (hc0 : l0.length ≤ c0) (h : l0.length ≤ 1256584717450) :
    Calls Try.prog 4 #[.slice A0 l0.length c0] w fun e w' => ∃ v, e = .returned v ∧ Kd.R k30 30 w' w.heap.size (fun _ => True) v (l0.map toA) ∧ Below w.heap.size w w' := by
  refine colonnadelaw22_states.calls (l0.length + 1) A0 c0 l0 (l0.map toA) w hr0 hc0 ?_
  unfold colonnadelaw22_states.f
  have := states_from l0 h l0.length 0 [] (by omega) rfl (l0.length + 1) (by omega)
  simpa using this
end Go.Proofs.Ytgpkjdjjjenhcaa.Q
