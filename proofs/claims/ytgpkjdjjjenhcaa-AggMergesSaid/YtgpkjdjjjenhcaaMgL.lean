/- AggMerges: called with any list of states, in whatever memory, the law returns true, the list reads as it did, and nothing else that was there has turned. Conditions: none but the row's own. -/
import Derived.Test.YtgpkjdjjjenhcaaRows
import Derived.Test.YtgpkjdjjjenhcaaAs7
import Derived.Test.YtgpkjdjjjenhcaaOpn
import Derived.WalkKit
import Derived.ProofKit
import Derived.OpenShut
import Derived.ShutString
import Derived.ChangeOld
import Derived.Below
import Derived.SizedLaws
namespace Go.Proofs.Ytgpkjdjjjenhcaa.aggMerges
open Go.ChangeShapes Go.WideShapes Go.ChangeAt Go.RowKit Go.Proofs.YtgpkjdjjjenhcaaW.PrintWords Go.Proofs.Ytgpkjdjjjenhcaa.Opn Go.Proofs.Ytgpkjdjjjenhcaa.Q Go.Proofs.Ytgpkjdjjjenhcaa.Fw
set_option linter.unusedVariables false
theorem own : ownKnob Try.prog.godebug = none := by kernel_rfl
theorem laidOut : laidOutB Try.prog = true := by kernel_rfl
section
variable {H : Type} {enc : TypeId × Value → H} {w : World} {base : Nat} {spare : Nat → Bool} {held : Bool}
theorem opens28 : Opens enc Try.prog w base spare held 28 k28 (fun v => (Lit.int .i64 v.f0).wf = true ∧ (Lit.int .i64 v.f1).wf = true ∧ v.f2 < 2 ^ 64 ∧ v.f3.size ≤ 140737488351232) :=
  opens_iso (fun x => ⟨x.1, x.2.1, x.2.2.1, x.2.2.2⟩) (fun _ => rfl)
    (opens_struct Try.underlying28 (by kernel_rfl) (by kernel_rfl) (opensS_cons (opens_int Try.underlying3) (opensS_cons (opens_int Try.underlying2) (opensS_cons (opens_f64 kF64 rfl Try.underlying26) (opensS_one (opens_string Try.underlying9))))))
theorem opens34 : Opens enc Try.prog w base spare held 34 k34 (fun s => (Lit.int .u64 s.f3).wf = true ∧ s.f4.f2 < 2 ^ 64 ∧ s.f5.f2 < 2 ^ 64) :=
  opens_imp (opens_iso (fun x => ⟨x.1, x.2.1, x.2.2.1, x.2.2.2.1, x.2.2.2.2.1, x.2.2.2.2.2⟩) (fun _ => rfl)
    (opens_struct Try.underlying34 (by kernel_rfl) (by kernel_rfl) (opensS_cons (opens_int Try.underlying3) (opensS_cons (opens_int Try.underlying3) (opensS_cons (opens_int Try.underlying2) (opensS_cons (opens_int Try.underlying23) (opensS_cons opens28 (opensS_one opens28))))))))
    (fun s h => ⟨h.2.2.2.1, h.2.2.2.2.1.2.2.1, h.2.2.2.2.2.2.2.1⟩)
theorem opensL : Opens enc Try.prog w base spare held 22 (Kd.slice 34 k34) (fun xs => xs.length * Try.prog.bytesOf 34 ≤ 140737488351232 ∧ ∀ s ∈ xs, (Lit.int .u64 s.f3).wf = true ∧ s.f4.f2 < 2 ^ 64 ∧ s.f5.f2 < 2 ^ 64) := opens_slice Try.underlying22 (by kernel_rfl) opens34
end
theorem okR_of {l : List S34} (h : ∀ s ∈ l, (Lit.int .u64 s.f3).wf = true ∧ s.f4.f2 < 2 ^ 64 ∧ s.f5.f2 < 2 ^ 64) : okR l = true := by
  unfold okR okL
  rw [List.all_eq_true]
  intro s hs
  obtain ⟨x, hx, rfl⟩ := List.mem_map.1 hs
  obtain ⟨h1, h2, h3⟩ := h x hx
  rw [okS_iff]
  simp [Lit.wf, IntKind.min, IntKind.max, IntKind.signed, IntKind.bits] at h1
  exact ⟨h2, h3, by show 0 ≤ x.f3; omega, by show x.f3 < _; omega⟩
set_option maxRecDepth 100000 in
theorem lifted (os : Os) (started : os.Started) (H : Type) (enc : TypeId × Value → H) :
    ReturnsInHanded {} Try.checked os 3 .any (Rows.aggMergesSpec.pre6 enc Try.prog Try.f3 Rows.aggMergesRow.domain false) (Rows.aggMergesSpec.post enc Try.prog Try.f3 false true false false) := by
  refine returnsInHanded_of_change_sized (C := Try.checked) own started (by kernel_rfl) Try.func3
    (ChangeSpec.witness6 (enc := enc) (C := Try.checked) false ⟨#[], #[.slice none 0 0], []⟩ 8 (by kernel_rfl) (by kernel_rfl) (by kernel_rfl) (by kernel_rfl)) ?_
  intro W base args ds gs before hval0 hW hcnd hsz0 _
  have hsz : (DataW.weightsEach Try.prog (Try.f3.params.toList ++ Rows.aggMergesSpec.plain.varTypes Try.prog) (ds ++ gs)).all (· ≤ reachBytes) = true := hsz0
  have hval : ∀ (j : Nat) t v, Try.f3.params[j]? = some t → args[j]? = some v → Value.okWide Try.prog W .any base t v := hval0
  have hW' := hW
  obtain ⟨p, q, hA0, hV, rfl, hfz, hnd⟩ := hW
  have hA : DataW.TrodAll enc Try.prog W 0 (fun _ => true) true Try.f3.params.toList args.toList ds p := hA0
  rw [Try.params3] at hA hval hsz
  obtain ⟨v0, vs0, d0, ds0, p0, q0, hargs, rfl, rfl, h0, r0⟩ := trodAll_cons hA
  obtain ⟨rfl, rfl, rfl⟩ := trodAll_nil r0
  obtain rfl : args = #[v0] := by cases args; simp_all
  obtain ⟨rfl, rfl⟩ := trodVars_none hV
  obtain ⟨a0, len0, cap0, rfl⟩ := okWide_slice Try.underlying22 (hval 0 22 v0 rfl rfl)
  have k0 := h0
  have lt0 : ∀ x ∈ p0, x.block < W.heap.size := by obtain ⟨m, hm⟩ := k0; exact DataW.trod_lt m _ _ _ hm
  obtain ⟨l, rfl, hlc, hC, hsl, hG⟩ := opens_arg_slice (opensL (w := W) (enc := enc)) h0 hsz (j := 0) rfl rfl
  clear hA0 hval0 hsz0 hsz
  have hB : Try.prog.bytesOf 34 = 112 := by kernel_rfl
  rw [hB] at hsl
  refine (law_calls a0 cap0 l W hC hlc (okR_of hG) (by omega)).mono fun e W' ⟨he, bel⟩ => ?_
  subst he
  exact ⟨_, rfl, _, _, _, [], _, [], hW', trodAll_mk1 (shut_bool Try.underlying4 _), (trodAll_cons_mk (Below.trod laidOut (by kernel_rfl) (of_decide_eq_true (by kernel_rfl)) k0 bel lt0) trodAll_mk0), rfl, bel.frame _, fun h => by cases h⟩
theorem over : Rows.aggMergesRow.holds Try.pinned (OpenSpec.ofChange Rows.aggMergesSpec) :=
  OpenClaim.holds_of_wide 3 Try.f3 rfl rfl rfl rfl rfl rfl rfl ⟨rfl, rfl, rfl, rfl, rfl⟩ rfl rfl rfl rfl rfl (by kernel_rfl) Try.func3 (by kernel_rfl)
    (of_decide_eq_true (by kernel_rfl)) (by unfold Func.isWrapper; first | (rw [if_pos (by decide +kernel)]; kernel_rfl) | (rw [if_neg (by decide +kernel)]; exact ⟨rfl, rfl⟩))
    (fun os started H enc _ => lifted os started H enc)
end Go.Proofs.Ytgpkjdjjjenhcaa.aggMerges
namespace Go.Proofs.Ytgpkjdjjjenhcaa
theorem aggMerges_holds : Rows.AggMergesSaid := aggMerges.over
#print axioms aggMerges_holds
end Go.Proofs.Ytgpkjdjjjenhcaa
