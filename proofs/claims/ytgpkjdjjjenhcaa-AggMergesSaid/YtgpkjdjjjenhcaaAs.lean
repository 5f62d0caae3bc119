/- Contracts by hand: math.Trunc of a finite float; the sum of two wide numbers. -/
import Derived.Test.YtgpkjdjjjenhcaaQx0
import Derived.Test.YtgpkjdjjjenhcaaFl
namespace Go.Proofs.Ytgpkjdjjjenhcaa.Q
open Go.RowKit Go.Proofs.YtgpkjdjjjenhcaaW.PrintWords Go.Proofs.YtgpkjdjjjenhcaaW.PrintLast Go.Proofs.Ytgpkjdjjjenhcaa.Fw Go.Proofs.YtgpkjdjjjenhcaaW.PrintMore
set_option linter.unusedVariables false
set_option linter.unusedSimpArgs false

def math_Trunc.f (a0 : Nat) : Option Nat := if a0 % 2 ^ 63 < 2047 * 2 ^ 52 then some (Ieee.double.nearest (Fl.sgn a0) (Fl.whole a0) 0) else none

theorem integral_entry (n : String) (x : Nat) (s : Bool) (m : Nat) (e : Int) (hr : FloatKind.f64.decode x = .number s m e) :
    Extern.MathFloor.toIntegral n .zero #[.float .f64 x] = pure (.float .f64 (FloatKind.f64.encode ((FloatKind.f64.decode x).integral .zero))) := by
  delta Extern.MathFloor.toIntegral
  conv => lhs; whnf
  rw [hr]
theorem arch_trunc (x : Nat) (h : Fl.fin x) (w : World) : (callFunc 37 #[.float .f64 x]).run Try.prog w = .ok (.value (.float .f64 (Ieee.double.nearest (Fl.sgn x) (Fl.whole x) 0))) w := by
  refine (run_callFunc_extern (e := Extern.MathFloor.toIntegral "math.archTrunc" .zero) Try.func37 (by kernel_rfl) rfl rfl (by kernel_rfl) _ w).trans ?_
  obtain ⟨m, i, rx, _⟩ := Fl.read_fin h
  have hi : (FloatKind.f64.decode x).integral .zero = _ := Fl.integral_fin h
  rw [integral_entry _ x _ m _ rx, hi]
  rfl

set_option maxHeartbeats 1000000 in
theorem math_Trunc.calls (a0 : Nat) (r : Nat) (w : World) (h : math_Trunc.f a0 = some r) :
    Calls Try.prog 27 #[.float .f64 a0] w fun e w' => e = .returned (.float .f64 r) ∧ Drawn0 w w' := by
  unfold math_Trunc.f at h
  split at h
  · rename_i hf
    obtain rfl := Option.some.inj h
    have ha := fun w => arch_trunc a0 hf w
    clear hf h
    go_enter Try.func27, Try.ntmps27
    go_wp2
    go_ret
    exact ⟨rfl, Drawn0.refl _⟩
  · cases h

def wide_Wide_Plus.f (a0_0 a0_1 a1_0 a1_1 : Int) : Option (Int × Int) :=
  if 0 ≤ a0_1 ∧ a0_1 < 18446744073709551616 ∧ 0 ≤ a1_1 ∧ a1_1 < 18446744073709551616 then
    some (wrap64 ((IntKind.u64.wrap a0_0 + IntKind.u64.wrap a1_0 + (a0_1 + a1_1) / 18446744073709551616) % 18446744073709551616), (a0_1 + a1_1) % 18446744073709551616)
  else none
theorem ext_add (x y c : Int) (hx : 0 ≤ x) (hy : 0 ≤ y) (hc0 : 0 ≤ c) (hc : c ≤ 1) (w : World) : (callFunc 19 #[.int .u64 x, .int .u64 y, .int .u64 c]).run Try.prog w =
    .ok (.value (.tuple #[.int .u64 ((x + y + c) % 18446744073709551616), .int .u64 ((x + y + c) / 18446744073709551616)])) w := by
  refine (run_callFunc_extern (e := add64Entry) Try.func19 (by kernel_rfl) rfl rfl (by kernel_rfl) _ w).trans ?_
  rw [run_add64 x y c hx hy hc0 hc]
  rfl
set_option maxHeartbeats 1000000 in
theorem wide_Wide_Plus.calls (a0_0 a0_1 a1_0 a1_1 r1 r2 : Int) (w : World) (h : wide_Wide_Plus.f a0_0 a0_1 a1_0 a1_1 = some (r1, r2)) :
    Calls Try.prog 12 #[.agg #[.int .i64 a0_0, .int .u64 a0_1], .agg #[.int .i64 a1_0, .int .u64 a1_1]] w fun e w' => e = .returned (.agg #[.int .i64 r1, .int .u64 r2]) ∧ Below w.heap.size w w' := by
  unfold wide_Wide_Plus.f at h
  split at h
  · rename_i hf
    have h' := Option.some.inj h
    obtain ⟨rfl, rfl⟩ := Prod.mk.inj h'
    clear h h'
    obtain ⟨h1, h2, h3, h4⟩ := hf
    have e1 : 0 ≤ (a0_1 + a1_1) / 18446744073709551616 := by omega
    have e2 : (a0_1 + a1_1) / 18446744073709551616 ≤ 1 := by omega
    have e3 : 0 ≤ IntKind.u64.wrap a0_0 := by rw [IntKind.wrap_u64]; omega
    have e4 : 0 ≤ IntKind.u64.wrap a1_0 := by rw [IntKind.wrap_u64]; omega
    have x1 := fun w => ext_add a0_1 a1_1 0 h1 h3 (by omega) (by omega) w
    have x2 := fun w => ext_add (IntKind.u64.wrap a0_0) (IntKind.u64.wrap a1_0) ((a0_1 + a1_1) / 18446744073709551616) e3 e4 e1 e2 w
    simp only [Int.add_zero] at x1
    clear e1 e2 e3 e4
    go_enter Try.func12, Try.ntmps12
    go_wp2
    refine bodyPost_ret (v := .agg #[.int .i64 (wrap64 ((IntKind.u64.wrap a0_0 + IntKind.u64.wrap a1_0 + (a0_1 + a1_1) / 18446744073709551616) % 18446744073709551616)), .int .u64 ((a0_1 + a1_1) % 18446744073709551616)]) ?_ rfl ⟨rfl, ?_⟩
    · simp [results, Try.results12, go_sem]
    · exact ((((Below.refl _ _).alloc (Nat.le_refl _) _).alloc (by simp) _).alloc (by simp; omega) _)
  · cases h
end Go.Proofs.Ytgpkjdjjjenhcaa.Q
