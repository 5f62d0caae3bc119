/- Words for floats in printed contracts: comparisons as Bools, bits, the kind of a float in memory; what three functions of the library without a Go body give. -/
import Derived.Test.YtgpkjdjjjenhcaaProg
import Derived.Test.YtgpkjdjjjenhcaaWWords
import Derived.Test.YtgpkjdjjjenhcaaWFoot
import Derived.Test.YtgpkjdjjjenhcaaWEqStruct
import Derived.Laws.FloatArith
import Derived.Laws.Externs
import Derived.Lib.Bytealg
import Derived.KernelRfl
namespace Go.Proofs.Ytgpkjdjjjenhcaa.Fw
open Go.RowKit Go.Proofs.YtgpkjdjjjenhcaaW.PrintWords

def feq (a b : Nat) : Bool := FloatKind.f64.format.order a b == some .eq
def fne (a b : Nat) : Bool := FloatKind.f64.format.order a b != some .eq
def flt (a b : Nat) : Bool := FloatKind.f64.format.order a b == some .lt
def fle (a b : Nat) : Bool := FloatKind.f64.format.order a b == some .lt || FloatKind.f64.format.order a b == some .eq
def fgt (a b : Nat) : Bool := FloatKind.f64.format.order a b == some .gt
def fge (a b : Nat) : Bool := FloatKind.f64.format.order a b == some .gt || FloatKind.f64.format.order a b == some .eq
def fneg (a : Nat) : Nat := Op.negFloat .f64 a
def fbits (a : Nat) : Int := a
def ffrom (a : Int) : Nat := a.toNat
def strCmp (a b : ByteArray) : Int := Lib.compareBytes a.data.toList b.data.toList

@[go_sem high] theorem eql_f (t : TypeId) (a b : Nat) : binOp .eql t (.float .f64 a) (.float .f64 b) = pure (.bool (feq a b)) := binOp_float_cmp_eql t .f64 a b
@[go_sem high] theorem neq_f (t : TypeId) (a b : Nat) : binOp .neq t (.float .f64 a) (.float .f64 b) = pure (.bool (fne a b)) := binOp_float_cmp_neq t .f64 a b
@[go_sem high] theorem lss_f (t : TypeId) (a b : Nat) : binOp .lss t (.float .f64 a) (.float .f64 b) = pure (.bool (flt a b)) := binOp_float_cmp_lss t .f64 a b
@[go_sem high] theorem leq_f (t : TypeId) (a b : Nat) : binOp .leq t (.float .f64 a) (.float .f64 b) = pure (.bool (fle a b)) := binOp_float_cmp_leq t .f64 a b
@[go_sem high] theorem gtr_f (t : TypeId) (a b : Nat) : binOp .gtr t (.float .f64 a) (.float .f64 b) = pure (.bool (fgt a b)) := binOp_float_cmp_gtr t .f64 a b
@[go_sem high] theorem geq_f (t : TypeId) (a b : Nat) : binOp .geq t (.float .f64 a) (.float .f64 b) = pure (.bool (fge a b)) := binOp_float_cmp_geq t .f64 a b
@[go_sem high] theorem neg_f (a : Nat) : Op.unary .neg (.float .f64 a) = pure (.float .f64 (fneg a)) := rfl
@[go_sem high] theorem equalIn_f (d : Nat) (a b : Nat) (w : World) : (Op.equalIn (d + 1) 26 (.float .f64 a) (.float .f64 b)).run Try.prog w = .ok (feq a b) w := by
  have hu := Try.underlying26
  simp [Op.equalIn, run_underlying hu, Op.floatEq, feq]

@[go_sem] theorem run_store_float {P : Program} (w : World) (a : Addr) (m : Mode) (k : FloatKind) (b : Nat) : (store a (.float k b) m).run P w = stored P w a (.float k b) m := run_store P w a _ m rfl

def kF64 : Kd Nat := Kd.scalar (Value.float .f64) (fun _ => rfl)
theorem kF64_heap : Kd.Heap kF64 := ⟨fun _ h => h⟩

@[go_sem] theorem ext_bits (a : Nat) (w : World) : (callFunc 29 #[.float .f64 a]).run Try.prog w = .ok (.value (.int .u64 (fbits a))) w :=
  (run_callFunc_extern (e := Extern.MathFloatBits.float64bits) Try.func29 (by kernel_rfl) rfl rfl (by kernel_rfl) _ w).trans rfl
@[go_sem] theorem ext_from (a : Int) (w : World) : (callFunc 39 #[.int .u64 a]).run Try.prog w = .ok (.value (.float .f64 (ffrom a))) w :=
  (run_callFunc_extern (e := Extern.MathFloatBits.float64frombits) Try.func39 (by kernel_rfl) rfl rfl (by kernel_rfl) _ w).trans rfl
@[go_sem] theorem ext_cmp (a b : ByteArray) (w : World) : (callFunc 45 #[.string a, .string b]).run Try.prog w = .ok (.value (.int .i64 (strCmp a b))) w := by
  rw [run_callFunc_extern (e := Extern.BytealgCompare.compare) Try.func45 (by kernel_rfl) rfl rfl (by kernel_rfl), Lib.run_compareString]
  rfl
end Go.Proofs.Ytgpkjdjjjenhcaa.Fw
