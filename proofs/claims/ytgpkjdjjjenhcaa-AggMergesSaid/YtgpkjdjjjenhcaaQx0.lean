/- Contracts of functions of the program: the call of each comes to what the plain Lean function of its name says, wherever that one is 'some'. Written by a program of this session. -/
import Derived.Test.YtgpkjdjjjenhcaaProg
import Derived.Below
import Derived.Deep.Draws
import Derived.Deep.AppendLies
import Derived.Maps.AppendAt
import Derived.OwnWalk
import Derived.Laws.BytesArg
import Derived.Laws.MakeOwn
import Derived.Laws.OwnMore
import Derived.Deep.OwnRows
import Derived.Tactics
import Derived.Lib.ConvBytes
import Derived.Laws.Slices
import Derived.WalkKit
import Derived.KernelRfl
import Derived.RowKit3
import Derived.Deep.LoopGhost
import Derived.Deep.QuietTactic
import Derived.BigQuiet
import Derived.WideLaws
import Derived.Deep.DeepCutAuto
import Derived.Deep.CutBlock
import Derived.Deep.RegionHeld3
import Derived.Laws.Rows
import Derived.Lib.AppendStr
import Derived.ArgAppend
import Derived.Laws.IdiomCopy
import Derived.OrdersHeld
import Derived.Laws.BitsLemmas
import Derived.RowKit
import Derived.Test.YtgpkjdjjjenhcaaWWords
import Derived.Test.YtgpkjdjjjenhcaaWLast
import Derived.Test.YtgpkjdjjjenhcaaWTab
import Derived.Test.YtgpkjdjjjenhcaaWFour
import Derived.Test.YtgpkjdjjjenhcaaWQPut
import Derived.Test.YtgpkjdjjjenhcaaWApart
import Derived.Test.YtgpkjdjjjenhcaaWArr
import Derived.Test.YtgpkjdjjjenhcaaWZeros
import Derived.Test.YtgpkjdjjjenhcaaWFoot
import Derived.Test.YtgpkjdjjjenhcaaWKept
import Derived.Test.YtgpkjdjjjenhcaaWShare
import Derived.Test.YtgpkjdjjjenhcaaWN
import Derived.Test.YtgpkjdjjjenhcaaWFootNe
import Derived.Test.YtgpkjdjjjenhcaaWAt
import Derived.Test.YtgpkjdjjjenhcaaWEqStruct
import Derived.Test.YtgpkjdjjjenhcaaWRepsOne
import Derived.Test.YtgpkjdjjjenhcaaWInv
import Derived.Test.YtgpkjdjjjenhcaaWInvWords
import Derived.Test.YtgpkjdjjjenhcaaWGuard
import Derived.Test.YtgpkjdjjjenhcaaWNEv
import Derived.Test.YtgpkjdjjjenhcaaWMore
import Derived.Test.YtgpkjdjjjenhcaaFw
namespace Go.Proofs.Ytgpkjdjjjenhcaa.Q
open Go.RowKit Go.Proofs.YtgpkjdjjjenhcaaW.PrintWords Go.Proofs.YtgpkjdjjjenhcaaW.PrintLast Go.Proofs.Ytgpkjdjjjenhcaa.Fw Go.Proofs.YtgpkjdjjjenhcaaW.PrintMore
attribute [local go_sem] max2_int min2_int max_two min_two max_three min_three max_four min_four   -- for this text's walks alone
set_option linter.unusedVariables false
set_option linter.unusedSimpArgs false



def errW : Option Int → Value
  | none => .nilIface
  | some c => .iface 0 (.int .i64 c)
theorem errW_none : errW none = .nilIface := rfl
theorem errW_some (c : Int) : errW (some c) = .iface 0 (.int .i64 c) := rfl

theorem info3 : (Try.prog.info? 3).map (fun i => (i.zero, i.size, i.bytes)) = some (some (.int .i64 0), 1, 8) := by kernel_rfl
theorem info30 : (Try.prog.info? 30).map (fun i => (i.zero, i.size, i.bytes)) = some (some (.agg #[(.int .i64 0), (.int .i64 0), (.int .i64 0), (.int .u64 0), (.int .i64 0), (.int .i64 0), (.float .f64 0), (.string ⟨#[]⟩), (.int .i64 0), (.int .i64 0), (.float .f64 0), (.string ⟨#[]⟩)]), 12, 112) := by kernel_rfl
-- the values' own types
/-! #### struct type 28 -/
structure S28 where
  f0 : Int
  f1 : Int
  f2 : Nat
  f3 : ByteArray
def z28 : S28 := ⟨(0 : Int), (0 : Int), (0 : Nat), (⟨#[]⟩ : ByteArray)⟩
def k28 : Kd S28 := Kd.iso (Kd.pair (Kd.int .i64) (Kd.pair (Kd.int .i64) (Kd.pair kF64 Kd.string))) (fun x : S28 => (x.f0, x.f1, x.f2, x.f3))
theorem k28_open {w : World} {x : S28} {cs : List Value} (h : k28.K w x cs) : cs = [.int .i64 x.f0, .int .i64 x.f1, .float .f64 x.f2, .string x.f3] := by
  obtain ⟨_, _, rfl, rfl, ⟨_, _, rfl, rfl, ⟨_, _, rfl, rfl, rfl⟩⟩⟩ := h
  exact rfl
theorem k28_openM {w : World} {base : Nat} {ok : Nat → Prop} {x : S28} {cs : List Value} (h : k28.M w base ok x cs) : cs = [.int .i64 x.f0, .int .i64 x.f1, .float .f64 x.f2, .string x.f3] := by
  obtain ⟨_, _, rfl, rfl, ⟨_, _, rfl, rfl, ⟨_, _, rfl, rfl, rfl⟩⟩⟩ := h
  exact rfl
theorem k28_mk (w : World) (x : S28)  : k28.K w x [.int .i64 x.f0, .int .i64 x.f1, .float .f64 x.f2, .string x.f3] := ⟨[.int .i64 x.f0], [.int .i64 x.f1, .float .f64 x.f2, .string x.f3], rfl, rfl, ⟨[.int .i64 x.f1], [.float .f64 x.f2, .string x.f3], rfl, rfl, ⟨[.float .f64 x.f2], [.string x.f3], rfl, rfl, rfl⟩⟩⟩
theorem k28_mkM (w : World) (base : Nat) (ok : Nat → Prop) (x : S28)  : k28.M w base ok x [.int .i64 x.f0, .int .i64 x.f1, .float .f64 x.f2, .string x.f3] := ⟨[.int .i64 x.f0], [.int .i64 x.f1, .float .f64 x.f2, .string x.f3], rfl, rfl, ⟨[.int .i64 x.f1], [.float .f64 x.f2, .string x.f3], rfl, rfl, ⟨[.float .f64 x.f2], [.string x.f3], rfl, rfl, rfl⟩⟩⟩
def rd_T28 (xs : List S28) (i : Int) : S28 := xs.getD i.toNat z28
theorem at_T28 {w : World} {A : Option Addr} {n : Nat} {xs : List S28} (h : Kd.C k28 w A n xs) (i : Int) (h0 : 0 ≤ i) (h1 : i < n) : ∃ ad , A = some ad ∧ w.cell? (ad.add (i.toNat * 4)) = some (.int .i64 (rd_T28 xs i).f0) ∧ w.cell? ⟨(ad.add (i.toNat * 4)).block, (ad.add (i.toNat * 4)).off + 1, none⟩ = some (.int .i64 (rd_T28 xs i).f1) ∧ w.cell? ⟨(ad.add (i.toNat * 4)).block, (ad.add (i.toNat * 4)).off + 2, none⟩ = some (.float .f64 (rd_T28 xs i).f2) ∧ w.cell? ⟨(ad.add (i.toNat * 4)).block, (ad.add (i.toNat * 4)).off + 3, none⟩ = some (.string (rd_T28 xs i).f3) := by
  obtain ⟨ad, c, e, _, hK, hc0⟩ := Kd.C_get h z28 i h0 h1
  have hc : ∀ j u, c[j]? = some u → w.cell? (ad.add (i.toNat * 4 + j)) = some u := hc0
  obtain rfl := k28_open hK
  exact ⟨ad, e, hc 0 _ rfl, by rw [← add_field _ _ 1 (by omega)]; exact hc 1 _ rfl, by rw [← add_field _ _ 2 (by omega)]; exact hc 2 _ rfl, by rw [← add_field _ _ 3 (by omega)]; exact hc 3 _ rfl⟩

/-! #### struct type 34 -/
structure S34 where
  f0 : Int
  f1 : Int
  f2 : Int
  f3 : Int
  f4 : S28
  f5 : S28
def z34 : S34 := ⟨(0 : Int), (0 : Int), (0 : Int), (0 : Int), z28, z28⟩
def k34 : Kd S34 := Kd.iso (Kd.pair (Kd.int .i64) (Kd.pair (Kd.int .i64) (Kd.pair (Kd.int .i64) (Kd.pair (Kd.int .u64) (Kd.pair k28 k28))))) (fun x : S34 => (x.f0, x.f1, x.f2, x.f3, x.f4, x.f5))
theorem k34_open {w : World} {x : S34} {cs : List Value} (h : k34.K w x cs) : cs = [.int .i64 x.f0, .int .i64 x.f1, .int .i64 x.f2, .int .u64 x.f3, .int .i64 x.f4.f0, .int .i64 x.f4.f1, .float .f64 x.f4.f2, .string x.f4.f3, .int .i64 x.f5.f0, .int .i64 x.f5.f1, .float .f64 x.f5.f2, .string x.f5.f3] := by
  obtain ⟨_, _, rfl, rfl, ⟨_, _, rfl, rfl, ⟨_, _, rfl, rfl, ⟨_, _, rfl, rfl, ⟨_, _, rfl, s4, s8⟩⟩⟩⟩⟩ := h
  obtain rfl := k28_open s4
  obtain rfl := k28_open s8
  exact rfl
theorem k34_openM {w : World} {base : Nat} {ok : Nat → Prop} {x : S34} {cs : List Value} (h : k34.M w base ok x cs) : cs = [.int .i64 x.f0, .int .i64 x.f1, .int .i64 x.f2, .int .u64 x.f3, .int .i64 x.f4.f0, .int .i64 x.f4.f1, .float .f64 x.f4.f2, .string x.f4.f3, .int .i64 x.f5.f0, .int .i64 x.f5.f1, .float .f64 x.f5.f2, .string x.f5.f3] := by
  obtain ⟨_, _, rfl, rfl, ⟨_, _, rfl, rfl, ⟨_, _, rfl, rfl, ⟨_, _, rfl, rfl, ⟨_, _, rfl, s4, s8⟩⟩⟩⟩⟩ := h
  obtain rfl := k28_openM s4
  obtain rfl := k28_openM s8
  exact rfl
theorem k34_mk (w : World) (x : S34)  : k34.K w x [.int .i64 x.f0, .int .i64 x.f1, .int .i64 x.f2, .int .u64 x.f3, .int .i64 x.f4.f0, .int .i64 x.f4.f1, .float .f64 x.f4.f2, .string x.f4.f3, .int .i64 x.f5.f0, .int .i64 x.f5.f1, .float .f64 x.f5.f2, .string x.f5.f3] := ⟨[.int .i64 x.f0], [.int .i64 x.f1, .int .i64 x.f2, .int .u64 x.f3, .int .i64 x.f4.f0, .int .i64 x.f4.f1, .float .f64 x.f4.f2, .string x.f4.f3, .int .i64 x.f5.f0, .int .i64 x.f5.f1, .float .f64 x.f5.f2, .string x.f5.f3], rfl, rfl, ⟨[.int .i64 x.f1], [.int .i64 x.f2, .int .u64 x.f3, .int .i64 x.f4.f0, .int .i64 x.f4.f1, .float .f64 x.f4.f2, .string x.f4.f3, .int .i64 x.f5.f0, .int .i64 x.f5.f1, .float .f64 x.f5.f2, .string x.f5.f3], rfl, rfl, ⟨[.int .i64 x.f2], [.int .u64 x.f3, .int .i64 x.f4.f0, .int .i64 x.f4.f1, .float .f64 x.f4.f2, .string x.f4.f3, .int .i64 x.f5.f0, .int .i64 x.f5.f1, .float .f64 x.f5.f2, .string x.f5.f3], rfl, rfl, ⟨[.int .u64 x.f3], [.int .i64 x.f4.f0, .int .i64 x.f4.f1, .float .f64 x.f4.f2, .string x.f4.f3, .int .i64 x.f5.f0, .int .i64 x.f5.f1, .float .f64 x.f5.f2, .string x.f5.f3], rfl, rfl, ⟨[.int .i64 x.f4.f0, .int .i64 x.f4.f1, .float .f64 x.f4.f2, .string x.f4.f3], [.int .i64 x.f5.f0, .int .i64 x.f5.f1, .float .f64 x.f5.f2, .string x.f5.f3], rfl, (k28_mk w x.f4 ), (k28_mk w x.f5 )⟩⟩⟩⟩⟩
theorem k34_mkM (w : World) (base : Nat) (ok : Nat → Prop) (x : S34)  : k34.M w base ok x [.int .i64 x.f0, .int .i64 x.f1, .int .i64 x.f2, .int .u64 x.f3, .int .i64 x.f4.f0, .int .i64 x.f4.f1, .float .f64 x.f4.f2, .string x.f4.f3, .int .i64 x.f5.f0, .int .i64 x.f5.f1, .float .f64 x.f5.f2, .string x.f5.f3] := ⟨[.int .i64 x.f0], [.int .i64 x.f1, .int .i64 x.f2, .int .u64 x.f3, .int .i64 x.f4.f0, .int .i64 x.f4.f1, .float .f64 x.f4.f2, .string x.f4.f3, .int .i64 x.f5.f0, .int .i64 x.f5.f1, .float .f64 x.f5.f2, .string x.f5.f3], rfl, rfl, ⟨[.int .i64 x.f1], [.int .i64 x.f2, .int .u64 x.f3, .int .i64 x.f4.f0, .int .i64 x.f4.f1, .float .f64 x.f4.f2, .string x.f4.f3, .int .i64 x.f5.f0, .int .i64 x.f5.f1, .float .f64 x.f5.f2, .string x.f5.f3], rfl, rfl, ⟨[.int .i64 x.f2], [.int .u64 x.f3, .int .i64 x.f4.f0, .int .i64 x.f4.f1, .float .f64 x.f4.f2, .string x.f4.f3, .int .i64 x.f5.f0, .int .i64 x.f5.f1, .float .f64 x.f5.f2, .string x.f5.f3], rfl, rfl, ⟨[.int .u64 x.f3], [.int .i64 x.f4.f0, .int .i64 x.f4.f1, .float .f64 x.f4.f2, .string x.f4.f3, .int .i64 x.f5.f0, .int .i64 x.f5.f1, .float .f64 x.f5.f2, .string x.f5.f3], rfl, rfl, ⟨[.int .i64 x.f4.f0, .int .i64 x.f4.f1, .float .f64 x.f4.f2, .string x.f4.f3], [.int .i64 x.f5.f0, .int .i64 x.f5.f1, .float .f64 x.f5.f2, .string x.f5.f3], rfl, (k28_mkM w base ok x.f4 ), (k28_mkM w base ok x.f5 )⟩⟩⟩⟩⟩
def rd_T34 (xs : List S34) (i : Int) : S34 := xs.getD i.toNat z34
theorem at_T34 {w : World} {A : Option Addr} {n : Nat} {xs : List S34} (h : Kd.C k34 w A n xs) (i : Int) (h0 : 0 ≤ i) (h1 : i < n) : ∃ ad , A = some ad ∧ w.cell? (ad.add (i.toNat * 12)) = some (.int .i64 (rd_T34 xs i).f0) ∧ w.cell? ⟨(ad.add (i.toNat * 12)).block, (ad.add (i.toNat * 12)).off + 1, none⟩ = some (.int .i64 (rd_T34 xs i).f1) ∧ w.cell? ⟨(ad.add (i.toNat * 12)).block, (ad.add (i.toNat * 12)).off + 2, none⟩ = some (.int .i64 (rd_T34 xs i).f2) ∧ w.cell? ⟨(ad.add (i.toNat * 12)).block, (ad.add (i.toNat * 12)).off + 3, none⟩ = some (.int .u64 (rd_T34 xs i).f3) ∧ w.cell? ⟨(ad.add (i.toNat * 12)).block, (ad.add (i.toNat * 12)).off + 4, none⟩ = some (.int .i64 (rd_T34 xs i).f4.f0) ∧ w.cell? ⟨(ad.add (i.toNat * 12)).block, (ad.add (i.toNat * 12)).off + 5, none⟩ = some (.int .i64 (rd_T34 xs i).f4.f1) ∧ w.cell? ⟨(ad.add (i.toNat * 12)).block, (ad.add (i.toNat * 12)).off + 6, none⟩ = some (.float .f64 (rd_T34 xs i).f4.f2) ∧ w.cell? ⟨(ad.add (i.toNat * 12)).block, (ad.add (i.toNat * 12)).off + 7, none⟩ = some (.string (rd_T34 xs i).f4.f3) ∧ w.cell? ⟨(ad.add (i.toNat * 12)).block, (ad.add (i.toNat * 12)).off + 8, none⟩ = some (.int .i64 (rd_T34 xs i).f5.f0) ∧ w.cell? ⟨(ad.add (i.toNat * 12)).block, (ad.add (i.toNat * 12)).off + 9, none⟩ = some (.int .i64 (rd_T34 xs i).f5.f1) ∧ w.cell? ⟨(ad.add (i.toNat * 12)).block, (ad.add (i.toNat * 12)).off + 10, none⟩ = some (.float .f64 (rd_T34 xs i).f5.f2) ∧ w.cell? ⟨(ad.add (i.toNat * 12)).block, (ad.add (i.toNat * 12)).off + 11, none⟩ = some (.string (rd_T34 xs i).f5.f3) := by
  obtain ⟨ad, c, e, _, hK, hc0⟩ := Kd.C_get h z34 i h0 h1
  have hc : ∀ j u, c[j]? = some u → w.cell? (ad.add (i.toNat * 12 + j)) = some u := hc0
  obtain rfl := k34_open hK
  exact ⟨ad, e, hc 0 _ rfl, by rw [← add_field _ _ 1 (by omega)]; exact hc 1 _ rfl, by rw [← add_field _ _ 2 (by omega)]; exact hc 2 _ rfl, by rw [← add_field _ _ 3 (by omega)]; exact hc 3 _ rfl, by rw [← add_field _ _ 4 (by omega)]; exact hc 4 _ rfl, by rw [← add_field _ _ 5 (by omega)]; exact hc 5 _ rfl, by rw [← add_field _ _ 6 (by omega)]; exact hc 6 _ rfl, by rw [← add_field _ _ 7 (by omega)]; exact hc 7 _ rfl, by rw [← add_field _ _ 8 (by omega)]; exact hc 8 _ rfl, by rw [← add_field _ _ 9 (by omega)]; exact hc 9 _ rfl, by rw [← add_field _ _ 10 (by omega)]; exact hc 10 _ rfl, by rw [← add_field _ _ 11 (by omega)]; exact hc 11 _ rfl⟩

/-! #### struct type 25 -/
structure S25 where
  f0 : Int
  f1 : Int
def z25 : S25 := ⟨(0 : Int), (0 : Int)⟩
def k25 : Kd S25 := Kd.iso (Kd.pair (Kd.int .i64) (Kd.int .u64)) (fun x : S25 => (x.f0, x.f1))
theorem k25_open {w : World} {x : S25} {cs : List Value} (h : k25.K w x cs) : cs = [.int .i64 x.f0, .int .u64 x.f1] := by
  obtain ⟨_, _, rfl, rfl, rfl⟩ := h
  exact rfl
theorem k25_openM {w : World} {base : Nat} {ok : Nat → Prop} {x : S25} {cs : List Value} (h : k25.M w base ok x cs) : cs = [.int .i64 x.f0, .int .u64 x.f1] := by
  obtain ⟨_, _, rfl, rfl, rfl⟩ := h
  exact rfl
theorem k25_mk (w : World) (x : S25)  : k25.K w x [.int .i64 x.f0, .int .u64 x.f1] := ⟨[.int .i64 x.f0], [.int .u64 x.f1], rfl, rfl, rfl⟩
theorem k25_mkM (w : World) (base : Nat) (ok : Nat → Prop) (x : S25)  : k25.M w base ok x [.int .i64 x.f0, .int .u64 x.f1] := ⟨[.int .i64 x.f0], [.int .u64 x.f1], rfl, rfl, rfl⟩
def rd_T25 (xs : List S25) (i : Int) : S25 := xs.getD i.toNat z25
theorem at_T25 {w : World} {A : Option Addr} {n : Nat} {xs : List S25} (h : Kd.C k25 w A n xs) (i : Int) (h0 : 0 ≤ i) (h1 : i < n) : ∃ ad , A = some ad ∧ w.cell? (ad.add (i.toNat * 2)) = some (.int .i64 (rd_T25 xs i).f0) ∧ w.cell? ⟨(ad.add (i.toNat * 2)).block, (ad.add (i.toNat * 2)).off + 1, none⟩ = some (.int .u64 (rd_T25 xs i).f1) := by
  obtain ⟨ad, c, e, _, hK, hc0⟩ := Kd.C_get h z25 i h0 h1
  have hc : ∀ j u, c[j]? = some u → w.cell? (ad.add (i.toNat * 2 + j)) = some u := hc0
  obtain rfl := k25_open hK
  exact ⟨ad, e, hc 0 _ rfl, by rw [← add_field _ _ 1 (by omega)]; exact hc 1 _ rfl⟩

/-! #### struct type 30 -/
structure S30 where
  f0 : Int
  f1 : Int
  f2 : S25
  f3 : S28
  f4 : S28
def z30 : S30 := ⟨(0 : Int), (0 : Int), z25, z28, z28⟩
def k30 : Kd S30 := Kd.iso (Kd.pair (Kd.int .i64) (Kd.pair (Kd.int .i64) (Kd.pair k25 (Kd.pair k28 k28)))) (fun x : S30 => (x.f0, x.f1, x.f2, x.f3, x.f4))
theorem k30_open {w : World} {x : S30} {cs : List Value} (h : k30.K w x cs) : cs = [.int .i64 x.f0, .int .i64 x.f1, .int .i64 x.f2.f0, .int .u64 x.f2.f1, .int .i64 x.f3.f0, .int .i64 x.f3.f1, .float .f64 x.f3.f2, .string x.f3.f3, .int .i64 x.f4.f0, .int .i64 x.f4.f1, .float .f64 x.f4.f2, .string x.f4.f3] := by
  obtain ⟨_, _, rfl, rfl, ⟨_, _, rfl, rfl, ⟨_, _, rfl, s2, ⟨_, _, rfl, s4, s8⟩⟩⟩⟩ := h
  obtain rfl := k25_open s2
  obtain rfl := k28_open s4
  obtain rfl := k28_open s8
  exact rfl
theorem k30_openM {w : World} {base : Nat} {ok : Nat → Prop} {x : S30} {cs : List Value} (h : k30.M w base ok x cs) : cs = [.int .i64 x.f0, .int .i64 x.f1, .int .i64 x.f2.f0, .int .u64 x.f2.f1, .int .i64 x.f3.f0, .int .i64 x.f3.f1, .float .f64 x.f3.f2, .string x.f3.f3, .int .i64 x.f4.f0, .int .i64 x.f4.f1, .float .f64 x.f4.f2, .string x.f4.f3] := by
  obtain ⟨_, _, rfl, rfl, ⟨_, _, rfl, rfl, ⟨_, _, rfl, s2, ⟨_, _, rfl, s4, s8⟩⟩⟩⟩ := h
  obtain rfl := k25_openM s2
  obtain rfl := k28_openM s4
  obtain rfl := k28_openM s8
  exact rfl
theorem k30_mk (w : World) (x : S30)  : k30.K w x [.int .i64 x.f0, .int .i64 x.f1, .int .i64 x.f2.f0, .int .u64 x.f2.f1, .int .i64 x.f3.f0, .int .i64 x.f3.f1, .float .f64 x.f3.f2, .string x.f3.f3, .int .i64 x.f4.f0, .int .i64 x.f4.f1, .float .f64 x.f4.f2, .string x.f4.f3] := ⟨[.int .i64 x.f0], [.int .i64 x.f1, .int .i64 x.f2.f0, .int .u64 x.f2.f1, .int .i64 x.f3.f0, .int .i64 x.f3.f1, .float .f64 x.f3.f2, .string x.f3.f3, .int .i64 x.f4.f0, .int .i64 x.f4.f1, .float .f64 x.f4.f2, .string x.f4.f3], rfl, rfl, ⟨[.int .i64 x.f1], [.int .i64 x.f2.f0, .int .u64 x.f2.f1, .int .i64 x.f3.f0, .int .i64 x.f3.f1, .float .f64 x.f3.f2, .string x.f3.f3, .int .i64 x.f4.f0, .int .i64 x.f4.f1, .float .f64 x.f4.f2, .string x.f4.f3], rfl, rfl, ⟨[.int .i64 x.f2.f0, .int .u64 x.f2.f1], [.int .i64 x.f3.f0, .int .i64 x.f3.f1, .float .f64 x.f3.f2, .string x.f3.f3, .int .i64 x.f4.f0, .int .i64 x.f4.f1, .float .f64 x.f4.f2, .string x.f4.f3], rfl, (k25_mk w x.f2 ), ⟨[.int .i64 x.f3.f0, .int .i64 x.f3.f1, .float .f64 x.f3.f2, .string x.f3.f3], [.int .i64 x.f4.f0, .int .i64 x.f4.f1, .float .f64 x.f4.f2, .string x.f4.f3], rfl, (k28_mk w x.f3 ), (k28_mk w x.f4 )⟩⟩⟩⟩
theorem k30_mkM (w : World) (base : Nat) (ok : Nat → Prop) (x : S30)  : k30.M w base ok x [.int .i64 x.f0, .int .i64 x.f1, .int .i64 x.f2.f0, .int .u64 x.f2.f1, .int .i64 x.f3.f0, .int .i64 x.f3.f1, .float .f64 x.f3.f2, .string x.f3.f3, .int .i64 x.f4.f0, .int .i64 x.f4.f1, .float .f64 x.f4.f2, .string x.f4.f3] := ⟨[.int .i64 x.f0], [.int .i64 x.f1, .int .i64 x.f2.f0, .int .u64 x.f2.f1, .int .i64 x.f3.f0, .int .i64 x.f3.f1, .float .f64 x.f3.f2, .string x.f3.f3, .int .i64 x.f4.f0, .int .i64 x.f4.f1, .float .f64 x.f4.f2, .string x.f4.f3], rfl, rfl, ⟨[.int .i64 x.f1], [.int .i64 x.f2.f0, .int .u64 x.f2.f1, .int .i64 x.f3.f0, .int .i64 x.f3.f1, .float .f64 x.f3.f2, .string x.f3.f3, .int .i64 x.f4.f0, .int .i64 x.f4.f1, .float .f64 x.f4.f2, .string x.f4.f3], rfl, rfl, ⟨[.int .i64 x.f2.f0, .int .u64 x.f2.f1], [.int .i64 x.f3.f0, .int .i64 x.f3.f1, .float .f64 x.f3.f2, .string x.f3.f3, .int .i64 x.f4.f0, .int .i64 x.f4.f1, .float .f64 x.f4.f2, .string x.f4.f3], rfl, (k25_mkM w base ok x.f2 ), ⟨[.int .i64 x.f3.f0, .int .i64 x.f3.f1, .float .f64 x.f3.f2, .string x.f3.f3], [.int .i64 x.f4.f0, .int .i64 x.f4.f1, .float .f64 x.f4.f2, .string x.f4.f3], rfl, (k28_mkM w base ok x.f3 ), (k28_mkM w base ok x.f4 )⟩⟩⟩⟩
def rd_T30 (xs : List S30) (i : Int) : S30 := xs.getD i.toNat z30
theorem at_T30 {w : World} {A : Option Addr} {n : Nat} {xs : List S30} (h : Kd.C k30 w A n xs) (i : Int) (h0 : 0 ≤ i) (h1 : i < n) : ∃ ad , A = some ad ∧ w.cell? (ad.add (i.toNat * 12)) = some (.int .i64 (rd_T30 xs i).f0) ∧ w.cell? ⟨(ad.add (i.toNat * 12)).block, (ad.add (i.toNat * 12)).off + 1, none⟩ = some (.int .i64 (rd_T30 xs i).f1) ∧ w.cell? ⟨(ad.add (i.toNat * 12)).block, (ad.add (i.toNat * 12)).off + 2, none⟩ = some (.int .i64 (rd_T30 xs i).f2.f0) ∧ w.cell? ⟨(ad.add (i.toNat * 12)).block, (ad.add (i.toNat * 12)).off + 3, none⟩ = some (.int .u64 (rd_T30 xs i).f2.f1) ∧ w.cell? ⟨(ad.add (i.toNat * 12)).block, (ad.add (i.toNat * 12)).off + 4, none⟩ = some (.int .i64 (rd_T30 xs i).f3.f0) ∧ w.cell? ⟨(ad.add (i.toNat * 12)).block, (ad.add (i.toNat * 12)).off + 5, none⟩ = some (.int .i64 (rd_T30 xs i).f3.f1) ∧ w.cell? ⟨(ad.add (i.toNat * 12)).block, (ad.add (i.toNat * 12)).off + 6, none⟩ = some (.float .f64 (rd_T30 xs i).f3.f2) ∧ w.cell? ⟨(ad.add (i.toNat * 12)).block, (ad.add (i.toNat * 12)).off + 7, none⟩ = some (.string (rd_T30 xs i).f3.f3) ∧ w.cell? ⟨(ad.add (i.toNat * 12)).block, (ad.add (i.toNat * 12)).off + 8, none⟩ = some (.int .i64 (rd_T30 xs i).f4.f0) ∧ w.cell? ⟨(ad.add (i.toNat * 12)).block, (ad.add (i.toNat * 12)).off + 9, none⟩ = some (.int .i64 (rd_T30 xs i).f4.f1) ∧ w.cell? ⟨(ad.add (i.toNat * 12)).block, (ad.add (i.toNat * 12)).off + 10, none⟩ = some (.float .f64 (rd_T30 xs i).f4.f2) ∧ w.cell? ⟨(ad.add (i.toNat * 12)).block, (ad.add (i.toNat * 12)).off + 11, none⟩ = some (.string (rd_T30 xs i).f4.f3) := by
  obtain ⟨ad, c, e, _, hK, hc0⟩ := Kd.C_get h z30 i h0 h1
  have hc : ∀ j u, c[j]? = some u → w.cell? (ad.add (i.toNat * 12 + j)) = some u := hc0
  obtain rfl := k30_open hK
  exact ⟨ad, e, hc 0 _ rfl, by rw [← add_field _ _ 1 (by omega)]; exact hc 1 _ rfl, by rw [← add_field _ _ 2 (by omega)]; exact hc 2 _ rfl, by rw [← add_field _ _ 3 (by omega)]; exact hc 3 _ rfl, by rw [← add_field _ _ 4 (by omega)]; exact hc 4 _ rfl, by rw [← add_field _ _ 5 (by omega)]; exact hc 5 _ rfl, by rw [← add_field _ _ 6 (by omega)]; exact hc 6 _ rfl, by rw [← add_field _ _ 7 (by omega)]; exact hc 7 _ rfl, by rw [← add_field _ _ 8 (by omega)]; exact hc 8 _ rfl, by rw [← add_field _ _ 9 (by omega)]; exact hc 9 _ rfl, by rw [← add_field _ _ 10 (by omega)]; exact hc 10 _ rfl, by rw [← add_field _ _ 11 (by omega)]; exact hc 11 _ rfl⟩

end Go.Proofs.Ytgpkjdjjjenhcaa.Q
