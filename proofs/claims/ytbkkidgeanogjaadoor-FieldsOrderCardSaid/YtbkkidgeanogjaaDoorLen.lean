/-
  THE LIBRARY'S math/bits.Len64 AND TrailingZeros64 IN THIS PROGRAM: the shelf's contracts at this program's numbers. Conditions: the arguments' ranges; for TrailingZeros64 that its table holds its numbers.
-/
import Derived.Test.YtbkkidgeanogjaaDoorWord
import Derived.Shelf.Strconv.Itoa0
import Derived.Shelf.Spec.TrailingZeros
namespace Go.Proofs.YtbkkidgeanogjaaDoor
open Go.RowKit
namespace Hb
set_option maxRecDepth 20000
def renLen : Go.Shelf.Ren := ⟨fun n => if n = 129 then 64 else n, fun n => if n = 3 then 3 else if n = 4 then 4 else if n = 5 then 5 else if n = 9 then 9 else if n = 46 then 96 else if n = 53 then 23 else n, fun n => n⟩
theorem laysLen : Lays.n129 Tryd.prog renLen := {
  mixed := by kernel_rfl,
  f129 := by kernel_rfl,
  t3 := by kernel_rfl,
  a3 := fun _ => by kernel_rfl,
  z3 := fun _ => by kernel_rfl,
  v3 := fun _ => by kernel_rfl,
  t4 := by kernel_rfl,
  a4 := fun _ => by kernel_rfl,
  z4 := fun _ => by kernel_rfl,
  v4 := fun _ => by kernel_rfl,
  t5 := by kernel_rfl,
  a5 := fun _ => by kernel_rfl,
  z5 := fun _ => by kernel_rfl,
  v5 := fun _ => by kernel_rfl,
  t9 := by kernel_rfl,
  a9 := fun _ => by kernel_rfl,
  z9 := fun _ => by kernel_rfl,
  v9 := fun _ => by kernel_rfl,
  t46 := by kernel_rfl,
  a46 := fun _ => by kernel_rfl,
  z46 := fun _ => by kernel_rfl,
  v46 := fun _ => by kernel_rfl,
  t53 := by kernel_rfl,
  a53 := fun _ => by kernel_rfl,
  z53 := fun _ => by kernel_rfl,
  v53 := fun _ => by kernel_rfl }
theorem len64_any (x : Int) (h0 : 0 ≤ x) (h1 : x < 18446744073709551616) (w : World) :
    Calls Tryd.prog 64 #[.int .u64 x] w fun e w' => e = .returned (.int .i64 (Lib.bitLen x.toNat)) ∧ w = w' :=
  (Any.bits_Len64 laysLen x w h0 (by omega)).mono fun _ _ ⟨he, hw⟩ => ⟨he, hw.symm⟩
end Hb
end Go.Proofs.YtbkkidgeanogjaaDoor
