/-
  THE LIBRARY'S math/bits.Len64 AND TrailingZeros64 IN THIS PROGRAM: the shelf's contracts at this program's numbers. Conditions: the arguments' ranges; for TrailingZeros64 that its table holds its numbers.
-/
import Derived.Test.YtbelighbkjadkaaDoorWord
import Derived.Shelf.Strconv.Itoa0
import Derived.Shelf.Spec.TrailingZeros
namespace Go.Proofs.YtbelighbkjadkaaDoor
open Go.RowKit
namespace Hb
set_option maxRecDepth 20000
def renLen : Go.Shelf.Ren := ⟨fun n => if n = 129 then 116 else n, fun n => if n = 3 then 3 else if n = 4 then 4 else if n = 5 then 5 else if n = 9 then 9 else if n = 46 then 93 else if n = 53 then 23 else n, fun n => n⟩
theorem laysLen : Lays.n129 Tryd.prog renLen := {
  mixed := by kernel_rfl,
  f129 := by kernel_rfl,
  t3 := by kernel_rfl,
  a3 := fun _ => by kernel_rfl,
  z3 := fun _ => by kernel_rfl,
  v3 := fun _ => by kernel_rfl,
  t4 := by kernel_rfl,
  a4 := fun _ => by kernel_rfl,
  z4 := fun _ => by kernel_rfl,
  v4 := fun _ => by kernel_rfl,
  t5 := by kernel_rfl,
  a5 := fun _ => by kernel_rfl,
  z5 := fun _ => by kernel_rfl,
  v5 := fun _ => by kernel_rfl,
  t9 := by kernel_rfl,
  a9 := fun _ => by kernel_rfl,
  z9 := fun _ => by kernel_rfl,
  v9 := fun _ => by kernel_rfl,
  t46 := by kernel_rfl,
  a46 := fun _ => by kernel_rfl,
  z46 := fun _ => by kernel_rfl,
  v46 := fun _ => by kernel_rfl,
  t53 := by kernel_rfl,
  a53 := fun _ => by kernel_rfl,
  z53 := fun _ => by kernel_rfl,
  v53 := fun _ => by kernel_rfl }
theorem len64_any (x : Int) (h0 : 0 ≤ x) (h1 : x < 18446744073709551616) (w : World) :
    Calls Tryd.prog 116 #[.int .u64 x] w fun e w' => e = .returned (.int .i64 (Lib.bitLen x.toNat)) ∧ w = w' :=
  (Any.bits_Len64 laysLen x w h0 (by omega)).mono fun _ _ ⟨he, hw⟩ => ⟨he, hw.symm⟩
/-- The library's table holds its numbers. -/
def DTab (w : World) : Prop := TabAt 1 Lib.deBruijn64tab w ∧ 1 < w.heap.size
theorem DTab.below {w w' : World} (h : DTab w) (hb : Gr w w') : DTab w' :=
  ⟨fun i hi => (Below.cell (p := ⟨1, i, none⟩) hb h.2).trans (h.1 i hi), Nat.lt_of_lt_of_le h.2 hb.size⟩
def renTz : Go.Shelf.Ren := ⟨fun n => if n = 29 then 93 else n, fun n => if n = 0 then 0 else if n = 3 then 3 else if n = 4 then 4 else if n = 5 then 5 else if n = 22 then 23 else if n = 25 then 93 else if n = 54 then 130 else n, fun n => if n = 1 then 1 else n⟩
theorem laysTz : Lays7.n29 Tryd.prog renTz := {
  mixed := by kernel_rfl,
  f29 := by kernel_rfl,
  t0 := by kernel_rfl,
  a0 := fun _ => by kernel_rfl,
  z0 := fun _ => by kernel_rfl,
  v0 := fun _ => by kernel_rfl,
  i0 := by kernel_rfl,
  t3 := by kernel_rfl,
  a3 := fun _ => by kernel_rfl,
  z3 := fun _ => by kernel_rfl,
  v3 := fun _ => by kernel_rfl,
  i3 := by kernel_rfl,
  t4 := by kernel_rfl,
  a4 := fun _ => by kernel_rfl,
  z4 := fun _ => by kernel_rfl,
  v4 := fun _ => by kernel_rfl,
  i4 := by kernel_rfl,
  t5 := by kernel_rfl,
  a5 := fun _ => by kernel_rfl,
  z5 := fun _ => by kernel_rfl,
  v5 := fun _ => by kernel_rfl,
  i5 := by kernel_rfl,
  t22 := by kernel_rfl,
  a22 := fun _ => by kernel_rfl,
  z22 := fun _ => by kernel_rfl,
  v22 := fun _ => by kernel_rfl,
  i22 := by kernel_rfl,
  t25 := by kernel_rfl,
  a25 := fun _ => by kernel_rfl,
  z25 := fun _ => by kernel_rfl,
  v25 := fun _ => by kernel_rfl,
  i25 := by kernel_rfl,
  t54 := by kernel_rfl,
  a54 := fun _ => by kernel_rfl,
  z54 := fun _ => by kernel_rfl,
  g1 := by kernel_rfl }
theorem tz64_any (x : Int) (h0 : 0 ≤ x) (h1 : x < 18446744073709551616) (w : World) (hT : DTab w) :
    Calls Tryd.prog 93 #[.int .u64 x] w fun e w' => e = .returned (.int .i64 (Lib.ctz 64 x.toNat)) ∧ w = w' := by
  obtain ⟨n, rfl⟩ := Int.eq_ofNat_of_zero_le h0
  exact (Any7.bits_TrailingZeros64 laysTz n (by omega) w fun _ => hT.1).mono fun _ _ ⟨he, hw⟩ => ⟨he, hw.symm⟩
end Hb
end Go.Proofs.YtbelighbkjadkaaDoor
