/-
  THE WALKS of package word (and of what it calls of the library): each function hands back what the plain part says; what stood in memory stands. Conditions: none but the arguments' kinds.
-/
import Derived.Test.YtmnoghkbmkiplaaDoorProg
import Derived.Test.YtmnoghkbmkiplaaDoorPlain
import Derived.WalkKit
import Derived.WalkSpells
import Derived.WalkLawsBesides
import Derived.StillTactics
import Derived.Laws.Pointers
import Derived.Laws.Externs
import Derived.Deep.RegionHeld3
import Derived.RowKit3
namespace Go.Proofs.YtmnoghkbmkiplaaDoor
open Go.RowKit
namespace Hb

/-- A value of 128 bits, a value of 256 bits. -/
abbrev Bv (x : BitVec 128) : Value := .agg #[.int .u64 (hiB x), .int .u64 (loB x)]
abbrev Wv (x : BitVec 256) : Value := .agg #[.int .u64 (wq0 x), .int .u64 (wq1 x), .int .u64 (wq2 x), .int .u64 (wq3 x)]

/-- What stood stands; new blocks. -/
abbrev Gr (w w' : World) : Prop := Below w.heap.size w w'

theorem bcell {W w1 : World} (hb : Below W.heap.size W w1) : (∀ b o, b < W.heap.size → w1.cell? ⟨b, o, none⟩ = W.cell? ⟨b, o, none⟩) ∧ (∀ b o, b < W.heap.size → w1.frozen? ⟨b, o, none⟩ = W.frozen? ⟨b, o, none⟩) :=
  ⟨fun b o h => hb.cell (p := ⟨b, o, none⟩) h, fun b o h => hb.frozen (p := ⟨b, o, none⟩) h⟩

theorem undrew {W w1 : World} (h : Below W.drew.heap.size W.drew w1) : Below W.heap.size W w1 := ⟨h.os, h.tape, h.output, h.size, h.block⟩

theorem add64 (x y c : Int) (hx : 0 ≤ x) (hy : 0 ≤ y) (hc0 : 0 ≤ c) (hc : c ≤ 1) (hx' : x < 18446744073709551616) (hy' : y < 18446744073709551616) (w : World) : (callFunc 34 #[.int .u64 x, .int .u64 y, .int .u64 c]).run Tryd.prog w =
    .ok (.value (.tuple #[.int .u64 ((x + y + c) % 18446744073709551616), .int .u64 ((x + y + c) / 18446744073709551616)])) w := by
  obtain ⟨x, rfl⟩ := Int.eq_ofNat_of_zero_le hx
  obtain ⟨y, rfl⟩ := Int.eq_ofNat_of_zero_le hy
  obtain ⟨c, rfl⟩ := Int.eq_ofNat_of_zero_le hc0
  rw [run_callFunc_extern Tryd.func34 (by kernel_rfl) (by kernel_rfl) (by kernel_rfl) (e := add64Entry) (by kernel_rfl), run_add64 x y c (by omega) (by omega) (by omega) (by omega)]
  rfl
theorem add64_0 (x y : Int) (hx : 0 ≤ x) (hy : 0 ≤ y) (hx' : x < 18446744073709551616) (hy' : y < 18446744073709551616) (w : World) : (callFunc 34 #[.int .u64 x, .int .u64 y, .int .u64 0]).run Tryd.prog w =
    .ok (.value (.tuple #[.int .u64 ((x + y) % 18446744073709551616), .int .u64 ((x + y) / 18446744073709551616)])) w := by
  simpa using add64 x y 0 hx hy (Int.le_refl 0) (by decide) hx' hy' w

theorem add_any (x y : BitVec 128) (w : World) :
    Calls Tryd.prog 32 #[Bv x, Bv y] w fun e w' => e = .returned (.tuple #[Bv (bAdd x y), .bool (bCarry x y)]) ∧ Gr w w' := by
  obtain ⟨a1, a2⟩ := hiB_word x; obtain ⟨b1, b2⟩ := loB_word x; obtain ⟨c1, c2⟩ := hiB_word y; obtain ⟨d1, d2⟩ := loB_word y
  simp only [Bv]
  rw [add_carry, add_lo, add_hi]
  generalize hiB x = xh at *; generalize loB x = xl at *; generalize hiB y = yh at *; generalize loB y = yl at *
  have k0 : 0 ≤ (xl + yl) / 18446744073709551616 := by omega
  have k1 : (xl + yl) / 18446744073709551616 ≤ 1 := by omega
  go_enter Tryd.func32, Tryd.ntmps32
  go_wp2_with (first | simp only [add64_0 xl yl b1 d1 b2 d2] | simp only [add64 xh yh _ a1 c1 k0 k1 a2 c2])
  simp [bodyPost, results, Tryd.results32, go_sem]
  exact (((Below.refl _ _).alloc (Nat.le_refl _) _).alloc (by simp) _).alloc (by simp <;> omega) _
theorem zero_core (xh xl : Int) (r : Bool) (h : (r = false ∧ (xh == 0) = false) ∨ (r = false ∧ (xh == 0) = true ∧ (xl == 0) = false) ∨ (r = true ∧ xh = 0 ∧ xl = 0)) (w : World) :
    Calls Tryd.prog 19 #[.agg #[.int .u64 xh, .int .u64 xl]] w fun e w' => e = .returned (.bool r) ∧ Gr w w' := by
  rcases h with ⟨rfl, h1⟩ | ⟨rfl, h1, h2⟩ | ⟨rfl, rfl, rfl⟩
  · go_enter Tryd.func19, Tryd.ntmps19
    go_wp2
    go_ret
    exact ⟨rfl, (Below.refl _ _).alloc (Nat.le_refl _) _⟩
  · obtain rfl : xh = 0 := by simpa using h1
    clear h1
    go_enter Tryd.func19, Tryd.ntmps19
    go_wp2
    go_ret
    exact ⟨rfl, (Below.refl _ _).alloc (Nat.le_refl _) _⟩
  · go_enter Tryd.func19, Tryd.ntmps19
    go_wp2
    go_ret
    exact ⟨rfl, (Below.refl _ _).alloc (Nat.le_refl _) _⟩
theorem zero_any (x : BitVec 128) (w : World) :
    Calls Tryd.prog 19 #[Bv x] w fun e w' => e = .returned (.bool (bZero x)) ∧ Gr w w' := by
  rw [zero_hl]
  refine zero_core (hiB x) (loB x) _ ?_ w
  by_cases h1 : hiB x = 0
  · by_cases h2 : loB x = 0
    · exact .inr (.inr ⟨by simp [h1, h2], h1, h2⟩)
    · exact .inr (.inl ⟨by simp [h2], by simpa using h1, by simpa using h2⟩)
  · exact .inl ⟨by simp [h1], by simpa using h1⟩
end Hb
end Go.Proofs.YtmnoghkbmkiplaaDoor
