/-
  THE WALK of word.Sub. Conditions: none.
-/
import Derived.Test.YtkkbenhmgfohiaaDoorWord
import Derived.Lib.Hide
import Derived.Shelf.Spec.BitsCarry
namespace Go.Proofs.YtkkbenhmgfohiaaDoor
open Go.RowKit
namespace Hb
set_option maxRecDepth 20000
theorem sub64 (x y c : Int) (hx : 0 ≤ x) (hy : 0 ≤ y) (hc0 : 0 ≤ c) (hc : c ≤ 1) (hx' : x < 18446744073709551616) (hy' : y < 18446744073709551616) (w : World) : (callFunc 62 #[.int .u64 x, .int .u64 y, .int .u64 c]).run Tryd.prog w =
    .ok (.value (.tuple #[.int .u64 ((x - y - c) % 18446744073709551616), .int .u64 (bor x (y + c))])) w := by
  obtain ⟨x, rfl⟩ := Int.eq_ofNat_of_zero_le hx
  obtain ⟨y, rfl⟩ := Int.eq_ofNat_of_zero_le hy
  obtain ⟨c, rfl⟩ := Int.eq_ofNat_of_zero_le hc0
  have e1 : (((x + 18446744073709551616 - y - c) % 18446744073709551616 : Nat) : Int) = ((x : Int) - y - c) % 18446744073709551616 := by omega
  have e2 : ((if x < y + c then 1 else 0 : Nat) : Int) = bor (x : Int) ((y : Int) + c) := by
    unfold bor
    by_cases h : x < y + c
    · rw [if_pos h, if_pos (by omega)]; rfl
    · rw [if_neg h, if_neg (by omega)]; rfl
  have hr := Go.Proofs.run_sub64 (P := Tryd.prog) x y c (by omega) w
  rw [e1, e2] at hr
  rw [run_callFunc_extern Tryd.func62 (by kernel_rfl) (by kernel_rfl) (by kernel_rfl) (e := sub64Entry) (by kernel_rfl), hr]
  rfl
theorem sub64_0 (x y : Int) (hx : 0 ≤ x) (hy : 0 ≤ y) (hx' : x < 18446744073709551616) (hy' : y < 18446744073709551616) (w : World) : (callFunc 62 #[.int .u64 x, .int .u64 y, .int .u64 0]).run Tryd.prog w =
    .ok (.value (.tuple #[.int .u64 ((x - y) % 18446744073709551616), .int .u64 (bor x y)])) w := by
  simpa using sub64 x y 0 hx hy (Int.le_refl 0) (by decide) hx' hy' w
theorem below_bor (x y : BitVec 128) : bBelow x y = (bor (hiB x) (hiB y + bor (loB x) (loB y)) != 0) := by
  rw [sub_below]
  generalize bor (loB x) (loB y) = c
  unfold bor
  by_cases h : hiB x < hiB y + c
  · rw [if_pos h, decide_eq_true h]; rfl
  · rw [if_neg h, decide_eq_false h]; rfl
theorem bor_bd (x y : Int) : 0 ≤ bor x y ∧ bor x y ≤ 1 := by unfold bor; split <;> decide
theorem sub_any (x y : BitVec 128) (w : World) :
    Calls Tryd.prog 32 #[Bv x, Bv y] w fun e w' => e = .returned (.tuple #[Bv (bSub x y), .bool (bBelow x y)]) ∧ Gr w w' := by
  obtain ⟨a1, a2⟩ := hiB_word x; obtain ⟨b1, b2⟩ := loB_word x; obtain ⟨c1, c2⟩ := hiB_word y; obtain ⟨d1, d2⟩ := loB_word y
  simp only [Bv]
  rw [below_bor, sub_lo, sub_hi]
  generalize hiB x = xh at *; generalize loB x = xl at *; generalize hiB y = yh at *; generalize loB y = yl at *
  obtain ⟨k0, k1⟩ := bor_bd xl yl
  go_enter Tryd.func32, Tryd.ntmps32
  go_wp2_with (first | simp only [sub64_0 xl yl b1 d1 b2 d2] | simp only [sub64 xh yh _ a1 c1 k0 k1 a2 c2])
  simp [bodyPost, results, Tryd.results32, go_sem]
  exact (((Below.refl _ _).alloc (Nat.le_refl _) _).alloc (by simp) _).alloc (by simp <;> omega) _
theorem sub_as (x y z : BitVec 128) (c : Bool) (H : Hid (bSub x y = z ∧ bBelow x y = c)) (w : World) :
    Calls Tryd.prog 32 #[Bv x, Bv y] w fun e w' => e = .returned (.tuple #[Bv z, .bool c]) ∧ Gr w w' := by
  obtain ⟨rfl, rfl⟩ := H.out; exact sub_any x y w
end Hb
end Go.Proofs.YtkkbenhmgfohiaaDoor
