/-
  NATURAL NUMBERS BY DIGITS OF 32 BITS, SECOND PART: cuts, single bits, lengths, comparisons. No program in sight. No conditions.
-/
import Derived.Test.YtbelighbkjadkaaDoorCountPlain
namespace Go.Proofs.YtbelighbkjadkaaDoor
namespace Hb
theorem cut_mod (a n : Nat) : a - a / 2 ^ n * 2 ^ n = a % 2 ^ n := by
  have := Nat.div_add_mod a (2 ^ n)
  rw [Nat.mul_comm] at this
  omega
theorem cut_le (a n : Nat) : a / 2 ^ n * 2 ^ n ≤ a := Nat.div_mul_le_self a (2 ^ n)
theorem bit_dig (a i : Nat) : dig a (i / 32) / 2 ^ (i % 32) % 2 = a / 2 ^ i % 2 := by
  have hr : i % 32 < 32 := Nat.mod_lt _ (by decide)
  have e : a / 2 ^ i = a / B32 (i / 32) / 2 ^ (i % 32) := by
    unfold B32
    rw [Nat.div_div_eq_div_mul, ← Nat.pow_add]
    congr 2
    omega
  rw [e]
  unfold dig
  generalize a / B32 (i / 32) = x
  generalize i % 32 = r at hr
  rw [show (4294967296 : Nat) = 2 ^ r * 2 ^ (32 - r) by rw [← Nat.pow_add, show r + (32 - r) = 32 by omega], Nat.mod_mul_right_div_self, Nat.mod_mod_of_dvd]
  exact ⟨2 ^ (31 - r), by rw [← Nat.pow_succ', show (31 - r).succ = 32 - r by omega]⟩
/-! ### Lengths -/
theorem blen_two {t : Nat} (h : t ≠ 0) : blen (t * 2) = blen t + 1 := by
  have h1 : ∀ k, blen (t * 2) ≤ k + 1 ↔ blen t ≤ k := fun k => by rw [blen_le, blen_le, Nat.pow_succ]; omega
  have h2 := (h1 (blen t)).2 (Nat.le_refl _)
  have h3 : 0 < blen (t * 2) := blen_pos (by omega)
  have h4 := (h1 (blen (t * 2) - 1)).1 (by omega)
  omega
theorem blen_32 {t : Nat} (h1 : 2147483648 ≤ t) (h2 : t < 4294967296) : blen t = 32 := by
  have a := (blen_le t 32).2 h2
  have b : ¬ blen t ≤ 31 := fun h => by have := (blen_le t 31).1 h; omega
  omega
theorem blen_top {a L : Nat} (h : nlen a = L + 1) : blen a = 32 * L + blen (dig a L) := by
  have l1 : a < B32 (L + 1) := (nlen_le a _).1 (by omega)
  have l2 : ¬ a < B32 L := fun h' => by have := (nlen_le a L).2 h'; omega
  have hd : dig a L = a / B32 L := by
    unfold dig; rw [B32_succ] at l1
    exact Nat.mod_eq_of_lt (Nat.div_lt_of_lt_mul l1)
  have h1 : ∀ k, blen a ≤ 32 * L + k ↔ blen (dig a L) ≤ k := fun k => by
    rw [blen_le, blen_le, hd, Nat.pow_add, show 2 ^ (32 * L) = B32 L from rfl, Nat.div_lt_iff_lt_mul (B32_pos L), Nat.mul_comm]
  have h2 := (h1 (blen (dig a L))).2 (Nat.le_refl _)
  have h3 : 32 * L < blen a := by
    refine Nat.lt_of_not_le fun h' => l2 ?_
    exact (blen_le a (32 * L)).1 h'
  have h4 := (h1 (blen a - 32 * L)).1 (by omega)
  omega
theorem nlen_mono {a b : Nat} (h : a ≤ b) : nlen a ≤ nlen b := (nlen_le a _).2 (Nat.lt_of_le_of_lt h (nlen_lt b))
theorem nlen_mod (a n : Nat) : nlen (a % n) ≤ nlen a := nlen_mono (Nat.mod_le a n)
theorem nlen_div (a n : Nat) : nlen (a / n) ≤ nlen a := nlen_mono (Nat.div_le_self a n)
theorem nlen_of_lt {a k : Nat} (h : a < B32 k) : nlen a ≤ k := (nlen_le a k).2 h
theorem nlen_128 (x : BitVec 128) : nlen x.toNat ≤ 4 := nlen_of_lt x.isLt
theorem nlen_256 (x : BitVec 256) : nlen x.toNat ≤ 8 := nlen_of_lt x.isLt
theorem nlen_mul (a n : Nat) : nlen (a * 2 ^ n) ≤ n / 32 + nlen a + 1 := nlen_of_lt (shl_lt a n)
theorem blen_nlen (a : Nat) : blen a ≤ 32 * nlen a := (blen_le a _).2 (nlen_lt a)
/-! ### Comparisons -/
def cmpN (a b : Nat) : Int := if a < b then -1 else if b < a then 1 else 0
theorem cmp_lt {a b : Nat} (h : a < b) : cmpN a b = -1 := by unfold cmpN; rw [if_pos h]
theorem cmp_gt {a b : Nat} (h : b < a) : cmpN a b = 1 := by unfold cmpN; rw [if_neg (by omega), if_pos h]
theorem cmp_eq {a b : Nat} (h : a = b) : cmpN a b = 0 := by unfold cmpN; rw [if_neg (by omega), if_neg (by omega)]
theorem cmp_ge (a b : Nat) : (0 ≤ cmpN a b) ↔ b ≤ a := by unfold cmpN; repeat' split <;> omega
theorem cmp_len {a b : Nat} (h : nlen a < nlen b) : a < b := Nat.lt_of_not_le fun h' => by have := nlen_mono h'; omega
theorem div_step (a k : Nat) : a / B32 k = a / B32 (k + 1) * 4294967296 + dig a k := by
  unfold dig
  rw [B32_succ, ← Nat.div_div_eq_div_mul]
  have := Nat.div_add_mod (a / B32 k) 4294967296
  omega
theorem top_lt {a b k : Nat} (he : a / B32 (k + 1) = b / B32 (k + 1)) (h : dig a k < dig b k) : a < b := by
  refine Nat.lt_of_not_le fun h' => ?_
  have h1 := Nat.div_le_div_right (c := B32 k) h'
  rw [div_step a k, div_step b k, he] at h1
  omega
theorem top_eq {a b k : Nat} (he : a / B32 (k + 1) = b / B32 (k + 1)) (h : dig a k = dig b k) : a / B32 k = b / B32 k := by
  rw [div_step a k, div_step b k, he, h]
theorem top_all {a b : Nat} (he : a / B32 0 = b / B32 0) : a = b := by
  rw [B32_zero, Nat.div_one, Nat.div_one] at he; exact he
theorem top_none {a b : Nat} (h : nlen a = nlen b) : a / B32 (nlen a) = b / B32 (nlen a) := by
  rw [Nat.div_eq_of_lt (nlen_lt a), Nat.div_eq_of_lt (by rw [h]; exact nlen_lt b)]
end Hb
end Go.Proofs.YtbelighbkjadkaaDoor
