/-
  NATURAL NUMBERS BY DIGITS OF 32 BITS: what the reference's functions compute. No program in sight. No conditions.
-/
import Derived.Test.YtbkkidgeanogjaaDoorPlain
namespace Go.Proofs.YtbkkidgeanogjaaDoor
namespace Hb
/-- 2 to the power of 32 k. -/
def B32 (k : Nat) : Nat := 2 ^ (32 * k)
theorem B32_pos (k : Nat) : 0 < B32 k := Nat.two_pow_pos _
theorem B32_zero : B32 0 = 1 := rfl
theorem B32_succ (k : Nat) : B32 (k + 1) = B32 k * 4294967296 := by unfold B32; rw [Nat.mul_succ, Nat.pow_add]
theorem B32_add (j k : Nat) : B32 (j + k) = B32 j * B32 k := by unfold B32; rw [Nat.mul_add, Nat.pow_add]
theorem B32_mono {j k : Nat} (h : j ≤ k) : B32 j ≤ B32 k := Nat.pow_le_pow_right (by decide) (by omega)
def dig (n i : Nat) : Nat := n / B32 i % 4294967296
/-- How many digits. -/
def nlen (n : Nat) : Nat := if n = 0 then 0 else n.log2 / 32 + 1
theorem nlen_le (n k : Nat) : nlen n ≤ k ↔ n < B32 k := by
  unfold nlen B32
  by_cases h : n = 0
  · subst h; simp [Nat.two_pow_pos]
  · rw [if_neg h, ← Nat.log2_lt h]; omega
theorem nlen_lt (n : Nat) : n < B32 (nlen n) := (nlen_le n _).1 (Nat.le_refl _)
theorem dig_lt (n i : Nat) : dig n i < 4294967296 := Nat.mod_lt _ (by decide)
theorem dig_far {n i : Nat} (h : n < B32 i) : dig n i = 0 := by unfold dig; rw [Nat.div_eq_of_lt h]
theorem dig_top {n k : Nat} (h : nlen n = k + 1) : dig n k ≠ 0 := by
  intro hd
  have h1 : n < B32 (k + 1) := (nlen_le n _).1 (by omega)
  have h2 : ¬ n < B32 k := fun h => by have := (nlen_le n k).2 h; omega
  rw [B32_succ] at h1
  unfold dig at hd
  have h3 : n / B32 k < 4294967296 := Nat.div_lt_of_lt_mul h1
  rw [Nat.mod_eq_of_lt h3] at hd
  have := Nat.div_eq_zero_iff_lt (B32_pos k) |>.1 hd
  exact h2 this
theorem dig_above {n k : Nat} (h : nlen n ≤ k) : dig n k = 0 := dig_far ((nlen_le n k).1 h)
theorem mod_step (n k : Nat) : n % B32 (k + 1) = n % B32 k + B32 k * dig n k := by
  unfold dig; rw [B32_succ, Nat.mod_mul]
theorem dig_0 (n : Nat) : dig n 0 = n % 4294967296 := by unfold dig; rw [B32_zero, Nat.div_one]
theorem dig_1 (n : Nat) : dig n 1 = n / 4294967296 % 4294967296 := rfl
theorem dig_2 (n : Nat) : dig n 2 = n / 18446744073709551616 % 4294967296 := rfl
theorem dig_3 (n : Nat) : dig n 3 = n / 79228162514264337593543950336 % 4294967296 := rfl
/-! ### A sum, digit by digit -/
def carN (a b k : Nat) : Nat := (a % B32 k + b % B32 k) / B32 k
theorem car_0 (a b : Nat) : carN a b 0 = 0 := by unfold carN; rw [B32_zero]; omega
theorem car_le (a b k : Nat) : carN a b k ≤ 1 := by
  unfold carN
  have h1 := Nat.mod_lt a (B32_pos k)
  have h2 := Nat.mod_lt b (B32_pos k)
  have : (a % B32 k + b % B32 k) / B32 k < 2 := Nat.div_lt_of_lt_mul (by omega)
  omega
theorem car_step (a b k : Nat) : (carN a b k + dig a k + dig b k) / 4294967296 = carN a b (k + 1) := by
  have hp := B32_pos k
  unfold carN
  rw [mod_step, mod_step, B32_succ, ← Nat.div_div_eq_div_mul]
  congr 1
  rw [show a % B32 k + B32 k * dig a k + (b % B32 k + B32 k * dig b k) = (a % B32 k + b % B32 k) + B32 k * (dig a k + dig b k) by rw [Nat.mul_add]; omega, Nat.add_mul_div_left _ _ hp]
  omega
theorem add_dig (a b k : Nat) : (carN a b k + dig a k + dig b k) % 4294967296 = dig (a + b) k := by
  have hp := B32_pos k
  have e : (a + b) / B32 k = carN a b k + a / B32 k + b / B32 k := by
    unfold carN
    have h1 := Nat.div_add_mod a (B32 k)
    have h2 := Nat.div_add_mod b (B32 k)
    have h3 : a + b = (a % B32 k + b % B32 k) + B32 k * (a / B32 k + b / B32 k) := by rw [Nat.mul_add]; omega
    rw [h3, Nat.add_mul_div_left _ _ hp]
    omega
  unfold dig
  rw [e]
  omega
theorem add_last (a b L : Nat) (ha : nlen a ≤ L) (hb : nlen b ≤ L) : carN a b L = dig (a + b) L ∧ a + b < B32 (L + 1) := by
  have h1 := (nlen_le a L).1 ha
  have h2 := (nlen_le b L).1 hb
  have hp := B32_pos L
  rw [B32_succ]
  refine ⟨?_, by omega⟩
  have := add_dig a b L
  rw [dig_far h1, dig_far h2] at this
  have := car_le a b L
  omega
/-! ### A difference, digit by digit -/
def borN (a b k : Nat) : Nat := if a % B32 k < b % B32 k then 1 else 0
theorem bor_0 (a b : Nat) : borN a b 0 = 0 := by unfold borN; rw [B32_zero, if_neg (by omega)]
theorem bor_le (a b k : Nat) : borN a b k ≤ 1 := by unfold borN; split <;> omega
theorem sub_dig (a b k : Nat) (h : b ≤ a) : (dig a k + 4294967296 - dig b k - borN a b k) % 4294967296 = dig (a - b) k ∧ 1 - (dig a k + 4294967296 - dig b k - borN a b k) / 4294967296 = borN a b (k + 1) := by
  have hp := B32_pos k
  have l1 := dig_lt a k
  have l2 := dig_lt b k
  have l3 := bor_le a b k
  have ra := Nat.mod_lt a hp
  have rb := Nat.mod_lt b hp
  have ea := Nat.div_add_mod a (B32 k)
  have eb := Nat.div_add_mod b (B32 k)
  constructor
  · have e : (a - b) / B32 k + b / B32 k + borN a b k = a / B32 k := by
      unfold borN
      by_cases hlt : a % B32 k < b % B32 k
      · rw [if_pos hlt]
        have hq : b / B32 k < a / B32 k := by
          refine Nat.lt_of_not_le fun hle => ?_
          have := Nat.mul_le_mul_left (B32 k) hle
          omega
        obtain ⟨d, hd⟩ := Nat.exists_eq_add_of_lt hq
        have : a - b = (B32 k + a % B32 k - b % B32 k) + B32 k * d := by
          rw [hd, Nat.mul_add, Nat.mul_add, Nat.mul_one] at ea
          omega
        rw [this, Nat.add_mul_div_left _ _ hp, Nat.div_eq_of_lt (by omega)]
        omega
      · rw [if_neg hlt]
        have hq : b / B32 k ≤ a / B32 k := Nat.div_le_div_right h
        obtain ⟨d, hd⟩ := Nat.exists_eq_add_of_le hq
        have : a - b = (a % B32 k - b % B32 k) + B32 k * d := by
          rw [hd, Nat.mul_add] at ea
          omega
        rw [this, Nat.add_mul_div_left _ _ hp, Nat.div_eq_of_lt (by omega)]
        omega
    unfold dig
    omega
  · have e : borN a b (k + 1) = if dig a k < dig b k + borN a b k then 1 else 0 := by
      unfold borN
      rw [mod_step, mod_step]
      by_cases hlt : a % B32 k < b % B32 k
      · rw [if_pos hlt]
        by_cases h2 : dig a k < dig b k + 1
        · rw [if_pos h2]
          have := Nat.mul_le_mul_left (B32 k) (show dig a k ≤ dig b k by omega)
          rw [if_pos (by omega)]
        · rw [if_neg h2]
          have := Nat.mul_le_mul_left (B32 k) (show dig b k + 1 ≤ dig a k by omega)
          rw [Nat.mul_add, Nat.mul_one] at this
          rw [if_neg (by omega)]
      · rw [if_neg hlt]
        by_cases h2 : dig a k < dig b k + 0
        · rw [if_pos h2]
          have := Nat.mul_le_mul_left (B32 k) (show dig a k + 1 ≤ dig b k by omega)
          rw [Nat.mul_add, Nat.mul_one] at this
          rw [if_pos (by omega)]
        · rw [if_neg h2]
          have := Nat.mul_le_mul_left (B32 k) (show dig b k ≤ dig a k by omega)
          rw [if_neg (by omega)]
    rw [e]
    split <;> omega
/-! ### Shifts, digit by digit -/
theorem shl_low (a n i : Nat) (h : i < n / 32) : dig (a * 2 ^ n) i = 0 := by
  unfold dig B32
  have e : n = 32 * i + (32 + (n - 32 * (i + 1))) := by omega
  rw [e, Nat.pow_add 2 (32 * i), Nat.mul_comm a, Nat.mul_assoc, Nat.mul_div_cancel_left _ (Nat.two_pow_pos _), Nat.pow_add, Nat.mul_assoc, show (4294967296 : Nat) = 2 ^ 32 from rfl, Nat.mul_mod_right]
def shcN (a r k : Nat) : Nat := a % B32 k * 2 ^ r / B32 k
theorem shc_0 (a r : Nat) : shcN a r 0 = 0 := by unfold shcN; rw [B32_zero, Nat.mod_one]; simp
theorem shc_lt (a r k : Nat) : shcN a r k < 2 ^ r := by
  unfold shcN
  refine Nat.div_lt_of_lt_mul ?_
  exact Nat.mul_lt_mul_of_pos_right (Nat.mod_lt _ (B32_pos k)) (Nat.two_pow_pos r)
theorem shc_step (a r k : Nat) : (shcN a r k + dig a k * 2 ^ r) / 4294967296 = shcN a r (k + 1) := by
  have hp := B32_pos k
  unfold shcN
  rw [mod_step, B32_succ, ← Nat.div_div_eq_div_mul, Nat.add_mul, Nat.mul_assoc, Nat.add_mul_div_left _ _ hp]
theorem shl_dig (a n k : Nat) : (shcN a (n % 32) k + dig a k * 2 ^ (n % 32)) % 4294967296 = dig (a * 2 ^ n) (n / 32 + k) := by
  have hp := B32_pos k
  have e1 : a * 2 ^ n / B32 (n / 32 + k) = a * 2 ^ (n % 32) / B32 k := by
    have : (2 : Nat) ^ n = B32 (n / 32) * 2 ^ (n % 32) := by unfold B32; rw [← Nat.pow_add]; congr 1; omega
    rw [this, B32_add, ← Nat.mul_assoc, Nat.mul_comm a, Nat.mul_assoc, ← Nat.div_div_eq_div_mul, Nat.mul_div_cancel_left _ (B32_pos _)]
  have e2 : a * 2 ^ (n % 32) / B32 k = shcN a (n % 32) k + a / B32 k * 2 ^ (n % 32) := by
    unfold shcN
    have ea := Nat.div_add_mod a (B32 k)
    have : a * 2 ^ (n % 32) = a % B32 k * 2 ^ (n % 32) + B32 k * (a / B32 k * 2 ^ (n % 32)) := by
      rw [← Nat.mul_assoc, ← Nat.add_mul]; congr 1; omega
    rw [this, Nat.add_mul_div_left _ _ hp]
  unfold dig
  rw [e1, e2, Nat.add_mod, Nat.add_mod (shcN a (n % 32) k) (a / B32 k * 2 ^ (n % 32)), Nat.mul_mod, Nat.mod_mod, ← Nat.mul_mod]
theorem shl_lt (a n : Nat) : a * 2 ^ n < B32 (n / 32 + nlen a + 1) := by
  have h1 := nlen_lt a
  have h2 : (2 : Nat) ^ n < B32 (n / 32 + 1) := by unfold B32; exact Nat.pow_lt_pow_right (by decide) (by omega)
  rw [show n / 32 + nlen a + 1 = nlen a + (n / 32 + 1) by omega, B32_add]
  exact Nat.mul_lt_mul'' h1 h2
theorem shl_last (a n : Nat) : shcN a (n % 32) (nlen a) = dig (a * 2 ^ n) (n / 32 + nlen a) := by
  have h := shl_dig a n (nlen a)
  rw [dig_far (nlen_lt a), Nat.zero_mul, Nat.add_zero, Nat.mod_eq_of_lt] at h
  · exact h
  · have := shc_lt a (n % 32) (nlen a)
    exact Nat.lt_of_lt_of_le this (Nat.pow_le_pow_right (by decide) (by omega : n % 32 ≤ 32))
theorem or_add (c d r : Nat) (h : c < 2 ^ r) : c ||| d * 2 ^ r = c + d * 2 ^ r := by
  have := Nat.two_pow_add_eq_or_of_lt h d
  rw [Nat.or_comm, Nat.mul_comm, ← this]; omega
theorem shr_dig (a n k : Nat) : (dig a (n / 32 + k) + dig a (n / 32 + k + 1) * 4294967296) / 2 ^ (n % 32) % 4294967296 = dig (a / 2 ^ n) k := by
  have e0 : dig a (n / 32 + k) + dig a (n / 32 + k + 1) * 4294967296 = a / B32 (n / 32 + k) % (4294967296 * 4294967296) := by
    unfold dig
    rw [B32_succ, ← Nat.div_div_eq_div_mul, Nat.mod_mul, Nat.mul_comm]
  have e1 : a / 2 ^ n / B32 k = a / B32 (n / 32 + k) / 2 ^ (n % 32) := by
    rw [Nat.div_div_eq_div_mul, Nat.div_div_eq_div_mul]
    congr 1
    unfold B32
    rw [← Nat.pow_add, ← Nat.pow_add]
    congr 1
    omega
  rw [e0]
  unfold dig
  rw [e1]
  generalize a / B32 (n / 32 + k) = x
  have hr : n % 32 < 32 := Nat.mod_lt _ (by decide)
  generalize n % 32 = r at hr
  apply Nat.eq_of_testBit_eq; intro i
  rw [show (4294967296 * 4294967296 : Nat) = 2 ^ 64 from rfl, show (4294967296 : Nat) = 2 ^ 32 from rfl]
  rw [Nat.testBit_mod_two_pow, Nat.testBit_mod_two_pow, Nat.testBit_div_two_pow, Nat.testBit_div_two_pow, Nat.testBit_mod_two_pow]
  by_cases hi : i < 32
  · have : i + r < 64 := by omega
    simp [hi, this]
  · simp [hi]
theorem shr_lt (a n : Nat) : a / 2 ^ n < B32 (nlen a - n / 32) := by
  refine Nat.div_lt_of_lt_mul ?_
  have h1 := nlen_lt a
  by_cases h : n / 32 ≤ nlen a
  · refine Nat.lt_of_lt_of_le h1 ?_
    unfold B32
    rw [← Nat.pow_add]
    exact Nat.pow_le_pow_right (by decide) (by omega)
  · rw [show nlen a - n / 32 = 0 by omega, B32_zero, Nat.mul_one]
    refine Nat.lt_of_lt_of_le h1 ?_
    unfold B32
    exact Nat.pow_le_pow_right (by decide) (by omega)
/-- How many bits. -/
def blen (n : Nat) : Nat := if n = 0 then 0 else n.log2 + 1
theorem blen_le (n k : Nat) : blen n ≤ k ↔ n < 2 ^ k := by
  unfold blen
  by_cases h : n = 0
  · subst h; simp [Nat.two_pow_pos]
  · rw [if_neg h, ← Nat.log2_lt h]; omega
end Hb
end Go.Proofs.YtbkkidgeanogjaaDoor
