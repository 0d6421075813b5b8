/-
  LISTS OF NUMBERS OF 128 BITS: the first place at which something holds. No program in sight. No conditions.
-/
import Derived.Test.YtmnoghkbmkiplaaDoorPlain
namespace Go.Proofs.YtmnoghkbmkiplaaDoor
namespace Hb
/-- Is it so of one of the first n? -/
def anyF (p : BitVec 128 → Bool) (a : Nat → BitVec 128) : Nat → Bool
  | 0 => false
  | n + 1 => anyF p a n || p (a n)
/-- The first place below n at which it is so, or -1. -/
def idxF (p : BitVec 128 → Bool) (a : Nat → BitVec 128) : Nat → Int
  | 0 => -1
  | n + 1 => if 0 ≤ idxF p a n then idxF p a n else if p (a n) then (n : Int) else -1
theorem idx_miss (p : BitVec 128 → Bool) (a : Nat → BitVec 128) (n : Nat) (h : ∀ j, j < n → p (a j) = false) : idxF p a n = -1 := by
  induction n with
  | zero => rfl
  | succ n ih =>
    have := ih fun j hj => h j (by omega)
    unfold idxF
    rw [this, if_neg (by decide), h n (by omega)]
    rfl
theorem idx_hit (p : BitVec 128 → Bool) (a : Nat → BitVec 128) (n k : Nat) (hk : k < n) (hp : p (a k) = true) (h : ∀ j, j < k → p (a j) = false) : idxF p a n = (k : Int) := by
  induction n with
  | zero => omega
  | succ n ih =>
    unfold idxF
    by_cases e : k = n
    · subst e
      rw [idx_miss p a k h, if_neg (by decide), hp]
      rfl
    · rw [ih (by omega), if_pos (by omega)]
theorem any_idx (p : BitVec 128 → Bool) (a : Nat → BitVec 128) (n : Nat) : anyF p a n = decide (0 ≤ idxF p a n) := by
  induction n with
  | zero => rfl
  | succ n ih =>
    unfold anyF idxF
    rw [ih]
    by_cases h : 0 ≤ idxF p a n
    · rw [if_pos h]; simp [h]
    · rw [if_neg h]
      cases hp : p (a n)
      · simp [h]
      · simp
theorem idx_lt (p : BitVec 128 → Bool) (a : Nat → BitVec 128) (n : Nat) : -1 ≤ idxF p a n ∧ idxF p a n < n := by
  induction n with
  | zero => unfold idxF; decide
  | succ n ih =>
    unfold idxF
    split
    · omega
    · split <;> omega
theorem idx_get (p : BitVec 128 → Bool) (a : Nat → BitVec 128) (n : Nat) (h : 0 ≤ idxF p a n) : p (a (idxF p a n).toNat) = true := by
  induction n with
  | zero => exact absurd h (by unfold idxF; decide)
  | succ n ih =>
    unfold idxF at h ⊢
    by_cases h1 : 0 ≤ idxF p a n
    · rw [if_pos h1]; exact ih h1
    · rw [if_neg h1] at h ⊢
      by_cases h2 : p (a n) = true
      · rw [if_pos h2]; simpa using h2
      · rw [if_neg h2] at h; exact absurd h (by decide)
theorem any_of (p : BitVec 128 → Bool) (a : Nat → BitVec 128) (n : Nat) : anyF p a n = true ↔ ∃ i, i < n ∧ p (a i) = true := by
  induction n with
  | zero => simp [anyF]
  | succ n ih =>
    unfold anyF
    rw [Bool.or_eq_true, ih]
    constructor
    · rintro (⟨i, h1, h2⟩ | h)
      · exact ⟨i, by omega, h2⟩
      · exact ⟨n, by omega, h⟩
    · rintro ⟨i, h1, h2⟩
      by_cases e : i = n
      · subst e; exact .inr h2
      · exact .inl ⟨i, by omega, h2⟩
/-- One list behind another. -/
def catF (a : Nat → BitVec 128) (n : Nat) (b : Nat → BitVec 128) (i : Nat) : BitVec 128 := if i < n then a i else b (i - n)
theorem any_cat (p : BitVec 128 → Bool) (a b : Nat → BitVec 128) (n m : Nat) : anyF p (catF a n b) (n + m) = (anyF p a n || anyF p b m) := by
  rw [Bool.eq_iff_iff, Bool.or_eq_true, any_of, any_of, any_of]
  constructor
  · rintro ⟨i, h1, h2⟩
    unfold catF at h2
    by_cases h : i < n
    · rw [if_pos h] at h2; exact .inl ⟨i, h, h2⟩
    · rw [if_neg h] at h2; exact .inr ⟨i - n, by omega, h2⟩
  · rintro (⟨i, h1, h2⟩ | ⟨i, h1, h2⟩)
    · exact ⟨i, by omega, by unfold catF; rw [if_pos h1]; exact h2⟩
    · exact ⟨n + i, by omega, by unfold catF; rw [if_neg (by omega), show n + i - n = i by omega]; exact h2⟩
end Hb
end Go.Proofs.YtmnoghkbmkiplaaDoor
