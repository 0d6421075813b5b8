/-
  THE PLAIN PART OF package shift: a row of words, moved by so many bits, word by word: by single bits. No program in sight. No conditions.
-/
import Derived.Test.YtmnoghkbmkiplaaDoorPlain
import Derived.Laws.BitsAllLaws
namespace Go.Proofs.YtmnoghkbmkiplaaDoor
namespace Hb

/-- A number's bit at a place that may lie below 0. -/
def tb (X : Nat) (m : Int) : Bool := decide (0 ≤ m) && X.testBit m.toNat
/-- A number's word at a place that may lie outside. -/
def wordAt (len X : Nat) (j : Int) : Nat := if 0 ≤ j ∧ j < len then X / 2 ^ (64 * j.toNat) % 2 ^ 64 else 0
/-- Up by n bits, or down (below 0), within so many words. -/
def shfN (len X : Nat) (n : Int) : Nat := if 0 ≤ n then (X <<< n.toNat) % 2 ^ (64 * len) else X >>> (-n).toNat

theorem tb_word (len X : Nat) (hX : X < 2 ^ (64 * len)) (j : Int) (k : Nat) (hk : k < 64) : (wordAt len X j).testBit k = tb X (64 * j + k) := by
  unfold wordAt tb
  split
  · rename_i h
    obtain ⟨m, rfl⟩ := Int.eq_ofNat_of_zero_le h.1
    rw [Nat.testBit_mod_two_pow, Nat.testBit_div_two_pow]
    have e : (64 * (m : Int) + k).toNat = k + 64 * m := by omega
    simp only [e, Int.toNat_natCast]
    have h2 : (0 : Int) ≤ 64 * (m : Int) + k := by omega
    simp [hk, h2]
  · rename_i h
    rw [Nat.zero_testBit]
    by_cases h2 : (0 : Int) ≤ 64 * j + k
    · have hj : (len : Int) ≤ j := by omega
      have : X.testBit (64 * j + k).toNat = false := Nat.testBit_lt_two_pow (Nat.lt_of_lt_of_le hX (Nat.pow_le_pow_right (by decide) (by omega)))
      rw [this]; simp
    · simp [h2]

theorem tb_shf (len X : Nat) (_hX : X < 2 ^ (64 * len)) (n : Int) (m : Nat) (hm : m < 64 * len) : (shfN len X n).testBit m = tb X (m - n) := by
  unfold shfN tb
  split
  · rename_i h
    obtain ⟨a, rfl⟩ := Int.eq_ofNat_of_zero_le h
    rw [Nat.testBit_mod_two_pow, Nat.testBit_shiftLeft]
    simp only [Int.toNat_natCast]
    have e : ((m : Int) - a).toNat = m - a := by omega
    rw [e]
    have e2 : decide ((0 : Int) ≤ (m : Int) - a) = decide (a ≤ m) := by rw [decide_eq_decide]; omega
    rw [e2]; simp [hm]
  · rename_i h
    rw [Nat.testBit_shiftRight]
    have e : ((m : Int) - n).toNat = (-n).toNat + m := by omega
    rw [e]
    have h2 : decide ((0 : Int) ≤ (m : Int) - n) = true := decide_eq_true (by omega)
    rw [h2, Bool.true_and]

theorem shf_lt (len X : Nat) (hX : X < 2 ^ (64 * len)) (n : Int) : shfN len X n < 2 ^ (64 * len) := by
  unfold shfN
  split
  · exact Nat.mod_lt _ (Nat.two_pow_pos _)
  · rw [Nat.shiftRight_eq_div_pow]; exact Nat.lt_of_le_of_lt (Nat.div_le_self _ _) hX

/-- One word of a moved row: the word below, moved up, and what comes up out of the one below that. -/
def mvN (p q r : Nat) : Nat := ((p <<< r) % 2 ^ 64) ||| (q >>> (64 - r))

theorem word_shf (len X : Nat) (hX : X < 2 ^ (64 * len)) (n : Int) (i : Nat) (hi : i < len) :
    wordAt len (shfN len X n) i = mvN (wordAt len X (i - n / 64)) (wordAt len X (i - n / 64 - 1)) (n % 64).toNat := by
  apply Nat.eq_of_testBit_eq
  intro k
  have hr : (n % 64).toNat < 64 := by omega
  by_cases hk : k < 64
  · rw [tb_word len _ (shf_lt len X hX n) _ _ hk]
    have e1 : tb (shfN len X n) (64 * (i : Int) + k) = (shfN len X n).testBit (64 * i + k) := by
      unfold tb
      have e : (64 * (i : Int) + k).toNat = 64 * i + k := by omega
      rw [e]
      have : (0 : Int) ≤ 64 * (i : Int) + k := by omega
      simp [this]
    rw [e1, tb_shf len X hX n _ (by omega)]
    unfold mvN
    rw [Nat.testBit_or, Nat.testBit_mod_two_pow, Nat.testBit_shiftLeft, Nat.testBit_shiftRight]
    by_cases hkr : (n % 64).toNat ≤ k
    · have h1 : k - (n % 64).toNat < 64 := by omega
      rw [tb_word len X hX _ _ h1]
      have h2 : (wordAt len X (↑i - n / 64 - 1)).testBit (64 - (n % 64).toNat + k) = false := by
        refine Nat.testBit_lt_two_pow (Nat.lt_of_lt_of_le (m := 2 ^ 64) ?_ (Nat.pow_le_pow_right (by decide) (by omega)))
        unfold wordAt; split
        · exact Nat.mod_lt _ (by decide)
        · decide
      rw [h2]
      have e : 64 * ((i : Int) - n / 64) + ((k - (n % 64).toNat : Nat) : Int) = ((64 * i + k : Nat) : Int) - n := by omega
      rw [e]; simp [hk, hkr]
    · have h1 : 64 - (n % 64).toNat + k < 64 := by omega
      rw [tb_word len X hX _ _ h1]
      have e : 64 * ((i : Int) - n / 64 - 1) + ((64 - (n % 64).toNat + k : Nat) : Int) = ((64 * i + k : Nat) : Int) - n := by omega
      rw [e]; simp [hkr]
  · have z1 : (wordAt len (shfN len X n) i).testBit k = false := by
      refine Nat.testBit_lt_two_pow (Nat.lt_of_lt_of_le (m := 2 ^ 64) ?_ (Nat.pow_le_pow_right (by decide) (by omega)))
      unfold wordAt; split
      · exact Nat.mod_lt _ (by decide)
      · decide
    have z2 : (mvN (wordAt len X (↑i - n / 64)) (wordAt len X (↑i - n / 64 - 1)) (n % 64).toNat).testBit k = false := by
      have hq : wordAt len X (↑i - n / 64 - 1) < 2 ^ 64 := by
        unfold wordAt; split
        · exact Nat.mod_lt _ (by decide)
        · decide
      refine Nat.testBit_lt_two_pow (Nat.lt_of_lt_of_le (m := 2 ^ 64) ?_ (Nat.pow_le_pow_right (by decide) (by omega)))
      unfold mvN
      refine Nat.or_lt_two_pow (Nat.mod_lt _ (by decide)) ?_
      rw [Nat.shiftRight_eq_div_pow]
      exact Nat.lt_of_le_of_lt (Nat.div_le_self _ _) hq
    rw [z1, z2]

/-- The walk's own form of that word. -/
theorem mv_form (p q : Nat) (r : Int) (hq : q < 2 ^ 64) (h0 : 0 ≤ r) (h1 : r ≤ 63) :
    bits BinOp.or IntKind.u64 (IntKind.u64.wrap ((p : Int) * 2 ^ r.toNat)) ((q : Int) / 2 / 2 ^ (63 - r).toNat) = ((mvN p q r.toNat : Nat) : Int) := by
  obtain ⟨m, rfl⟩ := Int.eq_ofNat_of_zero_le h0
  have e1 : IntKind.u64.wrap ((p : Int) * 2 ^ (m : Int).toNat) = ((p <<< m % 2 ^ 64 : Nat) : Int) := by
    rw [IntKind.wrap_u64, Int.toNat_natCast, Nat.shiftLeft_eq]
    simp
  have e2 : (q : Int) / 2 / 2 ^ (63 - (m : Int)).toNat = ((q >>> (64 - m) : Nat) : Int) := by
    have e : (63 - (m : Int)).toNat = 63 - m := by omega
    rw [e, Nat.shiftRight_eq_div_pow]
    have e3 : 64 - m = 1 + (63 - m) := by omega
    rw [e3, Nat.pow_add, ← Nat.div_div_eq_div_mul]
    simp
  rw [e1, e2, u64_or_nat _ _ (Nat.mod_lt _ (by decide)) ?_]
  · rfl
  · rw [Nat.shiftRight_eq_div_pow]
    exact Nat.lt_of_le_of_lt (Nat.div_le_self _ _) hq

theorem and63 (n : Int) (h0 : -512 ≤ n) (h1 : n ≤ 512) : bits BinOp.and IntKind.i64 n 63 = n % 64 := by
  have key : ∀ m : Fin 1025, bits BinOp.and IntKind.i64 ((m : Nat) - 512 : Int) 63 = ((m : Nat) - 512 : Int) % 64 := by decide +kernel
  have := key ⟨(n + 512).toNat, by omega⟩
  have e : (((n + 512).toNat : Nat) : Int) - 512 = n := by omega
  simp only [e] at this
  exact this

/-! ### At 128 bits -/
def sel2 (a0 a1 i : Int) : Int := if i = 0 then a0 else if i = 1 then a1 else 0
/-- Up by n bits, or down (below 0). -/
def bShf (x : BitVec 128) (n : Int) : BitVec 128 := BitVec.ofNat 128 (shfN 2 x.toNat n)
def bShl (x : BitVec 128) (k : Int) : BitVec 128 := x <<< k.toNat
def bShr (x : BitVec 128) (k : Int) : BitVec 128 := x >>> k.toNat

theorem sel2_word (x : BitVec 128) (j : Int) : sel2 (loB x) (hiB x) j = ((wordAt 2 x.toNat j : Nat) : Int) := by
  have := x.isLt
  unfold sel2 wordAt loB hiB
  by_cases h0 : j = 0
  · subst h0; simp
  · rw [if_neg h0]
    by_cases h1 : j = 1
    · subst h1
      simp
      omega
    · rw [if_neg h1, if_neg (by omega)]; rfl

theorem wordAt_lt (len X : Nat) (j : Int) : wordAt len X j < 2 ^ 64 := by
  unfold wordAt; split
  · exact Nat.mod_lt _ (by decide)
  · decide

theorem moved_lo (x : BitVec 128) (n : Int) :
    loB (bShf x n) = bits BinOp.or IntKind.u64 (IntKind.u64.wrap (sel2 (loB x) (hiB x) (-(n / 64)) * 2 ^ (n % 64).toNat)) (sel2 (loB x) (hiB x) (-(n / 64) - 1) / 2 / 2 ^ (63 - n % 64).toNat) := by
  have hX : x.toNat < 2 ^ (64 * 2) := x.isLt
  rw [sel2_word, sel2_word, mv_form _ _ _ (wordAt_lt _ _ _) (by omega) (by omega)]
  have h := word_shf 2 x.toNat hX n 0 (by decide)
  simp only [Int.natCast_zero, Int.zero_sub] at h
  rw [← h]
  unfold loB bShf wordAt
  have := shf_lt 2 x.toNat hX n
  rw [BitVec.toNat_ofNat, Nat.mod_eq_of_lt this]
  simp
theorem moved_hi (x : BitVec 128) (n : Int) :
    hiB (bShf x n) = bits BinOp.or IntKind.u64 (IntKind.u64.wrap (sel2 (loB x) (hiB x) (1 - n / 64) * 2 ^ (n % 64).toNat)) (sel2 (loB x) (hiB x) (1 - n / 64 - 1) / 2 / 2 ^ (63 - n % 64).toNat) := by
  have hX : x.toNat < 2 ^ (64 * 2) := x.isLt
  rw [sel2_word, sel2_word, mv_form _ _ _ (wordAt_lt _ _ _) (by omega) (by omega)]
  have h := word_shf 2 x.toNat hX n 1 (by decide)
  simp only [Int.natCast_one] at h
  rw [← h]
  unfold hiB bShf wordAt
  have := shf_lt 2 x.toNat hX n
  rw [BitVec.toNat_ofNat, Nat.mod_eq_of_lt this]
  simp
  omega
theorem bShf_up (x : BitVec 128) (n : Int) (h0 : 0 ≤ n) : bShf x n = bShl x n := by
  apply BitVec.eq_of_toNat_eq
  unfold bShf bShl shfN
  rw [if_pos h0, BitVec.toNat_ofNat, BitVec.toNat_shiftLeft]
  simp
theorem bShf_down (x : BitVec 128) (n : Int) (h0 : 0 ≤ n) : bShf x (-n) = bShr x n := by
  apply BitVec.eq_of_toNat_eq
  unfold bShf bShr shfN
  have hx := x.isLt
  rw [BitVec.toNat_ofNat, BitVec.toNat_ushiftRight]
  by_cases h : n = 0
  · subst h; simp [Nat.mod_eq_of_lt hx]
  · rw [if_neg (by omega), Int.neg_neg]
    refine Nat.mod_eq_of_lt ?_
    rw [Nat.shiftRight_eq_div_pow]
    exact Nat.lt_of_le_of_lt (Nat.div_le_self _ _) hx
theorem bShl_far (x : BitVec 128) (n : Int) (h : 128 ≤ n) : bShl x n = bShl x 128 := by
  unfold bShl
  rw [BitVec.shiftLeft_eq_zero (by omega), BitVec.shiftLeft_eq_zero (by decide)]
theorem bShr_far (x : BitVec 128) (n : Int) (h : 128 ≤ n) : bShr x n = bShr x 128 := by
  unfold bShr
  rw [BitVec.ushiftRight_eq_zero (by omega), BitVec.ushiftRight_eq_zero (by decide)]
end Hb
end Go.Proofs.YtmnoghkbmkiplaaDoor
