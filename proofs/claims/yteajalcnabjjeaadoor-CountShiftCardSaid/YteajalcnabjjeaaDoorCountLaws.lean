/-
  THE PLAIN PART OF the laws CountBetween, CountBack, CountTail, CountShift. No program in sight. No conditions.
-/
import Derived.Test.YteajalcnabjjeaaDoorCountPlain
namespace Go.Proofs.YteajalcnabjjeaaDoor
namespace Hb
theorem wcmp_nat (x y : BitVec 256) : wCmp x y = if x.toNat < y.toNat then -1 else if y.toNat < x.toNat then 1 else 0 := by
  unfold wCmp cmpI
  by_cases h1 : x.toNat < y.toNat
  · rw [if_pos (by omega), if_pos h1]
  · rw [if_neg (by omega), if_neg h1]
    by_cases h2 : y.toNat < x.toNat
    · rw [if_pos (by omega), if_pos h2]
    · rw [if_neg (by omega), if_neg h2]
theorem wzero_nat (x : BitVec 256) : wZero x = decide (x.toNat = 0) := by
  unfold wZero; rw [Bool.eq_iff_iff]; simp only [beq_iff_eq, decide_eq_true_eq]
  exact ⟨fun h => by rw [h]; rfl, fun h => BitVec.eq_of_toNat_eq h⟩
theorem one_wshl (k : Nat) (h : k < 256) : (wShl 1#256 (k : Int)).toNat = 2 ^ k := by
  rw [toNat_wshl, Int.toNat_natCast, show (1#256 : BitVec 256).toNat = 1 from rfl, Nat.one_mul]
  exact Nat.mod_eq_of_lt (Nat.pow_lt_pow_right (by decide) h)
theorem between_plain (a : BitVec 256) (h : wZero a = false) :
    1 ≤ wLen a ∧ 0 ≤ wCmp a (wShl 1#256 (wLen a - 1)) ∧ (wLen a = 256 ∨ (wLen a < 256 ∧ wCmp a (wShl 1#256 (wLen a)) = -1)) := by
  rw [wzero_nat, decide_eq_false_iff_not] at h
  have hp := blen_pos h
  have hlt := blen_lt a.toNat
  have hge := blen_ge h
  have hb := wLen_bounds a
  have e : wLen a = ((blen a.toNat : Nat) : Int) := rfl
  refine ⟨by omega, ?_, ?_⟩
  · rw [wcmp_nat, show wLen a - 1 = ((blen a.toNat - 1 : Nat) : Int) by omega, one_wshl _ (by omega)]
    rw [if_neg (by omega)]
    split <;> decide
  · by_cases h6 : wLen a = 256
    · exact .inl h6
    · refine .inr ⟨by omega, ?_⟩
      rw [wcmp_nat, e, one_wshl _ (by omega), if_pos hlt]
theorem wraise_of (a : BitVec 128) (h : a.toNat ≠ 0) : (wRaise (wOf a)).toNat = a.toNat * 2 ^ (128 - blen a.toNat) * 2 ^ 128 ∧ wRby (wOf a) = 256 - (blen a.toNat : Int) ∧ blen a.toNat ≤ 128 ∧ 1 ≤ blen a.toNat := by
  have hp := blen_pos h
  have hb := bLen_bounds a
  have e : wLen (wOf a) = ((blen a.toNat : Nat) : Int) := by unfold wLen; rw [toNat_of]
  have e2 : bLen a = ((blen a.toNat : Nat) : Int) := rfl
  have hlt := blen_lt a.toNat
  refine ⟨?_, by unfold wRby; rw [if_neg (by omega), e], by omega, hp⟩
  unfold wRaise
  rw [if_neg (by omega), toNat_wshl, toNat_of, e, show (256 - (blen a.toNat : Int)).toNat = (128 - blen a.toNat) + 128 by omega, Nat.pow_add, ← Nat.mul_assoc]
  refine Nat.mod_eq_of_lt ?_
  have := Nat.mul_lt_mul_of_pos_right hlt (Nat.two_pow_pos (128 - blen a.toNat))
  rw [← Nat.pow_add, show blen a.toNat + (128 - blen a.toNat) = 128 by omega] at this
  omega
theorem bzero_nat (x : BitVec 128) : bZero x = decide (x.toNat = 0) := by
  unfold bZero; rw [Bool.eq_iff_iff]; simp only [beq_iff_eq, decide_eq_true_eq]
  exact ⟨fun h => by rw [h]; rfl, fun h => BitVec.eq_of_toNat_eq h⟩
theorem back_zero (a : BitVec 128) (h : bZero a = true) : bRaise a = 0#128 ∧ bRby a = 0 ∧ wRaise (wOf a) = 0#256 ∧ wRby (wOf a) = 0 := by
  rw [bzero_nat, decide_eq_true_eq] at h
  obtain rfl : a = 0#128 := BitVec.eq_of_toNat_eq h
  decide +kernel
theorem back_plain (a : BitVec 128) (h : bZero a = false) :
    bBit (bRaise a) 127 = true ∧ bShr (bRaise a) (bRby a) = a ∧ wRby (wOf a) = bRby a + 128 ∧ wHigh (wRaise (wOf a)) = bRaise a ∧ wLow (wRaise (wOf a)) = 0#128 ∧ 0 ≤ bRby a ∧ bRby a ≤ 127 := by
  rw [bzero_nat, decide_eq_false_iff_not] at h
  obtain ⟨w1, w2, w3, w4⟩ := wraise_of a h
  have h0 : ¬ bLen a = 0 := fun e => h ((bLen_zero a).1 e)
  have e1 : bLen a = (blen a.toNat : Int) := rfl
  have hlt := blen_lt a.toNat
  have hge := blen_ge h
  have ek : (128 - (blen a.toNat : Int)).toNat = 128 - blen a.toNat := by omega
  have e2 : (bRaise a).toNat = a.toNat * 2 ^ (128 - blen a.toNat) := by
    unfold bRaise
    rw [if_neg h0, toNat_shl, e1, ek]
    refine Nat.mod_eq_of_lt ?_
    have := Nat.mul_lt_mul_of_pos_right hlt (Nat.two_pow_pos (128 - blen a.toNat))
    rw [← Nat.pow_add, show blen a.toNat + (128 - blen a.toNat) = 128 by omega] at this
    exact this
  have e3 : bRby a = 128 - (blen a.toNat : Int) := by unfold bRby; rw [if_neg h0, e1]
  have e4 : 2 ^ 127 ≤ (bRaise a).toNat := by
    rw [e2]
    have := Nat.mul_le_mul_right (2 ^ (128 - blen a.toNat)) hge
    rw [← Nat.pow_add, show blen a.toNat - 1 + (128 - blen a.toNat) = 127 by omega] at this
    exact this
  have e5 := (bRaise a).isLt
  refine ⟨?_, ?_, by omega, ?_, ?_, by omega, by omega⟩
  · rw [bit_nat _ _ (by decide), decide_eq_true_eq]; simp; omega
  · apply BitVec.eq_of_toNat_eq
    rw [toNat_shr, e3, ek, e2]
    exact Nat.mul_div_cancel _ (Nat.two_pow_pos _)
  · apply BitVec.eq_of_toNat_eq
    rw [toNat_high, w1, e2]
    exact Nat.mul_div_cancel _ (by decide)
  · apply BitVec.eq_of_toNat_eq
    rw [toNat_wlow, w1]
    exact Nat.mul_mod_left _ _
theorem tail_plain (a : BitVec 256) (h : wZero a = false) :
    wTail a < 256 ∧ wLost a (wTail a) = false ∧ wq0 (wShr a (wTail a)) % 2 = 1 ∧ wLost a (wTail a + 1) = true := by
  rw [wzero_nat, decide_eq_false_iff_not] at h
  obtain ⟨m, hm, hl⟩ := ctz_spec 256 a.toNat h a.isLt
  have e : wTail a = ((Lib.ctz 256 a.toNat : Nat) : Int) := rfl
  generalize Lib.ctz 256 a.toNat = k at *
  have hd : a.toNat / 2 ^ k = 2 * m + 1 := by rw [hm]; exact Nat.mul_div_cancel_left _ (Nat.two_pow_pos k)
  refine ⟨by omega, ?_, ?_, ?_⟩
  · rw [lost_nat, e, Int.toNat_natCast, decide_eq_false_iff_not, hm]
    simp
  · unfold wq0
    rw [toNat_wshr, e, Int.toNat_natCast, hd]
    omega
  · rw [lost_nat, e, show ((k : Int) + 1).toNat = k + 1 by omega, decide_eq_true_eq, Nat.pow_succ, Nat.mod_mul, hd]
    have := Nat.two_pow_pos k
    have e3 : (2 * m + 1) % 2 = 1 := by omega
    rw [e3]
    omega
theorem tail_zero (a : BitVec 256) (h : wZero a = true) : wTail a = 256 := by
  rw [wzero_nat, decide_eq_true_eq] at h
  unfold wTail; rw [h]; rfl
theorem len_zero (a : BitVec 256) (h : wZero a = true) : wLen a = 0 := by
  rw [wzero_nat, decide_eq_true_eq] at h
  exact (wLen_zero a).2 h
theorem shift_cmp (a b : BitVec 256) : (wLen b < wLen a → wCmp a b = 1) ∧ (wLen a < wLen b → wCmp a b = -1) := by
  rw [wcmp_nat]
  unfold wLen
  constructor
  · intro h
    have := blen_lt_lt (a := b.toNat) (b := a.toNat) (by omega)
    rw [if_neg (by omega), if_pos this]
  · intro h
    have := blen_lt_lt (a := a.toNat) (b := b.toNat) (by omega)
    rw [if_pos this]
theorem shift_plain (a : BitVec 256) (k : Int) (hk : 0 ≤ k) (h0 : wLen a ≠ 0) (h1 : wLen a + k ≤ 256) : wLen (wShl a k) = wLen a + k ∧ wTail (wShl a k) = wTail a + k := by
  have hn : a.toNat ≠ 0 := fun e => h0 ((wLen_zero a).2 e)
  obtain ⟨m, rfl⟩ := Int.eq_ofNat_of_zero_le hk
  have e1 : wLen a = ((blen a.toNat : Nat) : Int) := rfl
  have hlt := blen_lt a.toNat
  have hlt2 : a.toNat * 2 ^ m < 2 ^ 256 := by
    have := Nat.mul_lt_mul_of_pos_right hlt (Nat.two_pow_pos m)
    rw [← Nat.pow_add] at this
    exact Nat.lt_of_lt_of_le this (Nat.pow_le_pow_right (by decide) (by omega))
  have e : (wShl a (m : Int)).toNat = a.toNat * 2 ^ m := by rw [toNat_wshl, Int.toNat_natCast]; exact Nat.mod_eq_of_lt hlt2
  unfold wLen wTail
  rw [e, blen_shl hn, ctz_mul (j := 256) hn a.isLt hlt2]
  omega
end Hb
end Go.Proofs.YteajalcnabjjeaaDoor
