/-
  THE PLAIN PART OF package format: what its functions compute, on bit vectors. No program in sight. No conditions.
-/
import Derived.Test.YtmnoghkbmkiplaaDoorShiftPlain
namespace Go.Proofs.YtmnoghkbmkiplaaDoor
namespace Hb
def fWd (f : Int) : Int := if f = 0 then 16 else if f = 1 then 32 else if f = 2 then 64 else if f = 3 then 128 else 0
def fPr (f : Int) : Int := if f = 0 then 11 else if f = 1 then 24 else if f = 2 then 53 else if f = 3 then 113 else 0
def fEm (f : Int) : Int := if f = 0 then 15 else if f = 1 then 127 else if f = 2 then 1023 else if f = 3 then 16383 else 0
def fKn (f : Int) : Bool := decide (f < 4)
def fLow (b : BitVec 128) (n : Int) : BitVec 128 := bShr (bShl b (128 - n)) (128 - n)
def fCut (f : Int) (b : BitVec 128) : BitVec 128 := fLow b (fWd f)
def fFits (f : Int) (b : BitVec 128) : Bool := fKn f && decide (fCut f b = b)
def fNeg (f : Int) (b : BitVec 128) : Bool := fKn f && bBit b (fWd f - 1)
def fExp (f : Int) (b : BitVec 128) : Int := if f < 4 then loB (fLow (bShr (fCut f b) (fPr f - 1)) (fWd f - fPr f)) else 0
def fFrac (f : Int) (b : BitVec 128) : BitVec 128 := if f < 4 then fLow b (fPr f - 1) else 0#128
/-- The exponent field that Make uses. -/
def eCut (e : Int) : Int := if e < 0 ∨ 1048576 < e then 0 else e
def fMake (f : Int) (neg : Bool) (e : Int) (t : BitVec 128) : BitVec 128 :=
  if f < 4 then
    (if neg then bAdd (bAdd (bShl (fLow (mkB 0 (eCut e)) (fWd f - fPr f)) (fPr f - 1)) (fLow t (fPr f - 1))) (bShl (mkB 0 1) (fWd f - 1))
     else bAdd (bShl (fLow (mkB 0 (eCut e)) (fWd f - fPr f)) (fPr f - 1)) (fLow t (fPr f - 1)))
  else 0#128
def fInf (f : Int) (neg : Bool) : BitVec 128 := fMake f neg (2 * fEm f + 1) 0#128
def fMax (f : Int) (neg : Bool) : BitVec 128 := fMake f neg (2 * fEm f) (mkB 18446744073709551615 18446744073709551615)
def fNou (f : Int) (neg : Bool) : BitVec 128 := fMake f neg 0 0#128

theorem f_four (f : Int) (h0 : 0 ≤ f) (h : f < 4) : f = 0 ∨ f = 1 ∨ f = 2 ∨ f = 3 := by omega
theorem f_bounds (f : Int) (h0 : 0 ≤ f) (h : f < 4) : 16 ≤ fWd f ∧ fWd f ≤ 128 ∧ 11 ≤ fPr f ∧ fPr f ≤ 113 ∧ 15 ≤ fEm f ∧ fEm f ≤ 16383 ∧ 5 ≤ fWd f - fPr f ∧ fWd f - fPr f ≤ 15 := by
  rcases f_four f h0 h with rfl | rfl | rfl | rfl <;> decide
theorem f_none (f : Int) (h : ¬ f < 4) : fWd f = 0 ∧ fPr f = 0 ∧ fEm f = 0 ∧ fKn f = false := by
  unfold fWd fPr fEm fKn; refine ⟨?_, ?_, ?_, by simp [h]⟩ <;> (repeat rw [if_neg (by omega)])

/-- The low bits, by what is left of a division. -/
theorem toNat_low (b : BitVec 128) (n : Int) (h0 : 0 ≤ n) (h1 : n ≤ 128) : (fLow b n).toNat = b.toNat % 2 ^ n.toNat := by
  unfold fLow bShr bShl
  obtain ⟨m, rfl⟩ := Int.eq_ofNat_of_zero_le h0
  rw [BitVec.toNat_ushiftRight, BitVec.toNat_shiftLeft, Int.toNat_natCast, show (128 - (m : Int)).toNat = 128 - m by omega, Nat.shiftLeft_eq, Nat.shiftRight_eq_div_pow]
  have e : (2 : Nat) ^ 128 = 2 ^ m * 2 ^ (128 - m) := by rw [← Nat.pow_add]; congr 1; omega
  rw [e, Nat.mul_mod_mul_right, Nat.mul_div_cancel _ (Nat.two_pow_pos _)]
theorem low_lt (b : BitVec 128) (n : Int) (h0 : 0 ≤ n) (h1 : n ≤ 15) : 0 ≤ loB (fLow b n) ∧ loB (fLow b n) ≤ 32767 := by
  have e := toNat_low b n h0 (by omega)
  have hl : (fLow b n).toNat < 2 ^ 15 := by
    rw [e]; exact Nat.lt_of_lt_of_le (Nat.mod_lt _ (Nat.two_pow_pos _)) (Nat.pow_le_pow_right (by decide) (by omega))
  unfold loB; omega
theorem exp_lt (f : Int) (b : BitVec 128) (h0 : 0 ≤ f) : 0 ≤ fExp f b ∧ fExp f b ≤ 32767 := by
  unfold fExp; split
  · rename_i h; have hb := f_bounds f h0 h; exact low_lt _ _ (by omega) (by omega)
  · decide
end Hb
end Go.Proofs.YtmnoghkbmkiplaaDoor
