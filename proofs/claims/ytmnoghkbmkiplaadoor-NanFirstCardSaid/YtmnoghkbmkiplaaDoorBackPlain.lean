/-
  THE PLAIN PART OF FormatBack: Make of what Split tells gives the bits back; what lies above plays no part. No program in sight. No conditions.
-/
import Derived.Test.YtmnoghkbmkiplaaDoorFormatPlain
namespace Go.Proofs.YtmnoghkbmkiplaaDoor
namespace Hb
theorem toNat_shl (x : BitVec 128) (k : Int) : (bShl x k).toNat = x.toNat * 2 ^ k.toNat % 2 ^ 128 := by
  unfold bShl; rw [BitVec.toNat_shiftLeft, Nat.shiftLeft_eq]
theorem toNat_shr (x : BitVec 128) (k : Int) : (bShr x k).toNat = x.toNat / 2 ^ k.toNat := by
  unfold bShr; rw [BitVec.toNat_ushiftRight, Nat.shiftRight_eq_div_pow]
theorem toNat_add (x y : BitVec 128) : (bAdd x y).toNat = (x.toNat + y.toNat) % 2 ^ 128 := by
  unfold bAdd; rw [BitVec.toNat_add]
theorem toNat_mk0 (e : Int) (h0 : 0 ≤ e) (h1 : e < 18446744073709551616) : (mkB 0 e).toNat = e.toNat := by
  unfold mkB; rw [BitVec.toNat_ofNat]; simp; omega
theorem bit_nat (x : BitVec 128) (i : Int) (h : 0 ≤ i) : bBit x i = decide (x.toNat / 2 ^ i.toNat % 2 = 1) := by
  unfold bBit
  rw [decide_eq_true h, Bool.true_and, BitVec.getLsbD, Nat.testBit_eq_decide_div_mod_eq]
theorem cut_nat (f : Int) (l : 0 ≤ f) (h : f < 4) (b : BitVec 128) : (fCut f b).toNat = b.toNat % 2 ^ (fWd f).toNat := by
  have := f_bounds f l h
  exact toNat_low b (fWd f) (by omega) (by omega)
theorem exp_nat (f : Int) (l : 0 ≤ f) (h : f < 4) (b : BitVec 128) : fExp f b = ((b.toNat % 2 ^ (fWd f).toNat / 2 ^ (fPr f - 1).toNat % 2 ^ (fWd f - fPr f).toNat : Nat) : Int) := by
  have hb := f_bounds f l h
  unfold fExp; rw [if_pos h]
  have e := toNat_low (bShr (fCut f b) (fPr f - 1)) (fWd f - fPr f) (by omega) (by omega)
  rw [toNat_shr, cut_nat f l h] at e
  have hl : b.toNat % 2 ^ (fWd f).toNat / 2 ^ (fPr f - 1).toNat % 2 ^ (fWd f - fPr f).toNat < 2 ^ 15 :=
    Nat.lt_of_lt_of_le (Nat.mod_lt _ (Nat.two_pow_pos _)) (Nat.pow_le_pow_right (by decide) (by omega))
  unfold loB; omega
theorem make_nat (f : Int) (l : 0 ≤ f) (h : f < 4) (neg : Bool) (e : Nat) (he : e < 2 ^ (fWd f - fPr f).toNat) (t : BitVec 128) :
    (fMake f neg (e : Int) t).toNat = (if neg then 2 ^ (fWd f - 1).toNat else 0) + e * 2 ^ (fPr f - 1).toNat + t.toNat % 2 ^ (fPr f - 1).toNat := by
  have hb := f_bounds f l h
  have hl : e < 2 ^ 15 := Nat.lt_of_lt_of_le he (Nat.pow_le_pow_right (by decide) (by omega))
  have hc : eCut (e : Int) = (e : Int) := by unfold eCut; rw [if_neg (by omega)]
  have m1 : (mkB 0 (e : Int)).toNat = e := by rw [toNat_mk0 _ (by omega) (by omega)]; omega
  have m2 : (mkB 0 1).toNat = 1 := by decide
  unfold fMake
  rw [if_pos h, hc]
  have e1 : (fLow (mkB 0 (e : Int)) (fWd f - fPr f)).toNat = e := by rw [toNat_low _ _ (by omega) (by omega), m1, Nat.mod_eq_of_lt he]
  have e2 := toNat_low t (fPr f - 1) (by omega) (by omega)
  cases neg
  · simp only [Bool.false_eq_true, if_false]
    rw [toNat_add, toNat_shl, e1, e2]
    rcases f_four f l h with rfl | rfl | rfl | rfl
    all_goals
      simp [fWd, fPr] at he ⊢
      omega
  · simp only [if_true]
    rw [toNat_add, toNat_add, toNat_shl, toNat_shl, e1, e2, m2]
    rcases f_four f l h with rfl | rfl | rfl | rfl
    all_goals
      simp [fWd, fPr] at he ⊢
      omega
theorem back_make (f : Int) (l : 0 ≤ f) (h : f < 4) (b : BitVec 128) : fMake f (fNeg f b) (fExp f b) (fFrac f b) = fCut f b := by
  have hb := f_bounds f l h
  apply BitVec.eq_of_toNat_eq
  rw [exp_nat f l h, make_nat f l h _ _ (Nat.mod_lt _ (Nat.two_pow_pos _)), cut_nat f l h]
  have hk : fKn f = true := by unfold fKn; simpa using h
  have hn : fNeg f b = decide (b.toNat / 2 ^ (fWd f - 1).toNat % 2 = 1) := by unfold fNeg; rw [hk, Bool.true_and, bit_nat _ _ (by omega)]
  have hf : (fFrac f b).toNat = b.toNat % 2 ^ (fPr f - 1).toNat := by unfold fFrac; rw [if_pos h]; exact toNat_low b _ (by omega) (by omega)
  rw [hn, hf]
  have := b.isLt
  rcases f_four f l h with rfl | rfl | rfl | rfl
  all_goals
    simp [fWd, fPr]
    split <;> omega
/-- What lies above. -/
def bAbove (f : Int) (b m : BitVec 128) : BitVec 128 := bAdd (fCut f b) (bShl m (fWd f))
theorem above_nat (f : Int) (l : 0 ≤ f) (h : f < 4) (b m : BitVec 128) : (bAbove f b m).toNat % 2 ^ (fWd f).toNat = b.toNat % 2 ^ (fWd f).toNat := by
  unfold bAbove
  rw [toNat_add, toNat_shl, cut_nat f l h]
  rcases f_four f l h with rfl | rfl | rfl | rfl
  all_goals
    simp [fWd]
    try omega
theorem above_cut (f : Int) (l : 0 ≤ f) (h : f < 4) (b m : BitVec 128) : fCut f (bAbove f b m) = fCut f b := by
  apply BitVec.eq_of_toNat_eq
  rw [cut_nat f l h, cut_nat f l h, above_nat f l h]
theorem above_exp (f : Int) (l : 0 ≤ f) (h : f < 4) (b m : BitVec 128) : fExp f (bAbove f b m) = fExp f b := by
  rw [exp_nat f l h, exp_nat f l h, above_nat f l h]
theorem above_neg (f : Int) (l : 0 ≤ f) (h : f < 4) (b m : BitVec 128) : fNeg f (bAbove f b m) = fNeg f b := by
  have hb := f_bounds f l h
  have := above_nat f l h b m
  unfold fNeg
  rw [bit_nat _ _ (by omega), bit_nat _ _ (by omega)]
  congr 2
  rw [eq_iff_iff]
  rcases f_four f l h with rfl | rfl | rfl | rfl
  all_goals
    simp [fWd] at this ⊢
    omega
theorem above_frac (f : Int) (l : 0 ≤ f) (h : f < 4) (b m : BitVec 128) : fFrac f (bAbove f b m) = fFrac f b := by
  have hb := f_bounds f l h
  have := above_nat f l h b m
  unfold fFrac
  rw [if_pos h, if_pos h]
  apply BitVec.eq_of_toNat_eq
  rw [toNat_low _ _ (by omega) (by omega), toNat_low _ _ (by omega) (by omega)]
  rcases f_four f l h with rfl | rfl | rfl | rfl
  all_goals
    simp [fWd, fPr] at this ⊢
    omega
theorem cut_fits (f : Int) (l : 0 ≤ f) (h : f < 4) (b : BitVec 128) : fFits f (fCut f b) = true := by
  have hk : fKn f = true := by unfold fKn; simpa using h
  unfold fFits; rw [hk, Bool.true_and, decide_eq_true_eq]
  apply BitVec.eq_of_toNat_eq
  rw [cut_nat f l h, cut_nat f l h, Nat.mod_mod]
end Hb
end Go.Proofs.YtmnoghkbmkiplaaDoor
