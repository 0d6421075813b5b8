/-
  THE PLAIN PART OF package payload: a NaN moved into another format, by numbers. No program in sight. No conditions.
-/
import Derived.Test.YtmnoghkbmkiplaaDoorNanPlain
namespace Go.Proofs.YtmnoghkbmkiplaaDoor
namespace Hb
set_option maxRecDepth 20000
def mvF (g t : Int) (b : BitVec 128) : BitVec 128 := bOr (bShr (bShl (fFrac g b) (129 - fPr g)) (129 - fPr t)) (fFrac t (nD t))
def mvB (g t : Int) (b : BitVec 128) : BitVec 128 := nQ t (fMake t (fNeg g b) (2 * fEm t + 1) (mvF g t b))
/-- A payload, brought to another precision. -/
def scN (p q n : Nat) : Nat := if p ≤ q then n * 2 ^ (q - p) else n / 2 ^ (p - q)
theorem mvF_nat (g t : Int) (l : 0 ≤ g) (h : g < 4) (l' : 0 ≤ t) (h' : t < 4) (b : BitVec 128) :
    (mvF g t b).toNat = 2 ^ (fPr t - 2).toNat + scN (fPr g).toNat (fPr t).toNat (b.toNat % 2 ^ (fPr g - 2).toNat) := by
  have hb := f_bounds t l' h'
  have hf : (fFrac t (nD t)).toNat = 2 ^ (fPr t - 2).toNat := by
    rcases f_four t l' h' with rfl | rfl | rfl | rfl <;> decide +kernel
  unfold mvF
  rw [or_bit _ _ (fPr t - 2).toNat (by omega) hf, toNat_shr, toNat_shl, frac_nat g l h]
  generalize b.toNat = n
  unfold scN
  rcases f_four g l h with rfl | rfl | rfl | rfl
  all_goals
    rcases f_four t l' h' with rfl | rfl | rfl | rfl
    all_goals
      simp [fPr]
      split <;> omega
theorem mv_nat (g t : Int) (l : 0 ≤ g) (h : g < 4) (l' : 0 ≤ t) (h' : t < 4) (b : BitVec 128) :
    (mvB g t b).toNat = (if fNeg g b then 2 ^ (fWd t - 1).toNat else 0) + (2 * fEm t + 1).toNat * 2 ^ (fPr t - 1).toNat + 2 ^ (fPr t - 2).toNat + scN (fPr g).toNat (fPr t).toNat (b.toNat % 2 ^ (fPr g - 2).toNat) := by
  have hb := f_bounds t l' h'
  have hF := mvF_nat g t l h l' h' b
  have hs : scN (fPr g).toNat (fPr t).toNat (b.toNat % 2 ^ (fPr g - 2).toNat) < 2 ^ (fPr t - 2).toNat := by
    generalize b.toNat = n
    unfold scN
    rcases f_four g l h with rfl | rfl | rfl | rfl
    all_goals
      rcases f_four t l' h' with rfl | rfl | rfl | rfl
      all_goals
        simp [fPr]
        omega
  have hm := make_nat t l' h' (fNeg g b) (2 * fEm t + 1).toNat (by rcases f_four t l' h' with rfl | rfl | rfl | rfl <;> decide) (mvF g t b)
  rw [show (((2 * fEm t + 1).toNat : Nat) : Int) = 2 * fEm t + 1 by omega, hF] at hm
  unfold mvB
  rw [quietN t l' h', sig_nat t l' h', hm]
  generalize scN (fPr g).toNat (fPr t).toNat (b.toNat % 2 ^ (fPr g - 2).toNat) = s at *
  generalize fNeg g b = N
  clear hm hF
  cases N
  all_goals
    rcases f_four t l' h' with rfl | rfl | rfl | rfl
    all_goals
      simp [fPr, fEm, fWd] at hs ⊢
      split <;> omega
/-- What is moved is a quiet NaN that fits, of the same sign. -/
theorem mv_ok (g t : Int) (l : 0 ≤ g) (h : g < 4) (l' : 0 ≤ t) (h' : t < 4) (b : BitVec 128) :
    cOf t (mvB g t b) = 4 ∧ fNeg t (mvB g t b) = fNeg g b ∧ fFits t (mvB g t b) = true ∧ (mvB g t b).toNat % 2 ^ (fPr t - 2).toNat = scN (fPr g).toNat (fPr t).toNat (b.toNat % 2 ^ (fPr g - 2).toNat) := by
  have hk : fKn t = true := by unfold fKn; simpa using h'
  have hm := mv_nat g t l h l' h' b
  have hs : scN (fPr g).toNat (fPr t).toNat (b.toNat % 2 ^ (fPr g - 2).toNat) < 2 ^ (fPr t - 2).toNat := by
    generalize b.toNat = n
    unfold scN
    rcases f_four g l h with rfl | rfl | rfl | rfl
    all_goals
      rcases f_four t l' h' with rfl | rfl | rfl | rfl
      all_goals
        simp [fPr]
        omega
  have e : (fCut t (mvB g t b) = mvB g t b) ↔ ((mvB g t b).toNat % 2 ^ (fWd t).toNat = (mvB g t b).toNat) := by
    rw [← cut_nat t l' h']; exact ⟨fun h => by rw [h], BitVec.eq_of_toNat_eq⟩
  unfold fFits
  rw [hk, Bool.true_and, decide_eq_true_eq, cOf_nat t l' h', neg_nat t l' h', e]
  generalize (mvB g t b).toNat = q at *
  generalize scN (fPr g).toNat (fPr t).toNat (b.toNat % 2 ^ (fPr g - 2).toNat) = s at *
  generalize fNeg g b = N at *
  clear e
  unfold clsN
  subst hm
  cases N
  all_goals
    rcases f_four t l' h' with rfl | rfl | rfl | rfl
    all_goals
      simp [fPr, fEm, fWd] at hs ⊢
      repeat' split
      all_goals omega
theorem mv_quiet (g t : Int) (l : 0 ≤ g) (h : g < 4) (l' : 0 ≤ t) (h' : t < 4) (b : BitVec 128) : cNaN t (mvB g t b) = true ∧ cSig t (mvB g t b) = false := by
  have := (mv_ok g t l h l' h' b).1
  unfold cNaN cSig; rw [this]; exact ⟨by decide, by decide⟩
/-- To a wider format and back: quieted. -/
theorem mv_back (g t : Int) (l : 0 ≤ g) (h : g < 4) (l' : 0 ≤ t) (h' : t < 4) (le : g ≤ t) (b : BitVec 128) (hn : cNaN g b = true) : mvB t g (mvB g t b) = nQ g b := by
  obtain ⟨_, h2, _, h4⟩ := mv_ok g t l h l' h' b
  apply BitVec.eq_of_toNat_eq
  rw [mv_nat t g l' h' l h, h2, h4, quietN g l h, neg_nat g l h, sig_nat g l h]
  rw [nan_nat g l h, decide_eq_true_eq] at hn
  have hlt := b.isLt
  generalize b.toNat = n at *
  clear h2 h4
  unfold scN
  rcases f_four g l h with rfl | rfl | rfl | rfl
  all_goals
    rcases f_four t l' h' with rfl | rfl | rfl | rfl
    all_goals first | (exfalso; omega) | skip
    all_goals
      simp [fPr, fEm, fWd] at hn ⊢
      repeat' split
      all_goals omega
/-- On and on is at once. -/
theorem mv_on (g m t : Int) (l : 0 ≤ g) (h : g < 4) (lm : 0 ≤ m) (hm : m < 4) (l' : 0 ≤ t) (h' : t < 4) (way : (g ≤ m ∧ m ≤ t) ∨ (m ≤ g ∧ t ≤ m)) (b : BitVec 128) : mvB m t (mvB g m b) = mvB g t b := by
  obtain ⟨_, h2, _, h4⟩ := mv_ok g m l h lm hm b
  apply BitVec.eq_of_toNat_eq
  rw [mv_nat m t lm hm l' h', mv_nat g t l h l' h', h2, h4]
  congr 1
  generalize b.toNat = n
  clear h2 h4
  unfold scN
  rcases f_four g l h with rfl | rfl | rfl | rfl
  all_goals
    rcases f_four m lm hm with rfl | rfl | rfl | rfl
    all_goals
      rcases f_four t l' h' with rfl | rfl | rfl | rfl
      all_goals first | (exfalso; omega) | skip
      all_goals
        simp [fPr]
        try omega
theorem inf_no (g : Int) (l : 0 ≤ g) (h : g < 4) : cNaN g (fInf g true) = false := by
  rcases f_four g l h with rfl | rfl | rfl | rfl <;> decide +kernel
theorem nan_known (g : Int) (b : BitVec 128) (hn : cNaN g b = true) : g < 4 := by
  by_cases h : g < 4
  · exact h
  · unfold cNaN at hn; rw [cOf_none g h] at hn; exact absurd hn (by decide)
end Hb
end Go.Proofs.YtmnoghkbmkiplaaDoor
