/-
  WHAT THE REFERENCE COMPUTES OF A FORMAT, BY NATURAL NUMBERS, AND WHAT THE PROGRAM COMPUTES BY BIT VECTORS: the same. No program in sight. No conditions.
-/
import Derived.Test.YtbelighbkjadkaaDoorRef2Plain
import Derived.Test.YtbelighbkjadkaaDoorBackPlain
import Derived.Test.YtbelighbkjadkaaDoorClassPlain
namespace Go.Proofs.YtbelighbkjadkaaDoor
namespace Hb
theorem fWd_in (f : Int) (h0 : 0 ≤ f) : 0 ≤ fWd f ∧ fWd f ≤ 128 := by
  by_cases h : f < 4
  · have := f_bounds f h0 h; omega
  · have := (f_none f h).1; omega
theorem rcut_nat (f : Int) (l : 0 ≤ f) (b : BitVec 128) : b.toNat % 2 ^ (fWd f).toNat = (fCut f b).toNat := by
  have := fWd_in f l
  exact (toNat_low b (fWd f) (by omega) (by omega)).symm
theorem nBit_toNat (x : BitVec 128) : BitVec.ofNat 128 x.toNat = x := by
  apply BitVec.eq_of_toNat_eq; rw [BitVec.toNat_ofNat]; exact Nat.mod_eq_of_lt x.isLt
theorem rexp_nat (f : Int) (l : 0 ≤ f) (h : f < 4) (b : BitVec 128) : (((fCut f b).toNat % 2 ^ (fWd f - 1).toNat / 2 ^ (fPr f - 1).toNat : Nat) : Int) = fExp f b := by
  rw [exp_nat f l h, cut_nat f l h]
  have := b.isLt
  rcases f_four f l h with rfl | rfl | rfl | rfl
  all_goals
    simp [fWd, fPr]
    try omega
theorem rneg_nat (f : Int) (l : 0 ≤ f) (h : f < 4) (b : BitVec 128) : decide ((fCut f b).toNat / 2 ^ (fWd f - 1).toNat % 2 = 1) = fNeg f b := by
  rw [neg_nat f l h, cut_nat f l h]
  have := b.isLt
  rcases f_four f l h with rfl | rfl | rfl | rfl
  all_goals
    simp [fWd]
    try omega
theorem rfrac_nat (f : Int) (l : 0 ≤ f) (h : f < 4) (b : BitVec 128) : (fCut f b).toNat % 2 ^ (fWd f - 1).toNat % 2 ^ (fPr f - 1).toNat = (fFrac f b).toNat := by
  rw [frac_nat f l h, cut_nat f l h]
  rcases f_four f l h with rfl | rfl | rfl | rfl
  all_goals
    simp [fWd, fPr]
    try omega
theorem eCut_in (e : Int) : 0 ≤ eCut e ∧ eCut e ≤ 1048576 := by unfold eCut; split <;> omega
theorem make_mod (f : Int) (l : 0 ≤ f) (h : f < 4) (neg : Bool) (e : Int) (t : BitVec 128) : fMake f neg e t = fMake f neg (((eCut e).toNat % 2 ^ (fWd f - fPr f).toNat : Nat) : Int) t := by
  have hb := f_bounds f l h
  have he := eCut_in e
  have hl : (eCut e).toNat % 2 ^ (fWd f - fPr f).toNat < 2 ^ 15 :=
    Nat.lt_of_lt_of_le (Nat.mod_lt _ (Nat.two_pow_pos _)) (Nat.pow_le_pow_right (by decide) (by omega))
  obtain ⟨m, hm⟩ : ∃ m : Nat, (eCut e).toNat % 2 ^ (fWd f - fPr f).toNat = m := ⟨_, rfl⟩
  rw [hm] at hl ⊢
  have hc : eCut (m : Int) = (m : Int) := by unfold eCut; rw [if_neg (by omega)]
  have e1 : fLow (mkB 0 (eCut e)) (fWd f - fPr f) = fLow (mkB 0 (m : Int)) (fWd f - fPr f) := by
    apply BitVec.eq_of_toNat_eq
    rw [toNat_low _ _ (by omega) (by omega), toNat_low _ _ (by omega) (by omega), toNat_mk0 _ (by omega) (by omega), toNat_mk0 _ (by omega) (by omega), hm, Int.toNat_natCast, ← hm, Nat.mod_mod]
  unfold fMake
  rw [if_pos h, if_pos h, hc, e1]
theorem rmake_nat (f : Int) (l : 0 ≤ f) (h : f < 4) (neg : Bool) (e : Int) (t : BitVec 128) :
    (eCut e).toNat % 2 ^ (fWd f - fPr f).toNat * 2 ^ (fPr f - 1).toNat + t.toNat % 2 ^ (fPr f - 1).toNat + (if neg then 2 ^ (fWd f - 1).toNat else 0) = (fMake f neg e t).toNat := by
  rw [make_mod f l h, make_nat f l h _ _ (Nat.mod_lt _ (Nat.two_pow_pos _))]
  omega
theorem rmake_neg (f : Int) (l : 0 ≤ f) (h : f < 4) (e : Int) (t : BitVec 128) :
    (eCut e).toNat % 2 ^ (fWd f - fPr f).toNat * 2 ^ (fPr f - 1).toNat + t.toNat % 2 ^ (fPr f - 1).toNat + 2 ^ (fWd f - 1).toNat = (fMake f true e t).toNat := by
  have := rmake_nat f l h true e t; simpa using this
theorem rmake_pos (f : Int) (l : 0 ≤ f) (h : f < 4) (e : Int) (t : BitVec 128) :
    (eCut e).toNat % 2 ^ (fWd f - fPr f).toNat * 2 ^ (fPr f - 1).toNat + t.toNat % 2 ^ (fPr f - 1).toNat = (fMake f false e t).toNat := by
  have := rmake_nat f l h false e t; simpa using this
theorem make_none (f : Int) (h : ¬ f < 4) (neg : Bool) (e : Int) (t : BitVec 128) : fMake f neg e t = 0#128 := by unfold fMake; rw [if_neg h]
theorem split_none (f : Int) (h : ¬ f < 4) (b : BitVec 128) : fNeg f b = false ∧ fExp f b = 0 ∧ (fFrac f b).toNat = 0 := by
  unfold fNeg fExp fFrac
  rw [(f_none f h).2.2.2, if_neg h, if_neg h]
  exact ⟨rfl, rfl, rfl⟩
/-- Max: the greatest fraction. -/
theorem rmax (f : Int) (l : 0 ≤ f) (h : f < 4) (neg : Bool) (t : BitVec 128) (ht : t.toNat = 2 ^ (fPr f - 1).toNat - 1) : fMake f neg (2 * fEm f) t = fMax f neg := by
  have hb := f_bounds f l h
  unfold fMax
  apply BitVec.eq_of_toNat_eq
  rw [← rmake_nat f l h, ← rmake_nat f l h, ht]
  congr 2
  rcases f_four f l h with rfl | rfl | rfl | rfl <;> decide
end Hb
end Go.Proofs.YtbelighbkjadkaaDoor
