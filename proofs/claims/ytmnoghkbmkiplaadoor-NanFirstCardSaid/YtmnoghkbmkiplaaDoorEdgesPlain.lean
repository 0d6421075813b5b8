/-
  THE PLAIN PART OF ClassEdges AND ClassOne: classes by size. No program in sight. No conditions.
-/
import Derived.Test.YtmnoghkbmkiplaaDoorClassPlain
namespace Go.Proofs.YtmnoghkbmkiplaaDoor
namespace Hb
theorem bcmp_nat (x y : BitVec 128) : bCmp x y = if x.toNat < y.toNat then -1 else if y.toNat < x.toNat then 1 else 0 := by
  unfold bCmp cmpI
  by_cases h1 : x.toNat < y.toNat
  · rw [if_pos (by omega), if_pos h1]
  · rw [if_neg (by omega), if_neg h1]
    by_cases h2 : y.toNat < x.toNat
    · rw [if_pos (by omega), if_pos h2]
    · rw [if_neg (by omega), if_neg h2]
theorem expNat (f : Int) (l : 0 ≤ f) (h : f < 4) (b : BitVec 128) : ∃ e : Nat, fExp f b = (e : Int) ∧ e < 2 ^ (fWd f - fPr f).toNat ∧ e = b.toNat % 2 ^ (fWd f).toNat / 2 ^ (fPr f - 1).toNat % 2 ^ (fWd f - fPr f).toNat :=
  ⟨_, exp_nat f l h b, Nat.mod_lt _ (Nat.two_pow_pos _), rfl⟩
/-- Bits without their sign. -/
theorem plus_nat (f : Int) (l : 0 ≤ f) (h : f < 4) (b : BitVec 128) : (fMake f false (fExp f b) (fFrac f b)).toNat = b.toNat % 2 ^ (fWd f - 1).toNat := by
  have hb := f_bounds f l h
  obtain ⟨e, h1, h2, h3⟩ := expNat f l h b
  rw [h1, make_nat f l h _ _ h2, frac_nat f l h, h3]
  have := b.isLt
  rcases f_four f l h with rfl | rfl | rfl | rfl
  all_goals
    simp [fWd, fPr]
    omega
theorem one_shl (f : Int) (l : 0 ≤ f) (h : f < 4) : (bShl (mkB 0 1) (fPr f - 2)).toNat = 2 ^ (fPr f - 2).toNat := by
  rw [toNat_shl]
  rcases f_four f l h with rfl | rfl | rfl | rfl <;> decide
theorem normal_nat (f : Int) (l : 0 ≤ f) (h : f < 4) : (fMake f false 1 0#128).toNat = 2 ^ (fPr f - 1).toNat := by
  rcases f_four f l h with rfl | rfl | rfl | rfl <;> decide +kernel
theorem quiet_nat (f : Int) (l : 0 ≤ f) (h : f < 4) : (fMake f false (2 * fEm f + 1) (bShl (mkB 0 1) (fPr f - 2))).toNat = (2 * fEm f + 1).toNat * 2 ^ (fPr f - 1).toNat + 2 ^ (fPr f - 2).toNat := by
  rcases f_four f l h with rfl | rfl | rfl | rfl <;> decide +kernel
theorem inf_nat (f : Int) (l : 0 ≤ f) (h : f < 4) : (fInf f false).toNat = (2 * fEm f + 1).toNat * 2 ^ (fPr f - 1).toNat := by
  rcases f_four f l h with rfl | rfl | rfl | rfl <;> decide +kernel
theorem edges_plain (f : Int) (l : 0 ≤ f) (h : f < 4) (b x y z : BitVec 128) (hx : fMake f false (fExp f b) (fFrac f b) = x) (hy : fMake f false 1 0#128 = y)
    (hz : fMake f false (2 * fEm f + 1) (bShl (mkB 0 1) (fPr f - 2)) = z) :
    cOf f y = 2 ∧ cOf f z = 4 ∧
    ((bZero x = true ∧ cOf f x = 0 ∧ bCmp x y = -1 ∧ bCmp x z = -1) ∨ (bZero x = false ∧ cOf f x = 1 ∧ bCmp x y = -1 ∧ bCmp x z = -1) ∨
     (bZero x = false ∧ (cOf f x == 1) = false ∧ (cOf f x == 4) = false ∧ 0 ≤ bCmp x y ∧ bCmp x z = -1) ∨ (bZero x = false ∧ cOf f x = 4 ∧ 0 ≤ bCmp x y ∧ 0 ≤ bCmp x z)) := by
  have nx := plus_nat f l h b
  have ny := normal_nat f l h
  have nz := quiet_nat f l h
  rw [hx] at nx; rw [hy] at ny; rw [hz] at nz
  rw [cOf_nat f l h, cOf_nat f l h, cOf_nat f l h, bcmp_nat, bcmp_nat, zero_nat]
  have := b.isLt
  generalize b.toNat = n at *
  generalize x.toNat = X at *
  generalize y.toNat = Y at *
  generalize z.toNat = Z at *
  clear hx hy hz
  unfold clsN
  rcases f_four f l h with rfl | rfl | rfl | rfl
  all_goals
    simp [fWd, fPr, fEm] at nx ny nz ⊢
    subst ny nz
    have hX : X % 2 ^ 15 = X ∨ True := .inr trivial
    clear hX
    refine ⟨by decide, by decide, ?_⟩
    repeat' split
    all_goals simp
    all_goals omega
end Hb
end Go.Proofs.YtmnoghkbmkiplaaDoor
