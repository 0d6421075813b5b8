/-
  THE PLAIN PART OF ClassOne: a class by size alone. No program in sight. No conditions.
-/
import Derived.Test.YtcbmhhnpagffcaaDoorEdgesPlain
namespace Go.Proofs.YtcbmhhnpagffcaaDoor
namespace Hb
theorem one_key (f : Int) (l : 0 ≤ f) (h : f < 4) (n m L S G Mi D A : Nat) (_b1 : n < 2 ^ 128) (_b2 : m < 2 ^ 128) (nL : L = n * 2 ^ (129 - fWd f).toNat % 2 ^ 128) (nS : S = L / 2 ^ (129 - fWd f).toNat)
    (nG : G = 1 * 2 ^ (fWd f - 1).toNat % 2 ^ 128) (nM : Mi = (S + G) % 2 ^ 128) (nD : D = m * 2 ^ (fWd f).toNat % 2 ^ 128) (nA : A = (S + D) % 2 ^ 128) :
    S < 2 ^ (fWd f - 1).toNat ∧ Mi = S + 2 ^ (fWd f - 1).toNat ∧ A % 2 ^ (fWd f - 1).toNat = S ∧ A / 2 ^ (fWd f - 1).toNat % 2 = 0 := by
  rcases f_four f l h with rfl | rfl | rfl | rfl
  all_goals
    simp [fWd] at nL nS nG nM nD nA ⊢
    omega
theorem one_cls (f : Int) (l : 0 ≤ f) (h : f < 4) (S I : Nat) (nI : I = (2 * fEm f + 1).toNat * 2 ^ (fPr f - 1).toNat) :
    (S < I ∧ clsN f S < 3 ∧ ((clsN f S = 0 ∧ S = 0) ∨ (¬ clsN f S = 0 ∧ ¬ S = 0))) ∨ (S = I ∧ clsN f S = 3 ∧ ¬ S = 0) ∨ (I < S ∧ 3 < clsN f S ∧ ¬ S = 0) := by
  unfold clsN
  rcases f_four f l h with rfl | rfl | rfl | rfl
  all_goals
    simp [fPr, fEm] at nI ⊢
    subst nI
    repeat' split
    all_goals omega
theorem one_plain (f : Int) (l : 0 ≤ f) (h : f < 4) (b m L S G Mi D A I : BitVec 128) (hL : bShl b (129 - fWd f) = L) (hS : bShr L (129 - fWd f) = S) (hG : bShl (mkB 0 1) (fWd f - 1) = G) (hMi : bAdd S G = Mi)
    (hD : bShl m (fWd f) = D) (hA : bAdd S D = A) (hI : fInf f false = I) :
    fNeg f S = false ∧ fNeg f Mi = true ∧ fNeg f A = false ∧ cOf f Mi = cOf f S ∧ cOf f A = cOf f S ∧
    ((bCmp S I = -1 ∧ cOf f S = 0 ∧ cFin f Mi = true ∧ cNaN f A = false ∧ bZero S = true) ∨ (bCmp S I = -1 ∧ (cOf f S == 3) = false ∧ (cOf f S == 0) = false ∧ cFin f Mi = true ∧ cNaN f A = false ∧ bZero S = false) ∨
     (bCmp S I = 0 ∧ cOf f S = 3 ∧ cFin f Mi = false ∧ cNaN f A = false ∧ bZero S = false) ∨ (bCmp S I = 1 ∧ (cOf f S == 3) = false ∧ (cOf f S == 0) = false ∧ cFin f Mi = false ∧ cNaN f A = true ∧ bZero S = false)) := by
  have hb := f_bounds f l h
  have nL := toNat_shl b (129 - fWd f)
  have nS := toNat_shr L (129 - fWd f)
  have nG := toNat_shl (mkB 0 1) (fWd f - 1)
  have nM := toNat_add S G
  have nD := toNat_shl m (fWd f)
  have nA := toNat_add S D
  have nI := inf_nat f l h
  rw [hL] at nL; rw [hS] at nS; rw [hG, show (mkB 0 1).toNat = 1 by decide] at nG; rw [hMi] at nM; rw [hD] at nD; rw [hA] at nA; rw [hI] at nI
  have hk : fKn f = true := by unfold fKn; simpa using h
  unfold cFin cNaN
  rw [hk, Bool.true_and, neg_nat f l h, neg_nat f l h, neg_nat f l h, cOf_nat f l h, cOf_nat f l h, cOf_nat f l h, bcmp_nat, zero_nat]
  obtain ⟨k1, k2, k3, k4⟩ := one_key f l h _ _ _ _ _ _ _ _ b.isLt m.isLt nL nS nG nM nD nA
  have k5 := one_cls f l h S.toNat I.toNat nI
  have p0 : 0 < 2 ^ (fWd f - 1).toNat := Nat.two_pow_pos _
  rw [k3, k4, k2, Nat.add_mod_right, Nat.mod_eq_of_lt k1, Nat.add_div_right _ p0, Nat.div_eq_of_lt k1]
  generalize clsN f S.toNat = c at *
  generalize S.toNat = s at *
  generalize I.toNat = i at *
  clear hL hS hG hMi hD hA hI nL nS nG nM nD nA nI k1 k2 k3 k4 p0
  refine ⟨by decide, by decide, by decide, rfl, rfl, ?_⟩
  rcases k5 with ⟨h1, h2, h3⟩ | ⟨h1, h2, h3⟩ | ⟨h1, h2, h3⟩
  · rcases h3 with ⟨h4, h5⟩ | ⟨h4, h5⟩
    · refine .inl ⟨if_pos h1, h4, ?_, ?_, ?_⟩ <;> simp <;> omega
    · refine .inr (.inl ⟨if_pos h1, ?_, ?_, ?_, ?_, ?_⟩) <;> simp <;> omega
  · refine .inr (.inr (.inl ⟨by rw [if_neg (by omega), if_neg (by omega)], h2, ?_, ?_, ?_⟩)) <;> simp <;> omega
  · refine .inr (.inr (.inr ⟨by rw [if_neg (by omega), if_pos (by omega)], ?_, ?_, ?_, ?_, ?_⟩)) <;> simp <;> omega
end Hb
end Go.Proofs.YtcbmhhnpagffcaaDoor
