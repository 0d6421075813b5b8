/-
  THE PLAIN PART OF package nan: quieting, the default, by numbers. No program in sight. No conditions.
-/
import Derived.Test.YtmnoghkbmkiplaaDoorEdgesPlain
import Derived.Laws.BitsAllLaws
namespace Go.Proofs.YtmnoghkbmkiplaaDoor
namespace Hb
set_option maxRecDepth 20000
/-- The words of an OR. -/
theorem or_hi (x y : BitVec 128) : bits BinOp.or IntKind.u64 (hiB x) (hiB y) = hiB (bOr x y) := by
  unfold hiB bOr
  rw [u64_or_nat _ _ (by have := x.isLt; omega) (by have := y.isLt; omega), BitVec.toNat_or]
  congr 1
  apply Nat.eq_of_testBit_eq; intro i
  rw [show (18446744073709551616 : Nat) = 2 ^ 64 from rfl, Nat.testBit_or, Nat.testBit_div_two_pow, Nat.testBit_div_two_pow, Nat.testBit_div_two_pow, Nat.testBit_or]
theorem or_lo (x y : BitVec 128) : bits BinOp.or IntKind.u64 (loB x) (loB y) = loB (bOr x y) := by
  unfold loB bOr
  rw [u64_or_nat _ _ (by omega) (by omega), BitVec.toNat_or]
  congr 1
  apply Nat.eq_of_testBit_eq; intro i
  rw [show (18446744073709551616 : Nat) = 2 ^ 64 from rfl, Nat.testBit_or, Nat.testBit_mod_two_pow, Nat.testBit_mod_two_pow, Nat.testBit_mod_two_pow, Nat.testBit_or]
  cases decide (i < 64) <;> simp
/-- An OR with one bit. -/
theorem or_bit (x t : BitVec 128) (k : Nat) (_hk : k < 128) (ht : t.toNat = 2 ^ k) : (bOr x t).toNat = if x.toNat / 2 ^ k % 2 = 1 then x.toNat else x.toNat + 2 ^ k := by
  have hlt := x.isLt
  have hbit : x.toNat.testBit k = decide (x.toNat / 2 ^ k % 2 = 1) := Nat.testBit_eq_decide_div_mod_eq
  unfold bOr
  rw [BitVec.toNat_or, ht]
  by_cases h : x.toNat / 2 ^ k % 2 = 1
  · rw [if_pos h]
    rw [decide_eq_true h] at hbit
    apply Nat.eq_of_testBit_eq; intro i
    rw [Nat.testBit_or, Nat.testBit_two_pow]
    by_cases e : k = i
    · subst e; rw [hbit]; simp
    · simp [e]
  · rw [if_neg h]
    have hz : x.toNat = x.toNat / 2 ^ (k + 1) * 2 ^ (k + 1) + x.toNat % 2 ^ k := by
      have h1 := Nat.div_add_mod x.toNat (2 ^ (k + 1))
      have h2 : x.toNat % 2 ^ (k + 1) = x.toNat % 2 ^ k := by
        rw [Nat.pow_succ, Nat.mod_mul]
        have : x.toNat / 2 ^ k % 2 = 0 := by omega
        rw [this]; simp
      rw [h2, Nat.mul_comm] at h1
      exact h1.symm
    have hl : x.toNat % 2 ^ k < 2 ^ k := Nat.mod_lt _ (Nat.two_pow_pos _)
    generalize x.toNat / 2 ^ (k + 1) = A at hz
    generalize x.toNat % 2 ^ k = B at hz hl
    have e1 : A * 2 ^ (k + 1) + B = 2 ^ (k + 1) * A ||| B := by
      rw [Nat.mul_comm]; exact Nat.two_pow_add_eq_or_of_lt (Nat.lt_of_lt_of_le hl (Nat.pow_le_pow_right (by decide) (by omega))) A
    have e2 : 2 ^ k * 1 + B = 2 ^ k * 1 ||| B := Nat.two_pow_add_eq_or_of_lt hl 1
    have e3 : 2 ^ (k + 1) * A + (2 ^ k + B) = 2 ^ (k + 1) * A ||| (2 ^ k + B) :=
      Nat.two_pow_add_eq_or_of_lt (by rw [Nat.pow_succ]; omega) A
    rw [hz, e1]
    rw [Nat.mul_one] at e2
    rw [Nat.or_assoc, Nat.or_comm B, ← e2, ← e3, ← e1, Nat.mul_comm]
    omega
def nBit (f : Int) : BitVec 128 := bShl (mkB 0 1) (fPr f - 2)
def nQ (f : Int) (b : BitVec 128) : BitVec 128 := if cNaN f (fCut f b) then bOr (fCut f b) (nBit f) else fCut f b
def nD (f : Int) : BitVec 128 := fMake f false (2 * fEm f + 1) (nBit f)
theorem nan_nat (f : Int) (l : 0 ≤ f) (h : f < 4) (b : BitVec 128) : cNaN f b = decide ((2 * fEm f + 1).toNat * 2 ^ (fPr f - 1).toNat < b.toNat % 2 ^ (fWd f - 1).toNat) := by
  unfold cNaN
  rw [cOf_nat f l h]
  generalize b.toNat % 2 ^ (fWd f - 1).toNat = s
  unfold clsN
  rw [decide_eq_decide]
  rcases f_four f l h with rfl | rfl | rfl | rfl
  all_goals
    simp [fPr, fEm]
    repeat' split
    all_goals omega
theorem sig_nat (f : Int) (l : 0 ≤ f) (h : f < 4) (b : BitVec 128) : cSig f b = decide ((2 * fEm f + 1).toNat * 2 ^ (fPr f - 1).toNat < b.toNat % 2 ^ (fWd f - 1).toNat ∧ b.toNat % 2 ^ (fWd f - 1).toNat < (2 * fEm f + 1).toNat * 2 ^ (fPr f - 1).toNat + 2 ^ (fPr f - 2).toNat) := by
  unfold cSig
  rw [cOf_nat f l h]
  generalize b.toNat % 2 ^ (fWd f - 1).toNat = s
  unfold clsN
  rw [decide_eq_decide]
  rcases f_four f l h with rfl | rfl | rfl | rfl
  all_goals
    simp [fPr, fEm]
    repeat' split
    all_goals omega
theorem cut_low (f : Int) (l : 0 ≤ f) (h : f < 4) (b : BitVec 128) : (fCut f b).toNat % 2 ^ (fWd f - 1).toNat = b.toNat % 2 ^ (fWd f - 1).toNat := by
  rw [cut_nat f l h]
  rcases f_four f l h with rfl | rfl | rfl | rfl
  all_goals
    simp [fWd]
    try omega
theorem quietN (f : Int) (l : 0 ≤ f) (h : f < 4) (b : BitVec 128) :
    (nQ f b).toNat = if cSig f b then b.toNat % 2 ^ (fWd f).toNat + 2 ^ (fPr f - 2).toNat else b.toNat % 2 ^ (fWd f).toNat := by
  have hb := f_bounds f l h
  have hc := cut_nat f l h b
  have hor := or_bit (fCut f b) (nBit f) (fPr f - 2).toNat (by omega) (one_shl f l h)
  unfold nQ
  rw [nan_nat f l h, cut_low f l h, sig_nat f l h]
  rw [hc] at hor
  by_cases hn : (2 * fEm f + 1).toNat * 2 ^ (fPr f - 1).toNat < b.toNat % 2 ^ (fWd f - 1).toNat
  · rw [decide_eq_true hn, if_pos rfl, hor]
    have := b.isLt
    generalize b.toNat = n at *
    clear hor hc
    rcases f_four f l h with rfl | rfl | rfl | rfl
    all_goals
      simp [fWd, fPr, fEm] at hn ⊢
      repeat' split
      all_goals omega
  · rw [decide_eq_false hn, if_neg (by decide), if_neg (by simp only [decide_eq_true_eq]; omega), hc]
theorem default_nat (f : Int) (l : 0 ≤ f) (h : f < 4) : (nD f).toNat = (2 * fEm f + 1).toNat * 2 ^ (fPr f - 1).toNat + 2 ^ (fPr f - 2).toNat := quiet_nat f l h
theorem quiet_none (f : Int) (h : ¬ f < 4) (b : BitVec 128) : nQ f b = fCut f b ∧ fCut f b = 0#128 ∧ cNaN f b = false ∧ cSig f b = false := by
  have h1 := cOf_none f h
  have h2 : ∀ x, cNaN f x = false := fun x => by unfold cNaN; rw [h1 x]; rfl
  refine ⟨by unfold nQ; rw [h2]; rfl, ?_, h2 b, by unfold cSig; rw [h1]; rfl⟩
  unfold fCut fLow
  rw [(f_none f h).1]
  apply BitVec.eq_of_toNat_eq
  rw [toNat_shr, toNat_shl]
  have : b.toNat * 2 ^ ((128 : Int) - 0).toNat % 2 ^ 128 = 0 := by
    rw [show ((128 : Int) - 0).toNat = 128 from rfl]; exact Nat.mul_mod_left _ _
  rw [this]; rfl
theorem default_none (f : Int) (h : ¬ f < 4) : nD f = 0#128 := by unfold nD fMake; rw [if_neg h]
/-- What is quieted: a quiet NaN that fits. -/
theorem quieted_ok (f : Int) (l : 0 ≤ f) (h : f < 4) (b : BitVec 128) (hn : cNaN f b = true) : cOf f (nQ f b) = 4 ∧ fFits f (nQ f b) = true := by
  have hk : fKn f = true := by unfold fKn; simpa using h
  have hq := quietN f l h b
  rw [nan_nat f l h, decide_eq_true_eq] at hn
  rw [sig_nat f l h] at hq
  unfold fFits
  rw [hk, Bool.true_and, decide_eq_true_eq, cOf_nat f l h]
  have := b.isLt
  have e : (fCut f (nQ f b) = nQ f b) ↔ ((nQ f b).toNat % 2 ^ (fWd f).toNat = (nQ f b).toNat) := by
    rw [← cut_nat f l h]; exact ⟨fun h => by rw [h], BitVec.eq_of_toNat_eq⟩
  rw [e]
  generalize (nQ f b).toNat = q at *
  generalize b.toNat = n at *
  clear e
  unfold clsN
  rcases f_four f l h with rfl | rfl | rfl | rfl
  all_goals
    simp [fWd, fPr, fEm] at hn hq ⊢
    split at hq
    all_goals subst hq
    all_goals refine ⟨?_, ?_⟩
    all_goals (repeat' split)
    all_goals omega
theorem default_ok (f : Int) (l : 0 ≤ f) (h : f < 4) : cOf f (nD f) = 4 ∧ fFits f (nD f) = true := by
  rcases f_four f l h with rfl | rfl | rfl | rfl <;> decide +kernel
/-- To quiet once more changes nothing; what is no NaN stays; sign and exponent stay. -/
theorem stays_plain (f : Int) (l : 0 ≤ f) (h : f < 4) (b : BitVec 128) :
    nQ f (nQ f b) = nQ f b ∧ cNaN f (nQ f b) = cNaN f b ∧ cSig f (nQ f b) = false ∧ fNeg f (nQ f b) = fNeg f b ∧ fExp f (nQ f b) = fExp f b ∧
    bBelow (fFrac f (nQ f b)) (fFrac f b) = false ∧ (cSig f b = true → bSub (fFrac f (nQ f b)) (fFrac f b) = nBit f) ∧
    (cSig f b = false → bSub (fFrac f (nQ f b)) (fFrac f b) = 0#128 ∧ nQ f b = fCut f b) := by
  have hq := quietN f l h b
  have hqq := quietN f l h (nQ f b)
  have ho := one_shl f l h
  have e1 : ∀ x y : BitVec 128, x = y ↔ x.toNat = y.toNat := fun x y => ⟨fun h => by rw [h], BitVec.eq_of_toNat_eq⟩
  unfold bBelow bSub
  rw [e1, e1, e1, e1, hqq, BitVec.toNat_sub, nan_nat f l h, nan_nat f l h, neg_nat f l h, neg_nat f l h, exp_nat f l h, exp_nat f l h, frac_nat f l h, frac_nat f l h, cut_nat f l h]
  rw [show nBit f = bShl (mkB 0 1) (fPr f - 2) from rfl, ho]
  rw [sig_nat f l h] at hq ⊢
  rw [sig_nat f l h]
  have := b.isLt
  generalize (nQ f b).toNat = q at *
  generalize b.toNat = n at *
  clear e1 ho hqq
  rcases f_four f l h with rfl | rfl | rfl | rfl
  all_goals
    simp [fWd, fPr, fEm] at hq ⊢
    split at hq
    all_goals subst hq
    all_goals refine ⟨?_, ?_, ?_, ?_, ?_, ?_, ?_, ?_⟩
    all_goals first | omega | (split <;> omega) | (intro _; omega)
end Hb
end Go.Proofs.YtmnoghkbmkiplaaDoor
