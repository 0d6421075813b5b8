/-
  THE PLAIN PART OF package class: a class by the fields, and by size alone. No program in sight. No conditions.
-/
import Derived.Test.YtmnoghkbmkiplaaDoorBackPlain
namespace Go.Proofs.YtmnoghkbmkiplaaDoor
namespace Hb
def cOf (f : Int) (b : BitVec 128) : Int :=
  if f < 4 then
    (if fExp f b = 0 then (if bZero (fFrac f b) then 0 else 1)
     else if fExp f b < 2 * fEm f + 1 then 2
     else if bZero (fFrac f b) then 3
     else if bBit (fFrac f b) (fPr f - 2) then 4 else 5)
  else 0
def cNaN (f : Int) (b : BitVec 128) : Bool := decide (4 ≤ cOf f b)
def cSig (f : Int) (b : BitVec 128) : Bool := decide (cOf f b = 5)
def cFin (f : Int) (b : BitVec 128) : Bool := fKn f && decide (cOf f b < 3)
theorem cOf_bounds (f : Int) (b : BitVec 128) : 0 ≤ cOf f b ∧ cOf f b ≤ 5 := by
  unfold cOf; repeat' split
  all_goals decide
theorem cOf_none (f : Int) (h : ¬ f < 4) (b : BitVec 128) : cOf f b = 0 := by unfold cOf; rw [if_neg h]
/-- The class of a size (a number without its sign). -/
def clsN (f : Int) (s : Nat) : Int :=
  if s = 0 then 0 else if s < 2 ^ (fPr f - 1).toNat then 1 else if s < (2 * fEm f + 1).toNat * 2 ^ (fPr f - 1).toNat then 2
  else if s = (2 * fEm f + 1).toNat * 2 ^ (fPr f - 1).toNat then 3 else if s < (2 * fEm f + 1).toNat * 2 ^ (fPr f - 1).toNat + 2 ^ (fPr f - 2).toNat then 5 else 4
theorem zero_nat (x : BitVec 128) : bZero x = decide (x.toNat = 0) := by
  unfold bZero; rw [Bool.eq_iff_iff]; simp only [beq_iff_eq, decide_eq_true_eq]
  exact ⟨fun h => by rw [h]; rfl, fun h => BitVec.eq_of_toNat_eq h⟩
theorem frac_nat (f : Int) (l : 0 ≤ f) (h : f < 4) (b : BitVec 128) : (fFrac f b).toNat = b.toNat % 2 ^ (fPr f - 1).toNat := by
  have hb := f_bounds f l h
  unfold fFrac; rw [if_pos h]; exact toNat_low b _ (by omega) (by omega)
theorem neg_nat (f : Int) (l : 0 ≤ f) (h : f < 4) (b : BitVec 128) : fNeg f b = decide (b.toNat / 2 ^ (fWd f - 1).toNat % 2 = 1) := by
  have hb := f_bounds f l h
  have hk : fKn f = true := by unfold fKn; simpa using h
  unfold fNeg; rw [hk, Bool.true_and, bit_nat _ _ (by omega)]
theorem cOf_nat (f : Int) (l : 0 ≤ f) (h : f < 4) (b : BitVec 128) : cOf f b = clsN f (b.toNat % 2 ^ (fWd f - 1).toNat) := by
  have hb := f_bounds f l h
  unfold cOf
  rw [if_pos h, zero_nat, bit_nat _ _ (by omega), frac_nat f l h, exp_nat f l h]
  unfold clsN
  have := b.isLt
  generalize b.toNat = n at *
  rcases f_four f l h with rfl | rfl | rfl | rfl
  all_goals
    simp [fWd, fPr, fEm]
    repeat' split
    all_goals first | rfl | omega
theorem low_cls (f : Int) (l : 0 ≤ f) (h : f < 4) (x y : BitVec 128) (e : x.toNat % 2 ^ (fWd f - 1).toNat = y.toNat % 2 ^ (fWd f - 1).toNat) : cOf f x = cOf f y := by
  rw [cOf_nat f l h, cOf_nat f l h, e]
end Hb
end Go.Proofs.YtmnoghkbmkiplaaDoor
