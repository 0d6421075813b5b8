/-
  THE PLAIN PART: 256 bits: shifts, halves, comparison. No program in sight. No conditions.
-/
import Derived.Test.YtbkkidgeanogjaaDoorBackPlain
namespace Go.Proofs.YtbkkidgeanogjaaDoor
namespace Hb
def sel4 (a0 a1 a2 a3 i : Int) : Int := if i = 0 then a0 else if i = 1 then a1 else if i = 2 then a2 else if i = 3 then a3 else 0
/-- Up by n bits, or down (below 0). -/
def wShf (x : BitVec 256) (n : Int) : BitVec 256 := BitVec.ofNat 256 (shfN 4 x.toNat n)
def wShl (x : BitVec 256) (k : Int) : BitVec 256 := x <<< k.toNat
def wShr (x : BitVec 256) (k : Int) : BitVec 256 := x >>> k.toNat
theorem wq_at (x : BitVec 256) : wq0 x = ((wordAt 4 x.toNat 0 : Nat) : Int) ∧ wq1 x = ((wordAt 4 x.toNat 1 : Nat) : Int) ∧ wq2 x = ((wordAt 4 x.toNat 2 : Nat) : Int) ∧ wq3 x = ((wordAt 4 x.toNat 3 : Nat) : Int) := by
  have := x.isLt
  unfold wq0 wq1 wq2 wq3 wordAt
  refine ⟨?_, ?_, ?_, ?_⟩ <;> simp <;> omega
theorem sel4_word (x : BitVec 256) (j : Int) : sel4 (wq0 x) (wq1 x) (wq2 x) (wq3 x) j = ((wordAt 4 x.toNat j : Nat) : Int) := by
  obtain ⟨h0, h1, h2, h3⟩ := wq_at x
  unfold sel4
  by_cases e0 : j = 0
  · subst e0; rw [if_pos rfl, h0]
  · rw [if_neg e0]
    by_cases e1 : j = 1
    · subst e1; rw [if_pos rfl, h1]
    · rw [if_neg e1]
      by_cases e2 : j = 2
      · subst e2; rw [if_pos rfl, h2]
      · rw [if_neg e2]
        by_cases e3 : j = 3
        · subst e3; rw [if_pos rfl, h3]
        · rw [if_neg e3]; unfold wordAt; rw [if_neg (by omega)]; rfl
theorem wmoved (x : BitVec 256) (n : Int) (i : Nat) (hi : i < 4) : ((wordAt 4 (wShf x n).toNat (i : Int) : Nat) : Int) =
    bits BinOp.or IntKind.u64 (IntKind.u64.wrap (sel4 (wq0 x) (wq1 x) (wq2 x) (wq3 x) ((i : Int) - n / 64) * 2 ^ (n % 64).toNat)) (sel4 (wq0 x) (wq1 x) (wq2 x) (wq3 x) ((i : Int) - n / 64 - 1) / 2 / 2 ^ (63 - n % 64).toNat) := by
  have hX : x.toNat < 2 ^ (64 * 4) := x.isLt
  rw [sel4_word, sel4_word, mv_form _ _ _ (wordAt_lt _ _ _) (by omega) (by omega)]
  have e : (wShf x n).toNat = shfN 4 x.toNat n := by unfold wShf; rw [BitVec.toNat_ofNat]; exact Nat.mod_eq_of_lt (shf_lt 4 x.toNat hX n)
  rw [e, word_shf 4 x.toNat hX n i hi]
theorem wShf_up (x : BitVec 256) (n : Int) (h0 : 0 ≤ n) : wShf x n = wShl x n := by
  apply BitVec.eq_of_toNat_eq
  unfold wShf wShl shfN
  rw [if_pos h0, BitVec.toNat_ofNat, BitVec.toNat_shiftLeft]
  simp
theorem wShf_down (x : BitVec 256) (n : Int) (h0 : 0 ≤ n) : wShf x (-n) = wShr x n := by
  apply BitVec.eq_of_toNat_eq
  unfold wShf wShr shfN
  have hx := x.isLt
  rw [BitVec.toNat_ofNat, BitVec.toNat_ushiftRight]
  by_cases h : n = 0
  · subst h; simp [Nat.mod_eq_of_lt hx]
  · rw [if_neg (by omega), Int.neg_neg]
    refine Nat.mod_eq_of_lt ?_
    rw [Nat.shiftRight_eq_div_pow]
    exact Nat.lt_of_le_of_lt (Nat.div_le_self _ _) hx
theorem wShl_far (x : BitVec 256) (n : Int) (h : 256 ≤ n) : wShl x n = 0#256 := by
  unfold wShl; exact BitVec.shiftLeft_eq_zero (by omega)
theorem wShr_far (x : BitVec 256) (n : Int) (h : 256 ≤ n) : wShr x n = 0#256 := by
  unfold wShr; exact BitVec.ushiftRight_eq_zero (by omega)
theorem toNat_wshl (x : BitVec 256) (k : Int) : (wShl x k).toNat = x.toNat * 2 ^ k.toNat % 2 ^ 256 := by
  unfold wShl; rw [BitVec.toNat_shiftLeft, Nat.shiftLeft_eq]
theorem toNat_wshr (x : BitVec 256) (k : Int) : (wShr x k).toNat = x.toNat / 2 ^ k.toNat := by
  unfold wShr; rw [BitVec.toNat_ushiftRight, Nat.shiftRight_eq_div_pow]

/-! ### Halves -/
def wOf (b : BitVec 128) : BitVec 256 := BitVec.ofNat 256 b.toNat
def wHigh (x : BitVec 256) : BitVec 128 := BitVec.ofNat 128 (x.toNat / 340282366920938463463374607431768211456)
def wLow (x : BitVec 256) : BitVec 128 := BitVec.ofNat 128 x.toNat
def wJoin (h l : BitVec 128) : BitVec 256 := BitVec.ofNat 256 (h.toNat * 340282366920938463463374607431768211456 + l.toNat)
def wZero (x : BitVec 256) : Bool := x == 0#256
def wCmp (x y : BitVec 256) : Int := cmpI x.toNat y.toNat
def wLost (x : BitVec 256) (n : Int) : Bool := !(wShl (wShr x n) n == x)
theorem toNat_of (b : BitVec 128) : (wOf b).toNat = b.toNat := by
  have := b.isLt
  unfold wOf; rw [BitVec.toNat_ofNat]; omega
theorem toNat_join (h l : BitVec 128) : (wJoin h l).toNat = h.toNat * 340282366920938463463374607431768211456 + l.toNat := by
  have := h.isLt; have := l.isLt
  unfold wJoin; rw [BitVec.toNat_ofNat]; omega
theorem toNat_high (x : BitVec 256) : (wHigh x).toNat = x.toNat / 340282366920938463463374607431768211456 := by
  have := x.isLt
  unfold wHigh; rw [BitVec.toNat_ofNat]; omega
theorem toNat_wlow (x : BitVec 256) : (wLow x).toNat = x.toNat % 340282366920938463463374607431768211456 := by
  unfold wLow; rw [BitVec.toNat_ofNat]
theorem of_wq (b : BitVec 128) : wq0 (wOf b) = loB b ∧ wq1 (wOf b) = hiB b ∧ wq2 (wOf b) = 0 ∧ wq3 (wOf b) = 0 := by
  have := b.isLt
  unfold wq0 wq1 wq2 wq3 loB hiB; rw [toNat_of]
  refine ⟨rfl, ?_, ?_, ?_⟩ <;> omega
theorem join_wq (h l : BitVec 128) : wq0 (wJoin h l) = loB l ∧ wq1 (wJoin h l) = hiB l ∧ wq2 (wJoin h l) = loB h ∧ wq3 (wJoin h l) = hiB h := by
  have := h.isLt; have := l.isLt
  unfold wq0 wq1 wq2 wq3 loB hiB; rw [toNat_join]
  refine ⟨?_, ?_, ?_, ?_⟩ <;> omega
theorem high_hl (x : BitVec 256) : hiB (wHigh x) = wq3 x ∧ loB (wHigh x) = wq2 x := by
  have := x.isLt
  unfold wq2 wq3 loB hiB; rw [toNat_high]
  refine ⟨?_, ?_⟩ <;> omega
theorem low_hl' (x : BitVec 256) : hiB (wLow x) = wq1 x ∧ loB (wLow x) = wq0 x := by
  have := x.isLt
  unfold wq0 wq1 loB hiB; rw [toNat_wlow]
  refine ⟨?_, ?_⟩ <;> omega
theorem wzero_wq (x : BitVec 256) : wZero x = (wq0 x == 0 && wq1 x == 0 && wq2 x == 0 && wq3 x == 0) := by
  unfold wZero; rw [Bool.eq_iff_iff]; simp only [beq_iff_eq, Bool.and_eq_true]
  constructor
  · intro h; rw [h]; exact ⟨⟨⟨rfl, rfl⟩, rfl⟩, rfl⟩
  · intro ⟨⟨⟨h0, h1⟩, h2⟩, h3⟩; apply BitVec.eq_of_toNat_eq; unfold wq0 at h0; unfold wq1 at h1; unfold wq2 at h2; unfold wq3 at h3
    show x.toNat = 0; omega
theorem wcmp_half (x y : BitVec 256) : wCmp x y = fst0 (bCmp (wHigh x) (wHigh y)) (bCmp (wLow x) (wLow y)) := by
  unfold wCmp bCmp fst0 cmpI
  rw [toNat_high, toNat_high, toNat_wlow, toNat_wlow]
  repeat' split
  all_goals first | rfl | omega
theorem eqW_iff (x y : BitVec 256) : (x == y) = (wq0 x == wq0 y && wq1 x == wq1 y && wq2 x == wq2 y && wq3 x == wq3 y) := by
  rw [Bool.eq_iff_iff]; simp only [beq_iff_eq, Bool.and_eq_true]
  exact ⟨fun h => by rw [h]; exact ⟨⟨⟨rfl, rfl⟩, rfl⟩, rfl⟩, fun ⟨⟨⟨h0, h1⟩, h2⟩, h3⟩ => eq_of_wq h0 h1 h2 h3⟩
theorem lost_nat (x : BitVec 256) (n : Int) : wLost x n = decide (x.toNat % 2 ^ n.toNat ≠ 0) := by
  unfold wLost
  rw [Bool.eq_iff_iff, decide_eq_true_eq, Bool.not_eq_true', beq_eq_false_iff_ne]
  refine not_congr ?_
  rw [← BitVec.toNat_inj, toNat_wshl, toNat_wshr]
  have hx := x.isLt
  have hd := Nat.div_add_mod x.toNat (2 ^ n.toNat)
  have hle : x.toNat / 2 ^ n.toNat * 2 ^ n.toNat ≤ x.toNat := Nat.div_mul_le_self _ _
  rw [Nat.mod_eq_of_lt (Nat.lt_of_le_of_lt hle hx)]
  rw [Nat.mul_comm] at hd
  omega
end Hb
end Go.Proofs.YtbkkidgeanogjaaDoor
