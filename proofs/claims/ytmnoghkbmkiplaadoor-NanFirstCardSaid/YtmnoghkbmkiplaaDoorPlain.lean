/-
  THE PLAIN PART: numbers of 128 and 256 bits as bit vectors, their words as integers, and what the program's functions compute of them. No program in sight. No conditions.
-/
namespace Go.Proofs.YtmnoghkbmkiplaaDoor
namespace Hb

/-! ### The words of 128 and of 256 bits -/
def hiB (x : BitVec 128) : Int := ((x.toNat / 18446744073709551616 : Nat) : Int)
def loB (x : BitVec 128) : Int := ((x.toNat % 18446744073709551616 : Nat) : Int)
def wq0 (x : BitVec 256) : Int := ((x.toNat % 18446744073709551616 : Nat) : Int)
def wq1 (x : BitVec 256) : Int := ((x.toNat / 18446744073709551616 % 18446744073709551616 : Nat) : Int)
def wq2 (x : BitVec 256) : Int := ((x.toNat / 340282366920938463463374607431768211456 % 18446744073709551616 : Nat) : Int)
def wq3 (x : BitVec 256) : Int := ((x.toNat / 6277101735386680763835789423207666416102355444464034512896 : Nat) : Int)

/-- A word: an integer of 64 bits. -/
def Word (x : Int) : Prop := 0 ≤ x ∧ x < 18446744073709551616

theorem hiB_word (x : BitVec 128) : Word (hiB x) := by unfold Word hiB; have := x.isLt; omega
theorem loB_word (x : BitVec 128) : Word (loB x) := by unfold Word loB; omega
theorem wq0_word (x : BitVec 256) : Word (wq0 x) := by unfold Word wq0; omega
theorem wq1_word (x : BitVec 256) : Word (wq1 x) := by unfold Word wq1; omega
theorem wq2_word (x : BitVec 256) : Word (wq2 x) := by unfold Word wq2; omega
theorem wq3_word (x : BitVec 256) : Word (wq3 x) := by unfold Word wq3; have := x.isLt; omega

def mkB (h l : Int) : BitVec 128 := BitVec.ofNat 128 (h.toNat * 18446744073709551616 + l.toNat)
theorem hiB_mk (h l : Int) (h1 : Word h) (h2 : Word l) : hiB (mkB h l) = h := by
  obtain ⟨a, b⟩ := h1; obtain ⟨c, d⟩ := h2
  unfold hiB mkB; rw [BitVec.toNat_ofNat]; omega
theorem loB_mk (h l : Int) (h1 : Word h) (h2 : Word l) : loB (mkB h l) = l := by
  obtain ⟨a, b⟩ := h1; obtain ⟨c, d⟩ := h2
  unfold loB mkB; rw [BitVec.toNat_ofNat]; omega
def mkW (a b c d : Int) : BitVec 256 := BitVec.ofNat 256 (a.toNat + b.toNat * 18446744073709551616 + c.toNat * 340282366920938463463374607431768211456 + d.toNat * 6277101735386680763835789423207666416102355444464034512896)
theorem wq_mk (a b c d : Int) (h1 : Word a) (h2 : Word b) (h3 : Word c) (h4 : Word d) : wq0 (mkW a b c d) = a ∧ wq1 (mkW a b c d) = b ∧ wq2 (mkW a b c d) = c ∧ wq3 (mkW a b c d) = d := by
  obtain ⟨a1, a2⟩ := h1; obtain ⟨b1, b2⟩ := h2; obtain ⟨c1, c2⟩ := h3; obtain ⟨d1, d2⟩ := h4
  unfold wq0 wq1 wq2 wq3 mkW; rw [BitVec.toNat_ofNat]; omega

theorem toNat_hl (x : BitVec 128) : (x.toNat : Int) = hiB x * 18446744073709551616 + loB x := by unfold hiB loB; omega
theorem eq_of_hl {x y : BitVec 128} (h : hiB x = hiB y) (l : loB x = loB y) : x = y := by
  apply BitVec.eq_of_toNat_eq; unfold hiB at h; unfold loB at l; omega
theorem eq_iff_hl (x y : BitVec 128) : (x = y) ↔ (hiB x = hiB y ∧ loB x = loB y) := ⟨fun h => by rw [h]; exact ⟨rfl, rfl⟩, fun ⟨h, l⟩ => eq_of_hl h l⟩
theorem eq_of_wq {x y : BitVec 256} (h0 : wq0 x = wq0 y) (h1 : wq1 x = wq1 y) (h2 : wq2 x = wq2 y) (h3 : wq3 x = wq3 y) : x = y := by
  apply BitVec.eq_of_toNat_eq; unfold wq0 at h0; unfold wq1 at h1; unfold wq2 at h2; unfold wq3 at h3; omega

/-! ### word -/
def bAdd (x y : BitVec 128) : BitVec 128 := x + y
def bCarry (x y : BitVec 128) : Bool := decide (340282366920938463463374607431768211456 ≤ x.toNat + y.toNat)
def bSub (x y : BitVec 128) : BitVec 128 := x - y
def bBelow (x y : BitVec 128) : Bool := decide (x.toNat < y.toNat)
def cmpI (x y : Int) : Int := if x < y then -1 else if y < x then 1 else 0
/-- The first that is not 0. -/
def fst0 (a c : Int) : Int := if a = 0 then c else a
def bCmp (x y : BitVec 128) : Int := cmpI x.toNat y.toNat
def bBit (x : BitVec 128) (i : Int) : Bool := decide (0 ≤ i) && x.getLsbD i.toNat
def bZero (x : BitVec 128) : Bool := x == 0#128
def bOr (x y : BitVec 128) : BitVec 128 := x ||| y

theorem add_lo (x y : BitVec 128) : loB (bAdd x y) = (loB x + loB y) % 18446744073709551616 := by
  unfold bAdd loB; rw [BitVec.toNat_add]; omega
theorem add_hi (x y : BitVec 128) : hiB (bAdd x y) = (hiB x + hiB y + (loB x + loB y) / 18446744073709551616) % 18446744073709551616 := by
  unfold bAdd loB hiB; rw [BitVec.toNat_add]; have := x.isLt; have := y.isLt; omega
theorem add_carry (x y : BitVec 128) : bCarry x y = ((hiB x + hiB y + (loB x + loB y) / 18446744073709551616) / 18446744073709551616 != 0) := by
  unfold bCarry loB hiB; rw [Bool.eq_iff_iff]; simp only [decide_eq_true_eq, bne_iff_ne]; have := x.isLt; have := y.isLt; omega
def bor (x y : Int) : Int := if x < y then 1 else 0
theorem sub_lo (x y : BitVec 128) : loB (bSub x y) = (loB x - loB y) % 18446744073709551616 := by
  unfold bSub loB; rw [BitVec.toNat_sub]; have := x.isLt; have := y.isLt; omega
theorem sub_hi (x y : BitVec 128) : hiB (bSub x y) = (hiB x - hiB y - bor (loB x) (loB y)) % 18446744073709551616 := by
  unfold bSub loB hiB bor; rw [BitVec.toNat_sub]; have := x.isLt; have := y.isLt; split <;> omega
theorem sub_below (x y : BitVec 128) : bBelow x y = decide (hiB x < hiB y + bor (loB x) (loB y)) := by
  unfold bBelow loB hiB bor; rw [Bool.eq_iff_iff]; simp only [decide_eq_true_eq]; have := x.isLt; have := y.isLt; split <;> omega
theorem cmp_hl (x y : BitVec 128) : bCmp x y = fst0 (cmpI (hiB x) (hiB y)) (cmpI (loB x) (loB y)) := by
  unfold bCmp fst0 cmpI hiB loB
  repeat' split
  all_goals first | rfl | omega
theorem zero_hl (x : BitVec 128) : bZero x = (hiB x == 0 && loB x == 0) := by
  unfold bZero; rw [Bool.eq_iff_iff]; simp only [beq_iff_eq, Bool.and_eq_true]
  constructor
  · intro h; rw [h]; exact ⟨rfl, rfl⟩
  · intro ⟨h, l⟩; apply BitVec.eq_of_toNat_eq; unfold hiB at h; unfold loB at l
    show x.toNat = 0; omega
end Hb
end Go.Proofs.YtmnoghkbmkiplaaDoor
