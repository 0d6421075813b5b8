/-
  THE PLAIN PART OF the laws FieldsReach, FieldsWide, FieldsOrder. No program in sight. No conditions.
-/
import Derived.Test.YtbkkidgeanogjaaDoorFieldsPlain
namespace Go.Proofs.YtbkkidgeanogjaaDoor
namespace Hb
theorem bit_below {s : BitVec 128} {k : Nat} (h : s.toNat % 2 ^ k = 0) (i : Int) (h0 : 0 ≤ i) (hi : i < (k : Int)) : bBit s i = false := by
  unfold bBit
  rw [decide_eq_true h0, Bool.true_and, BitVec.getLsbD]
  have := Nat.testBit_mod_two_pow s.toNat k i.toNat
  rw [h, Nat.zero_testBit, decide_eq_true (by omega : i.toNat < k), Bool.true_and] at this
  exact this.symm
theorem reach_plain (f : Int) (l : 0 ≤ f) (h : f < 4) (b : BitVec 128) (hc : cOf f b = 1 ∨ cOf f b = 2) :
    (uS f b).toNat % 2 ^ (128 - fPr f).toNat = 0 ∧ uE f b ≤ fEm f ∧ 2 - fEm f - fPr f ≤ uE f b ∧ (cOf f b = 1 ↔ uE f b < 1 - fEm f) ∧ bBit (uS f b) 127 = true := by
  have hb := f_bounds f l h
  rw [bit127]
  rcases hc with c1 | c2
  · obtain ⟨e1, e2, e3, e4, e5, e6, e7⟩ := unpack_sub f l h b c1
    refine ⟨?_, by omega, by omega, ⟨fun _ => by omega, fun _ => c1⟩, by rw [decide_eq_true_eq]; exact e7⟩
    rw [e6]
    obtain ⟨d, hd⟩ : ∃ d, 128 - blen (fFrac f b).toNat = (128 - fPr f).toNat + d := ⟨128 - blen (fFrac f b).toNat - (128 - fPr f).toNat, by omega⟩
    rw [hd, Nat.pow_add, Nat.mul_left_comm]
    exact Nat.mul_mod_right _ _
  · obtain ⟨E, e1, e2, e3, e4, e5⟩ := unpack_normal f l h b c2
    refine ⟨?_, by omega, by omega, ⟨fun c => by omega, fun c => by omega⟩, by rw [decide_eq_true_eq, e5]; omega⟩
    rw [e5]
    have : (2 : Nat) ^ 127 = 2 ^ (fPr f - 1).toNat * 2 ^ (128 - fPr f).toNat := by rw [← Nat.pow_add]; congr 1; omega
    rw [this, ← Nat.add_mul]
    exact Nat.mul_mod_left _ _
theorem fin_parts {f : Int} {b : BitVec 128} (hf : cFin f b = true) : f < 4 ∧ cOf f b < 3 := by
  unfold cFin fKn at hf
  rw [Bool.and_eq_true, decide_eq_true_eq, decide_eq_true_eq] at hf
  exact hf
theorem wide_plain (f : Int) (l : 0 ≤ f) (h : f < 3) (b : BitVec 128) (hf : cFin f b = true) :
    pOk (f + 1) (cOf f b) (uE f b) (uS f b) = true ∧ fNeg (f + 1) (pB (f + 1) (fNeg f b) (cOf f b) (uE f b) (uS f b)) = fNeg f b ∧
    uE (f + 1) (pB (f + 1) (fNeg f b) (cOf f b) (uE f b) (uS f b)) = uE f b ∧ uS (f + 1) (pB (f + 1) (fNeg f b) (cOf f b) (uE f b) (uS f b)) = uS f b ∧
    cOf (f + 1) (pB (f + 1) (fNeg f b) (cOf f b) (uE f b) (uS f b)) = if cOf f b = 0 then 0 else 2 := by
  obtain ⟨h4, hc⟩ := fin_parts hf
  have hcb := cOf_bounds f b
  by_cases c0 : cOf f b = 0
  · have ok : pOk (f + 1) (cOf f b) (uE f b) (uS f b) = true := by unfold pOk; rw [c0, decide_eq_true (by omega : f + 1 < 4)]; rfl
    obtain ⟨u1, u2⟩ := u_other f b (by omega) (by omega)
    obtain ⟨p1, p2, _, _⟩ := unpack_pack (f + 1) (by omega) (by omega) (fNeg f b) _ _ _ ok
    have p3 := p2 c0
    obtain ⟨v1, v2⟩ := u_other (f + 1) (pB (f + 1) (fNeg f b) (cOf f b) (uE f b) (uS f b)) (by omega) (by omega)
    rw [if_pos c0]
    exact ⟨ok, p1, by rw [v1, u1], by rw [v2, u2], p3⟩
  · obtain ⟨r1, r2, r3, r4, r5⟩ := reach_plain f l h4 b (by omega)
    have step : fEm f + fPr f - 2 < fEm (f + 1) ∧ fPr f ≤ fPr (f + 1) ∧ fEm f ≤ fEm (f + 1) ∧ 0 ≤ 128 - fPr (f + 1) ∧ 2 - fEm (f + 1) - fPr (f + 1) ≤ 2 - fEm f - fPr f := by
      rcases (by omega : f = 0 ∨ f = 1 ∨ f = 2) with rfl | rfl | rfl <;> decide
    have o1 : pOff (f + 1) (uE f b) = 128 - fPr (f + 1) := by unfold pOff; rw [if_neg (by omega)]
    have ok : pOk (f + 1) (cOf f b) (uE f b) (uS f b) = true := by
      refine pok_fin _ _ _ _ (by omega) (by omega) ?_ (by omega) (by omega) ?_
      · rw [bit127, decide_eq_true_eq] at r5; exact r5
      · rw [o1]
        obtain ⟨d, hd⟩ : ∃ d, (128 - fPr f).toNat = (128 - fPr (f + 1)).toNat + d := ⟨(128 - fPr f).toNat - (128 - fPr (f + 1)).toNat, by omega⟩
        rw [hd, Nat.pow_add] at r1
        have := Nat.mod_mul_right_mod (uS f b).toNat (2 ^ (128 - fPr (f + 1)).toNat) (2 ^ d)
        rw [r1, Nat.zero_mod] at this
        exact this.symm
    obtain ⟨p1, _, _, p4⟩ := unpack_pack (f + 1) (by omega) (by omega) (fNeg f b) _ _ _ ok
    obtain ⟨q1, q2, q3⟩ := p4 c0 (by omega)
    rw [if_neg c0]
    refine ⟨ok, p1, q1, q2, ?_⟩
    rw [q3, if_neg (by omega)]
/-- A finite number above 0: its size, by its fields. -/
theorem size_plain (f : Int) (l : 0 ≤ f) (h : f < 4) (b : BitVec 128) (hn : fNeg f b = false) : ∃ E : Nat, fExp f b = (E : Int) ∧ (fCut f b).toNat = E * 2 ^ (fPr f - 1).toNat + (fFrac f b).toNat := by
  obtain ⟨e, h1, h2, h3⟩ := expNat f l h b
  refine ⟨e, h1, ?_⟩
  have hm := back_make f l h b
  rw [← hm, hn, h1, make_nat f l h _ _ h2, Nat.mod_eq_of_lt (frac_lt f l h b)]
  simp
theorem order_lt (f : Int) (l : 0 ≤ f) (h : f < 4) (a b : BitVec 128) (ha : cOf f a = 1 ∨ cOf f a = 2) (hb : cOf f b = 1 ∨ cOf f b = 2) (na : fNeg f a = false) (nb : fNeg f b = false)
    (hlt : (fCut f a).toNat < (fCut f b).toNat) : uE f a < uE f b ∨ (uE f a = uE f b ∧ (uS f a).toNat < (uS f b).toNat) := by
  have hf := f_bounds f l h
  obtain ⟨Ea, a1, a2⟩ := size_plain f l h a na
  obtain ⟨Eb, b1, b2⟩ := size_plain f l h b nb
  have la := frac_lt f l h a
  have lb := frac_lt f l h b
  rw [a2, b2] at hlt
  rcases ha with ca | ca <;> rcases hb with cb | cb
  · obtain ⟨x1, x2, x3, x4, x5, x6, x7⟩ := unpack_sub f l h a ca
    obtain ⟨y1, y2, y3, y4, y5, y6, y7⟩ := unpack_sub f l h b cb
    obtain rfl : Ea = 0 := by omega
    obtain rfl : Eb = 0 := by omega
    rw [Nat.zero_mul, Nat.zero_add, Nat.zero_add] at hlt
    have hm := blen_mono (Nat.le_of_lt hlt)
    by_cases e : blen (fFrac f a).toNat = blen (fFrac f b).toNat
    · refine .inr ⟨by omega, ?_⟩
      rw [x6, y6, e]
      exact Nat.mul_lt_mul_of_pos_right hlt (Nat.two_pow_pos _)
    · exact .inl (by omega)
  · obtain ⟨x1, x2, x3, x4, x5, x6, x7⟩ := unpack_sub f l h a ca
    obtain ⟨E, y1, y2, y3, y4, y5⟩ := unpack_normal f l h b cb
    exact .inl (by omega)
  · obtain ⟨E, x1, x2, x3, x4, x5⟩ := unpack_normal f l h a ca
    obtain ⟨y1, y2, y3, y4, y5, y6, y7⟩ := unpack_sub f l h b cb
    obtain rfl : Eb = 0 := by omega
    have := Nat.mul_le_mul_right (2 ^ (fPr f - 1).toNat) (show 1 ≤ Ea by omega)
    omega
  · obtain ⟨E, x1, x2, x3, x4, x5⟩ := unpack_normal f l h a ca
    obtain ⟨E', y1, y2, y3, y4, y5⟩ := unpack_normal f l h b cb
    obtain rfl : E = Ea := by omega
    obtain rfl : E' = Eb := by omega
    rcases Nat.lt_trichotomy E E' with hE | hE | hE
    · exact .inl (by omega)
    · subst hE
      refine .inr ⟨by omega, ?_⟩
      rw [x5, y5]
      have := Nat.mul_lt_mul_of_pos_right (show (fFrac f a).toNat < (fFrac f b).toNat by omega) (Nat.two_pow_pos (128 - fPr f).toNat)
      omega
    · have := Nat.mul_le_mul_right (2 ^ (fPr f - 1).toNat) (show E' + 1 ≤ E from hE)
      rw [Nat.add_mul] at this
      omega
theorem order_eq (f : Int) (h : f < 4) (a b : BitVec 128) (e : fCut f a = fCut f b) (l : 0 ≤ f) : uE f a = uE f b ∧ uS f a = uS f b := by
  have hE : fExp f a = fExp f b := by unfold fExp; rw [e]
  have hb := f_bounds f l h
  have hF : fFrac f a = fFrac f b := by
    apply BitVec.eq_of_toNat_eq
    have e' := congrArg BitVec.toNat e
    rw [cut_nat f l h, cut_nat f l h] at e'
    rw [frac_nat f l h, frac_nat f l h]
    rcases f_four f l h with rfl | rfl | rfl | rfl
    all_goals
      simp [fWd, fPr] at e' ⊢
      omega
  have hC : cOf f a = cOf f b := by rw [cOf_fields f h, cOf_fields f h, hE, hF]
  unfold uE uS
  rw [hE, hF, hC]
  exact ⟨rfl, rfl⟩
/-- The three ways two such numbers lie: what the law compares. -/
theorem order_plain (f : Int) (l : 0 ≤ f) (h : f < 4) (a b : BitVec 128) (ha : cOf f a = 1 ∨ cOf f a = 2) (hb : cOf f b = 1 ∨ cOf f b = 2) (na : fNeg f a = false) (nb : fNeg f b = false) :
    (bCmp (fCut f a) (fCut f b) = -1 ∧ uE f a < uE f b) ∨ (bCmp (fCut f a) (fCut f b) = -1 ∧ uE f a = uE f b ∧ bCmp (uS f a) (uS f b) = -1 ∧ uS f a ≠ uS f b) ∨
    (bCmp (fCut f a) (fCut f b) = 0 ∧ uE f a = uE f b ∧ bCmp (uS f a) (uS f b) = 0 ∧ uS f a = uS f b) ∨
    (bCmp (fCut f a) (fCut f b) = 1 ∧ uE f b < uE f a) ∨ (bCmp (fCut f a) (fCut f b) = 1 ∧ uE f a = uE f b ∧ bCmp (uS f a) (uS f b) = 1 ∧ uS f a ≠ uS f b) := by
  rcases Nat.lt_trichotomy (fCut f a).toNat (fCut f b).toNat with hc | hc | hc
  · have e : bCmp (fCut f a) (fCut f b) = -1 := by rw [bcmp_nat, if_pos hc]
    rcases order_lt f l h a b ha hb na nb hc with hl | ⟨he, hs⟩
    · exact .inl ⟨e, hl⟩
    · exact .inr (.inl ⟨e, he, by rw [bcmp_nat, if_pos hs], fun x => by rw [x] at hs; omega⟩)
  · have e : bCmp (fCut f a) (fCut f b) = 0 := by rw [bcmp_nat, if_neg (by omega), if_neg (by omega)]
    obtain ⟨e1, e2⟩ := order_eq f h a b (BitVec.eq_of_toNat_eq hc) l
    exact .inr (.inr (.inl ⟨e, e1, by rw [bcmp_nat, e2, if_neg (by omega), if_neg (by omega)], e2⟩))
  · have e : bCmp (fCut f a) (fCut f b) = 1 := by rw [bcmp_nat, if_neg (by omega), if_pos hc]
    rcases order_lt f l h b a hb ha nb na hc with hl | ⟨he, hs⟩
    · exact .inr (.inr (.inr (.inl ⟨e, hl⟩)))
    · exact .inr (.inr (.inr (.inr ⟨e, he.symm, by rw [bcmp_nat, if_neg (by omega), if_pos hs], fun x => by rw [x] at hs; omega⟩)))
end Hb
end Go.Proofs.YtbkkidgeanogjaaDoor
