/-
  THE PLAIN PART OF package fields: a number taken apart, and put together. No program in sight. No conditions.
-/
import Derived.Test.YtbkkidgeanogjaaDoorCountPlain
import Derived.Test.YtbkkidgeanogjaaDoorEdgesPlain
namespace Go.Proofs.YtbkkidgeanogjaaDoor
namespace Hb
/-- Exp and Sig, as Unpack tells them. -/
def uE (f : Int) (b : BitVec 128) : Int :=
  if cOf f b = 2 then fExp f b - fEm f else if cOf f b = 1 then 1 - fEm f + 128 - fPr f - bRby (fFrac f b) else 0
def uS (f : Int) (b : BitVec 128) : BitVec 128 :=
  if cOf f b = 2 then bAdd (bShl (fFrac f b) (128 - fPr f)) (mkB 9223372036854775808 0) else if cOf f b = 1 then bRaise (fFrac f b) else 0#128
/-- How far the significand goes down, and the exponent's field, as Pack reckons them. -/
def pOff (f e : Int) : Int := if e + fEm f < 1 then 128 - fPr f + 1 - (e + fEm f) else 128 - fPr f
def pFld (f e : Int) : Int := if e + fEm f < 1 then 0 else e + fEm f
def pOk (f c e : Int) (s : BitVec 128) : Bool :=
  decide (f < 4) && decide (c ≤ 3) && (decide (c = 0) || decide (c = 3) || (bBit s 127 && decide (e ≤ fEm f) && decide (2 - fEm f - fPr f ≤ e) && !(wLost (wOf s) (pOff f e))))
def pB (f : Int) (n : Bool) (c e : Int) (s : BitVec 128) : BitVec 128 :=
  if pOk f c e s = true then (if c = 0 then fNou f n else if c = 3 then fInf f n else fMake f n (pFld f e) (bShr s (pOff f e))) else 0#128

/-! ### The fields of what Make makes -/
theorem make_parts (f : Int) (l : 0 ≤ f) (h : f < 4) (neg : Bool) (e : Nat) (he : e < 2 ^ (fWd f - fPr f).toNat) (t : BitVec 128) :
    fNeg f (fMake f neg (e : Int) t) = neg ∧ fExp f (fMake f neg (e : Int) t) = (e : Int) ∧ (fFrac f (fMake f neg (e : Int) t)).toNat = t.toNat % 2 ^ (fPr f - 1).toNat := by
  have hm := make_nat f l h neg e he t
  rw [neg_nat f l h, exp_nat f l h, frac_nat f l h, hm]
  have ht := t.isLt
  generalize t.toNat = n at *
  clear hm
  cases neg
  all_goals
    rcases f_four f l h with rfl | rfl | rfl | rfl
    all_goals
      simp [fWd, fPr] at he ⊢
      omega
theorem bit127 (s : BitVec 128) : bBit s 127 = decide (2 ^ 127 ≤ s.toNat) := by
  rw [bit_nat _ _ (by decide)]
  have := s.isLt
  rw [Bool.eq_iff_iff, decide_eq_true_eq, decide_eq_true_eq]
  simp
  omega
theorem lost_of (s : BitVec 128) (k : Int) : wLost (wOf s) k = decide (s.toNat % 2 ^ k.toNat ≠ 0) := by rw [lost_nat, toNat_of]
theorem cOf_fields (f : Int) (h : f < 4) (b : BitVec 128) :
    cOf f b = if fExp f b = 0 then (if (fFrac f b).toNat = 0 then 0 else 1) else if fExp f b < 2 * fEm f + 1 then 2 else if (fFrac f b).toNat = 0 then 3 else if bBit (fFrac f b) (fPr f - 2) then 4 else 5 := by
  unfold cOf
  rw [if_pos h, zero_nat]
  simp only [decide_eq_true_eq]
theorem frac_lt (f : Int) (l : 0 ≤ f) (h : f < 4) (b : BitVec 128) : (fFrac f b).toNat < 2 ^ (fPr f - 1).toNat := by
  rw [frac_nat f l h]; exact Nat.mod_lt _ (Nat.two_pow_pos _)

/-! ### What is taken apart -/
theorem unpack_normal (f : Int) (l : 0 ≤ f) (h : f < 4) (b : BitVec 128) (hc : cOf f b = 2) :
    ∃ E : Nat, fExp f b = (E : Int) ∧ 1 ≤ E ∧ (E : Int) ≤ 2 * fEm f ∧ uE f b = (E : Int) - fEm f ∧ (uS f b).toNat = (fFrac f b).toNat * 2 ^ (128 - fPr f).toNat + 2 ^ 127 := by
  have hx := exp_lt f b l
  have hl := frac_lt f l h b
  have hs : uS f b = bAdd (bShl (fFrac f b) (128 - fPr f)) (mkB 9223372036854775808 0) := by unfold uS; rw [if_pos hc]
  have he : uE f b = fExp f b - fEm f := by unfold uE; rw [if_pos hc]
  have h1 : fExp f b ≠ 0 ∧ fExp f b < 2 * fEm f + 1 := by
    rw [cOf_fields f h] at hc
    by_cases a : fExp f b = 0
    · rw [if_pos a] at hc; split at hc <;> omega
    · refine ⟨a, Classical.byContradiction fun c => ?_⟩
      rw [if_neg a, if_neg c] at hc
      repeat' split at hc
      all_goals omega
  have hm : (mkB 9223372036854775808 0).toNat = 2 ^ 127 := by decide
  refine ⟨(fExp f b).toNat, by omega, by omega, by omega, by omega, ?_⟩
  rw [hs, toNat_add, toNat_shl, hm]
  generalize (fFrac f b).toNat = n at *
  rcases f_four f l h with rfl | rfl | rfl | rfl
  all_goals
    simp [fPr] at hl ⊢
    omega
theorem raise_nat (x : BitVec 128) (h : x.toNat ≠ 0) : bRby x = 128 - (blen x.toNat : Int) ∧ (bRaise x).toNat = x.toNat * 2 ^ (128 - blen x.toNat) ∧ 2 ^ 127 ≤ (bRaise x).toNat ∧ 1 ≤ blen x.toNat ∧ blen x.toNat ≤ 128 := by
  have h0 : ¬ bLen x = 0 := fun e => h ((bLen_zero x).1 e)
  have hb := bLen_bounds x
  have hp := blen_pos h
  have hlt := blen_lt x.toNat
  have hge := blen_ge h
  have e1 : bLen x = (blen x.toNat : Int) := rfl
  have e2 : (bRaise x).toNat = x.toNat * 2 ^ (128 - blen x.toNat) := by
    unfold bRaise
    rw [if_neg h0, toNat_shl, e1, show (128 - (blen x.toNat : Int)).toNat = 128 - blen x.toNat by omega]
    refine Nat.mod_eq_of_lt ?_
    have := Nat.mul_lt_mul_of_pos_right hlt (Nat.two_pow_pos (128 - blen x.toNat))
    rw [← Nat.pow_add, show blen x.toNat + (128 - blen x.toNat) = 128 by omega] at this
    exact this
  refine ⟨by unfold bRby; rw [if_neg h0, e1], e2, ?_, hp, by omega⟩
  rw [e2]
  have := Nat.mul_le_mul_right (2 ^ (128 - blen x.toNat)) hge
  rw [← Nat.pow_add, show blen x.toNat - 1 + (128 - blen x.toNat) = 127 by omega] at this
  exact this
theorem unpack_sub (f : Int) (l : 0 ≤ f) (h : f < 4) (b : BitVec 128) (hc : cOf f b = 1) :
    fExp f b = 0 ∧ (fFrac f b).toNat ≠ 0 ∧ 1 ≤ blen (fFrac f b).toNat ∧ (blen (fFrac f b).toNat : Int) ≤ fPr f - 1 ∧ uE f b = 1 - fEm f - fPr f + (blen (fFrac f b).toNat : Int) ∧
      (uS f b).toNat = (fFrac f b).toNat * 2 ^ (128 - blen (fFrac f b).toNat) ∧ 2 ^ 127 ≤ (uS f b).toNat := by
  have hb := f_bounds f l h
  have hl := frac_lt f l h b
  have h1 : fExp f b = 0 ∧ (fFrac f b).toNat ≠ 0 := by
    rw [cOf_fields f h] at hc
    by_cases a : fExp f b = 0
    · rw [if_pos a] at hc
      refine ⟨a, fun c => ?_⟩
      rw [if_pos c] at hc; omega
    · rw [if_neg a] at hc
      repeat' split at hc
      all_goals omega
  obtain ⟨r1, r2, r3, r4, r5⟩ := raise_nat _ h1.2
  have hs : uS f b = bRaise (fFrac f b) := by unfold uS; rw [if_neg (by omega), if_pos hc]
  have he : uE f b = 1 - fEm f + 128 - fPr f - bRby (fFrac f b) := by unfold uE; rw [if_neg (by omega), if_pos hc]
  have hle := (blen_le (fFrac f b).toNat (fPr f - 1).toNat).2 hl
  refine ⟨h1.1, h1.2, r4, by omega, by omega, by rw [hs, r2], by rw [hs]; exact r3⟩
theorem unpack_zero (f : Int) (h : f < 4) (b : BitVec 128) (hc : cOf f b = 0) : fExp f b = 0 ∧ fFrac f b = 0#128 := by
  rw [cOf_fields f h] at hc
  by_cases a : fExp f b = 0
  · rw [if_pos a] at hc
    refine ⟨a, BitVec.eq_of_toNat_eq (Classical.byContradiction fun c => ?_)⟩
    have c' : ¬ (fFrac f b).toNat = 0 := c
    rw [if_neg c'] at hc; omega
  · rw [if_neg a] at hc
    repeat' split at hc
    all_goals omega
theorem exp_top (f : Int) (l : 0 ≤ f) (h : f < 4) (b : BitVec 128) : fExp f b ≤ 2 * fEm f + 1 := by
  rw [exp_nat f l h]
  have := Nat.mod_lt (b.toNat % 2 ^ (fWd f).toNat / 2 ^ (fPr f - 1).toNat) (Nat.two_pow_pos (fWd f - fPr f).toNat)
  generalize b.toNat % 2 ^ (fWd f).toNat / 2 ^ (fPr f - 1).toNat % 2 ^ (fWd f - fPr f).toNat = m at *
  rcases f_four f l h with rfl | rfl | rfl | rfl
  all_goals
    simp [fWd, fPr] at this
    simp [fEm]
    omega
theorem unpack_inf (f : Int) (l : 0 ≤ f) (h : f < 4) (b : BitVec 128) (hc : cOf f b = 3) : fExp f b = 2 * fEm f + 1 ∧ fFrac f b = 0#128 := by
  have ht := exp_top f l h b
  rw [cOf_fields f h] at hc
  by_cases a : fExp f b = 0
  · rw [if_pos a] at hc; split at hc <;> omega
  · rw [if_neg a] at hc
    by_cases c : fExp f b < 2 * fEm f + 1
    · rw [if_pos c] at hc; omega
    · rw [if_neg c] at hc
      refine ⟨by omega, BitVec.eq_of_toNat_eq (Classical.byContradiction fun d => ?_)⟩
      have d' : ¬ (fFrac f b).toNat = 0 := d
      rw [if_neg d'] at hc
      split at hc <;> omega
theorem u_other (f : Int) (b : BitVec 128) (h2 : cOf f b ≠ 2) (h1 : cOf f b ≠ 1) : uE f b = 0 ∧ uS f b = 0#128 := by
  unfold uE uS; rw [if_neg h2, if_neg h1, if_neg h2, if_neg h1]; exact ⟨rfl, rfl⟩

/-! ### To and fro -/
theorem sub_div {q k s : Nat} (e : s = q * 2 ^ k) : s % 2 ^ k = 0 ∧ s / 2 ^ k = q := by
  subst e; exact ⟨Nat.mul_mod_left _ _, Nat.mul_div_cancel _ (Nat.two_pow_pos k)⟩
theorem pok_fin (f c e : Int) (s : BitVec 128) (h : f < 4) (c3 : c ≤ 3) (h1 : 2 ^ 127 ≤ s.toNat) (h2 : e ≤ fEm f) (h3 : 2 - fEm f - fPr f ≤ e) (h4 : s.toNat % 2 ^ (pOff f e).toNat = 0) : pOk f c e s = true := by
  unfold pOk
  rw [bit127, lost_of, decide_eq_true h, decide_eq_true c3, decide_eq_true h1, decide_eq_true h2, decide_eq_true h3, h4]
  simp
theorem pack_unpack (f : Int) (l : 0 ≤ f) (h : f < 4) (b : BitVec 128) (hc : cOf f b ≤ 3) : pOk f (cOf f b) (uE f b) (uS f b) = true ∧ pB f (fNeg f b) (cOf f b) (uE f b) (uS f b) = fCut f b := by
  have hb := f_bounds f l h
  have hcb := cOf_bounds f b
  have hm := back_make f l h b
  by_cases c0 : cOf f b = 0
  · obtain ⟨h1, h2⟩ := unpack_zero f h b c0
    have ok : pOk f (cOf f b) (uE f b) (uS f b) = true := by unfold pOk; rw [c0, decide_eq_true h]; rfl
    refine ⟨ok, ?_⟩
    unfold pB; rw [if_pos ok, if_pos c0]
    rw [h1, h2] at hm
    exact hm
  by_cases c3 : cOf f b = 3
  · obtain ⟨h1, h2⟩ := unpack_inf f l h b c3
    have ok : pOk f (cOf f b) (uE f b) (uS f b) = true := by unfold pOk; rw [c3, decide_eq_true h]; rfl
    refine ⟨ok, ?_⟩
    unfold pB; rw [if_pos ok, if_neg c0, if_pos c3]
    rw [h1, h2] at hm
    exact hm
  by_cases c2 : cOf f b = 2
  · obtain ⟨E, e1, e2, e3, e4, e5⟩ := unpack_normal f l h b c2
    have hlt := frac_lt f l h b
    have o1 : pOff f (uE f b) = 128 - fPr f := by unfold pOff; rw [if_neg (by omega)]
    have o2 : pFld f (uE f b) = (E : Int) := by unfold pFld; rw [if_neg (by omega)]; omega
    have hdm : (uS f b).toNat % 2 ^ (128 - fPr f).toNat = 0 ∧ (uS f b).toNat / 2 ^ (128 - fPr f).toNat % 2 ^ (fPr f - 1).toNat = (fFrac f b).toNat := by
      rw [e5]
      generalize (fFrac f b).toNat = n at *
      rcases f_four f l h with rfl | rfl | rfl | rfl
      all_goals
        simp [fPr] at hlt ⊢
        omega
    have ok : pOk f (cOf f b) (uE f b) (uS f b) = true := pok_fin _ _ _ _ h hc (by rw [e5]; omega) (by omega) (by omega) (by rw [o1]; exact hdm.1)
    refine ⟨ok, ?_⟩
    have hE : E < 2 ^ (fWd f - fPr f).toNat := by
      rcases f_four f l h with rfl | rfl | rfl | rfl
      all_goals
        simp [fWd, fPr, fEm] at e3 ⊢
        omega
    unfold pB; rw [if_pos ok, if_neg c0, if_neg c3, o1, o2]
    rw [← hm, e1]
    apply BitVec.eq_of_toNat_eq
    rw [make_nat f l h _ _ hE, make_nat f l h _ _ hE, toNat_shr, hdm.2, Nat.mod_eq_of_lt hlt]
  · have c1 : cOf f b = 1 := by omega
    obtain ⟨e1, e2, e3, e4, e5, e6, e7⟩ := unpack_sub f l h b c1
    have o1 : pOff f (uE f b) = 128 - (blen (fFrac f b).toNat : Int) := by unfold pOff; rw [if_pos (by omega)]; omega
    have o2 : pFld f (uE f b) = 0 := by unfold pFld; rw [if_pos (by omega)]
    have hk : (128 - (blen (fFrac f b).toNat : Int)).toNat = 128 - blen (fFrac f b).toNat := by omega
    have hdm := sub_div e6
    have ok : pOk f (cOf f b) (uE f b) (uS f b) = true := pok_fin _ _ _ _ h hc e7 (by omega) (by omega) (by rw [o1, hk]; exact hdm.1)
    refine ⟨ok, ?_⟩
    unfold pB; rw [if_pos ok, if_neg c0, if_neg c3, o1, o2]
    rw [← hm, e1]
    congr 1
    apply BitVec.eq_of_toNat_eq
    rw [toNat_shr, hk, hdm.2]
theorem pok_parts {f c e : Int} {s : BitVec 128} (ok : pOk f c e s = true) (n0 : c ≠ 0) (n3 : c ≠ 3) : 2 ^ 127 ≤ s.toNat ∧ e ≤ fEm f ∧ 2 - fEm f - fPr f ≤ e ∧ s.toNat % 2 ^ (pOff f e).toNat = 0 := by
  unfold pOk at ok
  rw [bit127, lost_of, decide_eq_false n0, decide_eq_false n3] at ok
  simp at ok
  obtain ⟨_, ⟨⟨h1, h2⟩, h3⟩, h4⟩ := ok
  exact ⟨h1, h2, by omega, h4⟩
theorem unpack_pack (f : Int) (l : 0 ≤ f) (h : f < 4) (n : Bool) (c e : Int) (s : BitVec 128) (ok : pOk f c e s = true) :
    fNeg f (pB f n c e s) = n ∧ (c = 0 → cOf f (pB f n c e s) = 0) ∧ (c = 3 → cOf f (pB f n c e s) = 3) ∧
    (c ≠ 0 → c ≠ 3 → uE f (pB f n c e s) = e ∧ uS f (pB f n c e s) = s ∧ cOf f (pB f n c e s) = if e + fEm f < 1 then 1 else 2) := by
  have hb := f_bounds f l h
  have hd : pB f n c e s = (if c = 0 then fNou f n else if c = 3 then fInf f n else fMake f n (pFld f e) (bShr s (pOff f e))) := by unfold pB; rw [if_pos ok]
  rw [hd]
  by_cases c0 : c = 0
  · rw [if_pos c0]
    refine ⟨?_, fun _ => ?_, fun h3 => by omega, fun hn => absurd c0 hn⟩
    · clear hd ok
      rcases f_four f l h with rfl | rfl | rfl | rfl <;> cases n <;> decide +kernel
    · clear hd ok
      rcases f_four f l h with rfl | rfl | rfl | rfl <;> cases n <;> decide +kernel
  rw [if_neg c0]
  by_cases c3 : c = 3
  · rw [if_pos c3]
    refine ⟨?_, fun h0 => absurd h0 c0, fun _ => ?_, fun _ hn => absurd c3 hn⟩
    · clear hd ok
      rcases f_four f l h with rfl | rfl | rfl | rfl <;> cases n <;> decide +kernel
    · clear hd ok
      rcases f_four f l h with rfl | rfl | rfl | rfl <;> cases n <;> decide +kernel
  rw [if_neg c3]
  obtain ⟨h1, h2, h3, h4⟩ := pok_parts ok c0 c3
  have hs := s.isLt
  clear hd ok
  by_cases hn : e + fEm f < 1
  · have o2 : pFld f e = ((0 : Nat) : Int) := by unfold pFld; rw [if_pos hn]; rfl
    obtain ⟨L, hL⟩ : ∃ L : Nat, (L : Int) = fPr f - 1 + (e + fEm f) := ⟨(fPr f - 1 + (e + fEm f)).toNat, by omega⟩
    have o1 : pOff f e = 128 - (L : Int) := by unfold pOff; rw [if_pos hn]; omega
    have hk : (128 - (L : Int)).toNat = 128 - L := by omega
    rw [o1, hk] at h4
    rw [o1, o2]
    obtain ⟨p1, p2, p3⟩ := make_parts f l h n 0 (Nat.two_pow_pos _) (bShr s (128 - (L : Int)))
    have hq : s.toNat = s.toNat / 2 ^ (128 - L) * 2 ^ (128 - L) := by
      have := Nat.div_add_mod s.toNat (2 ^ (128 - L))
      rw [h4, Nat.add_zero, Nat.mul_comm] at this
      exact this.symm
    rw [toNat_shr, hk] at p3
    obtain ⟨q, hqd⟩ : ∃ q, s.toNat / 2 ^ (128 - L) = q := ⟨_, rfl⟩
    rw [hqd] at p3 hq
    have q1 : 2 ^ (L - 1) ≤ q := by
      refine Nat.le_of_not_lt fun hlt => ?_
      have := Nat.mul_lt_mul_of_pos_right hlt (Nat.two_pow_pos (128 - L))
      rw [← Nat.pow_add, show L - 1 + (128 - L) = 127 by omega] at this
      omega
    have q2 : q < 2 ^ L := by
      refine Nat.lt_of_not_le fun hle => ?_
      have := Nat.mul_le_mul_right (2 ^ (128 - L)) hle
      rw [← Nat.pow_add, show L + (128 - L) = 128 by omega] at this
      omega
    have q3 : 2 ^ L ≤ 2 ^ (fPr f - 1).toNat := Nat.pow_le_pow_right (by decide) (by omega)
    have q0 : q ≠ 0 := by have := Nat.two_pow_pos (L - 1); omega
    have hbl : blen q = L := by
      obtain ⟨j, rfl⟩ : ∃ j, L = j + 1 := ⟨L - 1, by omega⟩
      exact blen_of q1 q2
    rw [Nat.mod_eq_of_lt (by omega)] at p3
    have hcl : cOf f (fMake f n ((0 : Nat) : Int) (bShr s (128 - (L : Int)))) = 1 := by
      rw [cOf_fields f h, p2, if_pos (show ((0 : Nat) : Int) = 0 from rfl), p3, if_neg q0]
    obtain ⟨r1, r2, r3, r4, r5⟩ := raise_nat (fFrac f (fMake f n ((0 : Nat) : Int) (bShr s (128 - (L : Int))))) (by rw [p3]; exact q0)
    refine ⟨p1, fun h0 => absurd h0 c0, fun h0 => absurd h0 c3, fun _ _ => ⟨?_, ?_, ?_⟩⟩
    · unfold uE; rw [hcl, if_neg (by decide), if_pos rfl, r1, p3, hbl]; omega
    · unfold uS; rw [hcl, if_neg (by decide), if_pos rfl]
      apply BitVec.eq_of_toNat_eq
      rw [r2, p3, hbl, ← hq]
    · rw [hcl, if_pos hn]
  · have o2 : pFld f e = (((e + fEm f).toNat : Nat) : Int) := by unfold pFld; rw [if_neg hn]; omega
    have o1 : pOff f e = 128 - fPr f := by unfold pOff; rw [if_neg hn]
    rw [o1] at h4
    rw [o1, o2]
    have hE : (e + fEm f).toNat < 2 ^ (fWd f - fPr f).toNat := by
      rcases f_four f l h with rfl | rfl | rfl | rfl
      all_goals
        simp [fWd, fPr, fEm] at h2 ⊢
        omega
    obtain ⟨p1, p2, p3⟩ := make_parts f l h n _ hE (bShr s (128 - fPr f))
    have hcl : cOf f (fMake f n (((e + fEm f).toNat : Nat) : Int) (bShr s (128 - fPr f))) = 2 := by
      rw [cOf_fields f h, p2, if_neg (by omega), if_pos (by omega)]
    obtain ⟨E, e1, e2, e3, e4, e5⟩ := unpack_normal f l h _ hcl
    refine ⟨p1, fun h0 => absurd h0 c0, fun h0 => absurd h0 c3, fun _ _ => ⟨?_, ?_, ?_⟩⟩
    · rw [e4, ← e1, p2]; omega
    · apply BitVec.eq_of_toNat_eq
      rw [e5, p3, toNat_shr]
      generalize s.toNat = m at *
      rcases f_four f l h with rfl | rfl | rfl | rfl
      all_goals
        simp [fPr] at h4 ⊢
        omega
    · rw [hcl, if_neg hn]
end Hb
end Go.Proofs.YtbkkidgeanogjaaDoor
