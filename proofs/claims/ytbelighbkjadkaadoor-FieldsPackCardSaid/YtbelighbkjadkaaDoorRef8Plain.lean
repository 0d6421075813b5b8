/-
  WHAT THE REFERENCE COMPUTES OF CLASSES, NUMBERS TAKEN APART, NaNs AND PAYLOADS, AND WHAT THE PROGRAM COMPUTES: the same. No program in sight. No conditions.
-/
import Derived.Test.YtbelighbkjadkaaDoorRef7Plain
import Derived.Test.YtbelighbkjadkaaDoorFieldsPlain
import Derived.Test.YtbelighbkjadkaaDoorPayPlain
namespace Go.Proofs.YtbelighbkjadkaaDoor
namespace Hb
theorem rcls (f : Int) (l : 0 ≤ f) (h : f < 4) (b : BitVec 128) :
    (fExp f b = 0 ∧ (fFrac f b).toNat = 0 ∧ cOf f b = 0) ∨ (fExp f b = 0 ∧ (fFrac f b).toNat ≠ 0 ∧ cOf f b = 1) ∨ (fExp f b ≠ 0 ∧ fExp f b ≠ 2 * fEm f + 1 ∧ cOf f b = 2) ∨
    (fExp f b = 2 * fEm f + 1 ∧ (fFrac f b).toNat = 0 ∧ cOf f b = 3) ∨ (fExp f b = 2 * fEm f + 1 ∧ (fFrac f b).toNat ≠ 0 ∧ 2 ^ (fPr f - 2).toNat ≤ (fFrac f b).toNat ∧ cOf f b = 4) ∨
    (fExp f b = 2 * fEm f + 1 ∧ (fFrac f b).toNat ≠ 0 ∧ (fFrac f b).toNat < 2 ^ (fPr f - 2).toNat ∧ cOf f b = 5) := by
  have hb := f_bounds f l h
  have h1 := cOf_fields f h b
  have h2 := exp_top f l h b
  have h3 := frac_lt f l h b
  have h4 : bBit (fFrac f b) (fPr f - 2) = decide (2 ^ (fPr f - 2).toNat ≤ (fFrac f b).toNat) := by
    rw [bit_nat _ _ (by omega)]
    generalize (fFrac f b).toNat = n at *
    clear h1 h2
    rw [Bool.eq_iff_iff, decide_eq_true_eq, decide_eq_true_eq]
    rcases f_four f l h with rfl | rfl | rfl | rfl
    all_goals
      simp [fPr] at h3 ⊢
      omega
  rw [h4] at h1
  by_cases a : fExp f b = 0
  · rw [if_pos a] at h1
    by_cases c : (fFrac f b).toNat = 0
    · rw [if_pos c] at h1; exact .inl ⟨a, c, h1⟩
    · rw [if_neg c] at h1; exact .inr (.inl ⟨a, c, h1⟩)
  rw [if_neg a] at h1
  by_cases d : fExp f b < 2 * fEm f + 1
  · rw [if_pos d] at h1; exact .inr (.inr (.inl ⟨a, by omega, h1⟩))
  rw [if_neg d] at h1
  by_cases c : (fFrac f b).toNat = 0
  · rw [if_pos c] at h1; exact .inr (.inr (.inr (.inl ⟨by omega, c, h1⟩)))
  rw [if_neg c] at h1
  by_cases g : 2 ^ (fPr f - 2).toNat ≤ (fFrac f b).toNat
  · rw [decide_eq_true g, if_pos rfl] at h1; exact .inr (.inr (.inr (.inr (.inl ⟨by omega, c, g, h1⟩))))
  · rw [decide_eq_false g, if_neg (by decide)] at h1; exact .inr (.inr (.inr (.inr (.inr ⟨by omega, c, by omega, h1⟩))))
theorem cls_nan (f : Int) (b : BitVec 128) : cNaN f b = (decide (cOf f b = 4) || decide (cOf f b = 5)) := by
  have := cOf_bounds f b
  unfold cNaN
  rw [Bool.eq_iff_iff]; simp only [Bool.or_eq_true, decide_eq_true_eq]; omega
theorem rquiet (f : Int) (l : 0 ≤ f) (h : f < 4) (b : BitVec 128) : (cSig f b = true → (fCut f b).toNat + 2 ^ (fPr f - 2).toNat = (nQ f b).toNat) ∧ (cSig f b = false → (fCut f b).toNat = (nQ f b).toNat) := by
  have := quietN f l h b
  rw [cut_nat f l h]
  refine ⟨fun hs => ?_, fun hs => ?_⟩
  · rw [hs, if_pos rfl] at this; exact this.symm
  · rw [hs, if_neg (by decide)] at this; exact this.symm
theorem nbit_nat (f : Int) (l : 0 ≤ f) (h : f < 4) : (nBit f).toNat = 2 ^ (fPr f - 2).toNat := one_shl f l h
theorem rmove (g t : Int) (l : 0 ≤ g) (h : g < 4) (l' : 0 ≤ t) (h' : t < 4) (b T : BitVec 128) (hT : T.toNat = scN (fPr g).toNat (fPr t).toNat ((fFrac g b).toNat % 2 ^ (fPr g - 2).toNat) + 2 ^ (fPr t - 2).toNat) :
    fMake t (fNeg g b) (2 * fEm t + 1) T = mvB g t b := by
  have hb := f_bounds t l' h'
  have hs : (fFrac g b).toNat % 2 ^ (fPr g - 2).toNat = b.toNat % 2 ^ (fPr g - 2).toNat := by
    rw [frac_nat g l h]
    rcases f_four g l h with rfl | rfl | rfl | rfl
    all_goals
      simp [fPr]
      try omega
  rw [hs] at hT
  have hlt : scN (fPr g).toNat (fPr t).toNat (b.toNat % 2 ^ (fPr g - 2).toNat) < 2 ^ (fPr t - 2).toNat := by
    generalize b.toNat = n
    unfold scN
    rcases f_four g l h with rfl | rfl | rfl | rfl
    all_goals
      rcases f_four t l' h' with rfl | rfl | rfl | rfl
      all_goals
        simp [fPr]
        try omega
  have hm := make_nat t l' h' (fNeg g b) (2 * fEm t + 1).toNat (by rcases f_four t l' h' with rfl | rfl | rfl | rfl <;> decide) T
  rw [show (((2 * fEm t + 1).toNat : Nat) : Int) = 2 * fEm t + 1 by omega] at hm
  apply BitVec.eq_of_toNat_eq
  rw [hm, mv_nat g t l h l' h', hT, Nat.mod_eq_of_lt]
  · omega
  · have : 2 ^ (fPr t - 1).toNat = 2 ^ (fPr t - 2).toNat * 2 := by rw [← Nat.pow_succ]; congr 1; omega
    omega
theorem move_lt (g t : Int) (l : 0 ≤ g) (h : g < 4) (l' : 0 ≤ t) (h' : t < 4) (F : Nat) : scN (fPr g).toNat (fPr t).toNat (F % 2 ^ (fPr g - 2).toNat) + 2 ^ (fPr t - 2).toNat < 2 ^ 128 := by
  unfold scN
  rcases f_four g l h with rfl | rfl | rfl | rfl
  all_goals
    rcases f_four t l' h' with rfl | rfl | rfl | rfl
    all_goals
      simp [fPr]
      try omega
/-! ### A finite number: M times 2 to the power of E -/
def vM (f : Int) (b : BitVec 128) : Nat := if fExp f b = 0 then (fFrac f b).toNat else (fFrac f b).toNat + 2 ^ (fPr f - 1).toNat
def vE (f : Int) (b : BitVec 128) : Int := if fExp f b = 0 then 1 - fEm f - (fPr f - 1) else fExp f b - fEm f - (fPr f - 1)
theorem runpack (f : Int) (l : 0 ≤ f) (h : f < 4) (b : BitVec 128) (hc : cOf f b = 1 ∨ cOf f b = 2) :
    1 ≤ blen (vM f b) ∧ blen (vM f b) ≤ 113 ∧ vE f b + blen (vM f b) - 1 = uE f b ∧ vM f b * 2 ^ (128 - blen (vM f b)) = (uS f b).toNat := by
  have hb := f_bounds f l h
  have hx := exp_top f l h b
  rcases hc with hc | hc
  · obtain ⟨h1, h2, h3, h4, h5, h6, h7⟩ := unpack_sub f l h b hc
    have e1 : vM f b = (fFrac f b).toNat := by unfold vM; rw [if_pos h1]
    have e2 : vE f b = 1 - fEm f - (fPr f - 1) := by unfold vE; rw [if_pos h1]
    rw [e1, e2, h5, h6]
    exact ⟨h3, by omega, by omega, rfl⟩
  · obtain ⟨E, h1, h2, h3, h4, h5⟩ := unpack_normal f l h b hc
    have hlt := frac_lt f l h b
    have e1 : vM f b = (fFrac f b).toNat + 2 ^ (fPr f - 1).toNat := by unfold vM; rw [if_neg (by omega)]
    have e2 : vE f b = fExp f b - fEm f - (fPr f - 1) := by unfold vE; rw [if_neg (by omega)]
    have e3 : blen (vM f b) = (fPr f).toNat := by
      rw [e1, show (fPr f).toNat = (fPr f - 1).toNat + 1 by omega]
      exact blen_of (by omega) (by rw [Nat.pow_succ]; omega)
    rw [e3, e2, h4, h5, e1, h1]
    refine ⟨by omega, by omega, by omega, ?_⟩
    generalize (fFrac f b).toNat = n at *
    rcases f_four f l h with rfl | rfl | rfl | rfl
    all_goals
      simp [fPr] at hlt ⊢
      omega
theorem vM_lt (f : Int) (l : 0 ≤ f) (h : f < 4) (b : BitVec 128) : vM f b < 2 ^ 113 := by
  have hlt := frac_lt f l h b
  unfold vM
  generalize (fFrac f b).toNat = n at *
  rcases f_four f l h with rfl | rfl | rfl | rfl
  all_goals
    simp [fPr] at hlt ⊢
    split <;> omega
/-- What the reference's Pack accepts is what the program's accepts. -/
theorem rpack_ok (f : Int) (l : 0 ≤ f) (h : f < 4) (n : Bool) (c e : Int) (s : BitVec 128) (c3 : c ≤ 3) (n0 : c ≠ 0) (n3 : c ≠ 3) (h1 : e ≤ fEm f) (h2 : 2 - fEm f - fPr f ≤ e) :
    pOk f c e s = (decide (uE f (fMake f n (pFld f e) (bShr s (pOff f e))) = e) && decide (uS f (fMake f n (pFld f e) (bShr s (pOff f e))) = s)) ∧
    fNeg f (fMake f n (pFld f e) (bShr s (pOff f e))) = n ∧ (pOk f c e s = true → pB f n c e s = fMake f n (pFld f e) (bShr s (pOff f e))) := by
  have hb := f_bounds f l h
  have hpb : pOk f c e s = true → pB f n c e s = fMake f n (pFld f e) (bShr s (pOff f e)) := fun ok => by unfold pB; rw [if_pos ok, if_neg n0, if_neg n3]
  have hfld : ∃ E : Nat, pFld f e = (E : Int) ∧ E < 2 ^ (fWd f - fPr f).toNat ∧ ((E = 0 ∧ e + fEm f < 1) ∨ (1 ≤ E ∧ (E : Int) ≤ 2 * fEm f)) := by
    unfold pFld
    by_cases hn : e + fEm f < 1
    · rw [if_pos hn]; exact ⟨0, rfl, Nat.two_pow_pos _, .inl ⟨rfl, hn⟩⟩
    · rw [if_neg hn]
      refine ⟨(e + fEm f).toNat, by omega, ?_, .inr ⟨by omega, by omega⟩⟩
      rcases f_four f l h with rfl | rfl | rfl | rfl
      all_goals
        simp [fWd, fPr, fEm] at h1 ⊢
        omega
  obtain ⟨E, e1, e2, e3⟩ := hfld
  rw [e1] at hpb ⊢
  obtain ⟨p1, p2, p3⟩ := make_parts f l h n E e2 (bShr s (pOff f e))
  refine ⟨?_, p1, hpb⟩
  rw [Bool.eq_iff_iff]
  simp only [Bool.and_eq_true, decide_eq_true_eq]
  refine ⟨fun ok => ?_, fun ⟨q1, q2⟩ => ?_⟩
  · obtain ⟨_, _, _, u⟩ := unpack_pack f l h n c e s ok
    obtain ⟨u1, u2, _⟩ := u n0 n3
    rw [hpb ok] at u1 u2
    exact ⟨u1, u2⟩
  · have hcl := cOf_fields f h (fMake f n (E : Int) (bShr s (pOff f e)))
    rw [p2] at hcl
    have hc12 : cOf f (fMake f n (E : Int) (bShr s (pOff f e))) = 1 ∨ cOf f (fMake f n (E : Int) (bShr s (pOff f e))) = 2 := by
      rcases e3 with ⟨rfl, he⟩ | ⟨h3, h4⟩
      · rw [if_pos (show ((0 : Nat) : Int) = 0 from rfl)] at hcl
        by_cases hz : (fFrac f (fMake f n ((0 : Nat) : Int) (bShr s (pOff f e)))).toNat = 0
        · rw [if_pos hz] at hcl
          have := (u_other f _ (by omega) (by omega)).1.symm.trans q1
          omega
        · rw [if_neg hz] at hcl; exact .inl hcl
      · rw [if_neg (by omega), if_pos (by omega)] at hcl; exact .inr hcl
    have ok := (pack_unpack f l h (fMake f n (E : Int) (bShr s (pOff f e))) (by omega)).1
    rw [q1, q2] at ok
    have : pOk f c e s = pOk f (cOf f (fMake f n (E : Int) (bShr s (pOff f e)))) e s := by
      unfold pOk
      rw [decide_eq_true c3, decide_eq_false n0, decide_eq_false n3]
      rcases hc12 with hc | hc <;> rw [hc] <;> rfl
    rw [this]; exact ok
end Hb
end Go.Proofs.YtbelighbkjadkaaDoor
