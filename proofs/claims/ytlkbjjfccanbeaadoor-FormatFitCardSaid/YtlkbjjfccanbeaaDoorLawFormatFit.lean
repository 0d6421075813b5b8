/-
  THE WALK of the law FormatFit. Conditions: the table of the formats holds its numbers.
-/
import Derived.Test.YtlkbjjfccanbeaaDoorGoes
namespace Go.Proofs.YtlkbjjfccanbeaaDoor
open Go.RowKit
namespace Hb
theorem fit_exp (f : Int) (l : 0 ≤ f) (h : f < 4) (b : BitVec 128) : fExp f b ≤ 2 * fEm f + 1 := by
  have hb := f_bounds f l h
  unfold fExp; rw [if_pos h]
  have e := toNat_low (bShr (fCut f b) (fPr f - 1)) (fWd f - fPr f) (by omega) (by omega)
  have hl : (fLow (bShr (fCut f b) (fPr f - 1)) (fWd f - fPr f)).toNat < 2 ^ (fWd f - fPr f).toNat := by rw [e]; exact Nat.mod_lt _ (Nat.two_pow_pos _)
  have hp : (2 : Nat) ^ (fWd f - fPr f).toNat = (2 * fEm f + 2).toNat := by rcases f_four f l h with rfl | rfl | rfl | rfl <;> decide
  rw [hp] at hl
  unfold loB; omega
theorem fit_frac (f : Int) (l : 0 ≤ f) (h : f < 4) (b : BitVec 128) : bCmp (fFrac f b) (bShl (mkB 0 1) (fPr f - 1)) = -1 := by
  have hb := f_bounds f l h
  have e := toNat_low b (fPr f - 1) (by omega) (by omega)
  have hp : (bShl (mkB 0 1) (fPr f - 1)).toNat = 2 ^ (fPr f - 1).toNat := by rcases f_four f l h with rfl | rfl | rfl | rfl <;> decide +kernel
  have hl : (fLow b (fPr f - 1)).toNat < (bShl (mkB 0 1) (fPr f - 1)).toNat := by rw [e, hp]; exact Nat.mod_lt _ (Nat.two_pow_pos _)
  unfold bCmp cmpI fFrac
  rw [if_pos h, if_pos (by omega)]
set_option maxHeartbeats 4000000 in
theorem fit_0 (b : BitVec 128) (w : World) (hT : Tab w) :
    Calls Tryd.prog 8 #[.int .u8 0, Bv b] w fun e w' => e = .returned (.bool true) ∧ Gr w w' := by
  have hE0 := (exp_lt 0 b (by decide)).1
  have hE1 : fExp 0 b ≤ 31 := fit_exp 0 (by decide) (by decide) b
  have A4 : bCmp (fFrac 0 b) (bShl (mkB 0 1) 10) = -1 := fit_frac 0 (by decide) (by decide) b
  have W0 : Word 0 := ⟨by decide, by decide⟩
  have W1 : Word 1 := ⟨by decide, by decide⟩
  obtain ⟨E, hE⟩ : ∃ E, fExp 0 b = E := ⟨_, rfl⟩
  obtain ⟨F, hF⟩ : ∃ F, fFrac 0 b = F := ⟨_, rfl⟩
  obtain ⟨S, hS⟩ : ∃ S, bShl (mkB 0 1) 10 = S := ⟨_, rfl⟩
  obtain ⟨N, hN⟩ : ∃ N, fNeg 0 b = N := ⟨_, rfl⟩
  have qP : fPr 0 = 11 := by rfl
  have qE : fEm 0 = 15 := by rfl
  have qW : fWd 0 = 16 := by rfl
  have h5 : IntKind.i64.wrap 5 = 5 := by decide
  have h10 : IntKind.i64.wrap 10 = 10 := by decide
  have h30 : IntKind.i64.wrap 30 = 30 := by decide
  have h31 : IntKind.i64.wrap 31 = 31 := by decide
  have h32 : IntKind.i64.wrap 32 = 32 := by decide
  rw [hE] at hE0 hE1
  rw [hF, hS] at A4
  simp only [Bv]
  go_enter Tryd.func8, Tryd.ntmps8
  go_wp2_with (first
    | (go_at_call 20; refine (known_yes _ (by decide) (by decide) _).mono ?_; rintro e w0 ⟨rfl, rfl⟩)
    | (go_at_call 10; refine (split_any 0 (by decide) (by decide) b _ (hT.below (by (repeat (first | exact Below.refl _ _ | assumption | apply Below.drew | apply below_drewN | refine Below.alloc ?_ (by first | omega | (simp <;> omega)) _ | refine Below.setCell ?_ (by first | omega | (simp <;> omega)) _ | refine Below.trans ?_ (Below.mono (by assumption) (by first | omega | (simp <;> omega)))))))).mono ?_; rintro e w1 ⟨rfl, hb1⟩; rw [hE, hF, hN]; (try (with_reducible replace hb1 := undrew hb1)); obtain ⟨hc1, hf1⟩ := bcell hb1; have hs1 := hb1.size; (try simp at hs1); have z1_0 : w.heap.size < w1.heap.size := (by omega))
    | (go_at_call 17; refine (prec_any 0 (by decide) (by decide) _ (hT.below (by (repeat (first | exact Below.refl _ _ | assumption | apply Below.drew | apply below_drewN | refine Below.alloc ?_ (by first | omega | (simp <;> omega)) _ | refine Below.setCell ?_ (by first | omega | (simp <;> omega)) _ | refine Below.trans ?_ (Below.mono (by assumption) (by first | omega | (simp <;> omega)))))))).mono ?_; rintro e w2 ⟨rfl, hb2⟩; rw [qP]; (try (with_reducible replace hb2 := undrew hb2)); obtain ⟨hc2, hf2⟩ := bcell hb2; have hs2 := hb2.size; (try simp at hs2); have z2_0 : w.heap.size < w2.heap.size := (by omega); have y2_0 : w.heap.size < w2.heap.size := (by omega); have v2_0 : w.heap.size < w2.heap.size + 1 := (by omega); have y2_1 : w1.heap.size < w2.heap.size := (by omega); have v2_1 : w1.heap.size < w2.heap.size + 1 := (by omega)))
  go_region_held3 (fun w' => w'.cell? ⟨w1.heap.size, 0, none⟩ = some (.int .u64 (hiB F)) ∧ w'.cell? ⟨w1.heap.size, 1, none⟩ = some (.int .u64 (loB F)))
    (simp [go_sem, *])
    (first
      | (go_at_call 18; refine (emax_any 0 (by decide) (by decide) _ (hT.below (by (repeat (first | exact Below.refl _ _ | assumption | apply Below.drew | apply below_drewN | refine Below.alloc ?_ (by first | omega | (simp <;> omega)) _ | refine Below.setCell ?_ (by first | omega | (simp <;> omega)) _ | refine Below.trans ?_ (Below.mono (by assumption) (by first | omega | (simp <;> omega)))))))).mono ?_; rintro e w3 ⟨rfl, hb3⟩; rw [qE]; (try (with_reducible replace hb3 := undrew hb3)); obtain ⟨hc3, hf3⟩ := bcell hb3; have hs3 := hb3.size; (try simp at hs3); have z3_0 : w.heap.size < w3.heap.size := (by omega); have y3_0 : w.heap.size < w3.heap.size := (by omega); have v3_0 : w.heap.size < w3.heap.size + 1 := (by omega); have y3_1 : w1.heap.size < w3.heap.size := (by omega); have v3_1 : w1.heap.size < w3.heap.size + 1 := (by omega))
      | (go_at_call 23; refine (left_hl _ _ W0 W1 _ _).mono ?_; rintro e w4 ⟨rfl, hb4⟩; rw [hS]; (try (with_reducible replace hb4 := undrew hb4)); obtain ⟨hc4, hf4⟩ := bcell hb4; have hs4 := hb4.size; (try simp at hs4); have z4_0 : w.heap.size < w4.heap.size := (by omega); have y4_0 : w.heap.size < w4.heap.size := (by omega); have v4_0 : w.heap.size < w4.heap.size + 1 := (by omega); have y4_1 : w1.heap.size < w4.heap.size := (by omega); have v4_1 : w1.heap.size < w4.heap.size + 1 := (by omega))
      | (go_at_call 34; refine (cmp_any F S _).mono ?_; rintro e w5 ⟨rfl, hb5⟩; rw [A4]; (try (with_reducible replace hb5 := undrew hb5)); obtain ⟨hc5, hf5⟩ := bcell hb5; have hs5 := hb5.size; (try simp at hs5); have z5_0 : w.heap.size < w5.heap.size := (by omega); have y5_0 : w.heap.size < w5.heap.size := (by omega); have v5_0 : w.heap.size < w5.heap.size + 1 := (by omega); have y5_1 : w1.heap.size < w5.heap.size := (by omega); have v5_1 : w1.heap.size < w5.heap.size + 1 := (by omega))
      | (go_at_call 19; refine (width_any 0 (by decide) (by decide) _ (hT.below (by (repeat (first | exact Below.refl _ _ | assumption | apply Below.drew | apply below_drewN | refine Below.alloc ?_ (by first | omega | (simp <;> omega)) _ | refine Below.setCell ?_ (by first | omega | (simp <;> omega)) _ | refine Below.trans ?_ (Below.mono (by assumption) (by first | omega | (simp <;> omega)))))))).mono ?_; rintro e w6 ⟨rfl, hb6⟩; rw [qW]; (try (with_reducible replace hb6 := undrew hb6)); obtain ⟨hc6, hf6⟩ := bcell hb6; have hs6 := hb6.size; (try simp at hs6); have z6_0 : w.heap.size < w6.heap.size := (by omega); have y6_0 : w.heap.size < w6.heap.size := (by omega); have v6_0 : w.heap.size < w6.heap.size + 1 := (by omega); have y6_1 : w1.heap.size < w6.heap.size := (by omega); have v6_1 : w1.heap.size < w6.heap.size + 1 := (by omega))
      | (go_at_call 16; refine (goes_any _ (hT.below (by (repeat (first | exact Below.refl _ _ | assumption | apply Below.drew | apply below_drewN | refine Below.alloc ?_ (by first | omega | (simp <;> omega)) _ | refine Below.setCell ?_ (by first | omega | (simp <;> omega)) _ | refine Below.trans ?_ (Below.mono (by assumption) (by first | omega | (simp <;> omega)))))))).mono ?_; rintro e w7 ⟨rfl, hb7⟩; (try (with_reducible replace hb7 := undrew hb7)); obtain ⟨hc7, hf7⟩ := bcell hb7; have hs7 := hb7.size; (try simp at hs7); have z7_0 : w.heap.size < w7.heap.size := (by omega); have y7_0 : w.heap.size < w7.heap.size := (by omega); have v7_0 : w.heap.size < w7.heap.size + 1 := (by omega); have y7_1 : w1.heap.size < w7.heap.size := (by omega); have v7_1 : w1.heap.size < w7.heap.size + 1 := (by omega)))
  go_wp2
  go_ret
  exact ⟨rfl, by (repeat (first | exact Below.refl _ _ | assumption | apply Below.drew | apply below_drewN | refine Below.alloc ?_ (by first | omega | (simp <;> omega)) _ | refine Below.setCell ?_ (by first | omega | (simp <;> omega)) _ | refine Below.trans ?_ (Below.mono (by assumption) (by first | omega | (simp <;> omega)))))⟩
set_option maxHeartbeats 4000000 in
theorem fit_1 (b : BitVec 128) (w : World) (hT : Tab w) :
    Calls Tryd.prog 8 #[.int .u8 1, Bv b] w fun e w' => e = .returned (.bool true) ∧ Gr w w' := by
  have hE0 := (exp_lt 1 b (by decide)).1
  have hE1 : fExp 1 b ≤ 255 := fit_exp 1 (by decide) (by decide) b
  have A4 : bCmp (fFrac 1 b) (bShl (mkB 0 1) 23) = -1 := fit_frac 1 (by decide) (by decide) b
  have W0 : Word 0 := ⟨by decide, by decide⟩
  have W1 : Word 1 := ⟨by decide, by decide⟩
  obtain ⟨E, hE⟩ : ∃ E, fExp 1 b = E := ⟨_, rfl⟩
  obtain ⟨F, hF⟩ : ∃ F, fFrac 1 b = F := ⟨_, rfl⟩
  obtain ⟨S, hS⟩ : ∃ S, bShl (mkB 0 1) 23 = S := ⟨_, rfl⟩
  obtain ⟨N, hN⟩ : ∃ N, fNeg 1 b = N := ⟨_, rfl⟩
  have qP : fPr 1 = 24 := by rfl
  have qE : fEm 1 = 127 := by rfl
  have qW : fWd 1 = 32 := by rfl
  have h8 : IntKind.i64.wrap 8 = 8 := by decide
  have h23 : IntKind.i64.wrap 23 = 23 := by decide
  have h254 : IntKind.i64.wrap 254 = 254 := by decide
  have h255 : IntKind.i64.wrap 255 = 255 := by decide
  have h256 : IntKind.i64.wrap 256 = 256 := by decide
  rw [hE] at hE0 hE1
  rw [hF, hS] at A4
  simp only [Bv]
  go_enter Tryd.func8, Tryd.ntmps8
  go_wp2_with (first
    | (go_at_call 20; refine (known_yes _ (by decide) (by decide) _).mono ?_; rintro e w0 ⟨rfl, rfl⟩)
    | (go_at_call 10; refine (split_any 1 (by decide) (by decide) b _ (hT.below (by (repeat (first | exact Below.refl _ _ | assumption | apply Below.drew | apply below_drewN | refine Below.alloc ?_ (by first | omega | (simp <;> omega)) _ | refine Below.setCell ?_ (by first | omega | (simp <;> omega)) _ | refine Below.trans ?_ (Below.mono (by assumption) (by first | omega | (simp <;> omega)))))))).mono ?_; rintro e w1 ⟨rfl, hb1⟩; rw [hE, hF, hN]; (try (with_reducible replace hb1 := undrew hb1)); obtain ⟨hc1, hf1⟩ := bcell hb1; have hs1 := hb1.size; (try simp at hs1); have z1_0 : w.heap.size < w1.heap.size := (by omega))
    | (go_at_call 17; refine (prec_any 1 (by decide) (by decide) _ (hT.below (by (repeat (first | exact Below.refl _ _ | assumption | apply Below.drew | apply below_drewN | refine Below.alloc ?_ (by first | omega | (simp <;> omega)) _ | refine Below.setCell ?_ (by first | omega | (simp <;> omega)) _ | refine Below.trans ?_ (Below.mono (by assumption) (by first | omega | (simp <;> omega)))))))).mono ?_; rintro e w2 ⟨rfl, hb2⟩; rw [qP]; (try (with_reducible replace hb2 := undrew hb2)); obtain ⟨hc2, hf2⟩ := bcell hb2; have hs2 := hb2.size; (try simp at hs2); have z2_0 : w.heap.size < w2.heap.size := (by omega); have y2_0 : w.heap.size < w2.heap.size := (by omega); have v2_0 : w.heap.size < w2.heap.size + 1 := (by omega); have y2_1 : w1.heap.size < w2.heap.size := (by omega); have v2_1 : w1.heap.size < w2.heap.size + 1 := (by omega)))
  go_region_held3 (fun w' => w'.cell? ⟨w1.heap.size, 0, none⟩ = some (.int .u64 (hiB F)) ∧ w'.cell? ⟨w1.heap.size, 1, none⟩ = some (.int .u64 (loB F)))
    (simp [go_sem, *])
    (first
      | (go_at_call 18; refine (emax_any 1 (by decide) (by decide) _ (hT.below (by (repeat (first | exact Below.refl _ _ | assumption | apply Below.drew | apply below_drewN | refine Below.alloc ?_ (by first | omega | (simp <;> omega)) _ | refine Below.setCell ?_ (by first | omega | (simp <;> omega)) _ | refine Below.trans ?_ (Below.mono (by assumption) (by first | omega | (simp <;> omega)))))))).mono ?_; rintro e w3 ⟨rfl, hb3⟩; rw [qE]; (try (with_reducible replace hb3 := undrew hb3)); obtain ⟨hc3, hf3⟩ := bcell hb3; have hs3 := hb3.size; (try simp at hs3); have z3_0 : w.heap.size < w3.heap.size := (by omega); have y3_0 : w.heap.size < w3.heap.size := (by omega); have v3_0 : w.heap.size < w3.heap.size + 1 := (by omega); have y3_1 : w1.heap.size < w3.heap.size := (by omega); have v3_1 : w1.heap.size < w3.heap.size + 1 := (by omega))
      | (go_at_call 23; refine (left_hl _ _ W0 W1 _ _).mono ?_; rintro e w4 ⟨rfl, hb4⟩; rw [hS]; (try (with_reducible replace hb4 := undrew hb4)); obtain ⟨hc4, hf4⟩ := bcell hb4; have hs4 := hb4.size; (try simp at hs4); have z4_0 : w.heap.size < w4.heap.size := (by omega); have y4_0 : w.heap.size < w4.heap.size := (by omega); have v4_0 : w.heap.size < w4.heap.size + 1 := (by omega); have y4_1 : w1.heap.size < w4.heap.size := (by omega); have v4_1 : w1.heap.size < w4.heap.size + 1 := (by omega))
      | (go_at_call 34; refine (cmp_any F S _).mono ?_; rintro e w5 ⟨rfl, hb5⟩; rw [A4]; (try (with_reducible replace hb5 := undrew hb5)); obtain ⟨hc5, hf5⟩ := bcell hb5; have hs5 := hb5.size; (try simp at hs5); have z5_0 : w.heap.size < w5.heap.size := (by omega); have y5_0 : w.heap.size < w5.heap.size := (by omega); have v5_0 : w.heap.size < w5.heap.size + 1 := (by omega); have y5_1 : w1.heap.size < w5.heap.size := (by omega); have v5_1 : w1.heap.size < w5.heap.size + 1 := (by omega))
      | (go_at_call 19; refine (width_any 1 (by decide) (by decide) _ (hT.below (by (repeat (first | exact Below.refl _ _ | assumption | apply Below.drew | apply below_drewN | refine Below.alloc ?_ (by first | omega | (simp <;> omega)) _ | refine Below.setCell ?_ (by first | omega | (simp <;> omega)) _ | refine Below.trans ?_ (Below.mono (by assumption) (by first | omega | (simp <;> omega)))))))).mono ?_; rintro e w6 ⟨rfl, hb6⟩; rw [qW]; (try (with_reducible replace hb6 := undrew hb6)); obtain ⟨hc6, hf6⟩ := bcell hb6; have hs6 := hb6.size; (try simp at hs6); have z6_0 : w.heap.size < w6.heap.size := (by omega); have y6_0 : w.heap.size < w6.heap.size := (by omega); have v6_0 : w.heap.size < w6.heap.size + 1 := (by omega); have y6_1 : w1.heap.size < w6.heap.size := (by omega); have v6_1 : w1.heap.size < w6.heap.size + 1 := (by omega))
      | (go_at_call 16; refine (goes_any _ (hT.below (by (repeat (first | exact Below.refl _ _ | assumption | apply Below.drew | apply below_drewN | refine Below.alloc ?_ (by first | omega | (simp <;> omega)) _ | refine Below.setCell ?_ (by first | omega | (simp <;> omega)) _ | refine Below.trans ?_ (Below.mono (by assumption) (by first | omega | (simp <;> omega)))))))).mono ?_; rintro e w7 ⟨rfl, hb7⟩; (try (with_reducible replace hb7 := undrew hb7)); obtain ⟨hc7, hf7⟩ := bcell hb7; have hs7 := hb7.size; (try simp at hs7); have z7_0 : w.heap.size < w7.heap.size := (by omega); have y7_0 : w.heap.size < w7.heap.size := (by omega); have v7_0 : w.heap.size < w7.heap.size + 1 := (by omega); have y7_1 : w1.heap.size < w7.heap.size := (by omega); have v7_1 : w1.heap.size < w7.heap.size + 1 := (by omega)))
  go_wp2
  go_ret
  exact ⟨rfl, by (repeat (first | exact Below.refl _ _ | assumption | apply Below.drew | apply below_drewN | refine Below.alloc ?_ (by first | omega | (simp <;> omega)) _ | refine Below.setCell ?_ (by first | omega | (simp <;> omega)) _ | refine Below.trans ?_ (Below.mono (by assumption) (by first | omega | (simp <;> omega)))))⟩
set_option maxHeartbeats 4000000 in
theorem fit_2 (b : BitVec 128) (w : World) (hT : Tab w) :
    Calls Tryd.prog 8 #[.int .u8 2, Bv b] w fun e w' => e = .returned (.bool true) ∧ Gr w w' := by
  have hE0 := (exp_lt 2 b (by decide)).1
  have hE1 : fExp 2 b ≤ 2047 := fit_exp 2 (by decide) (by decide) b
  have A4 : bCmp (fFrac 2 b) (bShl (mkB 0 1) 52) = -1 := fit_frac 2 (by decide) (by decide) b
  have W0 : Word 0 := ⟨by decide, by decide⟩
  have W1 : Word 1 := ⟨by decide, by decide⟩
  obtain ⟨E, hE⟩ : ∃ E, fExp 2 b = E := ⟨_, rfl⟩
  obtain ⟨F, hF⟩ : ∃ F, fFrac 2 b = F := ⟨_, rfl⟩
  obtain ⟨S, hS⟩ : ∃ S, bShl (mkB 0 1) 52 = S := ⟨_, rfl⟩
  obtain ⟨N, hN⟩ : ∃ N, fNeg 2 b = N := ⟨_, rfl⟩
  have qP : fPr 2 = 53 := by rfl
  have qE : fEm 2 = 1023 := by rfl
  have qW : fWd 2 = 64 := by rfl
  have h11 : IntKind.i64.wrap 11 = 11 := by decide
  have h52 : IntKind.i64.wrap 52 = 52 := by decide
  have h2046 : IntKind.i64.wrap 2046 = 2046 := by decide
  have h2047 : IntKind.i64.wrap 2047 = 2047 := by decide
  have h2048 : IntKind.i64.wrap 2048 = 2048 := by decide
  rw [hE] at hE0 hE1
  rw [hF, hS] at A4
  simp only [Bv]
  go_enter Tryd.func8, Tryd.ntmps8
  go_wp2_with (first
    | (go_at_call 20; refine (known_yes _ (by decide) (by decide) _).mono ?_; rintro e w0 ⟨rfl, rfl⟩)
    | (go_at_call 10; refine (split_any 2 (by decide) (by decide) b _ (hT.below (by (repeat (first | exact Below.refl _ _ | assumption | apply Below.drew | apply below_drewN | refine Below.alloc ?_ (by first | omega | (simp <;> omega)) _ | refine Below.setCell ?_ (by first | omega | (simp <;> omega)) _ | refine Below.trans ?_ (Below.mono (by assumption) (by first | omega | (simp <;> omega)))))))).mono ?_; rintro e w1 ⟨rfl, hb1⟩; rw [hE, hF, hN]; (try (with_reducible replace hb1 := undrew hb1)); obtain ⟨hc1, hf1⟩ := bcell hb1; have hs1 := hb1.size; (try simp at hs1); have z1_0 : w.heap.size < w1.heap.size := (by omega))
    | (go_at_call 17; refine (prec_any 2 (by decide) (by decide) _ (hT.below (by (repeat (first | exact Below.refl _ _ | assumption | apply Below.drew | apply below_drewN | refine Below.alloc ?_ (by first | omega | (simp <;> omega)) _ | refine Below.setCell ?_ (by first | omega | (simp <;> omega)) _ | refine Below.trans ?_ (Below.mono (by assumption) (by first | omega | (simp <;> omega)))))))).mono ?_; rintro e w2 ⟨rfl, hb2⟩; rw [qP]; (try (with_reducible replace hb2 := undrew hb2)); obtain ⟨hc2, hf2⟩ := bcell hb2; have hs2 := hb2.size; (try simp at hs2); have z2_0 : w.heap.size < w2.heap.size := (by omega); have y2_0 : w.heap.size < w2.heap.size := (by omega); have v2_0 : w.heap.size < w2.heap.size + 1 := (by omega); have y2_1 : w1.heap.size < w2.heap.size := (by omega); have v2_1 : w1.heap.size < w2.heap.size + 1 := (by omega)))
  go_region_held3 (fun w' => w'.cell? ⟨w1.heap.size, 0, none⟩ = some (.int .u64 (hiB F)) ∧ w'.cell? ⟨w1.heap.size, 1, none⟩ = some (.int .u64 (loB F)))
    (simp [go_sem, *])
    (first
      | (go_at_call 18; refine (emax_any 2 (by decide) (by decide) _ (hT.below (by (repeat (first | exact Below.refl _ _ | assumption | apply Below.drew | apply below_drewN | refine Below.alloc ?_ (by first | omega | (simp <;> omega)) _ | refine Below.setCell ?_ (by first | omega | (simp <;> omega)) _ | refine Below.trans ?_ (Below.mono (by assumption) (by first | omega | (simp <;> omega)))))))).mono ?_; rintro e w3 ⟨rfl, hb3⟩; rw [qE]; (try (with_reducible replace hb3 := undrew hb3)); obtain ⟨hc3, hf3⟩ := bcell hb3; have hs3 := hb3.size; (try simp at hs3); have z3_0 : w.heap.size < w3.heap.size := (by omega); have y3_0 : w.heap.size < w3.heap.size := (by omega); have v3_0 : w.heap.size < w3.heap.size + 1 := (by omega); have y3_1 : w1.heap.size < w3.heap.size := (by omega); have v3_1 : w1.heap.size < w3.heap.size + 1 := (by omega))
      | (go_at_call 23; refine (left_hl _ _ W0 W1 _ _).mono ?_; rintro e w4 ⟨rfl, hb4⟩; rw [hS]; (try (with_reducible replace hb4 := undrew hb4)); obtain ⟨hc4, hf4⟩ := bcell hb4; have hs4 := hb4.size; (try simp at hs4); have z4_0 : w.heap.size < w4.heap.size := (by omega); have y4_0 : w.heap.size < w4.heap.size := (by omega); have v4_0 : w.heap.size < w4.heap.size + 1 := (by omega); have y4_1 : w1.heap.size < w4.heap.size := (by omega); have v4_1 : w1.heap.size < w4.heap.size + 1 := (by omega))
      | (go_at_call 34; refine (cmp_any F S _).mono ?_; rintro e w5 ⟨rfl, hb5⟩; rw [A4]; (try (with_reducible replace hb5 := undrew hb5)); obtain ⟨hc5, hf5⟩ := bcell hb5; have hs5 := hb5.size; (try simp at hs5); have z5_0 : w.heap.size < w5.heap.size := (by omega); have y5_0 : w.heap.size < w5.heap.size := (by omega); have v5_0 : w.heap.size < w5.heap.size + 1 := (by omega); have y5_1 : w1.heap.size < w5.heap.size := (by omega); have v5_1 : w1.heap.size < w5.heap.size + 1 := (by omega))
      | (go_at_call 19; refine (width_any 2 (by decide) (by decide) _ (hT.below (by (repeat (first | exact Below.refl _ _ | assumption | apply Below.drew | apply below_drewN | refine Below.alloc ?_ (by first | omega | (simp <;> omega)) _ | refine Below.setCell ?_ (by first | omega | (simp <;> omega)) _ | refine Below.trans ?_ (Below.mono (by assumption) (by first | omega | (simp <;> omega)))))))).mono ?_; rintro e w6 ⟨rfl, hb6⟩; rw [qW]; (try (with_reducible replace hb6 := undrew hb6)); obtain ⟨hc6, hf6⟩ := bcell hb6; have hs6 := hb6.size; (try simp at hs6); have z6_0 : w.heap.size < w6.heap.size := (by omega); have y6_0 : w.heap.size < w6.heap.size := (by omega); have v6_0 : w.heap.size < w6.heap.size + 1 := (by omega); have y6_1 : w1.heap.size < w6.heap.size := (by omega); have v6_1 : w1.heap.size < w6.heap.size + 1 := (by omega))
      | (go_at_call 16; refine (goes_any _ (hT.below (by (repeat (first | exact Below.refl _ _ | assumption | apply Below.drew | apply below_drewN | refine Below.alloc ?_ (by first | omega | (simp <;> omega)) _ | refine Below.setCell ?_ (by first | omega | (simp <;> omega)) _ | refine Below.trans ?_ (Below.mono (by assumption) (by first | omega | (simp <;> omega)))))))).mono ?_; rintro e w7 ⟨rfl, hb7⟩; (try (with_reducible replace hb7 := undrew hb7)); obtain ⟨hc7, hf7⟩ := bcell hb7; have hs7 := hb7.size; (try simp at hs7); have z7_0 : w.heap.size < w7.heap.size := (by omega); have y7_0 : w.heap.size < w7.heap.size := (by omega); have v7_0 : w.heap.size < w7.heap.size + 1 := (by omega); have y7_1 : w1.heap.size < w7.heap.size := (by omega); have v7_1 : w1.heap.size < w7.heap.size + 1 := (by omega)))
  go_wp2
  go_ret
  exact ⟨rfl, by (repeat (first | exact Below.refl _ _ | assumption | apply Below.drew | apply below_drewN | refine Below.alloc ?_ (by first | omega | (simp <;> omega)) _ | refine Below.setCell ?_ (by first | omega | (simp <;> omega)) _ | refine Below.trans ?_ (Below.mono (by assumption) (by first | omega | (simp <;> omega)))))⟩
set_option maxHeartbeats 4000000 in
theorem fit_3 (b : BitVec 128) (w : World) (hT : Tab w) :
    Calls Tryd.prog 8 #[.int .u8 3, Bv b] w fun e w' => e = .returned (.bool true) ∧ Gr w w' := by
  have hE0 := (exp_lt 3 b (by decide)).1
  have hE1 : fExp 3 b ≤ 32767 := fit_exp 3 (by decide) (by decide) b
  have A4 : bCmp (fFrac 3 b) (bShl (mkB 0 1) 112) = -1 := fit_frac 3 (by decide) (by decide) b
  have W0 : Word 0 := ⟨by decide, by decide⟩
  have W1 : Word 1 := ⟨by decide, by decide⟩
  obtain ⟨E, hE⟩ : ∃ E, fExp 3 b = E := ⟨_, rfl⟩
  obtain ⟨F, hF⟩ : ∃ F, fFrac 3 b = F := ⟨_, rfl⟩
  obtain ⟨S, hS⟩ : ∃ S, bShl (mkB 0 1) 112 = S := ⟨_, rfl⟩
  obtain ⟨N, hN⟩ : ∃ N, fNeg 3 b = N := ⟨_, rfl⟩
  have qP : fPr 3 = 113 := by rfl
  have qE : fEm 3 = 16383 := by rfl
  have qW : fWd 3 = 128 := by rfl
  have h15 : IntKind.i64.wrap 15 = 15 := by decide
  have h112 : IntKind.i64.wrap 112 = 112 := by decide
  have h32766 : IntKind.i64.wrap 32766 = 32766 := by decide
  have h32767 : IntKind.i64.wrap 32767 = 32767 := by decide
  have h32768 : IntKind.i64.wrap 32768 = 32768 := by decide
  rw [hE] at hE0 hE1
  rw [hF, hS] at A4
  simp only [Bv]
  go_enter Tryd.func8, Tryd.ntmps8
  go_wp2_with (first
    | (go_at_call 20; refine (known_yes _ (by decide) (by decide) _).mono ?_; rintro e w0 ⟨rfl, rfl⟩)
    | (go_at_call 10; refine (split_any 3 (by decide) (by decide) b _ (hT.below (by (repeat (first | exact Below.refl _ _ | assumption | apply Below.drew | apply below_drewN | refine Below.alloc ?_ (by first | omega | (simp <;> omega)) _ | refine Below.setCell ?_ (by first | omega | (simp <;> omega)) _ | refine Below.trans ?_ (Below.mono (by assumption) (by first | omega | (simp <;> omega)))))))).mono ?_; rintro e w1 ⟨rfl, hb1⟩; rw [hE, hF, hN]; (try (with_reducible replace hb1 := undrew hb1)); obtain ⟨hc1, hf1⟩ := bcell hb1; have hs1 := hb1.size; (try simp at hs1); have z1_0 : w.heap.size < w1.heap.size := (by omega))
    | (go_at_call 17; refine (prec_any 3 (by decide) (by decide) _ (hT.below (by (repeat (first | exact Below.refl _ _ | assumption | apply Below.drew | apply below_drewN | refine Below.alloc ?_ (by first | omega | (simp <;> omega)) _ | refine Below.setCell ?_ (by first | omega | (simp <;> omega)) _ | refine Below.trans ?_ (Below.mono (by assumption) (by first | omega | (simp <;> omega)))))))).mono ?_; rintro e w2 ⟨rfl, hb2⟩; rw [qP]; (try (with_reducible replace hb2 := undrew hb2)); obtain ⟨hc2, hf2⟩ := bcell hb2; have hs2 := hb2.size; (try simp at hs2); have z2_0 : w.heap.size < w2.heap.size := (by omega); have y2_0 : w.heap.size < w2.heap.size := (by omega); have v2_0 : w.heap.size < w2.heap.size + 1 := (by omega); have y2_1 : w1.heap.size < w2.heap.size := (by omega); have v2_1 : w1.heap.size < w2.heap.size + 1 := (by omega)))
  go_region_held3 (fun w' => w'.cell? ⟨w1.heap.size, 0, none⟩ = some (.int .u64 (hiB F)) ∧ w'.cell? ⟨w1.heap.size, 1, none⟩ = some (.int .u64 (loB F)))
    (simp [go_sem, *])
    (first
      | (go_at_call 18; refine (emax_any 3 (by decide) (by decide) _ (hT.below (by (repeat (first | exact Below.refl _ _ | assumption | apply Below.drew | apply below_drewN | refine Below.alloc ?_ (by first | omega | (simp <;> omega)) _ | refine Below.setCell ?_ (by first | omega | (simp <;> omega)) _ | refine Below.trans ?_ (Below.mono (by assumption) (by first | omega | (simp <;> omega)))))))).mono ?_; rintro e w3 ⟨rfl, hb3⟩; rw [qE]; (try (with_reducible replace hb3 := undrew hb3)); obtain ⟨hc3, hf3⟩ := bcell hb3; have hs3 := hb3.size; (try simp at hs3); have z3_0 : w.heap.size < w3.heap.size := (by omega); have y3_0 : w.heap.size < w3.heap.size := (by omega); have v3_0 : w.heap.size < w3.heap.size + 1 := (by omega); have y3_1 : w1.heap.size < w3.heap.size := (by omega); have v3_1 : w1.heap.size < w3.heap.size + 1 := (by omega))
      | (go_at_call 23; refine (left_hl _ _ W0 W1 _ _).mono ?_; rintro e w4 ⟨rfl, hb4⟩; rw [hS]; (try (with_reducible replace hb4 := undrew hb4)); obtain ⟨hc4, hf4⟩ := bcell hb4; have hs4 := hb4.size; (try simp at hs4); have z4_0 : w.heap.size < w4.heap.size := (by omega); have y4_0 : w.heap.size < w4.heap.size := (by omega); have v4_0 : w.heap.size < w4.heap.size + 1 := (by omega); have y4_1 : w1.heap.size < w4.heap.size := (by omega); have v4_1 : w1.heap.size < w4.heap.size + 1 := (by omega))
      | (go_at_call 34; refine (cmp_any F S _).mono ?_; rintro e w5 ⟨rfl, hb5⟩; rw [A4]; (try (with_reducible replace hb5 := undrew hb5)); obtain ⟨hc5, hf5⟩ := bcell hb5; have hs5 := hb5.size; (try simp at hs5); have z5_0 : w.heap.size < w5.heap.size := (by omega); have y5_0 : w.heap.size < w5.heap.size := (by omega); have v5_0 : w.heap.size < w5.heap.size + 1 := (by omega); have y5_1 : w1.heap.size < w5.heap.size := (by omega); have v5_1 : w1.heap.size < w5.heap.size + 1 := (by omega))
      | (go_at_call 19; refine (width_any 3 (by decide) (by decide) _ (hT.below (by (repeat (first | exact Below.refl _ _ | assumption | apply Below.drew | apply below_drewN | refine Below.alloc ?_ (by first | omega | (simp <;> omega)) _ | refine Below.setCell ?_ (by first | omega | (simp <;> omega)) _ | refine Below.trans ?_ (Below.mono (by assumption) (by first | omega | (simp <;> omega)))))))).mono ?_; rintro e w6 ⟨rfl, hb6⟩; rw [qW]; (try (with_reducible replace hb6 := undrew hb6)); obtain ⟨hc6, hf6⟩ := bcell hb6; have hs6 := hb6.size; (try simp at hs6); have z6_0 : w.heap.size < w6.heap.size := (by omega); have y6_0 : w.heap.size < w6.heap.size := (by omega); have v6_0 : w.heap.size < w6.heap.size + 1 := (by omega); have y6_1 : w1.heap.size < w6.heap.size := (by omega); have v6_1 : w1.heap.size < w6.heap.size + 1 := (by omega))
      | (go_at_call 16; refine (goes_any _ (hT.below (by (repeat (first | exact Below.refl _ _ | assumption | apply Below.drew | apply below_drewN | refine Below.alloc ?_ (by first | omega | (simp <;> omega)) _ | refine Below.setCell ?_ (by first | omega | (simp <;> omega)) _ | refine Below.trans ?_ (Below.mono (by assumption) (by first | omega | (simp <;> omega)))))))).mono ?_; rintro e w7 ⟨rfl, hb7⟩; (try (with_reducible replace hb7 := undrew hb7)); obtain ⟨hc7, hf7⟩ := bcell hb7; have hs7 := hb7.size; (try simp at hs7); have z7_0 : w.heap.size < w7.heap.size := (by omega); have y7_0 : w.heap.size < w7.heap.size := (by omega); have v7_0 : w.heap.size < w7.heap.size + 1 := (by omega); have y7_1 : w1.heap.size < w7.heap.size := (by omega); have v7_1 : w1.heap.size < w7.heap.size + 1 := (by omega)))
  go_wp2
  go_ret
  exact ⟨rfl, by (repeat (first | exact Below.refl _ _ | assumption | apply Below.drew | apply below_drewN | refine Below.alloc ?_ (by first | omega | (simp <;> omega)) _ | refine Below.setCell ?_ (by first | omega | (simp <;> omega)) _ | refine Below.trans ?_ (Below.mono (by assumption) (by first | omega | (simp <;> omega)))))⟩
theorem walk_formatFit (f : Int) (l : 0 ≤ f) (u : f ≤ 255) (b : BitVec 128) (w : World) (hT : Tab w) :
    Calls Tryd.prog 8 #[.int .u8 f, Bv b] w fun e w' => e = .returned (.bool true) ∧ Gr w w' := by
  by_cases h : f < 4
  · rcases f_four f l h with rfl | rfl | rfl | rfl
    · exact fit_0 b w hT
    · exact fit_1 b w hT
    · exact fit_2 b w hT
    · exact fit_3 b w hT
  · have e1 := (f_none f h).1
    simp only [Bv]
    go_enter Tryd.func8, Tryd.ntmps8
    go_wp2_with (first
      | (go_at_call 20; refine (known_no _ l u (by omega) _).mono ?_; rintro e w0 ⟨rfl, rfl⟩)
      | (go_at_call 19; refine (width_any f l u _ (hT.below (by (repeat (first | exact Below.refl _ _ | assumption | apply Below.drew | apply below_drewN | refine Below.alloc ?_ (by first | omega | (simp <;> omega)) _ | refine Below.setCell ?_ (by first | omega | (simp <;> omega)) _ | refine Below.trans ?_ (Below.mono (by assumption) (by first | omega | (simp <;> omega)))))))).mono ?_; rintro e w6 ⟨rfl, hb6⟩; rw [e1]; (try (with_reducible replace hb6 := undrew hb6)); obtain ⟨hc6, hf6⟩ := bcell hb6; have hs6 := hb6.size; (try simp at hs6); have z6_0 : w.heap.size < w6.heap.size := (by omega))
      | (go_at_call 16; refine (goes_any _ (hT.below (by (repeat (first | exact Below.refl _ _ | assumption | apply Below.drew | apply below_drewN | refine Below.alloc ?_ (by first | omega | (simp <;> omega)) _ | refine Below.setCell ?_ (by first | omega | (simp <;> omega)) _ | refine Below.trans ?_ (Below.mono (by assumption) (by first | omega | (simp <;> omega)))))))).mono ?_; rintro e w13 ⟨rfl, hb13⟩; (try (with_reducible replace hb13 := undrew hb13)); obtain ⟨hc13, hf13⟩ := bcell hb13; have hs13 := hb13.size; (try simp at hs13); have z13_0 : w.heap.size < w13.heap.size := (by omega)))
    go_ret
    exact ⟨rfl, by (repeat (first | exact Below.refl _ _ | assumption | apply Below.drew | apply below_drewN | refine Below.alloc ?_ (by first | omega | (simp <;> omega)) _ | refine Below.setCell ?_ (by first | omega | (simp <;> omega)) _ | refine Below.trans ?_ (Below.mono (by assumption) (by first | omega | (simp <;> omega)))))⟩
end Hb
end Go.Proofs.YtlkbjjfccanbeaaDoor
