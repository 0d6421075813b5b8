/-
  THE WALKS of package class: each function hands back what the plain part says; what stood in memory stands. Conditions: the table of the formats holds its numbers.
-/
import Derived.Test.YtmnoghkbmkiplaaDoorAs
import Derived.Test.YtmnoghkbmkiplaaDoorClassPlain
namespace Go.Proofs.YtmnoghkbmkiplaaDoor
open Go.RowKit
namespace Hb
set_option maxRecDepth 20000
theorem clof_none (f : Int) (l : 0 ≤ f) (u : f ≤ 255) (h : ¬ f < 4) (b : BitVec 128) (w : World) :
    Calls Tryd.prog 8 #[.int .u8 f, Bv b] w fun e w' => e = .returned (.tuple #[.int .u8 (cOf f b), .bool (fNeg f b)]) ∧ Gr w w' := by
  have e1 : fNeg f b = false := by unfold fNeg; rw [(f_none f h).2.2.2]; rfl
  rw [e1, cOf_none f h]
  clear e1
  simp only [Bv]
  go_enter Tryd.func8, Tryd.ntmps8
  go_wp2_with (first | (go_at_call 12; refine (known_no f l u (by omega) _).mono ?_; rintro e wq ⟨rfl, rfl⟩))
  go_ret2
  exact ⟨rfl, by (repeat (first | exact Below.refl _ _ | assumption | apply Below.drew | apply below_drewN | refine Below.alloc ?_ (by first | omega | (simp <;> omega)) _ | refine Below.setCell ?_ (by first | omega | (simp <;> omega)) _ | refine Below.trans ?_ (Below.mono (by assumption) (by first | omega | (simp <;> omega)))))⟩
set_option maxHeartbeats 1000000 in
theorem clof_core (f : Int) (l : 0 ≤ f) (u : f ≤ 255) (h : f < 4) (b F : BitVec 128) (N Z Q : Bool) (E M p c : Int)
    (HS : Hid (fNeg f b = N ∧ fExp f b = E ∧ fFrac f b = F)) (HZ : Hid (bZero F = Z)) (HM : Hid (fEm f = M)) (HP : Hid (fPr f = p)) (HQ : Hid (bBit F (p - 2) = Q))
    (hE : 0 ≤ E) (hM : 15 ≤ M) (hM' : M ≤ 16383) (hp : 11 ≤ p) (hp' : p ≤ 113)
    (hc : (E = 0 ∧ Z = true ∧ c = 0) ∨ (E = 0 ∧ Z = false ∧ c = 1) ∨ (0 < E ∧ E < 2 * M + 1 ∧ c = 2) ∨ (2 * M + 1 ≤ E ∧ Z = true ∧ c = 3) ∨ (2 * M + 1 ≤ E ∧ Z = false ∧ Q = true ∧ c = 4) ∨ (2 * M + 1 ≤ E ∧ Z = false ∧ Q = false ∧ c = 5)) (w : World) (hT : Tab w) :
    Calls Tryd.prog 8 #[.int .u8 f, Bv b] w fun e w' => e = .returned (.tuple #[.int .u8 c, .bool N]) ∧ Gr w w' := by
  have X1 := Lib.hid (IntWalk.i64_in (p - 2) (by omega))
  simp only [Bv]

  rcases hc with ⟨rfl, rfl, rfl⟩ | ⟨rfl, rfl, rfl⟩ | ⟨h1, h2, rfl⟩ | ⟨h1, rfl, rfl⟩ | ⟨h1, rfl, rfl, rfl⟩ | ⟨h1, rfl, rfl, rfl⟩
  · go_enter Tryd.func8, Tryd.ntmps8
    go_wp2_with (first
      | (go_at_call 12; refine (known_yes f l h _).mono ?_; rintro e wq ⟨rfl, rfl⟩)
      | (go_at_call 18; refine (split_as f l u b _ _ _ HS _ (hT.below (by (repeat (first | exact Below.refl _ _ | assumption | apply Below.drew | apply below_drewN | refine Below.alloc ?_ (by first | omega | (simp <;> omega)) _ | refine Below.setCell ?_ (by first | omega | (simp <;> omega)) _ | refine Below.trans ?_ (Below.mono (by assumption) (by first | omega | (simp <;> omega)))))))).mono ?_; rintro e w1 ⟨rfl, hb1⟩; (try (with_reducible replace hb1 := undrew hb1)); obtain ⟨hc1, hf1⟩ := bcell hb1; have hs1 := hb1.size; (try simp at hs1); (try have y1_0_0 : w.heap.size < w1.heap.size := (by omega)); (try have y1_0_1 : w.heap.size < w1.heap.size + 1 := (by omega)))
      | (go_at_call 19; refine (bzero_as F _ HZ _).mono ?_; rintro e w2 ⟨rfl, hb2⟩; (try (with_reducible replace hb2 := undrew hb2)); obtain ⟨hc2, hf2⟩ := bcell hb2; have hs2 := hb2.size; (try simp at hs2); (try have y2_0_0 : w.heap.size < w2.heap.size := (by omega)); (try have y2_1_0 : w1.heap.size < w2.heap.size := (by omega)))
      | (go_at_call 20; refine (emax_as f l u _ HM _ (hT.below (by (repeat (first | exact Below.refl _ _ | assumption | apply Below.drew | apply below_drewN | refine Below.alloc ?_ (by first | omega | (simp <;> omega)) _ | refine Below.setCell ?_ (by first | omega | (simp <;> omega)) _ | refine Below.trans ?_ (Below.mono (by assumption) (by first | omega | (simp <;> omega)))))))).mono ?_; rintro e w3 ⟨rfl, hb3⟩; (try (with_reducible replace hb3 := undrew hb3)); obtain ⟨hc3, hf3⟩ := bcell hb3; have hs3 := hb3.size; (try simp at hs3); (try have y3_0_0 : w.heap.size < w3.heap.size := (by omega)); (try have y3_1_0 : w1.heap.size < w3.heap.size := (by omega))))
    go_ret2
    exact ⟨rfl, by (repeat (first | exact Below.refl _ _ | assumption | apply Below.drew | apply below_drewN | refine Below.alloc ?_ (by first | omega | (simp <;> omega)) _ | refine Below.setCell ?_ (by first | omega | (simp <;> omega)) _ | refine Below.trans ?_ (Below.mono (by assumption) (by first | omega | (simp <;> omega)))))⟩

  · go_enter Tryd.func8, Tryd.ntmps8
    go_wp2_with (first
      | (go_at_call 12; refine (known_yes f l h _).mono ?_; rintro e wq ⟨rfl, rfl⟩)
      | (go_at_call 18; refine (split_as f l u b _ _ _ HS _ (hT.below (by (repeat (first | exact Below.refl _ _ | assumption | apply Below.drew | apply below_drewN | refine Below.alloc ?_ (by first | omega | (simp <;> omega)) _ | refine Below.setCell ?_ (by first | omega | (simp <;> omega)) _ | refine Below.trans ?_ (Below.mono (by assumption) (by first | omega | (simp <;> omega)))))))).mono ?_; rintro e w1 ⟨rfl, hb1⟩; (try (with_reducible replace hb1 := undrew hb1)); obtain ⟨hc1, hf1⟩ := bcell hb1; have hs1 := hb1.size; (try simp at hs1); (try have y1_0_0 : w.heap.size < w1.heap.size := (by omega)); (try have y1_0_1 : w.heap.size < w1.heap.size + 1 := (by omega)))
      | (go_at_call 19; refine (bzero_as F _ HZ _).mono ?_; rintro e w2 ⟨rfl, hb2⟩; (try (with_reducible replace hb2 := undrew hb2)); obtain ⟨hc2, hf2⟩ := bcell hb2; have hs2 := hb2.size; (try simp at hs2); (try have y2_0_0 : w.heap.size < w2.heap.size := (by omega)); (try have y2_1_0 : w1.heap.size < w2.heap.size := (by omega)))
      | (go_at_call 20; refine (emax_as f l u _ HM _ (hT.below (by (repeat (first | exact Below.refl _ _ | assumption | apply Below.drew | apply below_drewN | refine Below.alloc ?_ (by first | omega | (simp <;> omega)) _ | refine Below.setCell ?_ (by first | omega | (simp <;> omega)) _ | refine Below.trans ?_ (Below.mono (by assumption) (by first | omega | (simp <;> omega)))))))).mono ?_; rintro e w3 ⟨rfl, hb3⟩; (try (with_reducible replace hb3 := undrew hb3)); obtain ⟨hc3, hf3⟩ := bcell hb3; have hs3 := hb3.size; (try simp at hs3); (try have y3_0_0 : w.heap.size < w3.heap.size := (by omega)); (try have y3_1_0 : w1.heap.size < w3.heap.size := (by omega))))
    go_ret2
    exact ⟨rfl, by (repeat (first | exact Below.refl _ _ | assumption | apply Below.drew | apply below_drewN | refine Below.alloc ?_ (by first | omega | (simp <;> omega)) _ | refine Below.setCell ?_ (by first | omega | (simp <;> omega)) _ | refine Below.trans ?_ (Below.mono (by assumption) (by first | omega | (simp <;> omega)))))⟩

  · have hE0 : (E == 0) = false := by simp; omega
    go_enter Tryd.func8, Tryd.ntmps8
    go_wp2_with (first
      | (go_at_call 12; refine (known_yes f l h _).mono ?_; rintro e wq ⟨rfl, rfl⟩)
      | (go_at_call 18; refine (split_as f l u b _ _ _ HS _ (hT.below (by (repeat (first | exact Below.refl _ _ | assumption | apply Below.drew | apply below_drewN | refine Below.alloc ?_ (by first | omega | (simp <;> omega)) _ | refine Below.setCell ?_ (by first | omega | (simp <;> omega)) _ | refine Below.trans ?_ (Below.mono (by assumption) (by first | omega | (simp <;> omega)))))))).mono ?_; rintro e w1 ⟨rfl, hb1⟩; (try (with_reducible replace hb1 := undrew hb1)); obtain ⟨hc1, hf1⟩ := bcell hb1; have hs1 := hb1.size; (try simp at hs1); (try have y1_0_0 : w.heap.size < w1.heap.size := (by omega)); (try have y1_0_1 : w.heap.size < w1.heap.size + 1 := (by omega)))
      | (go_at_call 19; refine (bzero_as F _ HZ _).mono ?_; rintro e w2 ⟨rfl, hb2⟩; (try (with_reducible replace hb2 := undrew hb2)); obtain ⟨hc2, hf2⟩ := bcell hb2; have hs2 := hb2.size; (try simp at hs2); (try have y2_0_0 : w.heap.size < w2.heap.size := (by omega)); (try have y2_1_0 : w1.heap.size < w2.heap.size := (by omega)))
      | (go_at_call 20; refine (emax_as f l u _ HM _ (hT.below (by (repeat (first | exact Below.refl _ _ | assumption | apply Below.drew | apply below_drewN | refine Below.alloc ?_ (by first | omega | (simp <;> omega)) _ | refine Below.setCell ?_ (by first | omega | (simp <;> omega)) _ | refine Below.trans ?_ (Below.mono (by assumption) (by first | omega | (simp <;> omega)))))))).mono ?_; rintro e w3 ⟨rfl, hb3⟩; (try (with_reducible replace hb3 := undrew hb3)); obtain ⟨hc3, hf3⟩ := bcell hb3; have hs3 := hb3.size; (try simp at hs3); (try have y3_0_0 : w.heap.size < w3.heap.size := (by omega)); (try have y3_1_0 : w1.heap.size < w3.heap.size := (by omega))))
    go_ret2
    exact ⟨rfl, by (repeat (first | exact Below.refl _ _ | assumption | apply Below.drew | apply below_drewN | refine Below.alloc ?_ (by first | omega | (simp <;> omega)) _ | refine Below.setCell ?_ (by first | omega | (simp <;> omega)) _ | refine Below.trans ?_ (Below.mono (by assumption) (by first | omega | (simp <;> omega)))))⟩

  · have hE0 : (E == 0) = false := by simp; omega
    go_enter Tryd.func8, Tryd.ntmps8
    go_wp2_with (first
      | (go_at_call 12; refine (known_yes f l h _).mono ?_; rintro e wq ⟨rfl, rfl⟩)
      | (go_at_call 18; refine (split_as f l u b _ _ _ HS _ (hT.below (by (repeat (first | exact Below.refl _ _ | assumption | apply Below.drew | apply below_drewN | refine Below.alloc ?_ (by first | omega | (simp <;> omega)) _ | refine Below.setCell ?_ (by first | omega | (simp <;> omega)) _ | refine Below.trans ?_ (Below.mono (by assumption) (by first | omega | (simp <;> omega)))))))).mono ?_; rintro e w1 ⟨rfl, hb1⟩; (try (with_reducible replace hb1 := undrew hb1)); obtain ⟨hc1, hf1⟩ := bcell hb1; have hs1 := hb1.size; (try simp at hs1); (try have y1_0_0 : w.heap.size < w1.heap.size := (by omega)); (try have y1_0_1 : w.heap.size < w1.heap.size + 1 := (by omega)))
      | (go_at_call 19; refine (bzero_as F _ HZ _).mono ?_; rintro e w2 ⟨rfl, hb2⟩; (try (with_reducible replace hb2 := undrew hb2)); obtain ⟨hc2, hf2⟩ := bcell hb2; have hs2 := hb2.size; (try simp at hs2); (try have y2_0_0 : w.heap.size < w2.heap.size := (by omega)); (try have y2_1_0 : w1.heap.size < w2.heap.size := (by omega)))
      | (go_at_call 20; refine (emax_as f l u _ HM _ (hT.below (by (repeat (first | exact Below.refl _ _ | assumption | apply Below.drew | apply below_drewN | refine Below.alloc ?_ (by first | omega | (simp <;> omega)) _ | refine Below.setCell ?_ (by first | omega | (simp <;> omega)) _ | refine Below.trans ?_ (Below.mono (by assumption) (by first | omega | (simp <;> omega)))))))).mono ?_; rintro e w3 ⟨rfl, hb3⟩; (try (with_reducible replace hb3 := undrew hb3)); obtain ⟨hc3, hf3⟩ := bcell hb3; have hs3 := hb3.size; (try simp at hs3); (try have y3_0_0 : w.heap.size < w3.heap.size := (by omega)); (try have y3_1_0 : w1.heap.size < w3.heap.size := (by omega))))
    go_ret2
    exact ⟨rfl, by (repeat (first | exact Below.refl _ _ | assumption | apply Below.drew | apply below_drewN | refine Below.alloc ?_ (by first | omega | (simp <;> omega)) _ | refine Below.setCell ?_ (by first | omega | (simp <;> omega)) _ | refine Below.trans ?_ (Below.mono (by assumption) (by first | omega | (simp <;> omega)))))⟩
  all_goals
    have hE0 : (E == 0) = false := by simp; omega

    go_enter Tryd.func8, Tryd.ntmps8
    go_wp2_with (first
      | (go_at_call 12; refine (known_yes f l h _).mono ?_; rintro e wq ⟨rfl, rfl⟩)
      | (go_at_call 18; refine (split_as f l u b _ _ _ HS _ (hT.below (by (repeat (first | exact Below.refl _ _ | assumption | apply Below.drew | apply below_drewN | refine Below.alloc ?_ (by first | omega | (simp <;> omega)) _ | refine Below.setCell ?_ (by first | omega | (simp <;> omega)) _ | refine Below.trans ?_ (Below.mono (by assumption) (by first | omega | (simp <;> omega)))))))).mono ?_; rintro e w1 ⟨rfl, hb1⟩; (try (with_reducible replace hb1 := undrew hb1)); obtain ⟨hc1, hf1⟩ := bcell hb1; have hs1 := hb1.size; (try simp at hs1); (try have y1_0_0 : w.heap.size < w1.heap.size := (by omega)); (try have y1_0_1 : w.heap.size < w1.heap.size + 1 := (by omega)))
      | (go_at_call 19; refine (bzero_as F _ HZ _).mono ?_; rintro e w2 ⟨rfl, hb2⟩; (try (with_reducible replace hb2 := undrew hb2)); obtain ⟨hc2, hf2⟩ := bcell hb2; have hs2 := hb2.size; (try simp at hs2); (try have y2_0_0 : w.heap.size < w2.heap.size := (by omega)); (try have y2_1_0 : w1.heap.size < w2.heap.size := (by omega)))
      | (go_at_call 20; refine (emax_as f l u _ HM _ (hT.below (by (repeat (first | exact Below.refl _ _ | assumption | apply Below.drew | apply below_drewN | refine Below.alloc ?_ (by first | omega | (simp <;> omega)) _ | refine Below.setCell ?_ (by first | omega | (simp <;> omega)) _ | refine Below.trans ?_ (Below.mono (by assumption) (by first | omega | (simp <;> omega)))))))).mono ?_; rintro e w3 ⟨rfl, hb3⟩; (try (with_reducible replace hb3 := undrew hb3)); obtain ⟨hc3, hf3⟩ := bcell hb3; have hs3 := hb3.size; (try simp at hs3); (try have y3_0_0 : w.heap.size < w3.heap.size := (by omega)); (try have y3_1_0 : w1.heap.size < w3.heap.size := (by omega))))
    go_region_held3 (fun w' => w'.cell? ⟨w1.heap.size, 0, none⟩ = some (.int .u64 (hiB F)) ∧ w'.cell? ⟨w1.heap.size, 1, none⟩ = some (.int .u64 (loB F)))
      (simp [go_sem, *])
      (first
        | (go_at_call 17; refine (prec_as f l u _ HP _ (hT.below (by (repeat (first | exact Below.refl _ _ | assumption | apply Below.drew | apply below_drewN | refine Below.alloc ?_ (by first | omega | (simp <;> omega)) _ | refine Below.setCell ?_ (by first | omega | (simp <;> omega)) _ | refine Below.trans ?_ (Below.mono (by assumption) (by first | omega | (simp <;> omega)))))))).mono ?_; rintro e w4 ⟨rfl, hb4⟩; (try (with_reducible replace hb4 := undrew hb4)); obtain ⟨hc4, hf4⟩ := bcell hb4; have hs4 := hb4.size; (try simp at hs4); (try have y4_0_0 : w.heap.size < w4.heap.size := (by omega)); (try have y4_1_0 : w1.heap.size < w4.heap.size := (by omega)))
        | (go_at_call 21; rw [X1.out]; refine (bbit_as F _ (by omega) (by omega) _ HQ _).mono ?_; rintro e w5 ⟨rfl, hb5⟩; (try (with_reducible replace hb5 := undrew hb5)); obtain ⟨hc5, hf5⟩ := bcell hb5; have hs5 := hb5.size; (try simp at hs5); (try have y5_0_0 : w.heap.size < w5.heap.size := (by omega)); (try have y5_1_0 : w1.heap.size < w5.heap.size := (by omega))))
    go_wp2
    go_ret2
    exact ⟨rfl, by (repeat (first | exact Below.refl _ _ | assumption | apply Below.drew | apply below_drewN | refine Below.alloc ?_ (by first | omega | (simp <;> omega)) _ | refine Below.setCell ?_ (by first | omega | (simp <;> omega)) _ | refine Below.trans ?_ (Below.mono (by assumption) (by first | omega | (simp <;> omega)))))⟩
theorem clof_any (f : Int) (l : 0 ≤ f) (u : f ≤ 255) (b : BitVec 128) (w : World) (hT : Tab w) :
    Calls Tryd.prog 8 #[.int .u8 f, Bv b] w fun e w' => e = .returned (.tuple #[.int .u8 (cOf f b), .bool (fNeg f b)]) ∧ Gr w w' := by
  by_cases h : f < 4
  · have hb := f_bounds f l h
    have hx := exp_lt f b l
    refine clof_core f l u h b _ _ _ _ _ _ _ _ (Lib.hid ⟨rfl, rfl, rfl⟩) (Lib.hid rfl) (Lib.hid rfl) (Lib.hid rfl) (Lib.hid rfl) (by omega) (by omega) (by omega) (by omega) (by omega) ?_ w hT
    unfold cOf
    rw [if_pos h]
    by_cases h0 : fExp f b = 0
    · rw [if_pos h0]
      cases hz : bZero (fFrac f b)
      · exact .inr (.inl ⟨h0, rfl, rfl⟩)
      · exact .inl ⟨h0, rfl, rfl⟩
    · rw [if_neg h0]
      by_cases h1 : fExp f b < 2 * fEm f + 1
      · rw [if_pos h1]
        exact .inr (.inr (.inl ⟨by omega, h1, rfl⟩))
      · rw [if_neg h1]
        cases hz : bZero (fFrac f b)
        · cases hq : bBit (fFrac f b) (fPr f - 2)
          · exact .inr (.inr (.inr (.inr (.inr ⟨by omega, rfl, rfl, rfl⟩))))
          · exact .inr (.inr (.inr (.inr (.inl ⟨by omega, rfl, rfl, rfl⟩))))
        · exact .inr (.inr (.inr (.inl ⟨by omega, rfl, rfl⟩)))
  · exact clof_none f l u h b w
theorem clof_as (f : Int) (l : 0 ≤ f) (u : f ≤ 255) (b : BitVec 128) (c : Int) (N : Bool) (H : Hid (cOf f b = c ∧ fNeg f b = N)) (w : World) (hT : Tab w) :
    Calls Tryd.prog 8 #[.int .u8 f, Bv b] w fun e w' => e = .returned (.tuple #[.int .u8 c, .bool N]) ∧ Gr w w' := by
  obtain ⟨rfl, rfl⟩ := H.out; exact clof_any f l u b w hT
theorem nan_as (f : Int) (l : 0 ≤ f) (u : f ≤ 255) (b : BitVec 128) (r : Bool) (H : Hid (cNaN f b = r)) (w : World) (hT : Tab w) :
    Calls Tryd.prog 4 #[.int .u8 f, Bv b] w fun e w' => e = .returned (.bool r) ∧ Gr w w' := by
  obtain rfl := H.out
  unfold cNaN
  have hb := cOf_bounds f b
  obtain ⟨c, hc⟩ : ∃ c, cOf f b = c := ⟨_, rfl⟩
  rw [hc] at hb ⊢
  have HC : Hid (cOf f b = c ∧ fNeg f b = fNeg f b) := Lib.hid ⟨hc, rfl⟩
  clear hc
  simp only [Bv]

  go_enter Tryd.func4, Tryd.ntmps4
  go_wp2_with (first | (go_at_call 8; refine (clof_as f l u b _ _ HC _ (hT.below (by (repeat (first | exact Below.refl _ _ | assumption | apply Below.drew | apply below_drewN | refine Below.alloc ?_ (by first | omega | (simp <;> omega)) _ | refine Below.setCell ?_ (by first | omega | (simp <;> omega)) _ | refine Below.trans ?_ (Below.mono (by assumption) (by first | omega | (simp <;> omega)))))))).mono ?_; rintro e w1 ⟨rfl, hb1⟩; (try (with_reducible replace hb1 := undrew hb1)); obtain ⟨hc1, hf1⟩ := bcell hb1; have hs1 := hb1.size; (try simp at hs1); (try have y1_0_0 : w.heap.size < w1.heap.size := (by omega))))
  go_ret
  exact ⟨rfl, by (repeat (first | exact Below.refl _ _ | assumption | apply Below.drew | apply below_drewN | refine Below.alloc ?_ (by first | omega | (simp <;> omega)) _ | refine Below.setCell ?_ (by first | omega | (simp <;> omega)) _ | refine Below.trans ?_ (Below.mono (by assumption) (by first | omega | (simp <;> omega)))))⟩
theorem sig_as (f : Int) (l : 0 ≤ f) (u : f ≤ 255) (b : BitVec 128) (r : Bool) (H : Hid (cSig f b = r)) (w : World) (hT : Tab w) :
    Calls Tryd.prog 14 #[.int .u8 f, Bv b] w fun e w' => e = .returned (.bool r) ∧ Gr w w' := by
  have hr : cSig f b = r := H.out
  unfold cSig at hr
  have hb := cOf_bounds f b
  obtain ⟨c, hc⟩ : ∃ c, cOf f b = c := ⟨_, rfl⟩
  rw [hc] at hb hr
  have HC : Hid (cOf f b = c ∧ fNeg f b = fNeg f b) := Lib.hid ⟨hc, rfl⟩
  have he : (c == 5) = r := by rw [← hr]; rw [Bool.eq_iff_iff]; simp
  clear hc hr
  simp only [Bv]

  go_enter Tryd.func14, Tryd.ntmps14
  go_wp2_with (first | (go_at_call 8; refine (clof_as f l u b _ _ HC _ (hT.below (by (repeat (first | exact Below.refl _ _ | assumption | apply Below.drew | apply below_drewN | refine Below.alloc ?_ (by first | omega | (simp <;> omega)) _ | refine Below.setCell ?_ (by first | omega | (simp <;> omega)) _ | refine Below.trans ?_ (Below.mono (by assumption) (by first | omega | (simp <;> omega)))))))).mono ?_; rintro e w1 ⟨rfl, hb1⟩; (try (with_reducible replace hb1 := undrew hb1)); obtain ⟨hc1, hf1⟩ := bcell hb1; have hs1 := hb1.size; (try simp at hs1); (try have y1_0_0 : w.heap.size < w1.heap.size := (by omega))))
  go_ret
  exact ⟨rfl, by (repeat (first | exact Below.refl _ _ | assumption | apply Below.drew | apply below_drewN | refine Below.alloc ?_ (by first | omega | (simp <;> omega)) _ | refine Below.setCell ?_ (by first | omega | (simp <;> omega)) _ | refine Below.trans ?_ (Below.mono (by assumption) (by first | omega | (simp <;> omega)))))⟩
end Hb
end Go.Proofs.YtmnoghkbmkiplaaDoor
