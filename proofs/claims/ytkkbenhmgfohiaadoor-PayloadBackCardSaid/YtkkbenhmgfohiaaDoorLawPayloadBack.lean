/-
  THE WALK of the law PayloadBack. Conditions: the table of the formats holds its numbers.
-/
import Derived.Test.YtkkbenhmgfohiaaDoorGoes11
namespace Go.Proofs.YtkkbenhmgfohiaaDoor
open Go.RowKit
namespace Hb
set_option maxRecDepth 20000
set_option maxHeartbeats 8000000 in
theorem payback_core (g t : Int) (l : 0 ≤ g) (u : g ≤ 255) (l' : 0 ≤ t) (u' : t ≤ 255) (ug : g < 4) (ut : t < 4) (b X Y : BitVec 128) (N s : Bool) (c fl : Int) (HN : Hid (cNaN g b = true)) (HG : Hid (cSig g b = s)) (HX : Hid (mvB g t b = X)) (HF : Hid (fFits t X = true))
    (HC : Hid (cOf t X = 4 ∧ fNeg t X = N)) (HC2 : Hid (cOf g b = c ∧ fNeg g b = N)) (hs : (s = true ∧ fl = 1) ∨ (s = false ∧ fl = 0))
    (way : t < g ∨ (g ≤ t ∧ cNaN t X = true ∧ cSig t X = false ∧ mvB t g X = Y ∧ nQ g b = Y)) (w : World) (hT : Tab w) :
    Calls Tryd.prog 6 #[.int .u8 g, .int .u8 t, Bv b] w fun e w' => e = .returned (.bool true) ∧ Gr w w' := by
  have m1 := fun w hT => move_yes g t l u l' u' b X s fl ut HN.out HX HG hs w hT
  simp only [Bv]
  simp only [Bv] at m1
  have hs2 : (s = true ∧ (fl == 1) = true) ∨ (s = false ∧ (fl == 1) = false) := by rcases hs with ⟨rfl, rfl⟩ | ⟨rfl, rfl⟩ <;> simp
  clear hs
  rcases way with h | ⟨h, h1, h2, h3, h4⟩
  · rcases hs2 with ⟨rfl, h5⟩ | ⟨rfl, h5⟩
    all_goals

      go_enter Tryd.func6, Tryd.ntmps6
      go_wp2_with (first
        | (go_at_call 14; refine (m1 _ (hT.below (by (repeat (first | exact Below.refl _ _ | assumption | apply Below.drew | apply below_drewN | refine Below.alloc ?_ (by first | omega | (simp <;> omega)) _ | refine Below.setCell ?_ (by first | omega | (simp <;> omega)) _ | refine Below.trans ?_ (Below.mono (by assumption) (by first | omega | (simp <;> omega)))))))).mono ?_; rintro e w1 ⟨rfl, hb1⟩; (try (with_reducible replace hb1 := undrew hb1)); obtain ⟨hc1, hf1⟩ := bcell hb1; have hs1 := hb1.size; (try simp at hs1); (try have y1_0_0 : w.heap.size < w1.heap.size := (by omega)); (try have y1_0_1 : w.heap.size < w1.heap.size + 1 := (by omega)))
        | (go_at_call_of 19 (X); refine (clof_as t l' u' _ _ _ HC _ (hT.below (by (repeat (first | exact Below.refl _ _ | assumption | apply Below.drew | apply below_drewN | refine Below.alloc ?_ (by first | omega | (simp <;> omega)) _ | refine Below.setCell ?_ (by first | omega | (simp <;> omega)) _ | refine Below.trans ?_ (Below.mono (by assumption) (by first | omega | (simp <;> omega)))))))).mono ?_; rintro e w3 ⟨rfl, hb3⟩; (try (with_reducible replace hb3 := undrew hb3)); obtain ⟨hc3, hf3⟩ := bcell hb3; have hs3 := hb3.size; (try simp at hs3); (try have y3_0_0 : w.heap.size < w3.heap.size := (by omega)); (try have y3_1_0 : w1.heap.size < w3.heap.size := (by omega)))
        | (go_at_call_of 19 (b); refine (clof_as g l u _ _ _ HC2 _ (hT.below (by (repeat (first | exact Below.refl _ _ | assumption | apply Below.drew | apply below_drewN | refine Below.alloc ?_ (by first | omega | (simp <;> omega)) _ | refine Below.setCell ?_ (by first | omega | (simp <;> omega)) _ | refine Below.trans ?_ (Below.mono (by assumption) (by first | omega | (simp <;> omega)))))))).mono ?_; rintro e w4 ⟨rfl, hb4⟩; (try (with_reducible replace hb4 := undrew hb4)); obtain ⟨hc4, hf4⟩ := bcell hb4; have hs4 := hb4.size; (try simp at hs4); (try have y4_0_0 : w.heap.size < w4.heap.size := (by omega)); (try have y4_1_0 : w1.heap.size < w4.heap.size := (by omega))))
      go_region_held3 (fun w' => w'.cell? ⟨w.heap.size, 0, none⟩ = some (.int .u64 (hiB b)) ∧ w'.cell? ⟨w.heap.size, 1, none⟩ = some (.int .u64 (loB b)) ∧ w'.cell? ⟨w1.heap.size, 0, none⟩ = some (.int .u64 (hiB X)) ∧ w'.cell? ⟨w1.heap.size, 1, none⟩ = some (.int .u64 (loB X)) ∧ w'.cell? ⟨w1.heap.size, 2, none⟩ = some (.int .u8 fl))
        (simp [go_sem, *])
        (first
          | (go_at_call 20; refine (fits_as t l' u' _ _ HF _ (hT.below (by (repeat (first | exact Below.refl _ _ | assumption | apply Below.drew | apply below_drewN | refine Below.alloc ?_ (by first | omega | (simp <;> omega)) _ | refine Below.setCell ?_ (by first | omega | (simp <;> omega)) _ | refine Below.trans ?_ (Below.mono (by assumption) (by first | omega | (simp <;> omega)))))))).mono ?_; rintro e w5 ⟨rfl, hb5⟩; (try (with_reducible replace hb5 := undrew hb5)); obtain ⟨hc5, hf5⟩ := bcell hb5; have hs5 := hb5.size; (try simp at hs5); (try have y5_0_0 : w.heap.size < w5.heap.size := (by omega)); (try have y5_1_0 : w1.heap.size < w5.heap.size := (by omega)))
          | (go_at_call 21; refine (sig_as g l u _ _ HG _ (hT.below (by (repeat (first | exact Below.refl _ _ | assumption | apply Below.drew | apply below_drewN | refine Below.alloc ?_ (by first | omega | (simp <;> omega)) _ | refine Below.setCell ?_ (by first | omega | (simp <;> omega)) _ | refine Below.trans ?_ (Below.mono (by assumption) (by first | omega | (simp <;> omega)))))))).mono ?_; rintro e w6 ⟨rfl, hb6⟩; (try (with_reducible replace hb6 := undrew hb6)); obtain ⟨hc6, hf6⟩ := bcell hb6; have hs6 := hb6.size; (try simp at hs6); (try have y6_0_0 : w.heap.size < w6.heap.size := (by omega)); (try have y6_1_0 : w1.heap.size < w6.heap.size := (by omega))))
      go_wp2_with (first | (go_at_call 16; refine (goes11_any _ (hT.below (by (repeat (first | exact Below.refl _ _ | assumption | apply Below.drew | apply below_drewN | refine Below.alloc ?_ (by first | omega | (simp <;> omega)) _ | refine Below.setCell ?_ (by first | omega | (simp <;> omega)) _ | refine Below.trans ?_ (Below.mono (by assumption) (by first | omega | (simp <;> omega)))))))).mono ?_; rintro e w9 ⟨rfl, hb9⟩; (try (with_reducible replace hb9 := undrew hb9)); obtain ⟨hc9, hf9⟩ := bcell hb9; have hs9 := hb9.size; (try simp at hs9); (try have y9_0_0 : w.heap.size < w9.heap.size := (by omega)); (try have y9_1_0 : w1.heap.size < w9.heap.size := (by omega))))
      go_ret
      exact ⟨rfl, by (repeat (first | exact Below.refl _ _ | assumption | apply Below.drew | apply below_drewN | refine Below.alloc ?_ (by first | omega | (simp <;> omega)) _ | refine Below.setCell ?_ (by first | omega | (simp <;> omega)) _ | refine Below.trans ?_ (Below.mono (by assumption) (by first | omega | (simp <;> omega)))))⟩
  · have m2 := fun w hT => move_yes t g l' u' l u X Y false 0 ug h1 (Lib.hid h3) (Lib.hid h2) (.inr ⟨rfl, rfl⟩) w hT
    simp only [Bv] at m2
    have HQ := Lib.hid h4
    clear h1 h2 h3 h4
    rcases hs2 with ⟨rfl, h5⟩ | ⟨rfl, h5⟩
    all_goals

      go_enter Tryd.func6, Tryd.ntmps6
      go_wp2_with (first
        | (go_at_call 14; refine (m1 _ (hT.below (by (repeat (first | exact Below.refl _ _ | assumption | apply Below.drew | apply below_drewN | refine Below.alloc ?_ (by first | omega | (simp <;> omega)) _ | refine Below.setCell ?_ (by first | omega | (simp <;> omega)) _ | refine Below.trans ?_ (Below.mono (by assumption) (by first | omega | (simp <;> omega)))))))).mono ?_; rintro e w1 ⟨rfl, hb1⟩; (try (with_reducible replace hb1 := undrew hb1)); obtain ⟨hc1, hf1⟩ := bcell hb1; have hs1 := hb1.size; (try simp at hs1); (try have y1_0_0 : w.heap.size < w1.heap.size := (by omega)); (try have y1_0_1 : w.heap.size < w1.heap.size + 1 := (by omega)))
        | (go_at_call_of 19 (X); refine (clof_as t l' u' _ _ _ HC _ (hT.below (by (repeat (first | exact Below.refl _ _ | assumption | apply Below.drew | apply below_drewN | refine Below.alloc ?_ (by first | omega | (simp <;> omega)) _ | refine Below.setCell ?_ (by first | omega | (simp <;> omega)) _ | refine Below.trans ?_ (Below.mono (by assumption) (by first | omega | (simp <;> omega)))))))).mono ?_; rintro e w3 ⟨rfl, hb3⟩; (try (with_reducible replace hb3 := undrew hb3)); obtain ⟨hc3, hf3⟩ := bcell hb3; have hs3 := hb3.size; (try simp at hs3); (try have y3_0_0 : w.heap.size < w3.heap.size := (by omega)); (try have y3_1_0 : w1.heap.size < w3.heap.size := (by omega)))
        | (go_at_call_of 19 (b); refine (clof_as g l u _ _ _ HC2 _ (hT.below (by (repeat (first | exact Below.refl _ _ | assumption | apply Below.drew | apply below_drewN | refine Below.alloc ?_ (by first | omega | (simp <;> omega)) _ | refine Below.setCell ?_ (by first | omega | (simp <;> omega)) _ | refine Below.trans ?_ (Below.mono (by assumption) (by first | omega | (simp <;> omega)))))))).mono ?_; rintro e w4 ⟨rfl, hb4⟩; (try (with_reducible replace hb4 := undrew hb4)); obtain ⟨hc4, hf4⟩ := bcell hb4; have hs4 := hb4.size; (try simp at hs4); (try have y4_0_0 : w.heap.size < w4.heap.size := (by omega)); (try have y4_1_0 : w1.heap.size < w4.heap.size := (by omega))))
      go_region_held3 (fun w' => w'.cell? ⟨w.heap.size, 0, none⟩ = some (.int .u64 (hiB b)) ∧ w'.cell? ⟨w.heap.size, 1, none⟩ = some (.int .u64 (loB b)) ∧ w'.cell? ⟨w1.heap.size, 0, none⟩ = some (.int .u64 (hiB X)) ∧ w'.cell? ⟨w1.heap.size, 1, none⟩ = some (.int .u64 (loB X)) ∧ w'.cell? ⟨w1.heap.size, 2, none⟩ = some (.int .u8 fl))
        (simp [go_sem, *])
        (first
          | (go_at_call 20; refine (fits_as t l' u' _ _ HF _ (hT.below (by (repeat (first | exact Below.refl _ _ | assumption | apply Below.drew | apply below_drewN | refine Below.alloc ?_ (by first | omega | (simp <;> omega)) _ | refine Below.setCell ?_ (by first | omega | (simp <;> omega)) _ | refine Below.trans ?_ (Below.mono (by assumption) (by first | omega | (simp <;> omega)))))))).mono ?_; rintro e w5 ⟨rfl, hb5⟩; (try (with_reducible replace hb5 := undrew hb5)); obtain ⟨hc5, hf5⟩ := bcell hb5; have hs5 := hb5.size; (try simp at hs5); (try have y5_0_0 : w.heap.size < w5.heap.size := (by omega)); (try have y5_1_0 : w1.heap.size < w5.heap.size := (by omega)))
          | (go_at_call 21; refine (sig_as g l u _ _ HG _ (hT.below (by (repeat (first | exact Below.refl _ _ | assumption | apply Below.drew | apply below_drewN | refine Below.alloc ?_ (by first | omega | (simp <;> omega)) _ | refine Below.setCell ?_ (by first | omega | (simp <;> omega)) _ | refine Below.trans ?_ (Below.mono (by assumption) (by first | omega | (simp <;> omega)))))))).mono ?_; rintro e w6 ⟨rfl, hb6⟩; (try (with_reducible replace hb6 := undrew hb6)); obtain ⟨hc6, hf6⟩ := bcell hb6; have hs6 := hb6.size; (try simp at hs6); (try have y6_0_0 : w.heap.size < w6.heap.size := (by omega)); (try have y6_1_0 : w1.heap.size < w6.heap.size := (by omega))))
      go_wp2_with (first | (go_at_call 14; refine (m2 _ (hT.below (by (repeat (first | exact Below.refl _ _ | assumption | apply Below.drew | apply below_drewN | refine Below.alloc ?_ (by first | omega | (simp <;> omega)) _ | refine Below.setCell ?_ (by first | omega | (simp <;> omega)) _ | refine Below.trans ?_ (Below.mono (by assumption) (by first | omega | (simp <;> omega)))))))).mono ?_; rintro e w7 ⟨rfl, hb7⟩; (try (with_reducible replace hb7 := undrew hb7)); obtain ⟨hc7, hf7⟩ := bcell hb7; have hs7 := hb7.size; (try simp at hs7); (try have y7_0_0 : w.heap.size < w7.heap.size := (by omega)); (try have y7_0_1 : w.heap.size < w7.heap.size + 1 := (by omega)); (try have y7_1_0 : w1.heap.size < w7.heap.size := (by omega)); (try have y7_1_1 : w1.heap.size < w7.heap.size + 1 := (by omega))))
      go_region_held3 (fun w' => w'.cell? ⟨w.heap.size, 0, none⟩ = some (.int .u64 (hiB b)) ∧ w'.cell? ⟨w.heap.size, 1, none⟩ = some (.int .u64 (loB b)) ∧ w'.cell? ⟨w7.heap.size, 0, none⟩ = some (.int .u64 (hiB Y)) ∧ w'.cell? ⟨w7.heap.size, 1, none⟩ = some (.int .u64 (loB Y)) ∧ w'.cell? ⟨w7.heap.size, 2, none⟩ = some (.int .u8 0))
        (simp [go_sem, *])
        (first
          | (go_at_call 22; refine (quiet_as g l u _ _ HQ _ (hT.below (by (repeat (first | exact Below.refl _ _ | assumption | apply Below.drew | apply below_drewN | refine Below.alloc ?_ (by first | omega | (simp <;> omega)) _ | refine Below.setCell ?_ (by first | omega | (simp <;> omega)) _ | refine Below.trans ?_ (Below.mono (by assumption) (by first | omega | (simp <;> omega)))))))).mono ?_; rintro e w8 ⟨rfl, hb8⟩; (try (with_reducible replace hb8 := undrew hb8)); obtain ⟨hc8, hf8⟩ := bcell hb8; have hs8 := hb8.size; (try simp at hs8); (try have y8_0_0 : w.heap.size < w8.heap.size := (by omega)); (try have y8_1_0 : w1.heap.size < w8.heap.size := (by omega)); (try have y8_2_0 : w7.heap.size < w8.heap.size := (by omega)))
          | (go_at_call 16; refine (goes11_any _ (hT.below (by (repeat (first | exact Below.refl _ _ | assumption | apply Below.drew | apply below_drewN | refine Below.alloc ?_ (by first | omega | (simp <;> omega)) _ | refine Below.setCell ?_ (by first | omega | (simp <;> omega)) _ | refine Below.trans ?_ (Below.mono (by assumption) (by first | omega | (simp <;> omega)))))))).mono ?_; rintro e w9 ⟨rfl, hb9⟩; (try (with_reducible replace hb9 := undrew hb9)); obtain ⟨hc9, hf9⟩ := bcell hb9; have hs9 := hb9.size; (try simp at hs9); (try have y9_0_0 : w.heap.size < w9.heap.size := (by omega)); (try have y9_1_0 : w1.heap.size < w9.heap.size := (by omega)); (try have y9_2_0 : w7.heap.size < w9.heap.size := (by omega))))
      go_wp2
      go_ret
      exact ⟨rfl, by (repeat (first | exact Below.refl _ _ | assumption | apply Below.drew | apply below_drewN | refine Below.alloc ?_ (by first | omega | (simp <;> omega)) _ | refine Below.setCell ?_ (by first | omega | (simp <;> omega)) _ | refine Below.trans ?_ (Below.mono (by assumption) (by first | omega | (simp <;> omega)))))⟩
theorem walk_payloadBack (g : Int) (l : 0 ≤ g) (u : g ≤ 255) (t : Int) (l' : 0 ≤ t) (u' : t ≤ 255) (b : BitVec 128) (w : World) (hT : Tab w) :
    Calls Tryd.prog 6 #[.int .u8 g, .int .u8 t, Bv b] w fun e w' => e = .returned (.bool true) ∧ Gr w w' := by
  by_cases ht : t < 4
  · cases hn : cNaN g b with
    | false =>
      have HN := Lib.hid hn
      have hm := fun w hT => move_no g t l u l' u' b (.inr hn) w hT
      clear hn
      simp only [Bv]

      go_enter Tryd.func6, Tryd.ntmps6
      go_wp2_with (first
        | (go_at_call 14; refine (hm _ (hT.below (by (repeat (first | exact Below.refl _ _ | assumption | apply Below.drew | apply below_drewN | refine Below.alloc ?_ (by first | omega | (simp <;> omega)) _ | refine Below.setCell ?_ (by first | omega | (simp <;> omega)) _ | refine Below.trans ?_ (Below.mono (by assumption) (by first | omega | (simp <;> omega)))))))).mono ?_; rintro e w1 ⟨rfl, hb1⟩; (try (with_reducible replace hb1 := undrew hb1)); obtain ⟨hc1, hf1⟩ := bcell hb1; have hs1 := hb1.size; (try simp at hs1); (try have y1_0_0 : w.heap.size < w1.heap.size := (by omega)); (try have y1_0_1 : w.heap.size < w1.heap.size + 1 := (by omega)))
        | (go_at_call 18; refine (nan_as g l u _ _ HN _ (hT.below (by (repeat (first | exact Below.refl _ _ | assumption | apply Below.drew | apply below_drewN | refine Below.alloc ?_ (by first | omega | (simp <;> omega)) _ | refine Below.setCell ?_ (by first | omega | (simp <;> omega)) _ | refine Below.trans ?_ (Below.mono (by assumption) (by first | omega | (simp <;> omega)))))))).mono ?_; rintro e w2 ⟨rfl, hb2⟩; (try (with_reducible replace hb2 := undrew hb2)); obtain ⟨hc2, hf2⟩ := bcell hb2; have hs2 := hb2.size; (try simp at hs2); (try have y2_0_0 : w.heap.size < w2.heap.size := (by omega)); (try have y2_1_0 : w1.heap.size < w2.heap.size := (by omega)))
        | (go_at_call 16; refine (goes11_any _ (hT.below (by (repeat (first | exact Below.refl _ _ | assumption | apply Below.drew | apply below_drewN | refine Below.alloc ?_ (by first | omega | (simp <;> omega)) _ | refine Below.setCell ?_ (by first | omega | (simp <;> omega)) _ | refine Below.trans ?_ (Below.mono (by assumption) (by first | omega | (simp <;> omega)))))))).mono ?_; rintro e w9 ⟨rfl, hb9⟩; (try (with_reducible replace hb9 := undrew hb9)); obtain ⟨hc9, hf9⟩ := bcell hb9; have hs9 := hb9.size; (try simp at hs9); (try have y9_0_0 : w.heap.size < w9.heap.size := (by omega)); (try have y9_1_0 : w1.heap.size < w9.heap.size := (by omega))))
      go_ret
      exact ⟨rfl, by (repeat (first | exact Below.refl _ _ | assumption | apply Below.drew | apply below_drewN | refine Below.alloc ?_ (by first | omega | (simp <;> omega)) _ | refine Below.setCell ?_ (by first | omega | (simp <;> omega)) _ | refine Below.trans ?_ (Below.mono (by assumption) (by first | omega | (simp <;> omega)))))⟩
    | true =>
      have ug := nan_known g b hn
      obtain ⟨o1, o2, o3, _⟩ := mv_ok g t l ug l' ht b
      have oq := mv_quiet g t l ug l' ht b
      have way : t < g ∨ (g ≤ t ∧ cNaN t (mvB g t b) = true ∧ cSig t (mvB g t b) = false ∧ mvB t g (mvB g t b) = nQ g b ∧ nQ g b = nQ g b) := by
        by_cases h : t < g
        · exact .inl h
        · exact .inr ⟨by omega, oq.1, oq.2, mv_back g t l ug l' ht (by omega) b hn, rfl⟩
      cases hs : cSig g b
      · exact payback_core g t l u l' u' ug ht b _ _ _ false _ 0 (Lib.hid hn) (Lib.hid hs) (Lib.hid rfl) (Lib.hid o3) (Lib.hid ⟨o1, o2⟩) (Lib.hid ⟨rfl, rfl⟩) (.inr ⟨rfl, rfl⟩) way w hT
      · exact payback_core g t l u l' u' ug ht b _ _ _ true _ 1 (Lib.hid hn) (Lib.hid hs) (Lib.hid rfl) (Lib.hid o3) (Lib.hid ⟨o1, o2⟩) (Lib.hid ⟨rfl, rfl⟩) (.inl ⟨rfl, rfl⟩) way w hT
  · have hm := fun w hT => move_no g t l u l' u' b (.inl ht) w hT
    obtain ⟨r, hr⟩ : ∃ r, cNaN g b = r := ⟨_, rfl⟩
    have HN := Lib.hid hr
    clear hr
    simp only [Bv]
    cases r
    all_goals

      go_enter Tryd.func6, Tryd.ntmps6
      go_wp2_with (first
        | (go_at_call 17; refine (known_no t l' u' (by omega) _).mono ?_; rintro e wq ⟨rfl, rfl⟩)
        | (go_at_call 14; refine (hm _ (hT.below (by (repeat (first | exact Below.refl _ _ | assumption | apply Below.drew | apply below_drewN | refine Below.alloc ?_ (by first | omega | (simp <;> omega)) _ | refine Below.setCell ?_ (by first | omega | (simp <;> omega)) _ | refine Below.trans ?_ (Below.mono (by assumption) (by first | omega | (simp <;> omega)))))))).mono ?_; rintro e w1 ⟨rfl, hb1⟩; (try (with_reducible replace hb1 := undrew hb1)); obtain ⟨hc1, hf1⟩ := bcell hb1; have hs1 := hb1.size; (try simp at hs1); (try have y1_0_0 : w.heap.size < w1.heap.size := (by omega)); (try have y1_0_1 : w.heap.size < w1.heap.size + 1 := (by omega)))
        | (go_at_call 18; refine (nan_as g l u _ _ HN _ (hT.below (by (repeat (first | exact Below.refl _ _ | assumption | apply Below.drew | apply below_drewN | refine Below.alloc ?_ (by first | omega | (simp <;> omega)) _ | refine Below.setCell ?_ (by first | omega | (simp <;> omega)) _ | refine Below.trans ?_ (Below.mono (by assumption) (by first | omega | (simp <;> omega)))))))).mono ?_; rintro e w2 ⟨rfl, hb2⟩; (try (with_reducible replace hb2 := undrew hb2)); obtain ⟨hc2, hf2⟩ := bcell hb2; have hs2 := hb2.size; (try simp at hs2); (try have y2_0_0 : w.heap.size < w2.heap.size := (by omega)); (try have y2_1_0 : w1.heap.size < w2.heap.size := (by omega)))
        | (go_at_call 16; refine (goes11_any _ (hT.below (by (repeat (first | exact Below.refl _ _ | assumption | apply Below.drew | apply below_drewN | refine Below.alloc ?_ (by first | omega | (simp <;> omega)) _ | refine Below.setCell ?_ (by first | omega | (simp <;> omega)) _ | refine Below.trans ?_ (Below.mono (by assumption) (by first | omega | (simp <;> omega)))))))).mono ?_; rintro e w9 ⟨rfl, hb9⟩; (try (with_reducible replace hb9 := undrew hb9)); obtain ⟨hc9, hf9⟩ := bcell hb9; have hs9 := hb9.size; (try simp at hs9); (try have y9_0_0 : w.heap.size < w9.heap.size := (by omega)); (try have y9_1_0 : w1.heap.size < w9.heap.size := (by omega))))
      go_ret
      exact ⟨rfl, by (repeat (first | exact Below.refl _ _ | assumption | apply Below.drew | apply below_drewN | refine Below.alloc ?_ (by first | omega | (simp <;> omega)) _ | refine Below.setCell ?_ (by first | omega | (simp <;> omega)) _ | refine Below.trans ?_ (Below.mono (by assumption) (by first | omega | (simp <;> omega)))))⟩
end Hb
end Go.Proofs.YtkkbenhmgfohiaaDoor
