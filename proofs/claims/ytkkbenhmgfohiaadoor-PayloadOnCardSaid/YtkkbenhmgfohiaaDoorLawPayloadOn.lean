/-
  THE WALK of the law PayloadOn. Conditions: the table of the formats holds its numbers.
-/
import Derived.Test.YtkkbenhmgfohiaaDoorGoes11
namespace Go.Proofs.YtkkbenhmgfohiaaDoor
open Go.RowKit
namespace Hb
set_option maxRecDepth 20000
set_option maxHeartbeats 8000000 in
theorem on_core (g m t : Int) (l : 0 ≤ g) (u : g < 4) (lm : 0 ≤ m) (um : m < 4) (l' : 0 ≤ t) (u' : t < 4) (b X Y : BitVec 128) (s : Bool) (fl : Int) (HN : Hid (cNaN g b = true)) (HN2 : Hid (cNaN m X = true)) (HG : Hid (cSig g b = s)) (HG2 : Hid (cSig m X = false))
    (HX : Hid (mvB g m b = X)) (HY : Hid (mvB m t X = Y)) (HZ : Hid (mvB g t b = Y)) (hs : (s = true ∧ fl = 1) ∨ (s = false ∧ fl = 0)) (way : (g ≤ m ∧ m ≤ t) ∨ (m ≤ g ∧ t ≤ m)) (w : World) (hT : Tab w) :
    Calls Tryd.prog 4 #[Bv b, .int .u8 g, .int .u8 m, .int .u8 t] w fun e w' => e = .returned (.bool true) ∧ Gr w w' := by
  have m1 := fun w hT => move_yes g m l (by omega) lm (by omega) b X s fl um HN.out HX HG hs w hT
  have m2 := fun w hT => move_yes m t lm (by omega) l' (by omega) X Y false 0 u' HN2.out HY HG2 (.inr ⟨rfl, rfl⟩) w hT
  have m3 := fun w hT => move_yes g t l (by omega) l' (by omega) b Y s fl u' HN.out HZ HG hs w hT
  clear hs
  simp only [Bv]
  simp only [Bv] at m1 m2 m3
  have cs : (g ≤ m ∧ m ≤ t) ∨ (g ≤ m ∧ t < m ∧ m ≤ g ∧ t ≤ m) ∨ (m < g ∧ m ≤ g ∧ t ≤ m) := by omega
  clear way
  rcases cs with ⟨h1, h2⟩ | ⟨h1, h2, h3, h4⟩ | ⟨h1, h2, h3⟩
  all_goals
    (try have dx : decide (m ≤ t) = false := by simp; omega)

    go_enter Tryd.func4, Tryd.ntmps4
    go_wp2_with (first
      | (go_at_call_of 17 (g); refine (known_yes g l u _).mono ?_; rintro e wq ⟨rfl, rfl⟩)
      | (go_at_call_of 17 (m); refine (known_yes m lm um _).mono ?_; rintro e wq ⟨rfl, rfl⟩)
      | (go_at_call_of 17 (t); refine (known_yes t l' u' _).mono ?_; rintro e wq ⟨rfl, rfl⟩)
      | (go_at_call 18; refine (nan_as g l (by omega) _ _ HN _ (hT.below (by (repeat (first | exact Below.refl _ _ | assumption | apply Below.drew | apply below_drewN | refine Below.alloc ?_ (by first | omega | (simp <;> omega)) _ | refine Below.setCell ?_ (by first | omega | (simp <;> omega)) _ | refine Below.trans ?_ (Below.mono (by assumption) (by first | omega | (simp <;> omega)))))))).mono ?_; rintro e w1 ⟨rfl, hb1⟩; (try (with_reducible replace hb1 := undrew hb1)); obtain ⟨hc1, hf1⟩ := bcell hb1; have hs1 := hb1.size; (try simp at hs1); (try have y1_0_0 : w.heap.size < w1.heap.size := (by omega)))
      | (go_at_call_of 14 (g); go_at_call_of 14 m; refine (m1 _ (hT.below (by (repeat (first | exact Below.refl _ _ | assumption | apply Below.drew | apply below_drewN | refine Below.alloc ?_ (by first | omega | (simp <;> omega)) _ | refine Below.setCell ?_ (by first | omega | (simp <;> omega)) _ | refine Below.trans ?_ (Below.mono (by assumption) (by first | omega | (simp <;> omega)))))))).mono ?_; rintro e w2 ⟨rfl, hb2⟩; (try (with_reducible replace hb2 := undrew hb2)); obtain ⟨hc2, hf2⟩ := bcell hb2; have hs2 := hb2.size; (try simp at hs2); (try have y2_0_0 : w.heap.size < w2.heap.size := (by omega)); (try have y2_0_1 : w.heap.size < w2.heap.size + 1 := (by omega)))
      | (go_at_call_of 14 (X); refine (m2 _ (hT.below (by (repeat (first | exact Below.refl _ _ | assumption | apply Below.drew | apply below_drewN | refine Below.alloc ?_ (by first | omega | (simp <;> omega)) _ | refine Below.setCell ?_ (by first | omega | (simp <;> omega)) _ | refine Below.trans ?_ (Below.mono (by assumption) (by first | omega | (simp <;> omega)))))))).mono ?_; rintro e w3 ⟨rfl, hb3⟩; (try (with_reducible replace hb3 := undrew hb3)); obtain ⟨hc3, hf3⟩ := bcell hb3; have hs3 := hb3.size; (try simp at hs3); (try have y3_0_0 : w.heap.size < w3.heap.size := (by omega)); (try have y3_0_1 : w.heap.size < w3.heap.size + 1 := (by omega)); (try have y3_1_0 : w2.heap.size < w3.heap.size := (by omega)); (try have y3_1_1 : w2.heap.size < w3.heap.size + 1 := (by omega)))
      | (go_at_call_of 14 (g); go_at_call_of 14 t; refine (m3 _ (hT.below (by (repeat (first | exact Below.refl _ _ | assumption | apply Below.drew | apply below_drewN | refine Below.alloc ?_ (by first | omega | (simp <;> omega)) _ | refine Below.setCell ?_ (by first | omega | (simp <;> omega)) _ | refine Below.trans ?_ (Below.mono (by assumption) (by first | omega | (simp <;> omega)))))))).mono ?_; rintro e w4 ⟨rfl, hb4⟩; (try (with_reducible replace hb4 := undrew hb4)); obtain ⟨hc4, hf4⟩ := bcell hb4; have hs4 := hb4.size; (try simp at hs4); (try have y4_0_0 : w.heap.size < w4.heap.size := (by omega)); (try have y4_0_1 : w.heap.size < w4.heap.size + 1 := (by omega)); (try have y4_1_0 : w2.heap.size < w4.heap.size := (by omega)); (try have y4_1_1 : w2.heap.size < w4.heap.size + 1 := (by omega)); (try have y4_2_0 : w3.heap.size < w4.heap.size := (by omega)); (try have y4_2_1 : w3.heap.size < w4.heap.size + 1 := (by omega)))
      | (go_at_call 16; refine (goes11_any _ (hT.below (by (repeat (first | exact Below.refl _ _ | assumption | apply Below.drew | apply below_drewN | refine Below.alloc ?_ (by first | omega | (simp <;> omega)) _ | refine Below.setCell ?_ (by first | omega | (simp <;> omega)) _ | refine Below.trans ?_ (Below.mono (by assumption) (by first | omega | (simp <;> omega)))))))).mono ?_; rintro e w5 ⟨rfl, hb5⟩; (try (with_reducible replace hb5 := undrew hb5)); obtain ⟨hc5, hf5⟩ := bcell hb5; have hs5 := hb5.size; (try simp at hs5); (try have y5_0_0 : w.heap.size < w5.heap.size := (by omega)); (try have y5_1_0 : w2.heap.size < w5.heap.size := (by omega)); (try have y5_2_0 : w3.heap.size < w5.heap.size := (by omega)); (try have y5_3_0 : w4.heap.size < w5.heap.size := (by omega))))
    go_ret
    exact ⟨rfl, by (repeat (first | exact Below.refl _ _ | assumption | apply Below.drew | apply below_drewN | refine Below.alloc ?_ (by first | omega | (simp <;> omega)) _ | refine Below.setCell ?_ (by first | omega | (simp <;> omega)) _ | refine Below.trans ?_ (Below.mono (by assumption) (by first | omega | (simp <;> omega)))))⟩
set_option maxHeartbeats 4000000 in
theorem walk_payloadOn (b : BitVec 128) (g : Int) (l : 0 ≤ g) (u : g ≤ 255) (m : Int) (lm : 0 ≤ m) (um : m ≤ 255) (t : Int) (l' : 0 ≤ t) (u' : t ≤ 255) (w : World) (hT : Tab w) :
    Calls Tryd.prog 4 #[Bv b, .int .u8 g, .int .u8 m, .int .u8 t] w fun e w' => e = .returned (.bool true) ∧ Gr w w' := by
  have goal : (¬ g < 4 ∨ ¬ m < 4 ∨ ¬ t < 4 ∨ cNaN g b = false ∨ ¬ ((g ≤ m ∧ m ≤ t) ∨ (m ≤ g ∧ t ≤ m))) ∨ (g < 4 ∧ m < 4 ∧ t < 4 ∧ cNaN g b = true ∧ ((g ≤ m ∧ m ≤ t) ∨ (m ≤ g ∧ t ≤ m))) := by
    cases cNaN g b <;> simp <;> omega
  rcases goal with h | ⟨h1, h2, h3, h4, h5⟩
  · obtain ⟨r, hr⟩ : ∃ r, cNaN g b = r := ⟨_, rfl⟩
    rw [hr] at h
    have HN := Lib.hid hr
    clear hr
    simp only [Bv]
    have cs : ¬ g < 4 ∨ (g < 4 ∧ ¬ m < 4) ∨ (g < 4 ∧ m < 4 ∧ ¬ t < 4) ∨ (g < 4 ∧ m < 4 ∧ t < 4 ∧ r = false) ∨ (g < 4 ∧ m < 4 ∧ t < 4 ∧ r = true ∧ g < m ∧ t < m) ∨ (g < 4 ∧ m < 4 ∧ t < 4 ∧ r = true ∧ m < g ∧ m < t) := by
      cases r <;> simp at h ⊢ <;> omega
    clear h
    rcases cs with h1 | ⟨h1, h2⟩ | ⟨h1, h2, h3⟩ | ⟨h1, h2, h3, rfl⟩ | ⟨h1, h2, h3, rfl, h4, h5⟩ | ⟨h1, h2, h3, rfl, h4, h5⟩
    all_goals
      (try have dx : decide (m ≤ t) = false := by simp; omega)
      (try have dy : decide (t ≤ m) = false := by simp; omega)

      go_enter Tryd.func4, Tryd.ntmps4
      go_wp2_with (first
        | (go_at_call_of 17 (g); refine (known_yes g l (by omega) _).mono ?_; rintro e wq ⟨rfl, rfl⟩)
        | (go_at_call_of 17 (g); refine (known_no g l u (by omega) _).mono ?_; rintro e wq ⟨rfl, rfl⟩)
        | (go_at_call_of 17 (m); refine (known_yes m lm (by omega) _).mono ?_; rintro e wq ⟨rfl, rfl⟩)
        | (go_at_call_of 17 (m); refine (known_no m lm um (by omega) _).mono ?_; rintro e wq ⟨rfl, rfl⟩)
        | (go_at_call_of 17 (t); refine (known_yes t l' (by omega) _).mono ?_; rintro e wq ⟨rfl, rfl⟩)
        | (go_at_call_of 17 (t); refine (known_no t l' u' (by omega) _).mono ?_; rintro e wq ⟨rfl, rfl⟩)
        | (go_at_call 18; refine (nan_as g l u _ _ HN _ (hT.below (by (repeat (first | exact Below.refl _ _ | assumption | apply Below.drew | apply below_drewN | refine Below.alloc ?_ (by first | omega | (simp <;> omega)) _ | refine Below.setCell ?_ (by first | omega | (simp <;> omega)) _ | refine Below.trans ?_ (Below.mono (by assumption) (by first | omega | (simp <;> omega)))))))).mono ?_; rintro e w1 ⟨rfl, hb1⟩; (try (with_reducible replace hb1 := undrew hb1)); obtain ⟨hc1, hf1⟩ := bcell hb1; have hs1 := hb1.size; (try simp at hs1); (try have y1_0_0 : w.heap.size < w1.heap.size := (by omega)))
        | (go_at_call 16; refine (goes11_any _ (hT.below (by (repeat (first | exact Below.refl _ _ | assumption | apply Below.drew | apply below_drewN | refine Below.alloc ?_ (by first | omega | (simp <;> omega)) _ | refine Below.setCell ?_ (by first | omega | (simp <;> omega)) _ | refine Below.trans ?_ (Below.mono (by assumption) (by first | omega | (simp <;> omega)))))))).mono ?_; rintro e w5 ⟨rfl, hb5⟩; (try (with_reducible replace hb5 := undrew hb5)); obtain ⟨hc5, hf5⟩ := bcell hb5; have hs5 := hb5.size; (try simp at hs5); (try have y5_0_0 : w.heap.size < w5.heap.size := (by omega))))
      go_ret
      exact ⟨rfl, by (repeat (first | exact Below.refl _ _ | assumption | apply Below.drew | apply below_drewN | refine Below.alloc ?_ (by first | omega | (simp <;> omega)) _ | refine Below.setCell ?_ (by first | omega | (simp <;> omega)) _ | refine Below.trans ?_ (Below.mono (by assumption) (by first | omega | (simp <;> omega)))))⟩
  · have hq := mv_quiet g m l h1 lm h2 b
    have ho := mv_on g m t l h1 lm h2 l' h3 h5 b
    cases hs : cSig g b
    · exact on_core g m t l h1 lm h2 l' h3 b _ _ false 0 (Lib.hid h4) (Lib.hid hq.1) (Lib.hid hs) (Lib.hid hq.2) (Lib.hid rfl) (Lib.hid ho) (Lib.hid rfl) (.inr ⟨rfl, rfl⟩) h5 w hT
    · exact on_core g m t l h1 lm h2 l' h3 b _ _ true 1 (Lib.hid h4) (Lib.hid hq.1) (Lib.hid hs) (Lib.hid hq.2) (Lib.hid rfl) (Lib.hid ho) (Lib.hid rfl) (.inl ⟨rfl, rfl⟩) h5 w hT
end Hb
end Go.Proofs.YtkkbenhmgfohiaaDoor
