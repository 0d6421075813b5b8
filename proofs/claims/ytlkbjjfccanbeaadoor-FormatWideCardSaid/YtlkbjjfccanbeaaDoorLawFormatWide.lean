/-
  THE WALK of the law FormatWide. Conditions: the table of the formats holds its numbers.
-/
import Derived.Test.YtlkbjjfccanbeaaDoorGoes
namespace Go.Proofs.YtlkbjjfccanbeaaDoor
open Go.RowKit
namespace Hb
theorem qP0 : fPr 0 = 11 := by rfl
theorem qP1 : fPr 1 = 24 := by rfl
theorem qP2 : fPr 2 = 53 := by rfl
theorem qP3 : fPr 3 = 113 := by rfl
theorem qE0 : fEm 0 = 15 := by rfl
theorem qE1 : fEm 1 = 127 := by rfl
theorem qE2 : fEm 2 = 1023 := by rfl
theorem qE3 : fEm 3 = 16383 := by rfl
theorem qW0 : fWd 0 = 16 := by rfl
theorem qW1 : fWd 1 = 32 := by rfl
theorem qW2 : fWd 2 = 64 := by rfl
theorem qW3 : fWd 3 = 128 := by rfl
theorem prec_at (f p : Int) (h0 : 0 ≤ f) (h1 : f ≤ 255) (hp : fPr f = p) (w : World) (hT : Tab w) : Calls Tryd.prog 17 #[.int .u8 f] w fun x w' => x = .returned (.int .i64 p) ∧ Gr w w' := hp ▸ prec_any f h0 h1 w hT
theorem emax_at (f p : Int) (h0 : 0 ≤ f) (h1 : f ≤ 255) (hp : fEm f = p) (w : World) (hT : Tab w) : Calls Tryd.prog 18 #[.int .u8 f] w fun x w' => x = .returned (.int .i64 p) ∧ Gr w w' := hp ▸ emax_any f h0 h1 w hT
theorem width_at (f p : Int) (h0 : 0 ≤ f) (h1 : f ≤ 255) (hp : fWd f = p) (w : World) (hT : Tab w) : Calls Tryd.prog 19 #[.int .u8 f] w fun x w' => x = .returned (.int .i64 p) ∧ Gr w w' := hp ▸ width_any f h0 h1 w hT
theorem walk_formatWide (a : Int) (l : 0 ≤ a) (u : a ≤ 255) (w : World) (hT : Tab w) :
    Calls Tryd.prog 4 #[.int .u8 a] w fun e w' => e = .returned (.bool true) ∧ Gr w w' := by
  by_cases h : 2 < a
  · go_enter Tryd.func4, Tryd.ntmps4
    go_wp2_with (first | (go_at_call 16; refine (goes_any _ (hT.below (by (repeat (first | exact Below.refl _ _ | assumption | apply Below.drew | apply below_drewN | refine Below.alloc ?_ (by first | omega | (simp <;> omega)) _ | refine Below.setCell ?_ (by first | omega | (simp <;> omega)) _ | refine Below.trans ?_ (Below.mono (by assumption) (by first | omega | (simp <;> omega)))))))).mono ?_; rintro e w1 ⟨rfl, hb1⟩; (try (with_reducible replace hb1 := undrew hb1)); obtain ⟨hc1, hf1⟩ := bcell hb1; have hs1 := hb1.size; (try simp at hs1)))
    go_ret
    exact ⟨rfl, by (repeat (first | exact Below.refl _ _ | assumption | apply Below.drew | apply below_drewN | refine Below.alloc ?_ (by first | omega | (simp <;> omega)) _ | refine Below.setCell ?_ (by first | omega | (simp <;> omega)) _ | refine Below.trans ?_ (Below.mono (by assumption) (by first | omega | (simp <;> omega)))))⟩
  · obtain rfl | rfl | rfl : a = 0 ∨ a = 1 ∨ a = 2 := by omega
    all_goals
      go_enter Tryd.func4, Tryd.ntmps4
      go_wp2_with (first
          | (go_at_call 17; refine (prec_at _ _ (by decide) (by decide) (by rfl) _ (hT.below (by (repeat (first | exact Below.refl _ _ | assumption | apply Below.drew | apply below_drewN | refine Below.alloc ?_ (by first | omega | (simp <;> omega)) _ | refine Below.setCell ?_ (by first | omega | (simp <;> omega)) _ | refine Below.trans ?_ (Below.mono (by assumption) (by first | omega | (simp <;> omega)))))))).mono ?_; rintro e w1 ⟨rfl, hb1⟩; simp only [qP0, qP1, qP2, qP3]; (try (with_reducible replace hb1 := undrew hb1)); obtain ⟨hc1, hf1⟩ := bcell hb1; have hs1 := hb1.size; (try simp at hs1))
          | (go_at_call 18; refine (emax_at _ _ (by decide) (by decide) (by rfl) _ (hT.below (by (repeat (first | exact Below.refl _ _ | assumption | apply Below.drew | apply below_drewN | refine Below.alloc ?_ (by first | omega | (simp <;> omega)) _ | refine Below.setCell ?_ (by first | omega | (simp <;> omega)) _ | refine Below.trans ?_ (Below.mono (by assumption) (by first | omega | (simp <;> omega)))))))).mono ?_; rintro e w2 ⟨rfl, hb2⟩; simp only [qE0, qE1, qE2, qE3]; (try (with_reducible replace hb2 := undrew hb2)); obtain ⟨hc2, hf2⟩ := bcell hb2; have hs2 := hb2.size; (try simp at hs2))
          | (go_at_call 19; refine (width_at _ _ (by decide) (by decide) (by rfl) _ (hT.below (by (repeat (first | exact Below.refl _ _ | assumption | apply Below.drew | apply below_drewN | refine Below.alloc ?_ (by first | omega | (simp <;> omega)) _ | refine Below.setCell ?_ (by first | omega | (simp <;> omega)) _ | refine Below.trans ?_ (Below.mono (by assumption) (by first | omega | (simp <;> omega)))))))).mono ?_; rintro e w3 ⟨rfl, hb3⟩; simp only [qW0, qW1, qW2, qW3]; (try (with_reducible replace hb3 := undrew hb3)); obtain ⟨hc3, hf3⟩ := bcell hb3; have hs3 := hb3.size; (try simp at hs3))
          | (go_at_call 16; refine (goes_any _ (hT.below (by (repeat (first | exact Below.refl _ _ | assumption | apply Below.drew | apply below_drewN | refine Below.alloc ?_ (by first | omega | (simp <;> omega)) _ | refine Below.setCell ?_ (by first | omega | (simp <;> omega)) _ | refine Below.trans ?_ (Below.mono (by assumption) (by first | omega | (simp <;> omega)))))))).mono ?_; rintro e w4 ⟨rfl, hb4⟩; (try (with_reducible replace hb4 := undrew hb4)); obtain ⟨hc4, hf4⟩ := bcell hb4; have hs4 := hb4.size; (try simp at hs4)))
      go_ret
      exact ⟨rfl, by (repeat (first | exact Below.refl _ _ | assumption | apply Below.drew | apply below_drewN | refine Below.alloc ?_ (by first | omega | (simp <;> omega)) _ | refine Below.setCell ?_ (by first | omega | (simp <;> omega)) _ | refine Below.trans ?_ (Below.mono (by assumption) (by first | omega | (simp <;> omega)))))⟩
end Hb
end Go.Proofs.YtlkbjjfccanbeaaDoor
