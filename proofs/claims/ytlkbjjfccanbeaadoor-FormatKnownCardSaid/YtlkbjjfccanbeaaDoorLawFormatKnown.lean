/-
  THE WALK of the law FormatKnown. Conditions: the table of the formats holds its numbers.
-/
import Derived.Test.YtlkbjjfccanbeaaDoorGoes
namespace Go.Proofs.YtlkbjjfccanbeaaDoor
open Go.RowKit
namespace Hb
theorem fits_hl (f : Int) (h0 : 0 ≤ f) (h1 : f ≤ 255) (h l : Int) (hh : Word h) (hl : Word l) (w : World) (hT : Tab w) :
    Calls Tryd.prog 24 #[.int .u8 f, .agg #[.int .u64 h, .int .u64 l]] w fun x w' => x = .returned (.bool (fFits f (mkB h l))) ∧ Gr w w' := by
  have := fits_any f h0 h1 (mkB h l) w hT
  rw [bv_mk h l hh hl] at this
  exact this
theorem ekN : fNeg 3 (mkB 13834776580305453056 5) = true := by decide +kernel
theorem ekE : fExp 3 (mkB 13834776580305453056 5) = 16383 := by decide +kernel
theorem ekF : Bv (fFrac 3 (mkB 13834776580305453056 5)) = .agg #[.int .u64 0, .int .u64 5] := by
  rw [show fFrac 3 (mkB 13834776580305453056 5) = mkB 0 5 by decide +kernel, bv_mk 0 _ ⟨by decide, by decide⟩ ⟨by decide, by decide⟩]
theorem ekA : fFits 0 (mkB 0 131071) = false := by decide +kernel
theorem ekB : fFits 4 (mkB 0 0) = false := by decide +kernel
theorem ekW : fWd 4 = 0 := by decide +kernel
theorem ekK : fKn 255 = false := by decide +kernel
theorem ekI : Bv (fInf 3 false) = .agg #[.int .u64 9223090561878065152, .int .u64 0] := by
  rw [show fInf 3 false = mkB 9223090561878065152 0 by decide +kernel, bv_mk _ 0 ⟨by decide, by decide⟩ ⟨by decide, by decide⟩]
theorem ekM : Bv (fMax 2 true) = .agg #[.int .u64 0, .int .u64 18442240474082181119] := by
  rw [show fMax 2 true = mkB 0 18442240474082181119 by decide +kernel, bv_mk 0 _ ⟨by decide, by decide⟩ ⟨by decide, by decide⟩]
theorem ekX : Bv (fMake 0 true (-1) (mkB 0 1024)) = .agg #[.int .u64 0, .int .u64 32768] := by
  rw [show fMake 0 true (-1) (mkB 0 1024) = mkB 0 32768 by decide +kernel, bv_mk 0 _ ⟨by decide, by decide⟩ ⟨by decide, by decide⟩]
theorem ekY : Bv (fMake 0 false 33 (mkB 0 0)) = .agg #[.int .u64 0, .int .u64 1024] := by
  rw [show fMake 0 false 33 (mkB 0 0) = mkB 0 1024 by decide +kernel, bv_mk 0 _ ⟨by decide, by decide⟩ ⟨by decide, by decide⟩]
theorem walk_formatKnown (w : World) (hT : Tab w) :
    Calls Tryd.prog 6 #[] w fun e w' => e = .returned (.bool true) ∧ Gr w w' := by
  go_enter Tryd.func6, Tryd.ntmps6
  go_wp2_with (first
    | (go_at_call 10; refine (split_hl _ (by decide) (by decide) _ _ ⟨by decide, by decide⟩ ⟨by decide, by decide⟩ _ (hT.below (by (repeat (first | exact Below.refl _ _ | assumption | apply Below.drew | apply below_drewN | refine Below.alloc ?_ (by first | omega | (simp <;> omega)) _ | refine Below.setCell ?_ (by first | omega | (simp <;> omega)) _ | refine Below.trans ?_ (Below.mono (by assumption) (by first | omega | (simp <;> omega)))))))).mono ?_; rintro e w1 ⟨rfl, hb1⟩; simp only [ekN, ekE, ekF]; (try (with_reducible replace hb1 := undrew hb1)); obtain ⟨hc1, hf1⟩ := bcell hb1; have hs1 := hb1.size; (try simp at hs1))
    | (go_at_call 24; refine (fits_hl _ (by decide) (by decide) _ _ ⟨by decide, by decide⟩ ⟨by decide, by decide⟩ _ (hT.below (by (repeat (first | exact Below.refl _ _ | assumption | apply Below.drew | apply below_drewN | refine Below.alloc ?_ (by first | omega | (simp <;> omega)) _ | refine Below.setCell ?_ (by first | omega | (simp <;> omega)) _ | refine Below.trans ?_ (Below.mono (by assumption) (by first | omega | (simp <;> omega)))))))).mono ?_; rintro e w2 ⟨rfl, hb2⟩; simp only [ekA, ekB]; (try (with_reducible replace hb2 := undrew hb2)); obtain ⟨hc2, hf2⟩ := bcell hb2; have hs2 := hb2.size; (try simp at hs2))
    | (go_at_call 19; refine (width_any _ (by decide) (by decide) _ (hT.below (by (repeat (first | exact Below.refl _ _ | assumption | apply Below.drew | apply below_drewN | refine Below.alloc ?_ (by first | omega | (simp <;> omega)) _ | refine Below.setCell ?_ (by first | omega | (simp <;> omega)) _ | refine Below.trans ?_ (Below.mono (by assumption) (by first | omega | (simp <;> omega)))))))).mono ?_; rintro e w3 ⟨rfl, hb3⟩; simp only [ekW]; (try (with_reducible replace hb3 := undrew hb3)); obtain ⟨hc3, hf3⟩ := bcell hb3; have hs3 := hb3.size; (try simp at hs3))
    | (go_at_call 20; refine (known_any _ (by decide) (by decide) _).mono ?_; rintro e w4 ⟨rfl, rfl⟩; simp only [ekK])
    | (go_at_call 25; refine (inf_any _ (by decide) (by decide) _ _ (hT.below (by (repeat (first | exact Below.refl _ _ | assumption | apply Below.drew | apply below_drewN | refine Below.alloc ?_ (by first | omega | (simp <;> omega)) _ | refine Below.setCell ?_ (by first | omega | (simp <;> omega)) _ | refine Below.trans ?_ (Below.mono (by assumption) (by first | omega | (simp <;> omega)))))))).mono ?_; rintro e w5 ⟨rfl, hb5⟩; simp only [ekI]; (try (with_reducible replace hb5 := undrew hb5)); obtain ⟨hc5, hf5⟩ := bcell hb5; have hs5 := hb5.size; (try simp at hs5))
    | (go_at_call 26; refine (max_any _ (by decide) (by decide) _ _ (hT.below (by (repeat (first | exact Below.refl _ _ | assumption | apply Below.drew | apply below_drewN | refine Below.alloc ?_ (by first | omega | (simp <;> omega)) _ | refine Below.setCell ?_ (by first | omega | (simp <;> omega)) _ | refine Below.trans ?_ (Below.mono (by assumption) (by first | omega | (simp <;> omega)))))))).mono ?_; rintro e w6 ⟨rfl, hb6⟩; simp only [ekM]; (try (with_reducible replace hb6 := undrew hb6)); obtain ⟨hc6, hf6⟩ := bcell hb6; have hs6 := hb6.size; (try simp at hs6))
    | (go_at_call 13; refine (make_hl _ (by decide) (by decide) _ _ _ _ ⟨by decide, by decide⟩ ⟨by decide, by decide⟩ _ (hT.below (by (repeat (first | exact Below.refl _ _ | assumption | apply Below.drew | apply below_drewN | refine Below.alloc ?_ (by first | omega | (simp <;> omega)) _ | refine Below.setCell ?_ (by first | omega | (simp <;> omega)) _ | refine Below.trans ?_ (Below.mono (by assumption) (by first | omega | (simp <;> omega)))))))).mono ?_; rintro e w7 ⟨rfl, hb7⟩; simp only [ekX, ekY]; (try (with_reducible replace hb7 := undrew hb7)); obtain ⟨hc7, hf7⟩ := bcell hb7; have hs7 := hb7.size; (try simp at hs7))
    | (go_at_call 16; refine (goes_any _ (hT.below (by (repeat (first | exact Below.refl _ _ | assumption | apply Below.drew | apply below_drewN | refine Below.alloc ?_ (by first | omega | (simp <;> omega)) _ | refine Below.setCell ?_ (by first | omega | (simp <;> omega)) _ | refine Below.trans ?_ (Below.mono (by assumption) (by first | omega | (simp <;> omega)))))))).mono ?_; rintro e w8 ⟨rfl, hb8⟩; (try (with_reducible replace hb8 := undrew hb8)); obtain ⟨hc8, hf8⟩ := bcell hb8; have hs8 := hb8.size; (try simp at hs8)))
  go_ret
  exact ⟨rfl, by (repeat (first | exact Below.refl _ _ | assumption | apply Below.drew | apply below_drewN | refine Below.alloc ?_ (by first | omega | (simp <;> omega)) _ | refine Below.setCell ?_ (by first | omega | (simp <;> omega)) _ | refine Below.trans ?_ (Below.mono (by assumption) (by first | omega | (simp <;> omega)))))⟩
end Hb
end Go.Proofs.YtlkbjjfccanbeaaDoor
