/-
  THE WALKS of package format: Inf, Max, Nought. Conditions: the table of the formats holds its numbers.
-/
import Derived.Test.YtbkkidgeanogjaaDoorMake
namespace Go.Proofs.YtbkkidgeanogjaaDoor
open Go.RowKit
namespace Hb
theorem em_le (f : Int) (h0 : 0 ≤ f) : 0 ≤ fEm f ∧ fEm f ≤ 16383 := by
  by_cases h : f < 4
  · have := f_bounds f h0 h; omega
  · have := (f_none f h).2.2.1; omega
theorem make_hl (f : Int) (h0 : 0 ≤ f) (h1 : f ≤ 255) (neg : Bool) (e : Int) (h l : Int) (hh : Word h) (hl : Word l) (w : World) (hT : Tab w) :
    Calls Tryd.prog 41 #[.int .u8 f, .bool neg, .int .i64 e, .agg #[.int .u64 h, .int .u64 l]] w fun x w' => x = .returned (Bv (fMake f neg e (mkB h l))) ∧ Gr w w' := by
  have := make_any f h0 h1 neg e (mkB h l) w hT
  rw [bv_mk h l hh hl] at this
  exact this
theorem mk_zero : mkB 0 0 = 0#128 := by decide
theorem inf_any (f : Int) (h0 : 0 ≤ f) (h1 : f ≤ 255) (neg : Bool) (w : World) (hT : Tab w) :
    Calls Tryd.prog 36 #[.int .u8 f, .bool neg] w fun x w' => x = .returned (Bv (fInf f neg)) ∧ Gr w w' := by
  have hE := em_le f h0
  have X1 := Lib.hid (IntWalk.i64_in (2 * fEm f) (by omega))
  have X2 := Lib.hid (IntWalk.i64_in (2 * fEm f + 1) (by omega))
  have W0 : Word 0 := ⟨by decide, by decide⟩
  unfold fInf
  rw [← mk_zero]
  go_enter Tryd.func36, Tryd.ntmps36
  go_wp2_with (first
    | (go_at_call 44; refine (emax_any f h0 h1 _ (hT.below (by (repeat (first | exact Below.refl _ _ | assumption | apply Below.drew | apply below_drewN | refine Below.alloc ?_ (by first | omega | (simp <;> omega)) _ | refine Below.setCell ?_ (by first | omega | (simp <;> omega)) _ | refine Below.trans ?_ (Below.mono (by assumption) (by first | omega | (simp <;> omega)))))))).mono ?_; rintro e w1 ⟨rfl, hb1⟩; (try (with_reducible replace hb1 := undrew hb1)); obtain ⟨hc1, hf1⟩ := bcell hb1; have hs1 := hb1.size; (try simp at hs1); have z1_0 : w.heap.size < w1.heap.size := (by omega))
    | (go_at_call 41; (try rw [X1.out]); (try rw [X2.out]); refine (make_hl f h0 h1 neg _ _ _ W0 W0 _ (hT.below (by (repeat (first | exact Below.refl _ _ | assumption | apply Below.drew | apply below_drewN | refine Below.alloc ?_ (by first | omega | (simp <;> omega)) _ | refine Below.setCell ?_ (by first | omega | (simp <;> omega)) _ | refine Below.trans ?_ (Below.mono (by assumption) (by first | omega | (simp <;> omega)))))))).mono ?_; rintro e w2 ⟨rfl, hb2⟩; (try (with_reducible replace hb2 := undrew hb2)); obtain ⟨hc2, hf2⟩ := bcell hb2; have hs2 := hb2.size; (try simp at hs2); have z2_0 : w.heap.size < w2.heap.size := (by omega)))
  simp [bodyPost, results, Tryd.results36, Bv, go_sem, *]
  (repeat (first | exact Below.refl _ _ | assumption | apply Below.drew | apply below_drewN | refine Below.alloc ?_ (by first | omega | (simp <;> omega)) _ | refine Below.setCell ?_ (by first | omega | (simp <;> omega)) _ | refine Below.trans ?_ (Below.mono (by assumption) (by first | omega | (simp <;> omega)))))
theorem nought_any (f : Int) (h0 : 0 ≤ f) (h1 : f ≤ 255) (neg : Bool) (w : World) (hT : Tab w) :
    Calls Tryd.prog 35 #[.int .u8 f, .bool neg] w fun x w' => x = .returned (Bv (fNou f neg)) ∧ Gr w w' := by
  have W0 : Word 0 := ⟨by decide, by decide⟩
  unfold fNou
  rw [← mk_zero]
  go_enter Tryd.func35, Tryd.ntmps35
  go_wp2_with (first
    | (go_at_call 41; refine (make_hl f h0 h1 neg _ _ _ W0 W0 _ (hT.below (by (repeat (first | exact Below.refl _ _ | assumption | apply Below.drew | apply below_drewN | refine Below.alloc ?_ (by first | omega | (simp <;> omega)) _ | refine Below.setCell ?_ (by first | omega | (simp <;> omega)) _ | refine Below.trans ?_ (Below.mono (by assumption) (by first | omega | (simp <;> omega)))))))).mono ?_; rintro e w2 ⟨rfl, hb2⟩; (try (with_reducible replace hb2 := undrew hb2)); obtain ⟨hc2, hf2⟩ := bcell hb2; have hs2 := hb2.size; (try simp at hs2); have z2_0 : w.heap.size < w2.heap.size := (by omega)))
  simp [bodyPost, results, Tryd.results35, Bv, go_sem, *]
  (repeat (first | exact Below.refl _ _ | assumption | apply Below.drew | apply below_drewN | refine Below.alloc ?_ (by first | omega | (simp <;> omega)) _ | refine Below.setCell ?_ (by first | omega | (simp <;> omega)) _ | refine Below.trans ?_ (Below.mono (by assumption) (by first | omega | (simp <;> omega)))))
end Hb
end Go.Proofs.YtbkkidgeanogjaaDoor
