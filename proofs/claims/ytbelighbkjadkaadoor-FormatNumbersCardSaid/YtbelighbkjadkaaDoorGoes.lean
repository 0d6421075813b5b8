/-
  THE WALK of law07.goes: it answers true. Conditions: the table of the formats holds its numbers.
-/
import Derived.Test.YtbelighbkjadkaaDoorSplit
import Derived.Test.YtbelighbkjadkaaDoorInf
namespace Go.Proofs.YtbelighbkjadkaaDoor
open Go.RowKit
namespace Hb
theorem split_hl (f : Int) (h0 : 0 ≤ f) (h1 : f ≤ 255) (h l : Int) (hh : Word h) (hl : Word l) (w : World) (hT : Tab w) :
    Calls Tryd.prog 15 #[.int .u8 f, .agg #[.int .u64 h, .int .u64 l]] w fun x w' => x = .returned (.tuple #[.bool (fNeg f (mkB h l)), .int .i64 (fExp f (mkB h l)), Bv (fFrac f (mkB h l))]) ∧ Gr w w' := by
  have := split_any f h0 h1 (mkB h l) w hT
  rw [bv_mk h l hh hl] at this
  exact this
theorem cut_hl (f : Int) (h0 : 0 ≤ f) (h1 : f ≤ 255) (h l : Int) (hh : Word h) (hl : Word l) (w : World) (hT : Tab w) :
    Calls Tryd.prog 49 #[.int .u8 f, .agg #[.int .u64 h, .int .u64 l]] w fun x w' => x = .returned (Bv (fCut f (mkB h l))) ∧ Gr w w' := by
  have := cut_any f h0 h1 (mkB h l) w hT
  rw [bv_mk h l hh hl] at this
  exact this
theorem goes_split (w : World) (hT : Tab w) :
    Calls Tryd.prog 15 #[.int .u8 0, .agg #[.int .u64 0, .int .u64 15361]] w fun x w' => x = .returned (.tuple #[.bool false, .int .i64 15, .agg #[.int .u64 0, .int .u64 1]]) ∧ Gr w w' := by
  have := split_hl 0 (by decide) (by decide) 0 15361 ⟨by decide, by decide⟩ ⟨by decide, by decide⟩ w hT
  rw [show fNeg 0 (mkB 0 15361) = false by decide +kernel, show fExp 0 (mkB 0 15361) = 15 by decide +kernel, show fFrac 0 (mkB 0 15361) = mkB 0 1 by decide +kernel, bv_mk 0 1 ⟨by decide, by decide⟩ ⟨by decide, by decide⟩] at this
  exact this
theorem goes_inf (w : World) (hT : Tab w) :
    Calls Tryd.prog 51 #[.int .u8 1, .bool true] w fun x w' => x = .returned (.agg #[.int .u64 0, .int .u64 4286578688]) ∧ Gr w w' := by
  have := inf_any 1 (by decide) (by decide) true w hT
  rw [show fInf 1 true = mkB 0 4286578688 by decide +kernel, bv_mk 0 _ ⟨by decide, by decide⟩ ⟨by decide, by decide⟩] at this
  exact this
theorem goes_max (w : World) (hT : Tab w) :
    Calls Tryd.prog 53 #[.int .u8 0, .bool false] w fun x w' => x = .returned (.agg #[.int .u64 0, .int .u64 31743]) ∧ Gr w w' := by
  have := max_any 0 (by decide) (by decide) false w hT
  rw [show fMax 0 false = mkB 0 31743 by decide +kernel, bv_mk 0 _ ⟨by decide, by decide⟩ ⟨by decide, by decide⟩] at this
  exact this
theorem goes_cut (w : World) (hT : Tab w) :
    Calls Tryd.prog 49 #[.int .u8 0, .agg #[.int .u64 0, .int .u64 131071]] w fun x w' => x = .returned (.agg #[.int .u64 0, .int .u64 65535]) ∧ Gr w w' := by
  have := cut_hl 0 (by decide) (by decide) 0 131071 ⟨by decide, by decide⟩ ⟨by decide, by decide⟩ w hT
  rw [show fCut 0 (mkB 0 131071) = mkB 0 65535 by decide +kernel, bv_mk 0 _ ⟨by decide, by decide⟩ ⟨by decide, by decide⟩] at this
  exact this
theorem goes_prec (w : World) (hT : Tab w) : Calls Tryd.prog 45 #[.int .u8 3] w fun x w' => x = .returned (.int .i64 113) ∧ Gr w w' :=
  (prec_any 3 (by decide) (by decide) w hT).mono fun _ _ ⟨he, hb⟩ => ⟨he, hb⟩
theorem goes_any (w : World) (hT : Tab w) :
    Calls Tryd.prog 21 #[] w fun x w' => x = .returned (.bool true) ∧ Gr w w' := by
  go_enter Tryd.func21, Tryd.ntmps21
  go_wp2_with (first
      | (go_at_call 15; refine (goes_split _ (hT.below (by (repeat (first | exact Below.refl _ _ | assumption | apply Below.drew | apply below_drewN | refine Below.alloc ?_ (by first | omega | (simp <;> omega)) _ | refine Below.setCell ?_ (by first | omega | (simp <;> omega)) _ | refine Below.trans ?_ (Below.mono (by assumption) (by first | omega | (simp <;> omega)))))))).mono ?_; rintro e w1 ⟨rfl, hb1⟩; (try (with_reducible replace hb1 := undrew hb1)); obtain ⟨hc1, hf1⟩ := bcell hb1; have hs1 := hb1.size; (try simp at hs1))
      | (go_at_call 51; refine (goes_inf _ (hT.below (by (repeat (first | exact Below.refl _ _ | assumption | apply Below.drew | apply below_drewN | refine Below.alloc ?_ (by first | omega | (simp <;> omega)) _ | refine Below.setCell ?_ (by first | omega | (simp <;> omega)) _ | refine Below.trans ?_ (Below.mono (by assumption) (by first | omega | (simp <;> omega)))))))).mono ?_; rintro e w2 ⟨rfl, hb2⟩; (try (with_reducible replace hb2 := undrew hb2)); obtain ⟨hc2, hf2⟩ := bcell hb2; have hs2 := hb2.size; (try simp at hs2); have k2 : w1.heap.size < w2.heap.size := (by omega))
      | (go_at_call 53; refine (goes_max _ (hT.below (by (repeat (first | exact Below.refl _ _ | assumption | apply Below.drew | apply below_drewN | refine Below.alloc ?_ (by first | omega | (simp <;> omega)) _ | refine Below.setCell ?_ (by first | omega | (simp <;> omega)) _ | refine Below.trans ?_ (Below.mono (by assumption) (by first | omega | (simp <;> omega)))))))).mono ?_; rintro e w3 ⟨rfl, hb3⟩; (try (with_reducible replace hb3 := undrew hb3)); obtain ⟨hc3, hf3⟩ := bcell hb3; have hs3 := hb3.size; (try simp at hs3); have k3 : w1.heap.size < w3.heap.size := (by omega))
      | (go_at_call 49; refine (goes_cut _ (hT.below (by (repeat (first | exact Below.refl _ _ | assumption | apply Below.drew | apply below_drewN | refine Below.alloc ?_ (by first | omega | (simp <;> omega)) _ | refine Below.setCell ?_ (by first | omega | (simp <;> omega)) _ | refine Below.trans ?_ (Below.mono (by assumption) (by first | omega | (simp <;> omega)))))))).mono ?_; rintro e w4 ⟨rfl, hb4⟩; (try (with_reducible replace hb4 := undrew hb4)); obtain ⟨hc4, hf4⟩ := bcell hb4; have hs4 := hb4.size; (try simp at hs4); have k4 : w1.heap.size < w4.heap.size := (by omega))
      | (go_at_call 45; refine (goes_prec _ (hT.below (by (repeat (first | exact Below.refl _ _ | assumption | apply Below.drew | apply below_drewN | refine Below.alloc ?_ (by first | omega | (simp <;> omega)) _ | refine Below.setCell ?_ (by first | omega | (simp <;> omega)) _ | refine Below.trans ?_ (Below.mono (by assumption) (by first | omega | (simp <;> omega)))))))).mono ?_; rintro e w5 ⟨rfl, hb5⟩; (try (with_reducible replace hb5 := undrew hb5)); obtain ⟨hc5, hf5⟩ := bcell hb5; have hs5 := hb5.size; (try simp at hs5); have k5 : w1.heap.size < w5.heap.size := (by omega)))
  go_ret
  exact ⟨rfl, by (repeat (first | exact Below.refl _ _ | assumption | apply Below.drew | apply below_drewN | refine Below.alloc ?_ (by first | omega | (simp <;> omega)) _ | refine Below.setCell ?_ (by first | omega | (simp <;> omega)) _ | refine Below.trans ?_ (Below.mono (by assumption) (by first | omega | (simp <;> omega)))))⟩
end Hb
end Go.Proofs.YtbelighbkjadkaaDoor
