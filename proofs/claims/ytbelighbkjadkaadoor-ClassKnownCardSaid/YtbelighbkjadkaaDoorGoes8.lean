/-
  THE WALK of law08.goes: it answers true. Conditions: the table of the formats holds its numbers.
-/
import Derived.Test.YtbelighbkjadkaaDoorClass
namespace Go.Proofs.YtbelighbkjadkaaDoor
open Go.RowKit
namespace Hb
set_option maxRecDepth 20000
theorem clof_hl (f : Int) (l : 0 ≤ f) (u : f ≤ 255) (h k : Int) (hh : Word h) (hk : Word k) (c : Int) (N : Bool) (H : Hid (cOf f (mkB h k) = c ∧ fNeg f (mkB h k) = N)) (w : World) (hT : Tab w) :
    Calls Tryd.prog 33 #[.int .u8 f, .agg #[.int .u64 h, .int .u64 k]] w fun e w' => e = .returned (.tuple #[.int .u8 c, .bool N]) ∧ Gr w w' := by
  have := clof_as f l u (mkB h k) c N H w hT
  rw [bv_mk h k hh hk] at this
  exact this
theorem nan_hl (f : Int) (l : 0 ≤ f) (u : f ≤ 255) (h k : Int) (hh : Word h) (hk : Word k) (r : Bool) (H : Hid (cNaN f (mkB h k) = r)) (w : World) (hT : Tab w) :
    Calls Tryd.prog 35 #[.int .u8 f, .agg #[.int .u64 h, .int .u64 k]] w fun e w' => e = .returned (.bool r) ∧ Gr w w' := by
  have := nan_as f l u (mkB h k) r H w hT
  rw [bv_mk h k hh hk] at this
  exact this
theorem fin_hl (f : Int) (l : 0 ≤ f) (u : f ≤ 255) (h k : Int) (hh : Word h) (hk : Word k) (r : Bool) (H : Hid (cFin f (mkB h k) = r)) (w : World) (hT : Tab w) :
    Calls Tryd.prog 39 #[.int .u8 f, .agg #[.int .u64 h, .int .u64 k]] w fun e w' => e = .returned (.bool r) ∧ Gr w w' := by
  have := fin_as f l u (mkB h k) r H w hT
  rw [bv_mk h k hh hk] at this
  exact this
theorem g8a (w : World) (hT : Tab w) : Calls Tryd.prog 33 #[.int .u8 0, .agg #[.int .u64 0, .int .u64 32768]] w fun e w' => e = .returned (.tuple #[.int .u8 0, .bool true]) ∧ Gr w w' :=
  clof_hl 0 (by decide) (by decide) 0 32768 wd0 ⟨by decide, by decide⟩ 0 true (Lib.hid (by decide +kernel)) w hT
theorem g8b (w : World) (hT : Tab w) : Calls Tryd.prog 33 #[.int .u8 0, .agg #[.int .u64 0, .int .u64 1]] w fun e w' => e = .returned (.tuple #[.int .u8 1, .bool false]) ∧ Gr w w' :=
  clof_hl 0 (by decide) (by decide) 0 1 wd0 wd1 1 false (Lib.hid (by decide +kernel)) w hT
theorem g8c (w : World) (hT : Tab w) : Calls Tryd.prog 33 #[.int .u8 0, .agg #[.int .u64 0, .int .u64 31745]] w fun e w' => e = .returned (.tuple #[.int .u8 5, .bool false]) ∧ Gr w w' :=
  clof_hl 0 (by decide) (by decide) 0 31745 wd0 ⟨by decide, by decide⟩ 5 false (Lib.hid (by decide +kernel)) w hT
theorem g8d (w : World) (hT : Tab w) : Calls Tryd.prog 35 #[.int .u8 0, .agg #[.int .u64 0, .int .u64 32256]] w fun e w' => e = .returned (.bool true) ∧ Gr w w' :=
  nan_hl 0 (by decide) (by decide) 0 32256 wd0 ⟨by decide, by decide⟩ true (Lib.hid (by decide +kernel)) w hT
theorem g8e (w : World) (hT : Tab w) : Calls Tryd.prog 39 #[.int .u8 0, .agg #[.int .u64 0, .int .u64 15360]] w fun e w' => e = .returned (.bool true) ∧ Gr w w' :=
  fin_hl 0 (by decide) (by decide) 0 15360 wd0 ⟨by decide, by decide⟩ true (Lib.hid (by decide +kernel)) w hT
theorem goes8_any (w : World) (hT : Tab w) :
    Calls Tryd.prog 40 #[] w fun x w' => x = .returned (.bool true) ∧ Gr w w' := by

  go_enter Tryd.func40, Tryd.ntmps40
  go_wp2_with (first
    | (go_at_call_of 33 (Value.int IntKind.u64 32768); refine (g8a _ (hT.below (by (repeat (first | exact Below.refl _ _ | assumption | apply Below.drew | apply below_drewN | refine Below.alloc ?_ (by first | omega | (simp <;> omega)) _ | refine Below.setCell ?_ (by first | omega | (simp <;> omega)) _ | refine Below.trans ?_ (Below.mono (by assumption) (by first | omega | (simp <;> omega)))))))).mono ?_; rintro e w1 ⟨rfl, hb1⟩; (try (with_reducible replace hb1 := undrew hb1)); obtain ⟨hc1, hf1⟩ := bcell hb1; have hs1 := hb1.size; (try simp at hs1))
    | (go_at_call_of 33 (Value.int IntKind.u64 1); refine (g8b _ (hT.below (by (repeat (first | exact Below.refl _ _ | assumption | apply Below.drew | apply below_drewN | refine Below.alloc ?_ (by first | omega | (simp <;> omega)) _ | refine Below.setCell ?_ (by first | omega | (simp <;> omega)) _ | refine Below.trans ?_ (Below.mono (by assumption) (by first | omega | (simp <;> omega)))))))).mono ?_; rintro e w2 ⟨rfl, hb2⟩; (try (with_reducible replace hb2 := undrew hb2)); obtain ⟨hc2, hf2⟩ := bcell hb2; have hs2 := hb2.size; (try simp at hs2))
    | (go_at_call_of 33 (Value.int IntKind.u64 31745); refine (g8c _ (hT.below (by (repeat (first | exact Below.refl _ _ | assumption | apply Below.drew | apply below_drewN | refine Below.alloc ?_ (by first | omega | (simp <;> omega)) _ | refine Below.setCell ?_ (by first | omega | (simp <;> omega)) _ | refine Below.trans ?_ (Below.mono (by assumption) (by first | omega | (simp <;> omega)))))))).mono ?_; rintro e w3 ⟨rfl, hb3⟩; (try (with_reducible replace hb3 := undrew hb3)); obtain ⟨hc3, hf3⟩ := bcell hb3; have hs3 := hb3.size; (try simp at hs3))
    | (go_at_call 35; refine (g8d _ (hT.below (by (repeat (first | exact Below.refl _ _ | assumption | apply Below.drew | apply below_drewN | refine Below.alloc ?_ (by first | omega | (simp <;> omega)) _ | refine Below.setCell ?_ (by first | omega | (simp <;> omega)) _ | refine Below.trans ?_ (Below.mono (by assumption) (by first | omega | (simp <;> omega)))))))).mono ?_; rintro e w4 ⟨rfl, hb4⟩; (try (with_reducible replace hb4 := undrew hb4)); obtain ⟨hc4, hf4⟩ := bcell hb4; have hs4 := hb4.size; (try simp at hs4))
    | (go_at_call 39; refine (g8e _ (hT.below (by (repeat (first | exact Below.refl _ _ | assumption | apply Below.drew | apply below_drewN | refine Below.alloc ?_ (by first | omega | (simp <;> omega)) _ | refine Below.setCell ?_ (by first | omega | (simp <;> omega)) _ | refine Below.trans ?_ (Below.mono (by assumption) (by first | omega | (simp <;> omega)))))))).mono ?_; rintro e w5 ⟨rfl, hb5⟩; (try (with_reducible replace hb5 := undrew hb5)); obtain ⟨hc5, hf5⟩ := bcell hb5; have hs5 := hb5.size; (try simp at hs5)))
  go_ret
  exact ⟨rfl, by (repeat (first | exact Below.refl _ _ | assumption | apply Below.drew | apply below_drewN | refine Below.alloc ?_ (by first | omega | (simp <;> omega)) _ | refine Below.setCell ?_ (by first | omega | (simp <;> omega)) _ | refine Below.trans ?_ (Below.mono (by assumption) (by first | omega | (simp <;> omega)))))⟩
end Hb
end Go.Proofs.YtbelighbkjadkaaDoor
