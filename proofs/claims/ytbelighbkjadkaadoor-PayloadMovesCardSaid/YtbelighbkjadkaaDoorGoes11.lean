/-
  THE WALK of law11.goes: it answers true. Conditions: the table of the formats holds its numbers.
-/
import Derived.Test.YtbelighbkjadkaaDoorPay
namespace Go.Proofs.YtbelighbkjadkaaDoor
open Go.RowKit
namespace Hb
set_option maxRecDepth 20000
theorem move_hl (g t : Int) (l : 0 ≤ g) (u : g ≤ 255) (l' : 0 ≤ t) (u' : t ≤ 255) (h k zh zl fl : Int) (hh : Word h) (hk : Word k) (hzh : Word zh) (hzl : Word zl) (s : Bool) (ht : t < 4) (hn : cNaN g (mkB h k) = true) (HZ : mvB g t (mkB h k) = mkB zh zl)
    (HG : cSig g (mkB h k) = s) (hs : (s = true ∧ fl = 1) ∨ (s = false ∧ fl = 0)) (w : World) (hT : Tab w) :
    Calls Tryd.prog 58 #[.int .u8 g, .int .u8 t, .agg #[.int .u64 h, .int .u64 k]] w fun e w' => e = .returned (.tuple #[.agg #[.int .u64 zh, .int .u64 zl, .int .u8 fl], .bool true]) ∧ Gr w w' := by
  have := move_yes g t l u l' u' (mkB h k) (mkB zh zl) s fl ht hn (Lib.hid HZ) (Lib.hid HG) hs w hT
  rw [bv_mk h k hh hk, hiB_mk zh zl hzh hzl, loB_mk zh zl hzh hzl] at this
  exact this
theorem move_nl (g t : Int) (l : 0 ≤ g) (u : g ≤ 255) (l' : 0 ≤ t) (u' : t ≤ 255) (h k : Int) (hh : Word h) (hk : Word k) (hn : ¬ t < 4 ∨ cNaN g (mkB h k) = false) (w : World) (hT : Tab w) :
    Calls Tryd.prog 58 #[.int .u8 g, .int .u8 t, .agg #[.int .u64 h, .int .u64 k]] w fun e w' => e = .returned (.tuple #[.agg #[.int .u64 0, .int .u64 0, .int .u8 0], .bool false]) ∧ Gr w w' := by
  have := move_no g t l u l' u' (mkB h k) hn w hT
  rw [bv_mk h k hh hk] at this
  exact this
theorem g11a (w : World) (hT : Tab w) : Calls Tryd.prog 58 #[.int .u8 0, .int .u8 1, .agg #[.int .u64 0, .int .u64 32257]] w fun e w' => e = .returned (.tuple #[.agg #[.int .u64 0, .int .u64 2143297536, .int .u8 0], .bool true]) ∧ Gr w w' :=
  move_hl 0 1 (by decide) (by decide) (by decide) (by decide) 0 32257 0 2143297536 0 wd0 ⟨by decide, by decide⟩ wd0 ⟨by decide, by decide⟩ false (by decide) (by decide +kernel) (by decide +kernel) (by decide +kernel) (.inr ⟨rfl, rfl⟩) w hT
theorem g11b (w : World) (hT : Tab w) : Calls Tryd.prog 58 #[.int .u8 1, .int .u8 0, .agg #[.int .u64 0, .int .u64 4286578689]] w fun e w' => e = .returned (.tuple #[.agg #[.int .u64 0, .int .u64 65024, .int .u8 1], .bool true]) ∧ Gr w w' :=
  move_hl 1 0 (by decide) (by decide) (by decide) (by decide) 0 4286578689 0 65024 1 wd0 ⟨by decide, by decide⟩ wd0 ⟨by decide, by decide⟩ true (by decide) (by decide +kernel) (by decide +kernel) (by decide +kernel) (.inl ⟨rfl, rfl⟩) w hT
theorem g11c (w : World) (hT : Tab w) : Calls Tryd.prog 58 #[.int .u8 0, .int .u8 1, .agg #[.int .u64 0, .int .u64 15360]] w fun e w' => e = .returned (.tuple #[.agg #[.int .u64 0, .int .u64 0, .int .u8 0], .bool false]) ∧ Gr w w' :=
  move_nl 0 1 (by decide) (by decide) (by decide) (by decide) 0 15360 wd0 ⟨by decide, by decide⟩ (.inr (by decide +kernel)) w hT
theorem goes11_any (w : World) (hT : Tab w) :
    Calls Tryd.prog 60 #[] w fun x w' => x = .returned (.bool true) ∧ Gr w w' := by

  go_enter Tryd.func60, Tryd.ntmps60
  go_wp2_with (first
    | (go_at_call_of 58 (Value.int IntKind.u64 32257); refine (g11a _ (hT.below (by (repeat (first | exact Below.refl _ _ | assumption | apply Below.drew | apply below_drewN | refine Below.alloc ?_ (by first | omega | (simp <;> omega)) _ | refine Below.setCell ?_ (by first | omega | (simp <;> omega)) _ | refine Below.trans ?_ (Below.mono (by assumption) (by first | omega | (simp <;> omega)))))))).mono ?_; rintro e w1 ⟨rfl, hb1⟩; (try (with_reducible replace hb1 := undrew hb1)); obtain ⟨hc1, hf1⟩ := bcell hb1; have hs1 := hb1.size; (try simp at hs1))
    | (go_at_call_of 58 (Value.int IntKind.u64 4286578689); refine (g11b _ (hT.below (by (repeat (first | exact Below.refl _ _ | assumption | apply Below.drew | apply below_drewN | refine Below.alloc ?_ (by first | omega | (simp <;> omega)) _ | refine Below.setCell ?_ (by first | omega | (simp <;> omega)) _ | refine Below.trans ?_ (Below.mono (by assumption) (by first | omega | (simp <;> omega)))))))).mono ?_; rintro e w2 ⟨rfl, hb2⟩; (try (with_reducible replace hb2 := undrew hb2)); obtain ⟨hc2, hf2⟩ := bcell hb2; have hs2 := hb2.size; (try simp at hs2); (try have y2_0_0 : w1.heap.size < w2.heap.size := (by omega)); (try have y2_0_1 : w1.heap.size < w2.heap.size + 1 := (by omega)))
    | (go_at_call_of 58 (Value.int IntKind.u64 15360); refine (g11c _ (hT.below (by (repeat (first | exact Below.refl _ _ | assumption | apply Below.drew | apply below_drewN | refine Below.alloc ?_ (by first | omega | (simp <;> omega)) _ | refine Below.setCell ?_ (by first | omega | (simp <;> omega)) _ | refine Below.trans ?_ (Below.mono (by assumption) (by first | omega | (simp <;> omega)))))))).mono ?_; rintro e w3 ⟨rfl, hb3⟩; (try (with_reducible replace hb3 := undrew hb3)); obtain ⟨hc3, hf3⟩ := bcell hb3; have hs3 := hb3.size; (try simp at hs3); (try have y3_0_0 : w1.heap.size < w3.heap.size := (by omega)); (try have y3_0_1 : w1.heap.size < w3.heap.size + 1 := (by omega)); (try have y3_1_0 : w2.heap.size < w3.heap.size := (by omega)); (try have y3_1_1 : w2.heap.size < w3.heap.size + 1 := (by omega))))
  go_ret
  exact ⟨rfl, by (repeat (first | exact Below.refl _ _ | assumption | apply Below.drew | apply below_drewN | refine Below.alloc ?_ (by first | omega | (simp <;> omega)) _ | refine Below.setCell ?_ (by first | omega | (simp <;> omega)) _ | refine Below.trans ?_ (Below.mono (by assumption) (by first | omega | (simp <;> omega)))))⟩
end Hb
end Go.Proofs.YtbelighbkjadkaaDoor
