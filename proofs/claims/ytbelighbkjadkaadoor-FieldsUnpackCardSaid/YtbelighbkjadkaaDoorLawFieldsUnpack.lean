/-
  THE WALK of the law FieldsUnpack. Conditions: the table of the formats holds its numbers.
-/
import Derived.Test.YtbelighbkjadkaaDoorPackAs
import Derived.Test.YtbelighbkjadkaaDoorRef9
import Derived.Test.YtbelighbkjadkaaDoorPast
namespace Go.Proofs.YtbelighbkjadkaaDoor
open Go.RowKit
namespace Hb
set_option maxRecDepth 20000
theorem fu_core (f : Int) (l : 0 ≤ f) (u : f ≤ 255) (b z : BitVec 128) (N : Bool) (c e : Int) (H : Hid (fNeg f b = N ∧ cOf f b = c ∧ uE f b = e ∧ uS f b = z)) (w : World) (hT : Tab w) :
    Calls Tryd.prog 13 #[.int .u8 f, Bv b] w fun y w' => y = .returned (.bool true) ∧ Gr w w' := by
  have k1 := fun w hT => unpack_as f l u b z N c e H w hT
  have k2 := fun w => runpack_as f l u b z N c e H w
  simp only [Nv, Bv] at k1 k2 ⊢

  go_enter Tryd.func13, Tryd.ntmps13
  go_wp2
  refine wp_region_past (fun x => Tab x ∧ x.cell? ⟨w.heap.size, 0, none⟩ = some (.int .u64 (hiB b)) ∧ x.cell? ⟨w.heap.size, 1, none⟩ = some (.int .u64 (loB b))) (by kernel_rfl) (by kernel_rfl) (fun wx hbx => ?_) (fun T hne tw hh hx => ?_)
  · obtain ⟨hcx, _⟩ := bcell hbx
    have hbw : Below w.heap.size w wx := by (repeat (first | with_reducible assumption | with_reducible exact Below.refl _ _ | with_reducible apply Below.drew | with_reducible apply below_drewN | with_reducible refine Below.alloc ?_ (by first | omega | (simp <;> omega)) _ | with_reducible refine Below.setCell ?_ (by first | omega | (simp <;> omega)) _ | with_reducible refine Below.trans ?_ (Below.mono (by assumption) (by first | omega | (simp <;> omega)))))
    refine ⟨hT.below hbw, ?_, ?_⟩ <;> simp [go_sem, *]
  have t1 := fun p => (hh p).2.1
  have t2 := fun p => (hh p).2.2
  repeat (go_big_quiet_step (first
    | (go_at_call 68; exact callsPast hx (k1 _ (hh _).1))
    | (go_at_call 69; exact callsPast hx (k2 _))
    | (go_at_call 70; exact callsPast hx (goes9_any _ (hh _).1))))
  refine wpQuiet_nil ?_
  intro w7 hb7
  (try (with_reducible replace hb7 := undrew hb7)); obtain ⟨hc7, hf7⟩ := bcell hb7; have hs7 := hb7.size; (try simp at hs7); (try have y7_0 : w.heap.size < w7.heap.size := (by omega))
  go_wp2
  go_ret
  exact ⟨rfl, by (repeat (first | with_reducible assumption | with_reducible exact Below.refl _ _ | with_reducible apply Below.drew | with_reducible apply below_drewN | with_reducible refine Below.alloc ?_ (by first | omega | (simp <;> omega)) _ | with_reducible refine Below.setCell ?_ (by first | omega | (simp <;> omega)) _ | with_reducible refine Below.trans ?_ (Below.mono (by assumption) (by first | omega | (simp <;> omega)))))⟩
theorem walk_fieldsUnpack (f : Int) (l : 0 ≤ f) (u : f ≤ 255) (b : BitVec 128) (w : World) (hT : Tab w) :
    Calls Tryd.prog 13 #[.int .u8 f, Bv b] w fun y w' => y = .returned (.bool true) ∧ Gr w w' :=
  fu_core f l u b _ _ _ _ (Lib.hid ⟨rfl, rfl, rfl, rfl⟩) w hT
end Hb
end Go.Proofs.YtbelighbkjadkaaDoor
