/-
  THE WALK of the law NanQuiets. Conditions: the table of the formats holds its numbers.
-/
import Derived.Test.YtbelighbkjadkaaDoorGoes10
import Derived.Test.YtbelighbkjadkaaDoorRef10
import Derived.Test.YtbelighbkjadkaaDoorPast
namespace Go.Proofs.YtbelighbkjadkaaDoor
open Go.RowKit
namespace Hb
set_option maxRecDepth 20000
theorem nq_core (f : Int) (l : 0 ≤ f) (u : f ≤ 255) (b z d : BitVec 128) (HZ : Hid (nQ f b = z)) (HD : Hid (nD f = d)) (w : World) (hT : Tab w) :
    Calls Tryd.prog 11 #[.int .u8 f, Bv b] w fun y w' => y = .returned (.bool true) ∧ Gr w w' := by
  simp only [Bv]

  go_enter Tryd.func11, Tryd.ntmps11
  go_wp2
  refine wp_region_past (fun x => Tab x ∧ x.cell? ⟨w.heap.size, 0, none⟩ = some (.int .u64 (hiB b)) ∧ x.cell? ⟨w.heap.size, 1, none⟩ = some (.int .u64 (loB b))) (by kernel_rfl) (by kernel_rfl) (fun wx hbx => ?_) (fun T hne tw hh hx => ?_)
  · obtain ⟨hcx, _⟩ := bcell hbx
    have hbw : Below w.heap.size w wx := by (repeat (first | with_reducible assumption | with_reducible exact Below.refl _ _ | with_reducible apply Below.drew | with_reducible apply below_drewN | with_reducible refine Below.alloc ?_ (by first | omega | (simp <;> omega)) _ | with_reducible refine Below.setCell ?_ (by first | omega | (simp <;> omega)) _ | with_reducible refine Below.trans ?_ (Below.mono (by assumption) (by first | omega | (simp <;> omega)))))
    refine ⟨hT.below hbw, ?_, ?_⟩ <;> simp [go_sem, *]
  have t1 := fun p => (hh p).2.1
  have t2 := fun p => (hh p).2.2
  repeat (go_big_quiet_step (first
    | (go_at_call 61; exact callsPast hx (quiet_as f l u b z HZ _ (hh _).1))
    | (go_at_call 62; exact callsPast hx (rquiet_as f l u b z HZ _))
    | (go_at_call 63; exact callsPast hx (default_as f l u d HD _ (hh _).1))
    | (go_at_call 64; exact callsPast hx (rdef_as f l u d HD _))
    | (go_at_call 65; exact callsPast hx (goes10_any _ (hh _).1))))
  refine wpQuiet_nil ?_
  intro w7 hb7
  (try (with_reducible replace hb7 := undrew hb7)); obtain ⟨hc7, hf7⟩ := bcell hb7; have hs7 := hb7.size; (try simp at hs7); (try have y7_0 : w.heap.size < w7.heap.size := (by omega))
  go_wp2
  go_ret
  exact ⟨rfl, by (repeat (first | with_reducible assumption | with_reducible exact Below.refl _ _ | with_reducible apply Below.drew | with_reducible apply below_drewN | with_reducible refine Below.alloc ?_ (by first | omega | (simp <;> omega)) _ | with_reducible refine Below.setCell ?_ (by first | omega | (simp <;> omega)) _ | with_reducible refine Below.trans ?_ (Below.mono (by assumption) (by first | omega | (simp <;> omega)))))⟩
theorem walk_nanQuiets (f : Int) (l : 0 ≤ f) (u : f ≤ 255) (b : BitVec 128) (w : World) (hT : Tab w) :
    Calls Tryd.prog 11 #[.int .u8 f, Bv b] w fun y w' => y = .returned (.bool true) ∧ Gr w w' :=
  nq_core f l u b _ _ (Lib.hid rfl) (Lib.hid rfl) w hT
end Hb
end Go.Proofs.YtbelighbkjadkaaDoor
