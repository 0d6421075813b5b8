/-
  THE WALK of the law ClassOf. Conditions: the table of the formats holds its numbers.
-/
import Derived.Test.YtbelighbkjadkaaDoorGoes8
import Derived.Test.YtbelighbkjadkaaDoorRef8
import Derived.Test.YtbelighbkjadkaaDoorPast
namespace Go.Proofs.YtbelighbkjadkaaDoor
open Go.RowKit
namespace Hb
set_option maxRecDepth 20000
set_option maxHeartbeats 8000000 in
theorem co_core (f : Int) (l : 0 ≤ f) (u : f ≤ 255) (b : BitVec 128) (c : Int) (N p q r : Bool) (HC : Hid (cOf f b = c ∧ fNeg f b = N)) (HP : Hid (cNaN f b = p)) (HQ : Hid (cSig f b = q)) (HF : Hid (cFin f b = r))
    (cs : (f < 4 ∧ c ≤ 2 ∧ r = true) ∨ (f < 4 ∧ decide (c ≤ 2) = false ∧ r = false) ∨ (decide (f < 4) = false ∧ r = false)) (w : World) (hT : Tab w) :
    Calls Tryd.prog 6 #[.int .u8 f, Bv b] w fun y w' => y = .returned (.bool true) ∧ Gr w w' := by
  simp only [Bv]
  rcases cs with ⟨h1, h2, rfl⟩ | ⟨h1, h2, rfl⟩ | ⟨h1, rfl⟩
  all_goals

    go_enter Tryd.func6, Tryd.ntmps6
    go_wp2_with (first
      | (go_at_call 33; refine (clof_as f l u b c N HC _ (hT.below (by (repeat (first | with_reducible assumption | with_reducible exact Below.refl _ _ | with_reducible apply Below.drew | with_reducible apply below_drewN | with_reducible refine Below.alloc ?_ (by first | omega | (simp <;> omega)) _ | with_reducible refine Below.setCell ?_ (by first | omega | (simp <;> omega)) _ | with_reducible refine Below.trans ?_ (Below.mono (by assumption) (by first | omega | (simp <;> omega)))))))).mono ?_; rintro e w1 ⟨rfl, hb1⟩; (try (with_reducible replace hb1 := undrew hb1)); obtain ⟨hc1, hf1⟩ := bcell hb1; have hs1 := hb1.size; (try simp at hs1); (try have y1_0_0 : w.heap.size < w1.heap.size := (by omega)))
      | (go_at_call 34; refine (rclof_as f l u b c N HC _).mono ?_; rintro e w2 ⟨rfl, hb2⟩; (try (with_reducible replace hb2 := undrew hb2)); obtain ⟨hc2, hf2⟩ := bcell hb2; have hs2 := hb2.size; (try simp at hs2); (try have y2_0_0 : w.heap.size < w2.heap.size := (by omega))))
    refine wp_region_past (fun x => Tab x ∧ x.cell? ⟨w.heap.size, 0, none⟩ = some (.int .u64 (hiB b)) ∧ x.cell? ⟨w.heap.size, 1, none⟩ = some (.int .u64 (loB b))) (by kernel_rfl) (by kernel_rfl) (fun wx hbx => ?_) (fun T hne tw hh hx => ?_)
    · obtain ⟨hcx, _⟩ := bcell hbx
      have hbw : Below w.heap.size w wx := by (repeat (first | with_reducible assumption | with_reducible exact Below.refl _ _ | with_reducible apply Below.drew | with_reducible apply below_drewN | with_reducible refine Below.alloc ?_ (by first | omega | (simp <;> omega)) _ | with_reducible refine Below.setCell ?_ (by first | omega | (simp <;> omega)) _ | with_reducible refine Below.trans ?_ (Below.mono (by assumption) (by first | omega | (simp <;> omega)))))
      refine ⟨hT.below hbw, ?_, ?_⟩ <;> simp [go_sem, *]
    have t1 := fun p => (hh p).2.1
    have t2 := fun p => (hh p).2.2
    repeat (go_big_quiet_step (first
      | (go_at_call 35; exact callsPast hx (nan_as f l u b p HP _ (hh _).1))
      | (go_at_call 36; exact callsPast hx (rnan_as f l u b p HP _))
      | (go_at_call 37; exact callsPast hx (sig_as f l u b q HQ _ (hh _).1))
      | (go_at_call 38; exact callsPast hx (rsig_as f l u b q HQ _))
      | (go_at_call 39; exact callsPast hx (fin_as f l u b _ HF _ (hh _).1))
      | (go_at_call 40; exact callsPast hx (goes8_any _ (hh _).1))))
    refine wpQuiet_nil ?_
    intro w7 hb7
    (try (with_reducible replace hb7 := undrew hb7)); obtain ⟨hc7, hf7⟩ := bcell hb7; have hs7 := hb7.size; (try simp at hs7); (try have y7_0 : w.heap.size < w7.heap.size := (by omega))
    go_wp2
    go_ret
    exact ⟨rfl, by (repeat (first | with_reducible assumption | with_reducible exact Below.refl _ _ | with_reducible apply Below.drew | with_reducible apply below_drewN | with_reducible refine Below.alloc ?_ (by first | omega | (simp <;> omega)) _ | with_reducible refine Below.setCell ?_ (by first | omega | (simp <;> omega)) _ | with_reducible refine Below.trans ?_ (Below.mono (by assumption) (by first | omega | (simp <;> omega)))))⟩
theorem walk_classOf (f : Int) (l : 0 ≤ f) (u : f ≤ 255) (b : BitVec 128) (w : World) (hT : Tab w) :
    Calls Tryd.prog 6 #[.int .u8 f, Bv b] w fun y w' => y = .returned (.bool true) ∧ Gr w w' := by
  refine co_core f l u b _ _ _ _ _ (Lib.hid ⟨rfl, rfl⟩) (Lib.hid rfl) (Lib.hid rfl) (Lib.hid rfl) ?_ w hT
  by_cases h : f < 4
  · have hk : fKn f = true := by unfold fKn; simpa using h
    by_cases h2 : cOf f b ≤ 2
    · exact .inl ⟨h, h2, by unfold cFin; rw [hk, Bool.true_and]; exact decide_eq_true (by omega)⟩
    · exact .inr (.inl ⟨h, decide_eq_false h2, by unfold cFin; rw [hk, Bool.true_and]; exact decide_eq_false (by omega)⟩)
  · exact .inr (.inr ⟨decide_eq_false h, by unfold cFin; rw [(f_none f h).2.2.2]; rfl⟩)
end Hb
end Go.Proofs.YtbelighbkjadkaaDoor
