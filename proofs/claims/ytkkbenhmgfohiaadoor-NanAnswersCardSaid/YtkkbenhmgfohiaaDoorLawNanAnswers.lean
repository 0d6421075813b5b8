/-
  THE WALK of the law NanAnswers. Conditions: the table of the formats holds its numbers; the slice reads as the list.
-/
import Derived.Test.YtkkbenhmgfohiaaDoorGoes10
import Derived.Test.YtkkbenhmgfohiaaDoorPast
namespace Go.Proofs.YtkkbenhmgfohiaaDoor
open Go.RowKit
namespace Hb
set_option maxRecDepth 20000
theorem ans_plain (f : Int) (l : 0 ≤ f) (h : f < 4) (a : Nat → BitVec 128) (n : Nat) : cOf f (pkB f a n) = 4 ∧ fFits f (pkB f a n) = true := by
  unfold pkB
  by_cases h0 : 0 ≤ idxF (cNaN f) a n
  · rw [if_pos h0]; exact quieted_ok f l h _ (idx_get (cNaN f) a n h0)
  · rw [if_neg h0]; exact default_ok f l h
set_option maxHeartbeats 8000000 in
theorem ans_yes (w : World) (hT : Tab w) (f : Int) (l : 0 ≤ f) (u : f ≤ 255) (h : f < 4) (inv : Bool) (s : Option Addr) (n c : Nat) (a : Nat → BitVec 128) (hn : n ≤ 50) (hl : Lst w s n a) (z : BitVec 128) (N m g : Bool) (fl : Int)
    (HP : Hid (pkOk f inv a n = true)) (HB : Hid (pkB f a n = z)) (HF : Hid (pkF f inv a n = fl)) (HN : Hid (anyF (cNaN f) a n = m)) (HG : Hid (anyF (cSig f) a n = g)) (HC : Hid (cOf f z = 4 ∧ fNeg f z = N)) (HFi : Hid (fFits f z = true))
    (cs : (inv = true ∧ fl = 1) ∨ (inv = false ∧ m = true ∧ g = true ∧ fl = 1) ∨ (inv = false ∧ m = true ∧ g = false ∧ fl = 0)) :
    Calls Tryd.prog 12 #[.int .u8 f, .bool inv, .slice s n c] w fun e w' => e = .returned (.bool true) ∧ Gr w w' := by
  have hm := fun w' hT hl => pick_yes f l u inv s n c a w' hT (by omega) hl z fl HP HB HF
  have ha1 : bits BinOp.andNot IntKind.u8 1 1 = 0 := by decide +kernel
  have ha0 : bits BinOp.andNot IntKind.u8 0 1 = 0 := by decide +kernel
  rcases cs with ⟨rfl, rfl⟩ | ⟨rfl, rfl, rfl, rfl⟩ | ⟨rfl, rfl, rfl, rfl⟩
  ·

    go_enter Tryd.func12, Tryd.ntmps12
    go_wp2_with (first
      | (go_at_call 17; refine (known_yes f l h _).mono ?_; rintro e wq ⟨rfl, rfl⟩)
      | (go_at_call 28; refine (hm _ (hT.below (by (repeat (first | with_reducible assumption | with_reducible exact Below.refl _ _ | with_reducible apply Below.drew | with_reducible apply below_drewN | with_reducible refine Below.alloc ?_ (by first | omega | (simp <;> omega)) _ | with_reducible refine Below.setCell ?_ (by first | omega | (simp <;> omega)) _ | with_reducible refine Below.trans ?_ (Below.mono (by assumption) (by first | omega | (simp <;> omega))))))) (hl.below (by (repeat (first | with_reducible assumption | with_reducible exact Below.refl _ _ | with_reducible apply Below.drew | with_reducible apply below_drewN | with_reducible refine Below.alloc ?_ (by first | omega | (simp <;> omega)) _ | with_reducible refine Below.setCell ?_ (by first | omega | (simp <;> omega)) _ | with_reducible refine Below.trans ?_ (Below.mono (by assumption) (by first | omega | (simp <;> omega)))))))).mono ?_; rintro e w1 ⟨rfl, hb1⟩; (try (with_reducible replace hb1 := undrew hb1)); obtain ⟨hc1, hf1⟩ := bcell hb1; have hs1 := hb1.size; (try simp at hs1))
      | (go_at_call 30; refine (anyNaN_as f l u _ n c a _ HN _ (hT.below (by (repeat (first | with_reducible assumption | with_reducible exact Below.refl _ _ | with_reducible apply Below.drew | with_reducible apply below_drewN | with_reducible refine Below.alloc ?_ (by first | omega | (simp <;> omega)) _ | with_reducible refine Below.setCell ?_ (by first | omega | (simp <;> omega)) _ | with_reducible refine Below.trans ?_ (Below.mono (by assumption) (by first | omega | (simp <;> omega))))))) (by omega) (hl.below (by (repeat (first | with_reducible assumption | with_reducible exact Below.refl _ _ | with_reducible apply Below.drew | with_reducible apply below_drewN | with_reducible refine Below.alloc ?_ (by first | omega | (simp <;> omega)) _ | with_reducible refine Below.setCell ?_ (by first | omega | (simp <;> omega)) _ | with_reducible refine Below.trans ?_ (Below.mono (by assumption) (by first | omega | (simp <;> omega)))))))).mono ?_; rintro e w2 ⟨rfl, hb2⟩; (try (with_reducible replace hb2 := undrew hb2)); obtain ⟨hc2, hf2⟩ := bcell hb2; have hs2 := hb2.size; (try simp at hs2); (try have y2_0_0 : w1.heap.size < w2.heap.size := (by omega)))
      | (go_at_call 19; refine (clof_as f l u _ _ _ HC _ (hT.below (by (repeat (first | with_reducible assumption | with_reducible exact Below.refl _ _ | with_reducible apply Below.drew | with_reducible apply below_drewN | with_reducible refine Below.alloc ?_ (by first | omega | (simp <;> omega)) _ | with_reducible refine Below.setCell ?_ (by first | omega | (simp <;> omega)) _ | with_reducible refine Below.trans ?_ (Below.mono (by assumption) (by first | omega | (simp <;> omega)))))))).mono ?_; rintro e w3 ⟨rfl, hb3⟩; (try (with_reducible replace hb3 := undrew hb3)); obtain ⟨hc3, hf3⟩ := bcell hb3; have hs3 := hb3.size; (try simp at hs3); (try have y3_0_0 : w1.heap.size < w3.heap.size := (by omega))))
    refine wp_region_past (fun x => Tab x ∧ x.cell? ⟨w1.heap.size, 0, none⟩ = some (.int .u64 (hiB z)) ∧ x.cell? ⟨w1.heap.size, 1, none⟩ = some (.int .u64 (loB z)) ∧ x.cell? ⟨w1.heap.size, 2, none⟩ = some (.int .u8 1) ∧ Lst x s n a) (by kernel_rfl) (by kernel_rfl) (fun wx hbx => ?_) (fun T hne tw hh hx => ?_)
    · obtain ⟨hcx, _⟩ := bcell hbx
      have hbw : Below w.heap.size w wx := by (repeat (first | with_reducible assumption | with_reducible exact Below.refl _ _ | with_reducible apply Below.drew | with_reducible apply below_drewN | with_reducible refine Below.alloc ?_ (by first | omega | (simp <;> omega)) _ | with_reducible refine Below.setCell ?_ (by first | omega | (simp <;> omega)) _ | with_reducible refine Below.trans ?_ (Below.mono (by assumption) (by first | omega | (simp <;> omega)))))
      refine ⟨hT.below hbw, ?_, ?_, ?_, hl.below hbw⟩ <;> simp [go_sem, *]
    · have t0 := fun p => (hh p).1
      have t1 := fun p => (hh p).2.1
      have t2 := fun p => (hh p).2.2.1
      have t3 := fun p => (hh p).2.2.2.1
      have t4 := fun p => (hh p).2.2.2.2
      repeat (quiet_step (first
        | (go_at_call 20; exact callsPast hx (fits_as f l u _ _ HFi _ (t0 _)))
        | (go_at_call 30; exact callsPast hx (anySig_as f l u _ n c a _ HG _ (t0 _) (by omega) (t4 _)))
        | (go_at_call 27; exact callsPast hx (goes10_any _ (t0 _)))))
      refine wpQuiet_nil ?_
      intro w7 hb7
      (try (with_reducible replace hb7 := undrew hb7)); obtain ⟨hc7, hf7⟩ := bcell hb7; have hs7 := hb7.size; (try simp at hs7); (try have y7_0 : w1.heap.size < w7.heap.size := (by omega))
      go_wp2
      go_ret
      exact ⟨rfl, by (repeat (first | with_reducible assumption | with_reducible exact Below.refl _ _ | with_reducible apply Below.drew | with_reducible apply below_drewN | with_reducible refine Below.alloc ?_ (by first | omega | (simp <;> omega)) _ | with_reducible refine Below.setCell ?_ (by first | omega | (simp <;> omega)) _ | with_reducible refine Below.trans ?_ (Below.mono (by assumption) (by first | omega | (simp <;> omega)))))⟩
  ·

    go_enter Tryd.func12, Tryd.ntmps12
    go_wp2_with (first
      | (go_at_call 17; refine (known_yes f l h _).mono ?_; rintro e wq ⟨rfl, rfl⟩)
      | (go_at_call 28; refine (hm _ (hT.below (by (repeat (first | with_reducible assumption | with_reducible exact Below.refl _ _ | with_reducible apply Below.drew | with_reducible apply below_drewN | with_reducible refine Below.alloc ?_ (by first | omega | (simp <;> omega)) _ | with_reducible refine Below.setCell ?_ (by first | omega | (simp <;> omega)) _ | with_reducible refine Below.trans ?_ (Below.mono (by assumption) (by first | omega | (simp <;> omega))))))) (hl.below (by (repeat (first | with_reducible assumption | with_reducible exact Below.refl _ _ | with_reducible apply Below.drew | with_reducible apply below_drewN | with_reducible refine Below.alloc ?_ (by first | omega | (simp <;> omega)) _ | with_reducible refine Below.setCell ?_ (by first | omega | (simp <;> omega)) _ | with_reducible refine Below.trans ?_ (Below.mono (by assumption) (by first | omega | (simp <;> omega)))))))).mono ?_; rintro e w1 ⟨rfl, hb1⟩; (try (with_reducible replace hb1 := undrew hb1)); obtain ⟨hc1, hf1⟩ := bcell hb1; have hs1 := hb1.size; (try simp at hs1))
      | (go_at_call 30; refine (anyNaN_as f l u _ n c a _ HN _ (hT.below (by (repeat (first | with_reducible assumption | with_reducible exact Below.refl _ _ | with_reducible apply Below.drew | with_reducible apply below_drewN | with_reducible refine Below.alloc ?_ (by first | omega | (simp <;> omega)) _ | with_reducible refine Below.setCell ?_ (by first | omega | (simp <;> omega)) _ | with_reducible refine Below.trans ?_ (Below.mono (by assumption) (by first | omega | (simp <;> omega))))))) (by omega) (hl.below (by (repeat (first | with_reducible assumption | with_reducible exact Below.refl _ _ | with_reducible apply Below.drew | with_reducible apply below_drewN | with_reducible refine Below.alloc ?_ (by first | omega | (simp <;> omega)) _ | with_reducible refine Below.setCell ?_ (by first | omega | (simp <;> omega)) _ | with_reducible refine Below.trans ?_ (Below.mono (by assumption) (by first | omega | (simp <;> omega)))))))).mono ?_; rintro e w2 ⟨rfl, hb2⟩; (try (with_reducible replace hb2 := undrew hb2)); obtain ⟨hc2, hf2⟩ := bcell hb2; have hs2 := hb2.size; (try simp at hs2); (try have y2_0_0 : w1.heap.size < w2.heap.size := (by omega)))
      | (go_at_call 19; refine (clof_as f l u _ _ _ HC _ (hT.below (by (repeat (first | with_reducible assumption | with_reducible exact Below.refl _ _ | with_reducible apply Below.drew | with_reducible apply below_drewN | with_reducible refine Below.alloc ?_ (by first | omega | (simp <;> omega)) _ | with_reducible refine Below.setCell ?_ (by first | omega | (simp <;> omega)) _ | with_reducible refine Below.trans ?_ (Below.mono (by assumption) (by first | omega | (simp <;> omega)))))))).mono ?_; rintro e w3 ⟨rfl, hb3⟩; (try (with_reducible replace hb3 := undrew hb3)); obtain ⟨hc3, hf3⟩ := bcell hb3; have hs3 := hb3.size; (try simp at hs3); (try have y3_0_0 : w1.heap.size < w3.heap.size := (by omega))))
    refine wp_region_past (fun x => Tab x ∧ x.cell? ⟨w1.heap.size, 0, none⟩ = some (.int .u64 (hiB z)) ∧ x.cell? ⟨w1.heap.size, 1, none⟩ = some (.int .u64 (loB z)) ∧ x.cell? ⟨w1.heap.size, 2, none⟩ = some (.int .u8 1) ∧ Lst x s n a) (by kernel_rfl) (by kernel_rfl) (fun wx hbx => ?_) (fun T hne tw hh hx => ?_)
    · obtain ⟨hcx, _⟩ := bcell hbx
      have hbw : Below w.heap.size w wx := by (repeat (first | with_reducible assumption | with_reducible exact Below.refl _ _ | with_reducible apply Below.drew | with_reducible apply below_drewN | with_reducible refine Below.alloc ?_ (by first | omega | (simp <;> omega)) _ | with_reducible refine Below.setCell ?_ (by first | omega | (simp <;> omega)) _ | with_reducible refine Below.trans ?_ (Below.mono (by assumption) (by first | omega | (simp <;> omega)))))
      refine ⟨hT.below hbw, ?_, ?_, ?_, hl.below hbw⟩ <;> simp [go_sem, *]
    · have t0 := fun p => (hh p).1
      have t1 := fun p => (hh p).2.1
      have t2 := fun p => (hh p).2.2.1
      have t3 := fun p => (hh p).2.2.2.1
      have t4 := fun p => (hh p).2.2.2.2
      repeat (quiet_step (first
        | (go_at_call 20; exact callsPast hx (fits_as f l u _ _ HFi _ (t0 _)))
        | (go_at_call 30; exact callsPast hx (anySig_as f l u _ n c a _ HG _ (t0 _) (by omega) (t4 _)))
        | (go_at_call 27; exact callsPast hx (goes10_any _ (t0 _)))))
      refine wpQuiet_nil ?_
      intro w7 hb7
      (try (with_reducible replace hb7 := undrew hb7)); obtain ⟨hc7, hf7⟩ := bcell hb7; have hs7 := hb7.size; (try simp at hs7); (try have y7_0 : w1.heap.size < w7.heap.size := (by omega))
      go_wp2
      go_ret
      exact ⟨rfl, by (repeat (first | with_reducible assumption | with_reducible exact Below.refl _ _ | with_reducible apply Below.drew | with_reducible apply below_drewN | with_reducible refine Below.alloc ?_ (by first | omega | (simp <;> omega)) _ | with_reducible refine Below.setCell ?_ (by first | omega | (simp <;> omega)) _ | with_reducible refine Below.trans ?_ (Below.mono (by assumption) (by first | omega | (simp <;> omega)))))⟩
  ·

    go_enter Tryd.func12, Tryd.ntmps12
    go_wp2_with (first
      | (go_at_call 17; refine (known_yes f l h _).mono ?_; rintro e wq ⟨rfl, rfl⟩)
      | (go_at_call 28; refine (hm _ (hT.below (by (repeat (first | with_reducible assumption | with_reducible exact Below.refl _ _ | with_reducible apply Below.drew | with_reducible apply below_drewN | with_reducible refine Below.alloc ?_ (by first | omega | (simp <;> omega)) _ | with_reducible refine Below.setCell ?_ (by first | omega | (simp <;> omega)) _ | with_reducible refine Below.trans ?_ (Below.mono (by assumption) (by first | omega | (simp <;> omega))))))) (hl.below (by (repeat (first | with_reducible assumption | with_reducible exact Below.refl _ _ | with_reducible apply Below.drew | with_reducible apply below_drewN | with_reducible refine Below.alloc ?_ (by first | omega | (simp <;> omega)) _ | with_reducible refine Below.setCell ?_ (by first | omega | (simp <;> omega)) _ | with_reducible refine Below.trans ?_ (Below.mono (by assumption) (by first | omega | (simp <;> omega)))))))).mono ?_; rintro e w1 ⟨rfl, hb1⟩; (try (with_reducible replace hb1 := undrew hb1)); obtain ⟨hc1, hf1⟩ := bcell hb1; have hs1 := hb1.size; (try simp at hs1))
      | (go_at_call 30; refine (anyNaN_as f l u _ n c a _ HN _ (hT.below (by (repeat (first | with_reducible assumption | with_reducible exact Below.refl _ _ | with_reducible apply Below.drew | with_reducible apply below_drewN | with_reducible refine Below.alloc ?_ (by first | omega | (simp <;> omega)) _ | with_reducible refine Below.setCell ?_ (by first | omega | (simp <;> omega)) _ | with_reducible refine Below.trans ?_ (Below.mono (by assumption) (by first | omega | (simp <;> omega))))))) (by omega) (hl.below (by (repeat (first | with_reducible assumption | with_reducible exact Below.refl _ _ | with_reducible apply Below.drew | with_reducible apply below_drewN | with_reducible refine Below.alloc ?_ (by first | omega | (simp <;> omega)) _ | with_reducible refine Below.setCell ?_ (by first | omega | (simp <;> omega)) _ | with_reducible refine Below.trans ?_ (Below.mono (by assumption) (by first | omega | (simp <;> omega)))))))).mono ?_; rintro e w2 ⟨rfl, hb2⟩; (try (with_reducible replace hb2 := undrew hb2)); obtain ⟨hc2, hf2⟩ := bcell hb2; have hs2 := hb2.size; (try simp at hs2); (try have y2_0_0 : w1.heap.size < w2.heap.size := (by omega)))
      | (go_at_call 19; refine (clof_as f l u _ _ _ HC _ (hT.below (by (repeat (first | with_reducible assumption | with_reducible exact Below.refl _ _ | with_reducible apply Below.drew | with_reducible apply below_drewN | with_reducible refine Below.alloc ?_ (by first | omega | (simp <;> omega)) _ | with_reducible refine Below.setCell ?_ (by first | omega | (simp <;> omega)) _ | with_reducible refine Below.trans ?_ (Below.mono (by assumption) (by first | omega | (simp <;> omega)))))))).mono ?_; rintro e w3 ⟨rfl, hb3⟩; (try (with_reducible replace hb3 := undrew hb3)); obtain ⟨hc3, hf3⟩ := bcell hb3; have hs3 := hb3.size; (try simp at hs3); (try have y3_0_0 : w1.heap.size < w3.heap.size := (by omega))))
    refine wp_region_past (fun x => Tab x ∧ x.cell? ⟨w1.heap.size, 0, none⟩ = some (.int .u64 (hiB z)) ∧ x.cell? ⟨w1.heap.size, 1, none⟩ = some (.int .u64 (loB z)) ∧ x.cell? ⟨w1.heap.size, 2, none⟩ = some (.int .u8 0) ∧ Lst x s n a) (by kernel_rfl) (by kernel_rfl) (fun wx hbx => ?_) (fun T hne tw hh hx => ?_)
    · obtain ⟨hcx, _⟩ := bcell hbx
      have hbw : Below w.heap.size w wx := by (repeat (first | with_reducible assumption | with_reducible exact Below.refl _ _ | with_reducible apply Below.drew | with_reducible apply below_drewN | with_reducible refine Below.alloc ?_ (by first | omega | (simp <;> omega)) _ | with_reducible refine Below.setCell ?_ (by first | omega | (simp <;> omega)) _ | with_reducible refine Below.trans ?_ (Below.mono (by assumption) (by first | omega | (simp <;> omega)))))
      refine ⟨hT.below hbw, ?_, ?_, ?_, hl.below hbw⟩ <;> simp [go_sem, *]
    · have t0 := fun p => (hh p).1
      have t1 := fun p => (hh p).2.1
      have t2 := fun p => (hh p).2.2.1
      have t3 := fun p => (hh p).2.2.2.1
      have t4 := fun p => (hh p).2.2.2.2
      repeat (quiet_step (first
        | (go_at_call 20; exact callsPast hx (fits_as f l u _ _ HFi _ (t0 _)))
        | (go_at_call 30; exact callsPast hx (anySig_as f l u _ n c a _ HG _ (t0 _) (by omega) (t4 _)))
        | (go_at_call 27; exact callsPast hx (goes10_any _ (t0 _)))))
      refine wpQuiet_nil ?_
      intro w7 hb7
      (try (with_reducible replace hb7 := undrew hb7)); obtain ⟨hc7, hf7⟩ := bcell hb7; have hs7 := hb7.size; (try simp at hs7); (try have y7_0 : w1.heap.size < w7.heap.size := (by omega))
      go_wp2
      go_ret
      exact ⟨rfl, by (repeat (first | with_reducible assumption | with_reducible exact Below.refl _ _ | with_reducible apply Below.drew | with_reducible apply below_drewN | with_reducible refine Below.alloc ?_ (by first | omega | (simp <;> omega)) _ | with_reducible refine Below.setCell ?_ (by first | omega | (simp <;> omega)) _ | with_reducible refine Below.trans ?_ (Below.mono (by assumption) (by first | omega | (simp <;> omega)))))⟩
set_option maxHeartbeats 4000000 in
theorem ans_no (w : World) (hT : Tab w) (f : Int) (l : 0 ≤ f) (u : f ≤ 255) (inv : Bool) (s : Option Addr) (n c : Nat) (a : Nat → BitVec 128) (hn : n ≤ 50) (hl : Lst w s n a) (HP : Hid (pkOk f inv a n = false))
    (cs : (¬ f < 4) ∨ (f < 4 ∧ inv = false ∧ Hid (anyF (cNaN f) a n = false))) :
    Calls Tryd.prog 12 #[.int .u8 f, .bool inv, .slice s n c] w fun e w' => e = .returned (.bool true) ∧ Gr w w' := by
  have hm := fun w' hT hl => pick_no f l u inv s n c a w' hT (by omega) hl HP
  rcases cs with h | ⟨h, rfl, HN⟩
  ·

    go_enter Tryd.func12, Tryd.ntmps12
    go_wp2_with (first
      | (go_at_call 17; refine (known_no f l u (by omega) _).mono ?_; rintro e wq ⟨rfl, rfl⟩)
      | (go_at_call 28; refine (hm _ (hT.below (by (repeat (first | with_reducible assumption | with_reducible exact Below.refl _ _ | with_reducible apply Below.drew | with_reducible apply below_drewN | with_reducible refine Below.alloc ?_ (by first | omega | (simp <;> omega)) _ | with_reducible refine Below.setCell ?_ (by first | omega | (simp <;> omega)) _ | with_reducible refine Below.trans ?_ (Below.mono (by assumption) (by first | omega | (simp <;> omega))))))) (hl.below (by (repeat (first | with_reducible assumption | with_reducible exact Below.refl _ _ | with_reducible apply Below.drew | with_reducible apply below_drewN | with_reducible refine Below.alloc ?_ (by first | omega | (simp <;> omega)) _ | with_reducible refine Below.setCell ?_ (by first | omega | (simp <;> omega)) _ | with_reducible refine Below.trans ?_ (Below.mono (by assumption) (by first | omega | (simp <;> omega)))))))).mono ?_; rintro e w1 ⟨rfl, hb1⟩; (try (with_reducible replace hb1 := undrew hb1)); obtain ⟨hc1, hf1⟩ := bcell hb1; have hs1 := hb1.size; (try simp at hs1))
      | (go_at_call 27; refine (goes10_any _ (hT.below (by (repeat (first | with_reducible assumption | with_reducible exact Below.refl _ _ | with_reducible apply Below.drew | with_reducible apply below_drewN | with_reducible refine Below.alloc ?_ (by first | omega | (simp <;> omega)) _ | with_reducible refine Below.setCell ?_ (by first | omega | (simp <;> omega)) _ | with_reducible refine Below.trans ?_ (Below.mono (by assumption) (by first | omega | (simp <;> omega)))))))).mono ?_; rintro e w6 ⟨rfl, hb6⟩; (try (with_reducible replace hb6 := undrew hb6)); obtain ⟨hc6, hf6⟩ := bcell hb6; have hs6 := hb6.size; (try simp at hs6); (try have y6_0_0 : w1.heap.size < w6.heap.size := (by omega))))
    go_ret
    exact ⟨rfl, by (repeat (first | with_reducible assumption | with_reducible exact Below.refl _ _ | with_reducible apply Below.drew | with_reducible apply below_drewN | with_reducible refine Below.alloc ?_ (by first | omega | (simp <;> omega)) _ | with_reducible refine Below.setCell ?_ (by first | omega | (simp <;> omega)) _ | with_reducible refine Below.trans ?_ (Below.mono (by assumption) (by first | omega | (simp <;> omega)))))⟩
  ·

    go_enter Tryd.func12, Tryd.ntmps12
    go_wp2_with (first
      | (go_at_call 17; refine (known_yes f l h _).mono ?_; rintro e wq ⟨rfl, rfl⟩)
      | (go_at_call 28; refine (hm _ (hT.below (by (repeat (first | with_reducible assumption | with_reducible exact Below.refl _ _ | with_reducible apply Below.drew | with_reducible apply below_drewN | with_reducible refine Below.alloc ?_ (by first | omega | (simp <;> omega)) _ | with_reducible refine Below.setCell ?_ (by first | omega | (simp <;> omega)) _ | with_reducible refine Below.trans ?_ (Below.mono (by assumption) (by first | omega | (simp <;> omega))))))) (hl.below (by (repeat (first | with_reducible assumption | with_reducible exact Below.refl _ _ | with_reducible apply Below.drew | with_reducible apply below_drewN | with_reducible refine Below.alloc ?_ (by first | omega | (simp <;> omega)) _ | with_reducible refine Below.setCell ?_ (by first | omega | (simp <;> omega)) _ | with_reducible refine Below.trans ?_ (Below.mono (by assumption) (by first | omega | (simp <;> omega)))))))).mono ?_; rintro e w1 ⟨rfl, hb1⟩; (try (with_reducible replace hb1 := undrew hb1)); obtain ⟨hc1, hf1⟩ := bcell hb1; have hs1 := hb1.size; (try simp at hs1))
      | (go_at_call 30; refine (anyNaN_as f l u _ n c a _ HN _ (hT.below (by (repeat (first | with_reducible assumption | with_reducible exact Below.refl _ _ | with_reducible apply Below.drew | with_reducible apply below_drewN | with_reducible refine Below.alloc ?_ (by first | omega | (simp <;> omega)) _ | with_reducible refine Below.setCell ?_ (by first | omega | (simp <;> omega)) _ | with_reducible refine Below.trans ?_ (Below.mono (by assumption) (by first | omega | (simp <;> omega))))))) (by omega) (hl.below (by (repeat (first | with_reducible assumption | with_reducible exact Below.refl _ _ | with_reducible apply Below.drew | with_reducible apply below_drewN | with_reducible refine Below.alloc ?_ (by first | omega | (simp <;> omega)) _ | with_reducible refine Below.setCell ?_ (by first | omega | (simp <;> omega)) _ | with_reducible refine Below.trans ?_ (Below.mono (by assumption) (by first | omega | (simp <;> omega)))))))).mono ?_; rintro e w2 ⟨rfl, hb2⟩; (try (with_reducible replace hb2 := undrew hb2)); obtain ⟨hc2, hf2⟩ := bcell hb2; have hs2 := hb2.size; (try simp at hs2); (try have y2_0_0 : w1.heap.size < w2.heap.size := (by omega)))
      | (go_at_call 27; refine (goes10_any _ (hT.below (by (repeat (first | with_reducible assumption | with_reducible exact Below.refl _ _ | with_reducible apply Below.drew | with_reducible apply below_drewN | with_reducible refine Below.alloc ?_ (by first | omega | (simp <;> omega)) _ | with_reducible refine Below.setCell ?_ (by first | omega | (simp <;> omega)) _ | with_reducible refine Below.trans ?_ (Below.mono (by assumption) (by first | omega | (simp <;> omega)))))))).mono ?_; rintro e w6 ⟨rfl, hb6⟩; (try (with_reducible replace hb6 := undrew hb6)); obtain ⟨hc6, hf6⟩ := bcell hb6; have hs6 := hb6.size; (try simp at hs6); (try have y6_0_0 : w1.heap.size < w6.heap.size := (by omega))))
    go_ret
    exact ⟨rfl, by (repeat (first | with_reducible assumption | with_reducible exact Below.refl _ _ | with_reducible apply Below.drew | with_reducible apply below_drewN | with_reducible refine Below.alloc ?_ (by first | omega | (simp <;> omega)) _ | with_reducible refine Below.setCell ?_ (by first | omega | (simp <;> omega)) _ | with_reducible refine Below.trans ?_ (Below.mono (by assumption) (by first | omega | (simp <;> omega)))))⟩
theorem walk_nanAnswers (w : World) (hT : Tab w) (f : Int) (l : 0 ≤ f) (u : f ≤ 255) (inv : Bool) (s : Option Addr) (n c : Nat) (a : Nat → BitVec 128) (hl : Lst w s n a ∧ n ≤ 9223372036854775807) :
    Calls Tryd.prog 12 #[.int .u8 f, .bool inv, .slice s n c] w fun e w' => e = .returned (.bool true) ∧ Gr w w' := by
  obtain ⟨hl, hbig⟩ := hl
  by_cases hn : n ≤ 50
  · by_cases h : f < 4
    · have hk : fKn f = true := by unfold fKn; simpa using h
      have hp := ans_plain f l h a n
      have e : pkOk f inv a n = (inv || anyF (cNaN f) a n) := by unfold pkOk; rw [hk, Bool.true_and]
      cases inv
      · cases hm : anyF (cNaN f) a n
        · exact ans_no w hT f l u false s n c a hn hl (Lib.hid (by rw [e, hm]; rfl)) (.inr ⟨h, rfl, Lib.hid hm⟩)
        · cases hg : anyF (cSig f) a n
          · exact ans_yes w hT f l u h false s n c a hn hl _ _ true false 0 (Lib.hid (by rw [e, hm]; rfl)) (Lib.hid rfl) (Lib.hid (by unfold pkF; rw [hg]; rfl)) (Lib.hid hm) (Lib.hid hg) (Lib.hid ⟨hp.1, rfl⟩) (Lib.hid hp.2) (.inr (.inr ⟨rfl, rfl, rfl, rfl⟩))
          · exact ans_yes w hT f l u h false s n c a hn hl _ _ true true 1 (Lib.hid (by rw [e, hm]; rfl)) (Lib.hid rfl) (Lib.hid (by unfold pkF; rw [hg]; rfl)) (Lib.hid hm) (Lib.hid hg) (Lib.hid ⟨hp.1, rfl⟩) (Lib.hid hp.2) (.inr (.inl ⟨rfl, rfl, rfl, rfl⟩))
      · exact ans_yes w hT f l u h true s n c a hn hl _ _ _ _ 1 (Lib.hid (by rw [e]; rfl)) (Lib.hid rfl) (Lib.hid rfl) (Lib.hid rfl) (Lib.hid rfl) (Lib.hid ⟨hp.1, rfl⟩) (Lib.hid hp.2) (.inl ⟨rfl, rfl⟩)
    · exact ans_no w hT f l u inv s n c a hn hl (Lib.hid (by unfold pkOk; rw [(f_none f h).2.2.2]; rfl)) (.inl h)
  · go_enter Tryd.func12, Tryd.ntmps12
    go_wp2
    go_ret
    exact ⟨rfl, Below.refl _ _⟩
end Hb
end Go.Proofs.YtkkbenhmgfohiaaDoor
