/-
  THE WALK of the law FieldsWide. Conditions: the table of the formats holds its numbers.
-/
import Derived.Test.YteajalcnabjjeaaDoorPackAs
import Derived.Test.YteajalcnabjjeaaDoorFieldsLaws
namespace Go.Proofs.YteajalcnabjjeaaDoor
open Go.RowKit
namespace Hb
set_option maxRecDepth 20000
theorem fw_no (f : Int) (l : 0 ≤ f) (u : f ≤ 255) (b : BitVec 128) (h : 2 < f ∨ (f ≤ 2 ∧ Hid (cFin f b = false))) (w : World) (hT : Tab w) :
    Calls Tryd.prog 4 #[.int .u8 f, Bv b] w fun e w' => e = .returned (.bool true) ∧ Gr w w' := by
  rcases h with h | ⟨h, HF⟩
  · simp only [Bv]

    go_enter Tryd.func4, Tryd.ntmps4
    go_wp2_with (first | (go_at_call 22; refine (goes9_any _ (hT.below (by (repeat (first | with_reducible assumption | with_reducible exact Below.refl _ _ | with_reducible apply Below.drew | with_reducible apply below_drewN | with_reducible refine Below.alloc ?_ (by first | omega | (simp <;> omega)) _ | with_reducible refine Below.setCell ?_ (by first | omega | (simp <;> omega)) _ | with_reducible refine Below.trans ?_ (Below.mono (by assumption) (by first | omega | (simp <;> omega)))))))).mono ?_; rintro e w1 ⟨rfl, hb1⟩; (try (with_reducible replace hb1 := undrew hb1)); obtain ⟨hc1, hf1⟩ := bcell hb1; have hs1 := hb1.size; (try simp at hs1); (try have y1_0_0 : w.heap.size < w1.heap.size := (by omega))))
    go_ret
    exact ⟨rfl, by (repeat (first | with_reducible assumption | with_reducible exact Below.refl _ _ | with_reducible apply Below.drew | with_reducible apply below_drewN | with_reducible refine Below.alloc ?_ (by first | omega | (simp <;> omega)) _ | with_reducible refine Below.setCell ?_ (by first | omega | (simp <;> omega)) _ | with_reducible refine Below.trans ?_ (Below.mono (by assumption) (by first | omega | (simp <;> omega)))))⟩
  · simp only [Bv]

    go_enter Tryd.func4, Tryd.ntmps4
    go_wp2_with (first
      | (go_at_call 21; refine (fin_as f l u b _ HF _ (hT.below (by (repeat (first | with_reducible assumption | with_reducible exact Below.refl _ _ | with_reducible apply Below.drew | with_reducible apply below_drewN | with_reducible refine Below.alloc ?_ (by first | omega | (simp <;> omega)) _ | with_reducible refine Below.setCell ?_ (by first | omega | (simp <;> omega)) _ | with_reducible refine Below.trans ?_ (Below.mono (by assumption) (by first | omega | (simp <;> omega)))))))).mono ?_; rintro e w2 ⟨rfl, hb2⟩; (try (with_reducible replace hb2 := undrew hb2)); obtain ⟨hc2, hf2⟩ := bcell hb2; have hs2 := hb2.size; (try simp at hs2); (try have y2_0_0 : w.heap.size < w2.heap.size := (by omega)))
      | (go_at_call 22; refine (goes9_any _ (hT.below (by (repeat (first | with_reducible assumption | with_reducible exact Below.refl _ _ | with_reducible apply Below.drew | with_reducible apply below_drewN | with_reducible refine Below.alloc ?_ (by first | omega | (simp <;> omega)) _ | with_reducible refine Below.setCell ?_ (by first | omega | (simp <;> omega)) _ | with_reducible refine Below.trans ?_ (Below.mono (by assumption) (by first | omega | (simp <;> omega)))))))).mono ?_; rintro e w1 ⟨rfl, hb1⟩; (try (with_reducible replace hb1 := undrew hb1)); obtain ⟨hc1, hf1⟩ := bcell hb1; have hs1 := hb1.size; (try simp at hs1); (try have y1_0_0 : w.heap.size < w1.heap.size := (by omega))))
    go_ret
    exact ⟨rfl, by (repeat (first | with_reducible assumption | with_reducible exact Below.refl _ _ | with_reducible apply Below.drew | with_reducible apply below_drewN | with_reducible refine Below.alloc ?_ (by first | omega | (simp <;> omega)) _ | with_reducible refine Below.setCell ?_ (by first | omega | (simp <;> omega)) _ | with_reducible refine Below.trans ?_ (Below.mono (by assumption) (by first | omega | (simp <;> omega)))))⟩
set_option maxHeartbeats 2000000 in
theorem fw_zero (f : Int) (l : 0 ≤ f) (u : f ≤ 2) (b z : BitVec 128) (N : Bool) (HF : Hid (cFin f b = true)) (H1 : Hid (fNeg f b = N ∧ cOf f b = 0 ∧ uE f b = 0 ∧ uS f b = 0#128)) (H2 : Hid (pB (f + 1) N 0 0 0#128 = z ∧ pOk (f + 1) 0 0 0#128 = true))
    (H3 : Hid (fNeg (f + 1) z = N ∧ cOf (f + 1) z = 0 ∧ uE (f + 1) z = 0 ∧ uS (f + 1) z = 0#128)) (w : World) (hT : Tab w) :
    Calls Tryd.prog 4 #[.int .u8 f, Bv b] w fun e w' => e = .returned (.bool true) ∧ Gr w w' := by
  have k1 := fun w hT => unpack_as f l (by omega) b _ _ _ _ H1 w hT
  have k2 := fun w hT => pack_as (f + 1) (by omega) (by omega) N 0 0 _ _ _ (by decide) (by decide) H2 w hT
  have k3 := fun w hT => unpack_as (f + 1) (by omega) (by omega) z _ _ _ _ H3 w hT
  simp only [Nv, show hiB 0#128 = 0 from rfl, show loB 0#128 = 0 from rfl, Bv] at k1 k2 k3 ⊢

  go_enter Tryd.func4, Tryd.ntmps4
  go_wp2_with (first
    | (go_at_call 21; refine (fin_as f l (by omega) b _ HF _ (hT.below (by (repeat (first | with_reducible assumption | with_reducible exact Below.refl _ _ | with_reducible apply Below.drew | with_reducible apply below_drewN | with_reducible refine Below.alloc ?_ (by first | omega | (simp <;> omega)) _ | with_reducible refine Below.setCell ?_ (by first | omega | (simp <;> omega)) _ | with_reducible refine Below.trans ?_ (Below.mono (by assumption) (by first | omega | (simp <;> omega)))))))).mono ?_; rintro e w1 ⟨rfl, hb1⟩; (try (with_reducible replace hb1 := undrew hb1)); obtain ⟨hc1, hf1⟩ := bcell hb1; have hs1 := hb1.size; (try simp at hs1); (try have y1_0_0 : w.heap.size < w1.heap.size := (by omega)))
    | (go_at_call_of 23 (hiB b); refine (k1 _ (hT.below (by (repeat (first | with_reducible assumption | with_reducible exact Below.refl _ _ | with_reducible apply Below.drew | with_reducible apply below_drewN | with_reducible refine Below.alloc ?_ (by first | omega | (simp <;> omega)) _ | with_reducible refine Below.setCell ?_ (by first | omega | (simp <;> omega)) _ | with_reducible refine Below.trans ?_ (Below.mono (by assumption) (by first | omega | (simp <;> omega)))))))).mono ?_; rintro e w2 ⟨rfl, hb2⟩; (try (with_reducible replace hb2 := undrew hb2)); obtain ⟨hc2, hf2⟩ := bcell hb2; have hs2 := hb2.size; (try simp at hs2); (try have y2_0_0 : w.heap.size < w2.heap.size := (by omega)); (try have y2_0_1 : w.heap.size < w2.heap.size + 1 := (by omega)))
    | (go_at_call 24; refine (k2 _ (hT.below (by (repeat (first | with_reducible assumption | with_reducible exact Below.refl _ _ | with_reducible apply Below.drew | with_reducible apply below_drewN | with_reducible refine Below.alloc ?_ (by first | omega | (simp <;> omega)) _ | with_reducible refine Below.setCell ?_ (by first | omega | (simp <;> omega)) _ | with_reducible refine Below.trans ?_ (Below.mono (by assumption) (by first | omega | (simp <;> omega)))))))).mono ?_; rintro e w3 ⟨rfl, hb3⟩; (try (with_reducible replace hb3 := undrew hb3)); obtain ⟨hc3, hf3⟩ := bcell hb3; have hs3 := hb3.size; (try simp at hs3); (try have y3_0_0 : w.heap.size < w3.heap.size := (by omega)); (try have y3_0_1 : w.heap.size < w3.heap.size + 1 := (by omega)); (try have y3_1_0 : w2.heap.size < w3.heap.size := (by omega)); (try have y3_1_1 : w2.heap.size < w3.heap.size + 1 := (by omega)))
    | (go_at_call 23; refine (k3 _ (hT.below (by (repeat (first | with_reducible assumption | with_reducible exact Below.refl _ _ | with_reducible apply Below.drew | with_reducible apply below_drewN | with_reducible refine Below.alloc ?_ (by first | omega | (simp <;> omega)) _ | with_reducible refine Below.setCell ?_ (by first | omega | (simp <;> omega)) _ | with_reducible refine Below.trans ?_ (Below.mono (by assumption) (by first | omega | (simp <;> omega)))))))).mono ?_; rintro e w4 ⟨rfl, hb4⟩; (try (with_reducible replace hb4 := undrew hb4)); obtain ⟨hc4, hf4⟩ := bcell hb4; have hs4 := hb4.size; (try simp at hs4); (try have y4_0_0 : w.heap.size < w4.heap.size := (by omega)); (try have y4_0_1 : w.heap.size < w4.heap.size + 1 := (by omega)); (try have y4_1_0 : w2.heap.size < w4.heap.size := (by omega)); (try have y4_1_1 : w2.heap.size < w4.heap.size + 1 := (by omega)); (try have y4_2_0 : w3.heap.size < w4.heap.size := (by omega)); (try have y4_2_1 : w3.heap.size < w4.heap.size + 1 := (by omega)))
    | (go_at_call 22; refine (goes9_any _ (hT.below (by (repeat (first | with_reducible assumption | with_reducible exact Below.refl _ _ | with_reducible apply Below.drew | with_reducible apply below_drewN | with_reducible refine Below.alloc ?_ (by first | omega | (simp <;> omega)) _ | with_reducible refine Below.setCell ?_ (by first | omega | (simp <;> omega)) _ | with_reducible refine Below.trans ?_ (Below.mono (by assumption) (by first | omega | (simp <;> omega)))))))).mono ?_; rintro e w5 ⟨rfl, hb5⟩; (try (with_reducible replace hb5 := undrew hb5)); obtain ⟨hc5, hf5⟩ := bcell hb5; have hs5 := hb5.size; (try simp at hs5); (try have y5_0_0 : w.heap.size < w5.heap.size := (by omega)); (try have y5_1_0 : w2.heap.size < w5.heap.size := (by omega)); (try have y5_2_0 : w3.heap.size < w5.heap.size := (by omega)); (try have y5_3_0 : w4.heap.size < w5.heap.size := (by omega))))
  go_ret
  exact ⟨rfl, by (repeat (first | with_reducible assumption | with_reducible exact Below.refl _ _ | with_reducible apply Below.drew | with_reducible apply below_drewN | with_reducible refine Below.alloc ?_ (by first | omega | (simp <;> omega)) _ | with_reducible refine Below.setCell ?_ (by first | omega | (simp <;> omega)) _ | with_reducible refine Below.trans ?_ (Below.mono (by assumption) (by first | omega | (simp <;> omega)))))⟩
set_option maxHeartbeats 2000000 in
theorem fw_yes (f : Int) (l : 0 ≤ f) (u : f ≤ 2) (b s z : BitVec 128) (N : Bool) (c e : Int) (hc0 : (c == 0) = false) (c0 : 0 ≤ c) (c1 : c ≤ 5) (HF : Hid (cFin f b = true)) (H1 : Hid (fNeg f b = N ∧ cOf f b = c ∧ uE f b = e ∧ uS f b = s)) (H2 : Hid (pB (f + 1) N c e s = z ∧ pOk (f + 1) c e s = true))
    (H3 : Hid (fNeg (f + 1) z = N ∧ cOf (f + 1) z = 2 ∧ uE (f + 1) z = e ∧ uS (f + 1) z = s)) (w : World) (hT : Tab w) :
    Calls Tryd.prog 4 #[.int .u8 f, Bv b] w fun e w' => e = .returned (.bool true) ∧ Gr w w' := by
  have k1 := fun w hT => unpack_as f l (by omega) b _ _ _ _ H1 w hT
  have k2 := fun w hT => pack_as (f + 1) (by omega) (by omega) N c e _ _ _ c0 (by omega) H2 w hT
  have k3 := fun w hT => unpack_as (f + 1) (by omega) (by omega) z _ _ _ _ H3 w hT
  simp only [Nv, Bv] at k1 k2 k3 ⊢

  go_enter Tryd.func4, Tryd.ntmps4
  go_wp2_with (first
    | (go_at_call 21; refine (fin_as f l (by omega) b _ HF _ (hT.below (by (repeat (first | with_reducible assumption | with_reducible exact Below.refl _ _ | with_reducible apply Below.drew | with_reducible apply below_drewN | with_reducible refine Below.alloc ?_ (by first | omega | (simp <;> omega)) _ | with_reducible refine Below.setCell ?_ (by first | omega | (simp <;> omega)) _ | with_reducible refine Below.trans ?_ (Below.mono (by assumption) (by first | omega | (simp <;> omega)))))))).mono ?_; rintro e w1 ⟨rfl, hb1⟩; (try (with_reducible replace hb1 := undrew hb1)); obtain ⟨hc1, hf1⟩ := bcell hb1; have hs1 := hb1.size; (try simp at hs1); (try have y1_0_0 : w.heap.size < w1.heap.size := (by omega)))
    | (go_at_call_of 23 (hiB b); refine (k1 _ (hT.below (by (repeat (first | with_reducible assumption | with_reducible exact Below.refl _ _ | with_reducible apply Below.drew | with_reducible apply below_drewN | with_reducible refine Below.alloc ?_ (by first | omega | (simp <;> omega)) _ | with_reducible refine Below.setCell ?_ (by first | omega | (simp <;> omega)) _ | with_reducible refine Below.trans ?_ (Below.mono (by assumption) (by first | omega | (simp <;> omega)))))))).mono ?_; rintro e w2 ⟨rfl, hb2⟩; (try (with_reducible replace hb2 := undrew hb2)); obtain ⟨hc2, hf2⟩ := bcell hb2; have hs2 := hb2.size; (try simp at hs2); (try have y2_0_0 : w.heap.size < w2.heap.size := (by omega)); (try have y2_0_1 : w.heap.size < w2.heap.size + 1 := (by omega)))
    | (go_at_call 24; refine (k2 _ (hT.below (by (repeat (first | with_reducible assumption | with_reducible exact Below.refl _ _ | with_reducible apply Below.drew | with_reducible apply below_drewN | with_reducible refine Below.alloc ?_ (by first | omega | (simp <;> omega)) _ | with_reducible refine Below.setCell ?_ (by first | omega | (simp <;> omega)) _ | with_reducible refine Below.trans ?_ (Below.mono (by assumption) (by first | omega | (simp <;> omega)))))))).mono ?_; rintro e w3 ⟨rfl, hb3⟩; (try (with_reducible replace hb3 := undrew hb3)); obtain ⟨hc3, hf3⟩ := bcell hb3; have hs3 := hb3.size; (try simp at hs3); (try have y3_0_0 : w.heap.size < w3.heap.size := (by omega)); (try have y3_0_1 : w.heap.size < w3.heap.size + 1 := (by omega)); (try have y3_1_0 : w2.heap.size < w3.heap.size := (by omega)); (try have y3_1_1 : w2.heap.size < w3.heap.size + 1 := (by omega)))
    | (go_at_call 23; refine (k3 _ (hT.below (by (repeat (first | with_reducible assumption | with_reducible exact Below.refl _ _ | with_reducible apply Below.drew | with_reducible apply below_drewN | with_reducible refine Below.alloc ?_ (by first | omega | (simp <;> omega)) _ | with_reducible refine Below.setCell ?_ (by first | omega | (simp <;> omega)) _ | with_reducible refine Below.trans ?_ (Below.mono (by assumption) (by first | omega | (simp <;> omega)))))))).mono ?_; rintro e w4 ⟨rfl, hb4⟩; (try (with_reducible replace hb4 := undrew hb4)); obtain ⟨hc4, hf4⟩ := bcell hb4; have hs4 := hb4.size; (try simp at hs4); (try have y4_0_0 : w.heap.size < w4.heap.size := (by omega)); (try have y4_0_1 : w.heap.size < w4.heap.size + 1 := (by omega)); (try have y4_1_0 : w2.heap.size < w4.heap.size := (by omega)); (try have y4_1_1 : w2.heap.size < w4.heap.size + 1 := (by omega)); (try have y4_2_0 : w3.heap.size < w4.heap.size := (by omega)); (try have y4_2_1 : w3.heap.size < w4.heap.size + 1 := (by omega)))
    | (go_at_call 22; refine (goes9_any _ (hT.below (by (repeat (first | with_reducible assumption | with_reducible exact Below.refl _ _ | with_reducible apply Below.drew | with_reducible apply below_drewN | with_reducible refine Below.alloc ?_ (by first | omega | (simp <;> omega)) _ | with_reducible refine Below.setCell ?_ (by first | omega | (simp <;> omega)) _ | with_reducible refine Below.trans ?_ (Below.mono (by assumption) (by first | omega | (simp <;> omega)))))))).mono ?_; rintro e w5 ⟨rfl, hb5⟩; (try (with_reducible replace hb5 := undrew hb5)); obtain ⟨hc5, hf5⟩ := bcell hb5; have hs5 := hb5.size; (try simp at hs5); (try have y5_0_0 : w.heap.size < w5.heap.size := (by omega)); (try have y5_1_0 : w2.heap.size < w5.heap.size := (by omega)); (try have y5_2_0 : w3.heap.size < w5.heap.size := (by omega)); (try have y5_3_0 : w4.heap.size < w5.heap.size := (by omega))))
  go_ret
  exact ⟨rfl, by (repeat (first | with_reducible assumption | with_reducible exact Below.refl _ _ | with_reducible apply Below.drew | with_reducible apply below_drewN | with_reducible refine Below.alloc ?_ (by first | omega | (simp <;> omega)) _ | with_reducible refine Below.setCell ?_ (by first | omega | (simp <;> omega)) _ | with_reducible refine Below.trans ?_ (Below.mono (by assumption) (by first | omega | (simp <;> omega)))))⟩
theorem walk_fieldsWide (f : Int) (l : 0 ≤ f) (u : f ≤ 255) (b : BitVec 128) (w : World) (hT : Tab w) :
    Calls Tryd.prog 4 #[.int .u8 f, Bv b] w fun e w' => e = .returned (.bool true) ∧ Gr w w' := by
  by_cases h : f ≤ 2
  · cases hf : cFin f b
    · exact fw_no f l u b (.inr ⟨h, Lib.hid hf⟩) w hT
    · obtain ⟨h4, hc⟩ := fin_parts hf
      have hcb := cOf_bounds f b
      obtain ⟨p1, p2, p3, p4, p5⟩ := wide_plain f l (by omega) b hf
      by_cases c0 : cOf f b = 0
      · obtain ⟨e1, e2⟩ := u_other f b (by omega) (by omega)
        rw [c0, e1, e2] at p1 p2 p3 p4 p5
        rw [if_pos rfl] at p5
        exact fw_zero f l h b _ _ (Lib.hid hf) (Lib.hid ⟨rfl, c0, e1, e2⟩) (Lib.hid ⟨rfl, p1⟩) (Lib.hid ⟨p2, p5, p3, p4⟩) w hT
      · rw [if_neg c0] at p5
        exact fw_yes f l h b _ _ _ _ _ (by simpa using c0) hcb.1 hcb.2 (Lib.hid hf) (Lib.hid ⟨rfl, rfl, rfl, rfl⟩) (Lib.hid ⟨rfl, p1⟩) (Lib.hid ⟨p2, p5, p3, p4⟩) w hT
  · exact fw_no f l u b (.inl (by omega)) w hT
end Hb
end Go.Proofs.YteajalcnabjjeaaDoor
