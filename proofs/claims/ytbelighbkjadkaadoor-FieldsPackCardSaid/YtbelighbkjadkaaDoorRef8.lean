/-
  THE WALKS OF THE REFERENCE'S CLASS CHAPTER: Of, NaN, Signaling answer what the program's plain part says. Conditions: none but the arguments' kinds.
-/
import Derived.Test.YtbelighbkjadkaaDoorRefMake
import Derived.Test.YtbelighbkjadkaaDoorRef8Plain
namespace Go.Proofs.YtbelighbkjadkaaDoor
open Go.RowKit
namespace Hb
set_option maxRecDepth 20000
theorem nlen_0 {F : Nat} (h : F = 0) : ((nlen F : Int) == 0) = true := by subst h; rfl
theorem nlen_1 {F : Nat} (h : F ≠ 0) : ((nlen F : Int) == 0) = false := by
  have : nlen F ≠ 0 := fun e => by have := nlen_lt F; rw [e, B32_zero] at this; omega
  simp; omega
set_option maxHeartbeats 4000000 in
theorem rcls_core (f : Int) (l : 0 ≤ f) (u : f ≤ 255) (h : f < 4) (b : BitVec 128) (N : Bool) (E M P r c : Int) (F : Nat) (H : Hid (fNeg f b = N ∧ fExp f b = E ∧ (fFrac f b).toNat = F)) (HM : Hid (fEm f = M)) (HP : Hid (fPr f = P)) (m0 : 0 ≤ M) (m1 : M ≤ 16383) (p0 : 11 ≤ P) (p1 : P ≤ 113)
    (HR : Hid (cmpN F (2 ^ (P - 2).toNat) = r)) (r0 : -1 ≤ r) (r1 : r ≤ 1)
    (cs : (E = 0 ∧ ((nlen F : Int) == 0) = true ∧ c = 0) ∨ (E = 0 ∧ ((nlen F : Int) == 0) = false ∧ c = 1) ∨ ((E == 0) = false ∧ (E != 2 * M + 1) = true ∧ c = 2) ∨ (E = 2 * M + 1 ∧ ((nlen F : Int) == 0) = true ∧ c = 3) ∨ (E = 2 * M + 1 ∧ ((nlen F : Int) == 0) = false ∧ 0 ≤ r ∧ c = 4) ∨ (E = 2 * M + 1 ∧ ((nlen F : Int) == 0) = false ∧ r < 0 ∧ c = 5)) (w : World) :
    Calls Tryd.prog 34 #[.int .u8 f, Bv b] w fun y w' => y = .returned (.tuple #[.int .u8 c, .bool N]) ∧ Gr w w' := by
  have I2 := Lib.hid (show P - 2 = (((P - 2).toNat : Nat) : Int) by omega)
  have hm0 : (2 * M + 1 == 0) = false := by simp; omega
  simp only [Bv]
  rcases cs with ⟨rfl, h1, rfl⟩ | ⟨rfl, h1, rfl⟩ | ⟨h1, h2, rfl⟩ | ⟨rfl, h1, rfl⟩ | ⟨rfl, h1, h2, rfl⟩ | ⟨rfl, h1, h2, rfl⟩
  all_goals

    go_enter Tryd.func34, Tryd.ntmps34
    go_wp2_with (first
      | (go_at_call 16; refine (rsplit_as f l u b N _ F H _).mono ?_; rintro e w1 ⟨v1, rfl, hn1, hb1⟩; have HN1 := Lib.hid hn1; clear hn1; obtain ⟨s1, c1, rfl, hrow1⟩ := HN1.out; clear hrow1; (try (with_reducible replace hb1 := undrew hb1)); obtain ⟨hc1, hf1⟩ := bcell hb1; have hs1 := hb1.size; (try simp at hs1); (try have y1_0_0 : w.heap.size < w1.heap.size := (by omega)))
      | (go_at_call 48; refine (remax_as f l u M HM _).mono ?_; rintro e wq ⟨rfl, rfl⟩)
      | (go_at_call 46; refine (rprec_as f l u P HP _).mono ?_; rintro e wq ⟨rfl, rfl⟩)
      | (go_at_call 85; refine (rfull_as (P - 2).toNat _ (P - 2) (by omega) (by omega) I2 rfl _).mono ?_; rintro e w3 ⟨v3, rfl, hn3, hb3⟩; have HN3 := Lib.hid hn3; clear hn3; (try (with_reducible replace hb3 := undrew hb3)); obtain ⟨hc3, hf3⟩ := bcell hb3; have hs3 := hb3.size; (try simp at hs3); (try have y3_0_0 : w.heap.size < w3.heap.size := (by omega)))
      | (go_at_call 95; refine (rcmp_as _ v3 F _ r HR _ (Lib.hid (HN1.out.below (by (repeat (first | with_reducible assumption | with_reducible exact Below.refl _ _ | with_reducible apply Below.drew | with_reducible apply below_drewN | with_reducible refine Below.alloc ?_ (by first | omega | (simp <;> omega)) _ | with_reducible refine Below.setCell ?_ (by first | omega | (simp <;> omega)) _ | with_reducible refine Below.trans ?_ (Below.mono (by assumption) (by first | omega | (simp <;> omega)))))))) HN3).mono ?_; rintro e w4 ⟨rfl, hb4⟩; (try (with_reducible replace hb4 := undrew hb4)); obtain ⟨hc4, hf4⟩ := bcell hb4; have hs4 := hb4.size; (try simp at hs4); (try have y4_0_0 : w.heap.size < w4.heap.size := (by omega))))
    go_ret2
    exact ⟨rfl, by (repeat (first | with_reducible assumption | with_reducible exact Below.refl _ _ | with_reducible apply Below.drew | with_reducible apply below_drewN | with_reducible refine Below.alloc ?_ (by first | omega | (simp <;> omega)) _ | with_reducible refine Below.setCell ?_ (by first | omega | (simp <;> omega)) _ | with_reducible refine Below.trans ?_ (Below.mono (by assumption) (by first | omega | (simp <;> omega)))))⟩
theorem rcls_no (f : Int) (l : 0 ≤ f) (u : f ≤ 255) (h : ¬ f < 4) (b : BitVec 128) (w : World) :
    Calls Tryd.prog 34 #[.int .u8 f, Bv b] w fun y w' => y = .returned (.tuple #[.int .u8 0, .bool false]) ∧ Gr w w' := by
  have h3 : 3 < f := by omega
  simp only [Bv]
  go_enter Tryd.func34, Tryd.ntmps34
  go_wp2
  go_ret2
  exact ⟨rfl, by (repeat (first | with_reducible assumption | with_reducible exact Below.refl _ _ | with_reducible apply Below.drew | with_reducible apply below_drewN | with_reducible refine Below.alloc ?_ (by first | omega | (simp <;> omega)) _ | with_reducible refine Below.setCell ?_ (by first | omega | (simp <;> omega)) _ | with_reducible refine Below.trans ?_ (Below.mono (by assumption) (by first | omega | (simp <;> omega)))))⟩
theorem rclof_as (f : Int) (l : 0 ≤ f) (u : f ≤ 255) (b : BitVec 128) (c : Int) (N : Bool) (H : Hid (cOf f b = c ∧ fNeg f b = N)) (w : World) :
    Calls Tryd.prog 34 #[.int .u8 f, Bv b] w fun y w' => y = .returned (.tuple #[.int .u8 c, .bool N]) ∧ Gr w w' := by
  obtain ⟨rfl, rfl⟩ := H.out
  by_cases h : f < 4
  · have hb := f_bounds f l h
    have hr : -1 ≤ cmpN (fFrac f b).toNat (2 ^ (fPr f - 2).toNat) ∧ cmpN (fFrac f b).toNat (2 ^ (fPr f - 2).toNat) ≤ 1 := by
      unfold cmpN; repeat' split
      all_goals omega
    have hg := cmp_ge (fFrac f b).toNat (2 ^ (fPr f - 2).toNat)
    refine rcls_core f l u h b _ _ _ _ _ _ _ (Lib.hid ⟨rfl, rfl, rfl⟩) (Lib.hid rfl) (Lib.hid rfl) (by omega) (by omega) (by omega) (by omega) (Lib.hid rfl) hr.1 hr.2 ?_ w
    rcases rcls f l h b with ⟨h1, h2, h3⟩ | ⟨h1, h2, h3⟩ | ⟨h1, h2, h3⟩ | ⟨h1, h2, h3⟩ | ⟨h1, h2, h3, h4⟩ | ⟨h1, h2, h3, h4⟩
    · exact .inl ⟨h1, nlen_0 h2, h3⟩
    · exact .inr (.inl ⟨h1, nlen_1 h2, h3⟩)
    · exact .inr (.inr (.inl ⟨by simpa using h1, by simpa using h2, h3⟩))
    · exact .inr (.inr (.inr (.inl ⟨h1, nlen_0 h2, h3⟩)))
    · exact .inr (.inr (.inr (.inr (.inl ⟨h1, nlen_1 h2, hg.2 h3, h4⟩))))
    · exact .inr (.inr (.inr (.inr (.inr ⟨h1, nlen_1 h2, by omega, h4⟩))))
  · rw [cOf_none f h, (split_none f h b).1]
    exact rcls_no f l u h b w
theorem rnan_as (f : Int) (l : 0 ≤ f) (u : f ≤ 255) (b : BitVec 128) (r : Bool) (H : Hid (cNaN f b = r)) (w : World) :
    Calls Tryd.prog 36 #[.int .u8 f, Bv b] w fun y w' => y = .returned (.bool r) ∧ Gr w w' := by
  have hb := cOf_bounds f b
  obtain ⟨c, hc⟩ : ∃ c, cOf f b = c := ⟨_, rfl⟩
  have hr := H.out
  unfold cNaN at hr
  rw [hc] at hb hr
  have HC := Lib.hid (show cOf f b = c ∧ fNeg f b = fNeg f b from ⟨hc, rfl⟩)
  obtain ⟨b0, b1⟩ := hb
  have cs : (c = 4 ∧ r = true) ∨ ((c == 4) = false ∧ c = 5 ∧ r = true) ∨ ((c == 4) = false ∧ (c == 5) = false ∧ r = false) := by
    by_cases e4 : c = 4
    · exact .inl ⟨e4, by rw [← hr]; exact decide_eq_true (by omega)⟩
    · by_cases e5 : c = 5
      · exact .inr (.inl ⟨by simpa using e4, e5, by rw [← hr]; exact decide_eq_true (by omega)⟩)
      · exact .inr (.inr ⟨by simpa using e4, by simpa using e5, by rw [← hr]; exact decide_eq_false (by omega)⟩)
  clear hc hr H
  simp only [Bv]
  rcases cs with ⟨rfl, rfl⟩ | ⟨h1, rfl, rfl⟩ | ⟨h1, h2, rfl⟩
  all_goals

    go_enter Tryd.func36, Tryd.ntmps36
    go_wp2_with (first
      | (go_at_call 34; refine (rclof_as f l u b _ _ HC _).mono ?_; rintro e w1 ⟨rfl, hb1⟩; (try (with_reducible replace hb1 := undrew hb1)); obtain ⟨hc1, hf1⟩ := bcell hb1; have hs1 := hb1.size; (try simp at hs1); (try have y1_0_0 : w.heap.size < w1.heap.size := (by omega))))
    go_ret
    exact ⟨rfl, by (repeat (first | with_reducible assumption | with_reducible exact Below.refl _ _ | with_reducible apply Below.drew | with_reducible apply below_drewN | with_reducible refine Below.alloc ?_ (by first | omega | (simp <;> omega)) _ | with_reducible refine Below.setCell ?_ (by first | omega | (simp <;> omega)) _ | with_reducible refine Below.trans ?_ (Below.mono (by assumption) (by first | omega | (simp <;> omega)))))⟩
theorem rsig_as (f : Int) (l : 0 ≤ f) (u : f ≤ 255) (b : BitVec 128) (r : Bool) (H : Hid (cSig f b = r)) (w : World) :
    Calls Tryd.prog 38 #[.int .u8 f, Bv b] w fun y w' => y = .returned (.bool r) ∧ Gr w w' := by
  have hb := cOf_bounds f b
  obtain ⟨c, hc⟩ : ∃ c, cOf f b = c := ⟨_, rfl⟩
  have hr := H.out
  unfold cSig at hr
  rw [hc] at hb hr
  have HC := Lib.hid (show cOf f b = c ∧ fNeg f b = fNeg f b from ⟨hc, rfl⟩)
  obtain ⟨b0, b1⟩ := hb
  have cs : (c = 5 ∧ r = true) ∨ ((c == 5) = false ∧ r = false) := by
    by_cases e5 : c = 5
    · exact .inl ⟨e5, by rw [← hr]; exact decide_eq_true e5⟩
    · exact .inr ⟨by simpa using e5, by rw [← hr]; exact decide_eq_false e5⟩
  clear hc hr H
  simp only [Bv]
  rcases cs with ⟨rfl, rfl⟩ | ⟨h2, rfl⟩
  all_goals

    go_enter Tryd.func38, Tryd.ntmps38
    go_wp2_with (first
      | (go_at_call 34; refine (rclof_as f l u b _ _ HC _).mono ?_; rintro e w1 ⟨rfl, hb1⟩; (try (with_reducible replace hb1 := undrew hb1)); obtain ⟨hc1, hf1⟩ := bcell hb1; have hs1 := hb1.size; (try simp at hs1); (try have y1_0_0 : w.heap.size < w1.heap.size := (by omega))))
    go_ret
    exact ⟨rfl, by (repeat (first | with_reducible assumption | with_reducible exact Below.refl _ _ | with_reducible apply Below.drew | with_reducible apply below_drewN | with_reducible refine Below.alloc ?_ (by first | omega | (simp <;> omega)) _ | with_reducible refine Below.setCell ?_ (by first | omega | (simp <;> omega)) _ | with_reducible refine Below.trans ?_ (Below.mono (by assumption) (by first | omega | (simp <;> omega)))))⟩
end Hb
end Go.Proofs.YtbelighbkjadkaaDoor
