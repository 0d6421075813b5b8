/-
  THE WALKS OF Make, Inf, Max OF THE REFERENCE, FOR EVERY FORMAT. Conditions: that a slice reads as the fraction.
-/
import Derived.Test.YtbelighbkjadkaaDoorRef7
namespace Go.Proofs.YtbelighbkjadkaaDoor
open Go.RowKit
namespace Hb
set_option maxRecDepth 20000
theorem rmake_no (f : Int) (l : 0 ≤ f) (u : f ≤ 255) (h : ¬ f < 4) (neg : Bool) (e : Int) (v : Value) (w : World) :
    Calls Tryd.prog 19 #[.int .u8 f, .bool neg, .int .i64 e, v] w fun y w' => y = .returned (.agg #[.int .u64 0, .int .u64 0]) ∧ Gr w w' := by
  have HW := Lib.hid (f_none f h).1

  go_enter Tryd.func19, Tryd.ntmps19
  go_wp2_with (first
    | (go_at_call 44; refine (rwidth_as f l u 0 HW _).mono ?_; rintro e wq ⟨rfl, rfl⟩))
  simp [bodyPost, results, Tryd.results19, go_sem]
  (repeat (first | with_reducible assumption | with_reducible exact Below.refl _ _ | with_reducible apply Below.drew | with_reducible apply below_drewN | with_reducible refine Below.alloc ?_ (by first | omega | (simp <;> omega)) _ | with_reducible refine Below.setCell ?_ (by first | omega | (simp <;> omega)) _ | with_reducible refine Below.trans ?_ (Below.mono (by assumption) (by first | omega | (simp <;> omega)))))
theorem rmake_any (f : Int) (l : 0 ≤ f) (u : f ≤ 255) (neg : Bool) (e : Int) (v : Value) (t : Nat) (T z : BitVec 128) (H : Hid (fMake f neg e T = z)) (hT : T.toNat = t) (w : World) (HV : Hid (IsN w v t)) :
    Calls Tryd.prog 19 #[.int .u8 f, .bool neg, .int .i64 e, v] w fun y w' => y = .returned (Bv z) ∧ Gr w w' := by
  subst hT
  obtain rfl := H.out
  by_cases h : f < 4
  · have hb := f_bounds f l h
    have he := eCut_in e
    have n0 : nlen (eCut e).toNat ≤ 1 := nlen_of_lt (by rw [show B32 1 = 4294967296 by decide]; omega)
    have n1 := nlen_mod (eCut e).toNat (2 ^ (fWd f - fPr f).toNat)
    have n2 := nlen_mul ((eCut e).toNat % 2 ^ (fWd f - fPr f).toNat) (fPr f - 1).toNat
    have n3 := nlen_mod T.toNat (2 ^ (fPr f - 1).toNat)
    have nt := nlen_128 T
    have h4 := rmake_pos f l h e T
    have n4 : nlen ((eCut e).toNat % 2 ^ (fWd f - fPr f).toNat * 2 ^ (fPr f - 1).toNat + T.toNat % 2 ^ (fPr f - 1).toNat) ≤ 4 := by rw [h4]; exact nlen_128 _
    have h5 := rmake_neg f l h e T
    refine rmake_core f l u neg e (eCut e) (fWd f) (fPr f) v T.toNat _ _ _ _ _ _ w (Lib.hid rfl) (Lib.hid rfl) (by omega) (by omega) (by omega) (by omega) (by omega) HV (by omega) (Lib.hid rfl) (Lib.hid rfl) (Lib.hid rfl) (Lib.hid rfl) (Lib.hid rfl) he.1 he.2 (by omega) (by omega) (by omega) (by omega) ?_ ?_
    · unfold eCut
      by_cases c1 : e < 0
      · exact .inl ⟨c1, if_pos (.inl c1)⟩
      · by_cases c2 : 1048576 < e
        · exact .inr (.inl ⟨by omega, c2, if_pos (.inr c2)⟩)
        · exact .inr (.inr (if_neg (by omega)))
    · cases neg
      · refine .inr ⟨rfl, Lib.hid ?_⟩
        rw [h4]; exact nBit_toNat _
      · refine .inl ⟨rfl, Lib.hid ?_⟩
        rw [h5]; exact nBit_toNat _
  · rw [make_none f h]
    exact rmake_no f l u h neg e v w
theorem rmake_nil (f : Int) (l : 0 ≤ f) (u : f ≤ 255) (neg : Bool) (e : Int) (z : BitVec 128) (H : Hid (fMake f neg e 0#128 = z)) (w : World) :
    Calls Tryd.prog 19 #[.int .u8 f, .bool neg, .int .i64 e, .slice none 0 0] w fun y w' => y = .returned (Bv z) ∧ Gr w w' :=
  rmake_any f l u neg e _ 0 _ z H rfl w (Lib.hid (isN_nil w))
theorem rinf_as (f : Int) (l : 0 ≤ f) (u : f ≤ 255) (neg : Bool) (z : BitVec 128) (H : Hid (fInf f neg = z)) (w : World) :
    Calls Tryd.prog 52 #[.int .u8 f, .bool neg] w fun y w' => y = .returned (Bv z) ∧ Gr w w' := by
  obtain ⟨M, hM⟩ : ∃ M : Int, fEm f = M := ⟨_, rfl⟩
  have hE : 0 ≤ fEm f ∧ fEm f ≤ 16383 := by
    by_cases h : f < 4
    · have := f_bounds f l h; omega
    · have := (f_none f h).2.2.1; omega
  have HZ := H
  unfold fInf at HZ
  rw [hM] at hE HZ
  obtain ⟨m0, m1⟩ := hE
  have HM := Lib.hid hM
  clear hM H

  go_enter Tryd.func52, Tryd.ntmps52
  go_wp2_with (first
    | (go_at_call 48; refine (remax_as f l u M HM _).mono ?_; rintro e wq ⟨rfl, rfl⟩)
    | (go_at_call 19; refine (rmake_nil f l u neg _ z HZ _).mono ?_; rintro e w1 ⟨rfl, hb1⟩; (try (with_reducible replace hb1 := undrew hb1)); obtain ⟨hc1, hf1⟩ := bcell hb1; have hs1 := hb1.size; (try simp at hs1); (try have y1_0_0 : w.heap.size < w1.heap.size := (by omega))))
  simp [bodyPost, results, Tryd.results52, Bv, go_sem, *]
  (repeat (first | with_reducible assumption | with_reducible exact Below.refl _ _ | with_reducible apply Below.drew | with_reducible apply below_drewN | with_reducible refine Below.alloc ?_ (by first | omega | (simp <;> omega)) _ | with_reducible refine Below.setCell ?_ (by first | omega | (simp <;> omega)) _ | with_reducible refine Below.trans ?_ (Below.mono (by assumption) (by first | omega | (simp <;> omega)))))
theorem rmax_no (f : Int) (l : 0 ≤ f) (u : f ≤ 255) (h : ¬ f < 4) (neg : Bool) (w : World) :
    Calls Tryd.prog 54 #[.int .u8 f, .bool neg] w fun y w' => y = .returned (.agg #[.int .u64 0, .int .u64 0]) ∧ Gr w w' := by
  have HW := Lib.hid (f_none f h).1

  go_enter Tryd.func54, Tryd.ntmps54
  go_wp2_with (first
    | (go_at_call 44; refine (rwidth_as f l u 0 HW _).mono ?_; rintro e wq ⟨rfl, rfl⟩))
  simp [bodyPost, results, Tryd.results54, go_sem]
  (repeat (first | with_reducible assumption | with_reducible exact Below.refl _ _ | with_reducible apply Below.drew | with_reducible apply below_drewN | with_reducible refine Below.alloc ?_ (by first | omega | (simp <;> omega)) _ | with_reducible refine Below.setCell ?_ (by first | omega | (simp <;> omega)) _ | with_reducible refine Below.trans ?_ (Below.mono (by assumption) (by first | omega | (simp <;> omega)))))
theorem rmax_core (f : Int) (l : 0 ≤ f) (u : f ≤ 255) (neg : Bool) (M P W : Int) (t : Nat) (T z : BitVec 128) (HM : Hid (fEm f = M)) (HP : Hid (fPr f = P)) (HW : Hid (fWd f = W)) (b0 : 16 ≤ W) (b2 : 11 ≤ P) (b3 : P ≤ 113) (m0 : 0 ≤ M) (m1 : M ≤ 16383)
    (HT : Hid (2 ^ (P - 1).toNat - 1 = t)) (HT2 : Hid (T.toNat = t)) (H : Hid (fMake f neg (2 * M) T = z)) (w : World) :
    Calls Tryd.prog 54 #[.int .u8 f, .bool neg] w fun y w' => y = .returned (Bv z) ∧ Gr w w' := by
  have I2 := Lib.hid (show P - 1 = (((P - 1).toNat : Nat) : Int) by omega)
  have hw0 : (W == 0) = false := by simp; omega
  have hl6 : nlen (2 ^ (P - 1).toNat) ≤ 5 := nlen_of_lt (Nat.pow_lt_pow_right (by decide) (by omega))

  go_enter Tryd.func54, Tryd.ntmps54
  go_wp2_with (first
    | (go_at_call 44; refine (rwidth_as f l u W HW _).mono ?_; rintro e wq ⟨rfl, rfl⟩)
    | (go_at_call 48; refine (remax_as f l u M HM _).mono ?_; rintro e wq ⟨rfl, rfl⟩)
    | (go_at_call 46; refine (rprec_as f l u P HP _).mono ?_; rintro e wq ⟨rfl, rfl⟩)
    | (go_at_call 85; refine (rfull_as (P - 1).toNat _ (P - 1) (by omega) (by omega) I2 rfl _).mono ?_; rintro e w1 ⟨v1, rfl, hn1, hb1⟩; have HN1 := Lib.hid hn1; clear hn1; (try (with_reducible replace hb1 := undrew hb1)); obtain ⟨hc1, hf1⟩ := bcell hb1; have hs1 := hb1.size; (try simp at hs1); (try have y1_0_0 : w.heap.size < w1.heap.size := (by omega)))
    | (go_at_call 82; refine (of_any' 1 (by decide) (by decide) _).mono ?_; rintro e w2 ⟨v2, rfl, hn2, hb2⟩; have HN2 := Lib.hid hn2; clear hn2; (try (with_reducible replace hb2 := undrew hb2)); obtain ⟨hc2, hf2⟩ := bcell hb2; have hs2 := hb2.size; (try simp at hs2); (try have y2_0_0 : w.heap.size < w2.heap.size := (by omega)))
    | (go_at_call 96; refine (rsub_as v1 v2 (2 ^ (P - 1).toNat) 1 t HT.out (Nat.two_pow_pos _) _ (Lib.hid (HN1.out.below (by (repeat (first | with_reducible assumption | with_reducible exact Below.refl _ _ | with_reducible apply Below.drew | with_reducible apply below_drewN | with_reducible refine Below.alloc ?_ (by first | omega | (simp <;> omega)) _ | with_reducible refine Below.setCell ?_ (by first | omega | (simp <;> omega)) _ | with_reducible refine Below.trans ?_ (Below.mono (by assumption) (by first | omega | (simp <;> omega)))))))) HN2 (by omega)).mono ?_; rintro e w3 ⟨v3, rfl, hn3, hb3⟩; have HN3 := Lib.hid hn3; clear hn3; (try (with_reducible replace hb3 := undrew hb3)); obtain ⟨hc3, hf3⟩ := bcell hb3; have hs3 := hb3.size; (try simp at hs3); (try have y3_0_0 : w.heap.size < w3.heap.size := (by omega)))
    | (go_at_call 19; refine (rmake_any f l u neg _ v3 t T z H HT2.out _ HN3).mono ?_; rintro e w4 ⟨rfl, hb4⟩; (try (with_reducible replace hb4 := undrew hb4)); obtain ⟨hc4, hf4⟩ := bcell hb4; have hs4 := hb4.size; (try simp at hs4); (try have y4_0_0 : w.heap.size < w4.heap.size := (by omega))))
  simp [bodyPost, results, Tryd.results54, Bv, go_sem, *]
  (repeat (first | with_reducible assumption | with_reducible exact Below.refl _ _ | with_reducible apply Below.drew | with_reducible apply below_drewN | with_reducible refine Below.alloc ?_ (by first | omega | (simp <;> omega)) _ | with_reducible refine Below.setCell ?_ (by first | omega | (simp <;> omega)) _ | with_reducible refine Below.trans ?_ (Below.mono (by assumption) (by first | omega | (simp <;> omega)))))
theorem rmax_as (f : Int) (l : 0 ≤ f) (u : f ≤ 255) (neg : Bool) (z : BitVec 128) (H : Hid (fMax f neg = z)) (w : World) :
    Calls Tryd.prog 54 #[.int .u8 f, .bool neg] w fun y w' => y = .returned (Bv z) ∧ Gr w w' := by
  by_cases h : f < 4
  · have hb := f_bounds f l h
    have hlt : 2 ^ (fPr f - 1).toNat - 1 < 2 ^ 128 := by
      have := Nat.pow_le_pow_right (show 0 < 2 by decide) (show (fPr f - 1).toNat ≤ 127 by omega)
      omega
    have ht : (BitVec.ofNat 128 (2 ^ (fPr f - 1).toNat - 1)).toNat = 2 ^ (fPr f - 1).toNat - 1 := by rw [BitVec.toNat_ofNat]; exact Nat.mod_eq_of_lt hlt
    refine rmax_core f l u neg _ _ _ _ _ z (Lib.hid rfl) (Lib.hid rfl) (Lib.hid rfl) (by omega) (by omega) (by omega) (by omega) (by omega) (Lib.hid rfl) (Lib.hid ht) (Lib.hid ?_) w
    rw [rmax f l h neg _ ht]; exact H.out
  · obtain rfl := H.out
    unfold fMax
    rw [make_none f h]
    exact rmax_no f l u h neg w
end Hb
end Go.Proofs.YtbelighbkjadkaaDoor
