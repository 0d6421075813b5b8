/-
  THE WALK OF Move OF THE REFERENCE: it answers what the program's plain part says. Conditions: none but the arguments' kinds.
-/
import Derived.Test.YtbelighbkjadkaaDoorRef8
namespace Go.Proofs.YtbelighbkjadkaaDoor
open Go.RowKit
namespace Hb
set_option maxRecDepth 20000
set_option maxHeartbeats 4000000 in
theorem rmv_no (g t : Int) (l : 0 ≤ g) (u : g ≤ 255) (b : BitVec 128) (p : Bool) (HN : Hid (cNaN g b = p)) (cs : (3 < g) ∨ (g ≤ 3 ∧ 3 < t) ∨ (g ≤ 3 ∧ t ≤ 3 ∧ p = false)) (w : World) :
    Calls Tryd.prog 59 #[.int .u8 g, .int .u8 t, Bv b] w fun y w' => y = .returned (.tuple #[.agg #[.int .u64 0, .int .u64 0, .int .u8 0], .bool false]) ∧ Gr w w' := by
  simp only [Bv]
  rcases cs with h1 | ⟨h1, h2⟩ | ⟨h1, h2, rfl⟩
  all_goals
    have o2_0 : w.heap.size < w.heap.size + 1 + 1 := by omega
    go_enter Tryd.func59, Tryd.ntmps59
    go_wp2_with (first
      | (go_at_call 36; refine (rnan_as g l u b _ HN _).mono ?_; rintro e w1 ⟨rfl, hb1⟩; (try (with_reducible replace hb1 := undrew hb1)); obtain ⟨hc1, hf1⟩ := bcell hb1; have hs1 := hb1.size; (try simp at hs1); (try have y1_0_0 : w.heap.size < w1.heap.size := (by omega)); (try have y1_1_0 : w.heap.size + 1 < w1.heap.size := (by omega))))
    simp [bodyPost, results, Tryd.results59, go_sem, *]
    (repeat (first | with_reducible assumption | with_reducible exact Below.refl _ _ | with_reducible apply Below.drew | with_reducible apply below_drewN | with_reducible refine Below.alloc ?_ (by first | omega | (simp <;> omega)) _ | with_reducible refine Below.setCell ?_ (by first | omega | (simp <;> omega)) _ | with_reducible refine Below.trans ?_ (Below.mono (by assumption) (by first | omega | (simp <;> omega)))))
set_option maxHeartbeats 4000000 in
theorem rmv_yes (g t : Int) (l : 0 ≤ g) (u : g ≤ 255) (l' : 0 ≤ t) (u' : t ≤ 255) (h : g ≤ 3) (h' : t ≤ 3) (b T z : BitVec 128) (N s : Bool) (E P Q M fl : Int) (F y x v : Nat) (HN : Hid (cNaN g b = true)) (HS : Hid (fNeg g b = N ∧ fExp g b = E ∧ (fFrac g b).toNat = F))
    (HP : Hid (fPr g = P)) (HQ : Hid (fPr t = Q)) (HM : Hid (fEm t = M)) (p0 : 11 ≤ P) (p1 : P ≤ 113) (q0 : 11 ≤ Q) (q1 : Q ≤ 113) (m0 : 0 ≤ M) (m1 : M ≤ 16383) (hF : nlen F ≤ 4)
    (HY : Hid (F % 2 ^ (P - 2).toNat = y)) (HV : Hid (x + 2 ^ (Q - 2).toNat = v)) (HT : Hid (T.toNat = v)) (HZ : Hid (fMake t N (2 * M + 1) T = z)) (HG : Hid (cSig g b = s))
    (cx : (P ≤ Q ∧ Hid (y * 2 ^ (Q - P).toNat = x)) ∨ (Q < P ∧ Hid (y / 2 ^ (P - Q).toNat = x))) (hs : (s = true ∧ fl = 1) ∨ (s = false ∧ fl = 0)) (w : World) :
    Calls Tryd.prog 59 #[.int .u8 g, .int .u8 t, Bv b] w fun y w' => y = .returned (.tuple #[.agg #[.int .u64 (hiB z), .int .u64 (loB z), .int .u8 fl], .bool true]) ∧ Gr w w' := by
  have I1 := Lib.hid (show P - 2 = (((P - 2).toNat : Nat) : Int) by omega)
  have I2 := Lib.hid (show Q - 2 = (((Q - 2).toNat : Nat) : Int) by omega)
  have hl6 : nlen (2 ^ (Q - 2).toNat) ≤ 5 := nlen_of_lt (Nat.pow_lt_pow_right (by decide) (by omega))
  have hy : nlen y ≤ 4 := by have := nlen_mod F (2 ^ (P - 2).toNat); rw [HY.out] at this; omega
  simp only [Bv]
  rcases cx with ⟨hc, HX⟩ | ⟨hc, HX⟩
  · have I3 := Lib.hid (show Q - 2 - (P - 2) = (((Q - P).toNat : Nat) : Int) by omega)
    have hx : nlen x ≤ 10 := by have := nlen_mul y (Q - P).toNat; rw [HX.out] at this; omega
    rcases hs with ⟨rfl, rfl⟩ | ⟨rfl, rfl⟩
    all_goals
      have o2_0 : w.heap.size < w.heap.size + 1 + 1 := by omega
      go_enter Tryd.func59, Tryd.ntmps59
      go_wp2_with (first
        | (go_at_call 36; refine (rnan_as g l u b _ HN _).mono ?_; rintro e w1 ⟨rfl, hb1⟩; (try (with_reducible replace hb1 := undrew hb1)); obtain ⟨hc1, hf1⟩ := bcell hb1; have hs1 := hb1.size; (try simp at hs1); (try have y1_0_0 : w.heap.size < w1.heap.size := (by omega)); (try have y1_1_0 : w.heap.size + 1 < w1.heap.size := (by omega)))
        | (go_at_call 16; refine (rsplit_as g l u b N E F HS _).mono ?_; rintro e w2 ⟨v2, rfl, hn2, hb2⟩; have HN2 := Lib.hid hn2; clear hn2; (try (with_reducible replace hb2 := undrew hb2)); obtain ⟨hc2, hf2⟩ := bcell hb2; have hs2 := hb2.size; (try simp at hs2); (try have y2_0_0 : w.heap.size < w2.heap.size := (by omega)); (try have y2_1_0 : w.heap.size + 1 < w2.heap.size := (by omega)))
        | (go_at_call_of 46 (Value.int IntKind.u8 g); refine (rprec_as g l u P HP _).mono ?_; rintro e wq ⟨rfl, rfl⟩)
        | (go_at_call_of 46 (Value.int IntKind.u8 t); refine (rprec_as t l' u' Q HQ _).mono ?_; rintro e wq ⟨rfl, rfl⟩)
        | (go_at_call 77; refine (rcut_as v2 F (P - 2).toNat y (P - 2) (by omega) (by omega) I1 HY.out _ HN2 (by omega)).mono ?_; rintro e w3 ⟨v3, rfl, hn3, hb3⟩; have HN3 := Lib.hid hn3; clear hn3; (try (with_reducible replace hb3 := undrew hb3)); obtain ⟨hc3, hf3⟩ := bcell hb3; have hs3 := hb3.size; (try simp at hs3); (try have y3_0_0 : w.heap.size < w3.heap.size := (by omega)); (try have y3_1_0 : w.heap.size + 1 < w3.heap.size := (by omega)))
        | (go_at_call 84; refine (rshl_as v3 y (Q - P).toNat x (Q - 2 - (P - 2)) (by omega) (by omega) I3 HX.out _ HN3 (by omega)).mono ?_; rintro e w4 ⟨v4, rfl, hn4, hb4⟩; have HN4 := Lib.hid hn4; clear hn4; (try (with_reducible replace hb4 := undrew hb4)); obtain ⟨hc4, hf4⟩ := bcell hb4; have hs4 := hb4.size; (try simp at hs4); (try have y4_0_0 : w.heap.size < w4.heap.size := (by omega)); (try have y4_0_1 : w.heap.size < w4.heap.size + 1 := (by omega)); (try have y4_1_0 : w.heap.size + 1 < w4.heap.size := (by omega)); (try have y4_1_1 : w.heap.size + 1 < w4.heap.size + 1 := (by omega)))
        | (go_at_call 48; refine (remax_as t l' u' M HM _).mono ?_; rintro e wq ⟨rfl, rfl⟩)
        | (go_at_call 85; refine (rfull_as (Q - 2).toNat _ (Q - 2) (by omega) (by omega) I2 rfl _).mono ?_; rintro e w5 ⟨v5, rfl, hn5, hb5⟩; have HN5 := Lib.hid hn5; clear hn5; (try (with_reducible replace hb5 := undrew hb5)); obtain ⟨hc5, hf5⟩ := bcell hb5; have hs5 := hb5.size; (try simp at hs5); (try have y5_0_0 : w.heap.size < w5.heap.size := (by omega)); (try have y5_1_0 : w.heap.size + 1 < w5.heap.size := (by omega)); (try have y5_2_0 : w4.heap.size < w5.heap.size := (by omega)))
        | (go_at_call 83; refine (radd_as v4 v5 x (2 ^ (Q - 2).toNat) v HV.out _ (Lib.hid (HN4.out.below (by (repeat (first | with_reducible assumption | with_reducible exact Below.refl _ _ | with_reducible apply Below.drew | with_reducible apply below_drewN | with_reducible refine Below.alloc ?_ (by first | omega | (simp <;> omega)) _ | with_reducible refine Below.setCell ?_ (by first | omega | (simp <;> omega)) _ | with_reducible refine Below.trans ?_ (Below.mono (by assumption) (by first | omega | (simp <;> omega)))))))) HN5 (by omega) (by omega)).mono ?_; rintro e w6 ⟨v6, rfl, hn6, hb6⟩; have HN6 := Lib.hid hn6; clear hn6; (try (with_reducible replace hb6 := undrew hb6)); obtain ⟨hc6, hf6⟩ := bcell hb6; have hs6 := hb6.size; (try simp at hs6); (try have y6_0_0 : w.heap.size < w6.heap.size := (by omega)); (try have y6_1_0 : w.heap.size + 1 < w6.heap.size := (by omega)); (try have y6_2_0 : w4.heap.size < w6.heap.size := (by omega)))
        | (go_at_call 19; refine (rmake_any t l' u' N _ v6 v T z HZ HT.out _ HN6).mono ?_; rintro e w7 ⟨rfl, hb7⟩; (try (with_reducible replace hb7 := undrew hb7)); obtain ⟨hc7, hf7⟩ := bcell hb7; have hs7 := hb7.size; (try simp at hs7); (try have y7_0_0 : w.heap.size < w7.heap.size := (by omega)); (try have y7_1_0 : w.heap.size + 1 < w7.heap.size := (by omega)); (try have y7_2_0 : w4.heap.size < w7.heap.size := (by omega)))
        | (go_at_call 38; refine (rsig_as g l u b _ HG _).mono ?_; rintro e w8 ⟨rfl, hb8⟩; (try (with_reducible replace hb8 := undrew hb8)); obtain ⟨hc8, hf8⟩ := bcell hb8; have hs8 := hb8.size; (try simp at hs8); (try have y8_0_0 : w.heap.size < w8.heap.size := (by omega)); (try have y8_1_0 : w.heap.size + 1 < w8.heap.size := (by omega)); (try have y8_2_0 : w4.heap.size < w8.heap.size := (by omega))))
      simp [bodyPost, results, Tryd.results59, go_sem, *]
      (repeat (first | with_reducible assumption | with_reducible exact Below.refl _ _ | with_reducible apply Below.drew | with_reducible apply below_drewN | with_reducible refine Below.alloc ?_ (by first | omega | (simp <;> omega)) _ | with_reducible refine Below.setCell ?_ (by first | omega | (simp <;> omega)) _ | with_reducible refine Below.trans ?_ (Below.mono (by assumption) (by first | omega | (simp <;> omega)))))
  · have I3 := Lib.hid (show P - 2 - (Q - 2) = (((P - Q).toNat : Nat) : Int) by omega)
    have hx : nlen x ≤ 10 := by have := nlen_div y (2 ^ (P - Q).toNat); rw [HX.out] at this; omega
    rcases hs with ⟨rfl, rfl⟩ | ⟨rfl, rfl⟩
    all_goals
      have o2_0 : w.heap.size < w.heap.size + 1 + 1 := by omega
      go_enter Tryd.func59, Tryd.ntmps59
      go_wp2_with (first
        | (go_at_call 36; refine (rnan_as g l u b _ HN _).mono ?_; rintro e w1 ⟨rfl, hb1⟩; (try (with_reducible replace hb1 := undrew hb1)); obtain ⟨hc1, hf1⟩ := bcell hb1; have hs1 := hb1.size; (try simp at hs1); (try have y1_0_0 : w.heap.size < w1.heap.size := (by omega)); (try have y1_1_0 : w.heap.size + 1 < w1.heap.size := (by omega)))
        | (go_at_call 16; refine (rsplit_as g l u b N E F HS _).mono ?_; rintro e w2 ⟨v2, rfl, hn2, hb2⟩; have HN2 := Lib.hid hn2; clear hn2; (try (with_reducible replace hb2 := undrew hb2)); obtain ⟨hc2, hf2⟩ := bcell hb2; have hs2 := hb2.size; (try simp at hs2); (try have y2_0_0 : w.heap.size < w2.heap.size := (by omega)); (try have y2_1_0 : w.heap.size + 1 < w2.heap.size := (by omega)))
        | (go_at_call_of 46 (Value.int IntKind.u8 g); refine (rprec_as g l u P HP _).mono ?_; rintro e wq ⟨rfl, rfl⟩)
        | (go_at_call_of 46 (Value.int IntKind.u8 t); refine (rprec_as t l' u' Q HQ _).mono ?_; rintro e wq ⟨rfl, rfl⟩)
        | (go_at_call 77; refine (rcut_as v2 F (P - 2).toNat y (P - 2) (by omega) (by omega) I1 HY.out _ HN2 (by omega)).mono ?_; rintro e w3 ⟨v3, rfl, hn3, hb3⟩; have HN3 := Lib.hid hn3; clear hn3; (try (with_reducible replace hb3 := undrew hb3)); obtain ⟨hc3, hf3⟩ := bcell hb3; have hs3 := hb3.size; (try simp at hs3); (try have y3_0_0 : w.heap.size < w3.heap.size := (by omega)); (try have y3_1_0 : w.heap.size + 1 < w3.heap.size := (by omega)))
        | (go_at_call 78; refine (rshr_as v3 y (P - Q).toNat x (P - 2 - (Q - 2)) (by omega) (by omega) I3 HX.out _ HN3 (by omega)).mono ?_; rintro e w4 ⟨v4, rfl, hn4, hb4⟩; have HN4 := Lib.hid hn4; clear hn4; (try (with_reducible replace hb4 := undrew hb4)); obtain ⟨hc4, hf4⟩ := bcell hb4; have hs4 := hb4.size; (try simp at hs4); (try have y4_0_0 : w.heap.size < w4.heap.size := (by omega)); (try have y4_0_1 : w.heap.size < w4.heap.size + 1 := (by omega)); (try have y4_1_0 : w.heap.size + 1 < w4.heap.size := (by omega)); (try have y4_1_1 : w.heap.size + 1 < w4.heap.size + 1 := (by omega)))
        | (go_at_call 48; refine (remax_as t l' u' M HM _).mono ?_; rintro e wq ⟨rfl, rfl⟩)
        | (go_at_call 85; refine (rfull_as (Q - 2).toNat _ (Q - 2) (by omega) (by omega) I2 rfl _).mono ?_; rintro e w5 ⟨v5, rfl, hn5, hb5⟩; have HN5 := Lib.hid hn5; clear hn5; (try (with_reducible replace hb5 := undrew hb5)); obtain ⟨hc5, hf5⟩ := bcell hb5; have hs5 := hb5.size; (try simp at hs5); (try have y5_0_0 : w.heap.size < w5.heap.size := (by omega)); (try have y5_1_0 : w.heap.size + 1 < w5.heap.size := (by omega)); (try have y5_2_0 : w4.heap.size < w5.heap.size := (by omega)))
        | (go_at_call 83; refine (radd_as v4 v5 x (2 ^ (Q - 2).toNat) v HV.out _ (Lib.hid (HN4.out.below (by (repeat (first | with_reducible assumption | with_reducible exact Below.refl _ _ | with_reducible apply Below.drew | with_reducible apply below_drewN | with_reducible refine Below.alloc ?_ (by first | omega | (simp <;> omega)) _ | with_reducible refine Below.setCell ?_ (by first | omega | (simp <;> omega)) _ | with_reducible refine Below.trans ?_ (Below.mono (by assumption) (by first | omega | (simp <;> omega)))))))) HN5 (by omega) (by omega)).mono ?_; rintro e w6 ⟨v6, rfl, hn6, hb6⟩; have HN6 := Lib.hid hn6; clear hn6; (try (with_reducible replace hb6 := undrew hb6)); obtain ⟨hc6, hf6⟩ := bcell hb6; have hs6 := hb6.size; (try simp at hs6); (try have y6_0_0 : w.heap.size < w6.heap.size := (by omega)); (try have y6_1_0 : w.heap.size + 1 < w6.heap.size := (by omega)); (try have y6_2_0 : w4.heap.size < w6.heap.size := (by omega)))
        | (go_at_call 19; refine (rmake_any t l' u' N _ v6 v T z HZ HT.out _ HN6).mono ?_; rintro e w7 ⟨rfl, hb7⟩; (try (with_reducible replace hb7 := undrew hb7)); obtain ⟨hc7, hf7⟩ := bcell hb7; have hs7 := hb7.size; (try simp at hs7); (try have y7_0_0 : w.heap.size < w7.heap.size := (by omega)); (try have y7_1_0 : w.heap.size + 1 < w7.heap.size := (by omega)); (try have y7_2_0 : w4.heap.size < w7.heap.size := (by omega)))
        | (go_at_call 38; refine (rsig_as g l u b _ HG _).mono ?_; rintro e w8 ⟨rfl, hb8⟩; (try (with_reducible replace hb8 := undrew hb8)); obtain ⟨hc8, hf8⟩ := bcell hb8; have hs8 := hb8.size; (try simp at hs8); (try have y8_0_0 : w.heap.size < w8.heap.size := (by omega)); (try have y8_1_0 : w.heap.size + 1 < w8.heap.size := (by omega)); (try have y8_2_0 : w4.heap.size < w8.heap.size := (by omega))))
      simp [bodyPost, results, Tryd.results59, go_sem, *]
      (repeat (first | with_reducible assumption | with_reducible exact Below.refl _ _ | with_reducible apply Below.drew | with_reducible apply below_drewN | with_reducible refine Below.alloc ?_ (by first | omega | (simp <;> omega)) _ | with_reducible refine Below.setCell ?_ (by first | omega | (simp <;> omega)) _ | with_reducible refine Below.trans ?_ (Below.mono (by assumption) (by first | omega | (simp <;> omega)))))
theorem rmv_as (g t : Int) (l : 0 ≤ g) (u : g ≤ 255) (l' : 0 ≤ t) (u' : t ≤ 255) (b z : BitVec 128) (s : Bool) (fl : Int) (h : g < 4) (h' : t < 4) (hn : cNaN g b = true) (HZ : Hid (mvB g t b = z)) (HG : Hid (cSig g b = s)) (hs : (s = true ∧ fl = 1) ∨ (s = false ∧ fl = 0)) (w : World) :
    Calls Tryd.prog 59 #[.int .u8 g, .int .u8 t, Bv b] w fun y w' => y = .returned (.tuple #[.agg #[.int .u64 (hiB z), .int .u64 (loB z), .int .u8 fl], .bool true]) ∧ Gr w w' := by
  have hb := f_bounds g l h
  have hb' := f_bounds t l' h'
  have hlt := move_lt g t l h l' h' (fFrac g b).toNat
  obtain ⟨T, hT⟩ : ∃ T : BitVec 128, T.toNat = scN (fPr g).toNat (fPr t).toNat ((fFrac g b).toNat % 2 ^ (fPr g - 2).toNat) + 2 ^ (fPr t - 2).toNat :=
    ⟨BitVec.ofNat 128 _, by rw [BitVec.toNat_ofNat]; exact Nat.mod_eq_of_lt hlt⟩
  have hm := rmove g t l h l' h' b T hT
  rw [HZ.out] at hm
  refine rmv_yes g t l u l' u' (by omega) (by omega) b T z _ s _ _ _ _ fl _ _ _ _ (Lib.hid hn) (Lib.hid ⟨rfl, rfl, rfl⟩) (Lib.hid rfl) (Lib.hid rfl) (Lib.hid rfl) (by omega) (by omega) (by omega) (by omega) (by omega) (by omega) (nlen_128 _) (Lib.hid rfl) (Lib.hid hT.symm) (Lib.hid rfl) (Lib.hid hm) HG ?_ hs w
  unfold scN
  by_cases hle : fPr g ≤ fPr t
  · refine .inl ⟨hle, Lib.hid ?_⟩
    rw [if_pos (by omega), show (fPr t).toNat - (fPr g).toNat = (fPr t - fPr g).toNat by omega]
  · refine .inr ⟨by omega, Lib.hid ?_⟩
    rw [if_neg (by omega), show (fPr g).toNat - (fPr t).toNat = (fPr g - fPr t).toNat by omega]
end Hb
end Go.Proofs.YtbelighbkjadkaaDoor
