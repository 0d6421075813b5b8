/-
  THE WALKS OF THE REFERENCE'S FORMAT CHAPTER: Width, Prec, Emax, Cut, Split, Make, Inf, Max answer what the program's plain part says. Conditions: none but the arguments' kinds; that a slice reads as the number.
-/
import Derived.Test.YtbelighbkjadkaaDoorRefBit
import Derived.Test.YtbelighbkjadkaaDoorRef7Plain
namespace Go.Proofs.YtbelighbkjadkaaDoor
open Go.RowKit
namespace Hb
set_option maxRecDepth 20000
theorem rwidth_as (f : Int) (l : 0 ≤ f) (_u : f ≤ 255) (r : Int) (H : Hid (fWd f = r)) (w : World) : Calls Tryd.prog 44 #[.int .u8 f] w fun e w' => e = .returned (.int .i64 r) ∧ w = w' := by
  obtain rfl := H.out
  clear H
  by_cases h : f < 4
  · rcases f_four f l h with rfl | rfl | rfl | rfl
    all_goals
      go_enter Tryd.func44, Tryd.ntmps44
      go_wp2
      go_ret
      exact ⟨rfl, rfl⟩
  · rw [(f_none f h).1]
    have h0 : (f == 0) = false := by simp; omega
    have h1 : (f == 1) = false := by simp; omega
    have h2 : (f == 2) = false := by simp; omega
    have h3 : (f == 3) = false := by simp; omega
    go_enter Tryd.func44, Tryd.ntmps44
    go_wp2
    go_ret
    exact ⟨rfl, rfl⟩
theorem rprec_as (f : Int) (l : 0 ≤ f) (_u : f ≤ 255) (r : Int) (H : Hid (fPr f = r)) (w : World) : Calls Tryd.prog 46 #[.int .u8 f] w fun e w' => e = .returned (.int .i64 r) ∧ w = w' := by
  obtain rfl := H.out
  clear H
  by_cases h : f < 4
  · rcases f_four f l h with rfl | rfl | rfl | rfl
    all_goals
      go_enter Tryd.func46, Tryd.ntmps46
      go_wp2
      go_ret
      exact ⟨rfl, rfl⟩
  · rw [(f_none f h).2.1]
    have h0 : (f == 0) = false := by simp; omega
    have h1 : (f == 1) = false := by simp; omega
    have h2 : (f == 2) = false := by simp; omega
    have h3 : (f == 3) = false := by simp; omega
    go_enter Tryd.func46, Tryd.ntmps46
    go_wp2
    go_ret
    exact ⟨rfl, rfl⟩
theorem remax_as (f : Int) (l : 0 ≤ f) (_u : f ≤ 255) (r : Int) (H : Hid (fEm f = r)) (w : World) : Calls Tryd.prog 48 #[.int .u8 f] w fun e w' => e = .returned (.int .i64 r) ∧ w = w' := by
  obtain rfl := H.out
  clear H
  by_cases h : f < 4
  · rcases f_four f l h with rfl | rfl | rfl | rfl
    all_goals
      go_enter Tryd.func48, Tryd.ntmps48
      go_wp2
      go_ret
      exact ⟨rfl, rfl⟩
  · rw [(f_none f h).2.2.1]
    have h0 : (f == 0) = false := by simp; omega
    have h1 : (f == 1) = false := by simp; omega
    have h2 : (f == 2) = false := by simp; omega
    have h3 : (f == 3) = false := by simp; omega
    go_enter Tryd.func48, Tryd.ntmps48
    go_wp2
    go_ret
    exact ⟨rfl, rfl⟩
theorem rfcut_as (f : Int) (l : 0 ≤ f) (u : f ≤ 255) (b : BitVec 128) (z : Nat) (H : Hid ((fCut f b).toNat = z)) (w : World) : Calls Tryd.prog 41 #[.int .u8 f, Bv b] w (RetN z w) := by
  obtain ⟨W, hW⟩ : ∃ W : Int, fWd f = W := ⟨_, rfl⟩
  have hb := fWd_in f l
  have HR := Lib.hid (rcut_nat f l b)
  rw [hW] at hb HR
  obtain ⟨p1, p2⟩ := hb
  have HW := Lib.hid hW
  have HN := Lib.hid (show W = ((W.toNat : Nat) : Int) by omega)
  clear hW
  simp only [Bv]
  go_enter Tryd.func41, Tryd.ntmps41
  go_wp2_with (first
    | (go_at_call 20; refine (big_any b _).mono ?_; rintro e w1 ⟨v1, rfl, hn1, hb1⟩; have HN1 := Lib.hid hn1; clear hn1; (try (with_reducible replace hb1 := undrew hb1)); obtain ⟨hc1, hf1⟩ := bcell hb1; have hs1 := hb1.size; (try simp at hs1); (try have y1_0_0 : w.heap.size < w1.heap.size := (by omega)))
    | (go_at_call 44; refine (rwidth_as f l u W HW _).mono ?_; rintro e wq ⟨rfl, rfl⟩)
    | (go_at_call 77; refine (rcut_as v1 b.toNat W.toNat z W (by omega) (by omega) HN (by rw [HR.out]; exact H.out) _ HN1 (by have := nlen_128 b; omega)).mono ?_; rintro e w2 ⟨v2, rfl, hn2, hb2⟩; have HN2 := Lib.hid hn2; clear hn2; (try (with_reducible replace hb2 := undrew hb2)); obtain ⟨hc2, hf2⟩ := bcell hb2; have hs2 := hb2.size; (try simp at hs2); (try have y2_0_0 : w.heap.size < w2.heap.size := (by omega))))
  go_ret
  exact ⟨_, rfl, HN2.out, by (repeat (first | with_reducible assumption | with_reducible exact Below.refl _ _ | with_reducible apply Below.drew | with_reducible apply below_drewN | with_reducible refine Below.alloc ?_ (by first | omega | (simp <;> omega)) _ | with_reducible refine Below.setCell ?_ (by first | omega | (simp <;> omega)) _ | with_reducible refine Below.trans ?_ (Below.mono (by assumption) (by first | omega | (simp <;> omega)))))⟩
theorem bits_hl (v : Value) (n : Nat) (h l : Int) (H : Hid (hiB (nB n) = h ∧ loB (nB n) = l)) (w : World) (hn : Hid (IsN w v n)) :
    Calls Tryd.prog 17 #[v] w fun e w' => e = .returned (.agg #[.int .u64 h, .int .u64 l]) ∧ Gr w w' := by
  obtain ⟨rfl, rfl⟩ := H.out; exact bits_as v n _ (Lib.hid rfl) w hn
theorem nB_lo (n : Nat) (h : n < 18446744073709551616) : loB (nB n) = (n : Int) := by unfold loB nB; rw [BitVec.toNat_ofNat]; omega
/-- The reference's Split hands back a sign, an exponent's field, a fraction. -/
def RetSplit (N : Bool) (E : Int) (F : Nat) (w : World) (e : Ending) (w' : World) : Prop := ∃ v, e = .returned (.tuple #[.bool N, .int .i64 E, v]) ∧ IsN w' v F ∧ Below w.heap.size w w'
set_option maxHeartbeats 1000000 in
theorem rsplit_yes (f : Int) (l : 0 ≤ f) (u : f ≤ 255) (b : BitVec 128) (N : Bool) (E W P h0 : Int) (z y x F : Nat) (w : World) (HW : Hid (fWd f = W)) (HP : Hid (fPr f = P)) (b0 : 16 ≤ W) (b1 : W ≤ 128) (b2 : 11 ≤ P) (b3 : P ≤ 113) (e0 : 0 ≤ E) (e1 : E ≤ 32767)
    (HZ : Hid ((fCut f b).toNat = z)) (HY : Hid (z % 2 ^ (W - 1).toNat = y)) (HX : Hid (y / 2 ^ (P - 1).toNat = x)) (HE : Hid (hiB (nB x) = h0 ∧ loB (nB x) = E)) (HN : Hid (decide (z / 2 ^ (W - 1).toNat % 2 = 1) = N)) (HF : Hid (y % 2 ^ (P - 1).toNat = F)) (hz : nlen z ≤ 4) (hy : nlen y ≤ 4) :
    Calls Tryd.prog 16 #[.int .u8 f, Bv b] w (RetSplit N E F w) := by
  have I1 := Lib.hid (show W - 1 = (((W - 1).toNat : Nat) : Int) by omega)
  have I2 := Lib.hid (show P - 1 = (((P - 1).toNat : Nat) : Int) by omega)
  have hw0 : (W == 0) = false := by simp; omega
  simp only [Bv]

  go_enter Tryd.func16, Tryd.ntmps16
  go_wp2_with (first
    | (go_at_call 44; refine (rwidth_as f l u W HW _).mono ?_; rintro e wq ⟨rfl, rfl⟩)
    | (go_at_call 46; refine (rprec_as f l u P HP _).mono ?_; rintro e wq ⟨rfl, rfl⟩)
    | (go_at_call 41; refine (rfcut_as f l u b z HZ _).mono ?_; rintro e w1 ⟨v1, rfl, hn1, hb1⟩; have HN1 := Lib.hid hn1; clear hn1; (try (with_reducible replace hb1 := undrew hb1)); obtain ⟨hc1, hf1⟩ := bcell hb1; have hs1 := hb1.size; (try simp at hs1); (try have y1_0_0 : w.heap.size < w1.heap.size := (by omega)))
    | (go_at_call 77; refine (rcut_as v1 z (W - 1).toNat y (W - 1) (by omega) (by omega) I1 HY.out _ HN1 (by omega)).mono ?_; rintro e w2 ⟨v2, rfl, hn2, hb2⟩; have HN2 := Lib.hid hn2; clear hn2; (try (with_reducible replace hb2 := undrew hb2)); obtain ⟨hc2, hf2⟩ := bcell hb2; have hs2 := hb2.size; (try simp at hs2); (try have y2_0_0 : w.heap.size < w2.heap.size := (by omega)))
    | (go_at_call 78; refine (rshr_as v2 y (P - 1).toNat x (P - 1) (by omega) (by omega) I2 HX.out _ HN2 (by omega)).mono ?_; rintro e w3 ⟨v3, rfl, hn3, hb3⟩; have HN3 := Lib.hid hn3; clear hn3; (try (with_reducible replace hb3 := undrew hb3)); obtain ⟨hc3, hf3⟩ := bcell hb3; have hs3 := hb3.size; (try simp at hs3); (try have y3_0_0 : w.heap.size < w3.heap.size := (by omega)))
    | (go_at_call 17; refine (bits_hl v3 x h0 E HE _ HN3).mono ?_; rintro e w4 ⟨rfl, hb4⟩; (try (with_reducible replace hb4 := undrew hb4)); obtain ⟨hc4, hf4⟩ := bcell hb4; have hs4 := hb4.size; (try simp at hs4); (try have y4_0_0 : w.heap.size < w4.heap.size := (by omega)); (try have y4_0_1 : w.heap.size < w4.heap.size + 1 := (by omega))))
  have g1 : (W - 1).toNat ≤ 200 := by omega
  have hm1 : 0 ≤ W - 1 := by omega
  have hm2 : W - 1 ≤ 10000 := by omega
  have hm3 : 0 ≤ P - 1 := by omega
  have hm4 : P - 1 ≤ 10000 := by omega
  have hm5 : W - 1 ≤ 100000 := by omega
  have hy1 : nlen y ≤ 100 := by omega
  have x1 := IntWalk.i64_in (W - 1) (by omega)
  have x2 := IntWalk.i64_in (P - 1) (by omega)
  have x3 := IntWalk.i64_in E (by omega)
  go_region_held3 (fun x => x.cell? ⟨w4.heap.size, 0, none⟩ = some (.int .u64 h0) ∧ x.cell? ⟨w4.heap.size, 1, none⟩ = some (.int .u64 E))
    (simp [go_sem, *])
    (first
      | (go_at_call 44; refine (rwidth_as f l u W HW _).mono ?_; rintro e wq ⟨rfl, rfl⟩)
      | (go_at_call 46; refine (rprec_as f l u P HP _).mono ?_; rintro e wq ⟨rfl, rfl⟩)
      | (go_at_call 79; refine (rbit_as v1 z (W - 1).toNat (W - 1) hm1 hm5 I1 N HN _ (Lib.hid (HN1.out.below (by (repeat (first | with_reducible assumption | with_reducible exact Below.refl _ _ | with_reducible apply Below.drew | with_reducible apply below_drewN | with_reducible refine Below.alloc ?_ (by first | omega | (simp <;> omega)) _ | with_reducible refine Below.setCell ?_ (by first | omega | (simp <;> omega)) _ | with_reducible refine Below.trans ?_ (Below.mono (by assumption) (by first | omega | (simp <;> omega))))))))).mono ?_; rintro e wq ⟨rfl, rfl⟩)
      | (go_at_call 77; refine (rcut_as v2 y (P - 1).toNat F (P - 1) hm3 hm4 I2 HF.out _ (Lib.hid (HN2.out.below (by (repeat (first | with_reducible assumption | with_reducible exact Below.refl _ _ | with_reducible apply Below.drew | with_reducible apply below_drewN | with_reducible refine Below.alloc ?_ (by first | omega | (simp <;> omega)) _ | with_reducible refine Below.setCell ?_ (by first | omega | (simp <;> omega)) _ | with_reducible refine Below.trans ?_ (Below.mono (by assumption) (by first | omega | (simp <;> omega)))))))) hy1).mono ?_; rintro e w5 ⟨v5, rfl, hn5, hb5⟩; have HN5 := Lib.hid hn5; clear hn5; (try (with_reducible replace hb5 := undrew hb5)); obtain ⟨hc5, hf5⟩ := bcell hb5; have hs5 := hb5.size; (try simp at hs5); (try have y5_0_0 : w.heap.size < w5.heap.size := (by omega)); (try have y5_1_0 : w4.heap.size < w5.heap.size := (by omega))))
  go_wp2
  refine bodyPost_ret (v := .tuple #[.bool N, .int .i64 E, v5]) (by simp [results, Tryd.results16, go_sem]) rfl ⟨_, rfl, HN5.out, ?_⟩
  (repeat (first | with_reducible assumption | with_reducible exact Below.refl _ _ | with_reducible apply Below.drew | with_reducible apply below_drewN | with_reducible refine Below.alloc ?_ (by first | omega | (simp <;> omega)) _ | with_reducible refine Below.setCell ?_ (by first | omega | (simp <;> omega)) _ | with_reducible refine Below.trans ?_ (Below.mono (by assumption) (by first | omega | (simp <;> omega)))))
theorem rsplit_no (f : Int) (l : 0 ≤ f) (u : f ≤ 255) (h : ¬ f < 4) (b : BitVec 128) (w : World) : Calls Tryd.prog 16 #[.int .u8 f, Bv b] w (RetSplit false 0 0 w) := by
  have HW := Lib.hid (f_none f h).1
  simp only [Bv]
  go_enter Tryd.func16, Tryd.ntmps16
  go_wp2_with (first
    | (go_at_call 44; refine (rwidth_as f l u 0 HW _).mono ?_; rintro e wq ⟨rfl, rfl⟩))
  refine bodyPost_ret (v := .tuple #[.bool false, .int .i64 0, .slice none 0 0]) (by simp [results, Tryd.results16, go_sem]) rfl ⟨_, rfl, isN_nil _, ?_⟩
  (repeat (first | with_reducible assumption | with_reducible exact Below.refl _ _ | with_reducible apply Below.drew | with_reducible apply below_drewN | with_reducible refine Below.alloc ?_ (by first | omega | (simp <;> omega)) _ | with_reducible refine Below.setCell ?_ (by first | omega | (simp <;> omega)) _ | with_reducible refine Below.trans ?_ (Below.mono (by assumption) (by first | omega | (simp <;> omega)))))
theorem rsplit_as (f : Int) (l : 0 ≤ f) (u : f ≤ 255) (b : BitVec 128) (N : Bool) (E : Int) (F : Nat) (H : Hid (fNeg f b = N ∧ fExp f b = E ∧ (fFrac f b).toNat = F)) (w : World) : Calls Tryd.prog 16 #[.int .u8 f, Bv b] w (RetSplit N E F w) := by
  obtain ⟨rfl, rfl, rfl⟩ := H.out
  by_cases h : f < 4
  · have hb := f_bounds f l h
    have he := exp_lt f b l
    have h1 := rexp_nat f l h b
    have n1 : nlen ((fCut f b).toNat) ≤ 4 := nlen_128 _
    refine rsplit_yes f l u b _ _ (fWd f) (fPr f) _ _ _ _ _ w (Lib.hid rfl) (Lib.hid rfl) (by omega) (by omega) (by omega) (by omega) he.1 he.2 (Lib.hid rfl) (Lib.hid rfl) (Lib.hid rfl) (Lib.hid ⟨rfl, ?_⟩) (Lib.hid (rneg_nat f l h b)) (Lib.hid (rfrac_nat f l h b)) n1 (by have := nlen_mod (fCut f b).toNat (2 ^ (fWd f - 1).toNat); omega)
    rw [nB_lo _ (by omega)]
    exact h1
  · obtain ⟨h1, h2, h3⟩ := split_none f h b
    rw [h1, h2, h3]
    exact rsplit_no f l u h b w
set_option maxHeartbeats 4000000 in
theorem rmake_core (f : Int) (l : 0 ≤ f) (u : f ≤ 255) (neg : Bool) (e e' W P : Int) (v : Value) (t x1 x2 x3 x4 x5 : Nat) (z : BitVec 128) (w : World) (HW : Hid (fWd f = W)) (HP : Hid (fPr f = P)) (b0 : 16 ≤ W) (b1 : W ≤ 128) (b2 : 11 ≤ P) (b3 : P ≤ 113) (b4 : 0 ≤ W - P)
    (HV : Hid (IsN w v t)) (ht : nlen t ≤ 100) (H1 : Hid (e'.toNat % 2 ^ (W - P).toNat = x1)) (H2 : Hid (x1 * 2 ^ (P - 1).toNat = x2)) (H3 : Hid (t % 2 ^ (P - 1).toNat = x3)) (H4 : Hid (x2 + x3 = x4)) (H5 : Hid (x4 + 2 ^ (W - 1).toNat = x5))
    (he0 : 0 ≤ e') (he1 : e' ≤ 1048576) (hl1 : nlen x1 ≤ 10) (hl2 : nlen x2 ≤ 100) (hl3 : nlen x3 ≤ 100) (hl4 : nlen x4 ≤ 100) (cs : (e < 0 ∧ e' = 0) ∨ (0 ≤ e ∧ 1048576 < e ∧ e' = 0) ∨ (e' = e)) (cn : (neg = true ∧ Hid (nB x5 = z)) ∨ (neg = false ∧ Hid (nB x4 = z))) :
    Calls Tryd.prog 19 #[.int .u8 f, .bool neg, .int .i64 e, v] w fun y w' => y = .returned (Bv z) ∧ Gr w w' := by
  have I1 := Lib.hid (show W - 1 = (((W - 1).toNat : Nat) : Int) by omega)
  have I2 := Lib.hid (show P - 1 = (((P - 1).toNat : Nat) : Int) by omega)
  have I3 := Lib.hid (show W - P = (((W - P).toNat : Nat) : Int) by omega)
  have hw0 : (W == 0) = false := by simp; omega
  have hl0 : nlen e'.toNat ≤ 1 := nlen_of_lt (by rw [show B32 1 = 4294967296 by decide]; omega)
  have hl6 : nlen (2 ^ (W - 1).toNat) ≤ 5 := nlen_of_lt (Nat.pow_lt_pow_right (by decide) (by omega))
  rcases cn with ⟨rfl, HB⟩ | ⟨rfl, HB⟩
  · rcases cs with ⟨c1, rfl⟩ | ⟨c0, c1, rfl⟩ | rfl
    all_goals

      go_enter Tryd.func19, Tryd.ntmps19
      go_wp2_with (first
        | (go_at_call 44; refine (rwidth_as f l u W HW _).mono ?_; rintro e wq ⟨rfl, rfl⟩)
        | (go_at_call 46; refine (rprec_as f l u P HP _).mono ?_; rintro e wq ⟨rfl, rfl⟩)
        | (go_at_call 82; refine (of_any' _ he0 (by omega) _).mono ?_; rintro e w1 ⟨v1, rfl, hn1, hb1⟩; have HN1 := Lib.hid hn1; clear hn1; (try (with_reducible replace hb1 := undrew hb1)); obtain ⟨hc1, hf1⟩ := bcell hb1; have hs1 := hb1.size; (try simp at hs1); (try have y1_0_0 : w.heap.size < w1.heap.size := (by omega)))
        | (go_at_call_of 77 (v1); refine (rcut_as v1 _ (W - P).toNat x1 (W - P) (by omega) (by omega) I3 H1.out _ HN1 (by omega)).mono ?_; rintro e w2 ⟨v2, rfl, hn2, hb2⟩; have HN2 := Lib.hid hn2; clear hn2; (try (with_reducible replace hb2 := undrew hb2)); obtain ⟨hc2, hf2⟩ := bcell hb2; have hs2 := hb2.size; (try simp at hs2); (try have y2_0_0 : w.heap.size < w2.heap.size := (by omega)))
        | (go_at_call 84; refine (rshl_as v2 x1 (P - 1).toNat x2 (P - 1) (by omega) (by omega) I2 H2.out _ HN2 (by omega)).mono ?_; rintro e w3 ⟨v3, rfl, hn3, hb3⟩; have HN3 := Lib.hid hn3; clear hn3; (try (with_reducible replace hb3 := undrew hb3)); obtain ⟨hc3, hf3⟩ := bcell hb3; have hs3 := hb3.size; (try simp at hs3); (try have y3_0_0 : w.heap.size < w3.heap.size := (by omega)))
        | (go_at_call_of 77 (v); refine (rcut_as v t (P - 1).toNat x3 (P - 1) (by omega) (by omega) I2 H3.out _ (Lib.hid (HV.out.below (by (repeat (first | with_reducible assumption | with_reducible exact Below.refl _ _ | with_reducible apply Below.drew | with_reducible apply below_drewN | with_reducible refine Below.alloc ?_ (by first | omega | (simp <;> omega)) _ | with_reducible refine Below.setCell ?_ (by first | omega | (simp <;> omega)) _ | with_reducible refine Below.trans ?_ (Below.mono (by assumption) (by first | omega | (simp <;> omega)))))))) (by omega)).mono ?_; rintro e w4 ⟨v4, rfl, hn4, hb4⟩; have HN4 := Lib.hid hn4; clear hn4; (try (with_reducible replace hb4 := undrew hb4)); obtain ⟨hc4, hf4⟩ := bcell hb4; have hs4 := hb4.size; (try simp at hs4); (try have y4_0_0 : w.heap.size < w4.heap.size := (by omega)))
        | (go_at_call_of 83 (v4); refine (radd_as v3 v4 x2 x3 x4 H4.out _ (Lib.hid (HN3.out.below (by (repeat (first | with_reducible assumption | with_reducible exact Below.refl _ _ | with_reducible apply Below.drew | with_reducible apply below_drewN | with_reducible refine Below.alloc ?_ (by first | omega | (simp <;> omega)) _ | with_reducible refine Below.setCell ?_ (by first | omega | (simp <;> omega)) _ | with_reducible refine Below.trans ?_ (Below.mono (by assumption) (by first | omega | (simp <;> omega)))))))) HN4 (by omega) (by omega)).mono ?_; rintro e w5 ⟨v5, rfl, hn5, hb5⟩; have HN5 := Lib.hid hn5; clear hn5; (try (with_reducible replace hb5 := undrew hb5)); obtain ⟨hc5, hf5⟩ := bcell hb5; have hs5 := hb5.size; (try simp at hs5); (try have y5_0_0 : w.heap.size < w5.heap.size := (by omega)))
        | (go_at_call 85; refine (rfull_as (W - 1).toNat _ (W - 1) (by omega) (by omega) I1 rfl _).mono ?_; rintro e w6 ⟨v6, rfl, hn6, hb6⟩; have HN6 := Lib.hid hn6; clear hn6; (try (with_reducible replace hb6 := undrew hb6)); obtain ⟨hc6, hf6⟩ := bcell hb6; have hs6 := hb6.size; (try simp at hs6); (try have y6_0_0 : w.heap.size < w6.heap.size := (by omega)))
        | (go_at_call_of 83 (v6); refine (radd_as v5 v6 x4 _ x5 H5.out _ (Lib.hid (HN5.out.below (by (repeat (first | with_reducible assumption | with_reducible exact Below.refl _ _ | with_reducible apply Below.drew | with_reducible apply below_drewN | with_reducible refine Below.alloc ?_ (by first | omega | (simp <;> omega)) _ | with_reducible refine Below.setCell ?_ (by first | omega | (simp <;> omega)) _ | with_reducible refine Below.trans ?_ (Below.mono (by assumption) (by first | omega | (simp <;> omega)))))))) HN6 (by omega) (by omega)).mono ?_; rintro e w7 ⟨v7, rfl, hn7, hb7⟩; have HN7 := Lib.hid hn7; clear hn7; (try (with_reducible replace hb7 := undrew hb7)); obtain ⟨hc7, hf7⟩ := bcell hb7; have hs7 := hb7.size; (try simp at hs7); (try have y7_0_0 : w.heap.size < w7.heap.size := (by omega)))
        | (go_at_call 17; refine (bits_as v7 x5 z HB _ HN7).mono ?_; rintro e w8 ⟨rfl, hb8⟩; (try (with_reducible replace hb8 := undrew hb8)); obtain ⟨hc8, hf8⟩ := bcell hb8; have hs8 := hb8.size; (try simp at hs8); (try have y8_0_0 : w.heap.size < w8.heap.size := (by omega))))
      simp [bodyPost, results, Tryd.results19, Bv, go_sem, *]
      (repeat (first | with_reducible assumption | with_reducible exact Below.refl _ _ | with_reducible apply Below.drew | with_reducible apply below_drewN | with_reducible refine Below.alloc ?_ (by first | omega | (simp <;> omega)) _ | with_reducible refine Below.setCell ?_ (by first | omega | (simp <;> omega)) _ | with_reducible refine Below.trans ?_ (Below.mono (by assumption) (by first | omega | (simp <;> omega)))))
  · rcases cs with ⟨c1, rfl⟩ | ⟨c0, c1, rfl⟩ | rfl
    all_goals

      go_enter Tryd.func19, Tryd.ntmps19
      go_wp2_with (first
        | (go_at_call 44; refine (rwidth_as f l u W HW _).mono ?_; rintro e wq ⟨rfl, rfl⟩)
        | (go_at_call 46; refine (rprec_as f l u P HP _).mono ?_; rintro e wq ⟨rfl, rfl⟩)
        | (go_at_call 82; refine (of_any' _ he0 (by omega) _).mono ?_; rintro e w1 ⟨v1, rfl, hn1, hb1⟩; have HN1 := Lib.hid hn1; clear hn1; (try (with_reducible replace hb1 := undrew hb1)); obtain ⟨hc1, hf1⟩ := bcell hb1; have hs1 := hb1.size; (try simp at hs1); (try have y1_0_0 : w.heap.size < w1.heap.size := (by omega)))
        | (go_at_call_of 77 (v1); refine (rcut_as v1 _ (W - P).toNat x1 (W - P) (by omega) (by omega) I3 H1.out _ HN1 (by omega)).mono ?_; rintro e w2 ⟨v2, rfl, hn2, hb2⟩; have HN2 := Lib.hid hn2; clear hn2; (try (with_reducible replace hb2 := undrew hb2)); obtain ⟨hc2, hf2⟩ := bcell hb2; have hs2 := hb2.size; (try simp at hs2); (try have y2_0_0 : w.heap.size < w2.heap.size := (by omega)))
        | (go_at_call 84; refine (rshl_as v2 x1 (P - 1).toNat x2 (P - 1) (by omega) (by omega) I2 H2.out _ HN2 (by omega)).mono ?_; rintro e w3 ⟨v3, rfl, hn3, hb3⟩; have HN3 := Lib.hid hn3; clear hn3; (try (with_reducible replace hb3 := undrew hb3)); obtain ⟨hc3, hf3⟩ := bcell hb3; have hs3 := hb3.size; (try simp at hs3); (try have y3_0_0 : w.heap.size < w3.heap.size := (by omega)))
        | (go_at_call_of 77 (v); refine (rcut_as v t (P - 1).toNat x3 (P - 1) (by omega) (by omega) I2 H3.out _ (Lib.hid (HV.out.below (by (repeat (first | with_reducible assumption | with_reducible exact Below.refl _ _ | with_reducible apply Below.drew | with_reducible apply below_drewN | with_reducible refine Below.alloc ?_ (by first | omega | (simp <;> omega)) _ | with_reducible refine Below.setCell ?_ (by first | omega | (simp <;> omega)) _ | with_reducible refine Below.trans ?_ (Below.mono (by assumption) (by first | omega | (simp <;> omega)))))))) (by omega)).mono ?_; rintro e w4 ⟨v4, rfl, hn4, hb4⟩; have HN4 := Lib.hid hn4; clear hn4; (try (with_reducible replace hb4 := undrew hb4)); obtain ⟨hc4, hf4⟩ := bcell hb4; have hs4 := hb4.size; (try simp at hs4); (try have y4_0_0 : w.heap.size < w4.heap.size := (by omega)))
        | (go_at_call_of 83 (v4); refine (radd_as v3 v4 x2 x3 x4 H4.out _ (Lib.hid (HN3.out.below (by (repeat (first | with_reducible assumption | with_reducible exact Below.refl _ _ | with_reducible apply Below.drew | with_reducible apply below_drewN | with_reducible refine Below.alloc ?_ (by first | omega | (simp <;> omega)) _ | with_reducible refine Below.setCell ?_ (by first | omega | (simp <;> omega)) _ | with_reducible refine Below.trans ?_ (Below.mono (by assumption) (by first | omega | (simp <;> omega)))))))) HN4 (by omega) (by omega)).mono ?_; rintro e w5 ⟨v5, rfl, hn5, hb5⟩; have HN5 := Lib.hid hn5; clear hn5; (try (with_reducible replace hb5 := undrew hb5)); obtain ⟨hc5, hf5⟩ := bcell hb5; have hs5 := hb5.size; (try simp at hs5); (try have y5_0_0 : w.heap.size < w5.heap.size := (by omega)))
        | (go_at_call 17; refine (bits_as v5 x4 z HB _ HN5).mono ?_; rintro e w8 ⟨rfl, hb8⟩; (try (with_reducible replace hb8 := undrew hb8)); obtain ⟨hc8, hf8⟩ := bcell hb8; have hs8 := hb8.size; (try simp at hs8); (try have y8_0_0 : w.heap.size < w8.heap.size := (by omega))))
      simp [bodyPost, results, Tryd.results19, Bv, go_sem, *]
      (repeat (first | with_reducible assumption | with_reducible exact Below.refl _ _ | with_reducible apply Below.drew | with_reducible apply below_drewN | with_reducible refine Below.alloc ?_ (by first | omega | (simp <;> omega)) _ | with_reducible refine Below.setCell ?_ (by first | omega | (simp <;> omega)) _ | with_reducible refine Below.trans ?_ (Below.mono (by assumption) (by first | omega | (simp <;> omega)))))
end Hb
end Go.Proofs.YtbelighbkjadkaaDoor
