/-
  THE WALKS OF Of, Unpack OF THE REFERENCE: they answer what the program's plain part says. Conditions: none but the arguments' kinds.
-/
import Derived.Test.YtbelighbkjadkaaDoorRef8
import Derived.Test.YtbelighbkjadkaaDoorFields
namespace Go.Proofs.YtbelighbkjadkaaDoor
open Go.RowKit
namespace Hb
set_option maxRecDepth 20000
/-- The reference's Of hands back a sign, a number, an exponent. -/
def RetVal (N : Bool) (M : Nat) (e : Int) (w : World) (y : Ending) (w' : World) : Prop := ∃ s c, y = .returned (.agg #[.bool N, .slice s (nlen M) c, .int .i64 e]) ∧ IsN w' (.slice s (nlen M) c) M ∧ Below w.heap.size w w'
theorem IsN.away {w w' : World} {v : Value} {n : Nat} (h : IsN w v n) (g : Nat) (x : Value) (hg : w.cell? ⟨g, 0, none⟩ = some x) (hx : ∀ d, x ≠ .int .u32 d) (hsz : w.heap.size ≤ w'.heap.size) (hcell : ∀ b o, b < w.heap.size → ¬ b = g → w'.cell? ⟨b, o, none⟩ = w.cell? ⟨b, o, none⟩) : IsN w' v n := by
  obtain ⟨s, c, rfl, h1, h2, h3, h4⟩ := h
  refine ⟨s, c, rfl, h1, h2, h3, ?_⟩
  rcases h4 with h4 | ⟨b, rfl, hl, hc⟩
  · exact .inl h4
  · by_cases h0 : nlen n = 0
    · exact .inl h0
    · refine .inr ⟨b, rfl, Nat.lt_of_lt_of_le hl hsz, fun i hi => ?_⟩
      have hb : ¬ b = g := fun e => by
        subst e
        have := hc 0 (by omega)
        rw [hg] at this
        exact hx _ (Option.some.inj this)
      rw [hcell b i hl hb]; exact hc i hi
set_option maxHeartbeats 2000000 in
theorem rof_core (f : Int) (l : 0 ≤ f) (u : f ≤ 255) (b : BitVec 128) (N : Bool) (E P M e : Int) (F m : Nat) (H : Hid (fNeg f b = N ∧ fExp f b = E ∧ (fFrac f b).toNat = F)) (HM : Hid (fEm f = M)) (HP : Hid (fPr f = P)) (m0 : 0 ≤ M) (m1 : M ≤ 16383) (p0 : 11 ≤ P) (p1 : P ≤ 113) (e0 : 0 ≤ E) (e1 : E ≤ 32767) (hF : nlen F ≤ 4)
    (cs : (E = 0 ∧ m = F ∧ e = 1 - M - (P - 1)) ∨ ((E == 0) = false ∧ Hid (F + 2 ^ (P - 1).toNat = m) ∧ e = E - M - (P - 1))) (w : World) :
    Calls Tryd.prog 109 #[.int .u8 f, Bv b] w (RetVal N m e w) := by
  have I2 := Lib.hid (show P - 1 = (((P - 1).toNat : Nat) : Int) by omega)
  have hl6 : nlen (2 ^ (P - 1).toNat) ≤ 5 := nlen_of_lt (Nat.pow_lt_pow_right (by decide) (by omega))
  simp only [Bv]
  rcases cs with ⟨rfl, rfl, rfl⟩ | ⟨h1, HS, rfl⟩
  · have o2_0 : w.heap.size < w.heap.size + 1 + 1 := by omega
    go_enter Tryd.func109, Tryd.ntmps109
    go_wp2_with (first
      | (go_at_call 16; refine (rsplit_as f l u b N _ m H _).mono ?_; rintro e w1 ⟨v1, rfl, hn1, hb1⟩; have HN1 := Lib.hid hn1; clear hn1; obtain ⟨s1, c1, rfl, hrow1⟩ := HN1.out; clear hrow1; (try (with_reducible replace hb1 := undrew hb1)); obtain ⟨hc1, hf1⟩ := bcell hb1; have hs1 := hb1.size; (try simp at hs1); (try have y1_0_0 : w.heap.size < w1.heap.size := (by omega)); (try have y1_1_0 : w.heap.size + 1 < w1.heap.size := (by omega)))
      | (go_at_call 48; refine (remax_as f l u M HM _).mono ?_; rintro e wq ⟨rfl, rfl⟩)
      | (go_at_call 46; refine (rprec_as f l u P HP _).mono ?_; rintro e wq ⟨rfl, rfl⟩))
    refine bodyPost_ret (v := .agg #[.bool N, .slice s1 (nlen m) c1, .int .i64 (1 - M - (P - 1))]) (by simp [results, Tryd.results109, go_sem, *]) rfl ⟨_, _, rfl, HN1.out.away (w.heap.size + 1) (.bool false) (by simp [go_sem, *]) (fun d e => by cases e) (by simp) (fun b o hb hbg => by simp [go_sem, *]), ?_⟩
    (repeat (first | with_reducible assumption | with_reducible exact Below.refl _ _ | with_reducible apply Below.drew | with_reducible apply below_drewN | with_reducible refine Below.alloc ?_ (by first | omega | (simp <;> omega)) _ | with_reducible refine Below.setCell ?_ (by first | omega | (simp <;> omega)) _ | with_reducible refine Below.trans ?_ (Below.mono (by assumption) (by first | omega | (simp <;> omega)))))
  · have o2_0 : w.heap.size < w.heap.size + 1 + 1 := by omega
    go_enter Tryd.func109, Tryd.ntmps109
    go_wp2_with (first
      | (go_at_call 16; refine (rsplit_as f l u b N E F H _).mono ?_; rintro e w1 ⟨v1, rfl, hn1, hb1⟩; have HN1 := Lib.hid hn1; clear hn1; (try (with_reducible replace hb1 := undrew hb1)); obtain ⟨hc1, hf1⟩ := bcell hb1; have hs1 := hb1.size; (try simp at hs1); (try have y1_0_0 : w.heap.size < w1.heap.size := (by omega)); (try have y1_1_0 : w.heap.size + 1 < w1.heap.size := (by omega)))
      | (go_at_call 48; refine (remax_as f l u M HM _).mono ?_; rintro e wq ⟨rfl, rfl⟩)
      | (go_at_call 46; refine (rprec_as f l u P HP _).mono ?_; rintro e wq ⟨rfl, rfl⟩)
      | (go_at_call 85; refine (rfull_as (P - 1).toNat _ (P - 1) (by omega) (by omega) I2 rfl _).mono ?_; rintro e w2 ⟨v2, rfl, hn2, hb2⟩; have HN2 := Lib.hid hn2; clear hn2; (try (with_reducible replace hb2 := undrew hb2)); obtain ⟨hc2, hf2⟩ := bcell hb2; have hs2 := hb2.size; (try simp at hs2); (try have y2_0_0 : w.heap.size < w2.heap.size := (by omega)); (try have y2_1_0 : w.heap.size + 1 < w2.heap.size := (by omega)))
      | (go_at_call 83; refine (radd_as v1 v2 F (2 ^ (P - 1).toNat) m HS.out _ (Lib.hid (HN1.out.below (by (repeat (first | with_reducible assumption | with_reducible exact Below.refl _ _ | with_reducible apply Below.drew | with_reducible apply below_drewN | with_reducible refine Below.alloc ?_ (by first | omega | (simp <;> omega)) _ | with_reducible refine Below.setCell ?_ (by first | omega | (simp <;> omega)) _ | with_reducible refine Below.trans ?_ (Below.mono (by assumption) (by first | omega | (simp <;> omega)))))))) HN2 (by omega) (by omega)).mono ?_; rintro e w3 ⟨v3, rfl, hn3, hb3⟩; have HN3 := Lib.hid hn3; clear hn3; obtain ⟨s3, c3, rfl, hrow3⟩ := HN3.out; clear hrow3; (try (with_reducible replace hb3 := undrew hb3)); obtain ⟨hc3, hf3⟩ := bcell hb3; have hs3 := hb3.size; (try simp at hs3); (try have y3_0_0 : w.heap.size < w3.heap.size := (by omega)); (try have y3_1_0 : w.heap.size + 1 < w3.heap.size := (by omega))))
    refine bodyPost_ret (v := .agg #[.bool N, .slice s3 (nlen m) c3, .int .i64 (E - M - (P - 1))]) (by simp [results, Tryd.results109, go_sem, *]) rfl ⟨_, _, rfl, HN3.out.away (w.heap.size + 1) (.bool false) (by simp [go_sem, *]) (fun d e => by cases e) (by simp) (fun b o hb hbg => by simp [go_sem, *]), ?_⟩
    (repeat (first | with_reducible assumption | with_reducible exact Below.refl _ _ | with_reducible apply Below.drew | with_reducible apply below_drewN | with_reducible refine Below.alloc ?_ (by first | omega | (simp <;> omega)) _ | with_reducible refine Below.setCell ?_ (by first | omega | (simp <;> omega)) _ | with_reducible refine Below.trans ?_ (Below.mono (by assumption) (by first | omega | (simp <;> omega)))))
theorem rof_as (f : Int) (l : 0 ≤ f) (u : f ≤ 255) (h : f < 4) (b : BitVec 128) (N : Bool) (m : Nat) (e : Int) (H : Hid (fNeg f b = N ∧ vM f b = m ∧ vE f b = e)) (w : World) :
    Calls Tryd.prog 109 #[.int .u8 f, Bv b] w (RetVal N m e w) := by
  have hb := f_bounds f l h
  have hx := exp_lt f b l
  obtain ⟨rfl, rfl, rfl⟩ := H.out
  refine rof_core f l u b _ (fExp f b) (fPr f) (fEm f) _ (fFrac f b).toNat _ (Lib.hid ⟨rfl, rfl, rfl⟩) (Lib.hid rfl) (Lib.hid rfl) (by omega) (by omega) (by omega) (by omega) hx.1 hx.2 (nlen_128 _) ?_ w
  unfold vM vE
  by_cases h0 : fExp f b = 0
  · exact .inl ⟨h0, if_pos h0, if_pos h0⟩
  · exact .inr ⟨by simpa using h0, Lib.hid (if_neg h0).symm, if_neg h0⟩
set_option maxHeartbeats 2000000 in
theorem runp_yes (f : Int) (l : 0 ≤ f) (u : f ≤ 255) (h : f < 4) (b z : BitVec 128) (N : Bool) (c e q L : Int) (m x : Nat) (HC : Hid (cOf f b = c ∧ fNeg f b = N)) (HV : Hid (fNeg f b = N ∧ vM f b = m ∧ vE f b = q)) (HL : Hid ((blen m : Int) = L)) (l0 : 1 ≤ L) (l1 : L ≤ 113) (q0 : -100000 ≤ q) (q1 : q ≤ 100000) (he : q + L - 1 = e)
    (HX : Hid (m * 2 ^ (128 - L).toNat = x)) (HZ : Hid (nB x = z)) (hm : nlen m ≤ 4) (hc : c = 1 ∨ c = 2) (w : World) :
    Calls Tryd.prog 69 #[.int .u8 f, Bv b] w fun y w' => y = .returned (Nv N c e z) ∧ Gr w w' := by
  subst he
  have I2 := Lib.hid (show 128 - L = (((128 - L).toNat : Nat) : Int) by omega)
  simp only [Bv, Nv]
  rcases hc with rfl | rfl
  all_goals
    have o2_0 : w.heap.size < w.heap.size + 1 + 1 := by omega
    go_enter Tryd.func69, Tryd.ntmps69
    go_upto_region 9 with (first
      | (go_at_call 34; refine (rclof_as f l u b _ N HC _).mono ?_; rintro e w1 ⟨rfl, hb1⟩; (try (with_reducible replace hb1 := undrew hb1)); obtain ⟨hc1, hf1⟩ := bcell hb1; have hs1 := hb1.size; (try simp at hs1); (try have y1_0_0 : w.heap.size < w1.heap.size := (by omega)); (try have y1_0_1 : w.heap.size < w1.heap.size + 1 := (by omega)); (try have y1_1_0 : w.heap.size + 1 < w1.heap.size := (by omega)); (try have y1_1_1 : w.heap.size + 1 < w1.heap.size + 1 := (by omega)))
      | (go_at_call 109; refine (rof_as f l u h b N m q HV _).mono ?_; rintro y w2 ⟨s2, c2, rfl, hn2, hb2⟩; have HN2 := Lib.hid hn2; clear hn2; (try (with_reducible replace hb2 := undrew hb2)); obtain ⟨hc2, hf2⟩ := bcell hb2; have hs2 := hb2.size; (try simp at hs2); have y2_0 : w.heap.size < w2.heap.size := (by omega); have y2_1 : w.heap.size + 1 < w2.heap.size := (by omega); have y2_2 : w1.heap.size < w2.heap.size := (by omega))
      | (go_at_call 25; refine (rlen_as _ m L HL _ (Lib.hid (HN2.out.below (by (repeat (first | with_reducible assumption | with_reducible exact Below.refl _ _ | with_reducible apply Below.drew | with_reducible apply below_drewN | with_reducible refine Below.alloc ?_ (by first | omega | (simp <;> omega)) _ | with_reducible refine Below.setCell ?_ (by first | omega | (simp <;> omega)) _ | with_reducible refine Below.trans ?_ (Below.mono (by assumption) (by first | omega | (simp <;> omega)))))))) (by omega)).mono ?_; rintro e wq ⟨rfl, rfl⟩)
      | (go_at_call 84; refine (rshl_as _ m (128 - L).toNat x (128 - L) (by omega) (by omega) I2 HX.out _ (Lib.hid (HN2.out.away w1.heap.size (.bool N) (by simp [go_sem, *]) (fun d e => by cases e) (by simp) (fun b o hb hbg => by simp [go_sem, *]))) (by omega)).mono ?_; rintro e w3 ⟨v3, rfl, hn3, hb3⟩; have HN3 := Lib.hid hn3; clear hn3; (try (with_reducible replace hb3 := undrew hb3)); obtain ⟨hc3, hf3⟩ := bcell hb3; have hs3 := hb3.size; (try simp at hs3); (try have y3_0_0 : w.heap.size < w3.heap.size := (by omega)); (try have y3_1_0 : w.heap.size + 1 < w3.heap.size := (by omega)); (try have y3_2_0 : w1.heap.size < w3.heap.size := (by omega)))
      | (go_at_call 17; refine (bits_as v3 x z HZ _ HN3).mono ?_; rintro e w4 ⟨rfl, hb4⟩; (try (with_reducible replace hb4 := undrew hb4)); obtain ⟨hc4, hf4⟩ := bcell hb4; have hs4 := hb4.size; (try simp at hs4); (try have y4_0_0 : w.heap.size < w4.heap.size := (by omega)); (try have y4_1_0 : w.heap.size + 1 < w4.heap.size := (by omega)); (try have y4_2_0 : w1.heap.size < w4.heap.size := (by omega))))
    have q0' : w4.cell? ⟨w1.heap.size, 0, none⟩ = some (.bool N) := by simp (maxDischargeDepth := 14) [go_sem, *]
    first
      | have q1' : w4.cell? ⟨w1.heap.size, 1, none⟩ = some (.int .u8 1) := by simp (maxDischargeDepth := 14) [go_sem, *]; done
      | have q1' : w4.cell? ⟨w1.heap.size, 1, none⟩ = some (.int .u8 2) := by simp (maxDischargeDepth := 14) [go_sem, *]; done
    have q2' : w4.cell? ⟨w1.heap.size, 2, none⟩ = some (.int .i64 (q + L - 1)) := by simp (maxDischargeDepth := 14) [go_sem, *]
    have q3' : w4.cell? ⟨w1.heap.size, 3, none⟩ = some (.int .u64 0) := by simp (maxDischargeDepth := 14) [go_sem, *]
    have q4' : w4.cell? ⟨w1.heap.size, 4, none⟩ = some (.int .u64 0) := by simp (maxDischargeDepth := 14) [go_sem, *]
    have r0' : w4.cell? ⟨w.heap.size + 1, 0, none⟩ = some (.bool false) := by simp (maxDischargeDepth := 14) [go_sem, *]
    have r1' : w4.cell? ⟨w.heap.size + 1, 1, none⟩ = some (.int .u8 0) := by simp (maxDischargeDepth := 14) [go_sem, *]
    have r2' : w4.cell? ⟨w.heap.size + 1, 2, none⟩ = some (.int .i64 0) := by simp (maxDischargeDepth := 14) [go_sem, *]
    have r3' : w4.cell? ⟨w.heap.size + 1, 3, none⟩ = some (.int .u64 0) := by simp (maxDischargeDepth := 14) [go_sem, *]
    have r4' : w4.cell? ⟨w.heap.size + 1, 4, none⟩ = some (.int .u64 0) := by simp (maxDischargeDepth := 14) [go_sem, *]
    have g0' : w4.frozen? ⟨w.heap.size + 1, 0, none⟩ = false := by simp (maxDischargeDepth := 14) [go_sem, *]
    have g1' : w4.frozen? ⟨w.heap.size + 1, 1, none⟩ = false := by simp (maxDischargeDepth := 14) [go_sem, *]
    have g2' : w4.frozen? ⟨w.heap.size + 1, 2, none⟩ = false := by simp (maxDischargeDepth := 14) [go_sem, *]
    have g3' : w4.frozen? ⟨w.heap.size + 1, 3, none⟩ = false := by simp (maxDischargeDepth := 14) [go_sem, *]
    have g4' : w4.frozen? ⟨w.heap.size + 1, 4, none⟩ = false := by simp (maxDischargeDepth := 14) [go_sem, *]
    have n1' : ¬ w.heap.size + 1 = w1.heap.size := by omega
    have n2' : ¬ w1.heap.size = w.heap.size + 1 := by omega
    clear hc1 hc2 hc3 hc4 hf1 hf2 hf3 hf4
    go_wp2
    simp [bodyPost, results, Tryd.results69, go_sem, *]
    (repeat (first | with_reducible assumption | with_reducible exact Below.refl _ _ | with_reducible apply Below.drew | with_reducible apply below_drewN | with_reducible refine Below.alloc ?_ (by first | omega | (simp <;> omega)) _ | with_reducible refine Below.setCell ?_ (by first | omega | (simp <;> omega)) _ | with_reducible refine Below.trans ?_ (Below.mono (by assumption) (by first | omega | (simp <;> omega)))))
theorem runp_no (f : Int) (l : 0 ≤ f) (u : f ≤ 255) (b : BitVec 128) (N : Bool) (c : Int) (HC : Hid (cOf f b = c ∧ fNeg f b = N)) (h1 : (c != 2) = true) (h2 : (c != 1) = true) (w : World) :
    Calls Tryd.prog 69 #[.int .u8 f, Bv b] w fun y w' => y = .returned (.agg #[.bool N, .int .u8 c, .int .i64 0, .int .u64 0, .int .u64 0]) ∧ Gr w w' := by
  simp only [Bv]
  have o2_0 : w.heap.size < w.heap.size + 1 + 1 := by omega
  go_enter Tryd.func69, Tryd.ntmps69
  go_wp2_with (first
    | (go_at_call 34; refine (rclof_as f l u b _ N HC _).mono ?_; rintro e w1 ⟨rfl, hb1⟩; (try (with_reducible replace hb1 := undrew hb1)); obtain ⟨hc1, hf1⟩ := bcell hb1; have hs1 := hb1.size; (try simp at hs1); (try have y1_0_0 : w.heap.size < w1.heap.size := (by omega)); (try have y1_0_1 : w.heap.size < w1.heap.size + 1 := (by omega)); (try have y1_1_0 : w.heap.size + 1 < w1.heap.size := (by omega)); (try have y1_1_1 : w.heap.size + 1 < w1.heap.size + 1 := (by omega))))
  simp [bodyPost, results, Tryd.results69, go_sem, *]
  (repeat (first | with_reducible assumption | with_reducible exact Below.refl _ _ | with_reducible apply Below.drew | with_reducible apply below_drewN | with_reducible refine Below.alloc ?_ (by first | omega | (simp <;> omega)) _ | with_reducible refine Below.setCell ?_ (by first | omega | (simp <;> omega)) _ | with_reducible refine Below.trans ?_ (Below.mono (by assumption) (by first | omega | (simp <;> omega)))))
theorem runpack_as (f : Int) (l : 0 ≤ f) (u : f ≤ 255) (b z : BitVec 128) (N : Bool) (c e : Int) (H : Hid (fNeg f b = N ∧ cOf f b = c ∧ uE f b = e ∧ uS f b = z)) (w : World) :
    Calls Tryd.prog 69 #[.int .u8 f, Bv b] w fun x w' => x = .returned (Nv N c e z) ∧ Gr w w' := by
  obtain ⟨rfl, rfl, rfl, rfl⟩ := H.out
  by_cases hc : cOf f b = 1 ∨ cOf f b = 2
  · by_cases h : f < 4
    · have hb := f_bounds f l h
      have hx := exp_lt f b l
      obtain ⟨h1, h2, h3, h4⟩ := runpack f l h b hc
      have hv : -100000 ≤ vE f b ∧ vE f b ≤ 100000 := by unfold vE; split <;> omega
      refine runp_yes f l u h b (uS f b) _ _ _ (vE f b) ((blen (vM f b) : Nat) : Int) (vM f b) _ (Lib.hid ⟨rfl, rfl⟩) (Lib.hid ⟨rfl, rfl, rfl⟩) (Lib.hid rfl) (by omega) (by omega) hv.1 hv.2 h3 (Lib.hid rfl) (Lib.hid ?_) (nlen_of_lt (Nat.lt_of_lt_of_le (vM_lt f l h b) (Nat.pow_le_pow_right (by decide) (by decide)))) hc w
      rw [show (128 - ((blen (vM f b) : Nat) : Int)).toNat = 128 - blen (vM f b) by omega, h4]
      exact nBit_toNat _
    · rw [cOf_none f h] at hc; omega
  · obtain ⟨h1, h2⟩ := u_other f b (fun e => hc (.inr e)) (fun e => hc (.inl e))
    rw [h1, h2]
    exact runp_no f l u b _ _ (Lib.hid ⟨rfl, rfl⟩) (by simp; omega) (by simp; omega) w
end Hb
end Go.Proofs.YtbelighbkjadkaaDoor
