/-
  THE WALK of the law CountFour. Conditions: the library's table holds its numbers.
-/
import Derived.Test.YtbelighbkjadkaaDoorLawCountTwo
namespace Go.Proofs.YtbelighbkjadkaaDoor
open Go.RowKit
namespace Hb
set_option maxRecDepth 20000
theorem raise_nat4 (x : BitVec 256) (h : x.toNat ≠ 0) : wRby x = 256 - (blen x.toNat : Int) ∧ (wRaise x).toNat = x.toNat * 2 ^ (256 - blen x.toNat) ∧ blen x.toNat ≤ 256 := by
  have hb := wLen_bounds x
  have e1 : wLen x = ((blen x.toNat : Nat) : Int) := rfl
  have hp := blen_pos h
  have h0 : ¬ wLen x = 0 := by omega
  have hlt := blen_lt x.toNat
  refine ⟨by unfold wRby; rw [if_neg h0, e1], ?_, by omega⟩
  unfold wRaise
  rw [if_neg h0, toNat_wshl, e1, show (256 - ((blen x.toNat : Nat) : Int)).toNat = 256 - blen x.toNat by omega]
  refine Nat.mod_eq_of_lt ?_
  have := Nat.mul_lt_mul_of_pos_right hlt (Nat.two_pow_pos (256 - blen x.toNat))
  rw [← Nat.pow_add, show blen x.toNat + (256 - blen x.toNat) = 256 by omega] at this
  exact this
theorem tail_bits (x : BitVec 256) (T : Nat) (hT : wTail x = (T : Int)) : (∀ i, i < T → x.toNat / 2 ^ i % 2 = 0) ∧ ((T : Int) < 256 → x.toNat / 2 ^ T % 2 = 1) := by
  have hb := wTail_bounds x
  have e : T = Lib.ctz 256 x.toNat := by unfold wTail at hT; omega
  by_cases h0 : x.toNat = 0
  · rw [h0]
    refine ⟨fun i _ => by simp, fun h => ?_⟩
    rw [h0] at e
    have : Lib.ctz 256 0 = 256 := by unfold Lib.ctz; rw [if_pos rfl]
    omega
  · obtain ⟨m, hm, hl⟩ := ctz_spec 256 x.toNat h0 x.isLt
    rw [← e] at hm
    refine ⟨fun i hi => ?_, fun _ => ?_⟩
    · rw [hm, show 2 ^ T = 2 ^ i * (2 * 2 ^ (T - i - 1)) by rw [← Nat.pow_succ', ← Nat.pow_add]; congr 1; omega, Nat.mul_assoc, Nat.mul_div_cancel_left _ (Nat.two_pow_pos i), Nat.mul_assoc, Nat.mul_mod_right]
    · rw [hm, Nat.mul_div_cancel_left _ (Nat.two_pow_pos T)]; omega
theorem nW_toNat (x : BitVec 256) : nW x.toNat = x := by
  unfold nW; apply BitVec.eq_of_toNat_eq; rw [BitVec.toNat_ofNat]; exact Nat.mod_eq_of_lt x.isLt
set_option maxHeartbeats 4000000 in
theorem cf_core (a x : BitVec 256) (L k t : Int) (m T : Nat) (HL : Hid ((blen a.toNat : Int) = L)) (HL2 : Hid (wLen a = L)) (HR : Hid (wRaise a = x ∧ wRby a = k)) (HX : Hid (nW m = x)) (l1 : L ≤ 256)
    (h : (a.toNat = 0 ∧ m = 0 ∧ k = 0) ∨ (a.toNat ≠ 0 ∧ k = 256 - L ∧ Hid (a.toNat * 2 ^ (256 - L).toNat = m))) (HT1 : Hid (wTail a = t)) (HT2 : Hid (t = (T : Int))) (ht : (T : Int) ≤ 256) (HB0 : Hid (∀ i, i < T → a.toNat / 2 ^ i % 2 = 0)) (HB1 : Hid ((T : Int) < 256 → a.toNat / 2 ^ T % 2 = 1)) (w : World) (hT : DTab w) :
    Calls Tryd.prog 5 #[Wv a] w fun e w' => e = .returned (.bool true) ∧ Gr w w' := by
  have k1 := wraise_as a x k HR
  have k2 := wlen_as a L HL2
  have k3 := fun w hT => tail_as a t HT1 w hT
  have k4 := fun v w ha => rlow_as v m x HX w ha
  have k5 := fun v w ha => HT2.out ▸ rtail_core v a.toNat T 256 w ha ht (by decide) HB0 HB1
  have heq := eq4_run (wq0 x) (wq1 x) (wq2 x) (wq3 x) (wq0 x) (wq1 x) (wq2 x) (wq3 x) true (by simp)
  simp only [Wv] at k1 k2 k3 k4 ⊢

  go_enter Tryd.func5, Tryd.ntmps5
  go_wp2_with (first
    | (go_at_call 27; refine (rwide_any a _).mono ?_; rintro e w1 ⟨v1, rfl, hn1, hb1⟩; have HN1 := Lib.hid hn1; clear hn1; (try (with_reducible replace hb1 := undrew hb1)); obtain ⟨hc1, hf1⟩ := bcell hb1; have hs1 := hb1.size; (try simp at hs1); (try have y1_0_0 : w.heap.size < w1.heap.size := (by omega)))
    | (go_at_call 28; refine (k1 _).mono ?_; rintro e w2 ⟨rfl, hb2⟩; (try (with_reducible replace hb2 := undrew hb2)); obtain ⟨hc2, hf2⟩ := bcell hb2; have hs2 := hb2.size; (try simp at hs2); (try have y2_0_0 : w.heap.size < w2.heap.size := (by omega)); (try have y2_0_1 : w.heap.size < w2.heap.size + 1 := (by omega)))
    | (go_at_call 23; refine (raise_any 256 v1 a.toNat m L k HL l1 (by decide) h _ (Lib.hid (HN1.out.below (by (repeat (first | with_reducible assumption | with_reducible exact Below.refl _ _ | with_reducible apply Below.drew | with_reducible apply below_drewN | with_reducible refine Below.alloc ?_ (by first | omega | (simp <;> omega)) _ | with_reducible refine Below.setCell ?_ (by first | omega | (simp <;> omega)) _ | with_reducible refine Below.trans ?_ (Below.mono (by assumption) (by first | omega | (simp <;> omega)))))))) (by have := nlen_256 a; omega)).mono ?_; rintro e w3 ⟨v3, rfl, hn3, hb3⟩; have HN3 := Lib.hid hn3; clear hn3; (try (with_reducible replace hb3 := undrew hb3)); obtain ⟨hc3, hf3⟩ := bcell hb3; have hs3 := hb3.size; (try simp at hs3); (try have y3_0_0 : w.heap.size < w3.heap.size := (by omega)); (try have y3_1_0 : w2.heap.size < w3.heap.size := (by omega))))
  refine wp_region_past (fun z => DTab z ∧ (z.cell? ⟨w.heap.size, 0, none⟩ = some (.int .u64 (wq0 a)) ∧ z.cell? ⟨w.heap.size, 1, none⟩ = some (.int .u64 (wq1 a)) ∧ z.cell? ⟨w.heap.size, 2, none⟩ = some (.int .u64 (wq2 a)) ∧ z.cell? ⟨w.heap.size, 3, none⟩ = some (.int .u64 (wq3 a))) ∧ (z.cell? ⟨w2.heap.size, 0, none⟩ = some (.int .u64 (wq0 x)) ∧ z.cell? ⟨w2.heap.size, 1, none⟩ = some (.int .u64 (wq1 x)) ∧ z.cell? ⟨w2.heap.size, 2, none⟩ = some (.int .u64 (wq2 x)) ∧ z.cell? ⟨w2.heap.size, 3, none⟩ = some (.int .u64 (wq3 x))) ∧ IsN z v1 a.toNat ∧ IsN z v3 m) (by kernel_rfl) (by kernel_rfl) (fun wx hbx => ?_) (fun T hne tw hh hx => ?_)
  · obtain ⟨hcx, _⟩ := bcell hbx
    have hb3x : Below w3.heap.size w3 wx := hbx
    have i3 := HN3.out.below hb3x
    have hb1x : Below w1.heap.size w1 w3 := by clear hbx hb3x; (repeat (first | with_reducible assumption | with_reducible exact Below.refl _ _ | with_reducible apply Below.drew | with_reducible apply below_drewN | with_reducible refine Below.alloc ?_ (by first | omega | (simp <;> omega)) _ | with_reducible refine Below.setCell ?_ (by first | omega | (simp <;> omega)) _ | with_reducible refine Below.trans ?_ (Below.mono (by assumption) (by first | omega | (simp <;> omega)))))
    have i1 := HN1.out.below (hb1x.trans (hb3x.mono hb1x.size))
    clear hb1x hb3x
    have hbw : Below w.heap.size w wx := by (repeat (first | with_reducible assumption | with_reducible exact Below.refl _ _ | with_reducible apply Below.drew | with_reducible apply below_drewN | with_reducible refine Below.alloc ?_ (by first | omega | (simp <;> omega)) _ | with_reducible refine Below.setCell ?_ (by first | omega | (simp <;> omega)) _ | with_reducible refine Below.trans ?_ (Below.mono (by assumption) (by first | omega | (simp <;> omega)))))
    refine ⟨hT.below hbw, ⟨?_, ?_, ?_, ?_⟩, ⟨?_, ?_, ?_, ?_⟩, i1, i3⟩ <;> simp [go_sem, *]
  have t0 := fun p => (hh p).1
  have t1 := fun p => (hh p).2.1.1
  have t2 := fun p => (hh p).2.1.2.1
  have t3 := fun p => (hh p).2.1.2.2.1
  have t4 := fun p => (hh p).2.1.2.2.2
  have u1 := fun p => (hh p).2.2.1.1
  have u2 := fun p => (hh p).2.2.1.2.1
  have u3 := fun p => (hh p).2.2.1.2.2.1
  have u4 := fun p => (hh p).2.2.1.2.2.2
  have t5 := fun p => Lib.hid (hh p).2.2.2.1
  have t6 := fun p => Lib.hid (hh p).2.2.2.2
  repeat (quiet_step (first
    | (go_at_call 29; exact callsPast hx (k2 _))
    | (go_at_call 25; exact callsPast hx (sgr (rlen_as v1 a.toNat L HL _ (t5 _) (by have := nlen_256 a; omega))))
    | (go_at_call 30; exact callsPast hx (k3 _ (t0 _)))
    | (go_at_call 31; exact callsPast hx (sgr (k5 v1 _ (t5 _))))
    | (go_at_call 32; exact callsPast hx (k4 v3 _ (t6 _)))
    | (go_at_call 26; exact callsPast hx (counts_any _ (t0 _)))))
  refine wpQuiet_nil ?_
  intro w5 hb5
  (try (with_reducible replace hb5 := undrew hb5)); obtain ⟨hc5, hf5⟩ := bcell hb5; have hs5 := hb5.size; (try simp at hs5); (try have y5_0 : w.heap.size < w5.heap.size := (by omega)); (try have y5_1 : w2.heap.size < w5.heap.size := (by omega))
  go_wp2
  go_ret
  exact ⟨rfl, by (repeat (first | with_reducible assumption | with_reducible exact Below.refl _ _ | with_reducible apply Below.drew | with_reducible apply below_drewN | with_reducible refine Below.alloc ?_ (by first | omega | (simp <;> omega)) _ | with_reducible refine Below.setCell ?_ (by first | omega | (simp <;> omega)) _ | with_reducible refine Below.trans ?_ (Below.mono (by assumption) (by first | omega | (simp <;> omega)))))⟩
theorem walk_countFour (a : BitVec 256) (w : World) (hT : DTab w) :
    Calls Tryd.prog 5 #[Wv a] w fun e w' => e = .returned (.bool true) ∧ Gr w w' := by
  have hb := wLen_bounds a
  have ht := wTail_bounds a
  have e1 : wLen a = ((blen a.toNat : Nat) : Int) := rfl
  obtain ⟨T, hTT⟩ : ∃ T : Nat, wTail a = (T : Int) := ⟨(wTail a).toNat, by omega⟩
  obtain ⟨b0, b1⟩ := tail_bits a T hTT
  by_cases h0 : a.toNat = 0
  · have e0 : a = 0#256 := BitVec.eq_of_toNat_eq h0
    have hl0 : wLen a = 0 := by rw [e1, h0]; rfl
    refine cf_core a _ _ _ _ 0 T (Lib.hid rfl) (Lib.hid rfl) (Lib.hid ⟨rfl, rfl⟩) (Lib.hid ?_) (by omega) (.inl ⟨h0, rfl, ?_⟩) (Lib.hid rfl) (Lib.hid hTT) (by omega) (Lib.hid b0) (Lib.hid b1) w hT
    · unfold wRaise; rw [if_pos hl0, e0]; rfl
    · unfold wRby; rw [if_pos hl0]
  · obtain ⟨r1, r2, r3⟩ := raise_nat4 a h0
    refine cf_core a _ _ _ _ (wRaise a).toNat T (Lib.hid rfl) (Lib.hid rfl) (Lib.hid ⟨rfl, rfl⟩) (Lib.hid (nW_toNat _)) (by omega) (.inr ⟨h0, by rw [r1], Lib.hid ?_⟩) (Lib.hid rfl) (Lib.hid hTT) (by omega) (Lib.hid b0) (Lib.hid b1) w hT
    rw [r2, show (256 - ((blen a.toNat : Nat) : Int)).toNat = 256 - blen a.toNat by omega]
end Hb
end Go.Proofs.YtbelighbkjadkaaDoor
