/-
  THE WALK of the law CountBack. Conditions: the library's table holds its numbers.
-/
import Derived.Test.YteajalcnabjjeaaDoorGoes4
import Derived.Test.YteajalcnabjjeaaDoorCountLaws
import Derived.Test.YteajalcnabjjeaaDoorShift
import Derived.IntWalk
namespace Go.Proofs.YteajalcnabjjeaaDoor
open Go.RowKit
namespace Hb
set_option maxRecDepth 20000
theorem zero_as' (x : BitVec 128) (c : Bool) (H : Hid (bZero x = c)) (w : World) :
    Calls Tryd.prog 31 #[Bv x] w fun e w' => e = .returned (.bool c) ∧ Gr w w' := by
  obtain rfl := H.out; exact zero_any x w
theorem cback_zero (w : World) (hT : DTab w) :
    Calls Tryd.prog 7 #[Bv 0#128] w fun e w' => e = .returned (.bool true) ∧ Gr w w' := by
  have k1 := craise_as 0#128 0#128 0 (Lib.hid ⟨by decide +kernel, by decide +kernel⟩)
  have k2 := fun w => wof_any 0#128 w
  have k3 := wraise_as (wOf 0#128) 0#256 0 (Lib.hid ⟨by decide +kernel, by decide +kernel⟩)
  have k4 := zero_as' 0#128 true (Lib.hid rfl)
  have k5 := wzero_as 0#256 true (Lib.hid rfl)
  rw [bv_of 0 0 0#128 ⟨rfl, rfl⟩] at k1 k2 k4 ⊢
  rw [wv_of 0 0 0 0 (wOf 0#128) (by decide +kernel)] at k2 k3
  rw [wv_of 0 0 0 0 0#256 (by decide +kernel)] at k3 k5

  go_enter Tryd.func7, Tryd.ntmps7
  go_wp2_with (first
    | (go_at_call 15; refine (k1 _).mono ?_; rintro e w1 ⟨rfl, hb1⟩; (try (with_reducible replace hb1 := undrew hb1)); obtain ⟨hc1, hf1⟩ := bcell hb1; have hs1 := hb1.size; (try simp at hs1); (try have y1_0_0 : w.heap.size < w1.heap.size := (by omega)); (try have y1_0_1 : w.heap.size < w1.heap.size + 1 := (by omega)))
    | (go_at_call 30; refine (k2 _).mono ?_; rintro e w2 ⟨rfl, hb2⟩; (try (with_reducible replace hb2 := undrew hb2)); obtain ⟨hc2, hf2⟩ := bcell hb2; have hs2 := hb2.size; (try simp at hs2); (try have y2_0_0 : w.heap.size < w2.heap.size := (by omega)); (try have y2_1_0 : w1.heap.size < w2.heap.size := (by omega)))
    | (go_at_call 16; refine (k3 _).mono ?_; rintro e w3 ⟨rfl, hb3⟩; (try (with_reducible replace hb3 := undrew hb3)); obtain ⟨hc3, hf3⟩ := bcell hb3; have hs3 := hb3.size; (try simp at hs3); (try have y3_0_0 : w.heap.size < w3.heap.size := (by omega)); (try have y3_0_1 : w.heap.size < w3.heap.size + 1 := (by omega)); (try have y3_1_0 : w1.heap.size < w3.heap.size := (by omega)); (try have y3_1_1 : w1.heap.size < w3.heap.size + 1 := (by omega)))
    | (go_at_call 31; refine (k4 _).mono ?_; rintro e w4 ⟨rfl, hb4⟩; (try (with_reducible replace hb4 := undrew hb4)); obtain ⟨hc4, hf4⟩ := bcell hb4; have hs4 := hb4.size; (try simp at hs4); (try have y4_0_0 : w.heap.size < w4.heap.size := (by omega)); (try have y4_1_0 : w1.heap.size < w4.heap.size := (by omega)); (try have y4_2_0 : w3.heap.size < w4.heap.size := (by omega)))
    | (go_at_call 25; refine (k5 _).mono ?_; rintro e w5 ⟨rfl, hb5⟩; (try (with_reducible replace hb5 := undrew hb5)); obtain ⟨hc5, hf5⟩ := bcell hb5; have hs5 := hb5.size; (try simp at hs5); (try have y5_0_0 : w.heap.size < w5.heap.size := (by omega)); (try have y5_1_0 : w1.heap.size < w5.heap.size := (by omega)); (try have y5_2_0 : w3.heap.size < w5.heap.size := (by omega)))
    | (go_at_call 20; refine (counts_any _ (hT.below (by (repeat (first | with_reducible assumption | with_reducible exact Below.refl _ _ | with_reducible apply Below.drew | with_reducible apply below_drewN | with_reducible refine Below.alloc ?_ (by first | omega | (simp <;> omega)) _ | with_reducible refine Below.setCell ?_ (by first | omega | (simp <;> omega)) _ | with_reducible refine Below.trans ?_ (Below.mono (by assumption) (by first | omega | (simp <;> omega)))))))).mono ?_; rintro e w6 ⟨rfl, hb6⟩; (try (with_reducible replace hb6 := undrew hb6)); obtain ⟨hc6, hf6⟩ := bcell hb6; have hs6 := hb6.size; (try simp at hs6); (try have y6_0_0 : w.heap.size < w6.heap.size := (by omega)); (try have y6_1_0 : w1.heap.size < w6.heap.size := (by omega)); (try have y6_2_0 : w3.heap.size < w6.heap.size := (by omega))))
  go_ret
  exact ⟨rfl, by (repeat (first | with_reducible assumption | with_reducible exact Below.refl _ _ | with_reducible apply Below.drew | with_reducible apply below_drewN | with_reducible refine Below.alloc ?_ (by first | omega | (simp <;> omega)) _ | with_reducible refine Below.setCell ?_ (by first | omega | (simp <;> omega)) _ | with_reducible refine Below.trans ?_ (Below.mono (by assumption) (by first | omega | (simp <;> omega)))))⟩
set_option maxHeartbeats 2000000 in
theorem cback_core (a x : BitVec 128) (o y : BitVec 256) (n m : Int) (HZ : Hid (bZero a = false)) (HR : Hid (bRaise a = x ∧ bRby a = n)) (HO : Hid (wOf a = o)) (HY : Hid (wRaise o = y ∧ wRby o = m)) (hm : m = n + 128) (h0 : 0 ≤ n) (h1 : n ≤ 127)
    (HB : Hid (bBit x 127 = true)) (HS : Hid (bShr x n = a)) (HH : Hid (wHigh y = x)) (HLo : Hid (wLow y = 0#128)) (w : World) (hT : DTab w) :
    Calls Tryd.prog 7 #[Bv a] w fun e w' => e = .returned (.bool true) ∧ Gr w w' := by
  subst hm
  have k1 := craise_as a x n HR
  have k2 := fun w => HO.out ▸ wof_any a w
  have k3 := wraise_as o y _ HY
  have k4 := zero_as' a _ HZ
  have k5 := fun w => HB.out ▸ bit_any x 127 (by decide) (by decide) w
  have k6 := fun w => HS.out ▸ right_any x n w
  have k7 := fun w => HH.out ▸ whigh_any y w
  have k8 := fun w => HLo.out ▸ wlow_any y w
  have k9 := zero_as' 0#128 true (Lib.hid rfl)
  have X1 := IntWalk.i64_in (n + 128) (by omega)
  rw [bv_of 0 0 0#128 ⟨rfl, rfl⟩] at k8 k9
  simp only [Wv, Bv] at k1 k2 k3 k4 k5 k6 k7 k8 ⊢

  go_enter Tryd.func7, Tryd.ntmps7
  go_wp2_with (first
    | (go_at_call 15; refine (k1 _).mono ?_; rintro e w1 ⟨rfl, hb1⟩; (try (with_reducible replace hb1 := undrew hb1)); obtain ⟨hc1, hf1⟩ := bcell hb1; have hs1 := hb1.size; (try simp at hs1); (try have y1_0_0 : w.heap.size < w1.heap.size := (by omega)); (try have y1_0_1 : w.heap.size < w1.heap.size + 1 := (by omega)))
    | (go_at_call 30; refine (k2 _).mono ?_; rintro e w2 ⟨rfl, hb2⟩; (try (with_reducible replace hb2 := undrew hb2)); obtain ⟨hc2, hf2⟩ := bcell hb2; have hs2 := hb2.size; (try simp at hs2); (try have y2_0_0 : w.heap.size < w2.heap.size := (by omega)); (try have y2_1_0 : w1.heap.size < w2.heap.size := (by omega)))
    | (go_at_call 16; refine (k3 _).mono ?_; rintro e w3 ⟨rfl, hb3⟩; (try (with_reducible replace hb3 := undrew hb3)); obtain ⟨hc3, hf3⟩ := bcell hb3; have hs3 := hb3.size; (try simp at hs3); (try have y3_0_0 : w.heap.size < w3.heap.size := (by omega)); (try have y3_0_1 : w.heap.size < w3.heap.size + 1 := (by omega)); (try have y3_1_0 : w1.heap.size < w3.heap.size := (by omega)); (try have y3_1_1 : w1.heap.size < w3.heap.size + 1 := (by omega)))
    | (go_at_call 31; refine (k4 _).mono ?_; rintro e w4 ⟨rfl, hb4⟩; (try (with_reducible replace hb4 := undrew hb4)); obtain ⟨hc4, hf4⟩ := bcell hb4; have hs4 := hb4.size; (try simp at hs4); (try have y4_0_0 : w.heap.size < w4.heap.size := (by omega)); (try have y4_1_0 : w1.heap.size < w4.heap.size := (by omega)); (try have y4_2_0 : w3.heap.size < w4.heap.size := (by omega))))
  refine wp_region_past (fun z => DTab z ∧ z.cell? ⟨w.heap.size, 0, none⟩ = some (.int .u64 (hiB a)) ∧ z.cell? ⟨w.heap.size, 1, none⟩ = some (.int .u64 (loB a)) ∧ z.cell? ⟨w1.heap.size, 0, none⟩ = some (.int .u64 (hiB x)) ∧ z.cell? ⟨w1.heap.size, 1, none⟩ = some (.int .u64 (loB x)) ∧ (z.cell? ⟨w3.heap.size, 0, none⟩ = some (.int .u64 (wq0 y)) ∧ z.cell? ⟨w3.heap.size, 1, none⟩ = some (.int .u64 (wq1 y)) ∧ z.cell? ⟨w3.heap.size, 2, none⟩ = some (.int .u64 (wq2 y)) ∧ z.cell? ⟨w3.heap.size, 3, none⟩ = some (.int .u64 (wq3 y)))) (by kernel_rfl) (by kernel_rfl) (fun wx hbx => ?_) (fun T hne tw hh hx => ?_)
  · obtain ⟨hcx, _⟩ := bcell hbx
    have hbw : Below w.heap.size w wx := by (repeat (first | with_reducible assumption | with_reducible exact Below.refl _ _ | with_reducible apply Below.drew | with_reducible apply below_drewN | with_reducible refine Below.alloc ?_ (by first | omega | (simp <;> omega)) _ | with_reducible refine Below.setCell ?_ (by first | omega | (simp <;> omega)) _ | with_reducible refine Below.trans ?_ (Below.mono (by assumption) (by first | omega | (simp <;> omega)))))
    refine ⟨hT.below hbw, ?_, ?_, ?_, ?_, ?_, ?_, ?_, ?_⟩ <;> simp [go_sem, *]
  · have t0 := fun p => (hh p).1
    have t1 := fun p => (hh p).2.1
    have t2 := fun p => (hh p).2.2.1
    have t3 := fun p => (hh p).2.2.2.1
    have t4 := fun p => (hh p).2.2.2.2.1
    have t5 := fun p => (hh p).2.2.2.2.2.1
    have t6 := fun p => (hh p).2.2.2.2.2.2.1
    have t7 := fun p => (hh p).2.2.2.2.2.2.2.1
    have t8 := fun p => (hh p).2.2.2.2.2.2.2.2
    repeat (quiet_step (first
      | (go_at_call 32; exact callsPast hx (k5 _))
      | (go_at_call 33; exact callsPast hx (k6 _))
      | (go_at_call 34; exact callsPast hx (k7 _))
      | (go_at_call 35; exact callsPast hx (k8 _))
      | (go_at_call 31; exact callsPast hx (k9 _))
      | (go_at_call 20; exact callsPast hx (counts_any _ (t0 _)))))
    refine wpQuiet_nil ?_
    intro w5 hb5
    (try (with_reducible replace hb5 := undrew hb5)); obtain ⟨hc5, hf5⟩ := bcell hb5; have hs5 := hb5.size; (try simp at hs5); (try have y5_0 : w.heap.size < w5.heap.size := (by omega)); (try have y5_1 : w1.heap.size < w5.heap.size := (by omega)); (try have y5_2 : w3.heap.size < w5.heap.size := (by omega))
    go_wp2
    go_ret
    exact ⟨rfl, by (repeat (first | with_reducible assumption | with_reducible exact Below.refl _ _ | with_reducible apply Below.drew | with_reducible apply below_drewN | with_reducible refine Below.alloc ?_ (by first | omega | (simp <;> omega)) _ | with_reducible refine Below.setCell ?_ (by first | omega | (simp <;> omega)) _ | with_reducible refine Below.trans ?_ (Below.mono (by assumption) (by first | omega | (simp <;> omega)))))⟩
theorem walk_countBack (a : BitVec 128) (w : World) (hT : DTab w) :
    Calls Tryd.prog 7 #[Bv a] w fun e w' => e = .returned (.bool true) ∧ Gr w w' := by
  cases hz : bZero a
  · obtain ⟨h1, h2, h3, h4, h5, h6, h7⟩ := back_plain a hz
    exact cback_core a _ _ _ _ _ (Lib.hid hz) (Lib.hid ⟨rfl, rfl⟩) (Lib.hid rfl) (Lib.hid ⟨rfl, rfl⟩) h3 h6 h7 (Lib.hid h1) (Lib.hid h2) (Lib.hid h4) (Lib.hid h5) w hT
  · rw [bzero_nat, decide_eq_true_eq] at hz
    obtain rfl : a = 0#128 := BitVec.eq_of_toNat_eq hz
    exact cback_zero w hT
end Hb
end Go.Proofs.YteajalcnabjjeaaDoor
