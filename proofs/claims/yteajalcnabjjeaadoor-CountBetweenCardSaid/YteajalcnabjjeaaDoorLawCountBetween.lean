/-
  THE WALK of the law CountBetween. Conditions: the library's table holds its numbers.
-/
import Derived.Test.YteajalcnabjjeaaDoorGoes4
import Derived.Test.YteajalcnabjjeaaDoorCountLaws
import Derived.IntWalk
namespace Go.Proofs.YteajalcnabjjeaaDoor
open Go.RowKit
namespace Hb
set_option maxRecDepth 20000
theorem wone (k : Int) (z : BitVec 256) (H : Hid (wShl 1#256 k = z)) (w : World) :
    Calls Tryd.prog 37 #[.agg #[.int .u64 1, .int .u64 0, .int .u64 0, .int .u64 0], .int .i64 k] w fun e w' => e = .returned (Wv z) ∧ Gr w w' := by
  have h := wleft_as 1#256 k z H w
  rw [wv_of 1 0 0 0 1#256 (by decide)] at h
  exact h
theorem between_zero (a : BitVec 256) (HZ : Hid (wZero a = true)) (HL : Hid (wLen a = 0)) (w : World) (hT : DTab w) :
    Calls Tryd.prog 9 #[Wv a] w fun e w' => e = .returned (.bool true) ∧ Gr w w' := by
  have k1 := wlen_as a _ HL
  have k2 := wzero_as a _ HZ
  simp only [Wv] at k1 k2 ⊢

  go_enter Tryd.func9, Tryd.ntmps9
  go_wp2_with (first
    | (go_at_call 19; refine (k1 _).mono ?_; rintro e w1 ⟨rfl, hb1⟩; (try (with_reducible replace hb1 := undrew hb1)); obtain ⟨hc1, hf1⟩ := bcell hb1; have hs1 := hb1.size; (try simp at hs1); (try have y1_0_0 : w.heap.size < w1.heap.size := (by omega)))
    | (go_at_call 25; refine (k2 _).mono ?_; rintro e w2 ⟨rfl, hb2⟩; (try (with_reducible replace hb2 := undrew hb2)); obtain ⟨hc2, hf2⟩ := bcell hb2; have hs2 := hb2.size; (try simp at hs2); (try have y2_0_0 : w.heap.size < w2.heap.size := (by omega)))
    | (go_at_call 20; refine (counts_any _ (hT.below (by (repeat (first | with_reducible assumption | with_reducible exact Below.refl _ _ | with_reducible apply Below.drew | with_reducible apply below_drewN | with_reducible refine Below.alloc ?_ (by first | omega | (simp <;> omega)) _ | with_reducible refine Below.setCell ?_ (by first | omega | (simp <;> omega)) _ | with_reducible refine Below.trans ?_ (Below.mono (by assumption) (by first | omega | (simp <;> omega)))))))).mono ?_; rintro e w3 ⟨rfl, hb3⟩; (try (with_reducible replace hb3 := undrew hb3)); obtain ⟨hc3, hf3⟩ := bcell hb3; have hs3 := hb3.size; (try simp at hs3); (try have y3_0_0 : w.heap.size < w3.heap.size := (by omega))))
  go_ret
  exact ⟨rfl, by (repeat (first | with_reducible assumption | with_reducible exact Below.refl _ _ | with_reducible apply Below.drew | with_reducible apply below_drewN | with_reducible refine Below.alloc ?_ (by first | omega | (simp <;> omega)) _ | with_reducible refine Below.setCell ?_ (by first | omega | (simp <;> omega)) _ | with_reducible refine Below.trans ?_ (Below.mono (by assumption) (by first | omega | (simp <;> omega)))))⟩
set_option maxHeartbeats 2000000 in
theorem between_core (a p q : BitVec 256) (n c : Int) (HZ : Hid (wZero a = false)) (HL : Hid (wLen a = n)) (h1 : 1 ≤ n) (HP : Hid (wShl 1#256 (n - 1) = p)) (HC : Hid (wCmp a p = c)) (hc : decide (c < 0) = false)
    (h0 : n ≤ 256) (h : (n == 256) = true ∨ (n < 256 ∧ (n == 256) = false ∧ Hid (wShl 1#256 n = q) ∧ Hid (wCmp a q = -1))) (w : World) (hT : DTab w) :
    Calls Tryd.prog 9 #[Wv a] w fun e w' => e = .returned (.bool true) ∧ Gr w w' := by
  have k1 := wlen_as a _ HL
  have k2 := wzero_as a _ HZ
  have k4 := wone _ _ HP
  have k5 := wcmp_as a p _ HC
  have X1 := Lib.hid (IntWalk.i64_in (n - 1) (by omega))
  simp only [Wv] at k1 k2 k4 k5 ⊢
  rcases h with h2 | ⟨h2, h3, HQ, HD⟩
  ·
    go_enter Tryd.func9, Tryd.ntmps9
    go_wp2_with (first
      | (go_at_call 19; refine (k1 _).mono ?_; rintro e w1 ⟨rfl, hb1⟩; (try (with_reducible replace hb1 := undrew hb1)); obtain ⟨hc1, hf1⟩ := bcell hb1; have hs1 := hb1.size; (try simp at hs1); (try have y1_0_0 : w.heap.size < w1.heap.size := (by omega)))
      | (go_at_call 25; refine (k2 _).mono ?_; rintro e w2 ⟨rfl, hb2⟩; (try (with_reducible replace hb2 := undrew hb2)); obtain ⟨hc2, hf2⟩ := bcell hb2; have hs2 := hb2.size; (try simp at hs2); (try have y2_0_0 : w.heap.size < w2.heap.size := (by omega))))
    refine wp_region_past (fun y => DTab y ∧ (y.cell? ⟨w.heap.size, 0, none⟩ = some (.int .u64 (wq0 a)) ∧ y.cell? ⟨w.heap.size, 1, none⟩ = some (.int .u64 (wq1 a)) ∧ y.cell? ⟨w.heap.size, 2, none⟩ = some (.int .u64 (wq2 a)) ∧ y.cell? ⟨w.heap.size, 3, none⟩ = some (.int .u64 (wq3 a)))) (by kernel_rfl) (by kernel_rfl) (fun wx hbx => ?_) (fun T hne tw hh hx => ?_)
    · obtain ⟨hcx, _⟩ := bcell hbx
      have hbw : Below w.heap.size w wx := by (repeat (first | with_reducible assumption | with_reducible exact Below.refl _ _ | with_reducible apply Below.drew | with_reducible apply below_drewN | with_reducible refine Below.alloc ?_ (by first | omega | (simp <;> omega)) _ | with_reducible refine Below.setCell ?_ (by first | omega | (simp <;> omega)) _ | with_reducible refine Below.trans ?_ (Below.mono (by assumption) (by first | omega | (simp <;> omega)))))
      refine ⟨hT.below hbw, ?_, ?_, ?_, ?_⟩ <;> simp [go_sem, *]
    · have t0 := fun p => (hh p).2.1
      have t1 := fun p => (hh p).2.2.1
      have t2 := fun p => (hh p).2.2.2.1
      have t3 := fun p => (hh p).2.2.2.2
      repeat (quiet_step (first
        | (go_at_call 37; rw [X1.out]; exact callsPast hx (k4 _))
        | (go_at_call 36; exact callsPast hx (k5 _))))
      refine wpQuiet_nil ?_
      intro w3 hb3
      (try (with_reducible replace hb3 := undrew hb3)); obtain ⟨hc3, hf3⟩ := bcell hb3; have hs3 := hb3.size; (try simp at hs3); (try have y3_0 : w.heap.size < w3.heap.size := (by omega))
      clear t0 t1 t2 t3 hh
      go_wp2
      refine wp_region_past (fun y => DTab y) (by kernel_rfl) (by kernel_rfl) (fun wx hbx => ?_) (fun T2 hne2 tw2 hh2 hx2 => ?_)
      · have hbw : Below w.heap.size w wx := by (repeat (first | with_reducible assumption | with_reducible exact Below.refl _ _ | with_reducible apply Below.drew | with_reducible apply below_drewN | with_reducible refine Below.alloc ?_ (by first | omega | (simp <;> omega)) _ | with_reducible refine Below.setCell ?_ (by first | omega | (simp <;> omega)) _ | with_reducible refine Below.trans ?_ (Below.mono (by assumption) (by first | omega | (simp <;> omega)))))
        exact hT.below hbw
      · repeat (quiet_step (first | (go_at_call 20; exact callsPast hx2 (counts_any _ (hh2 _)))))
        refine wpQuiet_nil ?_
        intro w4 hb4
        (try (with_reducible replace hb4 := undrew hb4)); obtain ⟨hc4, hf4⟩ := bcell hb4; have hs4 := hb4.size; (try simp at hs4); (try have y4_0 : w.heap.size < w4.heap.size := (by omega))
        go_wp2
        go_ret
        exact ⟨rfl, by (repeat (first | with_reducible assumption | with_reducible exact Below.refl _ _ | with_reducible apply Below.drew | with_reducible apply below_drewN | with_reducible refine Below.alloc ?_ (by first | omega | (simp <;> omega)) _ | with_reducible refine Below.setCell ?_ (by first | omega | (simp <;> omega)) _ | with_reducible refine Below.trans ?_ (Below.mono (by assumption) (by first | omega | (simp <;> omega)))))⟩
  · have k6 := wone _ _ HQ
    have k7 := wcmp_as a q _ HD
    simp only [Wv] at k6 k7

    go_enter Tryd.func9, Tryd.ntmps9
    go_wp2_with (first
      | (go_at_call 19; refine (k1 _).mono ?_; rintro e w1 ⟨rfl, hb1⟩; (try (with_reducible replace hb1 := undrew hb1)); obtain ⟨hc1, hf1⟩ := bcell hb1; have hs1 := hb1.size; (try simp at hs1); (try have y1_0_0 : w.heap.size < w1.heap.size := (by omega)))
      | (go_at_call 25; refine (k2 _).mono ?_; rintro e w2 ⟨rfl, hb2⟩; (try (with_reducible replace hb2 := undrew hb2)); obtain ⟨hc2, hf2⟩ := bcell hb2; have hs2 := hb2.size; (try simp at hs2); (try have y2_0_0 : w.heap.size < w2.heap.size := (by omega))))
    refine wp_region_past (fun y => DTab y ∧ (y.cell? ⟨w.heap.size, 0, none⟩ = some (.int .u64 (wq0 a)) ∧ y.cell? ⟨w.heap.size, 1, none⟩ = some (.int .u64 (wq1 a)) ∧ y.cell? ⟨w.heap.size, 2, none⟩ = some (.int .u64 (wq2 a)) ∧ y.cell? ⟨w.heap.size, 3, none⟩ = some (.int .u64 (wq3 a)))) (by kernel_rfl) (by kernel_rfl) (fun wx hbx => ?_) (fun T hne tw hh hx => ?_)
    · obtain ⟨hcx, _⟩ := bcell hbx
      have hbw : Below w.heap.size w wx := by (repeat (first | with_reducible assumption | with_reducible exact Below.refl _ _ | with_reducible apply Below.drew | with_reducible apply below_drewN | with_reducible refine Below.alloc ?_ (by first | omega | (simp <;> omega)) _ | with_reducible refine Below.setCell ?_ (by first | omega | (simp <;> omega)) _ | with_reducible refine Below.trans ?_ (Below.mono (by assumption) (by first | omega | (simp <;> omega)))))
      refine ⟨hT.below hbw, ?_, ?_, ?_, ?_⟩ <;> simp [go_sem, *]
    · have t0 := fun p => (hh p).2.1
      have t1 := fun p => (hh p).2.2.1
      have t2 := fun p => (hh p).2.2.2.1
      have t3 := fun p => (hh p).2.2.2.2
      repeat (quiet_step (first
        | (go_at_call 37; rw [X1.out]; exact callsPast hx (k4 _))
        | (go_at_call 36; exact callsPast hx (k5 _))))
      refine wpQuiet_nil ?_
      intro w3 hb3
      (try (with_reducible replace hb3 := undrew hb3)); obtain ⟨hc3, hf3⟩ := bcell hb3; have hs3 := hb3.size; (try simp at hs3); (try have y3_0 : w.heap.size < w3.heap.size := (by omega))
      clear t0 t1 t2 t3 hh
      go_wp2
      refine wp_region_past (fun y => DTab y ∧ (y.cell? ⟨w.heap.size, 0, none⟩ = some (.int .u64 (wq0 a)) ∧ y.cell? ⟨w.heap.size, 1, none⟩ = some (.int .u64 (wq1 a)) ∧ y.cell? ⟨w.heap.size, 2, none⟩ = some (.int .u64 (wq2 a)) ∧ y.cell? ⟨w.heap.size, 3, none⟩ = some (.int .u64 (wq3 a)))) (by kernel_rfl) (by kernel_rfl) (fun wx hbx => ?_) (fun T2 hne2 tw2 hh2 hx2 => ?_)
      · obtain ⟨hcx, _⟩ := bcell hbx
        have hbw : Below w.heap.size w wx := by (repeat (first | with_reducible assumption | with_reducible exact Below.refl _ _ | with_reducible apply Below.drew | with_reducible apply below_drewN | with_reducible refine Below.alloc ?_ (by first | omega | (simp <;> omega)) _ | with_reducible refine Below.setCell ?_ (by first | omega | (simp <;> omega)) _ | with_reducible refine Below.trans ?_ (Below.mono (by assumption) (by first | omega | (simp <;> omega)))))
        refine ⟨hT.below hbw, ?_, ?_, ?_, ?_⟩ <;> simp [go_sem, *]
      · have t0 := fun p => (hh2 p).2.1
        have t1 := fun p => (hh2 p).2.2.1
        have t2 := fun p => (hh2 p).2.2.2.1
        have t3 := fun p => (hh2 p).2.2.2.2
        repeat (quiet_step (first
          | (go_at_call 37; exact callsPast hx2 (k6 _))
          | (go_at_call 36; exact callsPast hx2 (k7 _))
          | (go_at_call 20; exact callsPast hx2 (counts_any _ (hh2 _).1))))
        refine wpQuiet_nil ?_
        intro w4 hb4
        (try (with_reducible replace hb4 := undrew hb4)); obtain ⟨hc4, hf4⟩ := bcell hb4; have hs4 := hb4.size; (try simp at hs4); (try have y4_0 : w.heap.size < w4.heap.size := (by omega))
        go_wp2
        go_ret
        exact ⟨rfl, by (repeat (first | with_reducible assumption | with_reducible exact Below.refl _ _ | with_reducible apply Below.drew | with_reducible apply below_drewN | with_reducible refine Below.alloc ?_ (by first | omega | (simp <;> omega)) _ | with_reducible refine Below.setCell ?_ (by first | omega | (simp <;> omega)) _ | with_reducible refine Below.trans ?_ (Below.mono (by assumption) (by first | omega | (simp <;> omega)))))⟩
theorem walk_countBetween (a : BitVec 256) (w : World) (hT : DTab w) :
    Calls Tryd.prog 9 #[Wv a] w fun e w' => e = .returned (.bool true) ∧ Gr w w' := by
  cases hz : wZero a
  · obtain ⟨h1, h2, h3⟩ := between_plain a hz
    refine between_core a _ (wShl 1#256 (wLen a)) _ _ (Lib.hid hz) (Lib.hid rfl) h1 (Lib.hid rfl) (Lib.hid rfl) (decide_eq_false (by omega)) (wLen_bounds a).2 ?_ w hT
    rcases h3 with h3 | ⟨h3, h4⟩
    · exact .inl (by simpa using h3)
    · exact .inr ⟨h3, by simp; omega, Lib.hid rfl, Lib.hid h4⟩
  · exact between_zero a (Lib.hid hz) (Lib.hid (len_zero a hz)) w hT
end Hb
end Go.Proofs.YteajalcnabjjeaaDoor
