/-
  THE WALK of the law CountShift. Conditions: the library's table holds its numbers.
-/
import Derived.Test.YteajalcnabjjeaaDoorGoes4
import Derived.Test.YteajalcnabjjeaaDoorCountLaws
import Derived.IntWalk
namespace Go.Proofs.YteajalcnabjjeaaDoor
open Go.RowKit
namespace Hb
set_option maxRecDepth 20000
set_option maxHeartbeats 4000000 in
theorem cshift_core (a b z : BitVec 256) (x y k c t : Int) (HX : Hid (wLen a = x)) (HY : Hid (wLen b = y)) (HC : Hid (wCmp a b = c)) (x0 : 0 ≤ x) (x1 : x ≤ 256) (y0 : 0 ≤ y) (y1 : y ≤ 256) (k0 : 0 ≤ k) (kk : k ≤ 255)
    (hc : (y < x ∧ c = 1) ∨ (x < y ∧ decide (y < x) = false ∧ c = -1) ∨ (decide (y < x) = false ∧ decide (x < y) = false ∧ decide (0 ≤ c) = true) ∨ (decide (y < x) = false ∧ decide (x < y) = false ∧ decide (0 ≤ c) = false))
    (h : (x == 0) = true ∨ ((x == 0) = false ∧ 256 < x + k) ∨ ((x == 0) = false ∧ x + k ≤ 256 ∧ Hid (wShl a k = z) ∧ Hid (wLen z = x + k) ∧ Hid (wTail a = t) ∧ Hid (wTail z = t + k) ∧ 0 ≤ t ∧ t ≤ 256)) (w : World) (hT : DTab w) :
    Calls Tryd.prog 8 #[Wv a, Wv b, .int .u8 k] w fun e w' => e = .returned (.bool true) ∧ Gr w w' := by
  have k1 := wlen_as a _ HX
  have k2 := wlen_as b _ HY
  have k3 := wcmp_as a b _ HC
  simp only [Wv] at k1 k2 k3 ⊢
  have o2_0 : w.heap.size < w.heap.size + 1 + 1 := by omega
  go_enter Tryd.func8, Tryd.ntmps8
  go_wp2
  refine wp_region_past (fun z => (z.cell? ⟨w.heap.size, 0, none⟩ = some (.int .u64 (wq0 a)) ∧ z.cell? ⟨w.heap.size, 1, none⟩ = some (.int .u64 (wq1 a)) ∧ z.cell? ⟨w.heap.size, 2, none⟩ = some (.int .u64 (wq2 a)) ∧ z.cell? ⟨w.heap.size, 3, none⟩ = some (.int .u64 (wq3 a))) ∧ (z.cell? ⟨w.heap.size + 1, 0, none⟩ = some (.int .u64 (wq0 b)) ∧ z.cell? ⟨w.heap.size + 1, 1, none⟩ = some (.int .u64 (wq1 b)) ∧ z.cell? ⟨w.heap.size + 1, 2, none⟩ = some (.int .u64 (wq2 b)) ∧ z.cell? ⟨w.heap.size + 1, 3, none⟩ = some (.int .u64 (wq3 b)))) (by kernel_rfl) (by kernel_rfl) (fun wx hbx => ?_) (fun T hne tw hh hx => ?_)
  · obtain ⟨hcx, _⟩ := bcell hbx
    refine ⟨⟨?_, ?_, ?_, ?_⟩, ?_, ?_, ?_, ?_⟩ <;> simp [go_sem, *]
  · have t0 := fun p => (hh p).1.1
    have t1 := fun p => (hh p).1.2.1
    have t2 := fun p => (hh p).1.2.2.1
    have t3 := fun p => (hh p).1.2.2.2
    have s0 := fun p => (hh p).2.1
    have s1 := fun p => (hh p).2.2.1
    have s2 := fun p => (hh p).2.2.2.1
    have s3 := fun p => (hh p).2.2.2.2
    repeat (quiet_step (first
      | (go_at_call_of 19 (wq0 a); exact callsPast hx (k1 _))
      | (go_at_call_of 19 (wq0 b); exact callsPast hx (k2 _))))
    refine wpQuiet_nil ?_
    intro w1 hb1
    (try (with_reducible replace hb1 := undrew hb1)); obtain ⟨hc1, hf1⟩ := bcell hb1; have hs1 := hb1.size; (try simp at hs1); (try have y1_0 : w.heap.size < w1.heap.size := (by omega)); (try have y1_1 : w.heap.size + 1 < w1.heap.size := (by omega))
    clear t0 t1 t2 t3 s0 s1 s2 s3 hh hx
    rcases hc with ⟨d1, rfl⟩ | ⟨d1, d2, rfl⟩ | ⟨d1, d2, d3⟩ | ⟨d1, d2, d3⟩
    all_goals
      rcases h with h | ⟨h, h1⟩ | ⟨h, h1, HZ, H1, H2, H3, t0, t1⟩
      · go_wp2_with (first
          | (go_at_call 36; refine (k3 _).mono ?_; rintro e w2 ⟨rfl, hb2⟩; (try (with_reducible replace hb2 := undrew hb2)); obtain ⟨hc2, hf2⟩ := bcell hb2; have hs2 := hb2.size; (try simp at hs2); (try have y2_0_0 : w.heap.size < w2.heap.size := (by omega)); (try have y2_1_0 : w.heap.size + 1 < w2.heap.size := (by omega)))
          | (go_at_call 20; refine (counts_any _ (hT.below (by (repeat (first | with_reducible assumption | with_reducible exact Below.refl _ _ | with_reducible apply Below.drew | with_reducible apply below_drewN | with_reducible refine Below.alloc ?_ (by first | omega | (simp <;> omega)) _ | with_reducible refine Below.setCell ?_ (by first | omega | (simp <;> omega)) _ | with_reducible refine Below.trans ?_ (Below.mono (by assumption) (by first | omega | (simp <;> omega)))))))).mono ?_; rintro e w4 ⟨rfl, hb4⟩; (try (with_reducible replace hb4 := undrew hb4)); obtain ⟨hc4, hf4⟩ := bcell hb4; have hs4 := hb4.size; (try simp at hs4); (try have y4_0_0 : w.heap.size < w4.heap.size := (by omega)); (try have y4_1_0 : w.heap.size + 1 < w4.heap.size := (by omega))))
        go_ret
        exact ⟨rfl, by (repeat (first | with_reducible assumption | with_reducible exact Below.refl _ _ | with_reducible apply Below.drew | with_reducible apply below_drewN | with_reducible refine Below.alloc ?_ (by first | omega | (simp <;> omega)) _ | with_reducible refine Below.setCell ?_ (by first | omega | (simp <;> omega)) _ | with_reducible refine Below.trans ?_ (Below.mono (by assumption) (by first | omega | (simp <;> omega)))))⟩
      · go_wp2_with (first
          | (go_at_call 36; refine (k3 _).mono ?_; rintro e w2 ⟨rfl, hb2⟩; (try (with_reducible replace hb2 := undrew hb2)); obtain ⟨hc2, hf2⟩ := bcell hb2; have hs2 := hb2.size; (try simp at hs2); (try have y2_0_0 : w.heap.size < w2.heap.size := (by omega)); (try have y2_1_0 : w.heap.size + 1 < w2.heap.size := (by omega)))
          | (go_at_call 20; refine (counts_any _ (hT.below (by (repeat (first | with_reducible assumption | with_reducible exact Below.refl _ _ | with_reducible apply Below.drew | with_reducible apply below_drewN | with_reducible refine Below.alloc ?_ (by first | omega | (simp <;> omega)) _ | with_reducible refine Below.setCell ?_ (by first | omega | (simp <;> omega)) _ | with_reducible refine Below.trans ?_ (Below.mono (by assumption) (by first | omega | (simp <;> omega)))))))).mono ?_; rintro e w4 ⟨rfl, hb4⟩; (try (with_reducible replace hb4 := undrew hb4)); obtain ⟨hc4, hf4⟩ := bcell hb4; have hs4 := hb4.size; (try simp at hs4); (try have y4_0_0 : w.heap.size < w4.heap.size := (by omega)); (try have y4_1_0 : w.heap.size + 1 < w4.heap.size := (by omega))))
        go_ret
        exact ⟨rfl, by (repeat (first | with_reducible assumption | with_reducible exact Below.refl _ _ | with_reducible apply Below.drew | with_reducible apply below_drewN | with_reducible refine Below.alloc ?_ (by first | omega | (simp <;> omega)) _ | with_reducible refine Below.setCell ?_ (by first | omega | (simp <;> omega)) _ | with_reducible refine Below.trans ?_ (Below.mono (by assumption) (by first | omega | (simp <;> omega)))))⟩
      · have k4 := wleft_as a k z HZ
        have k5 := wlen_as z _ H1
        have k6 := tail_as a _ H2
        have k7 := tail_as z _ H3
        simp only [Wv] at k4 k5 k6 k7
        have X1 := IntWalk.i64_in (x + k) (by omega)
        have X2 := IntWalk.i64_in (t + k) (by omega)
        go_wp2_with (first
          | (go_at_call 36; refine (k3 _).mono ?_; rintro e w2 ⟨rfl, hb2⟩; (try (with_reducible replace hb2 := undrew hb2)); obtain ⟨hc2, hf2⟩ := bcell hb2; have hs2 := hb2.size; (try simp at hs2); (try have y2_0_0 : w.heap.size < w2.heap.size := (by omega)); (try have y2_1_0 : w.heap.size + 1 < w2.heap.size := (by omega))))
        refine wp_region_past (fun y => DTab y ∧ (y.cell? ⟨w.heap.size, 0, none⟩ = some (.int .u64 (wq0 a)) ∧ y.cell? ⟨w.heap.size, 1, none⟩ = some (.int .u64 (wq1 a)) ∧ y.cell? ⟨w.heap.size, 2, none⟩ = some (.int .u64 (wq2 a)) ∧ y.cell? ⟨w.heap.size, 3, none⟩ = some (.int .u64 (wq3 a)))) (by kernel_rfl) (by kernel_rfl) (fun wx hbx => ?_) (fun T2 hne2 tw2 hh2 hx2 => ?_)
        · obtain ⟨hcx, _⟩ := bcell hbx
          have hbw : Below w.heap.size w wx := by (repeat (first | with_reducible assumption | with_reducible exact Below.refl _ _ | with_reducible apply Below.drew | with_reducible apply below_drewN | with_reducible refine Below.alloc ?_ (by first | omega | (simp <;> omega)) _ | with_reducible refine Below.setCell ?_ (by first | omega | (simp <;> omega)) _ | with_reducible refine Below.trans ?_ (Below.mono (by assumption) (by first | omega | (simp <;> omega)))))
          refine ⟨hT.below hbw, ?_, ?_, ?_, ?_⟩ <;> simp [go_sem, *]
        · have v0 := fun p => (hh2 p).2.1
          have v1 := fun p => (hh2 p).2.2.1
          have v2 := fun p => (hh2 p).2.2.2.1
          have v3 := fun p => (hh2 p).2.2.2.2
          repeat (quiet_step (first
            | (go_at_call 37; exact callsPast hx2 (k4 _))
            | (go_at_call 19; exact callsPast hx2 (k5 _))
            | (go_at_call_of 18 (wq0 a); exact callsPast hx2 (k6 _ (hh2 _).1))
            | (go_at_call_of 18 (wq0 z); exact callsPast hx2 (k7 _ (hh2 _).1))
            | (go_at_call 20; exact callsPast hx2 (counts_any _ (hh2 _).1))))
          refine wpQuiet_nil ?_
          intro w5 hb5
          (try (with_reducible replace hb5 := undrew hb5)); obtain ⟨hc5, hf5⟩ := bcell hb5; have hs5 := hb5.size; (try simp at hs5); (try have y5_0 : w.heap.size < w5.heap.size := (by omega)); (try have y5_1 : w.heap.size + 1 < w5.heap.size := (by omega))
          go_wp2
          go_ret
          exact ⟨rfl, by (repeat (first | with_reducible assumption | with_reducible exact Below.refl _ _ | with_reducible apply Below.drew | with_reducible apply below_drewN | with_reducible refine Below.alloc ?_ (by first | omega | (simp <;> omega)) _ | with_reducible refine Below.setCell ?_ (by first | omega | (simp <;> omega)) _ | with_reducible refine Below.trans ?_ (Below.mono (by assumption) (by first | omega | (simp <;> omega)))))⟩
theorem walk_countShift (a b : BitVec 256) (n : Int) (l : 0 ≤ n) (u : n ≤ 255) (w : World) (hT : DTab w) :
    Calls Tryd.prog 8 #[Wv a, Wv b, .int .u8 n] w fun e w' => e = .returned (.bool true) ∧ Gr w w' := by
  have hx := wLen_bounds a
  have hy := wLen_bounds b
  obtain ⟨c1, c2⟩ := shift_cmp a b
  have ht := wTail_bounds a
  refine cshift_core a b (wShl a n) _ _ n _ (wTail a) (Lib.hid rfl) (Lib.hid rfl) (Lib.hid rfl) hx.1 hx.2 hy.1 hy.2 l u ?_ ?_ w hT
  · by_cases h1 : wLen b < wLen a
    · exact .inl ⟨h1, c1 h1⟩
    · by_cases h2 : wLen a < wLen b
      · exact .inr (.inl ⟨h2, decide_eq_false h1, c2 h2⟩)
      · cases h3 : decide (0 ≤ wCmp a b)
        · exact .inr (.inr (.inr ⟨decide_eq_false h1, decide_eq_false h2, rfl⟩))
        · exact .inr (.inr (.inl ⟨decide_eq_false h1, decide_eq_false h2, rfl⟩))
  · by_cases h0 : wLen a = 0
    · exact .inl (by simpa using h0)
    · by_cases h1 : 256 < wLen a + n
      · exact .inr (.inl ⟨by simpa using h0, h1⟩)
      · obtain ⟨p1, p2⟩ := shift_plain a n l h0 (by omega)
        exact .inr (.inr ⟨by simpa using h0, by omega, Lib.hid rfl, Lib.hid p1, Lib.hid rfl, Lib.hid p2, ht.1, ht.2⟩)
end Hb
end Go.Proofs.YteajalcnabjjeaaDoor
