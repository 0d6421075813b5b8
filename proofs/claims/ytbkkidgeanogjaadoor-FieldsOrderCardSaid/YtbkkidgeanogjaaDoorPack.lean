/-
  THE WALK of fields.Pack. Conditions: the table of the formats holds its numbers.
-/
import Derived.Test.YtbkkidgeanogjaaDoorFields
import Derived.Test.YtbkkidgeanogjaaDoorPast
namespace Go.Proofs.YtbkkidgeanogjaaDoor
open Go.RowKit
namespace Hb
set_option maxRecDepth 20000
set_option maxHeartbeats 1000000 in
theorem pk_none (f : Int) (l : 0 ≤ f) (u : f ≤ 255) (n : Bool) (c e p M : Int) (s : BitVec 128) (HP : Hid (fPr f = p)) (HM : Hid (fEm f = M)) (_c0 : 0 ≤ c) (_c1 : c ≤ 255) (h : ¬ f < 4) (w : World) (hT : Tab w) :
    Calls Tryd.prog 15 #[.int .u8 f, Nv n c e s] w fun x w' => x = .returned (.tuple #[.agg #[.int .u64 0, .int .u64 0], .bool false]) ∧ Gr w w' := by
  simp only [Nv]
  have o2_0 : w.heap.size < w.heap.size + 1 + 1 := by omega
  go_enter Tryd.func15, Tryd.ntmps15
  go_wp2_with (first
    | (go_at_call 24; refine (known_no f l u (by omega) _).mono ?_; rintro e wq ⟨rfl, rfl⟩)
    | (go_at_call 17; refine (fof_as f l u n c e _ _ _ _ HP HM _ (hT.below (by (repeat (first | exact Below.refl _ _ | assumption | apply Below.drew | apply below_drewN | refine Below.alloc ?_ (by first | omega | (simp <;> omega)) _ | refine Below.setCell ?_ (by first | omega | (simp <;> omega)) _ | refine Below.trans ?_ (Below.mono (by assumption) (by first | omega | (simp <;> omega)))))))).mono ?_; rintro x w2 ⟨g, rfl, g1, g2, ⟨d0, d1, d2, d3, d4, d5, d6⟩, ⟨e4, e5, e6⟩, hb2⟩; (try (with_reducible replace hb2 := undrew hb2)); obtain ⟨hc2, hf2⟩ := bcell hb2; have hs2 := hb2.size; (try simp at hs2); (try have n1 : ¬ g = w.heap.size := (by omega)); (try have n2 : ¬ g = w.heap.size + 1 := (by omega)); (try have n3 : ¬ w.heap.size + 1 = g := (by omega)); (try have m1 : w.heap.size < g := (by omega)); (try have m2 : w.heap.size + 1 < g := (by omega)); have y2_0 : w.heap.size < w2.heap.size := (by omega); have y2_1 : w.heap.size + 1 < w2.heap.size := (by omega)))
  simp [bodyPost, results, Tryd.results15, go_sem, *]
  (repeat (first | with_reducible assumption | with_reducible exact Below.refl _ _ | with_reducible apply Below.drew | with_reducible apply below_drewN | with_reducible refine Below.alloc ?_ (by first | omega | (simp <;> omega)) _ | with_reducible refine Below.setCell ?_ (by first | omega | (simp <;> omega)) _ | with_reducible refine Below.trans ?_ (Below.mono (by assumption) (by first | omega | (simp <;> omega)))))
set_option maxHeartbeats 1000000 in
theorem pk_class (f : Int) (l : 0 ≤ f) (u : f ≤ 255) (n : Bool) (c e p M : Int) (s : BitVec 128) (HP : Hid (fPr f = p)) (HM : Hid (fEm f = M)) (_c0 : 0 ≤ c) (_c1 : c ≤ 255) (h : f < 4) (hc : 3 < c) (w : World) (hT : Tab w) :
    Calls Tryd.prog 15 #[.int .u8 f, Nv n c e s] w fun x w' => x = .returned (.tuple #[.agg #[.int .u64 0, .int .u64 0], .bool false]) ∧ Gr w w' := by
  simp only [Nv]
  have o2_0 : w.heap.size < w.heap.size + 1 + 1 := by omega
  go_enter Tryd.func15, Tryd.ntmps15
  go_wp2_with (first
    | (go_at_call 24; refine (known_yes f l h _).mono ?_; rintro e wq ⟨rfl, rfl⟩)
    | (go_at_call 17; refine (fof_as f l u n c e _ _ _ _ HP HM _ (hT.below (by (repeat (first | exact Below.refl _ _ | assumption | apply Below.drew | apply below_drewN | refine Below.alloc ?_ (by first | omega | (simp <;> omega)) _ | refine Below.setCell ?_ (by first | omega | (simp <;> omega)) _ | refine Below.trans ?_ (Below.mono (by assumption) (by first | omega | (simp <;> omega)))))))).mono ?_; rintro x w2 ⟨g, rfl, g1, g2, ⟨d0, d1, d2, d3, d4, d5, d6⟩, ⟨e4, e5, e6⟩, hb2⟩; (try (with_reducible replace hb2 := undrew hb2)); obtain ⟨hc2, hf2⟩ := bcell hb2; have hs2 := hb2.size; (try simp at hs2); (try have n1 : ¬ g = w.heap.size := (by omega)); (try have n2 : ¬ g = w.heap.size + 1 := (by omega)); (try have n3 : ¬ w.heap.size + 1 = g := (by omega)); (try have m1 : w.heap.size < g := (by omega)); (try have m2 : w.heap.size + 1 < g := (by omega)); have y2_0 : w.heap.size < w2.heap.size := (by omega); have y2_1 : w.heap.size + 1 < w2.heap.size := (by omega)))
  simp [bodyPost, results, Tryd.results15, go_sem, *]
  (repeat (first | with_reducible assumption | with_reducible exact Below.refl _ _ | with_reducible apply Below.drew | with_reducible apply below_drewN | with_reducible refine Below.alloc ?_ (by first | omega | (simp <;> omega)) _ | with_reducible refine Below.setCell ?_ (by first | omega | (simp <;> omega)) _ | with_reducible refine Below.trans ?_ (Below.mono (by assumption) (by first | omega | (simp <;> omega)))))
theorem nought_as (f : Int) (l : 0 ≤ f) (u : f ≤ 255) (N : Bool) (z : BitVec 128) (H : Hid (fNou f N = z)) (w : World) (hT : Tab w) :
    Calls Tryd.prog 35 #[.int .u8 f, .bool N] w fun e w' => e = .returned (Bv z) ∧ Gr w w' := by
  obtain rfl := H.out; exact nought_any f l u N w hT
set_option maxHeartbeats 1000000 in
theorem pk_nought (f : Int) (l : 0 ≤ f) (u : f ≤ 255) (n : Bool) (c e p M : Int) (s : BitVec 128) (HP : Hid (fPr f = p)) (HM : Hid (fEm f = M)) (_c0 : 0 ≤ c) (_c1 : c ≤ 255) (z : BitVec 128) (h : f < 4) (hc : c = 0) (HZ : Hid (fNou f n = z)) (w : World) (hT : Tab w) :
    Calls Tryd.prog 15 #[.int .u8 f, Nv n c e s] w fun x w' => x = .returned (.tuple #[Bv z, .bool true]) ∧ Gr w w' := by
  subst hc
  have kn := fun w => nought_as f l u n z HZ w
  simp only [Nv, Bv] at kn ⊢
  have o2_0 : w.heap.size < w.heap.size + 1 + 1 := by omega
  go_enter Tryd.func15, Tryd.ntmps15
  go_wp2_with (first
    | (go_at_call 24; refine (known_yes f l h _).mono ?_; rintro e wq ⟨rfl, rfl⟩)
    | (go_at_call 17; refine (fof_as f l u n 0 e _ _ _ _ HP HM _ (hT.below (by (repeat (first | exact Below.refl _ _ | assumption | apply Below.drew | apply below_drewN | refine Below.alloc ?_ (by first | omega | (simp <;> omega)) _ | refine Below.setCell ?_ (by first | omega | (simp <;> omega)) _ | refine Below.trans ?_ (Below.mono (by assumption) (by first | omega | (simp <;> omega)))))))).mono ?_; rintro x w2 ⟨g, rfl, g1, g2, ⟨d0, d1, d2, d3, d4, d5, d6⟩, ⟨e4, e5, e6⟩, hb2⟩; (try (with_reducible replace hb2 := undrew hb2)); obtain ⟨hc2, hf2⟩ := bcell hb2; have hs2 := hb2.size; (try simp at hs2); (try have n1 : ¬ g = w.heap.size := (by omega)); (try have n2 : ¬ g = w.heap.size + 1 := (by omega)); (try have n3 : ¬ w.heap.size + 1 = g := (by omega)); (try have m1 : w.heap.size < g := (by omega)); (try have m2 : w.heap.size + 1 < g := (by omega)); have y2_0 : w.heap.size < w2.heap.size := (by omega); have y2_1 : w.heap.size + 1 < w2.heap.size := (by omega))
    | (go_at_call 35; refine (kn _ (hT.below (by (repeat (first | exact Below.refl _ _ | assumption | apply Below.drew | apply below_drewN | refine Below.alloc ?_ (by first | omega | (simp <;> omega)) _ | refine Below.setCell ?_ (by first | omega | (simp <;> omega)) _ | refine Below.trans ?_ (Below.mono (by assumption) (by first | omega | (simp <;> omega)))))))).mono ?_; rintro e w3 ⟨rfl, hb3⟩; (try (with_reducible replace hb3 := undrew hb3)); obtain ⟨hc3, hf3⟩ := bcell hb3; have hs3 := hb3.size; (try simp at hs3); (try have y3_0_0 : w.heap.size < w3.heap.size := (by omega)); (try have y3_1_0 : w.heap.size + 1 < w3.heap.size := (by omega)); (try have y3_2_0 : g < w3.heap.size := (by omega))))
  simp [bodyPost, results, Tryd.results15, go_sem, *]
  (repeat (first | with_reducible assumption | with_reducible exact Below.refl _ _ | with_reducible apply Below.drew | with_reducible apply below_drewN | with_reducible refine Below.alloc ?_ (by first | omega | (simp <;> omega)) _ | with_reducible refine Below.setCell ?_ (by first | omega | (simp <;> omega)) _ | with_reducible refine Below.trans ?_ (Below.mono (by assumption) (by first | omega | (simp <;> omega)))))

set_option maxHeartbeats 1000000 in
theorem pk_inf (f : Int) (l : 0 ≤ f) (u : f ≤ 255) (n : Bool) (c e p M : Int) (s : BitVec 128) (HP : Hid (fPr f = p)) (HM : Hid (fEm f = M)) (_c0 : 0 ≤ c) (_c1 : c ≤ 255) (z : BitVec 128) (h : f < 4) (hc : c = 3) (HZ : Hid (fInf f n = z)) (w : World) (hT : Tab w) :
    Calls Tryd.prog 15 #[.int .u8 f, Nv n c e s] w fun x w' => x = .returned (.tuple #[Bv z, .bool true]) ∧ Gr w w' := by
  subst hc
  have kn := fun w => inf_as f l u n z HZ w
  simp only [Nv, Bv] at kn ⊢
  have o2_0 : w.heap.size < w.heap.size + 1 + 1 := by omega
  go_enter Tryd.func15, Tryd.ntmps15
  go_wp2_with (first
    | (go_at_call 24; refine (known_yes f l h _).mono ?_; rintro e wq ⟨rfl, rfl⟩)
    | (go_at_call 17; refine (fof_as f l u n 3 e _ _ _ _ HP HM _ (hT.below (by (repeat (first | exact Below.refl _ _ | assumption | apply Below.drew | apply below_drewN | refine Below.alloc ?_ (by first | omega | (simp <;> omega)) _ | refine Below.setCell ?_ (by first | omega | (simp <;> omega)) _ | refine Below.trans ?_ (Below.mono (by assumption) (by first | omega | (simp <;> omega)))))))).mono ?_; rintro x w2 ⟨g, rfl, g1, g2, ⟨d0, d1, d2, d3, d4, d5, d6⟩, ⟨e4, e5, e6⟩, hb2⟩; (try (with_reducible replace hb2 := undrew hb2)); obtain ⟨hc2, hf2⟩ := bcell hb2; have hs2 := hb2.size; (try simp at hs2); (try have n1 : ¬ g = w.heap.size := (by omega)); (try have n2 : ¬ g = w.heap.size + 1 := (by omega)); (try have n3 : ¬ w.heap.size + 1 = g := (by omega)); (try have m1 : w.heap.size < g := (by omega)); (try have m2 : w.heap.size + 1 < g := (by omega)); have y2_0 : w.heap.size < w2.heap.size := (by omega); have y2_1 : w.heap.size + 1 < w2.heap.size := (by omega))
    | (go_at_call 36; refine (kn _ (hT.below (by (repeat (first | exact Below.refl _ _ | assumption | apply Below.drew | apply below_drewN | refine Below.alloc ?_ (by first | omega | (simp <;> omega)) _ | refine Below.setCell ?_ (by first | omega | (simp <;> omega)) _ | refine Below.trans ?_ (Below.mono (by assumption) (by first | omega | (simp <;> omega)))))))).mono ?_; rintro e w3 ⟨rfl, hb3⟩; (try (with_reducible replace hb3 := undrew hb3)); obtain ⟨hc3, hf3⟩ := bcell hb3; have hs3 := hb3.size; (try simp at hs3); (try have y3_0_0 : w.heap.size < w3.heap.size := (by omega)); (try have y3_1_0 : w.heap.size + 1 < w3.heap.size := (by omega)); (try have y3_2_0 : g < w3.heap.size := (by omega))))
  simp [bodyPost, results, Tryd.results15, go_sem, *]
  (repeat (first | with_reducible assumption | with_reducible exact Below.refl _ _ | with_reducible apply Below.drew | with_reducible apply below_drewN | with_reducible refine Below.alloc ?_ (by first | omega | (simp <;> omega)) _ | with_reducible refine Below.setCell ?_ (by first | omega | (simp <;> omega)) _ | with_reducible refine Below.trans ?_ (Below.mono (by assumption) (by first | omega | (simp <;> omega)))))
set_option maxHeartbeats 1000000 in
theorem pk_bit (f : Int) (l : 0 ≤ f) (u : f ≤ 255) (n : Bool) (c e p M : Int) (s : BitVec 128) (HP : Hid (fPr f = p)) (HM : Hid (fEm f = M)) (_c0 : 0 ≤ c) (_c1 : c ≤ 255) (h : f < 4) (hc : c ≤ 3) (n0 : (c == 0) = false) (n3 : (c == 3) = false) (hp : 0 ≤ p) (hp' : p ≤ 113) (hM : 0 ≤ M) (hM' : M ≤ 16383) (HB : Hid (bBit s 127 = false)) (w : World) (hT : Tab w) :
    Calls Tryd.prog 15 #[.int .u8 f, Nv n c e s] w fun x w' => x = .returned (.tuple #[.agg #[.int .u64 0, .int .u64 0], .bool false]) ∧ Gr w w' := by
  have X1 := IntWalk.i64_in (1 - M - p) (by omega)
  have X2 := IntWalk.i64_in (1 - M - p + 1) (by omega)
  have kb := bbit_as s 127 (by decide) (by decide) _ HB
  simp only [Nv, Bv] at kb ⊢
  have o2_0 : w.heap.size < w.heap.size + 1 + 1 := by omega
  go_enter Tryd.func15, Tryd.ntmps15
  go_wp2_with (first
    | (go_at_call 24; refine (known_yes f l h _).mono ?_; rintro e wq ⟨rfl, rfl⟩)
    | (go_at_call 17; refine (fof_as f l u n c e _ _ _ _ HP HM _ (hT.below (by (repeat (first | exact Below.refl _ _ | assumption | apply Below.drew | apply below_drewN | refine Below.alloc ?_ (by first | omega | (simp <;> omega)) _ | refine Below.setCell ?_ (by first | omega | (simp <;> omega)) _ | refine Below.trans ?_ (Below.mono (by assumption) (by first | omega | (simp <;> omega)))))))).mono ?_; rintro x w2 ⟨g, rfl, g1, g2, ⟨d0, d1, d2, d3, d4, d5, d6⟩, ⟨e4, e5, e6⟩, hb2⟩; (try (with_reducible replace hb2 := undrew hb2)); obtain ⟨hc2, hf2⟩ := bcell hb2; have hs2 := hb2.size; (try simp at hs2); (try have n1 : ¬ g = w.heap.size := (by omega)); (try have n2 : ¬ g = w.heap.size + 1 := (by omega)); (try have n3 : ¬ w.heap.size + 1 = g := (by omega)); (try have m1 : w.heap.size < g := (by omega)); (try have m2 : w.heap.size + 1 < g := (by omega)); have y2_0 : w.heap.size < w2.heap.size := (by omega); have y2_1 : w.heap.size + 1 < w2.heap.size := (by omega)))
  refine wp_region_past (fun z => z.cell? ⟨w.heap.size, 3, none⟩ = some (.int .u64 (hiB s)) ∧ z.cell? ⟨w.heap.size, 4, none⟩ = some (.int .u64 (loB s)) ∧ z.cell? ⟨g, 0, none⟩ = some (.int .i64 p) ∧ z.cell? ⟨g, 1, none⟩ = some (.int .i64 M) ∧ z.cell? ⟨g, 4, none⟩ = some (.int .i64 e)) (by kernel_rfl) (by kernel_rfl) (fun wx hbx => ?_) (fun T hne tw hh hx => ?_)
  · obtain ⟨hcx, _⟩ := bcell hbx
    refine ⟨?_, ?_, ?_, ?_, ?_⟩ <;> simp [go_sem, *]
  have t0 := fun p => (hh p).1
  have t1 := fun p => (hh p).2.1
  have t2 := fun p => (hh p).2.2.1
  have t3 := fun p => (hh p).2.2.2.1
  have t4 := fun p => (hh p).2.2.2.2
  repeat (go_big_quiet_step (first
    | (go_at_call 37; exact callsPast hx (kb _))
    | (go_at_call 23; exact callsPast hx (sleast_any p M hM hM' _))))
  refine wpQuiet_nil ?_
  intro w3 hb3
  (try (with_reducible replace hb3 := undrew hb3)); obtain ⟨hc3, hf3⟩ := bcell hb3; have hs3 := hb3.size; (try simp at hs3); (try have y3_0 : w.heap.size < w3.heap.size := (by omega)); (try have y3_1 : w.heap.size + 1 < w3.heap.size := (by omega)); (try have y3_2 : g < w3.heap.size := (by omega))
  clear t0 t1 t2 t3 t4 hh hx
  go_wp2
  simp [bodyPost, results, Tryd.results15, go_sem, *]
  (repeat (first | with_reducible assumption | with_reducible exact Below.refl _ _ | with_reducible apply Below.drew | with_reducible apply below_drewN | with_reducible refine Below.alloc ?_ (by first | omega | (simp <;> omega)) _ | with_reducible refine Below.setCell ?_ (by first | omega | (simp <;> omega)) _ | with_reducible refine Below.trans ?_ (Below.mono (by assumption) (by first | omega | (simp <;> omega)))))
set_option maxHeartbeats 1000000 in
theorem pk_high (f : Int) (l : 0 ≤ f) (u : f ≤ 255) (n : Bool) (c e p M : Int) (s : BitVec 128) (HP : Hid (fPr f = p)) (HM : Hid (fEm f = M)) (_c0 : 0 ≤ c) (_c1 : c ≤ 255) (h : f < 4) (hc : c ≤ 3) (n0 : (c == 0) = false) (n3 : (c == 3) = false) (hp : 0 ≤ p) (hp' : p ≤ 113) (hM : 0 ≤ M) (hM' : M ≤ 16383) (HB : Hid (bBit s 127 = true)) (he : M < e) (w : World) (hT : Tab w) :
    Calls Tryd.prog 15 #[.int .u8 f, Nv n c e s] w fun x w' => x = .returned (.tuple #[.agg #[.int .u64 0, .int .u64 0], .bool false]) ∧ Gr w w' := by
  have D1 : decide (M < e) = true := decide_eq_true he
  have X1 := IntWalk.i64_in (1 - M - p) (by omega)
  have X2 := IntWalk.i64_in (1 - M - p + 1) (by omega)
  have kb := bbit_as s 127 (by decide) (by decide) _ HB
  simp only [Nv, Bv] at kb ⊢
  have o2_0 : w.heap.size < w.heap.size + 1 + 1 := by omega
  go_enter Tryd.func15, Tryd.ntmps15
  go_wp2_with (first
    | (go_at_call 24; refine (known_yes f l h _).mono ?_; rintro e wq ⟨rfl, rfl⟩)
    | (go_at_call 17; refine (fof_as f l u n c e _ _ _ _ HP HM _ (hT.below (by (repeat (first | exact Below.refl _ _ | assumption | apply Below.drew | apply below_drewN | refine Below.alloc ?_ (by first | omega | (simp <;> omega)) _ | refine Below.setCell ?_ (by first | omega | (simp <;> omega)) _ | refine Below.trans ?_ (Below.mono (by assumption) (by first | omega | (simp <;> omega)))))))).mono ?_; rintro x w2 ⟨g, rfl, g1, g2, ⟨d0, d1, d2, d3, d4, d5, d6⟩, ⟨e4, e5, e6⟩, hb2⟩; (try (with_reducible replace hb2 := undrew hb2)); obtain ⟨hc2, hf2⟩ := bcell hb2; have hs2 := hb2.size; (try simp at hs2); (try have n1 : ¬ g = w.heap.size := (by omega)); (try have n2 : ¬ g = w.heap.size + 1 := (by omega)); (try have n3 : ¬ w.heap.size + 1 = g := (by omega)); (try have m1 : w.heap.size < g := (by omega)); (try have m2 : w.heap.size + 1 < g := (by omega)); have y2_0 : w.heap.size < w2.heap.size := (by omega); have y2_1 : w.heap.size + 1 < w2.heap.size := (by omega)))
  refine wp_region_past (fun z => z.cell? ⟨w.heap.size, 3, none⟩ = some (.int .u64 (hiB s)) ∧ z.cell? ⟨w.heap.size, 4, none⟩ = some (.int .u64 (loB s)) ∧ z.cell? ⟨g, 0, none⟩ = some (.int .i64 p) ∧ z.cell? ⟨g, 1, none⟩ = some (.int .i64 M) ∧ z.cell? ⟨g, 4, none⟩ = some (.int .i64 e)) (by kernel_rfl) (by kernel_rfl) (fun wx hbx => ?_) (fun T hne tw hh hx => ?_)
  · obtain ⟨hcx, _⟩ := bcell hbx
    refine ⟨?_, ?_, ?_, ?_, ?_⟩ <;> simp [go_sem, *]
  have t0 := fun p => (hh p).1
  have t1 := fun p => (hh p).2.1
  have t2 := fun p => (hh p).2.2.1
  have t3 := fun p => (hh p).2.2.2.1
  have t4 := fun p => (hh p).2.2.2.2
  repeat (go_big_quiet_step (first
    | (go_at_call 37; exact callsPast hx (kb _))
    | (go_at_call 23; exact callsPast hx (sleast_any p M hM hM' _))))
  refine wpQuiet_nil ?_
  intro w3 hb3
  (try (with_reducible replace hb3 := undrew hb3)); obtain ⟨hc3, hf3⟩ := bcell hb3; have hs3 := hb3.size; (try simp at hs3); (try have y3_0 : w.heap.size < w3.heap.size := (by omega)); (try have y3_1 : w.heap.size + 1 < w3.heap.size := (by omega)); (try have y3_2 : g < w3.heap.size := (by omega))
  clear t0 t1 t2 t3 t4 hh hx
  go_wp2
  simp [bodyPost, results, Tryd.results15, go_sem, *]
  (repeat (first | with_reducible assumption | with_reducible exact Below.refl _ _ | with_reducible apply Below.drew | with_reducible apply below_drewN | with_reducible refine Below.alloc ?_ (by first | omega | (simp <;> omega)) _ | with_reducible refine Below.setCell ?_ (by first | omega | (simp <;> omega)) _ | with_reducible refine Below.trans ?_ (Below.mono (by assumption) (by first | omega | (simp <;> omega)))))
set_option maxHeartbeats 1000000 in
theorem pk_small (f : Int) (l : 0 ≤ f) (u : f ≤ 255) (n : Bool) (c e p M : Int) (s : BitVec 128) (HP : Hid (fPr f = p)) (HM : Hid (fEm f = M)) (_c0 : 0 ≤ c) (_c1 : c ≤ 255) (h : f < 4) (hc : c ≤ 3) (n0 : (c == 0) = false) (n3 : (c == 3) = false) (hp : 0 ≤ p) (hp' : p ≤ 113) (hM : 0 ≤ M) (hM' : M ≤ 16383) (HB : Hid (bBit s 127 = true)) (he : e ≤ M) (he' : e < 1 - M - p + 1) (w : World) (hT : Tab w) :
    Calls Tryd.prog 15 #[.int .u8 f, Nv n c e s] w fun x w' => x = .returned (.tuple #[.agg #[.int .u64 0, .int .u64 0], .bool false]) ∧ Gr w w' := by
  have D1 : decide (M < e) = false := decide_eq_false (by omega)
  have D2 : decide (e < 1 - M - p + 1) = true := decide_eq_true he'
  have X1 := IntWalk.i64_in (1 - M - p) (by omega)
  have X2 := IntWalk.i64_in (1 - M - p + 1) (by omega)
  have kb := bbit_as s 127 (by decide) (by decide) _ HB
  simp only [Nv, Bv] at kb ⊢
  have o2_0 : w.heap.size < w.heap.size + 1 + 1 := by omega
  go_enter Tryd.func15, Tryd.ntmps15
  go_wp2_with (first
    | (go_at_call 24; refine (known_yes f l h _).mono ?_; rintro e wq ⟨rfl, rfl⟩)
    | (go_at_call 17; refine (fof_as f l u n c e _ _ _ _ HP HM _ (hT.below (by (repeat (first | exact Below.refl _ _ | assumption | apply Below.drew | apply below_drewN | refine Below.alloc ?_ (by first | omega | (simp <;> omega)) _ | refine Below.setCell ?_ (by first | omega | (simp <;> omega)) _ | refine Below.trans ?_ (Below.mono (by assumption) (by first | omega | (simp <;> omega)))))))).mono ?_; rintro x w2 ⟨g, rfl, g1, g2, ⟨d0, d1, d2, d3, d4, d5, d6⟩, ⟨e4, e5, e6⟩, hb2⟩; (try (with_reducible replace hb2 := undrew hb2)); obtain ⟨hc2, hf2⟩ := bcell hb2; have hs2 := hb2.size; (try simp at hs2); (try have n1 : ¬ g = w.heap.size := (by omega)); (try have n2 : ¬ g = w.heap.size + 1 := (by omega)); (try have n3 : ¬ w.heap.size + 1 = g := (by omega)); (try have m1 : w.heap.size < g := (by omega)); (try have m2 : w.heap.size + 1 < g := (by omega)); have y2_0 : w.heap.size < w2.heap.size := (by omega); have y2_1 : w.heap.size + 1 < w2.heap.size := (by omega)))
  refine wp_region_past (fun z => z.cell? ⟨w.heap.size, 3, none⟩ = some (.int .u64 (hiB s)) ∧ z.cell? ⟨w.heap.size, 4, none⟩ = some (.int .u64 (loB s)) ∧ z.cell? ⟨g, 0, none⟩ = some (.int .i64 p) ∧ z.cell? ⟨g, 1, none⟩ = some (.int .i64 M) ∧ z.cell? ⟨g, 4, none⟩ = some (.int .i64 e)) (by kernel_rfl) (by kernel_rfl) (fun wx hbx => ?_) (fun T hne tw hh hx => ?_)
  · obtain ⟨hcx, _⟩ := bcell hbx
    refine ⟨?_, ?_, ?_, ?_, ?_⟩ <;> simp [go_sem, *]
  have t0 := fun p => (hh p).1
  have t1 := fun p => (hh p).2.1
  have t2 := fun p => (hh p).2.2.1
  have t3 := fun p => (hh p).2.2.2.1
  have t4 := fun p => (hh p).2.2.2.2
  repeat (go_big_quiet_step (first
    | (go_at_call 37; exact callsPast hx (kb _))
    | (go_at_call 23; exact callsPast hx (sleast_any p M hM hM' _))))
  refine wpQuiet_nil ?_
  intro w3 hb3
  (try (with_reducible replace hb3 := undrew hb3)); obtain ⟨hc3, hf3⟩ := bcell hb3; have hs3 := hb3.size; (try simp at hs3); (try have y3_0 : w.heap.size < w3.heap.size := (by omega)); (try have y3_1 : w.heap.size + 1 < w3.heap.size := (by omega)); (try have y3_2 : g < w3.heap.size := (by omega))
  clear t0 t1 t2 t3 t4 hh hx
  go_wp2
  simp [bodyPost, results, Tryd.results15, go_sem, *]
  (repeat (first | with_reducible assumption | with_reducible exact Below.refl _ _ | with_reducible apply Below.drew | with_reducible apply below_drewN | with_reducible refine Below.alloc ?_ (by first | omega | (simp <;> omega)) _ | with_reducible refine Below.setCell ?_ (by first | omega | (simp <;> omega)) _ | with_reducible refine Below.trans ?_ (Below.mono (by assumption) (by first | omega | (simp <;> omega)))))
set_option maxHeartbeats 1000000 in
theorem pk_lost_sub (f : Int) (l : 0 ≤ f) (u : f ≤ 255) (n : Bool) (c e p M : Int) (s : BitVec 128) (HP : Hid (fPr f = p)) (HM : Hid (fEm f = M)) (_c0 : 0 ≤ c) (_c1 : c ≤ 255) (o : BitVec 256) (h : f < 4) (hc : c ≤ 3) (n0 : (c == 0) = false) (n3 : (c == 3) = false) (hp : 0 ≤ p) (hp' : p ≤ 113) (hM : 0 ≤ M) (hM' : M ≤ 16383) (HB : Hid (bBit s 127 = true)) (he : e ≤ M) (he' : 1 - M - p + 1 ≤ e) (hf : e + M < 1) (HO : Hid (wOf s = o)) (HL : Hid (wLost o (128 - p + 1 - (e + M)) = true)) (w : World) (hT : Tab w) :
    Calls Tryd.prog 15 #[.int .u8 f, Nv n c e s] w fun x w' => x = .returned (.tuple #[.agg #[.int .u64 0, .int .u64 0], .bool false]) ∧ Gr w w' := by
  have ko := fun w => HO.out ▸ wof_any s w
  have kl := lost_as o (128 - p + 1 - (e + M)) _ HL
  simp only [Wv, Bv] at ko kl
  have D1 : decide (M < e) = false := decide_eq_false (by omega)
  have D2 : decide (e < 1 - M - p + 1) = false := decide_eq_false (by omega)
  have X1 := IntWalk.i64_in (1 - M - p) (by omega)
  have X2 := IntWalk.i64_in (1 - M - p + 1) (by omega)
  have kb := bbit_as s 127 (by decide) (by decide) _ HB
  simp only [Nv, Bv] at kb ⊢
  have o2_0 : w.heap.size < w.heap.size + 1 + 1 := by omega
  go_enter Tryd.func15, Tryd.ntmps15
  go_wp2_with (first
    | (go_at_call 24; refine (known_yes f l h _).mono ?_; rintro e wq ⟨rfl, rfl⟩)
    | (go_at_call 17; refine (fof_as f l u n c e _ _ _ _ HP HM _ (hT.below (by (repeat (first | exact Below.refl _ _ | assumption | apply Below.drew | apply below_drewN | refine Below.alloc ?_ (by first | omega | (simp <;> omega)) _ | refine Below.setCell ?_ (by first | omega | (simp <;> omega)) _ | refine Below.trans ?_ (Below.mono (by assumption) (by first | omega | (simp <;> omega)))))))).mono ?_; rintro x w2 ⟨g, rfl, g1, g2, ⟨d0, d1, d2, d3, d4, d5, d6⟩, ⟨e4, e5, e6⟩, hb2⟩; (try (with_reducible replace hb2 := undrew hb2)); obtain ⟨hc2, hf2⟩ := bcell hb2; have hs2 := hb2.size; (try simp at hs2); (try have n1 : ¬ g = w.heap.size := (by omega)); (try have n2 : ¬ g = w.heap.size + 1 := (by omega)); (try have n3 : ¬ w.heap.size + 1 = g := (by omega)); (try have m1 : w.heap.size < g := (by omega)); (try have m2 : w.heap.size + 1 < g := (by omega)); have y2_0 : w.heap.size < w2.heap.size := (by omega); have y2_1 : w.heap.size + 1 < w2.heap.size := (by omega)))
  refine wp_region_past (fun z => z.cell? ⟨w.heap.size, 3, none⟩ = some (.int .u64 (hiB s)) ∧ z.cell? ⟨w.heap.size, 4, none⟩ = some (.int .u64 (loB s)) ∧ z.cell? ⟨g, 0, none⟩ = some (.int .i64 p) ∧ z.cell? ⟨g, 1, none⟩ = some (.int .i64 M) ∧ z.cell? ⟨g, 4, none⟩ = some (.int .i64 e)) (by kernel_rfl) (by kernel_rfl) (fun wx hbx => ?_) (fun T hne tw hh hx => ?_)
  · obtain ⟨hcx, _⟩ := bcell hbx
    refine ⟨?_, ?_, ?_, ?_, ?_⟩ <;> simp [go_sem, *]
  have t0 := fun p => (hh p).1
  have t1 := fun p => (hh p).2.1
  have t2 := fun p => (hh p).2.2.1
  have t3 := fun p => (hh p).2.2.2.1
  have t4 := fun p => (hh p).2.2.2.2
  repeat (go_big_quiet_step (first
    | (go_at_call 37; exact callsPast hx (kb _))
    | (go_at_call 23; exact callsPast hx (sleast_any p M hM hM' _))))
  refine wpQuiet_nil ?_
  intro w3 hb3
  (try (with_reducible replace hb3 := undrew hb3)); obtain ⟨hc3, hf3⟩ := bcell hb3; have hs3 := hb3.size; (try simp at hs3); (try have y3_0 : w.heap.size < w3.heap.size := (by omega)); (try have y3_1 : w.heap.size + 1 < w3.heap.size := (by omega)); (try have y3_2 : g < w3.heap.size := (by omega))
  clear t0 t1 t2 t3 t4 hh hx
  have X3 := IntWalk.i64_in (128 - p) (by omega)
  go_wp2
  refine wp_region_past (fun z => z.cell? ⟨g, 0, none⟩ = some (.int .i64 p) ∧ z.cell? ⟨g, 1, none⟩ = some (.int .i64 M) ∧ z.cell? ⟨g, 4, none⟩ = some (.int .i64 e)) (by kernel_rfl) (by kernel_rfl) (fun wx hbx => ?_) (fun T hne tw hh hx => ?_)
  · obtain ⟨hcx, _⟩ := bcell hbx
    refine ⟨?_, ?_, ?_⟩ <;> simp [go_sem, *]
  have t0 := fun p => (hh p).1
  have t1 := fun p => (hh p).2.1
  have t2 := fun p => (hh p).2.2
  repeat (go_big_quiet_step (first
    | (go_at_call 38; exact callsPast hx (sfield_any p M e (by omega) (by omega) hM hM' _))))
  refine wpQuiet_nil ?_
  intro w4 hb4
  (try (with_reducible replace hb4 := undrew hb4)); obtain ⟨hc4, hf4⟩ := bcell hb4; have hs4 := hb4.size; (try simp at hs4); (try have y4_0 : w.heap.size < w4.heap.size := (by omega)); (try have y4_1 : w.heap.size + 1 < w4.heap.size := (by omega)); (try have y4_2 : g < w4.heap.size := (by omega))
  clear t0 t1 t2 hh hx
  go_wp2_with (first
    | (go_at_call 40; refine (ko _).mono ?_; rintro e w5 ⟨rfl, hb5⟩; (try (with_reducible replace hb5 := undrew hb5)); obtain ⟨hc5, hf5⟩ := bcell hb5; have hs5 := hb5.size; (try simp at hs5); (try have y5_0_0 : w.heap.size < w5.heap.size := (by omega)); (try have y5_1_0 : w.heap.size + 1 < w5.heap.size := (by omega)); (try have y5_2_0 : g < w5.heap.size := (by omega)))
    | (go_at_call 39; refine (kl _).mono ?_; rintro e w6 ⟨rfl, hb6⟩; (try (with_reducible replace hb6 := undrew hb6)); obtain ⟨hc6, hf6⟩ := bcell hb6; have hs6 := hb6.size; (try simp at hs6); (try have y6_0_0 : w.heap.size < w6.heap.size := (by omega)); (try have y6_1_0 : w.heap.size + 1 < w6.heap.size := (by omega)); (try have y6_2_0 : g < w6.heap.size := (by omega))))
  simp [bodyPost, results, Tryd.results15, go_sem, *]
  (repeat (first | with_reducible assumption | with_reducible exact Below.refl _ _ | with_reducible apply Below.drew | with_reducible apply below_drewN | with_reducible refine Below.alloc ?_ (by first | omega | (simp <;> omega)) _ | with_reducible refine Below.setCell ?_ (by first | omega | (simp <;> omega)) _ | with_reducible refine Below.trans ?_ (Below.mono (by assumption) (by first | omega | (simp <;> omega)))))
set_option maxHeartbeats 1000000 in
theorem pk_ok_sub (f : Int) (l : 0 ≤ f) (u : f ≤ 255) (n : Bool) (c e p M : Int) (s : BitVec 128) (HP : Hid (fPr f = p)) (HM : Hid (fEm f = M)) (_c0 : 0 ≤ c) (_c1 : c ≤ 255) (o : BitVec 256) (R z : BitVec 128) (h : f < 4) (hc : c ≤ 3) (n0 : (c == 0) = false) (n3 : (c == 3) = false) (hp : 0 ≤ p) (hp' : p ≤ 113) (hM : 0 ≤ M) (hM' : M ≤ 16383) (HB : Hid (bBit s 127 = true)) (he : e ≤ M) (he' : 1 - M - p + 1 ≤ e) (hf : e + M < 1) (HO : Hid (wOf s = o)) (HL : Hid (wLost o (128 - p + 1 - (e + M)) = false)) (HR : Hid (bShr s (128 - p + 1 - (e + M)) = R)) (HZ : Hid (fMake f n (0) R = z)) (w : World) (hT : Tab w) :
    Calls Tryd.prog 15 #[.int .u8 f, Nv n c e s] w fun x w' => x = .returned (.tuple #[Bv z, .bool true]) ∧ Gr w w' := by
  have ko := fun w => HO.out ▸ wof_any s w
  have kl := lost_as o (128 - p + 1 - (e + M)) _ HL
  simp only [Wv, Bv] at ko kl
  have kr := right_as s (128 - p + 1 - (e + M)) R HR
  have km := make_as f l u n (0) R z HZ
  simp only [Bv] at kr km
  have D1 : decide (M < e) = false := decide_eq_false (by omega)
  have D2 : decide (e < 1 - M - p + 1) = false := decide_eq_false (by omega)
  have X1 := IntWalk.i64_in (1 - M - p) (by omega)
  have X2 := IntWalk.i64_in (1 - M - p + 1) (by omega)
  have kb := bbit_as s 127 (by decide) (by decide) _ HB
  simp only [Nv, Bv] at kb ⊢
  have o2_0 : w.heap.size < w.heap.size + 1 + 1 := by omega
  go_enter Tryd.func15, Tryd.ntmps15
  go_wp2_with (first
    | (go_at_call 24; refine (known_yes f l h _).mono ?_; rintro e wq ⟨rfl, rfl⟩)
    | (go_at_call 17; refine (fof_as f l u n c e _ _ _ _ HP HM _ (hT.below (by (repeat (first | exact Below.refl _ _ | assumption | apply Below.drew | apply below_drewN | refine Below.alloc ?_ (by first | omega | (simp <;> omega)) _ | refine Below.setCell ?_ (by first | omega | (simp <;> omega)) _ | refine Below.trans ?_ (Below.mono (by assumption) (by first | omega | (simp <;> omega)))))))).mono ?_; rintro x w2 ⟨g, rfl, g1, g2, ⟨d0, d1, d2, d3, d4, d5, d6⟩, ⟨e4, e5, e6⟩, hb2⟩; (try (with_reducible replace hb2 := undrew hb2)); obtain ⟨hc2, hf2⟩ := bcell hb2; have hs2 := hb2.size; (try simp at hs2); (try have n1 : ¬ g = w.heap.size := (by omega)); (try have n2 : ¬ g = w.heap.size + 1 := (by omega)); (try have n3 : ¬ w.heap.size + 1 = g := (by omega)); (try have m1 : w.heap.size < g := (by omega)); (try have m2 : w.heap.size + 1 < g := (by omega)); have y2_0 : w.heap.size < w2.heap.size := (by omega); have y2_1 : w.heap.size + 1 < w2.heap.size := (by omega)))
  refine wp_region_past (fun z => z.cell? ⟨w.heap.size, 3, none⟩ = some (.int .u64 (hiB s)) ∧ z.cell? ⟨w.heap.size, 4, none⟩ = some (.int .u64 (loB s)) ∧ z.cell? ⟨g, 0, none⟩ = some (.int .i64 p) ∧ z.cell? ⟨g, 1, none⟩ = some (.int .i64 M) ∧ z.cell? ⟨g, 4, none⟩ = some (.int .i64 e)) (by kernel_rfl) (by kernel_rfl) (fun wx hbx => ?_) (fun T hne tw hh hx => ?_)
  · obtain ⟨hcx, _⟩ := bcell hbx
    refine ⟨?_, ?_, ?_, ?_, ?_⟩ <;> simp [go_sem, *]
  have t0 := fun p => (hh p).1
  have t1 := fun p => (hh p).2.1
  have t2 := fun p => (hh p).2.2.1
  have t3 := fun p => (hh p).2.2.2.1
  have t4 := fun p => (hh p).2.2.2.2
  repeat (go_big_quiet_step (first
    | (go_at_call 37; exact callsPast hx (kb _))
    | (go_at_call 23; exact callsPast hx (sleast_any p M hM hM' _))))
  refine wpQuiet_nil ?_
  intro w3 hb3
  (try (with_reducible replace hb3 := undrew hb3)); obtain ⟨hc3, hf3⟩ := bcell hb3; have hs3 := hb3.size; (try simp at hs3); (try have y3_0 : w.heap.size < w3.heap.size := (by omega)); (try have y3_1 : w.heap.size + 1 < w3.heap.size := (by omega)); (try have y3_2 : g < w3.heap.size := (by omega))
  clear t0 t1 t2 t3 t4 hh hx
  have X3 := IntWalk.i64_in (128 - p) (by omega)
  go_wp2
  refine wp_region_past (fun z => z.cell? ⟨g, 0, none⟩ = some (.int .i64 p) ∧ z.cell? ⟨g, 1, none⟩ = some (.int .i64 M) ∧ z.cell? ⟨g, 4, none⟩ = some (.int .i64 e)) (by kernel_rfl) (by kernel_rfl) (fun wx hbx => ?_) (fun T hne tw hh hx => ?_)
  · obtain ⟨hcx, _⟩ := bcell hbx
    refine ⟨?_, ?_, ?_⟩ <;> simp [go_sem, *]
  have t0 := fun p => (hh p).1
  have t1 := fun p => (hh p).2.1
  have t2 := fun p => (hh p).2.2
  repeat (go_big_quiet_step (first
    | (go_at_call 38; exact callsPast hx (sfield_any p M e (by omega) (by omega) hM hM' _))))
  refine wpQuiet_nil ?_
  intro w4 hb4
  (try (with_reducible replace hb4 := undrew hb4)); obtain ⟨hc4, hf4⟩ := bcell hb4; have hs4 := hb4.size; (try simp at hs4); (try have y4_0 : w.heap.size < w4.heap.size := (by omega)); (try have y4_1 : w.heap.size + 1 < w4.heap.size := (by omega)); (try have y4_2 : g < w4.heap.size := (by omega))
  clear t0 t1 t2 hh hx
  go_wp2_with (first
    | (go_at_call 40; refine (ko _).mono ?_; rintro e w5 ⟨rfl, hb5⟩; (try (with_reducible replace hb5 := undrew hb5)); obtain ⟨hc5, hf5⟩ := bcell hb5; have hs5 := hb5.size; (try simp at hs5); (try have y5_0_0 : w.heap.size < w5.heap.size := (by omega)); (try have y5_1_0 : w.heap.size + 1 < w5.heap.size := (by omega)); (try have y5_2_0 : g < w5.heap.size := (by omega)))
    | (go_at_call 39; refine (kl _).mono ?_; rintro e w6 ⟨rfl, hb6⟩; (try (with_reducible replace hb6 := undrew hb6)); obtain ⟨hc6, hf6⟩ := bcell hb6; have hs6 := hb6.size; (try simp at hs6); (try have y6_0_0 : w.heap.size < w6.heap.size := (by omega)); (try have y6_1_0 : w.heap.size + 1 < w6.heap.size := (by omega)); (try have y6_2_0 : g < w6.heap.size := (by omega))))
  go_region_held3 (fun z => z.cell? ⟨g, 2, none⟩ = some (.bool n) ∧ z.cell? ⟨g, 5, none⟩ = some (.int .u64 (hiB s)) ∧ z.cell? ⟨g, 6, none⟩ = some (.int .u64 (loB s)))
    (simp [go_sem, *])
    (first
      | (go_at_call 42; refine (kr _).mono ?_; rintro e w7 ⟨rfl, hb7⟩; (try (with_reducible replace hb7 := undrew hb7)); obtain ⟨hc7, hf7⟩ := bcell hb7; have hs7 := hb7.size; (try simp at hs7); (try have y7_0_0 : w.heap.size < w7.heap.size := (by omega)); (try have y7_1_0 : w.heap.size + 1 < w7.heap.size := (by omega)); (try have y7_2_0 : g < w7.heap.size := (by omega)))
      | (go_at_call 41; refine (km _ (hT.below (by (repeat (first | exact Below.refl _ _ | assumption | apply Below.drew | apply below_drewN | refine Below.alloc ?_ (by first | omega | (simp <;> omega)) _ | refine Below.setCell ?_ (by first | omega | (simp <;> omega)) _ | refine Below.trans ?_ (Below.mono (by assumption) (by first | omega | (simp <;> omega)))))))).mono ?_; rintro e w8 ⟨rfl, hb8⟩; (try (with_reducible replace hb8 := undrew hb8)); obtain ⟨hc8, hf8⟩ := bcell hb8; have hs8 := hb8.size; (try simp at hs8); (try have y8_0_0 : w.heap.size < w8.heap.size := (by omega)); (try have y8_1_0 : w.heap.size + 1 < w8.heap.size := (by omega)); (try have y8_2_0 : g < w8.heap.size := (by omega))))
  all_goals go_wp2
  all_goals simp [bodyPost, results, Tryd.results15, go_sem, *]
  all_goals (repeat (first | with_reducible assumption | with_reducible exact Below.refl _ _ | with_reducible apply Below.drew | with_reducible apply below_drewN | with_reducible refine Below.alloc ?_ (by first | omega | (simp <;> omega)) _ | with_reducible refine Below.setCell ?_ (by first | omega | (simp <;> omega)) _ | with_reducible refine Below.trans ?_ (Below.mono (by assumption) (by first | omega | (simp <;> omega)))))
set_option maxHeartbeats 1000000 in
theorem pk_lost_nor (f : Int) (l : 0 ≤ f) (u : f ≤ 255) (n : Bool) (c e p M : Int) (s : BitVec 128) (HP : Hid (fPr f = p)) (HM : Hid (fEm f = M)) (_c0 : 0 ≤ c) (_c1 : c ≤ 255) (o : BitVec 256) (h : f < 4) (hc : c ≤ 3) (n0 : (c == 0) = false) (n3 : (c == 3) = false) (hp : 0 ≤ p) (hp' : p ≤ 113) (hM : 0 ≤ M) (hM' : M ≤ 16383) (HB : Hid (bBit s 127 = true)) (he : e ≤ M) (he' : 1 - M - p + 1 ≤ e) (hf : 1 ≤ e + M) (HO : Hid (wOf s = o)) (HL : Hid (wLost o (128 - p) = true)) (w : World) (hT : Tab w) :
    Calls Tryd.prog 15 #[.int .u8 f, Nv n c e s] w fun x w' => x = .returned (.tuple #[.agg #[.int .u64 0, .int .u64 0], .bool false]) ∧ Gr w w' := by
  have ko := fun w => HO.out ▸ wof_any s w
  have kl := lost_as o (128 - p) _ HL
  simp only [Wv, Bv] at ko kl
  have D1 : decide (M < e) = false := decide_eq_false (by omega)
  have D2 : decide (e < 1 - M - p + 1) = false := decide_eq_false (by omega)
  have X1 := IntWalk.i64_in (1 - M - p) (by omega)
  have X2 := IntWalk.i64_in (1 - M - p + 1) (by omega)
  have kb := bbit_as s 127 (by decide) (by decide) _ HB
  simp only [Nv, Bv] at kb ⊢
  have o2_0 : w.heap.size < w.heap.size + 1 + 1 := by omega
  go_enter Tryd.func15, Tryd.ntmps15
  go_wp2_with (first
    | (go_at_call 24; refine (known_yes f l h _).mono ?_; rintro e wq ⟨rfl, rfl⟩)
    | (go_at_call 17; refine (fof_as f l u n c e _ _ _ _ HP HM _ (hT.below (by (repeat (first | exact Below.refl _ _ | assumption | apply Below.drew | apply below_drewN | refine Below.alloc ?_ (by first | omega | (simp <;> omega)) _ | refine Below.setCell ?_ (by first | omega | (simp <;> omega)) _ | refine Below.trans ?_ (Below.mono (by assumption) (by first | omega | (simp <;> omega)))))))).mono ?_; rintro x w2 ⟨g, rfl, g1, g2, ⟨d0, d1, d2, d3, d4, d5, d6⟩, ⟨e4, e5, e6⟩, hb2⟩; (try (with_reducible replace hb2 := undrew hb2)); obtain ⟨hc2, hf2⟩ := bcell hb2; have hs2 := hb2.size; (try simp at hs2); (try have n1 : ¬ g = w.heap.size := (by omega)); (try have n2 : ¬ g = w.heap.size + 1 := (by omega)); (try have n3 : ¬ w.heap.size + 1 = g := (by omega)); (try have m1 : w.heap.size < g := (by omega)); (try have m2 : w.heap.size + 1 < g := (by omega)); have y2_0 : w.heap.size < w2.heap.size := (by omega); have y2_1 : w.heap.size + 1 < w2.heap.size := (by omega)))
  refine wp_region_past (fun z => z.cell? ⟨w.heap.size, 3, none⟩ = some (.int .u64 (hiB s)) ∧ z.cell? ⟨w.heap.size, 4, none⟩ = some (.int .u64 (loB s)) ∧ z.cell? ⟨g, 0, none⟩ = some (.int .i64 p) ∧ z.cell? ⟨g, 1, none⟩ = some (.int .i64 M) ∧ z.cell? ⟨g, 4, none⟩ = some (.int .i64 e)) (by kernel_rfl) (by kernel_rfl) (fun wx hbx => ?_) (fun T hne tw hh hx => ?_)
  · obtain ⟨hcx, _⟩ := bcell hbx
    refine ⟨?_, ?_, ?_, ?_, ?_⟩ <;> simp [go_sem, *]
  have t0 := fun p => (hh p).1
  have t1 := fun p => (hh p).2.1
  have t2 := fun p => (hh p).2.2.1
  have t3 := fun p => (hh p).2.2.2.1
  have t4 := fun p => (hh p).2.2.2.2
  repeat (go_big_quiet_step (first
    | (go_at_call 37; exact callsPast hx (kb _))
    | (go_at_call 23; exact callsPast hx (sleast_any p M hM hM' _))))
  refine wpQuiet_nil ?_
  intro w3 hb3
  (try (with_reducible replace hb3 := undrew hb3)); obtain ⟨hc3, hf3⟩ := bcell hb3; have hs3 := hb3.size; (try simp at hs3); (try have y3_0 : w.heap.size < w3.heap.size := (by omega)); (try have y3_1 : w.heap.size + 1 < w3.heap.size := (by omega)); (try have y3_2 : g < w3.heap.size := (by omega))
  clear t0 t1 t2 t3 t4 hh hx
  have X3 := IntWalk.i64_in (128 - p) (by omega)
  go_wp2
  refine wp_region_past (fun z => z.cell? ⟨g, 0, none⟩ = some (.int .i64 p) ∧ z.cell? ⟨g, 1, none⟩ = some (.int .i64 M) ∧ z.cell? ⟨g, 4, none⟩ = some (.int .i64 e)) (by kernel_rfl) (by kernel_rfl) (fun wx hbx => ?_) (fun T hne tw hh hx => ?_)
  · obtain ⟨hcx, _⟩ := bcell hbx
    refine ⟨?_, ?_, ?_⟩ <;> simp [go_sem, *]
  have t0 := fun p => (hh p).1
  have t1 := fun p => (hh p).2.1
  have t2 := fun p => (hh p).2.2
  repeat (go_big_quiet_step (first
    | (go_at_call 38; exact callsPast hx (sfield_any p M e (by omega) (by omega) hM hM' _))))
  refine wpQuiet_nil ?_
  intro w4 hb4
  (try (with_reducible replace hb4 := undrew hb4)); obtain ⟨hc4, hf4⟩ := bcell hb4; have hs4 := hb4.size; (try simp at hs4); (try have y4_0 : w.heap.size < w4.heap.size := (by omega)); (try have y4_1 : w.heap.size + 1 < w4.heap.size := (by omega)); (try have y4_2 : g < w4.heap.size := (by omega))
  clear t0 t1 t2 hh hx
  go_wp2_with (first
    | (go_at_call 40; refine (ko _).mono ?_; rintro e w5 ⟨rfl, hb5⟩; (try (with_reducible replace hb5 := undrew hb5)); obtain ⟨hc5, hf5⟩ := bcell hb5; have hs5 := hb5.size; (try simp at hs5); (try have y5_0_0 : w.heap.size < w5.heap.size := (by omega)); (try have y5_1_0 : w.heap.size + 1 < w5.heap.size := (by omega)); (try have y5_2_0 : g < w5.heap.size := (by omega)))
    | (go_at_call 39; refine (kl _).mono ?_; rintro e w6 ⟨rfl, hb6⟩; (try (with_reducible replace hb6 := undrew hb6)); obtain ⟨hc6, hf6⟩ := bcell hb6; have hs6 := hb6.size; (try simp at hs6); (try have y6_0_0 : w.heap.size < w6.heap.size := (by omega)); (try have y6_1_0 : w.heap.size + 1 < w6.heap.size := (by omega)); (try have y6_2_0 : g < w6.heap.size := (by omega))))
  simp [bodyPost, results, Tryd.results15, go_sem, *]
  (repeat (first | with_reducible assumption | with_reducible exact Below.refl _ _ | with_reducible apply Below.drew | with_reducible apply below_drewN | with_reducible refine Below.alloc ?_ (by first | omega | (simp <;> omega)) _ | with_reducible refine Below.setCell ?_ (by first | omega | (simp <;> omega)) _ | with_reducible refine Below.trans ?_ (Below.mono (by assumption) (by first | omega | (simp <;> omega)))))
set_option maxHeartbeats 1000000 in
theorem pk_ok_nor (f : Int) (l : 0 ≤ f) (u : f ≤ 255) (n : Bool) (c e p M : Int) (s : BitVec 128) (HP : Hid (fPr f = p)) (HM : Hid (fEm f = M)) (_c0 : 0 ≤ c) (_c1 : c ≤ 255) (o : BitVec 256) (R z : BitVec 128) (h : f < 4) (hc : c ≤ 3) (n0 : (c == 0) = false) (n3 : (c == 3) = false) (hp : 0 ≤ p) (hp' : p ≤ 113) (hM : 0 ≤ M) (hM' : M ≤ 16383) (HB : Hid (bBit s 127 = true)) (he : e ≤ M) (he' : 1 - M - p + 1 ≤ e) (hf : 1 ≤ e + M) (HO : Hid (wOf s = o)) (HL : Hid (wLost o (128 - p) = false)) (HR : Hid (bShr s (128 - p) = R)) (HZ : Hid (fMake f n (e + M) R = z)) (w : World) (hT : Tab w) :
    Calls Tryd.prog 15 #[.int .u8 f, Nv n c e s] w fun x w' => x = .returned (.tuple #[Bv z, .bool true]) ∧ Gr w w' := by
  have ko := fun w => HO.out ▸ wof_any s w
  have kl := lost_as o (128 - p) _ HL
  simp only [Wv, Bv] at ko kl
  have kr := right_as s (128 - p) R HR
  have km := make_as f l u n (e + M) R z HZ
  simp only [Bv] at kr km
  have D1 : decide (M < e) = false := decide_eq_false (by omega)
  have D2 : decide (e < 1 - M - p + 1) = false := decide_eq_false (by omega)
  have X1 := IntWalk.i64_in (1 - M - p) (by omega)
  have X2 := IntWalk.i64_in (1 - M - p + 1) (by omega)
  have kb := bbit_as s 127 (by decide) (by decide) _ HB
  simp only [Nv, Bv] at kb ⊢
  have o2_0 : w.heap.size < w.heap.size + 1 + 1 := by omega
  go_enter Tryd.func15, Tryd.ntmps15
  go_wp2_with (first
    | (go_at_call 24; refine (known_yes f l h _).mono ?_; rintro e wq ⟨rfl, rfl⟩)
    | (go_at_call 17; refine (fof_as f l u n c e _ _ _ _ HP HM _ (hT.below (by (repeat (first | exact Below.refl _ _ | assumption | apply Below.drew | apply below_drewN | refine Below.alloc ?_ (by first | omega | (simp <;> omega)) _ | refine Below.setCell ?_ (by first | omega | (simp <;> omega)) _ | refine Below.trans ?_ (Below.mono (by assumption) (by first | omega | (simp <;> omega)))))))).mono ?_; rintro x w2 ⟨g, rfl, g1, g2, ⟨d0, d1, d2, d3, d4, d5, d6⟩, ⟨e4, e5, e6⟩, hb2⟩; (try (with_reducible replace hb2 := undrew hb2)); obtain ⟨hc2, hf2⟩ := bcell hb2; have hs2 := hb2.size; (try simp at hs2); (try have n1 : ¬ g = w.heap.size := (by omega)); (try have n2 : ¬ g = w.heap.size + 1 := (by omega)); (try have n3 : ¬ w.heap.size + 1 = g := (by omega)); (try have m1 : w.heap.size < g := (by omega)); (try have m2 : w.heap.size + 1 < g := (by omega)); have y2_0 : w.heap.size < w2.heap.size := (by omega); have y2_1 : w.heap.size + 1 < w2.heap.size := (by omega)))
  refine wp_region_past (fun z => z.cell? ⟨w.heap.size, 3, none⟩ = some (.int .u64 (hiB s)) ∧ z.cell? ⟨w.heap.size, 4, none⟩ = some (.int .u64 (loB s)) ∧ z.cell? ⟨g, 0, none⟩ = some (.int .i64 p) ∧ z.cell? ⟨g, 1, none⟩ = some (.int .i64 M) ∧ z.cell? ⟨g, 4, none⟩ = some (.int .i64 e)) (by kernel_rfl) (by kernel_rfl) (fun wx hbx => ?_) (fun T hne tw hh hx => ?_)
  · obtain ⟨hcx, _⟩ := bcell hbx
    refine ⟨?_, ?_, ?_, ?_, ?_⟩ <;> simp [go_sem, *]
  have t0 := fun p => (hh p).1
  have t1 := fun p => (hh p).2.1
  have t2 := fun p => (hh p).2.2.1
  have t3 := fun p => (hh p).2.2.2.1
  have t4 := fun p => (hh p).2.2.2.2
  repeat (go_big_quiet_step (first
    | (go_at_call 37; exact callsPast hx (kb _))
    | (go_at_call 23; exact callsPast hx (sleast_any p M hM hM' _))))
  refine wpQuiet_nil ?_
  intro w3 hb3
  (try (with_reducible replace hb3 := undrew hb3)); obtain ⟨hc3, hf3⟩ := bcell hb3; have hs3 := hb3.size; (try simp at hs3); (try have y3_0 : w.heap.size < w3.heap.size := (by omega)); (try have y3_1 : w.heap.size + 1 < w3.heap.size := (by omega)); (try have y3_2 : g < w3.heap.size := (by omega))
  clear t0 t1 t2 t3 t4 hh hx
  have X3 := IntWalk.i64_in (128 - p) (by omega)
  go_wp2
  refine wp_region_past (fun z => z.cell? ⟨g, 0, none⟩ = some (.int .i64 p) ∧ z.cell? ⟨g, 1, none⟩ = some (.int .i64 M) ∧ z.cell? ⟨g, 4, none⟩ = some (.int .i64 e)) (by kernel_rfl) (by kernel_rfl) (fun wx hbx => ?_) (fun T hne tw hh hx => ?_)
  · obtain ⟨hcx, _⟩ := bcell hbx
    refine ⟨?_, ?_, ?_⟩ <;> simp [go_sem, *]
  have t0 := fun p => (hh p).1
  have t1 := fun p => (hh p).2.1
  have t2 := fun p => (hh p).2.2
  repeat (go_big_quiet_step (first
    | (go_at_call 38; exact callsPast hx (sfield_any p M e (by omega) (by omega) hM hM' _))))
  refine wpQuiet_nil ?_
  intro w4 hb4
  (try (with_reducible replace hb4 := undrew hb4)); obtain ⟨hc4, hf4⟩ := bcell hb4; have hs4 := hb4.size; (try simp at hs4); (try have y4_0 : w.heap.size < w4.heap.size := (by omega)); (try have y4_1 : w.heap.size + 1 < w4.heap.size := (by omega)); (try have y4_2 : g < w4.heap.size := (by omega))
  clear t0 t1 t2 hh hx
  go_wp2_with (first
    | (go_at_call 40; refine (ko _).mono ?_; rintro e w5 ⟨rfl, hb5⟩; (try (with_reducible replace hb5 := undrew hb5)); obtain ⟨hc5, hf5⟩ := bcell hb5; have hs5 := hb5.size; (try simp at hs5); (try have y5_0_0 : w.heap.size < w5.heap.size := (by omega)); (try have y5_1_0 : w.heap.size + 1 < w5.heap.size := (by omega)); (try have y5_2_0 : g < w5.heap.size := (by omega)))
    | (go_at_call 39; refine (kl _).mono ?_; rintro e w6 ⟨rfl, hb6⟩; (try (with_reducible replace hb6 := undrew hb6)); obtain ⟨hc6, hf6⟩ := bcell hb6; have hs6 := hb6.size; (try simp at hs6); (try have y6_0_0 : w.heap.size < w6.heap.size := (by omega)); (try have y6_1_0 : w.heap.size + 1 < w6.heap.size := (by omega)); (try have y6_2_0 : g < w6.heap.size := (by omega))))
  go_region_held3 (fun z => z.cell? ⟨g, 2, none⟩ = some (.bool n) ∧ z.cell? ⟨g, 5, none⟩ = some (.int .u64 (hiB s)) ∧ z.cell? ⟨g, 6, none⟩ = some (.int .u64 (loB s)))
    (simp [go_sem, *])
    (first
      | (go_at_call 42; refine (kr _).mono ?_; rintro e w7 ⟨rfl, hb7⟩; (try (with_reducible replace hb7 := undrew hb7)); obtain ⟨hc7, hf7⟩ := bcell hb7; have hs7 := hb7.size; (try simp at hs7); (try have y7_0_0 : w.heap.size < w7.heap.size := (by omega)); (try have y7_1_0 : w.heap.size + 1 < w7.heap.size := (by omega)); (try have y7_2_0 : g < w7.heap.size := (by omega)))
      | (go_at_call 41; refine (km _ (hT.below (by (repeat (first | exact Below.refl _ _ | assumption | apply Below.drew | apply below_drewN | refine Below.alloc ?_ (by first | omega | (simp <;> omega)) _ | refine Below.setCell ?_ (by first | omega | (simp <;> omega)) _ | refine Below.trans ?_ (Below.mono (by assumption) (by first | omega | (simp <;> omega)))))))).mono ?_; rintro e w8 ⟨rfl, hb8⟩; (try (with_reducible replace hb8 := undrew hb8)); obtain ⟨hc8, hf8⟩ := bcell hb8; have hs8 := hb8.size; (try simp at hs8); (try have y8_0_0 : w.heap.size < w8.heap.size := (by omega)); (try have y8_1_0 : w.heap.size + 1 < w8.heap.size := (by omega)); (try have y8_2_0 : g < w8.heap.size := (by omega))))
  all_goals go_wp2
  all_goals simp [bodyPost, results, Tryd.results15, go_sem, *]
  all_goals (repeat (first | with_reducible assumption | with_reducible exact Below.refl _ _ | with_reducible apply Below.drew | with_reducible apply below_drewN | with_reducible refine Below.alloc ?_ (by first | omega | (simp <;> omega)) _ | with_reducible refine Below.setCell ?_ (by first | omega | (simp <;> omega)) _ | with_reducible refine Below.trans ?_ (Below.mono (by assumption) (by first | omega | (simp <;> omega)))))
end Hb
end Go.Proofs.YtbkkidgeanogjaaDoor
