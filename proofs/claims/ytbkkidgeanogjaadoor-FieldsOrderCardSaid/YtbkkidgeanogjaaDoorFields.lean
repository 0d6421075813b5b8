/-
  THE WALKS of package fields: the small ones, and Unpack. Conditions: the table of the formats holds its numbers.
-/
import Derived.Test.YtbkkidgeanogjaaDoorClass
import Derived.Test.YtbkkidgeanogjaaDoorCount
import Derived.Test.YtbkkidgeanogjaaDoorFieldsPlain
namespace Go.Proofs.YtbkkidgeanogjaaDoor
open Go.RowKit
namespace Hb
set_option maxRecDepth 20000
/-- A number taken apart, as a value. -/
abbrev Nv (n : Bool) (c e : Int) (s : BitVec 128) : Value := .agg #[.bool n, .int .u8 c, .int .i64 e, .int .u64 (hiB s), .int .u64 (loB s)]
/-- What fields.of leaves: a block of the format's two numbers and the number's five cells. -/
def OfPost (w : World) (p M : Int) (n : Bool) (c e h l : Int) (r : Ending) (w' : World) : Prop :=
  ∃ g : Nat, r = .returned (.pointer (some ⟨g, 0, none⟩)) ∧ w.heap.size ≤ g ∧ g < w'.heap.size ∧ (w'.cell? ⟨g, 0, none⟩ = some (.int .i64 p) ∧ w'.cell? ⟨g, 1, none⟩ = some (.int .i64 M) ∧ w'.cell? ⟨g, 2, none⟩ = some (.bool n) ∧ w'.cell? ⟨g, 3, none⟩ = some (.int .u8 c) ∧ w'.cell? ⟨g, 4, none⟩ = some (.int .i64 e) ∧ w'.cell? ⟨g, 5, none⟩ = some (.int .u64 h) ∧ w'.cell? ⟨g, 6, none⟩ = some (.int .u64 l)) ∧
    (w'.frozen? ⟨g, 4, none⟩ = false ∧ w'.frozen? ⟨g, 5, none⟩ = false ∧ w'.frozen? ⟨g, 6, none⟩ = false) ∧ Below w.heap.size w w'
set_option maxHeartbeats 1000000 in
theorem fof_as (f : Int) (l : 0 ≤ f) (u : f ≤ 255) (n : Bool) (c e h k p M : Int) (HP : Hid (fPr f = p)) (HM : Hid (fEm f = M)) (w : World) (hT : Tab w) :
    Calls Tryd.prog 17 #[.int .u8 f, .agg #[.bool n, .int .u8 c, .int .i64 e, .int .u64 h, .int .u64 k]] w (OfPost w p M n c e h k) := by

  go_enter Tryd.func17, Tryd.ntmps17
  go_wp2
  go_region_held3 (fun z => z.cell? ⟨w.heap.size, 0, none⟩ = some (.bool n) ∧ z.cell? ⟨w.heap.size, 1, none⟩ = some (.int .u8 c) ∧ z.cell? ⟨w.heap.size, 2, none⟩ = some (.int .i64 e) ∧ z.cell? ⟨w.heap.size, 3, none⟩ = some (.int .u64 h) ∧ z.cell? ⟨w.heap.size, 4, none⟩ = some (.int .u64 k))
    (simp [go_sem, *])
    (first
      | (go_at_call 34; refine (prec_as f l u _ HP _ (hT.below (by (repeat (first | exact Below.refl _ _ | assumption | apply Below.drew | apply below_drewN | refine Below.alloc ?_ (by first | omega | (simp <;> omega)) _ | refine Below.setCell ?_ (by first | omega | (simp <;> omega)) _ | refine Below.trans ?_ (Below.mono (by assumption) (by first | omega | (simp <;> omega)))))))).mono ?_; rintro e w1 ⟨rfl, hb1⟩; (try (with_reducible replace hb1 := undrew hb1)); obtain ⟨hc1, hf1⟩ := bcell hb1; have hs1 := hb1.size; (try simp at hs1); (try have y1_0_0 : w.heap.size < w1.heap.size := (by omega)))
      | (go_at_call 44; refine (emax_as f l u _ HM _ (hT.below (by (repeat (first | exact Below.refl _ _ | assumption | apply Below.drew | apply below_drewN | refine Below.alloc ?_ (by first | omega | (simp <;> omega)) _ | refine Below.setCell ?_ (by first | omega | (simp <;> omega)) _ | refine Below.trans ?_ (Below.mono (by assumption) (by first | omega | (simp <;> omega)))))))).mono ?_; rintro e w2 ⟨rfl, hb2⟩; (try (with_reducible replace hb2 := undrew hb2)); obtain ⟨hc2, hf2⟩ := bcell hb2; have hs2 := hb2.size; (try simp at hs2); (try have y2_0_0 : w.heap.size < w2.heap.size := (by omega))))
  all_goals go_wp2
  all_goals go_ret
  all_goals (refine ⟨_, rfl, ?_, ?_, ⟨?_, ?_, ?_, ?_, ?_, ?_, ?_⟩, ⟨?_, ?_, ?_⟩, ?_⟩)
  all_goals first | (simp [go_sem]; done) | omega | (simp [go_sem]; omega) | (repeat (first | with_reducible assumption | with_reducible exact Below.refl _ _ | with_reducible apply Below.drew | with_reducible apply below_drewN | with_reducible refine Below.alloc ?_ (by first | omega | (simp <;> omega)) _ | with_reducible refine Below.setCell ?_ (by first | omega | (simp <;> omega)) _ | with_reducible refine Below.trans ?_ (Below.mono (by assumption) (by first | omega | (simp <;> omega)))))
theorem sexp_any (p M x : Int) (h0 : -70000 ≤ x) (h1 : x ≤ 70000) (g0 : 0 ≤ M) (g1 : M ≤ 16383) (w : World) :
    Calls Tryd.prog 19 #[.agg #[.int .i64 p, .int .i64 M], .int .i64 x] w fun e w' => e = .returned (.int .i64 (x - M)) ∧ Gr w w' := by

  go_enter Tryd.func19, Tryd.ntmps19
  go_wp2
  go_ret
  exact ⟨rfl, by (repeat (first | with_reducible assumption | with_reducible exact Below.refl _ _ | with_reducible apply Below.drew | with_reducible apply below_drewN | with_reducible refine Below.alloc ?_ (by first | omega | (simp <;> omega)) _ | with_reducible refine Below.setCell ?_ (by first | omega | (simp <;> omega)) _ | with_reducible refine Below.trans ?_ (Below.mono (by assumption) (by first | omega | (simp <;> omega)))))⟩
theorem sfield_any (p M x : Int) (h0 : -70000 ≤ x) (h1 : x ≤ 70000) (g0 : 0 ≤ M) (g1 : M ≤ 16383) (w : World) :
    Calls Tryd.prog 38 #[.agg #[.int .i64 p, .int .i64 M], .int .i64 x] w fun e w' => e = .returned (.int .i64 (x + M)) ∧ Gr w w' := by

  go_enter Tryd.func38, Tryd.ntmps38
  go_wp2
  go_ret
  exact ⟨rfl, by (repeat (first | with_reducible assumption | with_reducible exact Below.refl _ _ | with_reducible apply Below.drew | with_reducible apply below_drewN | with_reducible refine Below.alloc ?_ (by first | omega | (simp <;> omega)) _ | with_reducible refine Below.setCell ?_ (by first | omega | (simp <;> omega)) _ | with_reducible refine Below.trans ?_ (Below.mono (by assumption) (by first | omega | (simp <;> omega)))))⟩
theorem sleast_any (p M : Int) (g0 : 0 ≤ M) (g1 : M ≤ 16383) (w : World) :
    Calls Tryd.prog 23 #[.agg #[.int .i64 p, .int .i64 M]] w fun e w' => e = .returned (.int .i64 (1 - M)) ∧ Gr w w' := by

  go_enter Tryd.func23, Tryd.ntmps23
  go_wp2
  go_ret
  exact ⟨rfl, by (repeat (first | with_reducible assumption | with_reducible exact Below.refl _ _ | with_reducible apply Below.drew | with_reducible apply below_drewN | with_reducible refine Below.alloc ?_ (by first | omega | (simp <;> omega)) _ | with_reducible refine Below.setCell ?_ (by first | omega | (simp <;> omega)) _ | with_reducible refine Below.trans ?_ (Below.mono (by assumption) (by first | omega | (simp <;> omega)))))⟩
set_option maxHeartbeats 4000000 in
theorem unp_other (f : Int) (l : 0 ≤ f) (u : f ≤ 255) (b F : BitVec 128) (N : Bool) (E p M c : Int) (HC : Hid (cOf f b = c ∧ fNeg f b = N)) (HS : Hid (fNeg f b = N ∧ fExp f b = E ∧ fFrac f b = F)) (HP : Hid (fPr f = p)) (HM : Hid (fEm f = M)) (c1 : (c == 1) = false) (c2 : (c == 2) = false) (w : World) (hT : Tab w) :
    Calls Tryd.prog 6 #[.int .u8 f, Bv b] w fun e w' => e = .returned (.agg #[.bool N, .int .u8 c, .int .i64 0, .int .u64 0, .int .u64 0]) ∧ Gr w w' := by
  simp only [Bv]
  have o2_0 : w.heap.size < w.heap.size + 1 + 1 := by omega
  go_enter Tryd.func6, Tryd.ntmps6
  go_wp2_with (first
    | (go_at_call 16; refine (clof_as f l u b _ _ HC _ (hT.below (by (repeat (first | exact Below.refl _ _ | assumption | apply Below.drew | apply below_drewN | refine Below.alloc ?_ (by first | omega | (simp <;> omega)) _ | refine Below.setCell ?_ (by first | omega | (simp <;> omega)) _ | refine Below.trans ?_ (Below.mono (by assumption) (by first | omega | (simp <;> omega)))))))).mono ?_; rintro e w1 ⟨rfl, hb1⟩; (try (with_reducible replace hb1 := undrew hb1)); obtain ⟨hc1, hf1⟩ := bcell hb1; have hs1 := hb1.size; (try simp at hs1); (try have y1_0_0 : w.heap.size < w1.heap.size := (by omega)); (try have y1_1_0 : w.heap.size + 1 < w1.heap.size := (by omega)))
    | (go_at_call 17; refine (fof_as f l u N c 0 0 0 _ _ HP HM _ (hT.below (by (repeat (first | exact Below.refl _ _ | assumption | apply Below.drew | apply below_drewN | refine Below.alloc ?_ (by first | omega | (simp <;> omega)) _ | refine Below.setCell ?_ (by first | omega | (simp <;> omega)) _ | refine Below.trans ?_ (Below.mono (by assumption) (by first | omega | (simp <;> omega)))))))).mono ?_; rintro e w2 ⟨g, rfl, g1, g2, ⟨d0, d1, d2, d3, d4, d5, d6⟩, ⟨e4, e5, e6⟩, hb2⟩; (try (with_reducible replace hb2 := undrew hb2)); obtain ⟨hc2, hf2⟩ := bcell hb2; have hs2 := hb2.size; (try simp at hs2); (try have n1 : ¬ g = w.heap.size := (by omega)); (try have n2 : ¬ g = w.heap.size + 1 := (by omega)); (try have n3 : ¬ w.heap.size + 1 = g := (by omega)); (try have m1 : w.heap.size < g := (by omega)); (try have m2 : w.heap.size + 1 < g := (by omega)); have y2_0 : w.heap.size < w2.heap.size := (by omega); have y2_1 : w.heap.size + 1 < w2.heap.size := (by omega))
    | (go_at_call 18; refine (split_as f l u b _ _ _ HS _ (hT.below (by (repeat (first | exact Below.refl _ _ | assumption | apply Below.drew | apply below_drewN | refine Below.alloc ?_ (by first | omega | (simp <;> omega)) _ | refine Below.setCell ?_ (by first | omega | (simp <;> omega)) _ | refine Below.trans ?_ (Below.mono (by assumption) (by first | omega | (simp <;> omega)))))))).mono ?_; rintro e w3 ⟨rfl, hb3⟩; (try (with_reducible replace hb3 := undrew hb3)); obtain ⟨hc3, hf3⟩ := bcell hb3; have hs3 := hb3.size; (try simp at hs3); (try have y3_0_0 : w.heap.size < w3.heap.size := (by omega)); (try have y3_0_1 : w.heap.size < w3.heap.size + 1 := (by omega)); (try have y3_1_0 : w.heap.size + 1 < w3.heap.size := (by omega)); (try have y3_1_1 : w.heap.size + 1 < w3.heap.size + 1 := (by omega)); (try have y3_2_0 : g < w3.heap.size := (by omega)); (try have y3_2_1 : g < w3.heap.size + 1 := (by omega))))
  simp [bodyPost, results, Tryd.results6, go_sem, *]
  (repeat (first | with_reducible assumption | with_reducible exact Below.refl _ _ | with_reducible apply Below.drew | with_reducible apply below_drewN | with_reducible refine Below.alloc ?_ (by first | omega | (simp <;> omega)) _ | with_reducible refine Below.setCell ?_ (by first | omega | (simp <;> omega)) _ | with_reducible refine Below.trans ?_ (Below.mono (by assumption) (by first | omega | (simp <;> omega)))))
set_option maxHeartbeats 4000000 in
theorem unp_normal (f : Int) (l : 0 ≤ f) (u : f ≤ 255) (b F L G : BitVec 128) (N : Bool) (E p M : Int) (HC : Hid (cOf f b = 2 ∧ fNeg f b = N)) (HS : Hid (fNeg f b = N ∧ fExp f b = E ∧ fFrac f b = F)) (HP : Hid (fPr f = p)) (HM : Hid (fEm f = M)) (k : Int) (hk : Hid (128 - p = k)) (hp : 0 ≤ p) (hp' : p ≤ 113) (hM : 0 ≤ M) (hM' : M ≤ 16383) (hE : 0 ≤ E) (hE' : E ≤ 32767)
    (HL : Hid (bShl F k = L)) (HG : Hid (bAdd L (mkB 9223372036854775808 0) = G)) (w : World) (hT : Tab w) :
    Calls Tryd.prog 6 #[.int .u8 f, Bv b] w fun e w' => e = .returned (Nv N 2 (E - M) G) ∧ Gr w w' := by
  have X1 := Lib.hid ((IntWalk.i64_in (128 - p) (by omega)).trans hk.out)
  have ka := fun w => HG.out ▸ add_any L (mkB 9223372036854775808 0) w
  rw [bv_mk _ _ ⟨by decide, by decide⟩ wd0] at ka
  have kl := left_as F k _ HL
  simp only [Bv, Nv] at ka kl ⊢
  have o2_0 : w.heap.size < w.heap.size + 1 + 1 := by omega
  go_enter Tryd.func6, Tryd.ntmps6
  go_wp2_with (first
    | (go_at_call 16; refine (clof_as f l u b _ _ HC _ (hT.below (by (repeat (first | exact Below.refl _ _ | assumption | apply Below.drew | apply below_drewN | refine Below.alloc ?_ (by first | omega | (simp <;> omega)) _ | refine Below.setCell ?_ (by first | omega | (simp <;> omega)) _ | refine Below.trans ?_ (Below.mono (by assumption) (by first | omega | (simp <;> omega)))))))).mono ?_; rintro e w1 ⟨rfl, hb1⟩; (try (with_reducible replace hb1 := undrew hb1)); obtain ⟨hc1, hf1⟩ := bcell hb1; have hs1 := hb1.size; (try simp at hs1); (try have y1_0_0 : w.heap.size < w1.heap.size := (by omega)); (try have y1_1_0 : w.heap.size + 1 < w1.heap.size := (by omega)))
    | (go_at_call 17; refine (fof_as f l u N 2 0 0 0 _ _ HP HM _ (hT.below (by (repeat (first | exact Below.refl _ _ | assumption | apply Below.drew | apply below_drewN | refine Below.alloc ?_ (by first | omega | (simp <;> omega)) _ | refine Below.setCell ?_ (by first | omega | (simp <;> omega)) _ | refine Below.trans ?_ (Below.mono (by assumption) (by first | omega | (simp <;> omega)))))))).mono ?_; rintro e w2 ⟨g, rfl, g1, g2, ⟨d0, d1, d2, d3, d4, d5, d6⟩, ⟨e4, e5, e6⟩, hb2⟩; (try (with_reducible replace hb2 := undrew hb2)); obtain ⟨hc2, hf2⟩ := bcell hb2; have hs2 := hb2.size; (try simp at hs2); (try have n1 : ¬ g = w.heap.size := (by omega)); (try have n2 : ¬ g = w.heap.size + 1 := (by omega)); (try have n3 : ¬ w.heap.size + 1 = g := (by omega)); (try have m1 : w.heap.size < g := (by omega)); (try have m2 : w.heap.size + 1 < g := (by omega)); have y2_0 : w.heap.size < w2.heap.size := (by omega); have y2_1 : w.heap.size + 1 < w2.heap.size := (by omega))
    | (go_at_call 18; refine (split_as f l u b _ _ _ HS _ (hT.below (by (repeat (first | exact Below.refl _ _ | assumption | apply Below.drew | apply below_drewN | refine Below.alloc ?_ (by first | omega | (simp <;> omega)) _ | refine Below.setCell ?_ (by first | omega | (simp <;> omega)) _ | refine Below.trans ?_ (Below.mono (by assumption) (by first | omega | (simp <;> omega)))))))).mono ?_; rintro e w3 ⟨rfl, hb3⟩; (try (with_reducible replace hb3 := undrew hb3)); obtain ⟨hc3, hf3⟩ := bcell hb3; have hs3 := hb3.size; (try simp at hs3); (try have y3_0_0 : w.heap.size < w3.heap.size := (by omega)); (try have y3_0_1 : w.heap.size < w3.heap.size + 1 := (by omega)); (try have y3_1_0 : w.heap.size + 1 < w3.heap.size := (by omega)); (try have y3_1_1 : w.heap.size + 1 < w3.heap.size + 1 := (by omega)); (try have y3_2_0 : g < w3.heap.size := (by omega)); (try have y3_2_1 : g < w3.heap.size + 1 := (by omega)))
    | (go_at_call 19; refine (sexp_any p M E (by omega) (by omega) hM hM' _).mono ?_; rintro e w4 ⟨rfl, hb4⟩; (try (with_reducible replace hb4 := undrew hb4)); obtain ⟨hc4, hf4⟩ := bcell hb4; have hs4 := hb4.size; (try simp at hs4); (try have y4_0_0 : w.heap.size < w4.heap.size := (by omega)); (try have y4_1_0 : w.heap.size + 1 < w4.heap.size := (by omega)); (try have y4_2_0 : g < w4.heap.size := (by omega)); (try have y4_3_0 : w3.heap.size < w4.heap.size := (by omega))))
  go_region_held3 (fun z => z.cell? ⟨g, 0, none⟩ = some (.int .i64 p) ∧ z.cell? ⟨w3.heap.size, 0, none⟩ = some (.int .u64 (hiB F)) ∧ z.cell? ⟨w3.heap.size, 1, none⟩ = some (.int .u64 (loB F)))
    (simp [go_sem, *])
    (first
      | (go_at_call 21; rw [X1.out]; refine (kl _).mono ?_; rintro e w5 ⟨rfl, hb5⟩; (try (with_reducible replace hb5 := undrew hb5)); obtain ⟨hc5, hf5⟩ := bcell hb5; have hs5 := hb5.size; (try simp at hs5); (try have y5_0_0 : w.heap.size < w5.heap.size := (by omega)); (try have y5_1_0 : w.heap.size + 1 < w5.heap.size := (by omega)); (try have y5_2_0 : g < w5.heap.size := (by omega)); (try have y5_3_0 : w3.heap.size < w5.heap.size := (by omega)))
      | (go_at_call 20; refine (ka _).mono ?_; rintro e w6 ⟨rfl, hb6⟩; (try (with_reducible replace hb6 := undrew hb6)); obtain ⟨hc6, hf6⟩ := bcell hb6; have hs6 := hb6.size; (try simp at hs6); (try have y6_0_0 : w.heap.size < w6.heap.size := (by omega)); (try have y6_1_0 : w.heap.size + 1 < w6.heap.size := (by omega)); (try have y6_2_0 : g < w6.heap.size := (by omega)); (try have y6_3_0 : w3.heap.size < w6.heap.size := (by omega))))
  all_goals go_wp2
  all_goals simp [bodyPost, results, Tryd.results6, go_sem, *]
  all_goals (repeat (first | with_reducible assumption | with_reducible exact Below.refl _ _ | with_reducible apply Below.drew | with_reducible apply below_drewN | with_reducible refine Below.alloc ?_ (by first | omega | (simp <;> omega)) _ | with_reducible refine Below.setCell ?_ (by first | omega | (simp <;> omega)) _ | with_reducible refine Below.trans ?_ (Below.mono (by assumption) (by first | omega | (simp <;> omega)))))
set_option maxHeartbeats 8000000 in
theorem unp_sub (f : Int) (l : 0 ≤ f) (u : f ≤ 255) (b F U : BitVec 128) (N : Bool) (E p M j : Int) (HC : Hid (cOf f b = 1 ∧ fNeg f b = N)) (HS : Hid (fNeg f b = N ∧ fExp f b = E ∧ fFrac f b = F)) (HP : Hid (fPr f = p)) (HM : Hid (fEm f = M)) (hp : 0 ≤ p) (hp' : p ≤ 113) (hM : 0 ≤ M) (hM' : M ≤ 16383)
    (HR : Hid (bRaise F = U ∧ bRby F = j)) (hj : 0 ≤ j) (hj' : j ≤ 128) (w : World) (hT : Tab w) :
    Calls Tryd.prog 6 #[.int .u8 f, Bv b] w fun e w' => e = .returned (Nv N 1 (1 - M + 128 - p - j) U) ∧ Gr w w' := by
  have X1 := IntWalk.i64_in (1 - M + 128) (by omega)
  have X2 := IntWalk.i64_in (1 - M + 128 - p) (by omega)
  have X3 := IntWalk.i64_in (1 - M + 128 - p - j) (by omega)
  have kr := craise_as F U j HR
  simp only [Bv, Nv] at kr ⊢
  have o2_0 : w.heap.size < w.heap.size + 1 + 1 := by omega
  go_enter Tryd.func6, Tryd.ntmps6
  go_wp2_with (first
    | (go_at_call 16; refine (clof_as f l u b _ _ HC _ (hT.below (by (repeat (first | exact Below.refl _ _ | assumption | apply Below.drew | apply below_drewN | refine Below.alloc ?_ (by first | omega | (simp <;> omega)) _ | refine Below.setCell ?_ (by first | omega | (simp <;> omega)) _ | refine Below.trans ?_ (Below.mono (by assumption) (by first | omega | (simp <;> omega)))))))).mono ?_; rintro e w1 ⟨rfl, hb1⟩; (try (with_reducible replace hb1 := undrew hb1)); obtain ⟨hc1, hf1⟩ := bcell hb1; have hs1 := hb1.size; (try simp at hs1); (try have y1_0_0 : w.heap.size < w1.heap.size := (by omega)); (try have y1_1_0 : w.heap.size + 1 < w1.heap.size := (by omega)))
    | (go_at_call 17; refine (fof_as f l u N 1 0 0 0 _ _ HP HM _ (hT.below (by (repeat (first | exact Below.refl _ _ | assumption | apply Below.drew | apply below_drewN | refine Below.alloc ?_ (by first | omega | (simp <;> omega)) _ | refine Below.setCell ?_ (by first | omega | (simp <;> omega)) _ | refine Below.trans ?_ (Below.mono (by assumption) (by first | omega | (simp <;> omega)))))))).mono ?_; rintro e w2 ⟨g, rfl, g1, g2, ⟨d0, d1, d2, d3, d4, d5, d6⟩, ⟨e4, e5, e6⟩, hb2⟩; (try (with_reducible replace hb2 := undrew hb2)); obtain ⟨hc2, hf2⟩ := bcell hb2; have hs2 := hb2.size; (try simp at hs2); (try have n1 : ¬ g = w.heap.size := (by omega)); (try have n2 : ¬ g = w.heap.size + 1 := (by omega)); (try have n3 : ¬ w.heap.size + 1 = g := (by omega)); (try have m1 : w.heap.size < g := (by omega)); (try have m2 : w.heap.size + 1 < g := (by omega)); have y2_0 : w.heap.size < w2.heap.size := (by omega); have y2_1 : w.heap.size + 1 < w2.heap.size := (by omega))
    | (go_at_call 18; refine (split_as f l u b _ _ _ HS _ (hT.below (by (repeat (first | exact Below.refl _ _ | assumption | apply Below.drew | apply below_drewN | refine Below.alloc ?_ (by first | omega | (simp <;> omega)) _ | refine Below.setCell ?_ (by first | omega | (simp <;> omega)) _ | refine Below.trans ?_ (Below.mono (by assumption) (by first | omega | (simp <;> omega)))))))).mono ?_; rintro e w3 ⟨rfl, hb3⟩; (try (with_reducible replace hb3 := undrew hb3)); obtain ⟨hc3, hf3⟩ := bcell hb3; have hs3 := hb3.size; (try simp at hs3); (try have y3_0_0 : w.heap.size < w3.heap.size := (by omega)); (try have y3_0_1 : w.heap.size < w3.heap.size + 1 := (by omega)); (try have y3_1_0 : w.heap.size + 1 < w3.heap.size := (by omega)); (try have y3_1_1 : w.heap.size + 1 < w3.heap.size + 1 := (by omega)); (try have y3_2_0 : g < w3.heap.size := (by omega)); (try have y3_2_1 : g < w3.heap.size + 1 := (by omega)))
    | (go_at_call 22; refine (kr _).mono ?_; rintro e w4 ⟨rfl, hb4⟩; (try (with_reducible replace hb4 := undrew hb4)); obtain ⟨hc4, hf4⟩ := bcell hb4; have hs4 := hb4.size; (try simp at hs4); (try have y4_0_0 : w.heap.size < w4.heap.size := (by omega)); (try have y4_0_1 : w.heap.size < w4.heap.size + 1 := (by omega)); (try have y4_1_0 : w.heap.size + 1 < w4.heap.size := (by omega)); (try have y4_1_1 : w.heap.size + 1 < w4.heap.size + 1 := (by omega)); (try have y4_2_0 : g < w4.heap.size := (by omega)); (try have y4_2_1 : g < w4.heap.size + 1 := (by omega)); (try have y4_3_0 : w3.heap.size < w4.heap.size := (by omega)); (try have y4_3_1 : w3.heap.size < w4.heap.size + 1 := (by omega))))
  go_region_held3 (fun z => z.cell? ⟨g, 0, none⟩ = some (.int .i64 p) ∧ z.cell? ⟨g, 1, none⟩ = some (.int .i64 M) ∧ z.cell? ⟨w4.heap.size, 0, none⟩ = some (.int .u64 (hiB U)) ∧ z.cell? ⟨w4.heap.size, 1, none⟩ = some (.int .u64 (loB U)))
    (simp [go_sem, *])
    (first
      | (go_at_call 23; refine (sleast_any p M hM hM' _).mono ?_; rintro e w5 ⟨rfl, hb5⟩; (try (with_reducible replace hb5 := undrew hb5)); obtain ⟨hc5, hf5⟩ := bcell hb5; have hs5 := hb5.size; (try simp at hs5); (try have y5_0_0 : w.heap.size < w5.heap.size := (by omega)); (try have y5_1_0 : w.heap.size + 1 < w5.heap.size := (by omega)); (try have y5_2_0 : g < w5.heap.size := (by omega)); (try have y5_3_0 : w3.heap.size < w5.heap.size := (by omega)); (try have y5_4_0 : w4.heap.size < w5.heap.size := (by omega))))
  all_goals go_wp2
  all_goals simp [bodyPost, results, Tryd.results6, go_sem, *]
  all_goals (repeat (first | with_reducible assumption | with_reducible exact Below.refl _ _ | with_reducible apply Below.drew | with_reducible apply below_drewN | with_reducible refine Below.alloc ?_ (by first | omega | (simp <;> omega)) _ | with_reducible refine Below.setCell ?_ (by first | omega | (simp <;> omega)) _ | with_reducible refine Below.trans ?_ (Below.mono (by assumption) (by first | omega | (simp <;> omega)))))
theorem unpack_as (f : Int) (l : 0 ≤ f) (u : f ≤ 255) (b z : BitVec 128) (N : Bool) (c e : Int) (H : Hid (fNeg f b = N ∧ cOf f b = c ∧ uE f b = e ∧ uS f b = z)) (w : World) (hT : Tab w) :
    Calls Tryd.prog 6 #[.int .u8 f, Bv b] w fun x w' => x = .returned (Nv N c e z) ∧ Gr w w' := by
  obtain ⟨rfl, rfl, rfl, rfl⟩ := H.out
  have hx := exp_lt f b l
  have hm := em_le f l
  have hp : 0 ≤ fPr f ∧ fPr f ≤ 113 := by
    by_cases h : f < 4
    · have := f_bounds f l h; omega
    · have := (f_none f h).2.1; omega
  by_cases c2 : cOf f b = 2
  · have h := unp_normal f l u b _ _ _ _ _ _ _ (Lib.hid ⟨c2, rfl⟩) (Lib.hid ⟨rfl, rfl, rfl⟩) (Lib.hid rfl) (Lib.hid rfl) _ (Lib.hid rfl) hp.1 hp.2 hm.1 hm.2 hx.1 hx.2 (Lib.hid rfl) (Lib.hid rfl) w hT
    have e1 : uE f b = fExp f b - fEm f := by unfold uE; rw [if_pos c2]
    have e2 : uS f b = bAdd (bShl (fFrac f b) (128 - fPr f)) (mkB 9223372036854775808 0) := by unfold uS; rw [if_pos c2]
    rw [c2, e1, e2]
    exact h
  · by_cases c1 : cOf f b = 1
    · have hj : 0 ≤ bRby (fFrac f b) ∧ bRby (fFrac f b) ≤ 128 := by
        have := bLen_bounds (fFrac f b)
        unfold bRby; split <;> omega
      have h := unp_sub f l u b _ _ _ _ _ _ _ (Lib.hid ⟨c1, rfl⟩) (Lib.hid ⟨rfl, rfl, rfl⟩) (Lib.hid rfl) (Lib.hid rfl) hp.1 hp.2 hm.1 hm.2 (Lib.hid ⟨rfl, rfl⟩) hj.1 hj.2 w hT
      have e1 : uE f b = 1 - fEm f + 128 - fPr f - bRby (fFrac f b) := by unfold uE; rw [if_neg c2, if_pos c1]
      have e2 : uS f b = bRaise (fFrac f b) := by unfold uS; rw [if_neg c2, if_pos c1]
      rw [c1, e1, e2]
      exact h
    · obtain ⟨e1, e2⟩ := u_other f b c2 c1
      have h := unp_other f l u b _ _ _ _ _ _ (Lib.hid ⟨rfl, rfl⟩) (Lib.hid ⟨rfl, rfl, rfl⟩) (Lib.hid rfl) (Lib.hid rfl) (by simpa using c1) (by simpa using c2) w hT
      rw [e1, e2]
      exact h
end Hb
end Go.Proofs.YtbkkidgeanogjaaDoor
