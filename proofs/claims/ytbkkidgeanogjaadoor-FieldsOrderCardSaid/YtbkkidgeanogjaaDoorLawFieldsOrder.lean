/-
  THE WALK of the law FieldsOrder. Conditions: the table of the formats holds its numbers.
-/
import Derived.Test.YtbkkidgeanogjaaDoorPackAs
import Derived.Test.YtbkkidgeanogjaaDoorFieldsLaws
import Derived.Test.YtbkkidgeanogjaaDoorPast
namespace Go.Proofs.YtbkkidgeanogjaaDoor
open Go.RowKit
namespace Hb
set_option maxRecDepth 20000
/-- The five cells of a number. -/
def Num5 (w : World) (g : Nat) (n : Bool) (c e h l : Int) : Prop :=
  w.cell? ⟨g, 0, none⟩ = some (.bool n) ∧ w.cell? ⟨g, 1, none⟩ = some (.int .u8 c) ∧ w.cell? ⟨g, 2, none⟩ = some (.int .i64 e) ∧ w.cell? ⟨g, 3, none⟩ = some (.int .u64 h) ∧ w.cell? ⟨g, 4, none⟩ = some (.int .u64 l)
/-- How the law's comparisons come out: it stops early, or the two lie in one of five ways. -/
def OrdWay (f : Int) (a b x y za zb : BitVec 128) (Na Nb : Bool) (ca cb ea eb k j : Int) (Fa Fb : Bool) : Prop :=
  (Fa = false) ∨ (Fa = true ∧ Fb = false) ∨ (Fa = true ∧ Fb = true ∧ Na = true) ∨ (Fa = true ∧ Fb = true ∧ Na = false ∧ Nb = true) ∨
  (Fa = true ∧ Fb = true ∧ Na = false ∧ Nb = false ∧ ca = 0) ∨ (Fa = true ∧ Fb = true ∧ Na = false ∧ Nb = false ∧ (ca == 0) = false ∧ cb = 0) ∨
  (Fa = true ∧ Fb = true ∧ Na = false ∧ Nb = false ∧ (ca == 0) = false ∧ (cb == 0) = false ∧ Hid (fCut f a = za) ∧ Hid (fCut f b = zb) ∧ Hid (bCmp za zb = k) ∧ Hid (bCmp x y = j) ∧
    ((k = -1 ∧ ea < eb) ∨ (k = -1 ∧ ea = eb ∧ j = -1 ∧ ((hiB x == hiB y) = false ∨ ((hiB x == hiB y) = true ∧ (loB x == loB y) = false))) ∨ (k = 0 ∧ ea = eb ∧ j = 0 ∧ x = y) ∨
     (k = 1 ∧ eb < ea) ∨ (k = 1 ∧ ea = eb ∧ j = 1 ∧ ((hiB x == hiB y) = false ∨ ((hiB x == hiB y) = true ∧ (loB x == loB y) = false)))))
set_option maxHeartbeats 40000000 in
theorem fo_core (f : Int) (l : 0 ≤ f) (u : f ≤ 255) (a b x y za zb : BitVec 128) (Na Nb Fa Fb : Bool) (ca cb ea eb k j : Int) (H1 : Hid (fNeg f a = Na ∧ cOf f a = ca ∧ uE f a = ea ∧ uS f a = x)) (H2 : Hid (fNeg f b = Nb ∧ cOf f b = cb ∧ uE f b = eb ∧ uS f b = y))
    (HFa : Hid (cFin f a = Fa)) (HFb : Hid (cFin f b = Fb)) (hO : Hid (OrdWay f a b x y za zb Na Nb ca cb ea eb k j Fa Fb)) (w : World) (hT : Tab w) :
    Calls Tryd.prog 3 #[.int .u8 f, Bv a, Bv b] w fun e w' => e = .returned (.bool true) ∧ Gr w w' := by
  have k1 := fun w hT => unpack_as f l u a _ _ _ _ H1 w hT
  have k2 := fun w hT => unpack_as f l u b _ _ _ _ H2 w hT
  have k3 := fun w hT => fin_as f l u a _ HFa w hT
  have k4 := fun w hT => fin_as f l u b _ HFb w hT
  simp only [Nv, Bv] at k1 k2 k3 k4 ⊢
  have o2_0 : w.heap.size < w.heap.size + 1 + 1 := by omega
  go_enter Tryd.func3, Tryd.ntmps3
  go_upto_region 1 with fail
  go_cut [7, 8] (fun s7 s8 wx => ∃ g h : Nat, s7 = .pointer (some ⟨g, 0, none⟩) ∧ s8 = .pointer (some ⟨h, 0, none⟩) ∧ g < wx.heap.size ∧ h < wx.heap.size ∧ Num5 wx g Na ca ea (hiB x) (loB x) ∧ Num5 wx h Nb cb eb (hiB y) (loB y) ∧ wx.cell? ⟨w.heap.size, 0, none⟩ = some (.int .u64 (hiB a)) ∧ wx.cell? ⟨w.heap.size, 1, none⟩ = some (.int .u64 (loB a)) ∧ wx.cell? ⟨w.heap.size + 1, 0, none⟩ = some (.int .u64 (hiB b)) ∧ wx.cell? ⟨w.heap.size + 1, 1, none⟩ = some (.int .u64 (loB b)) ∧ w.heap.size + 1 < wx.heap.size ∧ Below w.heap.size w wx)
  case first =>

    go_region_held3 (fun z => z.cell? ⟨w.heap.size, 0, none⟩ = some (.int .u64 (hiB a)) ∧ z.cell? ⟨w.heap.size, 1, none⟩ = some (.int .u64 (loB a)) ∧ z.cell? ⟨w.heap.size + 1, 0, none⟩ = some (.int .u64 (hiB b)) ∧ z.cell? ⟨w.heap.size + 1, 1, none⟩ = some (.int .u64 (loB b)))
      (simp [go_sem, *])
      (first
        | (go_at_call_of 6 (hiB a); refine (k1 _ (hT.below (by (repeat (first | with_reducible assumption | with_reducible exact Below.refl _ _ | with_reducible apply Below.drew | with_reducible apply below_drewN | with_reducible refine Below.alloc ?_ (by first | omega | (simp <;> omega)) _ | with_reducible refine Below.setCell ?_ (by first | omega | (simp <;> omega)) _ | with_reducible refine Below.trans ?_ (Below.mono (by assumption) (by first | omega | (simp <;> omega)))))))).mono ?_; rintro e w1 ⟨rfl, hb1⟩; (try (with_reducible replace hb1 := undrew hb1)); obtain ⟨hc1, hf1⟩ := bcell hb1; have hs1 := hb1.size; (try simp at hs1); (try have y1_0_0 : w.heap.size < w1.heap.size := (by omega)); (try have y1_0_1 : w.heap.size < w1.heap.size + 1 := (by omega)); (try have y1_0_2 : w.heap.size < w1.heap.size + 2 := (by omega)); (try have y1_1_0 : w.heap.size + 1 < w1.heap.size := (by omega)); (try have y1_1_1 : w.heap.size + 1 < w1.heap.size + 1 := (by omega)); (try have y1_1_2 : w.heap.size + 1 < w1.heap.size + 2 := (by omega)); (try have y1_2_0 : w.heap.size + 1 + 1 < w1.heap.size := (by omega)); (try have y1_2_1 : w.heap.size + 1 + 1 < w1.heap.size + 1 := (by omega)); (try have y1_2_2 : w.heap.size + 1 + 1 < w1.heap.size + 2 := (by omega)); (try have y1_3_0 : w.heap.size + 1 + 1 + 1 < w1.heap.size := (by omega)); (try have y1_3_1 : w.heap.size + 1 + 1 + 1 < w1.heap.size + 1 := (by omega)); (try have y1_3_2 : w.heap.size + 1 + 1 + 1 < w1.heap.size + 2 := (by omega)))
        | (go_at_call_of 6 (hiB b); refine (k2 _ (hT.below (by (repeat (first | with_reducible assumption | with_reducible exact Below.refl _ _ | with_reducible apply Below.drew | with_reducible apply below_drewN | with_reducible refine Below.alloc ?_ (by first | omega | (simp <;> omega)) _ | with_reducible refine Below.setCell ?_ (by first | omega | (simp <;> omega)) _ | with_reducible refine Below.trans ?_ (Below.mono (by assumption) (by first | omega | (simp <;> omega)))))))).mono ?_; rintro e w2 ⟨rfl, hb2⟩; (try (with_reducible replace hb2 := undrew hb2)); obtain ⟨hc2, hf2⟩ := bcell hb2; have hs2 := hb2.size; (try simp at hs2); (try have y2_0_0 : w.heap.size < w2.heap.size := (by omega)); (try have y2_0_1 : w.heap.size < w2.heap.size + 1 := (by omega)); (try have y2_0_2 : w.heap.size < w2.heap.size + 2 := (by omega)); (try have y2_1_0 : w.heap.size + 1 < w2.heap.size := (by omega)); (try have y2_1_1 : w.heap.size + 1 < w2.heap.size + 1 := (by omega)); (try have y2_1_2 : w.heap.size + 1 < w2.heap.size + 2 := (by omega)); (try have y2_2_0 : w.heap.size + 1 + 1 < w2.heap.size := (by omega)); (try have y2_2_1 : w.heap.size + 1 + 1 < w2.heap.size + 1 := (by omega)); (try have y2_2_2 : w.heap.size + 1 + 1 < w2.heap.size + 2 := (by omega)); (try have y2_3_0 : w.heap.size + 1 + 1 + 1 < w2.heap.size := (by omega)); (try have y2_3_1 : w.heap.size + 1 + 1 + 1 < w2.heap.size + 1 := (by omega)); (try have y2_3_2 : w.heap.size + 1 + 1 + 1 < w2.heap.size + 2 := (by omega)); (try have y2_4_0 : w1.heap.size < w2.heap.size := (by omega)); (try have y2_4_1 : w1.heap.size < w2.heap.size + 1 := (by omega)); (try have y2_4_2 : w1.heap.size < w2.heap.size + 2 := (by omega)); (try have y2_5_0 : w1.heap.size + 1 < w2.heap.size := (by omega)); (try have y2_5_1 : w1.heap.size + 1 < w2.heap.size + 1 := (by omega)); (try have y2_5_2 : w1.heap.size + 1 < w2.heap.size + 2 := (by omega))))
    all_goals (go_wp2_with fail; go_meet; refine ⟨_, _, rfl, rfl, ?_, ?_, ⟨?_, ?_, ?_, ?_, ?_⟩, ⟨?_, ?_, ?_, ?_, ?_⟩, ?_, ?_, ?_, ?_, ?_, ?_⟩)
    all_goals first | (simp (maxDischargeDepth := 14) [go_sem, World.cell?_alloc_past, *]; done) | omega | (simp; omega) | (repeat (first | with_reducible assumption | with_reducible exact Below.refl _ _ | with_reducible apply Below.drew | with_reducible apply below_drewN | with_reducible refine Below.alloc ?_ (by first | omega | (simp <;> omega)) _ | with_reducible refine Below.setCell ?_ (by first | omega | (simp <;> omega)) _ | with_reducible refine Below.trans ?_ (Below.mono (by assumption) (by first | omega | (simp <;> omega)))))
  case rest =>
  obtain ⟨g, h, rfl, rfl, hg, hh, ⟨a0, a1, a2, a3, a4⟩, ⟨b0, b1, b2, b3, b4⟩, p1, p2, p3, p4, hz, hbx⟩ := hcut
  have hz0 : w.heap.size < wc.heap.size := by omega
  have o2_0 : w.heap.size < w.heap.size + 1 + 1 := by omega

  unfold OrdWay at hO
  rcases hO.out with rfl | ⟨rfl, rfl⟩ | ⟨rfl, rfl, rfl⟩ | ⟨rfl, rfl, rfl, rfl⟩ | ⟨rfl, rfl, rfl, rfl, rfl⟩ | ⟨rfl, rfl, rfl, rfl, h0, rfl⟩ | ⟨rfl, rfl, rfl, rfl, h0, h1, HA, HB, HK, HJ, hw⟩
  iterate 6
    · clear hO
      go_wp2_with (first
        | (go_at_call_of 7 (hiB a); refine (k3 _ (hT.below (by (repeat (first | with_reducible assumption | with_reducible exact Below.refl _ _ | with_reducible apply Below.drew | with_reducible apply below_drewN | with_reducible refine Below.alloc ?_ (by first | omega | (simp <;> omega)) _ | with_reducible refine Below.setCell ?_ (by first | omega | (simp <;> omega)) _ | with_reducible refine Below.trans ?_ (Below.mono (by assumption) (by first | omega | (simp <;> omega)))))))).mono ?_; rintro e w4 ⟨rfl, hb4⟩; (try (with_reducible replace hb4 := undrew hb4)); obtain ⟨hc4, hf4⟩ := bcell hb4; have hs4 := hb4.size; (try simp at hs4); (try have y4_0_0 : w.heap.size < w4.heap.size := (by omega)); (try have y4_1_0 : w.heap.size + 1 < w4.heap.size := (by omega)); (try have y4_2_0 : g < w4.heap.size := (by omega)); (try have y4_3_0 : h < w4.heap.size := (by omega)))
        | (go_at_call_of 7 (hiB b); refine (k4 _ (hT.below (by (repeat (first | with_reducible assumption | with_reducible exact Below.refl _ _ | with_reducible apply Below.drew | with_reducible apply below_drewN | with_reducible refine Below.alloc ?_ (by first | omega | (simp <;> omega)) _ | with_reducible refine Below.setCell ?_ (by first | omega | (simp <;> omega)) _ | with_reducible refine Below.trans ?_ (Below.mono (by assumption) (by first | omega | (simp <;> omega)))))))).mono ?_; rintro e w5 ⟨rfl, hb5⟩; (try (with_reducible replace hb5 := undrew hb5)); obtain ⟨hc5, hf5⟩ := bcell hb5; have hs5 := hb5.size; (try simp at hs5); (try have y5_0_0 : w.heap.size < w5.heap.size := (by omega)); (try have y5_1_0 : w.heap.size + 1 < w5.heap.size := (by omega)); (try have y5_2_0 : g < w5.heap.size := (by omega)); (try have y5_3_0 : h < w5.heap.size := (by omega)))
        | (go_at_call 8; refine (goes9_any _ (hT.below (by (repeat (first | with_reducible assumption | with_reducible exact Below.refl _ _ | with_reducible apply Below.drew | with_reducible apply below_drewN | with_reducible refine Below.alloc ?_ (by first | omega | (simp <;> omega)) _ | with_reducible refine Below.setCell ?_ (by first | omega | (simp <;> omega)) _ | with_reducible refine Below.trans ?_ (Below.mono (by assumption) (by first | omega | (simp <;> omega)))))))).mono ?_; rintro e w6 ⟨rfl, hb6⟩; (try (with_reducible replace hb6 := undrew hb6)); obtain ⟨hc6, hf6⟩ := bcell hb6; have hs6 := hb6.size; (try simp at hs6); (try have y6_0_0 : w.heap.size < w6.heap.size := (by omega)); (try have y6_1_0 : w.heap.size + 1 < w6.heap.size := (by omega)); (try have y6_2_0 : g < w6.heap.size := (by omega)); (try have y6_3_0 : h < w6.heap.size := (by omega))))
      go_ret
      exact ⟨rfl, by (repeat (first | with_reducible assumption | with_reducible exact Below.refl _ _ | with_reducible apply Below.drew | with_reducible apply below_drewN | with_reducible refine Below.alloc ?_ (by first | omega | (simp <;> omega)) _ | with_reducible refine Below.setCell ?_ (by first | omega | (simp <;> omega)) _ | with_reducible refine Below.trans ?_ (Below.mono (by assumption) (by first | omega | (simp <;> omega)))))⟩
  · clear hO
    have k5 := fun w hT => cut_as f l u a za HA w hT
    have k6 := fun w hT => cut_as f l u b zb HB w hT
    have k7 := bcmp_as za zb k HK
    have k8 := bcmp_as x y j HJ
    simp only [Bv] at k5 k6 k7 k8
    go_wp2_with (first
      | (go_at_call_of 7 (hiB a); refine (k3 _ (hT.below (by (repeat (first | with_reducible assumption | with_reducible exact Below.refl _ _ | with_reducible apply Below.drew | with_reducible apply below_drewN | with_reducible refine Below.alloc ?_ (by first | omega | (simp <;> omega)) _ | with_reducible refine Below.setCell ?_ (by first | omega | (simp <;> omega)) _ | with_reducible refine Below.trans ?_ (Below.mono (by assumption) (by first | omega | (simp <;> omega)))))))).mono ?_; rintro e w4 ⟨rfl, hb4⟩; (try (with_reducible replace hb4 := undrew hb4)); obtain ⟨hc4, hf4⟩ := bcell hb4; have hs4 := hb4.size; (try simp at hs4); (try have y4_0_0 : w.heap.size < w4.heap.size := (by omega)); (try have y4_1_0 : w.heap.size + 1 < w4.heap.size := (by omega)); (try have y4_2_0 : g < w4.heap.size := (by omega)); (try have y4_3_0 : h < w4.heap.size := (by omega)))
      | (go_at_call_of 7 (hiB b); refine (k4 _ (hT.below (by (repeat (first | with_reducible assumption | with_reducible exact Below.refl _ _ | with_reducible apply Below.drew | with_reducible apply below_drewN | with_reducible refine Below.alloc ?_ (by first | omega | (simp <;> omega)) _ | with_reducible refine Below.setCell ?_ (by first | omega | (simp <;> omega)) _ | with_reducible refine Below.trans ?_ (Below.mono (by assumption) (by first | omega | (simp <;> omega)))))))).mono ?_; rintro e w5 ⟨rfl, hb5⟩; (try (with_reducible replace hb5 := undrew hb5)); obtain ⟨hc5, hf5⟩ := bcell hb5; have hs5 := hb5.size; (try simp at hs5); (try have y5_0_0 : w.heap.size < w5.heap.size := (by omega)); (try have y5_1_0 : w.heap.size + 1 < w5.heap.size := (by omega)); (try have y5_2_0 : g < w5.heap.size := (by omega)); (try have y5_3_0 : h < w5.heap.size := (by omega))))
    refine wp_region_past (fun z => Tab z ∧ z.cell? ⟨w.heap.size, 0, none⟩ = some (.int .u64 (hiB a)) ∧ z.cell? ⟨w.heap.size, 1, none⟩ = some (.int .u64 (loB a)) ∧ z.cell? ⟨w.heap.size + 1, 0, none⟩ = some (.int .u64 (hiB b)) ∧ z.cell? ⟨w.heap.size + 1, 1, none⟩ = some (.int .u64 (loB b))) (by kernel_rfl) (by kernel_rfl) (fun wx hbx => ?_) (fun T hne tw hh hx => ?_)
    · obtain ⟨hcx, _⟩ := bcell hbx
      have hbw : Below w.heap.size w wx := by (repeat (first | with_reducible assumption | with_reducible exact Below.refl _ _ | with_reducible apply Below.drew | with_reducible apply below_drewN | with_reducible refine Below.alloc ?_ (by first | omega | (simp <;> omega)) _ | with_reducible refine Below.setCell ?_ (by first | omega | (simp <;> omega)) _ | with_reducible refine Below.trans ?_ (Below.mono (by assumption) (by first | omega | (simp <;> omega)))))
      refine ⟨hT.below hbw, ?_, ?_, ?_, ?_⟩ <;> simp [go_sem, *]
    have t1 := fun p => (hh p).2.1
    have t2 := fun p => (hh p).2.2.1
    have t3 := fun p => (hh p).2.2.2.1
    have t4 := fun p => (hh p).2.2.2.2
    repeat (go_big_quiet_step (first
      | (go_at_call_of 10 (hiB a); exact callsPast hx (k5 _ (hh _).1))
      | (go_at_call_of 10 (hiB b); exact callsPast hx (k6 _ (hh _).1))
      | (go_at_call 9; exact callsPast hx (k7 _))))
    refine wpQuiet_nil ?_
    intro w6 hb6
    (try (with_reducible replace hb6 := undrew hb6)); obtain ⟨hc6, hf6⟩ := bcell hb6; have hs6 := hb6.size; (try simp at hs6); (try have y6_0 : w.heap.size < w6.heap.size := (by omega)); (try have y6_1 : w.heap.size + 1 < w6.heap.size := (by omega)); (try have y6_2 : g < w6.heap.size := (by omega)); (try have y6_3 : h < w6.heap.size := (by omega))
    clear t1 t2 t3 t4 hh hx
    rcases hw with ⟨rfl, h2⟩ | ⟨rfl, rfl, rfl, h2⟩ | ⟨rfl, rfl, rfl, rfl⟩ | ⟨rfl, h2⟩ | ⟨rfl, rfl, rfl, h2⟩
    · go_wp2_with (first
        | (go_at_call 9; refine (k8 _).mono ?_; rintro e w7 ⟨rfl, hb7⟩; (try (with_reducible replace hb7 := undrew hb7)); obtain ⟨hc7, hf7⟩ := bcell hb7; have hs7 := hb7.size; (try simp at hs7); (try have y7_0_0 : w.heap.size < w7.heap.size := (by omega)); (try have y7_1_0 : w.heap.size + 1 < w7.heap.size := (by omega)); (try have y7_2_0 : g < w7.heap.size := (by omega)); (try have y7_3_0 : h < w7.heap.size := (by omega)))
        | (go_at_call 8; refine (goes9_any _ (hT.below (by (repeat (first | with_reducible assumption | with_reducible exact Below.refl _ _ | with_reducible apply Below.drew | with_reducible apply below_drewN | with_reducible refine Below.alloc ?_ (by first | omega | (simp <;> omega)) _ | with_reducible refine Below.setCell ?_ (by first | omega | (simp <;> omega)) _ | with_reducible refine Below.trans ?_ (Below.mono (by assumption) (by first | omega | (simp <;> omega)))))))).mono ?_; rintro e w8 ⟨rfl, hb8⟩; (try (with_reducible replace hb8 := undrew hb8)); obtain ⟨hc8, hf8⟩ := bcell hb8; have hs8 := hb8.size; (try simp at hs8); (try have y8_0_0 : w.heap.size < w8.heap.size := (by omega)); (try have y8_1_0 : w.heap.size + 1 < w8.heap.size := (by omega)); (try have y8_2_0 : g < w8.heap.size := (by omega)); (try have y8_3_0 : h < w8.heap.size := (by omega))))
      all_goals go_ret
      all_goals exact ⟨rfl, by (repeat (first | with_reducible assumption | with_reducible exact Below.refl _ _ | with_reducible apply Below.drew | with_reducible apply below_drewN | with_reducible refine Below.alloc ?_ (by first | omega | (simp <;> omega)) _ | with_reducible refine Below.setCell ?_ (by first | omega | (simp <;> omega)) _ | with_reducible refine Below.trans ?_ (Below.mono (by assumption) (by first | omega | (simp <;> omega)))))⟩
    · rcases h2 with h2 | ⟨h2, h3⟩
      all_goals
        go_wp2_with (first
          | (go_at_call 9; refine (k8 _).mono ?_; rintro e w7 ⟨rfl, hb7⟩; (try (with_reducible replace hb7 := undrew hb7)); obtain ⟨hc7, hf7⟩ := bcell hb7; have hs7 := hb7.size; (try simp at hs7); (try have y7_0_0 : w.heap.size < w7.heap.size := (by omega)); (try have y7_1_0 : w.heap.size + 1 < w7.heap.size := (by omega)); (try have y7_2_0 : g < w7.heap.size := (by omega)); (try have y7_3_0 : h < w7.heap.size := (by omega)))
          | (go_at_call 8; refine (goes9_any _ (hT.below (by (repeat (first | with_reducible assumption | with_reducible exact Below.refl _ _ | with_reducible apply Below.drew | with_reducible apply below_drewN | with_reducible refine Below.alloc ?_ (by first | omega | (simp <;> omega)) _ | with_reducible refine Below.setCell ?_ (by first | omega | (simp <;> omega)) _ | with_reducible refine Below.trans ?_ (Below.mono (by assumption) (by first | omega | (simp <;> omega)))))))).mono ?_; rintro e w8 ⟨rfl, hb8⟩; (try (with_reducible replace hb8 := undrew hb8)); obtain ⟨hc8, hf8⟩ := bcell hb8; have hs8 := hb8.size; (try simp at hs8); (try have y8_0_0 : w.heap.size < w8.heap.size := (by omega)); (try have y8_1_0 : w.heap.size + 1 < w8.heap.size := (by omega)); (try have y8_2_0 : g < w8.heap.size := (by omega)); (try have y8_3_0 : h < w8.heap.size := (by omega))))
        go_ret
        exact ⟨rfl, by (repeat (first | with_reducible assumption | with_reducible exact Below.refl _ _ | with_reducible apply Below.drew | with_reducible apply below_drewN | with_reducible refine Below.alloc ?_ (by first | omega | (simp <;> omega)) _ | with_reducible refine Below.setCell ?_ (by first | omega | (simp <;> omega)) _ | with_reducible refine Below.trans ?_ (Below.mono (by assumption) (by first | omega | (simp <;> omega)))))⟩
    · go_wp2_with (first
        | (go_at_call 9; refine (k8 _).mono ?_; rintro e w7 ⟨rfl, hb7⟩; (try (with_reducible replace hb7 := undrew hb7)); obtain ⟨hc7, hf7⟩ := bcell hb7; have hs7 := hb7.size; (try simp at hs7); (try have y7_0_0 : w.heap.size < w7.heap.size := (by omega)); (try have y7_1_0 : w.heap.size + 1 < w7.heap.size := (by omega)); (try have y7_2_0 : g < w7.heap.size := (by omega)); (try have y7_3_0 : h < w7.heap.size := (by omega)))
        | (go_at_call 8; refine (goes9_any _ (hT.below (by (repeat (first | with_reducible assumption | with_reducible exact Below.refl _ _ | with_reducible apply Below.drew | with_reducible apply below_drewN | with_reducible refine Below.alloc ?_ (by first | omega | (simp <;> omega)) _ | with_reducible refine Below.setCell ?_ (by first | omega | (simp <;> omega)) _ | with_reducible refine Below.trans ?_ (Below.mono (by assumption) (by first | omega | (simp <;> omega)))))))).mono ?_; rintro e w8 ⟨rfl, hb8⟩; (try (with_reducible replace hb8 := undrew hb8)); obtain ⟨hc8, hf8⟩ := bcell hb8; have hs8 := hb8.size; (try simp at hs8); (try have y8_0_0 : w.heap.size < w8.heap.size := (by omega)); (try have y8_1_0 : w.heap.size + 1 < w8.heap.size := (by omega)); (try have y8_2_0 : g < w8.heap.size := (by omega)); (try have y8_3_0 : h < w8.heap.size := (by omega))))
      go_ret
      exact ⟨rfl, by (repeat (first | with_reducible assumption | with_reducible exact Below.refl _ _ | with_reducible apply Below.drew | with_reducible apply below_drewN | with_reducible refine Below.alloc ?_ (by first | omega | (simp <;> omega)) _ | with_reducible refine Below.setCell ?_ (by first | omega | (simp <;> omega)) _ | with_reducible refine Below.trans ?_ (Below.mono (by assumption) (by first | omega | (simp <;> omega)))))⟩
    · have h3 : decide (ea < eb) = false := decide_eq_false (by omega)
      have h4 : (ea == eb) = false := by simp; omega
      go_wp2_with (first
        | (go_at_call 9; refine (k8 _).mono ?_; rintro e w7 ⟨rfl, hb7⟩; (try (with_reducible replace hb7 := undrew hb7)); obtain ⟨hc7, hf7⟩ := bcell hb7; have hs7 := hb7.size; (try simp at hs7); (try have y7_0_0 : w.heap.size < w7.heap.size := (by omega)); (try have y7_1_0 : w.heap.size + 1 < w7.heap.size := (by omega)); (try have y7_2_0 : g < w7.heap.size := (by omega)); (try have y7_3_0 : h < w7.heap.size := (by omega)))
        | (go_at_call 8; refine (goes9_any _ (hT.below (by (repeat (first | with_reducible assumption | with_reducible exact Below.refl _ _ | with_reducible apply Below.drew | with_reducible apply below_drewN | with_reducible refine Below.alloc ?_ (by first | omega | (simp <;> omega)) _ | with_reducible refine Below.setCell ?_ (by first | omega | (simp <;> omega)) _ | with_reducible refine Below.trans ?_ (Below.mono (by assumption) (by first | omega | (simp <;> omega)))))))).mono ?_; rintro e w8 ⟨rfl, hb8⟩; (try (with_reducible replace hb8 := undrew hb8)); obtain ⟨hc8, hf8⟩ := bcell hb8; have hs8 := hb8.size; (try simp at hs8); (try have y8_0_0 : w.heap.size < w8.heap.size := (by omega)); (try have y8_1_0 : w.heap.size + 1 < w8.heap.size := (by omega)); (try have y8_2_0 : g < w8.heap.size := (by omega)); (try have y8_3_0 : h < w8.heap.size := (by omega))))
      all_goals go_ret
      all_goals exact ⟨rfl, by (repeat (first | with_reducible assumption | with_reducible exact Below.refl _ _ | with_reducible apply Below.drew | with_reducible apply below_drewN | with_reducible refine Below.alloc ?_ (by first | omega | (simp <;> omega)) _ | with_reducible refine Below.setCell ?_ (by first | omega | (simp <;> omega)) _ | with_reducible refine Below.trans ?_ (Below.mono (by assumption) (by first | omega | (simp <;> omega)))))⟩
    · rcases h2 with h2 | ⟨h2, h3⟩
      all_goals
        go_wp2_with (first
          | (go_at_call 9; refine (k8 _).mono ?_; rintro e w7 ⟨rfl, hb7⟩; (try (with_reducible replace hb7 := undrew hb7)); obtain ⟨hc7, hf7⟩ := bcell hb7; have hs7 := hb7.size; (try simp at hs7); (try have y7_0_0 : w.heap.size < w7.heap.size := (by omega)); (try have y7_1_0 : w.heap.size + 1 < w7.heap.size := (by omega)); (try have y7_2_0 : g < w7.heap.size := (by omega)); (try have y7_3_0 : h < w7.heap.size := (by omega)))
          | (go_at_call 8; refine (goes9_any _ (hT.below (by (repeat (first | with_reducible assumption | with_reducible exact Below.refl _ _ | with_reducible apply Below.drew | with_reducible apply below_drewN | with_reducible refine Below.alloc ?_ (by first | omega | (simp <;> omega)) _ | with_reducible refine Below.setCell ?_ (by first | omega | (simp <;> omega)) _ | with_reducible refine Below.trans ?_ (Below.mono (by assumption) (by first | omega | (simp <;> omega)))))))).mono ?_; rintro e w8 ⟨rfl, hb8⟩; (try (with_reducible replace hb8 := undrew hb8)); obtain ⟨hc8, hf8⟩ := bcell hb8; have hs8 := hb8.size; (try simp at hs8); (try have y8_0_0 : w.heap.size < w8.heap.size := (by omega)); (try have y8_1_0 : w.heap.size + 1 < w8.heap.size := (by omega)); (try have y8_2_0 : g < w8.heap.size := (by omega)); (try have y8_3_0 : h < w8.heap.size := (by omega))))
        go_ret
        exact ⟨rfl, by (repeat (first | with_reducible assumption | with_reducible exact Below.refl _ _ | with_reducible apply Below.drew | with_reducible apply below_drewN | with_reducible refine Below.alloc ?_ (by first | omega | (simp <;> omega)) _ | with_reducible refine Below.setCell ?_ (by first | omega | (simp <;> omega)) _ | with_reducible refine Below.trans ?_ (Below.mono (by assumption) (by first | omega | (simp <;> omega)))))⟩
theorem walk_fieldsOrder (f : Int) (l : 0 ≤ f) (u : f ≤ 255) (a b : BitVec 128) (w : World) (hT : Tab w) :
    Calls Tryd.prog 3 #[.int .u8 f, Bv a, Bv b] w fun e w' => e = .returned (.bool true) ∧ Gr w w' := by
  refine fo_core f l u a b _ _ (fCut f a) (fCut f b) _ _ _ _ _ _ _ _ (bCmp (fCut f a) (fCut f b)) (bCmp (uS f a) (uS f b)) (Lib.hid ⟨rfl, rfl, rfl, rfl⟩) (Lib.hid ⟨rfl, rfl, rfl, rfl⟩) (Lib.hid rfl) (Lib.hid rfl) (Lib.hid ?_) w hT
  unfold OrdWay
  cases hfa : cFin f a
  · exact .inl rfl
  cases hfb : cFin f b
  · exact .inr (.inl ⟨rfl, rfl⟩)
  cases hna : fNeg f a
  rotate_left
  · exact .inr (.inr (.inl ⟨rfl, rfl, rfl⟩))
  cases hnb : fNeg f b
  rotate_left
  · exact .inr (.inr (.inr (.inl ⟨rfl, rfl, rfl, rfl⟩)))
  by_cases ca : cOf f a = 0
  · exact .inr (.inr (.inr (.inr (.inl ⟨rfl, rfl, rfl, rfl, ca⟩))))
  by_cases cb : cOf f b = 0
  · exact .inr (.inr (.inr (.inr (.inr (.inl ⟨rfl, rfl, rfl, rfl, by simpa using ca, cb⟩)))))
  obtain ⟨h4, ha⟩ := fin_parts hfa
  obtain ⟨_, hb⟩ := fin_parts hfb
  have ba := cOf_bounds f a
  have bb := cOf_bounds f b
  have ne : ∀ {x y : BitVec 128}, x ≠ y → (hiB x == hiB y) = false ∨ ((hiB x == hiB y) = true ∧ (loB x == loB y) = false) := fun {x y} hne => by
    by_cases h : hiB x = hiB y
    · exact .inr ⟨by simpa using h, by simpa using fun e => hne (eq_of_hl h e)⟩
    · exact .inl (by simpa using h)
  refine .inr (.inr (.inr (.inr (.inr (.inr ⟨rfl, rfl, rfl, rfl, by simpa using ca, by simpa using cb, Lib.hid rfl, Lib.hid rfl, Lib.hid rfl, Lib.hid rfl, ?_⟩)))))
  rcases order_plain f l h4 a b (by omega) (by omega) hna hnb with ⟨h1, h2⟩ | ⟨h1, h2, h3, h5⟩ | ⟨h1, h2, h3, h5⟩ | ⟨h1, h2⟩ | ⟨h1, h2, h3, h5⟩
  · exact .inl ⟨h1, h2⟩
  · exact .inr (.inl ⟨h1, h2, h3, ne h5⟩)
  · exact .inr (.inr (.inl ⟨h1, h2, h3, h5⟩))
  · exact .inr (.inr (.inr (.inl ⟨h1, h2⟩)))
  · exact .inr (.inr (.inr (.inr ⟨h1, h2, h3, ne h5⟩)))
end Hb
end Go.Proofs.YtbkkidgeanogjaaDoor
