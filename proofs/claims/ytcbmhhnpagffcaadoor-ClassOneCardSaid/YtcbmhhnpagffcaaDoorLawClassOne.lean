/-
  THE WALK of the law ClassOne. Conditions: the table of the formats holds its numbers.
-/
import Derived.Test.YtcbmhhnpagffcaaDoorGoes8
import Derived.Test.YtcbmhhnpagffcaaDoorOnePlain
namespace Go.Proofs.YtcbmhhnpagffcaaDoor
open Go.RowKit
namespace Hb
set_option maxRecDepth 20000
set_option maxHeartbeats 4000000 in
theorem one_core (f : Int) (l : 0 ≤ f) (u : f ≤ 255) (h : f < 4) (b m L S G Mi D A I : BitVec 128) (c1 c2 Fi Na Z : Bool) (W c k : Int)
    (HW : Hid (fWd f = W)) (HL : Hid (bShl b (129 - W) = L)) (HS : Hid (bShr L (129 - W) = S)) (HG : Hid (bShl (mkB 0 1) (W - 1) = G)) (HMi : Hid (bAdd S G = Mi ∧ bCarry S G = c1))
    (HD : Hid (bShl m W = D)) (HA : Hid (bAdd S D = A ∧ bCarry S D = c2)) (HI : Hid (fInf f false = I)) (CS : Hid (cOf f S = c ∧ fNeg f S = false)) (CM : Hid (cOf f Mi = c ∧ fNeg f Mi = true)) (CA : Hid (cOf f A = c ∧ fNeg f A = false))
    (HK : Hid (bCmp S I = k)) (HF : Hid (cFin f Mi = Fi)) (HN : Hid (cNaN f A = Na)) (HZ : Hid (bZero S = Z)) (hW : 16 ≤ W) (hW' : W ≤ 128)
    (hc : (k = -1 ∧ c = 0 ∧ Fi = true ∧ Na = false ∧ Z = true) ∨ (k = -1 ∧ (c == 3) = false ∧ (c == 0) = false ∧ Fi = true ∧ Na = false ∧ Z = false) ∨
     (k = 0 ∧ c = 3 ∧ Fi = false ∧ Na = false ∧ Z = false) ∨ (k = 1 ∧ (c == 3) = false ∧ (c == 0) = false ∧ Fi = false ∧ Na = true ∧ Z = false)) (w : World) (hT : Tab w) :
    Calls Tryd.prog 12 #[.int .u8 f, Bv b, Bv m] w fun e w' => e = .returned (.bool true) ∧ Gr w w' := by
  have X1 := Lib.hid (IntWalk.i64_in (W - 1) (by omega))
  have HC := Lib.hid hc
  clear hc
  simp only [Bv]

  go_enter Tryd.func12, Tryd.ntmps12
  go_upto_region 6 with (first
    | (go_at_call 40; refine (known_yes f l h _).mono ?_; rintro e wq ⟨rfl, rfl⟩)
    | (go_at_call 41; refine (width_as f l u _ HW _ (hT.below (by (repeat (first | exact Below.refl _ _ | assumption | apply Below.drew | apply below_drewN | refine Below.alloc ?_ (by first | omega | (simp <;> omega)) _ | refine Below.setCell ?_ (by first | omega | (simp <;> omega)) _ | refine Below.trans ?_ (Below.mono (by assumption) (by first | omega | (simp <;> omega)))))))).mono ?_; rintro e w1 ⟨rfl, hb1⟩; (try (with_reducible replace hb1 := undrew hb1)); obtain ⟨hc1, hf1⟩ := bcell hb1; have hs1 := hb1.size; (try simp at hs1); (try have y1_0_0 : w.heap.size < w1.heap.size := (by omega)); (try have y1_1_0 : w.heap.size + 1 < w1.heap.size := (by omega)))
    | (go_at_call 55; refine (left_as b _ _ HL _).mono ?_; rintro e w2 ⟨rfl, hb2⟩; (try (with_reducible replace hb2 := undrew hb2)); obtain ⟨hc2, hf2⟩ := bcell hb2; have hs2 := hb2.size; (try simp at hs2); (try have y2_0_0 : w.heap.size < w2.heap.size := (by omega)); (try have y2_1_0 : w.heap.size + 1 < w2.heap.size := (by omega)))
    | (go_at_call 58; refine (right_as L _ _ HS _).mono ?_; rintro e w3 ⟨rfl, hb3⟩; (try (with_reducible replace hb3 := undrew hb3)); obtain ⟨hc3, hf3⟩ := bcell hb3; have hs3 := hb3.size; (try simp at hs3); (try have y3_0_0 : w.heap.size < w3.heap.size := (by omega)); (try have y3_0_1 : w.heap.size < w3.heap.size + 1 := (by omega)); (try have y3_1_0 : w.heap.size + 1 < w3.heap.size := (by omega)); (try have y3_1_1 : w.heap.size + 1 < w3.heap.size + 1 := (by omega))))

  go_cut [11] (fun s11 wx => ∃ g : Nat, s11 = .pointer (some ⟨g, 0, none⟩) ∧ wx.cell? ⟨g, 0, none⟩ = some (.int .u64 (hiB Mi)) ∧ wx.cell? ⟨g, 1, none⟩ = some (.int .u64 (loB Mi)) ∧ g < wx.heap.size ∧ w3.heap.size < g ∧ Below w.heap.size w wx ∧ wx.cell? ⟨w.heap.size + 1, 0, none⟩ = some (.int .u64 (hiB m)) ∧ wx.cell? ⟨w.heap.size + 1, 1, none⟩ = some (.int .u64 (loB m)) ∧ wx.cell? ⟨w3.heap.size, 0, none⟩ = some (.int .u64 (hiB S)) ∧ wx.cell? ⟨w3.heap.size, 1, none⟩ = some (.int .u64 (loB S)))
  case first =>
    go_region_held3 (fun w' => w'.cell? ⟨w3.heap.size, 0, none⟩ = some (.int .u64 (hiB S)) ∧ w'.cell? ⟨w3.heap.size, 1, none⟩ = some (.int .u64 (loB S)))
      (simp [go_sem, *])
      (first
        | (go_at_call 55; rw [X1.out]; refine (left_one _ _ HG _).mono ?_; rintro e w4 ⟨rfl, hb4⟩; (try (with_reducible replace hb4 := undrew hb4)); obtain ⟨hc4, hf4⟩ := bcell hb4; have hs4 := hb4.size; (try simp at hs4); (try have y4_0_0 : w.heap.size < w4.heap.size := (by omega)); (try have y4_0_1 : w.heap.size < w4.heap.size + 1 := (by omega)); (try have y4_1_0 : w.heap.size + 1 < w4.heap.size := (by omega)); (try have y4_1_1 : w.heap.size + 1 < w4.heap.size + 1 := (by omega)); (try have y4_2_0 : w3.heap.size < w4.heap.size := (by omega)); (try have y4_2_1 : w3.heap.size < w4.heap.size + 1 := (by omega)); (try have y4_3_0 : w3.heap.size + 1 < w4.heap.size := (by omega)); (try have y4_3_1 : w3.heap.size + 1 < w4.heap.size + 1 := (by omega)))
        | (go_at_call 59; refine (add_as S G _ _ HMi _).mono ?_; rintro e w5 ⟨rfl, hb5⟩; (try (with_reducible replace hb5 := undrew hb5)); obtain ⟨hc5, hf5⟩ := bcell hb5; have hs5 := hb5.size; (try simp at hs5); (try have y5_0_0 : w.heap.size < w5.heap.size := (by omega)); (try have y5_0_1 : w.heap.size < w5.heap.size + 1 := (by omega)); (try have y5_1_0 : w.heap.size + 1 < w5.heap.size := (by omega)); (try have y5_1_1 : w.heap.size + 1 < w5.heap.size + 1 := (by omega)); (try have y5_2_0 : w3.heap.size < w5.heap.size := (by omega)); (try have y5_2_1 : w3.heap.size < w5.heap.size + 1 := (by omega)); (try have y5_3_0 : w3.heap.size + 1 < w5.heap.size := (by omega)); (try have y5_3_1 : w3.heap.size + 1 < w5.heap.size + 1 := (by omega)); (try have y5_4_0 : w4.heap.size < w5.heap.size := (by omega)); (try have y5_4_1 : w4.heap.size < w5.heap.size + 1 := (by omega))))
    all_goals (go_wp2_with fail; go_meet; refine ⟨_, rfl, ?_, ?_, ?_, ?_, ?_, ?_, ?_, ?_, ?_⟩)
    all_goals first | (simp [go_sem, *]; done) | omega | (simp [go_sem, *]; omega) | (repeat (first | exact Below.refl _ _ | assumption | apply Below.drew | apply below_drewN | refine Below.alloc ?_ (by first | omega | (simp <;> omega)) _ | refine Below.setCell ?_ (by first | omega | (simp <;> omega)) _ | refine Below.trans ?_ (Below.mono (by assumption) (by first | omega | (simp <;> omega)))))
  case rest =>
    obtain ⟨g, rfl, d1, d2, hg, hg2, hbx, e1, e2, e3, e4⟩ := hcut
    obtain ⟨wo, rfl⟩ : ∃ wo : World, wo = wc := ⟨_, rfl⟩
    have z0 : w.heap.size < wo.heap.size := by omega
    have z1 : w.heap.size + 1 < wo.heap.size := by omega
    have z2 : w3.heap.size < wo.heap.size := by omega


    go_upto_region 7 with fail
    go_cut [13] (fun s13 wx => ∃ g2 : Nat, s13 = .pointer (some ⟨g2, 0, none⟩) ∧ wx.cell? ⟨g2, 0, none⟩ = some (.int .u64 (hiB A)) ∧ wx.cell? ⟨g2, 1, none⟩ = some (.int .u64 (loB A)) ∧ g2 < wx.heap.size ∧ g < g2 ∧ Below w.heap.size w wx ∧ wx.cell? ⟨w3.heap.size, 0, none⟩ = some (.int .u64 (hiB S)) ∧ wx.cell? ⟨w3.heap.size, 1, none⟩ = some (.int .u64 (loB S)) ∧ wx.cell? ⟨g, 0, none⟩ = some (.int .u64 (hiB Mi)) ∧ wx.cell? ⟨g, 1, none⟩ = some (.int .u64 (loB Mi)))
    case first =>
      go_region_held3 (fun w' => w'.cell? ⟨w3.heap.size, 0, none⟩ = some (.int .u64 (hiB S)) ∧ w'.cell? ⟨w3.heap.size, 1, none⟩ = some (.int .u64 (loB S)) ∧ w'.cell? ⟨w.heap.size + 1, 0, none⟩ = some (.int .u64 (hiB m)) ∧ w'.cell? ⟨w.heap.size + 1, 1, none⟩ = some (.int .u64 (loB m)))
        (simp [go_sem, *])
        (first
          | (go_at_call 55; refine (left_as m _ _ HD _).mono ?_; rintro e w6 ⟨rfl, hb6⟩; (try (with_reducible replace hb6 := undrew hb6)); obtain ⟨hc6, hf6⟩ := bcell hb6; have hs6 := hb6.size; (try simp at hs6); (try have y6_0_0 : w.heap.size < w6.heap.size := (by omega)); (try have y6_0_1 : w.heap.size < w6.heap.size + 1 := (by omega)); (try have y6_1_0 : w.heap.size + 1 < w6.heap.size := (by omega)); (try have y6_1_1 : w.heap.size + 1 < w6.heap.size + 1 := (by omega)); (try have y6_2_0 : w3.heap.size < w6.heap.size := (by omega)); (try have y6_2_1 : w3.heap.size < w6.heap.size + 1 := (by omega)); (try have y6_3_0 : g < w6.heap.size := (by omega)); (try have y6_3_1 : g < w6.heap.size + 1 := (by omega)); (try have y6_4_0 : wo.heap.size < w6.heap.size := (by omega)); (try have y6_4_1 : wo.heap.size < w6.heap.size + 1 := (by omega)))
          | (go_at_call 59; refine (add_as S D _ _ HA _).mono ?_; rintro e w7 ⟨rfl, hb7⟩; (try (with_reducible replace hb7 := undrew hb7)); obtain ⟨hc7, hf7⟩ := bcell hb7; have hs7 := hb7.size; (try simp at hs7); (try have y7_0_0 : w.heap.size < w7.heap.size := (by omega)); (try have y7_0_1 : w.heap.size < w7.heap.size + 1 := (by omega)); (try have y7_1_0 : w.heap.size + 1 < w7.heap.size := (by omega)); (try have y7_1_1 : w.heap.size + 1 < w7.heap.size + 1 := (by omega)); (try have y7_2_0 : w3.heap.size < w7.heap.size := (by omega)); (try have y7_2_1 : w3.heap.size < w7.heap.size + 1 := (by omega)); (try have y7_3_0 : g < w7.heap.size := (by omega)); (try have y7_3_1 : g < w7.heap.size + 1 := (by omega)); (try have y7_4_0 : wo.heap.size < w7.heap.size := (by omega)); (try have y7_4_1 : wo.heap.size < w7.heap.size + 1 := (by omega)); (try have y7_5_0 : w6.heap.size < w7.heap.size := (by omega)); (try have y7_5_1 : w6.heap.size < w7.heap.size + 1 := (by omega))))
      all_goals (go_wp2_with fail; go_meet; refine ⟨_, rfl, ?_, ?_, ?_, ?_, ?_, ?_, ?_, ?_, ?_⟩)
      all_goals first | (simp [go_sem, *]; done) | omega | (simp [go_sem, *]; omega) | (repeat (first | exact Below.refl _ _ | assumption | apply Below.drew | apply below_drewN | refine Below.alloc ?_ (by first | omega | (simp <;> omega)) _ | refine Below.setCell ?_ (by first | omega | (simp <;> omega)) _ | refine Below.trans ?_ (Below.mono (by assumption) (by first | omega | (simp <;> omega)))))
    case rest =>
      clear d1 d2 hg hbx e1 e2 e3 e4 z0 z1 z2
      obtain ⟨g2, rfl, d1, d2, hg, hg3, hbx, e1, e2, e3, e4⟩ := hcut
      have z0 : w.heap.size < wc.heap.size := by omega
      have z2 : w3.heap.size < wc.heap.size := by omega
      have z3 : g < wc.heap.size := by omega
      rcases HC.out with ⟨rfl, rfl, rfl, rfl, rfl⟩ | ⟨rfl, h1, h2, rfl, rfl, rfl⟩ | ⟨rfl, rfl, rfl, rfl, rfl⟩ | ⟨rfl, h1, h2, rfl, rfl, rfl⟩
      all_goals
        clear HC


        go_wp2_with (first
          | (go_at_call_of 31 (S); refine (clof_as f l u _ _ _ CS _ (hT.below (by (repeat (first | exact Below.refl _ _ | assumption | apply Below.drew | apply below_drewN | refine Below.alloc ?_ (by first | omega | (simp <;> omega)) _ | refine Below.setCell ?_ (by first | omega | (simp <;> omega)) _ | refine Below.trans ?_ (Below.mono (by assumption) (by first | omega | (simp <;> omega)))))))).mono ?_; rintro e w8 ⟨rfl, hb8⟩; (try (with_reducible replace hb8 := undrew hb8)); obtain ⟨hc8, hf8⟩ := bcell hb8; have hs8 := hb8.size; (try simp at hs8); (try have y8_0_0 : w.heap.size < w8.heap.size := (by omega)); (try have y8_1_0 : w3.heap.size < w8.heap.size := (by omega)); (try have y8_2_0 : g < w8.heap.size := (by omega)); (try have y8_3_0 : g2 < w8.heap.size := (by omega)))
          | (go_at_call_of 31 (Mi); refine (clof_as f l u _ _ _ CM _ (hT.below (by (repeat (first | exact Below.refl _ _ | assumption | apply Below.drew | apply below_drewN | refine Below.alloc ?_ (by first | omega | (simp <;> omega)) _ | refine Below.setCell ?_ (by first | omega | (simp <;> omega)) _ | refine Below.trans ?_ (Below.mono (by assumption) (by first | omega | (simp <;> omega)))))))).mono ?_; rintro e w9 ⟨rfl, hb9⟩; (try (with_reducible replace hb9 := undrew hb9)); obtain ⟨hc9, hf9⟩ := bcell hb9; have hs9 := hb9.size; (try simp at hs9); (try have y9_0_0 : w.heap.size < w9.heap.size := (by omega)); (try have y9_1_0 : w3.heap.size < w9.heap.size := (by omega)); (try have y9_2_0 : g < w9.heap.size := (by omega)); (try have y9_3_0 : g2 < w9.heap.size := (by omega)))
          | (go_at_call_of 31 (A); refine (clof_as f l u _ _ _ CA _ (hT.below (by (repeat (first | exact Below.refl _ _ | assumption | apply Below.drew | apply below_drewN | refine Below.alloc ?_ (by first | omega | (simp <;> omega)) _ | refine Below.setCell ?_ (by first | omega | (simp <;> omega)) _ | refine Below.trans ?_ (Below.mono (by assumption) (by first | omega | (simp <;> omega)))))))).mono ?_; rintro e w10 ⟨rfl, hb10⟩; (try (with_reducible replace hb10 := undrew hb10)); obtain ⟨hc10, hf10⟩ := bcell hb10; have hs10 := hb10.size; (try simp at hs10); (try have y10_0_0 : w.heap.size < w10.heap.size := (by omega)); (try have y10_1_0 : w3.heap.size < w10.heap.size := (by omega)); (try have y10_2_0 : g < w10.heap.size := (by omega)); (try have y10_3_0 : g2 < w10.heap.size := (by omega))))
        go_region_held3 (fun w' => w'.cell? ⟨w3.heap.size, 0, none⟩ = some (.int .u64 (hiB S)) ∧ w'.cell? ⟨w3.heap.size, 1, none⟩ = some (.int .u64 (loB S)))
          (simp [go_sem, *])
          (first
            | (go_at_call 49; refine (inf_as f l u _ _ HI _ (hT.below (by (repeat (first | exact Below.refl _ _ | assumption | apply Below.drew | apply below_drewN | refine Below.alloc ?_ (by first | omega | (simp <;> omega)) _ | refine Below.setCell ?_ (by first | omega | (simp <;> omega)) _ | refine Below.trans ?_ (Below.mono (by assumption) (by first | omega | (simp <;> omega)))))))).mono ?_; rintro e w11 ⟨rfl, hb11⟩; (try (with_reducible replace hb11 := undrew hb11)); obtain ⟨hc11, hf11⟩ := bcell hb11; have hs11 := hb11.size; (try simp at hs11); (try have y11_0_0 : w.heap.size < w11.heap.size := (by omega)); (try have y11_1_0 : w3.heap.size < w11.heap.size := (by omega)); (try have y11_2_0 : g < w11.heap.size := (by omega)); (try have y11_3_0 : g2 < w11.heap.size := (by omega)))
            | (go_at_call 57; refine (bcmp_as S I _ HK _).mono ?_; rintro e w12 ⟨rfl, hb12⟩; (try (with_reducible replace hb12 := undrew hb12)); obtain ⟨hc12, hf12⟩ := bcell hb12; have hs12 := hb12.size; (try simp at hs12); (try have y12_0_0 : w.heap.size < w12.heap.size := (by omega)); (try have y12_1_0 : w3.heap.size < w12.heap.size := (by omega)); (try have y12_2_0 : g < w12.heap.size := (by omega)); (try have y12_3_0 : g2 < w12.heap.size := (by omega))))
        go_wp2_with (first
          | (go_at_call 37; refine (fin_as f l u _ _ HF _ (hT.below (by (repeat (first | exact Below.refl _ _ | assumption | apply Below.drew | apply below_drewN | refine Below.alloc ?_ (by first | omega | (simp <;> omega)) _ | refine Below.setCell ?_ (by first | omega | (simp <;> omega)) _ | refine Below.trans ?_ (Below.mono (by assumption) (by first | omega | (simp <;> omega)))))))).mono ?_; rintro e w13 ⟨rfl, hb13⟩; (try (with_reducible replace hb13 := undrew hb13)); obtain ⟨hc13, hf13⟩ := bcell hb13; have hs13 := hb13.size; (try simp at hs13); (try have y13_0_0 : w.heap.size < w13.heap.size := (by omega)); (try have y13_1_0 : w3.heap.size < w13.heap.size := (by omega)); (try have y13_2_0 : g < w13.heap.size := (by omega)); (try have y13_3_0 : g2 < w13.heap.size := (by omega)))
          | (go_at_call 33; refine (nan_as f l u _ _ HN _ (hT.below (by (repeat (first | exact Below.refl _ _ | assumption | apply Below.drew | apply below_drewN | refine Below.alloc ?_ (by first | omega | (simp <;> omega)) _ | refine Below.setCell ?_ (by first | omega | (simp <;> omega)) _ | refine Below.trans ?_ (Below.mono (by assumption) (by first | omega | (simp <;> omega)))))))).mono ?_; rintro e w14 ⟨rfl, hb14⟩; (try (with_reducible replace hb14 := undrew hb14)); obtain ⟨hc14, hf14⟩ := bcell hb14; have hs14 := hb14.size; (try simp at hs14); (try have y14_0_0 : w.heap.size < w14.heap.size := (by omega)); (try have y14_1_0 : w3.heap.size < w14.heap.size := (by omega)); (try have y14_2_0 : g < w14.heap.size := (by omega)); (try have y14_3_0 : g2 < w14.heap.size := (by omega)))
          | (go_at_call 56; refine (bzero_as _ _ HZ _).mono ?_; rintro e w15 ⟨rfl, hb15⟩; (try (with_reducible replace hb15 := undrew hb15)); obtain ⟨hc15, hf15⟩ := bcell hb15; have hs15 := hb15.size; (try simp at hs15); (try have y15_0_0 : w.heap.size < w15.heap.size := (by omega)); (try have y15_1_0 : w3.heap.size < w15.heap.size := (by omega)); (try have y15_2_0 : g < w15.heap.size := (by omega)); (try have y15_3_0 : g2 < w15.heap.size := (by omega)))
          | (go_at_call 38; refine (goes8_any _ (hT.below (by (repeat (first | exact Below.refl _ _ | assumption | apply Below.drew | apply below_drewN | refine Below.alloc ?_ (by first | omega | (simp <;> omega)) _ | refine Below.setCell ?_ (by first | omega | (simp <;> omega)) _ | refine Below.trans ?_ (Below.mono (by assumption) (by first | omega | (simp <;> omega)))))))).mono ?_; rintro e w16 ⟨rfl, hb16⟩; (try (with_reducible replace hb16 := undrew hb16)); obtain ⟨hc16, hf16⟩ := bcell hb16; have hs16 := hb16.size; (try simp at hs16); (try have y16_0_0 : w.heap.size < w16.heap.size := (by omega)); (try have y16_1_0 : w3.heap.size < w16.heap.size := (by omega)); (try have y16_2_0 : g < w16.heap.size := (by omega)); (try have y16_3_0 : g2 < w16.heap.size := (by omega))))
        go_ret
        exact ⟨rfl, by (repeat (first | exact Below.refl _ _ | assumption | apply Below.drew | apply below_drewN | refine Below.alloc ?_ (by first | omega | (simp <;> omega)) _ | refine Below.setCell ?_ (by first | omega | (simp <;> omega)) _ | refine Below.trans ?_ (Below.mono (by assumption) (by first | omega | (simp <;> omega)))))⟩
theorem walk_classOne (f : Int) (l : 0 ≤ f) (u : f ≤ 255) (b m : BitVec 128) (w : World) (hT : Tab w) :
    Calls Tryd.prog 12 #[.int .u8 f, Bv b, Bv m] w fun e w' => e = .returned (.bool true) ∧ Gr w w' := by
  by_cases h : f < 4
  · have hb := f_bounds f l h
    obtain ⟨h1, h2, h3, h4, h5, h6⟩ := one_plain f l h b m _ _ _ _ _ _ _ rfl rfl rfl rfl rfl rfl rfl
    exact one_core f l u h b m _ _ _ _ _ _ _ _ _ _ _ _ _ _ _ (Lib.hid rfl) (Lib.hid rfl) (Lib.hid rfl) (Lib.hid rfl) (Lib.hid ⟨rfl, rfl⟩) (Lib.hid rfl) (Lib.hid ⟨rfl, rfl⟩) (Lib.hid rfl) (Lib.hid ⟨rfl, h1⟩) (Lib.hid ⟨h4, h2⟩) (Lib.hid ⟨h5, h3⟩)
      (Lib.hid rfl) (Lib.hid rfl) (Lib.hid rfl) (Lib.hid rfl) (by omega) (by omega) h6 w hT
  · have e1 := cOf_none f h b
    have e2 : fNeg f b = false := by unfold fNeg; rw [(f_none f h).2.2.2]; rfl
    have e3 : cFin f b = false := by unfold cFin; rw [(f_none f h).2.2.2]; rfl
    have E1 := Lib.hid (And.intro e1 e2)
    have E3 := Lib.hid e3
    clear e1 e2 e3
    simp only [Bv]

    go_enter Tryd.func12, Tryd.ntmps12
    go_wp2_with (first
      | (go_at_call 40; refine (known_no f l u (by omega) _).mono ?_; rintro e wq ⟨rfl, rfl⟩)
      | (go_at_call 31; refine (clof_as f l u b _ _ E1 _ (hT.below (by (repeat (first | exact Below.refl _ _ | assumption | apply Below.drew | apply below_drewN | refine Below.alloc ?_ (by first | omega | (simp <;> omega)) _ | refine Below.setCell ?_ (by first | omega | (simp <;> omega)) _ | refine Below.trans ?_ (Below.mono (by assumption) (by first | omega | (simp <;> omega)))))))).mono ?_; rintro e w1 ⟨rfl, hb1⟩; (try (with_reducible replace hb1 := undrew hb1)); obtain ⟨hc1, hf1⟩ := bcell hb1; have hs1 := hb1.size; (try simp at hs1); (try have y1_0_0 : w.heap.size < w1.heap.size := (by omega)); (try have y1_1_0 : w.heap.size + 1 < w1.heap.size := (by omega)))
      | (go_at_call 37; refine (fin_as f l u b _ E3 _ (hT.below (by (repeat (first | exact Below.refl _ _ | assumption | apply Below.drew | apply below_drewN | refine Below.alloc ?_ (by first | omega | (simp <;> omega)) _ | refine Below.setCell ?_ (by first | omega | (simp <;> omega)) _ | refine Below.trans ?_ (Below.mono (by assumption) (by first | omega | (simp <;> omega)))))))).mono ?_; rintro e w2 ⟨rfl, hb2⟩; (try (with_reducible replace hb2 := undrew hb2)); obtain ⟨hc2, hf2⟩ := bcell hb2; have hs2 := hb2.size; (try simp at hs2); (try have y2_0_0 : w.heap.size < w2.heap.size := (by omega)); (try have y2_1_0 : w.heap.size + 1 < w2.heap.size := (by omega)))
      | (go_at_call 38; refine (goes8_any _ (hT.below (by (repeat (first | exact Below.refl _ _ | assumption | apply Below.drew | apply below_drewN | refine Below.alloc ?_ (by first | omega | (simp <;> omega)) _ | refine Below.setCell ?_ (by first | omega | (simp <;> omega)) _ | refine Below.trans ?_ (Below.mono (by assumption) (by first | omega | (simp <;> omega)))))))).mono ?_; rintro e w14 ⟨rfl, hb14⟩; (try (with_reducible replace hb14 := undrew hb14)); obtain ⟨hc14, hf14⟩ := bcell hb14; have hs14 := hb14.size; (try simp at hs14); (try have y14_0_0 : w.heap.size < w14.heap.size := (by omega)); (try have y14_1_0 : w.heap.size + 1 < w14.heap.size := (by omega))))
    go_ret
    exact ⟨rfl, by (repeat (first | exact Below.refl _ _ | assumption | apply Below.drew | apply below_drewN | refine Below.alloc ?_ (by first | omega | (simp <;> omega)) _ | refine Below.setCell ?_ (by first | omega | (simp <;> omega)) _ | refine Below.trans ?_ (Below.mono (by assumption) (by first | omega | (simp <;> omega)))))⟩
end Hb
end Go.Proofs.YtcbmhhnpagffcaaDoor
