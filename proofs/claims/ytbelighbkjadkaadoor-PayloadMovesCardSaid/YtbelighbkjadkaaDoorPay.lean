/-
  THE WALKS of package payload: each function hands back what the plain part says; what stood in memory stands. Conditions: the table of the formats holds its numbers.
-/
import Derived.Test.YtbelighbkjadkaaDoorNan
import Derived.Test.YtbelighbkjadkaaDoorPayPlain
namespace Go.Proofs.YtbelighbkjadkaaDoor
open Go.RowKit
namespace Hb
set_option maxRecDepth 20000
theorem quieted_as (t : Int) (l : 0 ≤ t) (u : t ≤ 255) (F D q z : BitVec 128) (N : Bool) (E : Int) (HD : Hid (nD t = D)) (HS : Hid (fNeg t D = N ∧ fExp t D = E ∧ fFrac t D = q)) (HZ : Hid (bOr F q = z)) (w : World) (hT : Tab w) :
    Calls Tryd.prog 103 #[.int .u8 t, Bv F] w fun e w' => e = .returned (Bv z) ∧ Gr w w' := by
  have hoh := or_hi F q
  have hol := or_lo F q
  rw [HZ.out] at hoh hol
  simp only [Bv]
  have o2_0 : w.heap.size < w.heap.size + 1 + 1 := by omega
  go_enter Tryd.func103, Tryd.ntmps103
  go_wp2_with (first
    | (go_at_call 63; refine (default_as t l u _ HD _ (hT.below (by (repeat (first | exact Below.refl _ _ | assumption | apply Below.drew | apply below_drewN | refine Below.alloc ?_ (by first | omega | (simp <;> omega)) _ | refine Below.setCell ?_ (by first | omega | (simp <;> omega)) _ | refine Below.trans ?_ (Below.mono (by assumption) (by first | omega | (simp <;> omega)))))))).mono ?_; rintro e w1 ⟨rfl, hb1⟩; (try (with_reducible replace hb1 := undrew hb1)); obtain ⟨hc1, hf1⟩ := bcell hb1; have hs1 := hb1.size; (try simp at hs1); (try have y1_0_0 : w.heap.size < w1.heap.size := (by omega)); (try have y1_1_0 : w.heap.size + 1 < w1.heap.size := (by omega)))
    | (go_at_call 15; refine (split_as t l u _ _ _ _ HS _ (hT.below (by (repeat (first | exact Below.refl _ _ | assumption | apply Below.drew | apply below_drewN | refine Below.alloc ?_ (by first | omega | (simp <;> omega)) _ | refine Below.setCell ?_ (by first | omega | (simp <;> omega)) _ | refine Below.trans ?_ (Below.mono (by assumption) (by first | omega | (simp <;> omega)))))))).mono ?_; rintro e w2 ⟨rfl, hb2⟩; (try (with_reducible replace hb2 := undrew hb2)); obtain ⟨hc2, hf2⟩ := bcell hb2; have hs2 := hb2.size; (try simp at hs2); (try have y2_0_0 : w.heap.size < w2.heap.size := (by omega)); (try have y2_0_1 : w.heap.size < w2.heap.size + 1 := (by omega)); (try have y2_1_0 : w.heap.size + 1 < w2.heap.size := (by omega)); (try have y2_1_1 : w.heap.size + 1 < w2.heap.size + 1 := (by omega))))
  simp [bodyPost, results, Tryd.results103, go_sem, *]
  (repeat (first | exact Below.refl _ _ | assumption | apply Below.drew | apply below_drewN | refine Below.alloc ?_ (by first | omega | (simp <;> omega)) _ | refine Below.setCell ?_ (by first | omega | (simp <;> omega)) _ | refine Below.trans ?_ (Below.mono (by assumption) (by first | omega | (simp <;> omega)))))
theorem off_as (f : Int) (l : 0 ≤ f) (u : f ≤ 255) (p k : Int) (HP : Hid (fPr f = p)) (hp : 0 ≤ p) (hp' : p ≤ 113) (hk : Hid (129 - p = k)) (w : World) (hT : Tab w) :
    Calls Tryd.prog 102 #[.int .u8 f] w fun e w' => e = .returned (.int .i64 k) ∧ Gr w w' := by
  obtain rfl := hk.out

  go_enter Tryd.func102, Tryd.ntmps102
  go_wp2_with (first | (go_at_call 45; refine (prec_as f l u _ HP _ (hT.below (by (repeat (first | exact Below.refl _ _ | assumption | apply Below.drew | apply below_drewN | refine Below.alloc ?_ (by first | omega | (simp <;> omega)) _ | refine Below.setCell ?_ (by first | omega | (simp <;> omega)) _ | refine Below.trans ?_ (Below.mono (by assumption) (by first | omega | (simp <;> omega)))))))).mono ?_; rintro e w1 ⟨rfl, hb1⟩; (try (with_reducible replace hb1 := undrew hb1)); obtain ⟨hc1, hf1⟩ := bcell hb1; have hs1 := hb1.size; (try simp at hs1)))
  go_ret
  exact ⟨rfl, hb1⟩
theorem move_no (g t : Int) (l : 0 ≤ g) (u : g ≤ 255) (l' : 0 ≤ t) (u' : t ≤ 255) (b : BitVec 128) (h : ¬ t < 4 ∨ cNaN g b = false) (w : World) (hT : Tab w) :
    Calls Tryd.prog 58 #[.int .u8 g, .int .u8 t, Bv b] w fun e w' => e = .returned (.tuple #[.agg #[.int .u64 0, .int .u64 0, .int .u8 0], .bool false]) ∧ Gr w w' := by
  simp only [Bv]
  by_cases ht : t < 4
  · have hn : cNaN g b = false := by rcases h with h | h; exact absurd ht h; exact h
    have HN := Lib.hid hn
    clear h hn
    have o2_0 : w.heap.size < w.heap.size + 1 + 1 := by omega
    go_enter Tryd.func58, Tryd.ntmps58
    go_wp2_with (first
      | (go_at_call 42; refine (known_yes t l' ht _).mono ?_; rintro e wq ⟨rfl, rfl⟩)
      | (go_at_call 35; refine (nan_as g l u _ _ HN _ (hT.below (by (repeat (first | exact Below.refl _ _ | assumption | apply Below.drew | apply below_drewN | refine Below.alloc ?_ (by first | omega | (simp <;> omega)) _ | refine Below.setCell ?_ (by first | omega | (simp <;> omega)) _ | refine Below.trans ?_ (Below.mono (by assumption) (by first | omega | (simp <;> omega)))))))).mono ?_; rintro e w1 ⟨rfl, hb1⟩; (try (with_reducible replace hb1 := undrew hb1)); obtain ⟨hc1, hf1⟩ := bcell hb1; have hs1 := hb1.size; (try simp at hs1); (try have y1_0_0 : w.heap.size < w1.heap.size := (by omega)); (try have y1_1_0 : w.heap.size + 1 < w1.heap.size := (by omega))))
    simp [bodyPost, results, Tryd.results58, go_sem, *]
    (repeat (first | exact Below.refl _ _ | assumption | apply Below.drew | apply below_drewN | refine Below.alloc ?_ (by first | omega | (simp <;> omega)) _ | refine Below.setCell ?_ (by first | omega | (simp <;> omega)) _ | refine Below.trans ?_ (Below.mono (by assumption) (by first | omega | (simp <;> omega)))))
  · clear h
    have o2_0 : w.heap.size < w.heap.size + 1 + 1 := by omega
    go_enter Tryd.func58, Tryd.ntmps58
    go_wp2_with (first
      | (go_at_call 42; refine (known_no t l' u' (by omega) _).mono ?_; rintro e wq ⟨rfl, rfl⟩))
    simp [bodyPost, results, Tryd.results58, go_sem, *]
    (repeat (first | exact Below.refl _ _ | assumption | apply Below.drew | apply below_drewN | refine Below.alloc ?_ (by first | omega | (simp <;> omega)) _ | refine Below.setCell ?_ (by first | omega | (simp <;> omega)) _ | refine Below.trans ?_ (Below.mono (by assumption) (by first | omega | (simp <;> omega)))))
set_option maxHeartbeats 4000000 in
theorem move_core (g t : Int) (l : 0 ≤ g) (u : g ≤ 255) (l' : 0 ≤ t) (u' : t ≤ 255) (ht : t < 4) (b F L R D q f1 f2 z : BitVec 128) (N N2 s : Bool) (E E2 p p' M k k' fl : Int)
    (HN : Hid (cNaN g b = true)) (HS : Hid (fNeg g b = N ∧ fExp g b = E ∧ fFrac g b = F)) (HP : Hid (fPr g = p)) (HP' : Hid (fPr t = p')) (Hk : Hid (129 - p = k)) (Hk' : Hid (129 - p' = k'))
    (HL : Hid (bShl F k = L)) (HR : Hid (bShr L k' = R)) (HM : Hid (fEm t = M)) (HD : Hid (nD t = D)) (HSD : Hid (fNeg t D = N2 ∧ fExp t D = E2 ∧ fFrac t D = q)) (HO : Hid (bOr R q = f1))
    (H2 : Hid (fMake t N (2 * M + 1) f1 = f2)) (HQ : Hid (nQ t f2 = z)) (HG : Hid (cSig g b = s)) (hp : 0 ≤ p) (hp' : p ≤ 113) (hq : 0 ≤ p') (hq' : p' ≤ 113) (hM : 0 ≤ M) (hM' : M ≤ 16383)
    (hs : (s = true ∧ fl = 1) ∨ (s = false ∧ fl = 0)) (w : World) (hT : Tab w) :
    Calls Tryd.prog 58 #[.int .u8 g, .int .u8 t, Bv b] w fun e w' => e = .returned (.tuple #[.agg #[.int .u64 (hiB z), .int .u64 (loB z), .int .u8 fl], .bool true]) ∧ Gr w w' := by
  have X1 := Lib.hid (IntWalk.i64_in (2 * M) (by omega))
  have X2 := Lib.hid (IntWalk.i64_in (2 * M + 1) (by omega))
  simp only [Bv]
  have o2_0 : w.heap.size < w.heap.size + 1 + 1 := by omega
  go_enter Tryd.func58, Tryd.ntmps58
  go_upto_region 5 with (first
    | (go_at_call 42; refine (known_yes t l' ht _).mono ?_; rintro e wq ⟨rfl, rfl⟩)
    | (go_at_call 35; refine (nan_as g l u _ _ HN _ (hT.below (by (repeat (first | exact Below.refl _ _ | assumption | apply Below.drew | apply below_drewN | refine Below.alloc ?_ (by first | omega | (simp <;> omega)) _ | refine Below.setCell ?_ (by first | omega | (simp <;> omega)) _ | refine Below.trans ?_ (Below.mono (by assumption) (by first | omega | (simp <;> omega)))))))).mono ?_; rintro e w1 ⟨rfl, hb1⟩; (try (with_reducible replace hb1 := undrew hb1)); obtain ⟨hc1, hf1⟩ := bcell hb1; have hs1 := hb1.size; (try simp at hs1); (try have y1_0_0 : w.heap.size < w1.heap.size := (by omega)); (try have y1_1_0 : w.heap.size + 1 < w1.heap.size := (by omega)))
    | (go_at_call 15; refine (split_as g l u _ _ _ _ HS _ (hT.below (by (repeat (first | exact Below.refl _ _ | assumption | apply Below.drew | apply below_drewN | refine Below.alloc ?_ (by first | omega | (simp <;> omega)) _ | refine Below.setCell ?_ (by first | omega | (simp <;> omega)) _ | refine Below.trans ?_ (Below.mono (by assumption) (by first | omega | (simp <;> omega)))))))).mono ?_; rintro e w2 ⟨rfl, hb2⟩; (try (with_reducible replace hb2 := undrew hb2)); obtain ⟨hc2, hf2⟩ := bcell hb2; have hs2 := hb2.size; (try simp at hs2); (try have y2_0_0 : w.heap.size < w2.heap.size := (by omega)); (try have y2_0_1 : w.heap.size < w2.heap.size + 1 := (by omega)); (try have y2_1_0 : w.heap.size + 1 < w2.heap.size := (by omega)); (try have y2_1_1 : w.heap.size + 1 < w2.heap.size + 1 := (by omega))))
  go_cut [] (fun wx => wx.cell? ⟨w2.heap.size, 0, none⟩ = some (.int .u64 (hiB R)) ∧ wx.cell? ⟨w2.heap.size, 1, none⟩ = some (.int .u64 (loB R)) ∧ wx.frozen? ⟨w2.heap.size, 0, none⟩ = false ∧ wx.frozen? ⟨w2.heap.size, 1, none⟩ = false ∧ w2.heap.size < wx.heap.size ∧ wx.cell? ⟨w.heap.size, 0, none⟩ = some (.int .u64 (hiB b)) ∧ wx.cell? ⟨w.heap.size, 1, none⟩ = some (.int .u64 (loB b)) ∧
    wx.cell? ⟨w.heap.size + 1, 0, none⟩ = some (.int .u64 0) ∧ wx.cell? ⟨w.heap.size + 1, 1, none⟩ = some (.int .u64 0) ∧ wx.cell? ⟨w.heap.size + 1, 2, none⟩ = some (.int .u8 0) ∧
    wx.frozen? ⟨w.heap.size + 1, 0, none⟩ = false ∧ wx.frozen? ⟨w.heap.size + 1, 1, none⟩ = false ∧ wx.frozen? ⟨w.heap.size + 1, 2, none⟩ = false ∧ Below w.heap.size w wx)
  case first =>
    go_region_with (first
      | (go_at_call_of 102 (g); refine (off_as g l u _ _ HP hp hp' Hk _ (hT.below (by (repeat (first | exact Below.refl _ _ | assumption | apply Below.drew | apply below_drewN | refine Below.alloc ?_ (by first | omega | (simp <;> omega)) _ | refine Below.setCell ?_ (by first | omega | (simp <;> omega)) _ | refine Below.trans ?_ (Below.mono (by assumption) (by first | omega | (simp <;> omega)))))))).mono ?_; rintro e w3 ⟨rfl, hb3⟩; (try (with_reducible replace hb3 := undrew hb3)); obtain ⟨hc3, hf3⟩ := bcell hb3; have hs3 := hb3.size; (try simp at hs3); (try have y3_0_0 : w.heap.size < w3.heap.size := (by omega)); (try have y3_1_0 : w.heap.size + 1 < w3.heap.size := (by omega)); (try have y3_2_0 : w2.heap.size < w3.heap.size := (by omega)))
      | (go_at_call_of 102 (t); refine (off_as t l' u' _ _ HP' hq hq' Hk' _ (hT.below (by (repeat (first | exact Below.refl _ _ | assumption | apply Below.drew | apply below_drewN | refine Below.alloc ?_ (by first | omega | (simp <;> omega)) _ | refine Below.setCell ?_ (by first | omega | (simp <;> omega)) _ | refine Below.trans ?_ (Below.mono (by assumption) (by first | omega | (simp <;> omega)))))))).mono ?_; rintro e w4 ⟨rfl, hb4⟩; (try (with_reducible replace hb4 := undrew hb4)); obtain ⟨hc4, hf4⟩ := bcell hb4; have hs4 := hb4.size; (try simp at hs4); (try have y4_0_0 : w.heap.size < w4.heap.size := (by omega)); (try have y4_1_0 : w.heap.size + 1 < w4.heap.size := (by omega)); (try have y4_2_0 : w2.heap.size < w4.heap.size := (by omega)))
      | (go_at_call 57; refine (left_as F _ _ HL _).mono ?_; rintro e w5 ⟨rfl, hb5⟩; (try (with_reducible replace hb5 := undrew hb5)); obtain ⟨hc5, hf5⟩ := bcell hb5; have hs5 := hb5.size; (try simp at hs5); (try have y5_0_0 : w.heap.size < w5.heap.size := (by omega)); (try have y5_1_0 : w.heap.size + 1 < w5.heap.size := (by omega)); (try have y5_2_0 : w2.heap.size < w5.heap.size := (by omega)))
      | (go_at_call 74; refine (right_as L _ _ HR _).mono ?_; rintro e w6 ⟨rfl, hb6⟩; (try (with_reducible replace hb6 := undrew hb6)); obtain ⟨hc6, hf6⟩ := bcell hb6; have hs6 := hb6.size; (try simp at hs6); (try have y6_0_0 : w.heap.size < w6.heap.size := (by omega)); (try have y6_1_0 : w.heap.size + 1 < w6.heap.size := (by omega)); (try have y6_2_0 : w2.heap.size < w6.heap.size := (by omega))))
    all_goals (go_wp2_with fail; go_meet; refine ⟨?_, ?_, ?_, ?_, ?_, ?_, ?_, ?_, ?_, ?_, ?_, ?_, ?_, ?_⟩)
    all_goals first | (simp [go_sem, *]; done) | (simp (maxDischargeDepth := 9) [go_sem, World.cell?_alloc_past, *]; done) | omega | (simp [go_sem, *]; omega) | (repeat (first | exact Below.refl _ _ | assumption | apply Below.drew | apply below_drewN | refine Below.alloc ?_ (by first | omega | (simp <;> omega)) _ | refine Below.setCell ?_ (by first | omega | (simp <;> omega)) _ | refine Below.trans ?_ (Below.mono (by assumption) (by first | omega | (simp <;> omega)))))
  case rest =>
    obtain ⟨c1, c2, c3, c4, hg, c5, c6, d1, d2, d3, d4, d5, d6, hbx⟩ := hcut
    obtain ⟨wo, rfl⟩ : ∃ wo : World, wo = wc := ⟨_, rfl⟩
    have z0 : w.heap.size < wo.heap.size := by omega
    have z1 : w.heap.size + 1 < wo.heap.size := by omega
    have o2_0 : w.heap.size < w.heap.size + 1 + 1 := by omega

    go_upto_region 6 with fail
    go_cut [12] (fun s12 wx => ∃ g2 : Nat, s12 = .pointer (some ⟨g2, 0, none⟩) ∧ wx.cell? ⟨g2, 0, none⟩ = some (.int .u64 (hiB z)) ∧ wx.cell? ⟨g2, 1, none⟩ = some (.int .u64 (loB z)) ∧ wx.cell? ⟨g2, 2, none⟩ = some (.int .u8 0) ∧ wx.frozen? ⟨g2, 2, none⟩ = false ∧ g2 < wx.heap.size ∧ w2.heap.size < g2 ∧ wx.cell? ⟨w.heap.size, 0, none⟩ = some (.int .u64 (hiB b)) ∧ wx.cell? ⟨w.heap.size, 1, none⟩ = some (.int .u64 (loB b)) ∧
      wx.cell? ⟨w.heap.size + 1, 0, none⟩ = some (.int .u64 0) ∧ wx.cell? ⟨w.heap.size + 1, 1, none⟩ = some (.int .u64 0) ∧ wx.cell? ⟨w.heap.size + 1, 2, none⟩ = some (.int .u8 0) ∧
      wx.frozen? ⟨w.heap.size + 1, 0, none⟩ = false ∧ wx.frozen? ⟨w.heap.size + 1, 1, none⟩ = false ∧ wx.frozen? ⟨w.heap.size + 1, 2, none⟩ = false ∧ Below w.heap.size w wx)
    case first =>
      go_region_held3 (fun w' => w'.cell? ⟨w2.heap.size, 0, none⟩ = some (.int .u64 (hiB R)) ∧ w'.cell? ⟨w2.heap.size, 1, none⟩ = some (.int .u64 (loB R)))
        (simp [go_sem, *])
        (first
          | (go_at_call 47; refine (emax_as t l' u' _ HM _ (hT.below (by (repeat (first | exact Below.refl _ _ | assumption | apply Below.drew | apply below_drewN | refine Below.alloc ?_ (by first | omega | (simp <;> omega)) _ | refine Below.setCell ?_ (by first | omega | (simp <;> omega)) _ | refine Below.trans ?_ (Below.mono (by assumption) (by first | omega | (simp <;> omega)))))))).mono ?_; rintro e w7 ⟨rfl, hb7⟩; (try (with_reducible replace hb7 := undrew hb7)); obtain ⟨hc7, hf7⟩ := bcell hb7; have hs7 := hb7.size; (try simp at hs7); (try have y7_0_0 : w.heap.size < w7.heap.size := (by omega)); (try have y7_0_1 : w.heap.size < w7.heap.size + 1 := (by omega)); (try have y7_1_0 : w.heap.size + 1 < w7.heap.size := (by omega)); (try have y7_1_1 : w.heap.size + 1 < w7.heap.size + 1 := (by omega)); (try have y7_2_0 : w2.heap.size < w7.heap.size := (by omega)); (try have y7_2_1 : w2.heap.size < w7.heap.size + 1 := (by omega)); (try have y7_3_0 : wo.heap.size < w7.heap.size := (by omega)); (try have y7_3_1 : wo.heap.size < w7.heap.size + 1 := (by omega)))
          | (go_at_call 103; refine (quieted_as t l' u' R _ _ _ _ _ HD HSD HO _ (hT.below (by (repeat (first | exact Below.refl _ _ | assumption | apply Below.drew | apply below_drewN | refine Below.alloc ?_ (by first | omega | (simp <;> omega)) _ | refine Below.setCell ?_ (by first | omega | (simp <;> omega)) _ | refine Below.trans ?_ (Below.mono (by assumption) (by first | omega | (simp <;> omega)))))))).mono ?_; rintro e w8 ⟨rfl, hb8⟩; (try (with_reducible replace hb8 := undrew hb8)); obtain ⟨hc8, hf8⟩ := bcell hb8; have hs8 := hb8.size; (try simp at hs8); (try have y8_0_0 : w.heap.size < w8.heap.size := (by omega)); (try have y8_0_1 : w.heap.size < w8.heap.size + 1 := (by omega)); (try have y8_1_0 : w.heap.size + 1 < w8.heap.size := (by omega)); (try have y8_1_1 : w.heap.size + 1 < w8.heap.size + 1 := (by omega)); (try have y8_2_0 : w2.heap.size < w8.heap.size := (by omega)); (try have y8_2_1 : w2.heap.size < w8.heap.size + 1 := (by omega)); (try have y8_3_0 : wo.heap.size < w8.heap.size := (by omega)); (try have y8_3_1 : wo.heap.size < w8.heap.size + 1 := (by omega)); (try have y8_4_0 : w7.heap.size < w8.heap.size := (by omega)); (try have y8_4_1 : w7.heap.size < w8.heap.size + 1 := (by omega)))
          | (go_at_call 18; (try rw [X1.out]); (try rw [X2.out]); refine (make_as t l' u' _ _ _ _ H2 _ (hT.below (by (repeat (first | exact Below.refl _ _ | assumption | apply Below.drew | apply below_drewN | refine Below.alloc ?_ (by first | omega | (simp <;> omega)) _ | refine Below.setCell ?_ (by first | omega | (simp <;> omega)) _ | refine Below.trans ?_ (Below.mono (by assumption) (by first | omega | (simp <;> omega)))))))).mono ?_; rintro e w9 ⟨rfl, hb9⟩; (try (with_reducible replace hb9 := undrew hb9)); obtain ⟨hc9, hf9⟩ := bcell hb9; have hs9 := hb9.size; (try simp at hs9); (try have y9_0_0 : w.heap.size < w9.heap.size := (by omega)); (try have y9_0_1 : w.heap.size < w9.heap.size + 1 := (by omega)); (try have y9_1_0 : w.heap.size + 1 < w9.heap.size := (by omega)); (try have y9_1_1 : w.heap.size + 1 < w9.heap.size + 1 := (by omega)); (try have y9_2_0 : w2.heap.size < w9.heap.size := (by omega)); (try have y9_2_1 : w2.heap.size < w9.heap.size + 1 := (by omega)); (try have y9_3_0 : wo.heap.size < w9.heap.size := (by omega)); (try have y9_3_1 : wo.heap.size < w9.heap.size + 1 := (by omega)); (try have y9_4_0 : w7.heap.size < w9.heap.size := (by omega)); (try have y9_4_1 : w7.heap.size < w9.heap.size + 1 := (by omega)); (try have y9_5_0 : w8.heap.size < w9.heap.size := (by omega)); (try have y9_5_1 : w8.heap.size < w9.heap.size + 1 := (by omega)))
          | (go_at_call 61; refine (quiet_as t l' u' _ _ HQ _ (hT.below (by (repeat (first | exact Below.refl _ _ | assumption | apply Below.drew | apply below_drewN | refine Below.alloc ?_ (by first | omega | (simp <;> omega)) _ | refine Below.setCell ?_ (by first | omega | (simp <;> omega)) _ | refine Below.trans ?_ (Below.mono (by assumption) (by first | omega | (simp <;> omega)))))))).mono ?_; rintro e w10 ⟨rfl, hb10⟩; (try (with_reducible replace hb10 := undrew hb10)); obtain ⟨hc10, hf10⟩ := bcell hb10; have hs10 := hb10.size; (try simp at hs10); (try have y10_0_0 : w.heap.size < w10.heap.size := (by omega)); (try have y10_0_1 : w.heap.size < w10.heap.size + 1 := (by omega)); (try have y10_1_0 : w.heap.size + 1 < w10.heap.size := (by omega)); (try have y10_1_1 : w.heap.size + 1 < w10.heap.size + 1 := (by omega)); (try have y10_2_0 : w2.heap.size < w10.heap.size := (by omega)); (try have y10_2_1 : w2.heap.size < w10.heap.size + 1 := (by omega)); (try have y10_3_0 : wo.heap.size < w10.heap.size := (by omega)); (try have y10_3_1 : wo.heap.size < w10.heap.size + 1 := (by omega)); (try have y10_4_0 : w7.heap.size < w10.heap.size := (by omega)); (try have y10_4_1 : w7.heap.size < w10.heap.size + 1 := (by omega)); (try have y10_5_0 : w8.heap.size < w10.heap.size := (by omega)); (try have y10_5_1 : w8.heap.size < w10.heap.size + 1 := (by omega)); (try have y10_6_0 : w9.heap.size < w10.heap.size := (by omega)); (try have y10_6_1 : w9.heap.size < w10.heap.size + 1 := (by omega))))
      all_goals (go_wp2_with fail; go_meet; refine ⟨_, rfl, ?_, ?_, ?_, ?_, ?_, ?_, ?_, ?_, ?_, ?_, ?_, ?_, ?_, ?_, ?_⟩)
      all_goals first | (simp [go_sem, *]; done) | (simp (maxDischargeDepth := 9) [go_sem, World.cell?_alloc_past, *]; done) | omega | (simp [go_sem, *]; omega) | (repeat (first | exact Below.refl _ _ | assumption | apply Below.drew | apply below_drewN | refine Below.alloc ?_ (by first | omega | (simp <;> omega)) _ | refine Below.setCell ?_ (by first | omega | (simp <;> omega)) _ | refine Below.trans ?_ (Below.mono (by assumption) (by first | omega | (simp <;> omega)))))
    case rest =>
      clear c1 c2 c3 c4 hg c5 c6 d1 d2 d3 d4 d5 d6 hbx z0 z1
      obtain ⟨g2, rfl, c1, c2, c3, c4, hg, hg2, c5, c6, d1, d2, d3, d4, d5, d6, hbx⟩ := hcut
      have z0 : w.heap.size < wc.heap.size := by omega
      have z1 : w.heap.size + 1 < wc.heap.size := by omega
      have z2 : ¬ w.heap.size + 1 = g2 := by omega
      have z3 : ¬ g2 = w.heap.size + 1 := by omega
      rcases hs with ⟨rfl, rfl⟩ | ⟨rfl, rfl⟩
      all_goals
        have o2_0 : w.heap.size < w.heap.size + 1 + 1 := by omega

        go_wp2_with (first | (go_at_call 37; refine (sig_as g l u _ _ HG _ (hT.below (by (repeat (first | exact Below.refl _ _ | assumption | apply Below.drew | apply below_drewN | refine Below.alloc ?_ (by first | omega | (simp <;> omega)) _ | refine Below.setCell ?_ (by first | omega | (simp <;> omega)) _ | refine Below.trans ?_ (Below.mono (by assumption) (by first | omega | (simp <;> omega)))))))).mono ?_; rintro e w11 ⟨rfl, hb11⟩; (try (with_reducible replace hb11 := undrew hb11)); obtain ⟨hc11, hf11⟩ := bcell hb11; have hs11 := hb11.size; (try simp at hs11); (try have y11_0_0 : w.heap.size < w11.heap.size := (by omega)); (try have y11_1_0 : w.heap.size + 1 < w11.heap.size := (by omega)); (try have y11_2_0 : g2 < w11.heap.size := (by omega))))
        simp [bodyPost, results, Tryd.results58, go_sem, *]
        (repeat (first | exact Below.refl _ _ | assumption | apply Below.drew | apply below_drewN | refine Below.alloc ?_ (by first | omega | (simp <;> omega)) _ | refine Below.setCell ?_ (by first | omega | (simp <;> omega)) _ | refine Below.trans ?_ (Below.mono (by assumption) (by first | omega | (simp <;> omega)))))
theorem move_yes (g t : Int) (l : 0 ≤ g) (u : g ≤ 255) (l' : 0 ≤ t) (u' : t ≤ 255) (b z : BitVec 128) (s : Bool) (fl : Int) (h : t < 4) (hn : cNaN g b = true) (HZ : Hid (mvB g t b = z)) (HG : Hid (cSig g b = s)) (hs : (s = true ∧ fl = 1) ∨ (s = false ∧ fl = 0)) (w : World) (hT : Tab w) :
    Calls Tryd.prog 58 #[.int .u8 g, .int .u8 t, Bv b] w fun e w' => e = .returned (.tuple #[.agg #[.int .u64 (hiB z), .int .u64 (loB z), .int .u8 fl], .bool true]) ∧ Gr w w' := by
  have hp := pr_bd g l
  have hq := pr_bd t l'
  have hM := em_le t l'
  obtain rfl := HZ.out
  exact move_core g t l u l' u' h b _ _ _ _ _ _ _ _ _ _ _ _ _ _ _ _ _ _ _ (Lib.hid hn) (Lib.hid ⟨rfl, rfl, rfl⟩) (Lib.hid rfl) (Lib.hid rfl) (Lib.hid rfl) (Lib.hid rfl) (Lib.hid rfl) (Lib.hid rfl) (Lib.hid rfl) (Lib.hid rfl) (Lib.hid ⟨rfl, rfl, rfl⟩) (Lib.hid rfl)
    (Lib.hid rfl) (Lib.hid rfl) HG hp.1 hp.2 hq.1 hq.2 hM.1 hM.2 hs w hT
end Hb
end Go.Proofs.YtbelighbkjadkaaDoor
