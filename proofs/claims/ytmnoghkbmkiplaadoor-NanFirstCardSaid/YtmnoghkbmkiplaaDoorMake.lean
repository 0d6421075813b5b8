/-
  THE WALKS of package format: Make, Inf, Max, Nought. Conditions: the table of the formats holds its numbers.
-/
import Derived.Test.YtmnoghkbmkiplaaDoorFormat
import Derived.Deep.DeepCutAuto
import Derived.IntWalk
import Derived.Lib.Hide
namespace Go.Proofs.YtmnoghkbmkiplaaDoor
open Go.RowKit
namespace Hb
theorem bv_mk (h l : Int) (h1 : Word h) (h2 : Word l) : Bv (mkB h l) = .agg #[.int .u64 h, .int .u64 l] := by simp only [Bv]; rw [hiB_mk h l h1 h2, loB_mk h l h1 h2]
theorem low_hl (h l : Int) (h1 : Word h) (h2 : Word l) (n : Int) (g0 : 0 ≤ n) (g1 : n ≤ 128) (w : World) :
    Calls Tryd.prog 25 #[.agg #[.int .u64 h, .int .u64 l], .int .i64 n] w fun e w' => e = .returned (Bv (fLow (mkB h l) n)) ∧ Gr w w' := by
  have := low_any (mkB h l) n g0 g1 w
  rw [bv_mk h l h1 h2] at this
  exact this
theorem left_hl (h l : Int) (h1 : Word h) (h2 : Word l) (n : Int) (w : World) :
    Calls Tryd.prog 16 #[.agg #[.int .u64 h, .int .u64 l], .int .i64 n] w fun e w' => e = .returned (Bv (bShl (mkB h l) n)) ∧ Gr w w' := by
  have := left_any (mkB h l) n w
  rw [bv_mk h l h1 h2] at this
  exact this

theorem make_no (f : Int) (h0 : 0 ≤ f) (h1 : f ≤ 255) (h : ¬ f < 4) (neg : Bool) (e : Int) (t : BitVec 128) (w : World) (hT : Tab w) :
    Calls Tryd.prog 22 #[.int .u8 f, .bool neg, .int .i64 e, Bv t] w fun x w' => x = .returned (Bv (fMake f neg e t)) ∧ Gr w w' := by
  obtain ⟨q1, q2, q3, q4⟩ := f_none f h
  rw [show fMake f neg e t = 0#128 by unfold fMake; rw [if_neg h]]
  simp only [Bv]
  go_enter Tryd.func22, Tryd.ntmps22
  go_wp2_with (first
    | (go_at_call 30; refine (of_any f h0 h1 _ (hT.below (by (repeat (first | exact Below.refl _ _ | assumption | apply Below.drew | apply below_drewN | refine Below.alloc ?_ (by first | omega | (simp <;> omega)) _ | refine Below.setCell ?_ (by first | omega | (simp <;> omega)) _ | refine Below.trans ?_ (Below.mono (by assumption) (by first | omega | (simp <;> omega)))))))).mono ?_; rintro e w1 ⟨rfl, hb1⟩; rw [q1, q2, q3]; (try (with_reducible replace hb1 := undrew hb1)); obtain ⟨hc1, hf1⟩ := bcell hb1; have hs1 := hb1.size; (try simp at hs1); have z1_0 : w.heap.size < w1.heap.size := (by omega); have z1_1 : w.heap.size + 1 < w1.heap.size := (by omega)))
  simp [bodyPost, results, Tryd.results22, go_sem, *]
  refine ⟨by decide, ?_⟩
  (repeat (first | exact Below.refl _ _ | assumption | apply Below.drew | apply below_drewN | refine Below.alloc ?_ (by first | omega | (simp <;> omega)) _ | refine Below.setCell ?_ (by first | omega | (simp <;> omega)) _ | refine Below.trans ?_ (Below.mono (by assumption) (by first | omega | (simp <;> omega)))))

/-- What the walk of Make keeps: the fraction's block, the result's block, the numbers' block. -/
def MakeAt (f : Int) (t : BitVec 128) (w : World) (k : Nat) (wx : World) : Prop :=
  wx.cell? ⟨w.heap.size, 0, none⟩ = some (.int .u64 (hiB t)) ∧ wx.cell? ⟨w.heap.size, 1, none⟩ = some (.int .u64 (loB t)) ∧ wx.cell? ⟨w.heap.size + 1, 0, none⟩ = some (.int .u64 0) ∧ wx.cell? ⟨w.heap.size + 1, 1, none⟩ = some (.int .u64 0) ∧
    wx.frozen? ⟨w.heap.size + 1, 0, none⟩ = false ∧ wx.frozen? ⟨w.heap.size + 1, 1, none⟩ = false ∧
    wx.cell? ⟨k, 0, none⟩ = some (.int .i64 (fWd f)) ∧ wx.cell? ⟨k, 1, none⟩ = some (.int .i64 (fPr f)) ∧ Below w.heap.size w wx ∧ k < wx.heap.size ∧ w.heap.size + 1 < k

def eBad (e : Int) : Bool := decide (e < 0 ∨ 1048576 < e)
theorem eCut_bad {e : Int} (h : eBad e = true) : eCut e = 0 := by unfold eCut; rw [if_pos (of_decide_eq_true h)]
theorem eCut_ok {e : Int} (h : eBad e = false) : eCut e = e := by unfold eCut; rw [if_neg (of_decide_eq_false h)]
set_option maxHeartbeats 4000000 in
theorem make_yes (f : Int) (h0 : 0 ≤ f) (h : f < 4) (neg : Bool) (e : Int) (t : BitVec 128) (w : World) (hT : Tab w) :
    Calls Tryd.prog 22 #[.int .u8 f, .bool neg, .int .i64 e, Bv t] w fun x w' => x = .returned (Bv (fMake f neg e t)) ∧ Gr w w' := by
  obtain ⟨hw0, hw1, hp0, hp1, _, _, hd0, hd1⟩ := f_bounds f h0 h
  have hwz : (fWd f == 0) = false := by simp; omega
  have he0 : 0 ≤ eCut e := by unfold eCut; split <;> omega
  have he1 : eCut e ≤ 1048576 := by unfold eCut; split <;> omega
  have X1 := Lib.hid (IntWalk.i64_in (fPr f - 1) (by omega))
  have X2 := Lib.hid (IntWalk.i64_in (fWd f - 1) (by omega))
  have X3 := Lib.hid (IntWalk.i64_in (fWd f - fPr f) (by omega))
  have X4 := Lib.hid (show IntKind.u64.wrap (eCut e) = eCut e by rw [IntKind.wrap_u64]; omega)
  have W0 : Word 0 := ⟨by decide, by decide⟩
  have W1 : Word 1 := ⟨by decide, by decide⟩
  have WE : Word (eCut e) := ⟨he0, by omega⟩
  rw [show fMake f neg e t = (if neg then bAdd (bAdd (bShl (fLow (mkB 0 (eCut e)) (fWd f - fPr f)) (fPr f - 1)) (fLow t (fPr f - 1))) (bShl (mkB 0 1) (fWd f - 1))
     else bAdd (bShl (fLow (mkB 0 (eCut e)) (fWd f - fPr f)) (fPr f - 1)) (fLow t (fPr f - 1))) by unfold fMake; rw [if_pos h]]
  simp only [Bv]
  go_enter Tryd.func22, Tryd.ntmps22
  go_upto_region 4 with (first
    | (go_at_call 30; refine (of_any f h0 (by omega) _ (hT.below (by (repeat (first | exact Below.refl _ _ | assumption | apply Below.drew | apply below_drewN | refine Below.alloc ?_ (by first | omega | (simp <;> omega)) _ | refine Below.setCell ?_ (by first | omega | (simp <;> omega)) _ | refine Below.trans ?_ (Below.mono (by assumption) (by first | omega | (simp <;> omega)))))))).mono ?_; rintro e w1 ⟨rfl, hb1⟩; (try (with_reducible replace hb1 := undrew hb1)); obtain ⟨hc1, hf1⟩ := bcell hb1; have hs1 := hb1.size; (try simp at hs1); have z1_0 : w.heap.size < w1.heap.size := (by omega); have z1_0_1 : w.heap.size < w1.heap.size + 1 := (by omega); have z1_0_2 : w.heap.size < w1.heap.size + 1 + 1 := (by omega); have z1_1 : w.heap.size + 1 < w1.heap.size := (by omega); have z1_1_1 : w.heap.size + 1 < w1.heap.size + 1 := (by omega); have z1_1_2 : w.heap.size + 1 < w1.heap.size + 1 + 1 := (by omega)))
  go_cut [22] (fun s22 wx => s22 = .bool (eBad e) ∧ MakeAt f t w w1.heap.size wx)
  case first =>
    by_cases a1 : e < 0
    · go_wp2
      go_meet
      refine ⟨by unfold eBad; rw [decide_eq_true (Or.inl a1)], ?_⟩
      (unfold MakeAt; refine ⟨?_, ?_, ?_, ?_, ?_, ?_, ?_, ?_, ?_, ?_, ?_⟩ <;> first | (simp [go_sem, *]; done) | omega | (simp [go_sem, *]; omega) | (repeat (first | exact Below.refl _ _ | assumption | apply Below.drew | apply below_drewN | refine Below.alloc ?_ (by first | omega | (simp <;> omega)) _ | refine Below.setCell ?_ (by first | omega | (simp <;> omega)) _ | refine Below.trans ?_ (Below.mono (by assumption) (by first | omega | (simp <;> omega))))))
    · by_cases a2 : 1048576 < e
      · go_wp2
        go_meet
        refine ⟨by unfold eBad; rw [decide_eq_true (Or.inr a2)], ?_⟩
        (unfold MakeAt; refine ⟨?_, ?_, ?_, ?_, ?_, ?_, ?_, ?_, ?_, ?_, ?_⟩ <;> first | (simp [go_sem, *]; done) | omega | (simp [go_sem, *]; omega) | (repeat (first | exact Below.refl _ _ | assumption | apply Below.drew | apply below_drewN | refine Below.alloc ?_ (by first | omega | (simp <;> omega)) _ | refine Below.setCell ?_ (by first | omega | (simp <;> omega)) _ | refine Below.trans ?_ (Below.mono (by assumption) (by first | omega | (simp <;> omega))))))
      · go_wp2
        go_meet
        refine ⟨by unfold eBad; rw [decide_eq_false (by omega)], ?_⟩
        (unfold MakeAt; refine ⟨?_, ?_, ?_, ?_, ?_, ?_, ?_, ?_, ?_, ?_, ?_⟩ <;> first | (simp [go_sem, *]; done) | omega | (simp [go_sem, *]; omega) | (repeat (first | exact Below.refl _ _ | assumption | apply Below.drew | apply below_drewN | refine Below.alloc ?_ (by first | omega | (simp <;> omega)) _ | refine Below.setCell ?_ (by first | omega | (simp <;> omega)) _ | refine Below.trans ?_ (Below.mono (by assumption) (by first | omega | (simp <;> omega))))))
  case rest =>
    obtain ⟨rfl, hM⟩ := hcut
    have HM := Lib.hid hM
    clear hM
    go_upto_if 22 with fail
    go_cut [2] (fun s2 wx => s2 = .int .i64 (eCut e) ∧ MakeAt f t w w1.heap.size wx)
    case first =>
      go_wp2
      · go_meet
        have hb : eBad e = true := by assumption
        exact ⟨by rw [eCut_bad hb], HM.out⟩
      · go_meet
        have hb : eBad e = false := by first | assumption | (simp only [Bool.not_eq_true] at *; assumption)
        exact ⟨by rw [eCut_ok hb], HM.out⟩
    case rest =>
      obtain ⟨rfl, hM2⟩ := hcut
      clear HM
      unfold MakeAt at hM2
      obtain ⟨c3, c4, c5, c6, c7, c8, c9, c10, hbx, hs, hs2⟩ := hM2
      have z0 : w.heap.size < wc.heap.size := by omega
      have z1 : w.heap.size + 1 < wc.heap.size := by omega
      go_upto_region 6 with fail
      go_cut [10] (fun s10 wx => ∃ g : Nat, s10 = .pointer (some ⟨g, 0, none⟩) ∧ wx.cell? ⟨g, 0, none⟩ = some (.int .u64 (hiB (bShl (fLow (mkB 0 (eCut e)) (fWd f - fPr f)) (fPr f - 1)))) ∧ wx.cell? ⟨g, 1, none⟩ = some (.int .u64 (loB (bShl (fLow (mkB 0 (eCut e)) (fWd f - fPr f)) (fPr f - 1)))) ∧
        wx.frozen? ⟨g, 0, none⟩ = false ∧ wx.frozen? ⟨g, 1, none⟩ = false ∧ g < wx.heap.size ∧ w.heap.size + 1 < g ∧ w1.heap.size < g ∧ MakeAt f t w w1.heap.size wx)
      case first =>
        go_region_held3 (fun w' => w'.cell? ⟨w1.heap.size, 0, none⟩ = some (.int .i64 (fWd f)) ∧ w'.cell? ⟨w1.heap.size, 1, none⟩ = some (.int .i64 (fPr f)))
          (simp [go_sem, *])
          (first
            | (go_at_call 25; rw [X3.out]; (try rw [X4.out]); refine (low_hl _ _ W0 WE _ (by omega) (by omega) _).mono ?_; rintro e w2 ⟨rfl, hb2⟩; (try (with_reducible replace hb2 := undrew hb2)); obtain ⟨hc2, hf2⟩ := bcell hb2; have hs2 := hb2.size; (try simp at hs2); have z2_0 : w.heap.size < w2.heap.size := (by omega); have z2_0_1 : w.heap.size < w2.heap.size + 1 := (by omega); have z2_1 : w.heap.size + 1 < w2.heap.size := (by omega); have z2_1_1 : w.heap.size + 1 < w2.heap.size + 1 := (by omega); have y2 : w1.heap.size < w2.heap.size := (by omega); have y2' : w1.heap.size < w2.heap.size + 1 := (by omega); (try have t2 : wc.heap.size < w2.heap.size := (by omega)))
            | (go_at_call 16; rw [X1.out]; refine (left_any _ _ _).mono ?_; rintro e w3 ⟨rfl, hb3⟩; (try (with_reducible replace hb3 := undrew hb3)); obtain ⟨hc3, hf3⟩ := bcell hb3; have hs3 := hb3.size; (try simp at hs3); have z3_0 : w.heap.size < w3.heap.size := (by omega); have z3_0_1 : w.heap.size < w3.heap.size + 1 := (by omega); have z3_1 : w.heap.size + 1 < w3.heap.size := (by omega); have z3_1_1 : w.heap.size + 1 < w3.heap.size + 1 := (by omega); have y3 : w1.heap.size < w3.heap.size := (by omega); have y3' : w1.heap.size < w3.heap.size + 1 := (by omega); (try have t3 : wc.heap.size < w3.heap.size := (by omega)); (try have t3' : w2.heap.size < w3.heap.size := (by omega))))
        all_goals (go_wp2_with fail; go_meet; refine ⟨_, rfl, ?_, ?_, ?_, ?_, ?_, ?_, ?_, ?_⟩)
        all_goals first | (simp [go_sem, *]; done) | omega | (simp [go_sem, *]; omega) | (unfold MakeAt; refine ⟨?_, ?_, ?_, ?_, ?_, ?_, ?_, ?_, ?_, ?_, ?_⟩ <;> first | (simp [go_sem, *]; done) | omega | (simp [go_sem, *]; omega) | (repeat (first | exact Below.refl _ _ | assumption | apply Below.drew | apply below_drewN | refine Below.alloc ?_ (by first | omega | (simp <;> omega)) _ | refine Below.setCell ?_ (by first | omega | (simp <;> omega)) _ | refine Below.trans ?_ (Below.mono (by assumption) (by first | omega | (simp <;> omega))))))
      case rest =>
        obtain ⟨g, rfl, d1, d2, d3, d4, hg, hg2, hg3, hM3⟩ := hcut
        unfold MakeAt at hM3
        clear c3 c4 c5 c6 c7 c8 c9 c10 hbx hs
        obtain ⟨c3, c4, c5, c6, c7, c8, c9, c10, hbx, hs, hs3⟩ := hM3
        have n1 : ¬ g = w.heap.size + 1 := by omega
        have n2 : ¬ w.heap.size + 1 = g := by omega
        have n3 : ¬ g = w1.heap.size := by omega
        have n4 : ¬ w1.heap.size = g := by omega
        have n5 : ¬ g = w.heap.size := by omega
        have n6 : ¬ w.heap.size = g := by omega
        have z0 : w.heap.size < wc.heap.size := by omega
        have z1 : w.heap.size + 1 < wc.heap.size := by omega
        go_upto_region 7 with fail
        go_cut [] (fun wx => wx.cell? ⟨g, 0, none⟩ = some (.int .u64 (hiB (bAdd (bShl (fLow (mkB 0 (eCut e)) (fWd f - fPr f)) (fPr f - 1)) (fLow t (fPr f - 1))))) ∧ wx.cell? ⟨g, 1, none⟩ = some (.int .u64 (loB (bAdd (bShl (fLow (mkB 0 (eCut e)) (fWd f - fPr f)) (fPr f - 1)) (fLow t (fPr f - 1))))) ∧
          wx.frozen? ⟨g, 0, none⟩ = false ∧ wx.frozen? ⟨g, 1, none⟩ = false ∧ g < wx.heap.size ∧ MakeAt f t w w1.heap.size wx)
        case first =>
          go_region_with (first
              | (go_at_call 25; rw [X1.out]; refine (low_any _ _ (by omega) (by omega) _).mono ?_; rintro e w4 ⟨rfl, hb4⟩; (try (with_reducible replace hb4 := undrew hb4)); obtain ⟨hc4, hf4⟩ := bcell hb4; have hs4 := hb4.size; (try simp at hs4); have z4_0 : w.heap.size < w4.heap.size := (by omega); have z4_1 : w.heap.size + 1 < w4.heap.size := (by omega); have k1 : w1.heap.size < w4.heap.size := (by omega); have k2 : g < w4.heap.size := (by omega))
              | (go_at_call 32; refine (add_any _ _ _).mono ?_; rintro e w5 ⟨rfl, hb5⟩; (try (with_reducible replace hb5 := undrew hb5)); obtain ⟨hc5, hf5⟩ := bcell hb5; have hs5 := hb5.size; (try simp at hs5); have z5_0 : w.heap.size < w5.heap.size := (by omega); have z5_1 : w.heap.size + 1 < w5.heap.size := (by omega); have k3 : w1.heap.size < w5.heap.size := (by omega); have k4 : g < w5.heap.size := (by omega)))
          all_goals (go_wp2_with fail; go_meet; refine ⟨?_, ?_, ?_, ?_, ?_, ?_⟩)
          all_goals first | (simp [go_sem, *]; done) | omega | (simp [go_sem, *]; omega) | (unfold MakeAt; refine ⟨?_, ?_, ?_, ?_, ?_, ?_, ?_, ?_, ?_, ?_, ?_⟩ <;> first | (simp [go_sem, *]; done) | omega | (simp [go_sem, *]; omega) | (repeat (first | exact Below.refl _ _ | assumption | apply Below.drew | apply below_drewN | refine Below.alloc ?_ (by first | omega | (simp <;> omega)) _ | refine Below.setCell ?_ (by first | omega | (simp <;> omega)) _ | refine Below.trans ?_ (Below.mono (by assumption) (by first | omega | (simp <;> omega))))))
        case rest =>
          obtain ⟨d1, d2, d3, d4, hg, hM4⟩ := hcut
          unfold MakeAt at hM4
          clear c3 c4 c5 c6 c7 c8 c9 c10 hbx hs
          obtain ⟨c3, c4, c5, c6, c7, c8, c9, c10, hbx, hs, hs4⟩ := hM4
          have z0 : w.heap.size < wc.heap.size := by omega
          have z1 : w.heap.size + 1 < wc.heap.size := by omega
          cases neg
          · go_wp2
            simp [bodyPost, results, Tryd.results22, go_sem, *]
            (repeat (first | exact Below.refl _ _ | assumption | apply Below.drew | apply below_drewN | refine Below.alloc ?_ (by first | omega | (simp <;> omega)) _ | refine Below.setCell ?_ (by first | omega | (simp <;> omega)) _ | refine Below.trans ?_ (Below.mono (by assumption) (by first | omega | (simp <;> omega)))))
          · go_wp2
            go_region_with (first
                | (go_at_call 16; rw [X2.out]; refine (left_hl _ _ W0 W1 _ _).mono ?_; rintro e w6 ⟨rfl, hb6⟩; (try (with_reducible replace hb6 := undrew hb6)); obtain ⟨hc6, hf6⟩ := bcell hb6; have hs6 := hb6.size; (try simp at hs6); have z6_0 : w.heap.size < w6.heap.size := (by omega); have z6_1 : w.heap.size + 1 < w6.heap.size := (by omega); have k5 : w1.heap.size < w6.heap.size := (by omega); have k6 : g < w6.heap.size := (by omega))
                | (go_at_call 32; refine (add_any _ _ _).mono ?_; rintro e w7 ⟨rfl, hb7⟩; (try (with_reducible replace hb7 := undrew hb7)); obtain ⟨hc7, hf7⟩ := bcell hb7; have hs7 := hb7.size; (try simp at hs7); have z7_0 : w.heap.size < w7.heap.size := (by omega); have z7_1 : w.heap.size + 1 < w7.heap.size := (by omega); have k7 : w1.heap.size < w7.heap.size := (by omega); have k8 : g < w7.heap.size := (by omega)))
            all_goals go_wp2
            all_goals simp [bodyPost, results, Tryd.results22, go_sem, *]
            all_goals (repeat (first | exact Below.refl _ _ | assumption | apply Below.drew | apply below_drewN | refine Below.alloc ?_ (by first | omega | (simp <;> omega)) _ | refine Below.setCell ?_ (by first | omega | (simp <;> omega)) _ | refine Below.trans ?_ (Below.mono (by assumption) (by first | omega | (simp <;> omega)))))
theorem make_any (f : Int) (h0 : 0 ≤ f) (h1 : f ≤ 255) (neg : Bool) (e : Int) (t : BitVec 128) (w : World) (hT : Tab w) :
    Calls Tryd.prog 22 #[.int .u8 f, .bool neg, .int .i64 e, Bv t] w fun x w' => x = .returned (Bv (fMake f neg e t)) ∧ Gr w w' := by
  by_cases h : f < 4
  · exact make_yes f h0 h neg e t w hT
  · exact make_no f h0 h1 h neg e t w hT
end Hb
end Go.Proofs.YtmnoghkbmkiplaaDoor
