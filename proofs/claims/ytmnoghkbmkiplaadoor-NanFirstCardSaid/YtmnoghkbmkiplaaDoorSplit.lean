/-
  THE WALKS of package format: Split. Conditions: the table of the formats holds its numbers.
-/
import Derived.Test.YtmnoghkbmkiplaaDoorFormat
import Derived.Deep.DeepCutAuto
import Derived.IntWalk
import Derived.Lib.Hide
namespace Go.Proofs.YtmnoghkbmkiplaaDoor
open Go.RowKit
namespace Hb
theorem split_no (f : Int) (h0 : 0 ≤ f) (h1 : f ≤ 255) (h : ¬ f < 4) (b : BitVec 128) (w : World) (hT : Tab w) :
    Calls Tryd.prog 18 #[.int .u8 f, Bv b] w fun e w' => e = .returned (.tuple #[.bool (fNeg f b), .int .i64 (fExp f b), Bv (fFrac f b)]) ∧ Gr w w' := by
  obtain ⟨q1, q2, q3, q4⟩ := f_none f h
  have e1 : fNeg f b = false := by unfold fNeg; rw [q4]; rfl
  have e2 : fExp f b = 0 := by unfold fExp; rw [if_neg h]
  have e3 : fFrac f b = 0#128 := by unfold fFrac; rw [if_neg h]
  rw [e1, e2, e3]
  clear e1 e2 e3
  simp only [Bv]
  go_enter Tryd.func18, Tryd.ntmps18
  go_wp2_with (first
    | (go_at_call 30; refine (of_any f h0 h1 _ (hT.below (by (repeat (first | exact Below.refl _ _ | assumption | apply Below.drew | apply below_drewN | refine Below.alloc ?_ (by first | omega | (simp <;> omega)) _ | refine Below.setCell ?_ (by first | omega | (simp <;> omega)) _ | refine Below.trans ?_ (Below.mono (by assumption) (by first | omega | (simp <;> omega)))))))).mono ?_; rintro e w1 ⟨rfl, hb1⟩; rw [q1, q2, q3]; (try (with_reducible replace hb1 := undrew hb1)); obtain ⟨hc1, hf1⟩ := bcell hb1; have hs1 := hb1.size; (try simp at hs1); have z1_0 : w.heap.size < w1.heap.size := (by omega); have z1_1 : w.heap.size + 1 < w1.heap.size := (by omega)))
  simp [bodyPost, results, Tryd.results18, go_sem, *]
  refine ⟨by decide, ?_⟩
  (repeat (first | exact Below.refl _ _ | assumption | apply Below.drew | apply below_drewN | refine Below.alloc ?_ (by first | omega | (simp <;> omega)) _ | refine Below.setCell ?_ (by first | omega | (simp <;> omega)) _ | refine Below.trans ?_ (Below.mono (by assumption) (by first | omega | (simp <;> omega)))))
theorem split_yes (f : Int) (h0 : 0 ≤ f) (h : f < 4) (b : BitVec 128) (w : World) (hT : Tab w) :
    Calls Tryd.prog 18 #[.int .u8 f, Bv b] w fun e w' => e = .returned (.tuple #[.bool (fNeg f b), .int .i64 (fExp f b), Bv (fFrac f b)]) ∧ Gr w w' := by
  obtain ⟨hw0, hw1, hp0, hp1, _, _, hd0, hd1⟩ := f_bounds f h0 h
  have hwz : (fWd f == 0) = false := by simp; omega
  have e1 : fNeg f b = bBit b (fWd f - 1) := by unfold fNeg fKn; rw [decide_eq_true h]; rfl
  have e2 : fExp f b = loB (fLow (bShr (fCut f b) (fPr f - 1)) (fWd f - fPr f)) := by unfold fExp; rw [if_pos h]
  have e3 : fFrac f b = fLow b (fPr f - 1) := by unfold fFrac; rw [if_pos h]
  have hlt := exp_lt f b h0
  rw [e2] at hlt
  obtain ⟨g0, g1⟩ := hlt
  rw [e1, e2, e3]
  clear e1 e2 e3
  have X1 := Lib.hid (IntWalk.i64_in (fPr f - 1) (by omega))
  have X2 := Lib.hid (IntWalk.i64_in (fWd f - 1) (by omega))
  have X3 := Lib.hid (IntWalk.i64_in (fWd f - fPr f) (by omega))
  have hfld : ∀ (a c : Int) (w : World), (Instr.field 26 (.agg #[.int .u64 a, .int .u64 c]) 1).run Tryd.prog w = .ok (.int .u64 c) w := fun _ _ _ => by kernel_rfl
  simp only [Bv]
  go_enter Tryd.func18, Tryd.ntmps18
  go_upto_region 4 with (first
    | (go_at_call 30; refine (of_any f h0 (by omega) _ (hT.below (by (repeat (first | exact Below.refl _ _ | assumption | apply Below.drew | apply below_drewN | refine Below.alloc ?_ (by first | omega | (simp <;> omega)) _ | refine Below.setCell ?_ (by first | omega | (simp <;> omega)) _ | refine Below.trans ?_ (Below.mono (by assumption) (by first | omega | (simp <;> omega)))))))).mono ?_; rintro e w1 ⟨rfl, hb1⟩; (try (with_reducible replace hb1 := undrew hb1)); obtain ⟨hc1, hf1⟩ := bcell hb1; have hs1 := hb1.size; (try simp at hs1); have z1_0 : w.heap.size < w1.heap.size := (by omega); have z1_0_1 : w.heap.size < w1.heap.size + 1 := (by omega); have z1_0_2 : w.heap.size < w1.heap.size + 1 + 1 := (by omega); have z1_1 : w.heap.size + 1 < w1.heap.size := (by omega); have z1_1_1 : w.heap.size + 1 < w1.heap.size + 1 := (by omega); have z1_1_2 : w.heap.size + 1 < w1.heap.size + 1 + 1 := (by omega)))
  go_cut [8] (fun s8 wx => ∃ g : Nat, s8 = .pointer (some ⟨g, 0, none⟩) ∧ wx.cell? ⟨g, 0, none⟩ = some (.int .u64 (hiB (bShr (fCut f b) (fPr f - 1)))) ∧ wx.cell? ⟨g, 1, none⟩ = some (.int .u64 (loB (bShr (fCut f b) (fPr f - 1)))) ∧
    wx.cell? ⟨w.heap.size, 0, none⟩ = some (.int .u64 (hiB b)) ∧ wx.cell? ⟨w.heap.size, 1, none⟩ = some (.int .u64 (loB b)) ∧ wx.cell? ⟨w.heap.size + 1, 0, none⟩ = some (.int .u64 0) ∧ wx.cell? ⟨w.heap.size + 1, 1, none⟩ = some (.int .u64 0) ∧
    wx.frozen? ⟨w.heap.size + 1, 0, none⟩ = false ∧ wx.frozen? ⟨w.heap.size + 1, 1, none⟩ = false ∧
    wx.cell? ⟨w1.heap.size, 0, none⟩ = some (.int .i64 (fWd f)) ∧ wx.cell? ⟨w1.heap.size, 1, none⟩ = some (.int .i64 (fPr f)) ∧ Below w.heap.size w wx ∧ g < wx.heap.size ∧ w1.heap.size < wx.heap.size ∧ w.heap.size + 1 < w1.heap.size ∧ w.heap.size + 1 < g)
  case first =>
    go_region_held3 (fun w' => w'.cell? ⟨w.heap.size, 0, none⟩ = some (.int .u64 (hiB b)) ∧ w'.cell? ⟨w.heap.size, 1, none⟩ = some (.int .u64 (loB b)) ∧ w'.cell? ⟨w1.heap.size, 1, none⟩ = some (.int .i64 (fPr f)))
      (simp [go_sem, *])
      (first
        | (go_at_call 15; refine (cut_any f h0 (by omega) b _ (hT.below (by (repeat (first | exact Below.refl _ _ | assumption | apply Below.drew | apply below_drewN | refine Below.alloc ?_ (by first | omega | (simp <;> omega)) _ | refine Below.setCell ?_ (by first | omega | (simp <;> omega)) _ | refine Below.trans ?_ (Below.mono (by assumption) (by first | omega | (simp <;> omega)))))))).mono ?_; rintro e w2 ⟨rfl, hb2⟩; (try (with_reducible replace hb2 := undrew hb2)); obtain ⟨hc2, hf2⟩ := bcell hb2; have hs2 := hb2.size; (try simp at hs2); have z2_0 : w.heap.size < w2.heap.size := (by omega); have z2_0_1 : w.heap.size < w2.heap.size + 1 := (by omega); have z2_1 : w.heap.size + 1 < w2.heap.size := (by omega); have z2_1_1 : w.heap.size + 1 < w2.heap.size + 1 := (by omega); have y2 : w1.heap.size < w2.heap.size := (by omega); have y2' : w1.heap.size < w2.heap.size + 1 := (by omega); (try have t2 : w1.heap.size + 1 < w2.heap.size := (by omega)))
        | (go_at_call 31; rw [X1.out]; refine (right_any _ _ _).mono ?_; rintro e w3 ⟨rfl, hb3⟩; (try (with_reducible replace hb3 := undrew hb3)); obtain ⟨hc3, hf3⟩ := bcell hb3; have hs3 := hb3.size; (try simp at hs3); have z3_0 : w.heap.size < w3.heap.size := (by omega); have z3_0_1 : w.heap.size < w3.heap.size + 1 := (by omega); have z3_1 : w.heap.size + 1 < w3.heap.size := (by omega); have z3_1_1 : w.heap.size + 1 < w3.heap.size + 1 := (by omega); have y3 : w1.heap.size < w3.heap.size := (by omega); have y3' : w1.heap.size < w3.heap.size + 1 := (by omega); (try have t3 : w1.heap.size + 1 < w3.heap.size := (by omega)); (try have t3' : w2.heap.size < w3.heap.size := (by omega))))
    all_goals (go_wp2_with fail; go_meet; refine ⟨_, rfl, ?_, ?_, ?_, ?_, ?_, ?_, ?_, ?_, ?_, ?_, ?_, ?_, ?_, ?_, ?_⟩)
    all_goals first | (simp [go_sem, *]; done) | omega | (simp [go_sem, *]; omega) | (repeat (first | exact Below.refl _ _ | assumption | apply Below.drew | apply below_drewN | refine Below.alloc ?_ (by first | omega | (simp <;> omega)) _ | refine Below.setCell ?_ (by first | omega | (simp <;> omega)) _ | refine Below.trans ?_ (Below.mono (by assumption) (by first | omega | (simp <;> omega)))))
  case rest =>
    obtain ⟨g, rfl, c1, c2, c3, c4, c5, c6, c7, c8, c9, c10, hbx, hg, hs, hs2, hs3⟩ := hcut
    have n1 : ¬ g = w.heap.size + 1 := by omega
    have n2 : ¬ w.heap.size + 1 = g := by omega
    go_wp2
    go_region_held3 (fun w' => w'.cell? ⟨w.heap.size, 0, none⟩ = some (.int .u64 (hiB b)) ∧ w'.cell? ⟨w.heap.size, 1, none⟩ = some (.int .u64 (loB b)) ∧ w'.cell? ⟨w1.heap.size, 0, none⟩ = some (.int .i64 (fWd f)) ∧ w'.cell? ⟨w1.heap.size, 1, none⟩ = some (.int .i64 (fPr f)) ∧
        w'.cell? ⟨g, 0, none⟩ = some (.int .u64 (hiB (bShr (fCut f b) (fPr f - 1)))) ∧ w'.cell? ⟨g, 1, none⟩ = some (.int .u64 (loB (bShr (fCut f b) (fPr f - 1)))))
      (simp [go_sem, *])
      (first
        | (go_at_call 21; rw [X2.out]; refine (bit_any _ _ (by omega) (by omega) _).mono ?_; rintro e w4 ⟨rfl, hb4⟩; (try (with_reducible replace hb4 := undrew hb4)); obtain ⟨hc4, hf4⟩ := bcell hb4; have hs4 := hb4.size; (try simp at hs4); have v1 : w.heap.size < wc.heap.size := (by omega); have v2 : w.heap.size + 1 < wc.heap.size := (by omega); have v3 : w.heap.size < w4.heap.size := (by omega); have v4 : w.heap.size + 1 < w4.heap.size := (by omega); have v5 : w1.heap.size < w4.heap.size := (by omega); have v6 : g < w4.heap.size := (by omega))
        | (go_at_call_of 25 (Value.int IntKind.i64 (IntKind.i64.wrap (fWd f - fPr f))); rw [X3.out]; refine (low_any _ _ (by omega) (by omega) _).mono ?_; rintro e w5 ⟨rfl, hb5⟩; (try (with_reducible replace hb5 := undrew hb5)); obtain ⟨hc5, hf5⟩ := bcell hb5; have hs5 := hb5.size; (try simp at hs5); have v7 : w.heap.size < w5.heap.size := (by omega); have v8 : w.heap.size + 1 < w5.heap.size := (by omega); have v9 : w1.heap.size < w5.heap.size := (by omega); have va : g < w5.heap.size := (by omega))
        | (go_at_call 25; rw [X1.out]; refine (low_any _ _ (by omega) (by omega) _).mono ?_; rintro e w6 ⟨rfl, hb6⟩; (try (with_reducible replace hb6 := undrew hb6)); obtain ⟨hc6, hf6⟩ := bcell hb6; have hs6 := hb6.size; (try simp at hs6); have vb : w.heap.size + 1 < w6.heap.size := (by omega)))
    go_wp2
    simp [bodyPost, results, Tryd.results18, go_sem, *]
    refine ⟨IntWalk.i64_in _ (by omega), ?_⟩
    (repeat (first | exact Below.refl _ _ | assumption | apply Below.drew | apply below_drewN | refine Below.alloc ?_ (by first | omega | (simp <;> omega)) _ | refine Below.setCell ?_ (by first | omega | (simp <;> omega)) _ | refine Below.trans ?_ (Below.mono (by assumption) (by first | omega | (simp <;> omega)))))
theorem split_any (f : Int) (h0 : 0 ≤ f) (h1 : f ≤ 255) (b : BitVec 128) (w : World) (hT : Tab w) :
    Calls Tryd.prog 18 #[.int .u8 f, Bv b] w fun e w' => e = .returned (.tuple #[.bool (fNeg f b), .int .i64 (fExp f b), Bv (fFrac f b)]) ∧ Gr w w' := by
  by_cases h : f < 4
  · exact split_yes f h0 h b w hT
  · exact split_no f h0 h1 h b w hT
end Hb
end Go.Proofs.YtmnoghkbmkiplaaDoor
