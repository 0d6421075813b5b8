/-
  THE WALKS of nan.Quiet, nan.Default: each hands back what the plain part says; what stood in memory stands. Conditions: the table of the formats holds its numbers.
-/
import Derived.Test.YtmnoghkbmkiplaaDoorClass
import Derived.Test.YtmnoghkbmkiplaaDoorNanPlain
import Derived.RegionTactic
import Derived.ChangeAlike
namespace Go.Proofs.YtmnoghkbmkiplaaDoor
open Go.RowKit
namespace Hb
set_option maxRecDepth 20000
theorem pr_bd (f : Int) (l : 0 ≤ f) : 0 ≤ fPr f ∧ fPr f ≤ 113 := by
  by_cases h : f < 4
  · have := f_bounds f l h; omega
  · have := (f_none f h).2.1; omega
set_option maxHeartbeats 2000000 in
theorem quiet_core (f : Int) (l : 0 ≤ f) (u : f ≤ 255) (b C T z : BitVec 128) (r : Bool) (p : Int) (HC : Hid (fCut f b = C)) (HN : Hid (cNaN f C = r)) (HP : Hid (fPr f = p)) (HT : Hid (bShl (mkB 0 1) (p - 2) = T))
    (hp : 0 ≤ p) (hp' : p ≤ 113) (hz : (r = false ∧ z = C) ∨ (r = true ∧ z = bOr C T)) (w : World) (hT : Tab w) :
    Calls Tryd.prog 7 #[.int .u8 f, Bv b] w fun e w' => e = .returned (Bv z) ∧ Gr w w' := by
  simp only [Bv]
  rcases hz with ⟨rfl, rfl⟩ | ⟨rfl, rfl⟩
  ·
    have o2_0 : w.heap.size < w.heap.size + 1 + 1 := by omega
    go_enter Tryd.func7, Tryd.ntmps7
    go_wp2_with (first
      | (go_at_call 15; refine (cut_as f l u b _ HC _ (hT.below (by (repeat (first | exact Below.refl _ _ | assumption | apply Below.drew | apply below_drewN | refine Below.alloc ?_ (by first | omega | (simp <;> omega)) _ | refine Below.setCell ?_ (by first | omega | (simp <;> omega)) _ | refine Below.trans ?_ (Below.mono (by assumption) (by first | omega | (simp <;> omega)))))))).mono ?_; rintro e w1 ⟨rfl, hb1⟩; (try (with_reducible replace hb1 := undrew hb1)); obtain ⟨hc1, hf1⟩ := bcell hb1; have hs1 := hb1.size; (try simp at hs1); (try have y1_0_0 : w.heap.size < w1.heap.size := (by omega)); (try have y1_1_0 : w.heap.size + 1 < w1.heap.size := (by omega)))
      | (go_at_call 4; refine (nan_as f l u _ _ HN _ (hT.below (by (repeat (first | exact Below.refl _ _ | assumption | apply Below.drew | apply below_drewN | refine Below.alloc ?_ (by first | omega | (simp <;> omega)) _ | refine Below.setCell ?_ (by first | omega | (simp <;> omega)) _ | refine Below.trans ?_ (Below.mono (by assumption) (by first | omega | (simp <;> omega)))))))).mono ?_; rintro e w2 ⟨rfl, hb2⟩; (try (with_reducible replace hb2 := undrew hb2)); obtain ⟨hc2, hf2⟩ := bcell hb2; have hs2 := hb2.size; (try simp at hs2); (try have y2_0_0 : w.heap.size < w2.heap.size := (by omega)); (try have y2_1_0 : w.heap.size + 1 < w2.heap.size := (by omega))))
    simp [bodyPost, results, Tryd.results7, go_sem, *]
    (repeat (first | exact Below.refl _ _ | assumption | apply Below.drew | apply below_drewN | refine Below.alloc ?_ (by first | omega | (simp <;> omega)) _ | refine Below.setCell ?_ (by first | omega | (simp <;> omega)) _ | refine Below.trans ?_ (Below.mono (by assumption) (by first | omega | (simp <;> omega)))))
  · have hoh := or_hi C T
    have hol := or_lo C T
    have o2_0 : w.heap.size < w.heap.size + 1 + 1 := by omega
    go_enter Tryd.func7, Tryd.ntmps7
    go_upto_region 4 with (first
      | (go_at_call 15; refine (cut_as f l u b _ HC _ (hT.below (by (repeat (first | exact Below.refl _ _ | assumption | apply Below.drew | apply below_drewN | refine Below.alloc ?_ (by first | omega | (simp <;> omega)) _ | refine Below.setCell ?_ (by first | omega | (simp <;> omega)) _ | refine Below.trans ?_ (Below.mono (by assumption) (by first | omega | (simp <;> omega)))))))).mono ?_; rintro e w1 ⟨rfl, hb1⟩; (try (with_reducible replace hb1 := undrew hb1)); obtain ⟨hc1, hf1⟩ := bcell hb1; have hs1 := hb1.size; (try simp at hs1); (try have y1_0_0 : w.heap.size < w1.heap.size := (by omega)); (try have y1_1_0 : w.heap.size + 1 < w1.heap.size := (by omega)))
      | (go_at_call 4; refine (nan_as f l u _ _ HN _ (hT.below (by (repeat (first | exact Below.refl _ _ | assumption | apply Below.drew | apply below_drewN | refine Below.alloc ?_ (by first | omega | (simp <;> omega)) _ | refine Below.setCell ?_ (by first | omega | (simp <;> omega)) _ | refine Below.trans ?_ (Below.mono (by assumption) (by first | omega | (simp <;> omega)))))))).mono ?_; rintro e w2 ⟨rfl, hb2⟩; (try (with_reducible replace hb2 := undrew hb2)); obtain ⟨hc2, hf2⟩ := bcell hb2; have hs2 := hb2.size; (try simp at hs2); (try have y2_0_0 : w.heap.size < w2.heap.size := (by omega)); (try have y2_1_0 : w.heap.size + 1 < w2.heap.size := (by omega)))
      | (go_at_call 17; refine (prec_as f l u _ HP _ (hT.below (by (repeat (first | exact Below.refl _ _ | assumption | apply Below.drew | apply below_drewN | refine Below.alloc ?_ (by first | omega | (simp <;> omega)) _ | refine Below.setCell ?_ (by first | omega | (simp <;> omega)) _ | refine Below.trans ?_ (Below.mono (by assumption) (by first | omega | (simp <;> omega)))))))).mono ?_; rintro e w3 ⟨rfl, hb3⟩; (try (with_reducible replace hb3 := undrew hb3)); obtain ⟨hc3, hf3⟩ := bcell hb3; have hs3 := hb3.size; (try simp at hs3); (try have y3_0_0 : w.heap.size < w3.heap.size := (by omega)); (try have y3_1_0 : w.heap.size + 1 < w3.heap.size := (by omega)))
      | (go_at_call 16; refine (left_one _ _ HT _).mono ?_; rintro e w4 ⟨rfl, hb4⟩; (try (with_reducible replace hb4 := undrew hb4)); obtain ⟨hc4, hf4⟩ := bcell hb4; have hs4 := hb4.size; (try simp at hs4); (try have y4_0_0 : w.heap.size < w4.heap.size := (by omega)); (try have y4_0_1 : w.heap.size < w4.heap.size + 1 := (by omega)); (try have y4_1_0 : w.heap.size + 1 < w4.heap.size := (by omega)); (try have y4_1_1 : w.heap.size + 1 < w4.heap.size + 1 := (by omega))))
    go_cut [] (fun wx => wx.cell? ⟨w.heap.size, 0, none⟩ = some (.int .u64 (hiB (bOr C T))) ∧ wx.cell? ⟨w.heap.size, 1, none⟩ = some (.int .u64 (loB (bOr C T))) ∧ wx.cell? ⟨w.heap.size + 1, 0, none⟩ = some (.int .u64 0) ∧ wx.cell? ⟨w.heap.size + 1, 1, none⟩ = some (.int .u64 0) ∧ wx.frozen? ⟨w.heap.size + 1, 0, none⟩ = false ∧ wx.frozen? ⟨w.heap.size + 1, 1, none⟩ = false ∧ Below w.heap.size w wx ∧ w.heap.size + 1 < wx.heap.size)
    case first =>
      go_region
      all_goals (go_wp2_with fail; go_meet; refine ⟨?_, ?_, ?_, ?_, ?_, ?_, ?_, ?_⟩)
      all_goals first | (simp [go_sem, *]; done) | (simp (maxDischargeDepth := 9) [go_sem, World.cell?_alloc_past, *]; done) | omega | (simp [go_sem, *]; omega) | (repeat (first | exact Below.refl _ _ | assumption | apply Below.drew | apply below_drewN | refine Below.alloc ?_ (by first | omega | (simp <;> omega)) _ | refine Below.setCell ?_ (by first | omega | (simp <;> omega)) _ | refine Below.trans ?_ (Below.mono (by assumption) (by first | omega | (simp <;> omega)))))
    case rest =>
      obtain ⟨d1, d2, d3, d4, d5, d6, hbx, hs⟩ := hcut
      have z0 : w.heap.size < wc.heap.size := by omega
      go_wp2
      simp [bodyPost, results, Tryd.results7, go_sem, *]
      (repeat (first | exact Below.refl _ _ | assumption | apply Below.drew | apply below_drewN | refine Below.alloc ?_ (by first | omega | (simp <;> omega)) _ | refine Below.setCell ?_ (by first | omega | (simp <;> omega)) _ | refine Below.trans ?_ (Below.mono (by assumption) (by first | omega | (simp <;> omega)))))
theorem quiet_any (f : Int) (l : 0 ≤ f) (u : f ≤ 255) (b : BitVec 128) (w : World) (hT : Tab w) :
    Calls Tryd.prog 7 #[.int .u8 f, Bv b] w fun e w' => e = .returned (Bv (nQ f b)) ∧ Gr w w' := by
  have hp := pr_bd f l
  refine quiet_core f l u b _ _ _ _ _ (Lib.hid rfl) (Lib.hid rfl) (Lib.hid rfl) (Lib.hid rfl) hp.1 hp.2 ?_ w hT
  unfold nQ nBit
  cases h : cNaN f (fCut f b)
  · exact .inl ⟨rfl, rfl⟩
  · exact .inr ⟨rfl, rfl⟩
theorem quiet_as (f : Int) (l : 0 ≤ f) (u : f ≤ 255) (b z : BitVec 128) (H : Hid (nQ f b = z)) (w : World) (hT : Tab w) :
    Calls Tryd.prog 7 #[.int .u8 f, Bv b] w fun e w' => e = .returned (Bv z) ∧ Gr w w' := by
  obtain rfl := H.out; exact quiet_any f l u b w hT
theorem default_as (f : Int) (l : 0 ≤ f) (u : f ≤ 255) (z : BitVec 128) (H : Hid (nD f = z)) (w : World) (hT : Tab w) :
    Calls Tryd.prog 9 #[.int .u8 f] w fun e w' => e = .returned (Bv z) ∧ Gr w w' := by
  have hp := pr_bd f l
  have hM := em_le f l
  obtain ⟨M, hM'⟩ : ∃ M, fEm f = M := ⟨_, rfl⟩
  obtain ⟨p, hp'⟩ : ∃ p, fPr f = p := ⟨_, rfl⟩
  obtain ⟨T, hT'⟩ : ∃ T, bShl (mkB 0 1) (p - 2) = T := ⟨_, rfl⟩
  have hz : fMake f false (2 * M + 1) T = z := by rw [← H.out, ← hM', ← hT', ← hp']; rfl
  rw [hp'] at hp
  rw [hM'] at hM
  have HM := Lib.hid hM'
  have HP := Lib.hid hp'
  have HT := Lib.hid hT'
  have HZ := Lib.hid hz
  clear hM' hp' hT' hz H
  simp only [Bv]

  go_enter Tryd.func9, Tryd.ntmps9
  go_wp2_with (first
    | (go_at_call 20; refine (emax_as f l u _ HM _ (hT.below (by (repeat (first | exact Below.refl _ _ | assumption | apply Below.drew | apply below_drewN | refine Below.alloc ?_ (by first | omega | (simp <;> omega)) _ | refine Below.setCell ?_ (by first | omega | (simp <;> omega)) _ | refine Below.trans ?_ (Below.mono (by assumption) (by first | omega | (simp <;> omega)))))))).mono ?_; rintro e w1 ⟨rfl, hb1⟩; (try (with_reducible replace hb1 := undrew hb1)); obtain ⟨hc1, hf1⟩ := bcell hb1; have hs1 := hb1.size; (try simp at hs1); (try have y1_0_0 : w.heap.size < w1.heap.size := (by omega)))
    | (go_at_call 17; refine (prec_as f l u _ HP _ (hT.below (by (repeat (first | exact Below.refl _ _ | assumption | apply Below.drew | apply below_drewN | refine Below.alloc ?_ (by first | omega | (simp <;> omega)) _ | refine Below.setCell ?_ (by first | omega | (simp <;> omega)) _ | refine Below.trans ?_ (Below.mono (by assumption) (by first | omega | (simp <;> omega)))))))).mono ?_; rintro e w2 ⟨rfl, hb2⟩; (try (with_reducible replace hb2 := undrew hb2)); obtain ⟨hc2, hf2⟩ := bcell hb2; have hs2 := hb2.size; (try simp at hs2); (try have y2_0_0 : w.heap.size < w2.heap.size := (by omega)))
    | (go_at_call 16; refine (left_one _ _ HT _).mono ?_; rintro e w3 ⟨rfl, hb3⟩; (try (with_reducible replace hb3 := undrew hb3)); obtain ⟨hc3, hf3⟩ := bcell hb3; have hs3 := hb3.size; (try simp at hs3); (try have y3_0_0 : w.heap.size < w3.heap.size := (by omega)))
    | (go_at_call 22; refine (make_as f l u _ _ _ _ HZ _ (hT.below (by (repeat (first | exact Below.refl _ _ | assumption | apply Below.drew | apply below_drewN | refine Below.alloc ?_ (by first | omega | (simp <;> omega)) _ | refine Below.setCell ?_ (by first | omega | (simp <;> omega)) _ | refine Below.trans ?_ (Below.mono (by assumption) (by first | omega | (simp <;> omega)))))))).mono ?_; rintro e w4 ⟨rfl, hb4⟩; (try (with_reducible replace hb4 := undrew hb4)); obtain ⟨hc4, hf4⟩ := bcell hb4; have hs4 := hb4.size; (try simp at hs4); (try have y4_0_0 : w.heap.size < w4.heap.size := (by omega))))
  simp [bodyPost, results, Tryd.results9, go_sem, *]
  (repeat (first | exact Below.refl _ _ | assumption | apply Below.drew | apply below_drewN | refine Below.alloc ?_ (by first | omega | (simp <;> omega)) _ | refine Below.setCell ?_ (by first | omega | (simp <;> omega)) _ | refine Below.trans ?_ (Below.mono (by assumption) (by first | omega | (simp <;> omega)))))
end Hb
end Go.Proofs.YtmnoghkbmkiplaaDoor
