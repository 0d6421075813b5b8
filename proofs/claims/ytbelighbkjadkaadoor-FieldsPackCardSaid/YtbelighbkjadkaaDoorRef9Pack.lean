/-
  THE WALK OF Pack OF THE REFERENCE: it answers what the program's plain part says. Conditions: none but the arguments' kinds.
-/
import Derived.Test.YtbelighbkjadkaaDoorRef9
namespace Go.Proofs.YtbelighbkjadkaaDoor
open Go.RowKit
namespace Hb
set_option maxRecDepth 20000
set_option maxHeartbeats 4000000 in
theorem rpk_early (f : Int) (l : 0 ≤ f) (u : f ≤ 255) (n : Bool) (c e M P : Int) (s : BitVec 128) (HM : Hid (fEm f = M)) (HP : Hid (fPr f = P)) (m0 : 0 ≤ M) (m1 : M ≤ 16383) (p0 : 0 ≤ P) (p1 : P ≤ 113)
    (cs : (3 < f) ∨ (f ≤ 3 ∧ 3 < c) ∨ (f ≤ 3 ∧ c ≤ 3 ∧ (c == 0) = false ∧ (c == 3) = false ∧ M < e) ∨ (f ≤ 3 ∧ c ≤ 3 ∧ (c == 0) = false ∧ (c == 3) = false ∧ e ≤ M ∧ e < 1 - M - (P - 1))) (w : World) :
    Calls Tryd.prog 72 #[.int .u8 f, Nv n c e s] w fun x w' => x = .returned (.tuple #[.agg #[.int .u64 0, .int .u64 0], .bool false]) ∧ Gr w w' := by
  simp only [Nv]
  rcases cs with h1 | ⟨h1, h2⟩ | ⟨h1, h2, h3, h4, h5⟩ | ⟨h1, h2, h3, h4, h5, h6⟩
  all_goals
    have o2_0 : w.heap.size < w.heap.size + 1 + 1 := by omega
    go_enter Tryd.func72, Tryd.ntmps72
    go_wp2_with (first
      | (go_at_call 48; refine (remax_as f l u M HM _).mono ?_; rintro e wq ⟨rfl, rfl⟩)
      | (go_at_call 46; refine (rprec_as f l u P HP _).mono ?_; rintro e wq ⟨rfl, rfl⟩))
    simp [bodyPost, results, Tryd.results72, go_sem, *]
    (repeat (first | with_reducible assumption | with_reducible exact Below.refl _ _ | with_reducible apply Below.drew | with_reducible apply below_drewN | with_reducible refine Below.alloc ?_ (by first | omega | (simp <;> omega)) _ | with_reducible refine Below.setCell ?_ (by first | omega | (simp <;> omega)) _ | with_reducible refine Below.trans ?_ (Below.mono (by assumption) (by first | omega | (simp <;> omega)))))
set_option maxHeartbeats 4000000 in
theorem rpk_lit (f : Int) (l : 0 ≤ f) (u : f ≤ 255) (h : f ≤ 3) (n : Bool) (c e : Int) (s z : BitVec 128) (cs : (c = 0 ∧ Hid (fMake f n 0 0#128 = z)) ∨ (c = 3 ∧ Hid (fInf f n = z))) (w : World) :
    Calls Tryd.prog 72 #[.int .u8 f, Nv n c e s] w fun x w' => x = .returned (.tuple #[Bv z, .bool true]) ∧ Gr w w' := by
  simp only [Nv]
  rcases cs with ⟨rfl, HZ⟩ | ⟨rfl, HZ⟩
  · have o2_0 : w.heap.size < w.heap.size + 1 + 1 := by omega
    go_enter Tryd.func72, Tryd.ntmps72
    go_wp2_with (first
      | (go_at_call 19; refine (rmake_nil f l u n 0 z HZ _).mono ?_; rintro e w1 ⟨rfl, hb1⟩; (try (with_reducible replace hb1 := undrew hb1)); obtain ⟨hc1, hf1⟩ := bcell hb1; have hs1 := hb1.size; (try simp at hs1); (try have y1_0_0 : w.heap.size < w1.heap.size := (by omega)); (try have y1_1_0 : w.heap.size + 1 < w1.heap.size := (by omega))))
    simp [bodyPost, results, Tryd.results72, Bv, go_sem, *]
    (repeat (first | with_reducible assumption | with_reducible exact Below.refl _ _ | with_reducible apply Below.drew | with_reducible apply below_drewN | with_reducible refine Below.alloc ?_ (by first | omega | (simp <;> omega)) _ | with_reducible refine Below.setCell ?_ (by first | omega | (simp <;> omega)) _ | with_reducible refine Below.trans ?_ (Below.mono (by assumption) (by first | omega | (simp <;> omega)))))
  · have o2_0 : w.heap.size < w.heap.size + 1 + 1 := by omega
    go_enter Tryd.func72, Tryd.ntmps72
    go_wp2_with (first
      | (go_at_call 52; refine (rinf_as f l u n z HZ _).mono ?_; rintro e w1 ⟨rfl, hb1⟩; (try (with_reducible replace hb1 := undrew hb1)); obtain ⟨hc1, hf1⟩ := bcell hb1; have hs1 := hb1.size; (try simp at hs1); (try have y1_0_0 : w.heap.size < w1.heap.size := (by omega)); (try have y1_1_0 : w.heap.size + 1 < w1.heap.size := (by omega))))
    simp [bodyPost, results, Tryd.results72, Bv, go_sem, *]
    (repeat (first | with_reducible assumption | with_reducible exact Below.refl _ _ | with_reducible apply Below.drew | with_reducible apply below_drewN | with_reducible refine Below.alloc ?_ (by first | omega | (simp <;> omega)) _ | with_reducible refine Below.setCell ?_ (by first | omega | (simp <;> omega)) _ | with_reducible refine Below.trans ?_ (Below.mono (by assumption) (by first | omega | (simp <;> omega)))))
set_option maxHeartbeats 8000000 in
theorem rpk_range (f : Int) (l : 0 ≤ f) (u : f ≤ 255) (h : f ≤ 3) (n : Bool) (c e M P fld off : Int) (s T z t : BitVec 128) (x : Nat) (HM : Hid (fEm f = M)) (HP : Hid (fPr f = P)) (m0 : 0 ≤ M) (m1 : M ≤ 16383) (p0 : 11 ≤ P) (p1 : P ≤ 113)
    (hc : c ≤ 3) (hc0 : (c == 0) = false) (hc3 : (c == 3) = false) (g1 : e ≤ M) (g2 : 1 - M - (P - 1) ≤ e) (cf : (e + M < 1 ∧ fld = 0 ∧ off = 128 - P + 1 - (e + M)) ∨ (1 ≤ e + M ∧ fld = e + M ∧ off = 128 - P))
    (HX : Hid (s.toNat / 2 ^ off.toNat = x)) (HT : Hid (T.toNat = x)) (HZ : Hid (fMake f n fld T = z)) (c' e' : Int) (HU : Hid (fNeg f z = n ∧ cOf f z = c' ∧ uE f z = e' ∧ uS f z = t)) (r : Bool) (zh zl : Int)
    (co : (r = true ∧ e' = e ∧ t = s ∧ zh = hiB z ∧ zl = loB z) ∨ (r = false ∧ (e' != e) = true ∧ zh = 0 ∧ zl = 0) ∨ (r = false ∧ e' = e ∧ (hiB t == hiB s) = false ∧ zh = 0 ∧ zl = 0) ∨ (r = false ∧ e' = e ∧ hiB t = hiB s ∧ (loB t == loB s) = false ∧ zh = 0 ∧ zl = 0)) (w : World) :
    Calls Tryd.prog 72 #[.int .u8 f, Nv n c e s] w fun x w' => x = .returned (.tuple #[.agg #[.int .u64 zh, .int .u64 zl], .bool r]) ∧ Gr w w' := by
  have ho : 0 ≤ off ∧ off ≤ 128 := by omega
  obtain ⟨o0, o1⟩ := ho
  have I1 := Lib.hid (show off = ((off.toNat : Nat) : Int) by omega)
  have k2 := fun w => runpack_as f l u z t n c' e' HU w
  simp only [Nv, Bv] at k2 ⊢
  rcases cf with ⟨f1, rfl, rfl⟩ | ⟨f1, rfl, rfl⟩
  all_goals
    have o2_0 : w.heap.size < w.heap.size + 1 + 1 := by omega
    go_enter Tryd.func72, Tryd.ntmps72
    go_upto_region 16 with (first
      | (go_at_call 48; refine (remax_as f l u M HM _).mono ?_; rintro e wq ⟨rfl, rfl⟩)
      | (go_at_call 46; refine (rprec_as f l u P HP _).mono ?_; rintro e wq ⟨rfl, rfl⟩)
      | (go_at_call 20; refine (big_any s _).mono ?_; rintro e w1 ⟨v1, rfl, hn1, hb1⟩; have HN1 := Lib.hid hn1; clear hn1; (try (with_reducible replace hb1 := undrew hb1)); obtain ⟨hc1, hf1⟩ := bcell hb1; have hs1 := hb1.size; (try simp at hs1); (try have y1_0_0 : w.heap.size < w1.heap.size := (by omega)); (try have y1_1_0 : w.heap.size + 1 < w1.heap.size := (by omega))))
    go_cut [11] (fun s11 wx => ∃ g : Nat, s11 = .pointer (some ⟨g, 0, none⟩) ∧ g < wx.heap.size ∧ wx.cell? ⟨g, 0, none⟩ = some (.int .u64 (hiB z)) ∧ wx.cell? ⟨g, 1, none⟩ = some (.int .u64 (loB z)) ∧ wx.cell? ⟨w.heap.size, 0, none⟩ = some (.bool n) ∧ wx.cell? ⟨w.heap.size, 2, none⟩ = some (.int .i64 e) ∧ wx.cell? ⟨w.heap.size, 3, none⟩ = some (.int .u64 (hiB s)) ∧ wx.cell? ⟨w.heap.size, 4, none⟩ = some (.int .u64 (loB s)) ∧
      wx.cell? ⟨w.heap.size + 1, 0, none⟩ = some (.int .u64 0) ∧ wx.cell? ⟨w.heap.size + 1, 1, none⟩ = some (.int .u64 0) ∧ wx.frozen? ⟨w.heap.size + 1, 0, none⟩ = false ∧ wx.frozen? ⟨w.heap.size + 1, 1, none⟩ = false ∧ w.heap.size + 1 < wx.heap.size ∧ Below w.heap.size w wx)
    case first =>

      go_region_held3 (fun y => y.cell? ⟨w.heap.size, 0, none⟩ = some (.bool n))
        (simp [go_sem, *])
        (first
          | (go_at_call 78; refine (rshr_as v1 s.toNat _ x _ (by omega) (by omega) I1 HX.out _ (Lib.hid (HN1.out.below (by (repeat (first | with_reducible assumption | with_reducible exact Below.refl _ _ | with_reducible apply Below.drew | with_reducible apply below_drewN | with_reducible refine Below.alloc ?_ (by first | omega | (simp <;> omega)) _ | with_reducible refine Below.setCell ?_ (by first | omega | (simp <;> omega)) _ | with_reducible refine Below.trans ?_ (Below.mono (by assumption) (by first | omega | (simp <;> omega)))))))) (by have := nlen_128 s; omega)).mono ?_; rintro e w2 ⟨v2, rfl, hn2, hb2⟩; have HN2 := Lib.hid hn2; clear hn2; (try (with_reducible replace hb2 := undrew hb2)); obtain ⟨hc2, hf2⟩ := bcell hb2; have hs2 := hb2.size; (try simp at hs2); (try have y2_0_0 : w.heap.size < w2.heap.size := (by omega)); (try have y2_1_0 : w.heap.size + 1 < w2.heap.size := (by omega)); (try have y2_2_0 : w1.heap.size < w2.heap.size := (by omega)); (try have y2_3_0 : w2.heap.size < w2.heap.size := (by omega)))
          | (go_at_call 19; refine (rmake_any f l u n _ v2 x T z HZ HT.out _ (Lib.hid (HN2.out.below (by (repeat (first | with_reducible assumption | with_reducible exact Below.refl _ _ | with_reducible apply Below.drew | with_reducible apply below_drewN | with_reducible refine Below.alloc ?_ (by first | omega | (simp <;> omega)) _ | with_reducible refine Below.setCell ?_ (by first | omega | (simp <;> omega)) _ | with_reducible refine Below.trans ?_ (Below.mono (by assumption) (by first | omega | (simp <;> omega))))))))).mono ?_; rintro e w3 ⟨rfl, hb3⟩; (try (with_reducible replace hb3 := undrew hb3)); obtain ⟨hc3, hf3⟩ := bcell hb3; have hs3 := hb3.size; (try simp at hs3); (try have y3_0_0 : w.heap.size < w3.heap.size := (by omega)); (try have y3_0_1 : w.heap.size < w3.heap.size + 1 := (by omega)); (try have y3_1_0 : w.heap.size + 1 < w3.heap.size := (by omega)); (try have y3_1_1 : w.heap.size + 1 < w3.heap.size + 1 := (by omega)); (try have y3_2_0 : w1.heap.size < w3.heap.size := (by omega)); (try have y3_2_1 : w1.heap.size < w3.heap.size + 1 := (by omega)); (try have y3_3_0 : w2.heap.size < w3.heap.size := (by omega)); (try have y3_3_1 : w2.heap.size < w3.heap.size + 1 := (by omega))))
      all_goals
        go_wp2_with fail
        go_meet
        refine ⟨_, rfl, ?_, ?_, ?_, ?_, ?_, ?_, ?_, ?_, ?_, ?_, ?_, ?_, ?_⟩
        all_goals first | (simp (maxDischargeDepth := 14) [go_sem, World.cell?_alloc_past, *]; done) | omega | (simp; omega) | (repeat (first | with_reducible assumption | with_reducible exact Below.refl _ _ | with_reducible apply Below.drew | with_reducible apply below_drewN | with_reducible refine Below.alloc ?_ (by first | omega | (simp <;> omega)) _ | with_reducible refine Below.setCell ?_ (by first | omega | (simp <;> omega)) _ | with_reducible refine Below.trans ?_ (Below.mono (by assumption) (by first | omega | (simp <;> omega)))))
    case rest =>
      obtain ⟨g, rfl, hg, z0, z1, n0, n2, n3, n4, m0, m1, fr0, fr1, hs1, hbw⟩ := hcut
      have hs0 : w.heap.size < wc.heap.size := by omega
      have o2_0 : w.heap.size < w.heap.size + 1 + 1 := by omega

      rcases co with ⟨rfl, rfl, rfl, rfl, rfl⟩ | ⟨rfl, h1, rfl, rfl⟩ | ⟨rfl, rfl, h1, rfl, rfl⟩ | ⟨rfl, rfl, h1, h2, rfl, rfl⟩
      all_goals
        go_wp2_with (first
          | (go_at_call 69; refine (k2 _).mono ?_; rintro e w4 ⟨rfl, hb4⟩; (try (with_reducible replace hb4 := undrew hb4)); obtain ⟨hc4, hf4⟩ := bcell hb4; have hs4 := hb4.size; (try simp at hs4); (try have y4_0_0 : w.heap.size < w4.heap.size := (by omega)); (try have y4_0_1 : w.heap.size < w4.heap.size + 1 := (by omega)); (try have y4_1_0 : w.heap.size + 1 < w4.heap.size := (by omega)); (try have y4_1_1 : w.heap.size + 1 < w4.heap.size + 1 := (by omega)); (try have y4_2_0 : g < w4.heap.size := (by omega)); (try have y4_2_1 : g < w4.heap.size + 1 := (by omega))))
        simp (maxDischargeDepth := 9) [bodyPost, results, Tryd.results72, go_sem, *]
        (repeat (first | with_reducible assumption | with_reducible exact Below.refl _ _ | with_reducible apply Below.drew | with_reducible apply below_drewN | with_reducible refine Below.alloc ?_ (by first | omega | (simp <;> omega)) _ | with_reducible refine Below.setCell ?_ (by first | omega | (simp <;> omega)) _ | with_reducible refine Below.trans ?_ (Below.mono (by assumption) (by first | omega | (simp <;> omega)))))
end Hb
end Go.Proofs.YtbelighbkjadkaaDoor
