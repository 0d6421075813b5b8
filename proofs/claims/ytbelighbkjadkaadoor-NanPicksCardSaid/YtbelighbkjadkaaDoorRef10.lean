/-
  THE WALKS OF Default, Quiet OF THE REFERENCE: they answer what the program's plain part says. Conditions: none but the arguments' kinds.
-/
import Derived.Test.YtbelighbkjadkaaDoorRef8
namespace Go.Proofs.YtbelighbkjadkaaDoor
open Go.RowKit
namespace Hb
set_option maxRecDepth 20000
theorem rdef_yes (f : Int) (l : 0 ≤ f) (u : f ≤ 255) (h : f < 4) (M P : Int) (T z : BitVec 128) (HM : Hid (fEm f = M)) (HP : Hid (fPr f = P)) (m0 : 0 ≤ M) (m1 : M ≤ 16383) (p0 : 11 ≤ P) (p1 : P ≤ 113) (HT : Hid (T.toNat = 2 ^ (P - 2).toNat)) (HZ : Hid (fMake f false (2 * M + 1) T = z)) (w : World) :
    Calls Tryd.prog 64 #[.int .u8 f] w fun y w' => y = .returned (Bv z) ∧ Gr w w' := by
  have I2 := Lib.hid (show P - 2 = (((P - 2).toNat : Nat) : Int) by omega)

  go_enter Tryd.func64, Tryd.ntmps64
  go_wp2_with (first
    | (go_at_call 48; refine (remax_as f l u M HM _).mono ?_; rintro e wq ⟨rfl, rfl⟩)
    | (go_at_call 46; refine (rprec_as f l u P HP _).mono ?_; rintro e wq ⟨rfl, rfl⟩)
    | (go_at_call 85; refine (rfull_as (P - 2).toNat _ (P - 2) (by omega) (by omega) I2 rfl _).mono ?_; rintro e w1 ⟨v1, rfl, hn1, hb1⟩; have HN1 := Lib.hid hn1; clear hn1; (try (with_reducible replace hb1 := undrew hb1)); obtain ⟨hc1, hf1⟩ := bcell hb1; have hs1 := hb1.size; (try simp at hs1); (try have y1_0_0 : w.heap.size < w1.heap.size := (by omega)))
    | (go_at_call 19; refine (rmake_any f l u false _ v1 _ T z HZ HT.out _ HN1).mono ?_; rintro e w2 ⟨rfl, hb2⟩; (try (with_reducible replace hb2 := undrew hb2)); obtain ⟨hc2, hf2⟩ := bcell hb2; have hs2 := hb2.size; (try simp at hs2); (try have y2_0_0 : w.heap.size < w2.heap.size := (by omega))))
  simp [bodyPost, results, Tryd.results64, Bv, go_sem, *]
  (repeat (first | with_reducible assumption | with_reducible exact Below.refl _ _ | with_reducible apply Below.drew | with_reducible apply below_drewN | with_reducible refine Below.alloc ?_ (by first | omega | (simp <;> omega)) _ | with_reducible refine Below.setCell ?_ (by first | omega | (simp <;> omega)) _ | with_reducible refine Below.trans ?_ (Below.mono (by assumption) (by first | omega | (simp <;> omega)))))
theorem rdef_no (f : Int) (h : 3 < f) (w : World) :
    Calls Tryd.prog 64 #[.int .u8 f] w fun y w' => y = .returned (.agg #[.int .u64 0, .int .u64 0]) ∧ Gr w w' := by

  go_enter Tryd.func64, Tryd.ntmps64
  go_wp2
  simp [bodyPost, results, Tryd.results64, go_sem]
  (repeat (first | with_reducible assumption | with_reducible exact Below.refl _ _ | with_reducible apply Below.drew | with_reducible apply below_drewN | with_reducible refine Below.alloc ?_ (by first | omega | (simp <;> omega)) _ | with_reducible refine Below.setCell ?_ (by first | omega | (simp <;> omega)) _ | with_reducible refine Below.trans ?_ (Below.mono (by assumption) (by first | omega | (simp <;> omega)))))
theorem rdef_as (f : Int) (l : 0 ≤ f) (u : f ≤ 255) (z : BitVec 128) (H : Hid (nD f = z)) (w : World) :
    Calls Tryd.prog 64 #[.int .u8 f] w fun y w' => y = .returned (Bv z) ∧ Gr w w' := by
  by_cases h : f < 4
  · have hb := f_bounds f l h
    exact rdef_yes f l u h _ _ (nBit f) z (Lib.hid rfl) (Lib.hid rfl) (by omega) (by omega) (by omega) (by omega) (Lib.hid (nbit_nat f l h)) H w
  · obtain rfl := H.out
    rw [default_none f h]
    exact rdef_no f (by omega) w
theorem rquiet_core (f : Int) (l : 0 ≤ f) (u : f ≤ 255) (b z : BitVec 128) (n : Nat) (P : Int) (q : Bool) (HN : Hid ((fCut f b).toNat = n)) (HQ : Hid (cSig f b = q)) (HP : Hid (fPr f = P)) (p1 : P ≤ 113) (hn : nlen n ≤ 4)
    (cs : (q = true ∧ 11 ≤ P ∧ Hid (nB (n + 2 ^ (P - 2).toNat) = z)) ∨ (q = false ∧ Hid (nB n = z))) (w : World) :
    Calls Tryd.prog 62 #[.int .u8 f, Bv b] w fun y w' => y = .returned (Bv z) ∧ Gr w w' := by
  simp only [Bv]
  rcases cs with ⟨rfl, p0, HZ⟩ | ⟨rfl, HZ⟩
  · have I2 := Lib.hid (show P - 2 = (((P - 2).toNat : Nat) : Int) by omega)
    have hl6 : nlen (2 ^ (P - 2).toNat) ≤ 5 := nlen_of_lt (Nat.pow_lt_pow_right (by decide) (by omega))
    have o2_0 : w.heap.size < w.heap.size + 1 + 1 := by omega
    go_enter Tryd.func62, Tryd.ntmps62
    go_wp2_with (first
      | (go_at_call 41; refine (rfcut_as f l u b n HN _).mono ?_; rintro e w1 ⟨v1, rfl, hn1, hb1⟩; have HN1 := Lib.hid hn1; clear hn1; (try (with_reducible replace hb1 := undrew hb1)); obtain ⟨hc1, hf1⟩ := bcell hb1; have hs1 := hb1.size; (try simp at hs1); (try have y1_0_0 : w.heap.size < w1.heap.size := (by omega)); (try have y1_1_0 : w.heap.size + 1 < w1.heap.size := (by omega)))
      | (go_at_call 38; refine (rsig_as f l u b _ HQ _).mono ?_; rintro e w2 ⟨rfl, hb2⟩; (try (with_reducible replace hb2 := undrew hb2)); obtain ⟨hc2, hf2⟩ := bcell hb2; have hs2 := hb2.size; (try simp at hs2); (try have y2_0_0 : w.heap.size < w2.heap.size := (by omega)); (try have y2_1_0 : w.heap.size + 1 < w2.heap.size := (by omega)))
      | (go_at_call 46; refine (rprec_as f l u P HP _).mono ?_; rintro e wq ⟨rfl, rfl⟩)
      | (go_at_call 85; refine (rfull_as (P - 2).toNat _ (P - 2) (by omega) (by omega) I2 rfl _).mono ?_; rintro e w3 ⟨v3, rfl, hn3, hb3⟩; have HN3 := Lib.hid hn3; clear hn3; (try (with_reducible replace hb3 := undrew hb3)); obtain ⟨hc3, hf3⟩ := bcell hb3; have hs3 := hb3.size; (try simp at hs3); (try have y3_0_0 : w.heap.size < w3.heap.size := (by omega)); (try have y3_1_0 : w.heap.size + 1 < w3.heap.size := (by omega)))
      | (go_at_call 83; refine (radd_as v1 v3 n (2 ^ (P - 2).toNat) _ rfl _ (Lib.hid (HN1.out.below (by (repeat (first | with_reducible assumption | with_reducible exact Below.refl _ _ | with_reducible apply Below.drew | with_reducible apply below_drewN | with_reducible refine Below.alloc ?_ (by first | omega | (simp <;> omega)) _ | with_reducible refine Below.setCell ?_ (by first | omega | (simp <;> omega)) _ | with_reducible refine Below.trans ?_ (Below.mono (by assumption) (by first | omega | (simp <;> omega)))))))) HN3 (by omega) (by omega)).mono ?_; rintro e w4 ⟨v4, rfl, hn4, hb4⟩; have HN4 := Lib.hid hn4; clear hn4; (try (with_reducible replace hb4 := undrew hb4)); obtain ⟨hc4, hf4⟩ := bcell hb4; have hs4 := hb4.size; (try simp at hs4); (try have y4_0_0 : w.heap.size < w4.heap.size := (by omega)); (try have y4_1_0 : w.heap.size + 1 < w4.heap.size := (by omega)))
      | (go_at_call 17; refine (bits_as v4 _ z HZ _ HN4).mono ?_; rintro e w5 ⟨rfl, hb5⟩; (try (with_reducible replace hb5 := undrew hb5)); obtain ⟨hc5, hf5⟩ := bcell hb5; have hs5 := hb5.size; (try simp at hs5); (try have y5_0_0 : w.heap.size < w5.heap.size := (by omega)); (try have y5_1_0 : w.heap.size + 1 < w5.heap.size := (by omega))))
    simp [bodyPost, results, Tryd.results62, Bv, go_sem, *]
    (repeat (first | with_reducible assumption | with_reducible exact Below.refl _ _ | with_reducible apply Below.drew | with_reducible apply below_drewN | with_reducible refine Below.alloc ?_ (by first | omega | (simp <;> omega)) _ | with_reducible refine Below.setCell ?_ (by first | omega | (simp <;> omega)) _ | with_reducible refine Below.trans ?_ (Below.mono (by assumption) (by first | omega | (simp <;> omega)))))
  · have o2_0 : w.heap.size < w.heap.size + 1 + 1 := by omega
    go_enter Tryd.func62, Tryd.ntmps62
    go_wp2_with (first
      | (go_at_call 41; refine (rfcut_as f l u b n HN _).mono ?_; rintro e w1 ⟨v1, rfl, hn1, hb1⟩; have HN1 := Lib.hid hn1; clear hn1; (try (with_reducible replace hb1 := undrew hb1)); obtain ⟨hc1, hf1⟩ := bcell hb1; have hs1 := hb1.size; (try simp at hs1); (try have y1_0_0 : w.heap.size < w1.heap.size := (by omega)); (try have y1_1_0 : w.heap.size + 1 < w1.heap.size := (by omega)))
      | (go_at_call 38; refine (rsig_as f l u b _ HQ _).mono ?_; rintro e w2 ⟨rfl, hb2⟩; (try (with_reducible replace hb2 := undrew hb2)); obtain ⟨hc2, hf2⟩ := bcell hb2; have hs2 := hb2.size; (try simp at hs2); (try have y2_0_0 : w.heap.size < w2.heap.size := (by omega)); (try have y2_1_0 : w.heap.size + 1 < w2.heap.size := (by omega)))
      | (go_at_call 17; refine (bits_as v1 _ z HZ _ (Lib.hid (HN1.out.below (by (repeat (first | with_reducible assumption | with_reducible exact Below.refl _ _ | with_reducible apply Below.drew | with_reducible apply below_drewN | with_reducible refine Below.alloc ?_ (by first | omega | (simp <;> omega)) _ | with_reducible refine Below.setCell ?_ (by first | omega | (simp <;> omega)) _ | with_reducible refine Below.trans ?_ (Below.mono (by assumption) (by first | omega | (simp <;> omega))))))))).mono ?_; rintro e w5 ⟨rfl, hb5⟩; (try (with_reducible replace hb5 := undrew hb5)); obtain ⟨hc5, hf5⟩ := bcell hb5; have hs5 := hb5.size; (try simp at hs5); (try have y5_0_0 : w.heap.size < w5.heap.size := (by omega)); (try have y5_1_0 : w.heap.size + 1 < w5.heap.size := (by omega))))
    simp [bodyPost, results, Tryd.results62, Bv, go_sem, *]
    (repeat (first | with_reducible assumption | with_reducible exact Below.refl _ _ | with_reducible apply Below.drew | with_reducible apply below_drewN | with_reducible refine Below.alloc ?_ (by first | omega | (simp <;> omega)) _ | with_reducible refine Below.setCell ?_ (by first | omega | (simp <;> omega)) _ | with_reducible refine Below.trans ?_ (Below.mono (by assumption) (by first | omega | (simp <;> omega)))))
theorem rquiet_as (f : Int) (l : 0 ≤ f) (u : f ≤ 255) (b z : BitVec 128) (H : Hid (nQ f b = z)) (w : World) :
    Calls Tryd.prog 62 #[.int .u8 f, Bv b] w fun y w' => y = .returned (Bv z) ∧ Gr w w' := by
  have hp : fPr f ≤ 113 := by
    by_cases h : f < 4
    · have := f_bounds f l h; omega
    · have := (f_none f h).2.1; omega
  refine rquiet_core f l u b z _ _ _ (Lib.hid rfl) (Lib.hid rfl) (Lib.hid rfl) hp (nlen_128 _) ?_ w
  obtain rfl := H.out
  by_cases h : f < 4
  · have hb := f_bounds f l h
    obtain ⟨h1, h2⟩ := rquiet f l h b
    cases hq : cSig f b
    · exact .inr ⟨rfl, Lib.hid (by rw [h2 hq]; exact nBit_toNat _)⟩
    · exact .inl ⟨rfl, by omega, Lib.hid (by rw [h1 hq]; exact nBit_toNat _)⟩
  · obtain ⟨h1, h2, h3, h4⟩ := quiet_none f h b
    exact .inr ⟨h4, Lib.hid (by rw [h1]; exact nBit_toNat _)⟩
end Hb
end Go.Proofs.YtbelighbkjadkaaDoor
