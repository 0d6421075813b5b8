/-
  THE WALK of the law FieldsReach. Conditions: the table of the formats holds its numbers.
-/
import Derived.Test.YteajalcnabjjeaaDoorPackAs
import Derived.Test.YteajalcnabjjeaaDoorFieldsLaws
import Derived.Deep.LoopGhost
namespace Go.Proofs.YteajalcnabjjeaaDoor
open Go.RowKit
namespace Hb
set_option maxRecDepth 20000
theorem fr_no (f : Int) (l : 0 ≤ f) (u : f ≤ 255) (b : BitVec 128) (N : Bool) (c : Int) (hc1 : (c != 1) = true) (hc2 : (c != 2) = true) (H1 : Hid (fNeg f b = N ∧ cOf f b = c ∧ uE f b = 0 ∧ uS f b = 0#128)) (w : World) (hT : Tab w) :
    Calls Tryd.prog 12 #[.int .u8 f, Bv b] w fun e w' => e = .returned (.bool true) ∧ Gr w w' := by
  have k1 := fun w hT => unpack_as f l (by omega) b _ _ _ _ H1 w hT
  simp only [Nv, show hiB 0#128 = 0 from rfl, show loB 0#128 = 0 from rfl, Bv] at k1 ⊢

  go_enter Tryd.func12, Tryd.ntmps12
  go_wp2_with (first
    | (go_at_call 23; refine (k1 _ (hT.below (by (repeat (first | with_reducible assumption | with_reducible exact Below.refl _ _ | with_reducible apply Below.drew | with_reducible apply below_drewN | with_reducible refine Below.alloc ?_ (by first | omega | (simp <;> omega)) _ | with_reducible refine Below.setCell ?_ (by first | omega | (simp <;> omega)) _ | with_reducible refine Below.trans ?_ (Below.mono (by assumption) (by first | omega | (simp <;> omega)))))))).mono ?_; rintro e w2 ⟨rfl, hb2⟩; (try (with_reducible replace hb2 := undrew hb2)); obtain ⟨hc2, hf2⟩ := bcell hb2; have hs2 := hb2.size; (try simp at hs2); (try have y2_0_0 : w.heap.size < w2.heap.size := (by omega)); (try have y2_0_1 : w.heap.size < w2.heap.size + 1 := (by omega)))
    | (go_at_call 22; refine (goes9_any _ (hT.below (by (repeat (first | with_reducible assumption | with_reducible exact Below.refl _ _ | with_reducible apply Below.drew | with_reducible apply below_drewN | with_reducible refine Below.alloc ?_ (by first | omega | (simp <;> omega)) _ | with_reducible refine Below.setCell ?_ (by first | omega | (simp <;> omega)) _ | with_reducible refine Below.trans ?_ (Below.mono (by assumption) (by first | omega | (simp <;> omega)))))))).mono ?_; rintro e w5 ⟨rfl, hb5⟩; (try (with_reducible replace hb5 := undrew hb5)); obtain ⟨hc5, hf5⟩ := bcell hb5; have hs5 := hb5.size; (try simp at hs5); (try have y5_0_0 : w.heap.size < w5.heap.size := (by omega)); (try have y5_1_0 : w2.heap.size < w5.heap.size := (by omega))))
  go_ret
  exact ⟨rfl, by (repeat (first | with_reducible assumption | with_reducible exact Below.refl _ _ | with_reducible apply Below.drew | with_reducible apply below_drewN | with_reducible refine Below.alloc ?_ (by first | omega | (simp <;> omega)) _ | with_reducible refine Below.setCell ?_ (by first | omega | (simp <;> omega)) _ | with_reducible refine Below.trans ?_ (Below.mono (by assumption) (by first | omega | (simp <;> omega)))))⟩
set_option maxHeartbeats 2000000 in
theorem fr_yes (f : Int) (l : 0 ≤ f) (u : f ≤ 255) (b s : BitVec 128) (N : Bool) (c e p M : Int) (H1 : Hid (fNeg f b = N ∧ cOf f b = c ∧ uE f b = e ∧ uS f b = s)) (HP : Hid (fPr f = p)) (HM : Hid (fEm f = M))
    (hp : 11 ≤ p) (hp' : p ≤ 113) (hM : 15 ≤ M) (hM' : M ≤ 16383) (HB : Hid (∀ i : Int, 0 ≤ i → i < 128 - p → bBit s i = false)) (HT : Hid (bBit s 127 = true)) (he : e ≤ M) (he' : 2 - M - p ≤ e)
    (hc : ((c != 1) = false ∧ (c == 1) = true ∧ decide (e < 1 - M) = true) ∨ ((c != 1) = true ∧ (c != 2) = false ∧ (c == 1) = false ∧ decide (e < 1 - M) = false)) (w : World) (hT : Tab w) :
    Calls Tryd.prog 12 #[.int .u8 f, Bv b] w fun e w' => e = .returned (.bool true) ∧ Gr w w' := by
  have k1 := fun w hT => unpack_as f l (by omega) b _ _ _ _ H1 w hT
  have k2 := fun w => bbit_as s 127 (by decide) (by decide) _ HT w
  simp only [Nv, Bv] at k1 k2 ⊢

  rcases hc with ⟨h1, h2, hd⟩ | ⟨h1, h2, h3, hd⟩
  all_goals

    go_enter Tryd.func12, Tryd.ntmps12
    go_wp2_with (first
      | (go_at_call 23; refine (k1 _ (hT.below (by (repeat (first | with_reducible assumption | with_reducible exact Below.refl _ _ | with_reducible apply Below.drew | with_reducible apply below_drewN | with_reducible refine Below.alloc ?_ (by first | omega | (simp <;> omega)) _ | with_reducible refine Below.setCell ?_ (by first | omega | (simp <;> omega)) _ | with_reducible refine Below.trans ?_ (Below.mono (by assumption) (by first | omega | (simp <;> omega)))))))).mono ?_; rintro e w1 ⟨rfl, hb1⟩; (try (with_reducible replace hb1 := undrew hb1)); obtain ⟨hc1, hf1⟩ := bcell hb1; have hs1 := hb1.size; (try simp at hs1); (try have y1_0_0 : w.heap.size < w1.heap.size := (by omega)); (try have y1_0_1 : w.heap.size < w1.heap.size + 1 := (by omega)))
      | (go_at_call 44; refine (prec_as f l u _ HP _ (hT.below (by (repeat (first | with_reducible assumption | with_reducible exact Below.refl _ _ | with_reducible apply Below.drew | with_reducible apply below_drewN | with_reducible refine Below.alloc ?_ (by first | omega | (simp <;> omega)) _ | with_reducible refine Below.setCell ?_ (by first | omega | (simp <;> omega)) _ | with_reducible refine Below.trans ?_ (Below.mono (by assumption) (by first | omega | (simp <;> omega)))))))).mono ?_; rintro e w2 ⟨rfl, hb2⟩; (try (with_reducible replace hb2 := undrew hb2)); obtain ⟨hc2, hf2⟩ := bcell hb2; have hs2 := hb2.size; (try simp at hs2); (try have y2_0_0 : w.heap.size < w2.heap.size := (by omega)); (try have y2_1_0 : w1.heap.size < w2.heap.size := (by omega)))
      | (go_at_call 38; refine (emax_as f l u _ HM _ (hT.below (by (repeat (first | with_reducible assumption | with_reducible exact Below.refl _ _ | with_reducible apply Below.drew | with_reducible apply below_drewN | with_reducible refine Below.alloc ?_ (by first | omega | (simp <;> omega)) _ | with_reducible refine Below.setCell ?_ (by first | omega | (simp <;> omega)) _ | with_reducible refine Below.trans ?_ (Below.mono (by assumption) (by first | omega | (simp <;> omega)))))))).mono ?_; rintro e w3 ⟨rfl, hb3⟩; (try (with_reducible replace hb3 := undrew hb3)); obtain ⟨hc3, hf3⟩ := bcell hb3; have hs3 := hb3.size; (try simp at hs3); (try have y3_0_0 : w.heap.size < w3.heap.size := (by omega)); (try have y3_1_0 : w1.heap.size < w3.heap.size := (by omega))))
    obtain ⟨nb, hnb⟩ : ∃ nb : Nat, nb = w1.heap.size := ⟨_, rfl⟩
    rw [← hnb]
    have NB := Lib.hid hnb
    clear hnb
    go_loopg [8] (128 - p).toNat (fun gg s8 wr => ∃ kk : Nat, (kk : Int) ≤ 128 - p ∧ (128 - p).toNat - kk ≤ gg ∧ s8 = .int .i64 kk ∧ wr.cell? ⟨nb, 1, none⟩ = some (.int .u8 c) ∧ wr.cell? ⟨nb, 2, none⟩ = some (.int .i64 e) ∧ wr.cell? ⟨nb, 3, none⟩ = some (.int .u64 (hiB s)) ∧ wr.cell? ⟨nb, 4, none⟩ = some (.int .u64 (loB s)) ∧ nb < wr.heap.size ∧ Aside (Below w.heap.size w wr))
    case atStart =>
      refine ⟨0, by omega, by omega, rfl, ?_, ?_, ?_, ?_, ?_, ?_⟩
      · rw [NB.out]; simp [go_sem, *]
      · rw [NB.out]; simp [go_sem, *]
      · rw [NB.out]; simp [go_sem, *]
      · rw [NB.out]; simp [go_sem, *]
      · rw [NB.out]; first | omega | (simp; omega)
      · show Below _ _ _
        (repeat (first | with_reducible assumption | with_reducible exact Below.refl _ _ | with_reducible apply Below.drew | with_reducible apply below_drewN | with_reducible refine Below.alloc ?_ (by first | omega | (simp <;> omega)) _ | with_reducible refine Below.setCell ?_ (by first | omega | (simp <;> omega)) _ | with_reducible refine Below.trans ?_ (Below.mono (by assumption) (by first | omega | (simp <;> omega)))))
    case round =>
      obtain ⟨kk, hk, hg, rfl, q1, q2, q3, q4, hnl, BW⟩ := hrel
      by_cases hlt : (kk : Int) < 128 - p
      · have kb := fun w => bbit_as s kk (by omega) (by omega) false (Lib.hid (HB.out kk (by omega) hlt)) w
        simp only [Bv] at kb
        go_wp2_with (go_at_call 32; refine (kb _).mono ?_; rintro x w' ⟨rfl, hb'⟩)
        go_roundg ((128 - p).toNat - (kk + 1))
        case measure => omega
        case rel =>
          exact ⟨kk + 1, by omega, by omega, by go_num, (hb'.cell (p := ⟨nb, 1, none⟩) hnl).trans q1, (hb'.cell (p := ⟨nb, 2, none⟩) hnl).trans q2, (hb'.cell (p := ⟨nb, 3, none⟩) hnl).trans q3, (hb'.cell (p := ⟨nb, 4, none⟩) hnl).trans q4, Nat.lt_of_lt_of_le hnl hb'.size, (show Aside _ from BW.out.trans (hb'.mono BW.out.size))⟩
      · have hbr := BW.out
        have hszr := hbr.size
        go_wp2_with (first
          | (go_at_call 32; refine (k2 _).mono ?_; rintro x w5 ⟨rfl, hb5⟩; obtain ⟨hc5, hf5⟩ := bcell hb5; have hs5 := hb5.size)
          | (go_at_call 22; refine (goes9_any _ (hT.below (by (repeat (first | with_reducible assumption | with_reducible exact Below.refl _ _ | with_reducible apply Below.drew | with_reducible apply below_drewN | with_reducible refine Below.alloc ?_ (by first | omega | (simp <;> omega)) _ | with_reducible refine Below.setCell ?_ (by first | omega | (simp <;> omega)) _ | with_reducible refine Below.trans ?_ (Below.mono (by assumption) (by first | omega | (simp <;> omega)))))))).mono ?_; rintro e w6 ⟨rfl, hb6⟩; (try (with_reducible replace hb6 := undrew hb6)); obtain ⟨hc6, hf6⟩ := bcell hb6; have hs6 := hb6.size; (try simp at hs6); (try have y6_0_0 : w.heap.size < w6.heap.size := (by omega)); (try have y6_1_0 : w1.heap.size < w6.heap.size := (by omega))))
        go_ret
        exact ⟨rfl, by (repeat (first | with_reducible assumption | with_reducible exact Below.refl _ _ | with_reducible apply Below.drew | with_reducible apply below_drewN | with_reducible refine Below.alloc ?_ (by first | omega | (simp <;> omega)) _ | with_reducible refine Below.setCell ?_ (by first | omega | (simp <;> omega)) _ | with_reducible refine Below.trans ?_ (Below.mono (by assumption) (by first | omega | (simp <;> omega)))))⟩
theorem walk_fieldsReach (f : Int) (l : 0 ≤ f) (u : f ≤ 255) (b : BitVec 128) (w : World) (hT : Tab w) :
    Calls Tryd.prog 12 #[.int .u8 f, Bv b] w fun e w' => e = .returned (.bool true) ∧ Gr w w' := by
  have no : cOf f b ≠ 1 → cOf f b ≠ 2 → Calls Tryd.prog 12 #[.int .u8 f, Bv b] w fun e w' => e = .returned (.bool true) ∧ Gr w w' := fun n1 n2 => by
    obtain ⟨e1, e2⟩ := u_other f b n2 n1
    exact fr_no f l u b _ _ (by simpa using n1) (by simpa using n2) (Lib.hid ⟨rfl, rfl, e1, e2⟩) w hT
  by_cases h : f < 4
  · have hb := f_bounds f l h
    by_cases c1 : cOf f b = 1
    · obtain ⟨r1, r2, r3, r4, r5⟩ := reach_plain f l h b (.inl c1)
      exact fr_yes f l u b _ _ _ _ _ _ (Lib.hid ⟨rfl, rfl, rfl, rfl⟩) (Lib.hid rfl) (Lib.hid rfl) (by omega) (by omega) (by omega) (by omega) (Lib.hid fun i i0 i1 => bit_below r1 i i0 (by omega)) (Lib.hid r5) r2 r3 (.inl ⟨by simp [c1], by simp [c1], decide_eq_true (r4.1 c1)⟩) w hT
    · by_cases c2 : cOf f b = 2
      · obtain ⟨r1, r2, r3, r4, r5⟩ := reach_plain f l h b (.inr c2)
        exact fr_yes f l u b _ _ _ _ _ _ (Lib.hid ⟨rfl, rfl, rfl, rfl⟩) (Lib.hid rfl) (Lib.hid rfl) (by omega) (by omega) (by omega) (by omega) (Lib.hid fun i i0 i1 => bit_below r1 i i0 (by omega)) (Lib.hid r5) r2 r3 (.inr ⟨by simp [c2], by simp [c2], by simp [c2], decide_eq_false fun x => c1 (r4.2 x)⟩) w hT
      · exact no c1 c2
  · have := cOf_none f h b
    exact no (by omega) (by omega)
end Hb
end Go.Proofs.YteajalcnabjjeaaDoor
