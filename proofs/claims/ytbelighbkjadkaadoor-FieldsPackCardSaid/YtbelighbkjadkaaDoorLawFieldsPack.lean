/-
  THE WALK of the law FieldsPack. Conditions: the table of the formats holds its numbers.
-/
import Derived.Test.YtbelighbkjadkaaDoorPackAs
import Derived.Test.YtbelighbkjadkaaDoorRef9Pack
namespace Go.Proofs.YtbelighbkjadkaaDoor
open Go.RowKit
namespace Hb
set_option maxRecDepth 20000
theorem rpack_any (f : Int) (l : 0 ≤ f) (u : f ≤ 255) (n : Bool) (c e : Int) (s : BitVec 128) (c0 : 0 ≤ c) (w : World) :
    Calls Tryd.prog 72 #[.int .u8 f, Nv n c e s] w fun x w' => x = .returned (.tuple #[Bv (pB f n c e s), .bool (pOk f c e s)]) ∧ Gr w w' := by
  have no : ∀ (h : pOk f c e s = false), (Calls Tryd.prog 72 #[.int .u8 f, Nv n c e s] w fun x w' => x = .returned (.tuple #[.agg #[.int .u64 0, .int .u64 0], .bool false]) ∧ Gr w w') →
      Calls Tryd.prog 72 #[.int .u8 f, Nv n c e s] w fun x w' => x = .returned (.tuple #[Bv (pB f n c e s), .bool (pOk f c e s)]) ∧ Gr w w' := fun h k => by
    rw [pk_zero h, h]; exact k
  by_cases h : f < 4
  · have hb := f_bounds f l h
    by_cases h3 : 3 < c
    · exact no (by unfold pOk; rw [decide_eq_false (by omega : ¬ c ≤ 3)]; simp) (rpk_early f l u n c e _ _ s (Lib.hid rfl) (Lib.hid rfl) (by omega) (by omega) (by omega) (by omega) (.inr (.inl ⟨by omega, h3⟩)) w)
    by_cases n0 : c = 0
    · have ok : pOk f c e s = true := by unfold pOk; rw [n0, decide_eq_true h]; rfl
      have hp : pB f n c e s = fMake f n 0 0#128 := by unfold pB; rw [if_pos ok, if_pos n0]; rfl
      rw [ok]
      exact rpk_lit f l u (by omega) n c e s _ (.inl ⟨n0, Lib.hid hp.symm⟩) w
    by_cases n3 : c = 3
    · have ok : pOk f c e s = true := by unfold pOk; rw [n3, decide_eq_true h]; rfl
      have hp : pB f n c e s = fInf f n := by unfold pB; rw [if_pos ok, if_neg n0, if_pos n3]
      rw [ok]
      exact rpk_lit f l u (by omega) n c e s _ (.inr ⟨n3, Lib.hid hp.symm⟩) w
    have b0 : (c == 0) = false := by simpa using n0
    have b3 : (c == 3) = false := by simpa using n3
    have okf : pOk f c e s = (bBit s 127 && decide (e ≤ fEm f) && decide (2 - fEm f - fPr f ≤ e) && !(wLost (wOf s) (pOff f e))) := by
      unfold pOk; rw [decide_eq_true h, decide_eq_true (by omega : c ≤ 3), decide_eq_false n0, decide_eq_false n3]; simp
    by_cases he : fEm f < e
    · exact no (by rw [okf, decide_eq_false (by omega : ¬ e ≤ fEm f)]; simp) (rpk_early f l u n c e _ _ s (Lib.hid rfl) (Lib.hid rfl) (by omega) (by omega) (by omega) (by omega) (.inr (.inr (.inl ⟨by omega, by omega, b0, b3, he⟩))) w)
    by_cases he' : e < 1 - fEm f - (fPr f - 1)
    · exact no (by rw [okf, decide_eq_false (by omega : ¬ 2 - fEm f - fPr f ≤ e)]; simp) (rpk_early f l u n c e _ _ s (Lib.hid rfl) (Lib.hid rfl) (by omega) (by omega) (by omega) (by omega) (.inr (.inr (.inr ⟨by omega, by omega, b0, b3, by omega, he'⟩))) w)
    obtain ⟨r1, r2, r3⟩ := rpack_ok f l h n c e s (by omega) n0 n3 (by omega) (by omega)
    have hx : (bShr s (pOff f e)).toNat = s.toNat / 2 ^ (pOff f e).toNat := toNat_shr _ _
    have cf : (e + fEm f < 1 ∧ pFld f e = 0 ∧ pOff f e = 128 - fPr f + 1 - (e + fEm f)) ∨ (1 ≤ e + fEm f ∧ pFld f e = e + fEm f ∧ pOff f e = 128 - fPr f) := by
      unfold pFld pOff
      by_cases hf : e + fEm f < 1
      · exact .inl ⟨hf, if_pos hf, if_pos hf⟩
      · exact .inr ⟨by omega, if_neg hf, if_neg hf⟩
    obtain ⟨z, hz⟩ : ∃ z, fMake f n (pFld f e) (bShr s (pOff f e)) = z := ⟨_, rfl⟩
    rw [hz] at r1 r2 r3
    have key := fun (r : Bool) (zh zl : Int) co => rpk_range f l u (by omega) n c e _ _ _ _ s _ z (uS f z) _ (Lib.hid rfl) (Lib.hid rfl) (by omega) (by omega) (by omega) (by omega) (by omega) b0 b3 (by omega) (by omega) cf (Lib.hid rfl) (Lib.hid hx) (Lib.hid hz) (cOf f z) (uE f z) (Lib.hid ⟨r2, rfl, rfl, rfl⟩) r zh zl co w
    by_cases e1 : uE f z = e
    · by_cases e2 : uS f z = s
      · have ok : pOk f c e s = true := by rw [r1, decide_eq_true e1, decide_eq_true e2]; rfl
        rw [ok, r3 ok]
        exact key true _ _ (.inl ⟨rfl, e1, e2, rfl, rfl⟩)
      · have ok : pOk f c e s = false := by rw [r1, decide_eq_false e2, Bool.and_false]
        refine no ok (key false 0 0 ?_)
        by_cases eh : hiB (uS f z) = hiB s
        · exact .inr (.inr (.inr ⟨rfl, e1, eh, by simpa using fun el => e2 (eq_of_hl eh el), rfl, rfl⟩))
        · exact .inr (.inr (.inl ⟨rfl, e1, by simpa using eh, rfl, rfl⟩))
    · have ok : pOk f c e s = false := by rw [r1, decide_eq_false e1, Bool.false_and]
      exact no ok (key false 0 0 (.inr (.inl ⟨rfl, by simpa using e1, rfl, rfl⟩)))
  · have hp : fPr f = 0 ∧ fEm f = 0 := ⟨(f_none f h).2.1, (f_none f h).2.2.1⟩
    exact no (by unfold pOk; rw [decide_eq_false h]; rfl) (rpk_early f l u n c e _ _ s (Lib.hid rfl) (Lib.hid rfl) (by omega) (by omega) (by omega) (by omega) (.inl (by omega)) w)
theorem fp_core (f : Int) (n : Bool) (c e h k : Int) (r : Bool) (s : BitVec 128) (w : World) (hT : Tab w)
    (k1 : ∀ w, Tab w → Calls Tryd.prog 71 #[.int .u8 f, .agg #[.bool n, .int .u8 c, .int .i64 e, .int .u64 (hiB s), .int .u64 (loB s)]] w fun x w' => x = .returned (.tuple #[.agg #[.int .u64 h, .int .u64 k], .bool r]) ∧ Gr w w')
    (k2 : ∀ w, Calls Tryd.prog 72 #[.int .u8 f, .agg #[.bool n, .int .u8 c, .int .i64 e, .int .u64 (hiB s), .int .u64 (loB s)]] w fun x w' => x = .returned (.tuple #[.agg #[.int .u64 h, .int .u64 k], .bool r]) ∧ Gr w w') :
    Calls Tryd.prog 14 #[.int .u8 f, .agg #[.bool n, .int .u8 c, .int .i64 e, .int .u64 (hiB s), .int .u64 (loB s)]] w fun x w' => x = .returned (.bool true) ∧ Gr w w' := by

  go_enter Tryd.func14, Tryd.ntmps14
  go_wp2_with (first
    | (go_at_call 71; refine (k1 _ (hT.below (by (repeat (first | with_reducible assumption | with_reducible exact Below.refl _ _ | with_reducible apply Below.drew | with_reducible apply below_drewN | with_reducible refine Below.alloc ?_ (by first | omega | (simp <;> omega)) _ | with_reducible refine Below.setCell ?_ (by first | omega | (simp <;> omega)) _ | with_reducible refine Below.trans ?_ (Below.mono (by assumption) (by first | omega | (simp <;> omega)))))))).mono ?_; rintro e w1 ⟨rfl, hb1⟩; (try (with_reducible replace hb1 := undrew hb1)); obtain ⟨hc1, hf1⟩ := bcell hb1; have hs1 := hb1.size; (try simp at hs1); (try have y1_0_0 : w.heap.size < w1.heap.size := (by omega)); (try have y1_0_1 : w.heap.size < w1.heap.size + 1 := (by omega)))
    | (go_at_call 72; refine (k2 _).mono ?_; rintro e w2 ⟨rfl, hb2⟩; (try (with_reducible replace hb2 := undrew hb2)); obtain ⟨hc2, hf2⟩ := bcell hb2; have hs2 := hb2.size; (try simp at hs2); (try have y2_0_0 : w.heap.size < w2.heap.size := (by omega)); (try have y2_0_1 : w.heap.size < w2.heap.size + 1 := (by omega)); (try have y2_1_0 : w1.heap.size < w2.heap.size := (by omega)); (try have y2_1_1 : w1.heap.size < w2.heap.size + 1 := (by omega)))
    | (go_at_call 70; refine (goes9_any _ (hT.below (by (repeat (first | with_reducible assumption | with_reducible exact Below.refl _ _ | with_reducible apply Below.drew | with_reducible apply below_drewN | with_reducible refine Below.alloc ?_ (by first | omega | (simp <;> omega)) _ | with_reducible refine Below.setCell ?_ (by first | omega | (simp <;> omega)) _ | with_reducible refine Below.trans ?_ (Below.mono (by assumption) (by first | omega | (simp <;> omega)))))))).mono ?_; rintro e w3 ⟨rfl, hb3⟩; (try (with_reducible replace hb3 := undrew hb3)); obtain ⟨hc3, hf3⟩ := bcell hb3; have hs3 := hb3.size; (try simp at hs3); (try have y3_0_0 : w.heap.size < w3.heap.size := (by omega)); (try have y3_1_0 : w1.heap.size < w3.heap.size := (by omega)); (try have y3_2_0 : w2.heap.size < w3.heap.size := (by omega))))
  go_ret
  exact ⟨rfl, by (repeat (first | with_reducible assumption | with_reducible exact Below.refl _ _ | with_reducible apply Below.drew | with_reducible apply below_drewN | with_reducible refine Below.alloc ?_ (by first | omega | (simp <;> omega)) _ | with_reducible refine Below.setCell ?_ (by first | omega | (simp <;> omega)) _ | with_reducible refine Below.trans ?_ (Below.mono (by assumption) (by first | omega | (simp <;> omega)))))⟩
theorem walk_fieldsPack (f : Int) (l : 0 ≤ f) (u : f ≤ 255) (n : Bool) (c e : Int) (c0 : 0 ≤ c) (c1 : c ≤ 255) (s : BitVec 128) (w : World) (hT : Tab w) :
    Calls Tryd.prog 14 #[.int .u8 f, Nv n c e s] w fun x w' => x = .returned (.bool true) ∧ Gr w w' :=
  fp_core f n c e _ _ _ s w hT (fun w hT => pack_any f l u n c e s c0 c1 w hT) (fun w => rpack_any f l u n c e s c0 w)
end Hb
end Go.Proofs.YtbelighbkjadkaaDoor
