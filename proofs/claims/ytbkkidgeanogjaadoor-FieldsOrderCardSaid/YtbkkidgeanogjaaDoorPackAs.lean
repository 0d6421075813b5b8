/-
  fields.Pack, EVERY INPUT; THE WALK of law09.goes. Conditions: the table of the formats holds its numbers.
-/
import Derived.Test.YtbkkidgeanogjaaDoorPack
namespace Go.Proofs.YtbkkidgeanogjaaDoor
open Go.RowKit
namespace Hb
set_option maxRecDepth 20000
theorem pk_zero {f : Int} {n : Bool} {c e : Int} {s : BitVec 128} (h : pOk f c e s = false) : pB f n c e s = 0#128 := by unfold pB; rw [h]; rfl
theorem pack_any (f : Int) (l : 0 ≤ f) (u : f ≤ 255) (n : Bool) (c e : Int) (s : BitVec 128) (c0 : 0 ≤ c) (c1 : c ≤ 255) (w : World) (hT : Tab w) :
    Calls Tryd.prog 15 #[.int .u8 f, Nv n c e s] w fun x w' => x = .returned (.tuple #[Bv (pB f n c e s), .bool (pOk f c e s)]) ∧ Gr w w' := by
  have no : ∀ (h : pOk f c e s = false), (Calls Tryd.prog 15 #[.int .u8 f, Nv n c e s] w fun x w' => x = .returned (.tuple #[.agg #[.int .u64 0, .int .u64 0], .bool false]) ∧ Gr w w') →
      Calls Tryd.prog 15 #[.int .u8 f, Nv n c e s] w fun x w' => x = .returned (.tuple #[Bv (pB f n c e s), .bool (pOk f c e s)]) ∧ Gr w w' := fun h k => by
    rw [pk_zero h, h]; exact k
  have yes : ∀ (z : BitVec 128) (h : pOk f c e s = true) (_ : pB f n c e s = z), (Calls Tryd.prog 15 #[.int .u8 f, Nv n c e s] w fun x w' => x = .returned (.tuple #[Bv z, .bool true]) ∧ Gr w w') →
      Calls Tryd.prog 15 #[.int .u8 f, Nv n c e s] w fun x w' => x = .returned (.tuple #[Bv (pB f n c e s), .bool (pOk f c e s)]) ∧ Gr w w' := fun z h hz k => by
    rw [hz, h]; exact k
  by_cases h : f < 4
  · have hb := f_bounds f l h
    by_cases h3 : 3 < c
    · exact no (by unfold pOk; rw [decide_eq_false (by omega : ¬ c ≤ 3)]; simp) (pk_class f l u n c e _ _ s (Lib.hid rfl) (Lib.hid rfl) c0 c1 h h3 w hT)
    by_cases n0 : c = 0
    · have ok : pOk f c e s = true := by unfold pOk; rw [n0, decide_eq_true h]; rfl
      exact yes _ ok (by unfold pB; rw [if_pos ok, if_pos n0]) (pk_nought f l u n c e _ _ s (Lib.hid rfl) (Lib.hid rfl) c0 c1 _ h n0 (Lib.hid rfl) w hT)
    by_cases n3 : c = 3
    · have ok : pOk f c e s = true := by unfold pOk; rw [n3, decide_eq_true h]; rfl
      exact yes _ ok (by unfold pB; rw [if_pos ok, if_neg n0, if_pos n3]) (pk_inf f l u n c e _ _ s (Lib.hid rfl) (Lib.hid rfl) c0 c1 _ h n3 (Lib.hid rfl) w hT)
    have b0 : (c == 0) = false := by simpa using n0
    have b3 : (c == 3) = false := by simpa using n3
    have okf : pOk f c e s = (bBit s 127 && decide (e ≤ fEm f) && decide (2 - fEm f - fPr f ≤ e) && !(wLost (wOf s) (pOff f e))) := by
      unfold pOk; rw [decide_eq_true h, decide_eq_true (by omega : c ≤ 3), decide_eq_false n0, decide_eq_false n3]; simp
    have hpb : ∀ (_ : pOk f c e s = true), pB f n c e s = fMake f n (pFld f e) (bShr s (pOff f e)) := fun ok => by unfold pB; rw [if_pos ok, if_neg n0, if_neg n3]
    cases hB : bBit s 127
    · exact no (by rw [okf, hB]; rfl) (pk_bit f l u n c e _ _ s (Lib.hid rfl) (Lib.hid rfl) c0 c1 h (by omega) b0 b3 (by omega) (by omega) (by omega) (by omega) (Lib.hid hB) w hT)
    by_cases he : fEm f < e
    · exact no (by rw [okf, decide_eq_false (by omega : ¬ e ≤ fEm f)]; simp) (pk_high f l u n c e _ _ s (Lib.hid rfl) (Lib.hid rfl) c0 c1 h (by omega) b0 b3 (by omega) (by omega) (by omega) (by omega) (Lib.hid hB) he w hT)
    by_cases he' : e < 1 - fEm f - fPr f + 1
    · exact no (by rw [okf, decide_eq_false (by omega : ¬ 2 - fEm f - fPr f ≤ e)]; simp) (pk_small f l u n c e _ _ s (Lib.hid rfl) (Lib.hid rfl) c0 c1 h (by omega) b0 b3 (by omega) (by omega) (by omega) (by omega) (Lib.hid hB) (by omega) he' w hT)
    have okl : pOk f c e s = !(wLost (wOf s) (pOff f e)) := by
      rw [okf, hB, decide_eq_true (by omega : e ≤ fEm f), decide_eq_true (by omega : 2 - fEm f - fPr f ≤ e)]; simp
    by_cases hf : e + fEm f < 1
    · have o1 : pOff f e = 128 - fPr f + 1 - (e + fEm f) := by unfold pOff; rw [if_pos hf]
      have o2 : pFld f e = 0 := by unfold pFld; rw [if_pos hf]
      rw [o1] at okl
      cases hl : wLost (wOf s) (128 - fPr f + 1 - (e + fEm f))
      · have ok : pOk f c e s = true := by rw [okl, hl]; rfl
        exact yes _ ok (by rw [hpb ok, o1, o2]) (pk_ok_sub f l u n c e _ _ s (Lib.hid rfl) (Lib.hid rfl) c0 c1 _ _ _ h (by omega) b0 b3 (by omega) (by omega) (by omega) (by omega) (Lib.hid hB) (by omega) (by omega) hf (Lib.hid rfl) (Lib.hid hl) (Lib.hid rfl) (Lib.hid rfl) w hT)
      · exact no (by rw [okl, hl]; rfl) (pk_lost_sub f l u n c e _ _ s (Lib.hid rfl) (Lib.hid rfl) c0 c1 _ h (by omega) b0 b3 (by omega) (by omega) (by omega) (by omega) (Lib.hid hB) (by omega) (by omega) hf (Lib.hid rfl) (Lib.hid hl) w hT)
    · have o1 : pOff f e = 128 - fPr f := by unfold pOff; rw [if_neg hf]
      have o2 : pFld f e = e + fEm f := by unfold pFld; rw [if_neg hf]
      rw [o1] at okl
      cases hl : wLost (wOf s) (128 - fPr f)
      · have ok : pOk f c e s = true := by rw [okl, hl]; rfl
        exact yes _ ok (by rw [hpb ok, o1, o2]) (pk_ok_nor f l u n c e _ _ s (Lib.hid rfl) (Lib.hid rfl) c0 c1 _ _ _ h (by omega) b0 b3 (by omega) (by omega) (by omega) (by omega) (Lib.hid hB) (by omega) (by omega) (by omega) (Lib.hid rfl) (Lib.hid hl) (Lib.hid rfl) (Lib.hid rfl) w hT)
      · exact no (by rw [okl, hl]; rfl) (pk_lost_nor f l u n c e _ _ s (Lib.hid rfl) (Lib.hid rfl) c0 c1 _ h (by omega) b0 b3 (by omega) (by omega) (by omega) (by omega) (Lib.hid hB) (by omega) (by omega) (by omega) (Lib.hid rfl) (Lib.hid hl) w hT)
  · exact no (by unfold pOk; rw [decide_eq_false h]; rfl) (pk_none f l u n c e _ _ s (Lib.hid rfl) (Lib.hid rfl) c0 c1 h w hT)
theorem pack_as (f : Int) (l : 0 ≤ f) (u : f ≤ 255) (n : Bool) (c e : Int) (s z : BitVec 128) (r : Bool) (c0 : 0 ≤ c) (c1 : c ≤ 255) (H : Hid (pB f n c e s = z ∧ pOk f c e s = r)) (w : World) (hT : Tab w) :
    Calls Tryd.prog 15 #[.int .u8 f, Nv n c e s] w fun x w' => x = .returned (.tuple #[Bv z, .bool r]) ∧ Gr w w' := by
  obtain ⟨rfl, rfl⟩ := H.out; exact pack_any f l u n c e s c0 c1 w hT
theorem unpack_hl (f : Int) (l : 0 ≤ f) (u : f ≤ 255) (h k : Int) (hh : Word h) (hk : Word k) (N : Bool) (c e zh zl : Int) (gh : Word zh) (gl : Word zl) (H : Hid (fNeg f (mkB h k) = N ∧ cOf f (mkB h k) = c ∧ uE f (mkB h k) = e ∧ uS f (mkB h k) = mkB zh zl)) (w : World) (hT : Tab w) :
    Calls Tryd.prog 6 #[.int .u8 f, .agg #[.int .u64 h, .int .u64 k]] w fun x w' => x = .returned (.agg #[.bool N, .int .u8 c, .int .i64 e, .int .u64 zh, .int .u64 zl]) ∧ Gr w w' := by
  have := unpack_as f l u (mkB h k) (mkB zh zl) N c e H w hT
  rw [bv_mk h k hh hk] at this
  simp only [Nv] at this
  rw [hiB_mk zh zl gh gl, loB_mk zh zl gh gl] at this
  exact this
theorem pack_hl (f : Int) (l : 0 ≤ f) (u : f ≤ 255) (n : Bool) (c e h k : Int) (hh : Word h) (hk : Word k) (zh zl : Int) (gh : Word zh) (gl : Word zl) (r : Bool) (c0 : 0 ≤ c) (c1 : c ≤ 255) (H : Hid (pB f n c e (mkB h k) = mkB zh zl ∧ pOk f c e (mkB h k) = r)) (w : World) (hT : Tab w) :
    Calls Tryd.prog 15 #[.int .u8 f, .agg #[.bool n, .int .u8 c, .int .i64 e, .int .u64 h, .int .u64 k]] w fun x w' => x = .returned (.tuple #[.agg #[.int .u64 zh, .int .u64 zl], .bool r]) ∧ Gr w w' := by
  have := pack_as f l u n c e (mkB h k) (mkB zh zl) r c0 c1 H w hT
  rw [bv_mk zh zl gh gl] at this
  simp only [Nv] at this
  rw [hiB_mk h k hh hk, loB_mk h k hh hk] at this
  exact this
theorem wd127 : Word 9223372036854775808 := ⟨by decide, by decide⟩
theorem g9a (w : World) (hT : Tab w) : Calls Tryd.prog 6 #[.int .u8 0, .agg #[.int .u64 0, .int .u64 15360]] w fun x w' => x = .returned (.agg #[.bool false, .int .u8 2, .int .i64 0, .int .u64 9223372036854775808, .int .u64 0]) ∧ Gr w w' :=
  unpack_hl 0 (by decide) (by decide) 0 15360 wd0 ⟨by decide, by decide⟩ _ _ _ _ _ wd127 wd0 (Lib.hid (by decide +kernel)) w hT
theorem g9b (w : World) (hT : Tab w) : Calls Tryd.prog 6 #[.int .u8 0, .agg #[.int .u64 0, .int .u64 1]] w fun x w' => x = .returned (.agg #[.bool false, .int .u8 1, .int .i64 (-24), .int .u64 9223372036854775808, .int .u64 0]) ∧ Gr w w' :=
  unpack_hl 0 (by decide) (by decide) 0 1 wd0 wd1 _ _ _ _ _ wd127 wd0 (Lib.hid (by decide +kernel)) w hT
theorem g9c (w : World) (hT : Tab w) : Calls Tryd.prog 15 #[.int .u8 0, .agg #[.bool false, .int .u8 1, .int .i64 (-24), .int .u64 9223372036854775808, .int .u64 0]] w fun x w' => x = .returned (.tuple #[.agg #[.int .u64 0, .int .u64 1], .bool true]) ∧ Gr w w' :=
  pack_hl 0 (by decide) (by decide) false 1 (-24) _ _ wd127 wd0 0 1 wd0 wd1 true (by decide) (by decide) (Lib.hid (by decide +kernel)) w hT
theorem g9d (w : World) (hT : Tab w) : Calls Tryd.prog 15 #[.int .u8 0, .agg #[.bool false, .int .u8 2, .int .i64 0, .int .u64 9223372036854775808, .int .u64 1]] w fun x w' => x = .returned (.tuple #[.agg #[.int .u64 0, .int .u64 0], .bool false]) ∧ Gr w w' :=
  pack_hl 0 (by decide) (by decide) false 2 0 _ _ wd127 wd1 0 0 wd0 wd0 false (by decide) (by decide) (Lib.hid (by decide +kernel)) w hT
set_option maxHeartbeats 1000000 in
theorem goes9_any (w : World) (hT : Tab w) :
    Calls Tryd.prog 8 #[] w fun x w' => x = .returned (.bool true) ∧ Gr w w' := by

  go_enter Tryd.func8, Tryd.ntmps8
  go_wp2_with (first
    | (go_at_call_of 6 (Value.int IntKind.u64 15360); refine (g9a _ (hT.below (by (repeat (first | with_reducible assumption | with_reducible exact Below.refl _ _ | with_reducible apply Below.drew | with_reducible apply below_drewN | with_reducible refine Below.alloc ?_ (by first | omega | (simp <;> omega)) _ | with_reducible refine Below.setCell ?_ (by first | omega | (simp <;> omega)) _ | with_reducible refine Below.trans ?_ (Below.mono (by assumption) (by first | omega | (simp <;> omega)))))))).mono ?_; rintro e w1 ⟨rfl, hb1⟩; (try (with_reducible replace hb1 := undrew hb1)); obtain ⟨hc1, hf1⟩ := bcell hb1; have hs1 := hb1.size; (try simp at hs1))
    | (go_at_call_of 6 (Value.int IntKind.u64 1); refine (g9b _ (hT.below (by (repeat (first | with_reducible assumption | with_reducible exact Below.refl _ _ | with_reducible apply Below.drew | with_reducible apply below_drewN | with_reducible refine Below.alloc ?_ (by first | omega | (simp <;> omega)) _ | with_reducible refine Below.setCell ?_ (by first | omega | (simp <;> omega)) _ | with_reducible refine Below.trans ?_ (Below.mono (by assumption) (by first | omega | (simp <;> omega)))))))).mono ?_; rintro e w2 ⟨rfl, hb2⟩; (try (with_reducible replace hb2 := undrew hb2)); obtain ⟨hc2, hf2⟩ := bcell hb2; have hs2 := hb2.size; (try simp at hs2); (try have y2_0_0 : w1.heap.size < w2.heap.size := (by omega)); (try have y2_0_1 : w1.heap.size < w2.heap.size + 1 := (by omega)))
    | (go_at_call_of 15 (Value.int IntKind.u8 1); refine (g9c _ (hT.below (by (repeat (first | with_reducible assumption | with_reducible exact Below.refl _ _ | with_reducible apply Below.drew | with_reducible apply below_drewN | with_reducible refine Below.alloc ?_ (by first | omega | (simp <;> omega)) _ | with_reducible refine Below.setCell ?_ (by first | omega | (simp <;> omega)) _ | with_reducible refine Below.trans ?_ (Below.mono (by assumption) (by first | omega | (simp <;> omega)))))))).mono ?_; rintro e w3 ⟨rfl, hb3⟩; (try (with_reducible replace hb3 := undrew hb3)); obtain ⟨hc3, hf3⟩ := bcell hb3; have hs3 := hb3.size; (try simp at hs3); (try have y3_0_0 : w1.heap.size < w3.heap.size := (by omega)); (try have y3_0_1 : w1.heap.size < w3.heap.size + 1 := (by omega)); (try have y3_1_0 : w2.heap.size < w3.heap.size := (by omega)); (try have y3_1_1 : w2.heap.size < w3.heap.size + 1 := (by omega)))
    | (go_at_call_of 15 (Value.int IntKind.u8 2); refine (g9d _ (hT.below (by (repeat (first | with_reducible assumption | with_reducible exact Below.refl _ _ | with_reducible apply Below.drew | with_reducible apply below_drewN | with_reducible refine Below.alloc ?_ (by first | omega | (simp <;> omega)) _ | with_reducible refine Below.setCell ?_ (by first | omega | (simp <;> omega)) _ | with_reducible refine Below.trans ?_ (Below.mono (by assumption) (by first | omega | (simp <;> omega)))))))).mono ?_; rintro e w4 ⟨rfl, hb4⟩; (try (with_reducible replace hb4 := undrew hb4)); obtain ⟨hc4, hf4⟩ := bcell hb4; have hs4 := hb4.size; (try simp at hs4); (try have y4_0_0 : w1.heap.size < w4.heap.size := (by omega)); (try have y4_0_1 : w1.heap.size < w4.heap.size + 1 := (by omega)); (try have y4_1_0 : w2.heap.size < w4.heap.size := (by omega)); (try have y4_1_1 : w2.heap.size < w4.heap.size + 1 := (by omega)); (try have y4_2_0 : w3.heap.size < w4.heap.size := (by omega)); (try have y4_2_1 : w3.heap.size < w4.heap.size + 1 := (by omega))))
  go_ret
  exact ⟨rfl, by (repeat (first | with_reducible assumption | with_reducible exact Below.refl _ _ | with_reducible apply Below.drew | with_reducible apply below_drewN | with_reducible refine Below.alloc ?_ (by first | omega | (simp <;> omega)) _ | with_reducible refine Below.setCell ?_ (by first | omega | (simp <;> omega)) _ | with_reducible refine Below.trans ?_ (Below.mono (by assumption) (by first | omega | (simp <;> omega)))))⟩
end Hb
end Go.Proofs.YtbkkidgeanogjaaDoor
