/-
  THE WALK of the law CountTwo. Conditions: the library's table holds its numbers.
-/
import Derived.Test.YtbelighbkjadkaaDoorGoes4
import Derived.Test.YtbelighbkjadkaaDoorRef4
import Derived.Test.YtbelighbkjadkaaDoorRef7Plain
import Derived.Test.YtbelighbkjadkaaDoorFieldsPlain
import Derived.Test.YtbelighbkjadkaaDoorPast
namespace Go.Proofs.YtbelighbkjadkaaDoor
open Go.RowKit
namespace Hb
set_option maxRecDepth 20000
theorem sgr {P : Program} {f : FuncId} {args : Array Value} {w : World} {v : Value} (h : Calls P f args w fun e w' => e = .returned v ∧ w = w') : Calls P f args w fun e w' => e = .returned v ∧ Gr w w' :=
  h.mono fun _ _ ⟨h1, h2⟩ => ⟨h1, h2 ▸ Below.refl _ _⟩
theorem raise_any (t : Int) (v : Value) (a m : Nat) (L k : Int) (HL : Hid ((blen a : Int) = L)) (l1 : L ≤ t) (l2 : t ≤ 256) (h : (a = 0 ∧ m = 0 ∧ k = 0) ∨ (a ≠ 0 ∧ k = t - L ∧ Hid (a * 2 ^ (t - L).toNat = m))) (w : World) (ha : Hid (IsN w v a)) (hn : nlen a ≤ 10) : Calls Tryd.prog 23 #[v, .int .i64 t] w (RetRaise m k w) := by
  have l0 : 0 ≤ L := by have := HL.out; omega
  rcases h with ⟨rfl, rfl, rfl⟩ | ⟨h0, rfl, hm⟩
  · exact rraise_zero t v w ha
  · exact rraise_some t L v a m h0 HL l0 l1 l2 hm w ha hn
set_option maxHeartbeats 4000000 in
theorem ct_core (a x : BitVec 128) (L k : Int) (m : Nat) (HL : Hid ((blen a.toNat : Int) = L)) (HL2 : Hid (bLen a = L)) (HR : Hid (bRaise a = x ∧ bRby a = k)) (HX : Hid (nB m = x)) (l1 : L ≤ 128)
    (h : (a.toNat = 0 ∧ m = 0 ∧ k = 0) ∨ (a.toNat ≠ 0 ∧ k = 128 - L ∧ Hid (a.toNat * 2 ^ (128 - L).toNat = m))) (w : World) (hT : DTab w) :
    Calls Tryd.prog 4 #[Bv a] w fun e w' => e = .returned (.bool true) ∧ Gr w w' := by
  have k1 := craise_as a x k HR
  have k2 := clen_as a L HL2
  simp only [Bv] at k1 k2 ⊢

  go_enter Tryd.func4, Tryd.ntmps4
  go_wp2_with (first
    | (go_at_call 20; refine (big_any a _).mono ?_; rintro e w1 ⟨v1, rfl, hn1, hb1⟩; have HN1 := Lib.hid hn1; clear hn1; (try (with_reducible replace hb1 := undrew hb1)); obtain ⟨hc1, hf1⟩ := bcell hb1; have hs1 := hb1.size; (try simp at hs1); (try have y1_0_0 : w.heap.size < w1.heap.size := (by omega)))
    | (go_at_call 22; refine (k1 _).mono ?_; rintro e w2 ⟨rfl, hb2⟩; (try (with_reducible replace hb2 := undrew hb2)); obtain ⟨hc2, hf2⟩ := bcell hb2; have hs2 := hb2.size; (try simp at hs2); (try have y2_0_0 : w.heap.size < w2.heap.size := (by omega)); (try have y2_0_1 : w.heap.size < w2.heap.size + 1 := (by omega)))
    | (go_at_call 23; refine (raise_any 128 v1 a.toNat m L k HL l1 (by decide) h _ (Lib.hid (HN1.out.below (by (repeat (first | with_reducible assumption | with_reducible exact Below.refl _ _ | with_reducible apply Below.drew | with_reducible apply below_drewN | with_reducible refine Below.alloc ?_ (by first | omega | (simp <;> omega)) _ | with_reducible refine Below.setCell ?_ (by first | omega | (simp <;> omega)) _ | with_reducible refine Below.trans ?_ (Below.mono (by assumption) (by first | omega | (simp <;> omega)))))))) (by have := nlen_128 a; omega)).mono ?_; rintro e w3 ⟨v3, rfl, hn3, hb3⟩; have HN3 := Lib.hid hn3; clear hn3; (try (with_reducible replace hb3 := undrew hb3)); obtain ⟨hc3, hf3⟩ := bcell hb3; have hs3 := hb3.size; (try simp at hs3); (try have y3_0_0 : w.heap.size < w3.heap.size := (by omega)); (try have y3_1_0 : w2.heap.size < w3.heap.size := (by omega))))
  refine wp_region_past (fun z => DTab z ∧ z.cell? ⟨w.heap.size, 0, none⟩ = some (.int .u64 (hiB a)) ∧ z.cell? ⟨w.heap.size, 1, none⟩ = some (.int .u64 (loB a)) ∧ z.cell? ⟨w2.heap.size, 0, none⟩ = some (.int .u64 (hiB x)) ∧ z.cell? ⟨w2.heap.size, 1, none⟩ = some (.int .u64 (loB x)) ∧ IsN z v1 a.toNat ∧ IsN z v3 m) (by kernel_rfl) (by kernel_rfl) (fun wx hbx => ?_) (fun T hne tw hh hx => ?_)
  · obtain ⟨hcx, _⟩ := bcell hbx
    have hb3x : Below w3.heap.size w3 wx := hbx
    have i3 := HN3.out.below hb3x
    have hb1x : Below w1.heap.size w1 w3 := by clear hbx hb3x; (repeat (first | with_reducible assumption | with_reducible exact Below.refl _ _ | with_reducible apply Below.drew | with_reducible apply below_drewN | with_reducible refine Below.alloc ?_ (by first | omega | (simp <;> omega)) _ | with_reducible refine Below.setCell ?_ (by first | omega | (simp <;> omega)) _ | with_reducible refine Below.trans ?_ (Below.mono (by assumption) (by first | omega | (simp <;> omega)))))
    have i1 := HN1.out.below (hb1x.trans (hb3x.mono hb1x.size))
    clear hb1x hb3x
    have hbw : Below w.heap.size w wx := by (repeat (first | with_reducible assumption | with_reducible exact Below.refl _ _ | with_reducible apply Below.drew | with_reducible apply below_drewN | with_reducible refine Below.alloc ?_ (by first | omega | (simp <;> omega)) _ | with_reducible refine Below.setCell ?_ (by first | omega | (simp <;> omega)) _ | with_reducible refine Below.trans ?_ (Below.mono (by assumption) (by first | omega | (simp <;> omega)))))
    refine ⟨hT.below hbw, ?_, ?_, ?_, ?_, i1, i3⟩ <;> simp [go_sem, *]
  have t0 := fun p => (hh p).1
  have t1 := fun p => (hh p).2.1
  have t2 := fun p => (hh p).2.2.1
  have t3 := fun p => (hh p).2.2.2.1
  have t4 := fun p => (hh p).2.2.2.2.1
  have t5 := fun p => Lib.hid (hh p).2.2.2.2.2.1
  have t6 := fun p => Lib.hid (hh p).2.2.2.2.2.2
  repeat (go_big_quiet_step (first
    | (go_at_call 24; exact callsPast hx (k2 _))
    | (go_at_call 25; exact callsPast hx (sgr (rlen_as v1 a.toNat L HL _ (t5 _) (by have := nlen_128 a; omega))))
    | (go_at_call 17; exact callsPast hx (bits_as v3 m x HX _ (t6 _)))
    | (go_at_call 26; exact callsPast hx (counts_any _ (t0 _)))))
  refine wpQuiet_nil ?_
  intro w5 hb5
  (try (with_reducible replace hb5 := undrew hb5)); obtain ⟨hc5, hf5⟩ := bcell hb5; have hs5 := hb5.size; (try simp at hs5); (try have y5_0 : w.heap.size < w5.heap.size := (by omega)); (try have y5_1 : w2.heap.size < w5.heap.size := (by omega))
  go_wp2
  go_ret
  exact ⟨rfl, by (repeat (first | with_reducible assumption | with_reducible exact Below.refl _ _ | with_reducible apply Below.drew | with_reducible apply below_drewN | with_reducible refine Below.alloc ?_ (by first | omega | (simp <;> omega)) _ | with_reducible refine Below.setCell ?_ (by first | omega | (simp <;> omega)) _ | with_reducible refine Below.trans ?_ (Below.mono (by assumption) (by first | omega | (simp <;> omega)))))⟩
theorem walk_countTwo (a : BitVec 128) (w : World) (hT : DTab w) :
    Calls Tryd.prog 4 #[Bv a] w fun e w' => e = .returned (.bool true) ∧ Gr w w' := by
  have hb := bLen_bounds a
  have e1 : bLen a = ((blen a.toNat : Nat) : Int) := rfl
  by_cases h0 : a.toNat = 0
  · have e0 : a = 0#128 := BitVec.eq_of_toNat_eq h0
    have hl0 : bLen a = 0 := by rw [e1, h0]; rfl
    refine ct_core a _ _ _ 0 (Lib.hid rfl) (Lib.hid rfl) (Lib.hid ⟨rfl, rfl⟩) (Lib.hid ?_) (by omega) (.inl ⟨h0, rfl, ?_⟩) w hT
    · unfold bRaise; rw [if_pos hl0, e0]; rfl
    · unfold bRby; rw [if_pos hl0]
  · obtain ⟨r1, r2, r3, r4, r5⟩ := raise_nat a h0
    refine ct_core a _ _ _ (bRaise a).toNat (Lib.hid rfl) (Lib.hid rfl) (Lib.hid ⟨rfl, rfl⟩) (Lib.hid (nBit_toNat _)) (by omega) (.inr ⟨h0, by rw [r1], Lib.hid ?_⟩) w hT
    rw [r2, show (128 - ((blen a.toNat : Nat) : Int)).toNat = 128 - blen a.toNat by omega]
end Hb
end Go.Proofs.YtbelighbkjadkaaDoor
