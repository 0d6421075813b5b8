/-
  THE WALK of the law CountTail. Conditions: the library's table holds its numbers.
-/
import Derived.Test.YteajalcnabjjeaaDoorGoes4
import Derived.Test.YteajalcnabjjeaaDoorCountLaws
import Derived.Test.YteajalcnabjjeaaDoorShift
import Derived.IntWalk
namespace Go.Proofs.YteajalcnabjjeaaDoor
open Go.RowKit
namespace Hb
set_option maxRecDepth 20000
theorem ctail_zero (a : BitVec 256) (HZ : Hid (wZero a = true)) (HL : Hid (wTail a = 256)) (w : World) (hT : DTab w) :
    Calls Tryd.prog 5 #[Wv a] w fun e w' => e = .returned (.bool true) ∧ Gr w w' := by
  have k1 := tail_as a _ HL
  have k2 := wzero_as a _ HZ
  simp only [Wv] at k1 k2 ⊢

  go_enter Tryd.func5, Tryd.ntmps5
  go_wp2_with (first
    | (go_at_call 18; refine (k1 _ (hT.below (by (repeat (first | with_reducible assumption | with_reducible exact Below.refl _ _ | with_reducible apply Below.drew | with_reducible apply below_drewN | with_reducible refine Below.alloc ?_ (by first | omega | (simp <;> omega)) _ | with_reducible refine Below.setCell ?_ (by first | omega | (simp <;> omega)) _ | with_reducible refine Below.trans ?_ (Below.mono (by assumption) (by first | omega | (simp <;> omega)))))))).mono ?_; rintro e w1 ⟨rfl, hb1⟩; (try (with_reducible replace hb1 := undrew hb1)); obtain ⟨hc1, hf1⟩ := bcell hb1; have hs1 := hb1.size; (try simp at hs1); (try have y1_0_0 : w.heap.size < w1.heap.size := (by omega)))
    | (go_at_call 25; refine (k2 _).mono ?_; rintro e w2 ⟨rfl, hb2⟩; (try (with_reducible replace hb2 := undrew hb2)); obtain ⟨hc2, hf2⟩ := bcell hb2; have hs2 := hb2.size; (try simp at hs2); (try have y2_0_0 : w.heap.size < w2.heap.size := (by omega)))
    | (go_at_call 20; refine (counts_any _ (hT.below (by (repeat (first | with_reducible assumption | with_reducible exact Below.refl _ _ | with_reducible apply Below.drew | with_reducible apply below_drewN | with_reducible refine Below.alloc ?_ (by first | omega | (simp <;> omega)) _ | with_reducible refine Below.setCell ?_ (by first | omega | (simp <;> omega)) _ | with_reducible refine Below.trans ?_ (Below.mono (by assumption) (by first | omega | (simp <;> omega)))))))).mono ?_; rintro e w3 ⟨rfl, hb3⟩; (try (with_reducible replace hb3 := undrew hb3)); obtain ⟨hc3, hf3⟩ := bcell hb3; have hs3 := hb3.size; (try simp at hs3); (try have y3_0_0 : w.heap.size < w3.heap.size := (by omega))))
  go_ret
  exact ⟨rfl, by (repeat (first | with_reducible assumption | with_reducible exact Below.refl _ _ | with_reducible apply Below.drew | with_reducible apply below_drewN | with_reducible refine Below.alloc ?_ (by first | omega | (simp <;> omega)) _ | with_reducible refine Below.setCell ?_ (by first | omega | (simp <;> omega)) _ | with_reducible refine Below.trans ?_ (Below.mono (by assumption) (by first | omega | (simp <;> omega)))))⟩
set_option maxHeartbeats 2000000 in
theorem ctail_core (a : BitVec 256) (n m z0 z1 z2 z3 : Int) (HZ : Hid (wZero a = false)) (HL : Hid (wTail a = n)) (h0 : 0 ≤ n) (h1 : n < 256) (hm : Hid (n + 1 = m)) (H1 : Hid (wLost a n = false)) (H2 : Hid (wLost a m = true))
    (k3 : ∀ w, Calls Tryd.prog 27 #[Wv a, .int .i64 n] w fun e w' => e = .returned (.agg #[.int .u64 z0, .int .u64 z1, .int .u64 z2, .int .u64 z3]) ∧ Gr w w')
    (hb : (bits BinOp.and IntKind.u64 z0 1 == 1) = true) (w : World) (hT : DTab w) :
    Calls Tryd.prog 5 #[Wv a] w fun e w' => e = .returned (.bool true) ∧ Gr w w' := by
  have k1 := tail_as a _ HL
  have k2 := wzero_as a _ HZ
  have k4 := lost_as a _ _ H1
  have k5 := lost_as a _ _ H2
  have hix : ∀ w, (Instr.index 28 (.agg #[.int .u64 z0, .int .u64 z1, .int .u64 z2, .int .u64 z3]) (.int .i64 0)).run Tryd.prog w = .ok (.int .u64 z0) w := fun _ => by kernel_rfl
  simp only [Wv] at k1 k2 k3 k4 k5 ⊢

  go_enter Tryd.func5, Tryd.ntmps5
  go_wp2_with (first
    | (go_at_call 18; refine (k1 _ (hT.below (by (repeat (first | with_reducible assumption | with_reducible exact Below.refl _ _ | with_reducible apply Below.drew | with_reducible apply below_drewN | with_reducible refine Below.alloc ?_ (by first | omega | (simp <;> omega)) _ | with_reducible refine Below.setCell ?_ (by first | omega | (simp <;> omega)) _ | with_reducible refine Below.trans ?_ (Below.mono (by assumption) (by first | omega | (simp <;> omega)))))))).mono ?_; rintro e w1 ⟨rfl, hb1⟩; (try (with_reducible replace hb1 := undrew hb1)); obtain ⟨hc1, hf1⟩ := bcell hb1; have hs1 := hb1.size; (try simp at hs1); (try have y1_0_0 : w.heap.size < w1.heap.size := (by omega)))
    | (go_at_call 25; refine (k2 _).mono ?_; rintro e w2 ⟨rfl, hb2⟩; (try (with_reducible replace hb2 := undrew hb2)); obtain ⟨hc2, hf2⟩ := bcell hb2; have hs2 := hb2.size; (try simp at hs2); (try have y2_0_0 : w.heap.size < w2.heap.size := (by omega)))
    | (go_at_call_of 26 (Value.int IntKind.i64 n); refine (k4 _).mono ?_; rintro e w3 ⟨rfl, hb3⟩; (try (with_reducible replace hb3 := undrew hb3)); obtain ⟨hc3, hf3⟩ := bcell hb3; have hs3 := hb3.size; (try simp at hs3); (try have y3_0_0 : w.heap.size < w3.heap.size := (by omega)))
    | (go_at_call 27; refine (k3 _).mono ?_; rintro e w4 ⟨rfl, hb4⟩; (try (with_reducible replace hb4 := undrew hb4)); obtain ⟨hc4, hf4⟩ := bcell hb4; have hs4 := hb4.size; (try simp at hs4); (try have y4_0_0 : w.heap.size < w4.heap.size := (by omega)))
    | (go_at_call 26; rw [hm.out]; refine (k5 _).mono ?_; rintro e w5 ⟨rfl, hb5⟩; (try (with_reducible replace hb5 := undrew hb5)); obtain ⟨hc5, hf5⟩ := bcell hb5; have hs5 := hb5.size; (try simp at hs5); (try have y5_0_0 : w.heap.size < w5.heap.size := (by omega)))
    | (go_at_call 20; refine (counts_any _ (hT.below (by (repeat (first | with_reducible assumption | with_reducible exact Below.refl _ _ | with_reducible apply Below.drew | with_reducible apply below_drewN | with_reducible refine Below.alloc ?_ (by first | omega | (simp <;> omega)) _ | with_reducible refine Below.setCell ?_ (by first | omega | (simp <;> omega)) _ | with_reducible refine Below.trans ?_ (Below.mono (by assumption) (by first | omega | (simp <;> omega)))))))).mono ?_; rintro e w6 ⟨rfl, hb6⟩; (try (with_reducible replace hb6 := undrew hb6)); obtain ⟨hc6, hf6⟩ := bcell hb6; have hs6 := hb6.size; (try simp at hs6); (try have y6_0_0 : w.heap.size < w6.heap.size := (by omega))))
  go_ret
  exact ⟨rfl, by (repeat (first | with_reducible assumption | with_reducible exact Below.refl _ _ | with_reducible apply Below.drew | with_reducible apply below_drewN | with_reducible refine Below.alloc ?_ (by first | omega | (simp <;> omega)) _ | with_reducible refine Below.setCell ?_ (by first | omega | (simp <;> omega)) _ | with_reducible refine Below.trans ?_ (Below.mono (by assumption) (by first | omega | (simp <;> omega)))))⟩
theorem walk_countTail (a : BitVec 256) (w : World) (hT : DTab w) :
    Calls Tryd.prog 5 #[Wv a] w fun e w' => e = .returned (.bool true) ∧ Gr w w' := by
  cases hz : wZero a
  · obtain ⟨h1, h2, h3, h4⟩ := tail_plain a hz
    have hb := wTail_bounds a
    refine ctail_core a _ _ _ _ _ _ (Lib.hid hz) (Lib.hid rfl) hb.1 h1 (Lib.hid rfl) (Lib.hid h2) (Lib.hid h4) (wright_as a _ _ (Lib.hid rfl)) ?_ w hT
    have hw := wq0_word (wShr a (wTail a))
    rw [and_one _ hw.1 hw.2, decide_eq_true_eq]
    exact h3
  · exact ctail_zero a (Lib.hid hz) (Lib.hid (tail_zero a hz)) w hT
end Hb
end Go.Proofs.YteajalcnabjjeaaDoor
