/-
  THE WALKS OF Wide, Low, AND OF THE COUNT CHAPTER'S Raise, Tail OF THE REFERENCE. Conditions: the slices read as the numbers.
-/
import Derived.Test.YtbelighbkjadkaaDoorRefBit
import Derived.Test.YtbelighbkjadkaaDoorWide
import Derived.Deep.AppendLies
import Derived.Deep.RegionHeld3
namespace Go.Proofs.YtbelighbkjadkaaDoor
open Go.RowKit
namespace Hb
set_option maxRecDepth 20000
/-! ### Raise -/
/-- The reference's Raise hands back a number and how far. -/
def RetRaise (m : Nat) (k : Int) (w : World) (e : Ending) (w' : World) : Prop := ∃ v, e = .returned (.tuple #[v, .int .i64 k]) ∧ IsN w' v m ∧ Below w.heap.size w w'
theorem rraise_zero (t : Int) (v : Value) (w : World) (ha : Hid (IsN w v 0)) : Calls Tryd.prog 23 #[v, .int .i64 t] w (RetRaise 0 0 w) := by
  obtain ⟨s, c, rfl, hr⟩ := ha.out
  rw [nlen_zero] at ha ⊢
  clear hr
  go_enter Tryd.func23, Tryd.ntmps23
  go_wp2
  refine bodyPost_ret (v := .tuple #[.slice s 0 c, .int .i64 0]) (by simp [results, Tryd.results23, go_sem]) rfl ⟨_, rfl, ha.out, ?_⟩
  (repeat (first | with_reducible assumption | with_reducible exact Below.refl _ _ | with_reducible apply Below.drew | with_reducible apply below_drewN | with_reducible refine Below.alloc ?_ (by first | omega | (simp <;> omega)) _ | with_reducible refine Below.setCell ?_ (by first | omega | (simp <;> omega)) _ | with_reducible refine Below.trans ?_ (Below.mono (by assumption) (by first | omega | (simp <;> omega)))))
theorem rraise_some (t L : Int) (v : Value) (a m : Nat) (h0 : a ≠ 0) (HL : Hid ((blen a : Int) = L)) (l0 : 0 ≤ L) (l1 : L ≤ t) (l2 : t ≤ 256) (hm : Hid (a * 2 ^ (t - L).toNat = m)) (w : World) (ha : Hid (IsN w v a)) (hn : nlen a ≤ 10) : Calls Tryd.prog 23 #[v, .int .i64 t] w (RetRaise m (t - L) w) := by
  have I1 := Lib.hid (show t - L = (((t - L).toNat : Nat) : Int) by omega)
  obtain ⟨s, c, rfl, hr⟩ := ha.out
  have hz : ((nlen a : Int) == 0) = false := by
    have : nlen a ≠ 0 := fun e => by have := nlen_lt a; rw [e, B32_zero] at this; omega
    simp; omega
  clear hr h0

  go_enter Tryd.func23, Tryd.ntmps23
  go_wp2_with (first
    | (go_at_call 25; refine (rlen_as _ a L HL _ ha (by omega)).mono ?_; rintro e wq ⟨rfl, rfl⟩)
    | (go_at_call 84; refine (rshl_as _ a (t - L).toNat m (t - L) (by omega) (by omega) I1 hm.out _ ha (by omega)).mono ?_; rintro e w1 ⟨v1, rfl, hn1, hb1⟩; have HN1 := Lib.hid hn1; clear hn1; (try (with_reducible replace hb1 := undrew hb1)); obtain ⟨hc1, hf1⟩ := bcell hb1; have hs1 := hb1.size; (try simp at hs1)))
  refine bodyPost_ret (v := .tuple #[v1, .int .i64 (t - L)]) (by simp [results, Tryd.results23, go_sem]) rfl ⟨_, rfl, HN1.out, ?_⟩
  (repeat (first | with_reducible assumption | with_reducible exact Below.refl _ _ | with_reducible apply Below.drew | with_reducible apply below_drewN | with_reducible refine Below.alloc ?_ (by first | omega | (simp <;> omega)) _ | with_reducible refine Below.setCell ?_ (by first | omega | (simp <;> omega)) _ | with_reducible refine Below.trans ?_ (Below.mono (by assumption) (by first | omega | (simp <;> omega)))))
/-! ### Tail -/
set_option maxHeartbeats 1000000 in
theorem rtail_core (v : Value) (a T : Nat) (t : Int) (w : World) (ha : Hid (IsN w v a)) (hT : (T : Int) ≤ t) (ht : t ≤ 256) (H0 : Hid (∀ i, i < T → a / 2 ^ i % 2 = 0)) (H1 : Hid ((T : Int) < t → a / 2 ^ T % 2 = 1)) :
    Calls Tryd.prog 31 #[v, .int .i64 t] w fun e w' => e = .returned (.int .i64 T) ∧ w = w' := by
  go_enter Tryd.func31, Tryd.ntmps31
  go_wp2
  go_loop [5] (fun v5 => ∃ k : Nat, k ≤ T ∧ v5 = .int .i64 k) (fun v5 => T - (intOf v5).toNat)
  case atStart => exact ⟨0, Nat.zero_le _, rfl⟩
  case round =>
    obtain ⟨k, hk, rfl⟩ := hrel
    have I1 := Lib.hid (show (k : Int) = ((k : Nat) : Int) from rfl)
    by_cases hlt : k < T
    · have hb := Lib.hid (show decide (a / 2 ^ k % 2 = 1) = false from decide_eq_false (by have := H0.out k hlt; omega))
      have hkt : (k : Int) < t := by omega
      go_wp2_with (first
        | (go_at_call 79; refine (rbit_as v a k k (by omega) (by omega) (Lib.hid rfl) false hb _ ha).mono ?_; rintro e wq ⟨rfl, rfl⟩))
      go_round
      case rel => exact ⟨k + 1, by omega, by go_num⟩
      case measure => simp [intOf]; omega
    · obtain rfl : k = T := by omega
      by_cases hkt : (k : Int) < t
      · have hb := Lib.hid (show decide (a / 2 ^ k % 2 = 1) = true from decide_eq_true (H1.out hkt))
        go_wp2_with (first
          | (go_at_call 79; refine (rbit_as v a k k (by omega) (by omega) (Lib.hid rfl) true hb _ ha).mono ?_; rintro e wq ⟨rfl, rfl⟩))
        go_ret
        exact ⟨rfl, rfl⟩
      · have e : t = (k : Int) := by omega
        subst e
        go_wp2
        go_ret
        exact ⟨rfl, rfl⟩
/-! ### Low -/
/-- The lowest 256 bits of a number. -/
def nW (n : Nat) : BitVec 256 := BitVec.ofNat 256 n
theorem nW_wq (n : Nat) : wq0 (nW n) = ((dig n 0 : Nat) : Int) + ((dig n 1 : Nat) : Int) * 4294967296 ∧ wq1 (nW n) = ((dig n 2 : Nat) : Int) + ((dig n 3 : Nat) : Int) * 4294967296 ∧
    wq2 (nW n) = ((dig n 4 : Nat) : Int) + ((dig n 5 : Nat) : Int) * 4294967296 ∧ wq3 (nW n) = ((dig n 6 : Nat) : Int) + ((dig n 7 : Nat) : Int) * 4294967296 := by
  have e : ∀ k, dig n k = n / 2 ^ (32 * k) % 4294967296 := fun k => rfl
  rw [e, e, e, e, e, e, e, e]
  unfold wq0 wq1 wq2 wq3 nW
  rw [BitVec.toNat_ofNat]
  simp only [Nat.reduceMul, Nat.reducePow]
  omega
set_option maxHeartbeats 4000000 in
theorem rlow_as (v : Value) (n : Nat) (z : BitVec 256) (hz : Hid (nW n = z)) (w : World) (hn : Hid (IsN w v n)) :
    Calls Tryd.prog 32 #[v] w fun e w' => e = .returned (Wv z) ∧ Gr w w' := by
  obtain ⟨q0, q1, q2, q3⟩ := nW_wq n
  rw [hz.out] at q0 q1 q2 q3
  have l0 := dig_lt n 0
  have l1 := dig_lt n 1
  have l2 := dig_lt n 2
  have l3 := dig_lt n 3
  have l4 := dig_lt n 4
  have l5 := dig_lt n 5
  have l6 := dig_lt n 6
  have l7 := dig_lt n 7
  simp only [Wv]
  rw [q0, q1, q2, q3]
  clear q0 q1 q2 q3
  obtain ⟨d0, h0⟩ : ∃ d : Nat, dig n 0 = d := ⟨_, rfl⟩
  obtain ⟨d1, h1⟩ : ∃ d : Nat, dig n 1 = d := ⟨_, rfl⟩
  obtain ⟨d2, h2⟩ : ∃ d : Nat, dig n 2 = d := ⟨_, rfl⟩
  obtain ⟨d3, h3⟩ : ∃ d : Nat, dig n 3 = d := ⟨_, rfl⟩
  obtain ⟨d4, h4⟩ : ∃ d : Nat, dig n 4 = d := ⟨_, rfl⟩
  obtain ⟨d5, h5⟩ : ∃ d : Nat, dig n 5 = d := ⟨_, rfl⟩
  obtain ⟨d6, h6⟩ : ∃ d : Nat, dig n 6 = d := ⟨_, rfl⟩
  obtain ⟨d7, h7⟩ : ∃ d : Nat, dig n 7 = d := ⟨_, rfl⟩
  rw [h0] at l0 ⊢
  rw [h1] at l1 ⊢
  rw [h2] at l2 ⊢
  rw [h3] at l3 ⊢
  rw [h4] at l4 ⊢
  rw [h5] at l5 ⊢
  rw [h6] at l6 ⊢
  rw [h7] at l7 ⊢
  have D0 := Lib.hid (show ((dig n 0 : Nat) : Int) = (d0 : Int) by rw [h0])
  have D1 := Lib.hid (show ((dig n 1 : Nat) : Int) = (d1 : Int) by rw [h1])
  have D2 := Lib.hid (show ((dig n 2 : Nat) : Int) = (d2 : Int) by rw [h2])
  have D3 := Lib.hid (show ((dig n 3 : Nat) : Int) = (d3 : Int) by rw [h3])
  have D4 := Lib.hid (show ((dig n 4 : Nat) : Int) = (d4 : Int) by rw [h4])
  have D5 := Lib.hid (show ((dig n 5 : Nat) : Int) = (d5 : Int) by rw [h5])
  have D6 := Lib.hid (show ((dig n 6 : Nat) : Int) = (d6 : Int) by rw [h6])
  have D7 := Lib.hid (show ((dig n 7 : Nat) : Int) = (d7 : Int) by rw [h7])
  clear h0 h1 h2 h3 h4 h5 h6 h7
  have o2_0 : w.heap.size < w.heap.size + 1 + 1 := by omega
  go_enter Tryd.func32, Tryd.ntmps32
  go_wp2
  refine wp_loop_rounds 5 ?_
  rw [rounds_succ]
  go_wp2_with (first
    | (go_at_call_of 80 (Value.int IntKind.i64 0); refine (digit_as v n 0 0 rfl d0 D0 _ (hn.out.below (by (repeat (first | with_reducible assumption | with_reducible exact Below.refl _ _ | with_reducible apply Below.drew | with_reducible apply below_drewN | with_reducible refine Below.alloc ?_ (by first | omega | (simp <;> omega)) _ | with_reducible refine Below.setCell ?_ (by first | omega | (simp <;> omega)) _ | with_reducible refine Below.trans ?_ (Below.mono (by assumption) (by first | omega | (simp <;> omega))))))) (by decide)).mono ?_; rintro e w' ⟨rfl, rfl⟩)
    | (go_at_call_of 80 (Value.int IntKind.i64 1); refine (digit_as v n 1 1 rfl d1 D1 _ (hn.out.below (by (repeat (first | with_reducible assumption | with_reducible exact Below.refl _ _ | with_reducible apply Below.drew | with_reducible apply below_drewN | with_reducible refine Below.alloc ?_ (by first | omega | (simp <;> omega)) _ | with_reducible refine Below.setCell ?_ (by first | omega | (simp <;> omega)) _ | with_reducible refine Below.trans ?_ (Below.mono (by assumption) (by first | omega | (simp <;> omega))))))) (by decide)).mono ?_; rintro e w' ⟨rfl, rfl⟩)
    | (go_at_call_of 80 (Value.int IntKind.i64 2); refine (digit_as v n 2 2 rfl d2 D2 _ (hn.out.below (by (repeat (first | with_reducible assumption | with_reducible exact Below.refl _ _ | with_reducible apply Below.drew | with_reducible apply below_drewN | with_reducible refine Below.alloc ?_ (by first | omega | (simp <;> omega)) _ | with_reducible refine Below.setCell ?_ (by first | omega | (simp <;> omega)) _ | with_reducible refine Below.trans ?_ (Below.mono (by assumption) (by first | omega | (simp <;> omega))))))) (by decide)).mono ?_; rintro e w' ⟨rfl, rfl⟩)
    | (go_at_call_of 80 (Value.int IntKind.i64 3); refine (digit_as v n 3 3 rfl d3 D3 _ (hn.out.below (by (repeat (first | with_reducible assumption | with_reducible exact Below.refl _ _ | with_reducible apply Below.drew | with_reducible apply below_drewN | with_reducible refine Below.alloc ?_ (by first | omega | (simp <;> omega)) _ | with_reducible refine Below.setCell ?_ (by first | omega | (simp <;> omega)) _ | with_reducible refine Below.trans ?_ (Below.mono (by assumption) (by first | omega | (simp <;> omega))))))) (by decide)).mono ?_; rintro e w' ⟨rfl, rfl⟩)
    | (go_at_call_of 80 (Value.int IntKind.i64 4); refine (digit_as v n 4 4 rfl d4 D4 _ (hn.out.below (by (repeat (first | with_reducible assumption | with_reducible exact Below.refl _ _ | with_reducible apply Below.drew | with_reducible apply below_drewN | with_reducible refine Below.alloc ?_ (by first | omega | (simp <;> omega)) _ | with_reducible refine Below.setCell ?_ (by first | omega | (simp <;> omega)) _ | with_reducible refine Below.trans ?_ (Below.mono (by assumption) (by first | omega | (simp <;> omega))))))) (by decide)).mono ?_; rintro e w' ⟨rfl, rfl⟩)
    | (go_at_call_of 80 (Value.int IntKind.i64 5); refine (digit_as v n 5 5 rfl d5 D5 _ (hn.out.below (by (repeat (first | with_reducible assumption | with_reducible exact Below.refl _ _ | with_reducible apply Below.drew | with_reducible apply below_drewN | with_reducible refine Below.alloc ?_ (by first | omega | (simp <;> omega)) _ | with_reducible refine Below.setCell ?_ (by first | omega | (simp <;> omega)) _ | with_reducible refine Below.trans ?_ (Below.mono (by assumption) (by first | omega | (simp <;> omega))))))) (by decide)).mono ?_; rintro e w' ⟨rfl, rfl⟩)
    | (go_at_call_of 80 (Value.int IntKind.i64 6); refine (digit_as v n 6 6 rfl d6 D6 _ (hn.out.below (by (repeat (first | with_reducible assumption | with_reducible exact Below.refl _ _ | with_reducible apply Below.drew | with_reducible apply below_drewN | with_reducible refine Below.alloc ?_ (by first | omega | (simp <;> omega)) _ | with_reducible refine Below.setCell ?_ (by first | omega | (simp <;> omega)) _ | with_reducible refine Below.trans ?_ (Below.mono (by assumption) (by first | omega | (simp <;> omega))))))) (by decide)).mono ?_; rintro e w' ⟨rfl, rfl⟩)
    | (go_at_call_of 80 (Value.int IntKind.i64 7); refine (digit_as v n 7 7 rfl d7 D7 _ (hn.out.below (by (repeat (first | with_reducible assumption | with_reducible exact Below.refl _ _ | with_reducible apply Below.drew | with_reducible apply below_drewN | with_reducible refine Below.alloc ?_ (by first | omega | (simp <;> omega)) _ | with_reducible refine Below.setCell ?_ (by first | omega | (simp <;> omega)) _ | with_reducible refine Below.trans ?_ (Below.mono (by assumption) (by first | omega | (simp <;> omega))))))) (by decide)).mono ?_; rintro e w' ⟨rfl, rfl⟩))
  rw [rounds_succ]
  go_wp2_with (first
    | (go_at_call_of 80 (Value.int IntKind.i64 0); refine (digit_as v n 0 0 rfl d0 D0 _ (hn.out.below (by (repeat (first | with_reducible assumption | with_reducible exact Below.refl _ _ | with_reducible apply Below.drew | with_reducible apply below_drewN | with_reducible refine Below.alloc ?_ (by first | omega | (simp <;> omega)) _ | with_reducible refine Below.setCell ?_ (by first | omega | (simp <;> omega)) _ | with_reducible refine Below.trans ?_ (Below.mono (by assumption) (by first | omega | (simp <;> omega))))))) (by decide)).mono ?_; rintro e w' ⟨rfl, rfl⟩)
    | (go_at_call_of 80 (Value.int IntKind.i64 1); refine (digit_as v n 1 1 rfl d1 D1 _ (hn.out.below (by (repeat (first | with_reducible assumption | with_reducible exact Below.refl _ _ | with_reducible apply Below.drew | with_reducible apply below_drewN | with_reducible refine Below.alloc ?_ (by first | omega | (simp <;> omega)) _ | with_reducible refine Below.setCell ?_ (by first | omega | (simp <;> omega)) _ | with_reducible refine Below.trans ?_ (Below.mono (by assumption) (by first | omega | (simp <;> omega))))))) (by decide)).mono ?_; rintro e w' ⟨rfl, rfl⟩)
    | (go_at_call_of 80 (Value.int IntKind.i64 2); refine (digit_as v n 2 2 rfl d2 D2 _ (hn.out.below (by (repeat (first | with_reducible assumption | with_reducible exact Below.refl _ _ | with_reducible apply Below.drew | with_reducible apply below_drewN | with_reducible refine Below.alloc ?_ (by first | omega | (simp <;> omega)) _ | with_reducible refine Below.setCell ?_ (by first | omega | (simp <;> omega)) _ | with_reducible refine Below.trans ?_ (Below.mono (by assumption) (by first | omega | (simp <;> omega))))))) (by decide)).mono ?_; rintro e w' ⟨rfl, rfl⟩)
    | (go_at_call_of 80 (Value.int IntKind.i64 3); refine (digit_as v n 3 3 rfl d3 D3 _ (hn.out.below (by (repeat (first | with_reducible assumption | with_reducible exact Below.refl _ _ | with_reducible apply Below.drew | with_reducible apply below_drewN | with_reducible refine Below.alloc ?_ (by first | omega | (simp <;> omega)) _ | with_reducible refine Below.setCell ?_ (by first | omega | (simp <;> omega)) _ | with_reducible refine Below.trans ?_ (Below.mono (by assumption) (by first | omega | (simp <;> omega))))))) (by decide)).mono ?_; rintro e w' ⟨rfl, rfl⟩)
    | (go_at_call_of 80 (Value.int IntKind.i64 4); refine (digit_as v n 4 4 rfl d4 D4 _ (hn.out.below (by (repeat (first | with_reducible assumption | with_reducible exact Below.refl _ _ | with_reducible apply Below.drew | with_reducible apply below_drewN | with_reducible refine Below.alloc ?_ (by first | omega | (simp <;> omega)) _ | with_reducible refine Below.setCell ?_ (by first | omega | (simp <;> omega)) _ | with_reducible refine Below.trans ?_ (Below.mono (by assumption) (by first | omega | (simp <;> omega))))))) (by decide)).mono ?_; rintro e w' ⟨rfl, rfl⟩)
    | (go_at_call_of 80 (Value.int IntKind.i64 5); refine (digit_as v n 5 5 rfl d5 D5 _ (hn.out.below (by (repeat (first | with_reducible assumption | with_reducible exact Below.refl _ _ | with_reducible apply Below.drew | with_reducible apply below_drewN | with_reducible refine Below.alloc ?_ (by first | omega | (simp <;> omega)) _ | with_reducible refine Below.setCell ?_ (by first | omega | (simp <;> omega)) _ | with_reducible refine Below.trans ?_ (Below.mono (by assumption) (by first | omega | (simp <;> omega))))))) (by decide)).mono ?_; rintro e w' ⟨rfl, rfl⟩)
    | (go_at_call_of 80 (Value.int IntKind.i64 6); refine (digit_as v n 6 6 rfl d6 D6 _ (hn.out.below (by (repeat (first | with_reducible assumption | with_reducible exact Below.refl _ _ | with_reducible apply Below.drew | with_reducible apply below_drewN | with_reducible refine Below.alloc ?_ (by first | omega | (simp <;> omega)) _ | with_reducible refine Below.setCell ?_ (by first | omega | (simp <;> omega)) _ | with_reducible refine Below.trans ?_ (Below.mono (by assumption) (by first | omega | (simp <;> omega))))))) (by decide)).mono ?_; rintro e w' ⟨rfl, rfl⟩)
    | (go_at_call_of 80 (Value.int IntKind.i64 7); refine (digit_as v n 7 7 rfl d7 D7 _ (hn.out.below (by (repeat (first | with_reducible assumption | with_reducible exact Below.refl _ _ | with_reducible apply Below.drew | with_reducible apply below_drewN | with_reducible refine Below.alloc ?_ (by first | omega | (simp <;> omega)) _ | with_reducible refine Below.setCell ?_ (by first | omega | (simp <;> omega)) _ | with_reducible refine Below.trans ?_ (Below.mono (by assumption) (by first | omega | (simp <;> omega))))))) (by decide)).mono ?_; rintro e w' ⟨rfl, rfl⟩))
  rw [rounds_succ]
  go_wp2_with (first
    | (go_at_call_of 80 (Value.int IntKind.i64 0); refine (digit_as v n 0 0 rfl d0 D0 _ (hn.out.below (by (repeat (first | with_reducible assumption | with_reducible exact Below.refl _ _ | with_reducible apply Below.drew | with_reducible apply below_drewN | with_reducible refine Below.alloc ?_ (by first | omega | (simp <;> omega)) _ | with_reducible refine Below.setCell ?_ (by first | omega | (simp <;> omega)) _ | with_reducible refine Below.trans ?_ (Below.mono (by assumption) (by first | omega | (simp <;> omega))))))) (by decide)).mono ?_; rintro e w' ⟨rfl, rfl⟩)
    | (go_at_call_of 80 (Value.int IntKind.i64 1); refine (digit_as v n 1 1 rfl d1 D1 _ (hn.out.below (by (repeat (first | with_reducible assumption | with_reducible exact Below.refl _ _ | with_reducible apply Below.drew | with_reducible apply below_drewN | with_reducible refine Below.alloc ?_ (by first | omega | (simp <;> omega)) _ | with_reducible refine Below.setCell ?_ (by first | omega | (simp <;> omega)) _ | with_reducible refine Below.trans ?_ (Below.mono (by assumption) (by first | omega | (simp <;> omega))))))) (by decide)).mono ?_; rintro e w' ⟨rfl, rfl⟩)
    | (go_at_call_of 80 (Value.int IntKind.i64 2); refine (digit_as v n 2 2 rfl d2 D2 _ (hn.out.below (by (repeat (first | with_reducible assumption | with_reducible exact Below.refl _ _ | with_reducible apply Below.drew | with_reducible apply below_drewN | with_reducible refine Below.alloc ?_ (by first | omega | (simp <;> omega)) _ | with_reducible refine Below.setCell ?_ (by first | omega | (simp <;> omega)) _ | with_reducible refine Below.trans ?_ (Below.mono (by assumption) (by first | omega | (simp <;> omega))))))) (by decide)).mono ?_; rintro e w' ⟨rfl, rfl⟩)
    | (go_at_call_of 80 (Value.int IntKind.i64 3); refine (digit_as v n 3 3 rfl d3 D3 _ (hn.out.below (by (repeat (first | with_reducible assumption | with_reducible exact Below.refl _ _ | with_reducible apply Below.drew | with_reducible apply below_drewN | with_reducible refine Below.alloc ?_ (by first | omega | (simp <;> omega)) _ | with_reducible refine Below.setCell ?_ (by first | omega | (simp <;> omega)) _ | with_reducible refine Below.trans ?_ (Below.mono (by assumption) (by first | omega | (simp <;> omega))))))) (by decide)).mono ?_; rintro e w' ⟨rfl, rfl⟩)
    | (go_at_call_of 80 (Value.int IntKind.i64 4); refine (digit_as v n 4 4 rfl d4 D4 _ (hn.out.below (by (repeat (first | with_reducible assumption | with_reducible exact Below.refl _ _ | with_reducible apply Below.drew | with_reducible apply below_drewN | with_reducible refine Below.alloc ?_ (by first | omega | (simp <;> omega)) _ | with_reducible refine Below.setCell ?_ (by first | omega | (simp <;> omega)) _ | with_reducible refine Below.trans ?_ (Below.mono (by assumption) (by first | omega | (simp <;> omega))))))) (by decide)).mono ?_; rintro e w' ⟨rfl, rfl⟩)
    | (go_at_call_of 80 (Value.int IntKind.i64 5); refine (digit_as v n 5 5 rfl d5 D5 _ (hn.out.below (by (repeat (first | with_reducible assumption | with_reducible exact Below.refl _ _ | with_reducible apply Below.drew | with_reducible apply below_drewN | with_reducible refine Below.alloc ?_ (by first | omega | (simp <;> omega)) _ | with_reducible refine Below.setCell ?_ (by first | omega | (simp <;> omega)) _ | with_reducible refine Below.trans ?_ (Below.mono (by assumption) (by first | omega | (simp <;> omega))))))) (by decide)).mono ?_; rintro e w' ⟨rfl, rfl⟩)
    | (go_at_call_of 80 (Value.int IntKind.i64 6); refine (digit_as v n 6 6 rfl d6 D6 _ (hn.out.below (by (repeat (first | with_reducible assumption | with_reducible exact Below.refl _ _ | with_reducible apply Below.drew | with_reducible apply below_drewN | with_reducible refine Below.alloc ?_ (by first | omega | (simp <;> omega)) _ | with_reducible refine Below.setCell ?_ (by first | omega | (simp <;> omega)) _ | with_reducible refine Below.trans ?_ (Below.mono (by assumption) (by first | omega | (simp <;> omega))))))) (by decide)).mono ?_; rintro e w' ⟨rfl, rfl⟩)
    | (go_at_call_of 80 (Value.int IntKind.i64 7); refine (digit_as v n 7 7 rfl d7 D7 _ (hn.out.below (by (repeat (first | with_reducible assumption | with_reducible exact Below.refl _ _ | with_reducible apply Below.drew | with_reducible apply below_drewN | with_reducible refine Below.alloc ?_ (by first | omega | (simp <;> omega)) _ | with_reducible refine Below.setCell ?_ (by first | omega | (simp <;> omega)) _ | with_reducible refine Below.trans ?_ (Below.mono (by assumption) (by first | omega | (simp <;> omega))))))) (by decide)).mono ?_; rintro e w' ⟨rfl, rfl⟩))
  rw [rounds_succ]
  go_wp2_with (first
    | (go_at_call_of 80 (Value.int IntKind.i64 0); refine (digit_as v n 0 0 rfl d0 D0 _ (hn.out.below (by (repeat (first | with_reducible assumption | with_reducible exact Below.refl _ _ | with_reducible apply Below.drew | with_reducible apply below_drewN | with_reducible refine Below.alloc ?_ (by first | omega | (simp <;> omega)) _ | with_reducible refine Below.setCell ?_ (by first | omega | (simp <;> omega)) _ | with_reducible refine Below.trans ?_ (Below.mono (by assumption) (by first | omega | (simp <;> omega))))))) (by decide)).mono ?_; rintro e w' ⟨rfl, rfl⟩)
    | (go_at_call_of 80 (Value.int IntKind.i64 1); refine (digit_as v n 1 1 rfl d1 D1 _ (hn.out.below (by (repeat (first | with_reducible assumption | with_reducible exact Below.refl _ _ | with_reducible apply Below.drew | with_reducible apply below_drewN | with_reducible refine Below.alloc ?_ (by first | omega | (simp <;> omega)) _ | with_reducible refine Below.setCell ?_ (by first | omega | (simp <;> omega)) _ | with_reducible refine Below.trans ?_ (Below.mono (by assumption) (by first | omega | (simp <;> omega))))))) (by decide)).mono ?_; rintro e w' ⟨rfl, rfl⟩)
    | (go_at_call_of 80 (Value.int IntKind.i64 2); refine (digit_as v n 2 2 rfl d2 D2 _ (hn.out.below (by (repeat (first | with_reducible assumption | with_reducible exact Below.refl _ _ | with_reducible apply Below.drew | with_reducible apply below_drewN | with_reducible refine Below.alloc ?_ (by first | omega | (simp <;> omega)) _ | with_reducible refine Below.setCell ?_ (by first | omega | (simp <;> omega)) _ | with_reducible refine Below.trans ?_ (Below.mono (by assumption) (by first | omega | (simp <;> omega))))))) (by decide)).mono ?_; rintro e w' ⟨rfl, rfl⟩)
    | (go_at_call_of 80 (Value.int IntKind.i64 3); refine (digit_as v n 3 3 rfl d3 D3 _ (hn.out.below (by (repeat (first | with_reducible assumption | with_reducible exact Below.refl _ _ | with_reducible apply Below.drew | with_reducible apply below_drewN | with_reducible refine Below.alloc ?_ (by first | omega | (simp <;> omega)) _ | with_reducible refine Below.setCell ?_ (by first | omega | (simp <;> omega)) _ | with_reducible refine Below.trans ?_ (Below.mono (by assumption) (by first | omega | (simp <;> omega))))))) (by decide)).mono ?_; rintro e w' ⟨rfl, rfl⟩)
    | (go_at_call_of 80 (Value.int IntKind.i64 4); refine (digit_as v n 4 4 rfl d4 D4 _ (hn.out.below (by (repeat (first | with_reducible assumption | with_reducible exact Below.refl _ _ | with_reducible apply Below.drew | with_reducible apply below_drewN | with_reducible refine Below.alloc ?_ (by first | omega | (simp <;> omega)) _ | with_reducible refine Below.setCell ?_ (by first | omega | (simp <;> omega)) _ | with_reducible refine Below.trans ?_ (Below.mono (by assumption) (by first | omega | (simp <;> omega))))))) (by decide)).mono ?_; rintro e w' ⟨rfl, rfl⟩)
    | (go_at_call_of 80 (Value.int IntKind.i64 5); refine (digit_as v n 5 5 rfl d5 D5 _ (hn.out.below (by (repeat (first | with_reducible assumption | with_reducible exact Below.refl _ _ | with_reducible apply Below.drew | with_reducible apply below_drewN | with_reducible refine Below.alloc ?_ (by first | omega | (simp <;> omega)) _ | with_reducible refine Below.setCell ?_ (by first | omega | (simp <;> omega)) _ | with_reducible refine Below.trans ?_ (Below.mono (by assumption) (by first | omega | (simp <;> omega))))))) (by decide)).mono ?_; rintro e w' ⟨rfl, rfl⟩)
    | (go_at_call_of 80 (Value.int IntKind.i64 6); refine (digit_as v n 6 6 rfl d6 D6 _ (hn.out.below (by (repeat (first | with_reducible assumption | with_reducible exact Below.refl _ _ | with_reducible apply Below.drew | with_reducible apply below_drewN | with_reducible refine Below.alloc ?_ (by first | omega | (simp <;> omega)) _ | with_reducible refine Below.setCell ?_ (by first | omega | (simp <;> omega)) _ | with_reducible refine Below.trans ?_ (Below.mono (by assumption) (by first | omega | (simp <;> omega))))))) (by decide)).mono ?_; rintro e w' ⟨rfl, rfl⟩)
    | (go_at_call_of 80 (Value.int IntKind.i64 7); refine (digit_as v n 7 7 rfl d7 D7 _ (hn.out.below (by (repeat (first | with_reducible assumption | with_reducible exact Below.refl _ _ | with_reducible apply Below.drew | with_reducible apply below_drewN | with_reducible refine Below.alloc ?_ (by first | omega | (simp <;> omega)) _ | with_reducible refine Below.setCell ?_ (by first | omega | (simp <;> omega)) _ | with_reducible refine Below.trans ?_ (Below.mono (by assumption) (by first | omega | (simp <;> omega))))))) (by decide)).mono ?_; rintro e w' ⟨rfl, rfl⟩))
  rw [rounds_succ]
  go_wp2
  simp [bodyPost, results, Tryd.results32, go_sem]
  (repeat (first | with_reducible assumption | with_reducible exact Below.refl _ _ | with_reducible apply Below.drew | with_reducible apply below_drewN | with_reducible refine Below.alloc ?_ (by first | omega | (simp <;> omega)) _ | with_reducible refine Below.setCell ?_ (by first | omega | (simp <;> omega)) _ | with_reducible refine Below.trans ?_ (Below.mono (by assumption) (by first | omega | (simp <;> omega)))))
/-! ### Wide -/
theorem two_cells {W : World} {g : Nat} {x y : Int} (hx : W.cell? ⟨g, 0, none⟩ = some (.int .u32 x)) (hy : W.cell? ⟨g, 1, none⟩ = some (.int .u32 y)) : ∀ (j : Nat) (u : Value), [Value.int .u32 x, Value.int .u32 y][j]? = some u → W.cell? ((⟨g, 0, none⟩ : Addr).add j) = some u := by
  intro j u hu
  rw [Go.WideShapes.add_plain]
  match j with
  | 0 => simp at hu; rw [← hu]; exact hx
  | 1 => simp at hu; rw [← hu]; exact hy
  | j + 2 => simp at hu
theorem two_ok {x y : Int} : ∀ u ∈ [Value.int .u32 x, Value.int .u32 y], u.oneCell' = true := by intro u hu; simp at hu; rcases hu with rfl | rfl <;> rfl
/-- 'append(own, digit, digit)'. -/
theorem wpList_append_two {ops : Array Oper} {rest : List Oper} {o : Oper} {a : Act} {Q : Exit → Act → World → Prop} {w : World} (hgd : o.guard = none) (s x : Operand)
    (ho : o.op = .call { callee := .builtin .append, args := #[s, x], argTypes := #[29, 29] }) (base : Nat) (v : Value) (n k : Nat) (hs : a.eval s = v) (hown : w.ownsRow base 91 1 v k (digV n k))
    (g : Nat) (d e : Int) (hx : a.eval x = .slice (some ⟨g, 0, none⟩) 2 2) (hc : w.cell? ⟨g, 0, none⟩ = some (.int .u32 d)) (hc' : w.cell? ⟨g, 1, none⟩ = some (.int .u32 e)) (hd : d = ((dig n k : Nat) : Int)) (he : e = ((dig n (k + 1) : Nat) : Int)) (hk : k ≤ 2000) (hbase : base ≤ w.heap.size)
    (h : ∀ v' w', w'.ownsRow base 91 1 v' (k + 2) (digV n (k + 2)) → w.grownBy w' v.ownBlock → wpList Tryd.prog ops Q rest (a.put o.dst v') w') : wpList Tryd.prog ops Q (o :: rest) a w := by
  obtain ⟨i0, hi, hz0, hz1, hz2⟩ := info_parts infoU
  exact wpList_append_own w hgd s x 29 ho base 91 i0 _ 1 4 Tryd.underlying29 hi hz0 hz1 hz2 rfl (by decide) v k (digV n k) hs hown ⟨g, 0, none⟩ 2 2 [.int .u32 d, .int .u32 e] hx rfl (two_cells hc hc') two_ok
    (by unfold maxLen; omega) (by omega) hbase fun v' w' h1 h2 _ => h v' w' (by rw [← digV_succ n (k + 1) e he, ← digV_succ n k d hd]; simpa using h1) h2
theorem wq_dig (x : BitVec 256) : (wq0 x % 4294967296 = ((dig x.toNat 0 : Nat) : Int) ∧ wq0 x / 4294967296 = ((dig x.toNat 1 : Nat) : Int)) ∧ (wq1 x % 4294967296 = ((dig x.toNat 2 : Nat) : Int) ∧ wq1 x / 4294967296 = ((dig x.toNat 3 : Nat) : Int)) ∧
    (wq2 x % 4294967296 = ((dig x.toNat 4 : Nat) : Int) ∧ wq2 x / 4294967296 = ((dig x.toNat 5 : Nat) : Int)) ∧ (wq3 x % 4294967296 = ((dig x.toNat 6 : Nat) : Int) ∧ wq3 x / 4294967296 = ((dig x.toNat 7 : Nat) : Int)) := by
  have e : ∀ k, dig x.toNat k = x.toNat / 2 ^ (32 * k) % 4294967296 := fun k => rfl
  rw [e, e, e, e, e, e, e, e]
  have := x.isLt
  unfold wq0 wq1 wq2 wq3
  simp only [Nat.reduceMul, Nat.reducePow]
  omega
theorem cell_fresh2 (W : World) (u v : Value) (t : TypeId) (g : Nat) (h : g = W.heap.size) : (W.alloc (.cells #[u, v] t)).cell? ⟨g, 0, none⟩ = some u ∧ (W.alloc (.cells #[u, v] t)).cell? ⟨g, 1, none⟩ = some v := by subst h; simp [go_sem]
theorem two_dig (n k : Nat) (d e : Int) (hd : d = ((dig n k : Nat) : Int)) (he : e = ((dig n (k + 1) : Nat) : Int)) : digV n k ++ [Value.int .u32 d, Value.int .u32 e] = digV n (k + 2) := by
  rw [← digV_succ n (k + 1) e he, ← digV_succ n k d hd]; simp
/-- The worlds of Wide's loop. -/
def WideAt (w : World) (x : BitVec 256) (x0 x1 x2 x3 : Int) (k : Nat) (v : Value) (wr : World) : Prop :=
  wr.ownsRow (w.heap.size + 1) 91 1 v (2 * k) (digV x.toNat (2 * k)) ∧ Below w.heap.size w wr ∧ w.heap.size < wr.heap.size ∧
    wr.cell? ⟨w.heap.size, 0, none⟩ = some (.int .u64 x0) ∧ wr.cell? ⟨w.heap.size, 1, none⟩ = some (.int .u64 x1) ∧ wr.cell? ⟨w.heap.size, 2, none⟩ = some (.int .u64 x2) ∧ wr.cell? ⟨w.heap.size, 3, none⟩ = some (.int .u64 x3)
set_option maxHeartbeats 4000000 in
theorem rwide_any (x : BitVec 256) (w : World) : Calls Tryd.prog 27 #[Wv x] w (RetN x.toNat w) := by
  obtain ⟨⟨p0, p1⟩, ⟨p2, p3⟩, ⟨p4, p5⟩, p6, p7⟩ := wq_dig x
  obtain ⟨a0, b0⟩ := wq0_word x; obtain ⟨a1, b1⟩ := wq1_word x; obtain ⟨a2, b2⟩ := wq2_word x; obtain ⟨a3, b3⟩ := wq3_word x
  have P0 := Lib.hid (show IntKind.u32.wrap (wq0 x) = ((dig x.toNat 0 : Nat) : Int) by rw [IntKind.wrap_u32]; omega)
  have P1 := Lib.hid (show IntKind.u32.wrap (wq0 x / 4294967296) = ((dig x.toNat 1 : Nat) : Int) by rw [IntKind.wrap_u32]; omega)
  have P2 := Lib.hid (show IntKind.u32.wrap (wq1 x) = ((dig x.toNat 2 : Nat) : Int) by rw [IntKind.wrap_u32]; omega)
  have P3 := Lib.hid (show IntKind.u32.wrap (wq1 x / 4294967296) = ((dig x.toNat 3 : Nat) : Int) by rw [IntKind.wrap_u32]; omega)
  have P4 := Lib.hid (show IntKind.u32.wrap (wq2 x) = ((dig x.toNat 4 : Nat) : Int) by rw [IntKind.wrap_u32]; omega)
  have P5 := Lib.hid (show IntKind.u32.wrap (wq2 x / 4294967296) = ((dig x.toNat 5 : Nat) : Int) by rw [IntKind.wrap_u32]; omega)
  have P6 := Lib.hid (show IntKind.u32.wrap (wq3 x) = ((dig x.toNat 6 : Nat) : Int) by rw [IntKind.wrap_u32]; omega)
  have P7 := Lib.hid (show IntKind.u32.wrap (wq3 x / 4294967296) = ((dig x.toNat 7 : Nat) : Int) by rw [IntKind.wrap_u32]; omega)
  clear p0 p1 p2 p3 p4 p5 p6 p7
  simp only [Wv]
  generalize wq0 x = x0 at *
  generalize wq1 x = x1 at *
  generalize wq2 x = x2 at *
  generalize wq3 x = x3 at *

  obtain ⟨i0, hi0, hz0, hz1, hz2⟩ := info_parts infoU
  go_enter Tryd.func27, Tryd.ntmps27
  go_wp2
  go_loopw [3, 4] (fun v3 v4 wr => ∃ k : Nat, k ≤ 4 ∧ v4 = .int .i64 k ∧ Hid (WideAt w x x0 x1 x2 x3 k v3 wr)) (fun _ v4 _ => 4 - (intOf v4).toNat)
  case atStart =>
    refine ⟨0, Nat.zero_le _, rfl, Lib.hid ⟨World.ownsRow_nil _ _ _ _, by (repeat (first | with_reducible assumption | with_reducible exact Below.refl _ _ | with_reducible apply Below.drew | with_reducible apply below_drewN | with_reducible refine Below.alloc ?_ (by first | omega | (simp <;> omega)) _ | with_reducible refine Below.setCell ?_ (by first | omega | (simp <;> omega)) _ | with_reducible refine Below.trans ?_ (Below.mono (by assumption) (by first | omega | (simp <;> omega))))), by simp, ?_, ?_, ?_, ?_⟩⟩ <;> simp [go_sem]
  case round =>
    obtain ⟨k, hk, rfl, HR⟩ := hrel
    obtain ⟨hown, hbr, hsz, k0, k1, k2, k3⟩ := HR.out
    have HO := Lib.hid hown
    have hne : ∀ j, u3.ownBlock = some j → w.heap.size + 1 ≤ j := fun j hj => (HO.out.lt j hj).1
    have HN := Lib.hid hne
    clear hown hne HR
    by_cases hlt : k < 4
    · obtain ⟨k', hk'⟩ : ∃ k', k' = k + 1 := ⟨_, rfl⟩
      have HK' := Lib.hid hk'
      clear hk'
      rcases (by omega : k = 0 ∨ k = 1 ∨ k = 2 ∨ k = 3) with rfl | rfl | rfl | rfl
      all_goals
        have hne2 : some w.heap.size ≠ u3.ownBlock := fun e => by have := HN.out _ e.symm; omega
        go_wp2
        go_region_held3 (fun y => y.cell? ⟨w.heap.size, 0, none⟩ = some (.int .u64 x0) ∧ y.cell? ⟨w.heap.size, 1, none⟩ = some (.int .u64 x1) ∧ y.cell? ⟨w.heap.size, 2, none⟩ = some (.int .u64 x2) ∧ y.cell? ⟨w.heap.size, 3, none⟩ = some (.int .u64 x3))
          (first | (simp [go_sem, World.cell?_alloc_past, *]; done) | (refine ⟨?_, ?_, ?_, ?_⟩ <;> exact hgrow.cell (by show World.cell? (World.alloc wr _) _ = _; rw [World.cell?_alloc_past _ _ _ (by first | omega | (simp; omega))]; first | exact k0 | exact k1 | exact k2 | exact k3) hne2))
          ((refine step_append_lies _ (by rfl) (.tmp 9) (.tmp 19) 29 (by rfl) (w.heap.size + 1) 91 i0 _ 1 4 Tryd.underlying29 hi0 hz0 (by omega) (by omega) rfl (by decide) u3 _ _ (by rfl) ((own_below' HO.out (Below.refl _ _).drew).alloc _) ⟨wr.heap.size, 0, none⟩ 2 2 [_, _] (by rfl) rfl (two_cells (cell_fresh2 _ _ _ _ _ rfl).1 (cell_fresh2 _ _ _ _ _ rfl).2) two_ok (by decide) (by unfold maxLen; omega) (by omega) (by simp; omega) (wr.heap.size + 1) (by simp) ?_; intro g cap w6 hown6 hgrow hat hlt6))
        go_wp2
        go_roundw
        case rel =>
          have hb6 : Below w.heap.size w w6 := ((hbr.alloc (by omega) _).drew).grown hgrow (by simp; omega) (fun j hj => by have := HN.out j hj; omega)
          have hk' := HK'.out
          have hg6 := hgrow.size
          simp at hg6
          refine ⟨k', by omega, by rw [hk']; go_num, Lib.hid ⟨?_, hb6, by omega, ?_, ?_, ?_, ?_⟩⟩
          · subst hk'
            simp only [Nat.reduceMul, Nat.reduceAdd] at hown6
            first
              | (rw [two_dig _ _ _ _ P0.out P1.out] at hown6; exact hown6)
              | (rw [two_dig _ _ _ _ P2.out P3.out] at hown6; exact hown6)
              | (rw [two_dig _ _ _ _ P4.out P5.out] at hown6; exact hown6)
              | (rw [two_dig _ _ _ _ P6.out P7.out] at hown6; exact hown6)
          all_goals exact hgrow.cell (by show World.cell? (World.alloc wr _) _ = _; rw [World.cell?_alloc_past _ _ _ (by first | omega | (simp; omega))]; first | exact k0 | exact k1 | exact k2 | exact k3) hne2
        case measure => simp [intOf]
    · obtain rfl : k = 4 := by omega
      obtain ⟨s2, c2, rfl, hr2⟩ := own_row HO.out x.isLt (by decide)
      have HR2 := Lib.hid hr2
      clear hr2
      go_wp2_with (first
        | (go_at_call 86; refine (trim_any s2 _ c2 x.toNat _ HR2.out).mono ?_; rintro e w' ⟨rfl, rfl⟩))
      go_ret
      exact ⟨_, rfl, HR2.out.cut, hbr⟩
end Hb
end Go.Proofs.YtbelighbkjadkaaDoor
