/-
  THE WALKS OF Bit, Len, Cmp OF THE REFERENCE. Conditions: the slices read as the numbers, which are not too long.
-/
import Derived.Test.YtbelighbkjadkaaDoorRefShl
namespace Go.Proofs.YtbelighbkjadkaaDoor
open Go.RowKit
namespace Hb
set_option maxRecDepth 20000
theorem and_one32 (a : Int) (h0 : 0 ≤ a) (h1 : a < 4294967296) : (bits BinOp.and IntKind.u32 a 1 == 1) = decide (a % 2 = 1) := by
  obtain ⟨m, rfl⟩ := Int.eq_ofNat_of_zero_le h0
  have := u32_and_nat m 1 (by omega) (by decide)
  rw [show ((1 : Nat) : Int) = 1 from rfl] at this
  rw [this, nat_mask1, Bool.eq_iff_iff]
  simp only [beq_iff_eq, decide_eq_true_eq]
  omega
theorem rbit_form (n k : Nat) (i D : Int) (hi : i = (k : Int)) (hD : D = ((dig n (k / 32) : Nat) : Int)) : (bits BinOp.and IntKind.u32 (D / 2 ^ (i % 32).toNat) 1 == 1) = decide (n / 2 ^ k % 2 = 1) := by
  have e : D / 2 ^ (i % 32).toNat = ((dig n (k / 32) / 2 ^ (k % 32) : Nat) : Int) := by
    rw [hD, show (i % 32).toNat = k % 32 by omega]; simp
  have hl := dig_lt n (k / 32)
  rw [e, and_one32 _ (Int.natCast_nonneg _) (Int.ofNat_lt.mpr (Nat.lt_of_le_of_lt (Nat.div_le_self _ _) hl)), ← bit_dig n k]
  generalize dig n (k / 32) / 2 ^ (k % 32) = x
  rw [Bool.eq_iff_iff]; simp only [decide_eq_true_eq]; omega
theorem rbit_as (v : Value) (n k : Nat) (i : Int) (h0 : 0 ≤ i) (h1 : i ≤ 100000) (hi : Hid (i = (k : Int))) (r : Bool) (hr : Hid (decide (n / 2 ^ k % 2 = 1) = r)) (w : World) (h : Hid (IsN w v n)) :
    Calls Tryd.prog 79 #[v, .int .i64 i] w fun e w' => e = .returned (.bool r) ∧ w = w' := by
  obtain ⟨D, hD⟩ : ∃ D : Int, D = ((dig n (k / 32) : Nat) : Int) := ⟨_, rfl⟩
  have e := rbit_form n k i D hi.out hD
  rw [hr.out] at e
  rw [← e]
  have l1 := dig_lt n (k / 32)
  have g0 : 0 ≤ D := by omega
  have g1 : D < 4294967296 := by omega
  have g2 : 0 ≤ i % 32 := by omega
  have g3 : i % 32 ≤ 31 := by omega
  have DD := Lib.hid hD.symm
  have HK := Lib.hid (show i / 32 = ((k / 32 : Nat) : Int) by have := hi.out; omega)
  have hk : k / 32 < 4611686018427387904 := by have := hi.out; omega
  clear e hD
  go_enter Tryd.func79, Tryd.ntmps79
  go_wp2_with (first
    | (go_at_call 80; refine (digit_as v n _ (k / 32) HK.out D DD _ h.out hk).mono ?_; rintro e w' ⟨rfl, rfl⟩))
  go_ret
  exact ⟨rfl, rfl⟩
theorem ret_int {k : IntKind} {a b : Int} (h : a = b) : Ending.returned (.int k a) = .returned (.int k b) := by rw [h]
set_option maxHeartbeats 1000000 in
theorem rlen_core (s : Option Addr) (c a b0 : Nat) (L : Int) (HL : Hid ((blen a : Int) = L)) (w : World) (HS : Hid (0 < nlen a → s = some ⟨b0, 0, none⟩))
    (HC : Hid (∀ j, j < nlen a → b0 < w.heap.size ∧ w.cell? ⟨b0, j, none⟩ = some (.int .u32 ((dig a j : Nat) : Int)))) (l4 : nlen a ≤ 500) :
    Calls Tryd.prog 25 #[.slice s (nlen a) c] w fun e w' => e = .returned (.int .i64 L) ∧ w = w' := by
  obtain ⟨b1, b2⟩ : 0 ≤ L ∧ L ≤ 100000 := by
    have := blen_nlen a
    have := HL.out
    omega
  by_cases hz : nlen a = 0
  · have h0 : L = 0 := by have := HL.out; have := blen_nlen a; omega
    subst h0
    rw [hz]
    clear hz HL HS HC l4 b1 b2
    go_enter Tryd.func25, Tryd.ntmps25
    go_wp2
    go_ret
    exact ⟨rfl, rfl⟩
  · obtain ⟨m, hm⟩ : ∃ m, nlen a = m + 1 := ⟨nlen a - 1, by omega⟩
    have HT := Lib.hid (blen_top hm)
    have hd := dig_top hm
    have hlt := dig_lt a m
    obtain ⟨hb0, e1⟩ := HC.out m (by omega)
    obtain rfl := HS.out (by omega)
    obtain ⟨A, hA⟩ : ∃ A : Nat, dig a m = A := ⟨_, rfl⟩
    rw [hA] at hd hlt e1
    have HA := Lib.hid hA
    rw [hm] at l4 ⊢
    have hz' : (((m : Int) + 1) * 32 == 0) = false := by simp; omega
    clear hz hm hA
    go_enter Tryd.func25, Tryd.ntmps25
    go_wp2
    go_loop [3, 4] (fun v3 v4 => ∃ t : Int, 0 < t ∧ t < 4294967296 ∧ v4 = .int .u32 t ∧ v3 = .int .i64 (L + 32 - (blen t.toNat : Int))) (fun v3 _ => (intOf v3).toNat)
    case atStart => exact ⟨A, by omega, by omega, rfl, by have := HT.out; rw [HA.out] at this; have := HL.out; rw [Int.toNat_natCast]; go_num⟩
    case round =>
      obtain ⟨t, ht0, ht1, rfl, rfl⟩ := hrel
      have hn0 : t.toNat ≠ 0 := by omega
      have hb1 : 0 < blen t.toNat := blen_pos hn0
      have hb2 : blen t.toNat ≤ 32 := (blen_le t.toNat 32).2 (by omega)
      by_cases hlt2 : t < 2147483648
      · have hb3 : blen t.toNat ≤ 31 := (blen_le t.toNat 31).2 (by omega)
        have HB := Lib.hid (show blen (t * 2).toNat = blen t.toNat + 1 by rw [show (t * 2).toNat = t.toNat * 2 by omega]; exact blen_two hn0)
        clear hn0
        generalize blen t.toNat = B at *
        go_wp2
        go_round
        case rel => exact ⟨t * 2, by omega, by omega, by go_num, by rw [HB.out]; go_num⟩
        case measure => simp [intOf]; omega
      · have HB := Lib.hid (blen_32 (t := t.toNat) (by omega) (by omega))
        clear hn0
        go_wp2
        go_ret
        exact ⟨ret_int (by rw [HB.out]; omega), rfl⟩
theorem rlen_as (v : Value) (a : Nat) (L : Int) (HL : Hid ((blen a : Int) = L)) (w : World) (ha : Hid (IsN w v a)) (h : nlen a ≤ 500) :
    Calls Tryd.prog 25 #[v] w fun e w' => e = .returned (.int .i64 L) ∧ w = w' := by
  obtain ⟨s, c, b0, rfl, hs, hc, _⟩ := ha.out.parts
  exact rlen_core s c a b0 L HL w (Lib.hid hs) (Lib.hid hc) h
theorem rcmp_far (s s' : Option Addr) (c c' la lb : Nat) (r : Int) (hr : (la < lb ∧ r = -1) ∨ (lb < la ∧ r = 1)) (w : World) :
    Calls Tryd.prog 95 #[.slice s la c, .slice s' lb c'] w fun e w' => e = .returned (.int .i64 r) ∧ Gr w w' := by
  rcases hr with ⟨h, rfl⟩ | ⟨h, rfl⟩
  · have h1 : ((la : Int) != (lb : Int)) = true := by simp; omega
    go_enter Tryd.func95, Tryd.ntmps95
    go_wp2
    go_ret
    exact ⟨rfl, Below.refl _ _⟩
  · have h1 : ((la : Int) != (lb : Int)) = true := by simp; omega
    go_enter Tryd.func95, Tryd.ntmps95
    go_wp2
    go_ret
    exact ⟨rfl, Below.refl _ _⟩
set_option maxHeartbeats 1000000 in
theorem rcmp_near (s s' : Option Addr) (c c' L a b b0 b1 : Nat) (r : Int) (w : World) (hL : L ≤ 1000) (HR : Hid (cmpN a b = r)) (HE : Hid (a / B32 L = b / B32 L)) (HS : Hid (0 < L → s = some ⟨b0, 0, none⟩)) (HS' : Hid (0 < L → s' = some ⟨b1, 0, none⟩))
    (HC : Hid (∀ j, j < L → b0 < w.heap.size ∧ w.cell? ⟨b0, j, none⟩ = some (.int .u32 ((dig a j : Nat) : Int)))) (HC' : Hid (∀ j, j < L → b1 < w.heap.size ∧ w.cell? ⟨b1, j, none⟩ = some (.int .u32 ((dig b j : Nat) : Int)))) :
    Calls Tryd.prog 95 #[.slice s L c, .slice s' L c'] w fun e w' => e = .returned (.int .i64 r) ∧ Gr w w' := by
  go_enter Tryd.func95, Tryd.ntmps95
  go_wp2
  go_loopw [5] (fun v5 wr => ∃ k : Nat, k ≤ L ∧ v5 = .int .i64 ((k : Int) - 1) ∧ Hid (a / B32 k = b / B32 k) ∧ Hid (Below w.heap.size w wr)) (fun v5 _ => (intOf v5 + 1).toNat)
  case atStart => exact ⟨L, Nat.le_refl _, rfl, HE, Lib.hid (Below.refl _ _)⟩
  case round =>
    obtain ⟨k, hk, rfl, HK, HB⟩ := hrel
    by_cases hk0 : k = 0
    · subst hk0
      have h0 := cmp_eq (top_all HK.out)
      rw [HR.out] at h0
      subst h0
      rw [show (((0 : Nat) : Int) - 1) = -1 from rfl]
      clear hk
      go_wp2
      go_ret
      exact ⟨rfl, HB.out⟩
    · obtain ⟨j, rfl⟩ : ∃ j, k = j + 1 := ⟨k - 1, by omega⟩
      rw [show (((j + 1 : Nat) : Int) - 1) = (j : Int) by omega]
      obtain ⟨hb0, e1⟩ := HC.out j (by omega)
      obtain ⟨hb1, e2⟩ := HC'.out j (by omega)
      obtain rfl := HS.out (by omega)
      obtain rfl := HS'.out (by omega)
      have e3 := (HB.out.cell (p := ⟨b0, j, none⟩) hb0).trans e1
      have e4 := (HB.out.cell (p := ⟨b1, j, none⟩) hb1).trans e2
      obtain ⟨A, hA⟩ : ∃ A : Int, ((dig a j : Nat) : Int) = A := ⟨_, rfl⟩
      obtain ⟨B, hB⟩ : ∃ B : Int, ((dig b j : Nat) : Int) = B := ⟨_, rfl⟩
      rw [hA] at e3
      rw [hB] at e4
      have hj : j < L := by omega
      have HA := Lib.hid hA
      have HBB := Lib.hid hB
      clear e1 e2 hk0 hA hB hk
      by_cases h1 : A < B
      · have h0 := cmp_lt (top_lt HK.out (show dig a j < dig b j by have := HA.out; have := HBB.out; omega))
        rw [HR.out] at h0
        subst h0
        go_wp2
        go_quiet (fail)
        go_wp2
        go_ret
        exact ⟨rfl, by have := HB.out; (repeat (first | with_reducible assumption | with_reducible exact Below.refl _ _ | with_reducible apply Below.drew | with_reducible apply below_drewN | with_reducible refine Below.alloc ?_ (by first | omega | (simp <;> omega)) _ | with_reducible refine Below.setCell ?_ (by first | omega | (simp <;> omega)) _ | with_reducible refine Below.trans ?_ (Below.mono (by assumption) (by first | omega | (simp <;> omega)))))⟩
      by_cases h2 : B < A
      · have h0 := cmp_gt (top_lt HK.out.symm (show dig b j < dig a j by have := HA.out; have := HBB.out; omega))
        rw [HR.out] at h0
        subst h0
        go_wp2
        go_quiet (fail)
        go_wp2
        go_quiet (fail)
        go_wp2
        go_ret
        exact ⟨rfl, by have := HB.out; (repeat (first | with_reducible assumption | with_reducible exact Below.refl _ _ | with_reducible apply Below.drew | with_reducible apply below_drewN | with_reducible refine Below.alloc ?_ (by first | omega | (simp <;> omega)) _ | with_reducible refine Below.setCell ?_ (by first | omega | (simp <;> omega)) _ | with_reducible refine Below.trans ?_ (Below.mono (by assumption) (by first | omega | (simp <;> omega)))))⟩
      · have HK2 := Lib.hid (top_eq HK.out (show dig a j = dig b j by have := HA.out; have := HBB.out; omega))
        go_wp2
        go_quiet (fail)
        go_wp2
        go_quiet (fail)
        go_wp2
        go_roundw
        case rel => exact ⟨j, by omega, rfl, HK2, Lib.hid (by have := HB.out; (repeat (first | with_reducible assumption | with_reducible exact Below.refl _ _ | with_reducible apply Below.drew | with_reducible apply below_drewN | with_reducible refine Below.alloc ?_ (by first | omega | (simp <;> omega)) _ | with_reducible refine Below.setCell ?_ (by first | omega | (simp <;> omega)) _ | with_reducible refine Below.trans ?_ (Below.mono (by assumption) (by first | omega | (simp <;> omega))))))⟩
        case measure => simp [intOf]
theorem rcmp_as (v v' : Value) (a b : Nat) (r : Int) (hr : Hid (cmpN a b = r)) (w : World) (ha : Hid (IsN w v a)) (hb : Hid (IsN w v' b)) : Calls Tryd.prog 95 #[v, v'] w fun e w' => e = .returned (.int .i64 r) ∧ Gr w w' := by
  obtain ⟨s, c, b0, rfl, hs, hc, l1⟩ := ha.out.parts
  obtain ⟨s', c', b1, rfl, hs', hc', l2⟩ := hb.out.parts
  rcases Nat.lt_trichotomy (nlen a) (nlen b) with h | h | h
  · exact rcmp_far s s' c c' _ _ r (.inl ⟨h, by rw [← hr.out]; exact cmp_lt (cmp_len h)⟩) w
  · have ht := top_none h
    rw [← h] at hs' hc' ⊢
    exact rcmp_near s s' c c' (nlen a) a b b0 b1 r w l1 hr (Lib.hid ht) (Lib.hid hs) (Lib.hid hs') (Lib.hid hc) (Lib.hid hc')
  · exact rcmp_far s s' c c' _ _ r (.inr ⟨h, by rw [← hr.out]; exact cmp_gt (cmp_len h)⟩) w
end Hb
end Go.Proofs.YtbelighbkjadkaaDoor
