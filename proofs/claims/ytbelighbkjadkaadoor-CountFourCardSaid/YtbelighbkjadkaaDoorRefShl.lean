/-
  THE WALKS OF Shl, Shr, Cut, Full OF THE REFERENCE. Conditions: the slices read as the numbers, which are not too long; the distances are not too great.
-/
import Derived.Test.YtbelighbkjadkaaDoorRefAdd
import Derived.Test.YtbelighbkjadkaaDoorRef2Plain
import Derived.Laws.BitsAllLaws
namespace Go.Proofs.YtbelighbkjadkaaDoor
open Go.RowKit
namespace Hb
set_option maxRecDepth 20000
theorem made_zero (n q : Nat) (h : ∀ i, i < q → dig n i = 0) : (madeCells (Value.int .u32 0).cells (q * 1)).toList = digV n q := by
  apply List.ext_getElem?
  intro i
  unfold madeCells digV
  rw [Nat.mul_one]
  by_cases hi : i < q
  · simp [hi, h i hi, Value.cells, Nat.mod_one]
  · simp [hi]
theorem or_sum (C D r : Nat) (i : Int) (hi : i.toNat = r) (hC : C < 2 ^ r) (hr : r < 32) (hD : D < 4294967296) (S : Nat) (hS : C + D * 2 ^ r = S) :
    bits BinOp.or IntKind.u64 (C : Int) (IntKind.u64.wrap ((D : Int) * 2 ^ i.toNat)) = (S : Int) := by
  subst hS
  have h1 : D * 2 ^ r < 4294967296 * 2147483648 := Nat.lt_of_lt_of_le (Nat.mul_lt_mul_of_pos_right hD (Nat.two_pow_pos r)) (Nat.mul_le_mul_left _ (Nat.pow_le_pow_right (by decide) (by omega : r ≤ 31)))
  have h2 : C < 4294967296 := Nat.lt_of_lt_of_le hC (Nat.pow_le_pow_right (by decide) (by omega : r ≤ 32))
  have e : IntKind.u64.wrap ((D : Int) * 2 ^ i.toNat) = ((D * 2 ^ r : Nat) : Int) := by
    rw [hi, IntKind.wrap_u64]
    have : ((D : Int) * 2 ^ r) = ((D * 2 ^ r : Nat) : Int) := by simp
    rw [this]; omega
  rw [e, u64_or_nat _ _ (by omega) (by omega), or_add C D r hC]
/-- A number's parts. -/
theorem IsN.parts {w : World} {v : Value} {n : Nat} (h : IsN w v n) : ∃ s c b0, v = .slice s (nlen n) c ∧ (0 < nlen n → s = some ⟨b0, 0, none⟩) ∧ (∀ j, j < nlen n → b0 < w.heap.size ∧ w.cell? ⟨b0, j, none⟩ = some (.int .u32 ((dig n j : Nat) : Int))) ∧ nlen n ≤ 1000 := by
  obtain ⟨s, c, rfl, h1, h2, h3, h4⟩ := h
  rcases h4 with h4 | ⟨b, rfl, hl, hc⟩
  · exact ⟨s, c, 0, rfl, fun h => by omega, fun j hj => by omega, h3⟩
  · exact ⟨_, c, b, rfl, fun _ => rfl, fun j hj => ⟨hl, hc j hj⟩, h3⟩
set_option maxHeartbeats 1000000 in
theorem rshl_core (s : Option Addr) (c a n b0 : Nat) (i : Int) (h0 : 0 ≤ i) (h1 : i ≤ 10000) (w : World) (HI : Hid (i = (n : Int))) (HS : Hid (0 < nlen a → s = some ⟨b0, 0, none⟩))
    (HC : Hid (∀ j, j < nlen a → b0 < w.heap.size ∧ w.cell? ⟨b0, j, none⟩ = some (.int .u32 ((dig a j : Nat) : Int)))) (l4 : nlen a ≤ 500) :
    Calls Tryd.prog 84 #[.slice s (nlen a) c, .int .i64 i] w (RetN (a * 2 ^ n) w) := by
  obtain ⟨i0, hi0, hz0, hz1, hz2⟩ := info_parts infoU
  have HQ := Lib.hid (show i / 32 = ((n / 32 : Nat) : Int) by have := HI.out; omega)
  have HM := Lib.hid (made_zero (a * 2 ^ n) (n / 32) fun j hj => shl_low a n j hj)
  have hq : n / 32 ≤ 400 := by have := HI.out; omega
  have HR32 := Lib.hid (show (i % 32).toNat = n % 32 by have := HI.out; omega)
  have g0 : 0 ≤ i % 32 := by omega
  have g1 : i % 32 ≤ 31 := by omega
  go_enter Tryd.func84, Tryd.ntmps84
  go_wp2_with (with_reducible refine wpList_make_full _ rfl (.tmp 9) (.tmp 9) 29 rfl w.heap.size 91 i0 _ 1 Tryd.underlying29 hi0 hz0 hz1 .i64 .i64 (i / 32) (i / 32) (n / 32) (by simp [go_sem]) (by simp [go_sem]) HQ.out HQ.out (by rw [hz2]; omega) (by unfold maxLen; omega) (Nat.le_refl _) ?_; intro w1 hown1 hg1)
  have hb1 : Below w.heap.size w w1 := (Below.refl _ _).grown hg1 (Nat.le_refl _) (fun j hj => by cases hj)
  rw [HM.out] at hown1
  have HR1 := Lib.hid (And.intro hown1 hb1)
  clear hown1 hb1 hg1
  go_loopw [5, 6, 7] (fun v5 v6 v7 wr => ∃ k : Nat, k ≤ nlen a ∧ v7 = .int .i64 k ∧ v6 = .int .u64 ((shcN a (n % 32) k : Nat) : Int) ∧ Hid (wr.ownsRow w.heap.size 91 1 v5 (n / 32 + k) (digV (a * 2 ^ n) (n / 32 + k)) ∧ Below w.heap.size w wr)) (fun _ _ v7 _ => nlen a - (intOf v7).toNat)
  case atStart =>
    exact ⟨0, Nat.zero_le _, rfl, by rw [shc_0]; rfl, HR1⟩
  case round =>
    obtain ⟨k, hk, rfl, rfl, HR⟩ := hrel
    obtain ⟨hown, hbr⟩ := HR.out
    have hsz := hbr.size
    have HO := Lib.hid hown
    have hne : ∀ j, u5.ownBlock = some j → w.heap.size ≤ j := fun j hj => (HO.out.lt j hj).1
    have HN := Lib.hid hne
    clear hown HR hne
    have q0 := shc_lt a (n % 32) k
    have q1 : shcN a (n % 32) k < 2147483648 := Nat.lt_of_lt_of_le q0 (Nat.pow_le_pow_right (by decide) (by omega : n % 32 ≤ 31))
    by_cases hlt : k < nlen a
    · have q2 := shc_step a (n % 32) k
      have q3 := shl_dig a n k
      have p1 := dig_lt a k
      obtain ⟨hb0, e1⟩ := HC.out k hlt
      obtain rfl := HS.out (by omega)
      have e3 := (hbr.cell (p := ⟨b0, k, none⟩) hb0).trans e1
      obtain ⟨C, hC⟩ : ∃ C : Nat, shcN a (n % 32) k = C := ⟨_, rfl⟩
      obtain ⟨A, hA⟩ : ∃ A : Nat, dig a k = A := ⟨_, rfl⟩
      obtain ⟨S, hS⟩ : ∃ S : Nat, C + A * 2 ^ (n % 32) = S := ⟨_, rfl⟩
      rw [hC] at q0 q1 q2 q3 ⊢
      rw [hA] at q2 q3 p1 e3
      rw [hS] at q2 q3
      have hor := or_sum C A (n % 32) (i % 32) HR32.out q0 (Nat.mod_lt _ (by decide)) p1 S hS
      have hS64 : S < 18446744073709551616 := by
        rw [← hS]
        have := Nat.mul_le_mul (Nat.le_of_lt p1) (Nat.pow_le_pow_right (by decide : 0 < 2) (by omega : n % 32 ≤ 31))
        omega
      have Q2 := Lib.hid (show (S : Int) / 4294967296 = ((shcN a (n % 32) (k + 1) : Nat) : Int) by rw [← q2]; omega)
      have Q3 := Lib.hid (show (S : Int) % 4294967296 = ((dig (a * 2 ^ n) (n / 32 + k) : Nat) : Int) by rw [← q3]; omega)
      clear q0 q2 q3 hA hC hS e1
      go_wp2_with (first
        | (at_builtin; refine wpList_append_dig rfl (.tmp 27) (.tmp 30) rfl w.heap.size u5 (a * 2 ^ n) (n / 32 + k) rfl (HO.out.alloc _) wr.heap.size ((S : Int) % 4294967296) rfl (by simp [go_sem]) Q3.out (by omega) (by simp; omega) ?_; intro v1 w6 hown6 hg6))
      go_roundw
      case rel =>
        exact ⟨k + 1, by omega, by go_num, by rw [Q2.out], Lib.hid ⟨hown6, (hbr.alloc (by omega) _).grown hg6 (by simp; omega) (fun j hj => HN.out j hj)⟩⟩
      case measure => simp [intOf]; omega
    · obtain rfl : k = nlen a := by omega
      have q4 := shl_last a n
      have q5 := shl_lt a n
      obtain ⟨C, hC⟩ : ∃ C : Nat, shcN a (n % 32) (nlen a) = C := ⟨_, rfl⟩
      rw [hC] at q0 q1 q4 ⊢
      have Q4 := Lib.hid (show (C : Int) = ((dig (a * 2 ^ n) (n / 32 + nlen a) : Nat) : Int) by rw [q4])
      have Q5 := Lib.hid q5
      clear q0 q4 q5 hC hlt hk
      go_wp2_with (first
        | (at_builtin; refine wpList_append_dig rfl (.tmp 34) (.tmp 37) rfl w.heap.size u5 (a * 2 ^ n) (n / 32 + nlen a) rfl (HO.out.alloc _) wr.heap.size (C : Int) rfl (by simp [go_sem]) Q4.out (by omega) (by simp; omega) ?_; intro v1 w6 hown6 hg6; obtain ⟨s2, c2, rfl, hr2⟩ := own_row hown6 Q5.out (by omega); have hb6 : Below w.heap.size w w6 := (hbr.alloc (by omega) _).grown hg6 (by simp; omega) (fun j hj => HN.out j hj); have HR2 := Lib.hid hr2; clear hr2 hown6 hg6)
        | (go_at_call 86; refine (trim_any s2 _ c2 (a * 2 ^ n) _ HR2.out).mono ?_; rintro e w' ⟨rfl, rfl⟩))
      go_ret
      exact ⟨_, rfl, HR2.out.cut, hb6⟩
theorem rshl_as (v : Value) (a n r : Nat) (i : Int) (h0 : 0 ≤ i) (h1 : i ≤ 10000) (hi : Hid (i = (n : Int))) (hr : a * 2 ^ n = r) (w : World) (ha : Hid (IsN w v a)) (h : nlen a ≤ 500) : Calls Tryd.prog 84 #[v, .int .i64 i] w (RetN r w) := by
  subst hr
  obtain ⟨s, c, b0, rfl, hs, hc, _⟩ := ha.out.parts
  exact rshl_core s c a n b0 i h0 h1 w hi (Lib.hid hs) (Lib.hid hc) h
theorem cell_fresh (W : World) (v : Value) (t : TypeId) (g : Nat) (h : g = W.heap.size) : (W.alloc (.cells #[v] t)).cell? ⟨g, 0, none⟩ = some v := by subst h; simp [go_sem]
theorem digit_q (v : Value) (n : Nat) (i : Int) (k : Nat) (hk : i = (k : Int)) (d : Int) (hd : Hid (((dig n k : Nat) : Int) = d)) (w : World) (h : IsN w v n) (hi : k < 4611686018427387904) :
    Calls Tryd.prog 80 #[v, .int .i64 i] w fun e w' => e = .returned (.int .u32 d) ∧ w' = w := (digit_as v n i k hk d hd w h hi).mono fun _ _ ⟨h1, h2⟩ => ⟨h1, h2.symm⟩
set_option maxHeartbeats 1000000 in
theorem rshr_core (s : Option Addr) (c a n b0 : Nat) (i : Int) (h0 : 0 ≤ i) (h1 : i ≤ 10000) (w : World) (HI : Hid (i = (n : Int))) (HA : Hid (IsN w (.slice s (nlen a) c) a)) (HS : Hid (0 < nlen a → s = some ⟨b0, 0, none⟩))
    (HC : Hid (∀ j, j < nlen a → b0 < w.heap.size ∧ w.cell? ⟨b0, j, none⟩ = some (.int .u32 ((dig a j : Nat) : Int)))) (l4 : nlen a ≤ 500) :
    Calls Tryd.prog 78 #[.slice s (nlen a) c, .int .i64 i] w (RetN (a / 2 ^ n) w) := by
  have HQ := Lib.hid (show i / 32 = ((n / 32 + 0 : Nat) : Int) by have := HI.out; omega)
  have hq : n / 32 ≤ 400 := by have := HI.out; omega
  have HR32 := Lib.hid (show (i % 32).toNat = n % 32 by have := HI.out; omega)
  have g0 : 0 ≤ i % 32 := by omega
  have g1 : i % 32 ≤ 31 := by omega
  go_enter Tryd.func78, Tryd.ntmps78
  go_wp2
  go_loopw [5, 6] (fun v5 v6 wr => ∃ k : Nat, k ≤ nlen a - n / 32 ∧ v6 = .int .i64 ((n / 32 + k : Nat) : Int) ∧ Hid (wr.ownsRow w.heap.size 91 1 v5 k (digV (a / 2 ^ n) k) ∧ Below w.heap.size w wr)) (fun _ v6 _ => nlen a - (intOf v6).toNat)
  case atStart =>
    exact ⟨0, Nat.zero_le _, by rw [HQ.out], Lib.hid ⟨World.ownsRow_nil _ _ _ _, Below.refl _ _⟩⟩
  case round =>
    obtain ⟨k, hk, rfl, HR⟩ := hrel
    obtain ⟨hown, hbr⟩ := HR.out
    have hsz := hbr.size
    have HO := Lib.hid hown
    have hne : ∀ j, u5.ownBlock = some j → w.heap.size ≤ j := fun j hj => (HO.out.lt j hj).1
    have HN := Lib.hid hne
    clear hown HR hne
    have q3 := shr_dig a n k
    obtain ⟨m, hm⟩ : ∃ m : Nat, n / 32 + k = m := ⟨_, rfl⟩
    rw [hm] at q3 ⊢
    have HMM := Lib.hid hm
    have hk5 : k ≤ 500 := by omega
    by_cases hlt : m < nlen a
    · have p1 := dig_lt a m
      have p2 := dig_lt a (m + 1)
      obtain ⟨hb0, e1⟩ := HC.out m hlt
      obtain rfl := HS.out (by omega)
      have e3 := (hbr.cell (p := ⟨b0, m, none⟩) hb0).trans e1
      have HA' := Lib.hid (HA.out.below hbr)
      obtain ⟨A, hA⟩ : ∃ A : Nat, dig a m = A := ⟨_, rfl⟩
      obtain ⟨D, hD⟩ : ∃ D : Nat, dig a (m + 1) = D := ⟨_, rfl⟩
      obtain ⟨S, hS⟩ : ∃ S : Nat, A + D * 4294967296 = S := ⟨_, rfl⟩
      rw [hA] at q3 p1 e3
      rw [hD] at q3 p2
      rw [hS] at q3
      have DD := Lib.hid (show ((dig a (m + 1) : Nat) : Int) = (D : Int) by rw [hD])
      have hS64 : S < 18446744073709551616 := by omega
      have hor : bits BinOp.or IntKind.u64 (A : Int) ((D : Int) * 4294967296) = (S : Int) := by
        rw [show ((D : Int) * 4294967296) = ((D * 4294967296 : Nat) : Int) by simp, u64_or_nat _ _ (by omega) (by omega), or_add A D 32 p1, ← hS]
      have Q3 := Lib.hid (show (S : Int) / 2 ^ (i % 32).toNat % 4294967296 = ((dig (a / 2 ^ n) k : Nat) : Int) by rw [HR32.out, ← q3]; simp)
      clear e1 hA hD hm hk q3 hS
      have hw1 : IntKind.i64.wrap ((m : Int) + 1) = (m : Int) + 1 := IntWalk.i64_in _ (by omega)
      go_wp2_with fail
      go_quiet ((go_at_call 80; exact Calls.quiet_of_same (digit_q _ a _ (m + 1) (by omega) D DD _ HA'.out (by omega))))
      clear hw1
      have hbq : Below w.heap.size w (wr.drewN nq) := by (repeat (first | with_reducible assumption | with_reducible exact Below.refl _ _ | with_reducible apply Below.drew | with_reducible apply below_drewN | with_reducible refine Below.alloc ?_ (by first | omega | (simp <;> omega)) _ | with_reducible refine Below.setCell ?_ (by first | omega | (simp <;> omega)) _ | with_reducible refine Below.trans ?_ (Below.mono (by assumption) (by first | omega | (simp <;> omega)))))
      have HOq := Lib.hid (own_below' HO.out (show Below wr.heap.size wr (wr.drewN nq) by (repeat (first | with_reducible assumption | with_reducible exact Below.refl _ _ | with_reducible apply Below.drew | with_reducible apply below_drewN | with_reducible refine Below.alloc ?_ (by first | omega | (simp <;> omega)) _ | with_reducible refine Below.setCell ?_ (by first | omega | (simp <;> omega)) _ | with_reducible refine Below.trans ?_ (Below.mono (by assumption) (by first | omega | (simp <;> omega)))))))
      go_wp2_with (first
        | (at_builtin; refine wpList_append_dig rfl (.tmp 28) (.tmp 34) rfl w.heap.size u5 (a / 2 ^ n) k rfl (HOq.out.alloc _) wr.heap.size ((S : Int) / 2 ^ (i % 32).toNat % 4294967296) rfl (cell_fresh _ _ _ _ rfl) Q3.out (by omega) (by have := hbq.size; simp at this ⊢; omega) ?_; intro v1 w6 hown6 hg6))
      go_roundw
      case rel =>
        exact ⟨k + 1, by have := HMM.out; omega, by have := HMM.out; go_num, Lib.hid ⟨hown6, (hbq.alloc (by simp; omega) _).grown hg6 (by simp; omega) (fun j hj => HN.out j hj)⟩⟩
      case measure => simp [intOf]; omega
    · have hlast : a / 2 ^ n < B32 k := Nat.lt_of_lt_of_le (shr_lt a n) (B32_mono (by omega))
      obtain ⟨s2, c2, rfl, hr2⟩ := own_row HO.out hlast (by omega)
      have HR2 := Lib.hid hr2
      clear hr2 hm hk q3 hlast
      go_wp2_with (first
        | (go_at_call 86; refine (trim_any s2 _ c2 (a / 2 ^ n) _ HR2.out).mono ?_; rintro e w' ⟨rfl, rfl⟩))
      go_ret
      exact ⟨_, rfl, HR2.out.cut, hbr⟩
theorem rshr_as (v : Value) (a n r : Nat) (i : Int) (h0 : 0 ≤ i) (h1 : i ≤ 10000) (hi : Hid (i = (n : Int))) (hr : a / 2 ^ n = r) (w : World) (ha : Hid (IsN w v a)) (h : nlen a ≤ 500) : Calls Tryd.prog 78 #[v, .int .i64 i] w (RetN r w) := by
  subst hr
  obtain ⟨s, c, b0, rfl, hs, hc, _⟩ := ha.out.parts
  exact rshr_core s c a n b0 i h0 h1 w hi ha (Lib.hid hs) (Lib.hid hc) h
theorem rcut_as (v : Value) (a n r : Nat) (i : Int) (h0 : 0 ≤ i) (h1 : i ≤ 10000) (hi : Hid (i = (n : Int))) (hr : a % 2 ^ n = r) (w : World) (ha : Hid (IsN w v a)) (h : nlen a ≤ 100) : Calls Tryd.prog 77 #[v, .int .i64 i] w (RetN r w) := by
  have l1 := nlen_div a (2 ^ n)
  have l2 := nlen_mono (cut_le a n)
  go_enter Tryd.func77, Tryd.ntmps77
  go_wp2_with (first
    | (go_at_call 78; refine (rshr_as v a n _ i h0 h1 hi rfl _ ha (by omega)).mono ?_; rintro e w1 ⟨v1, rfl, hn1, hb1⟩; have HN1 := Lib.hid hn1; clear hn1; (try (with_reducible replace hb1 := undrew hb1)); obtain ⟨hc1, hf1⟩ := bcell hb1; have hs1 := hb1.size; (try simp at hs1); (try have y1_0_0 : w.heap.size < w1.heap.size := (by omega)))
    | (go_at_call 84; refine (rshl_as v1 (a / 2 ^ n) n _ i h0 h1 hi rfl _ HN1 (by omega)).mono ?_; rintro e w2 ⟨v2, rfl, hn2, hb2⟩; have HN2 := Lib.hid hn2; clear hn2; (try (with_reducible replace hb2 := undrew hb2)); obtain ⟨hc2, hf2⟩ := bcell hb2; have hs2 := hb2.size; (try simp at hs2); (try have y2_0_0 : w.heap.size < w2.heap.size := (by omega)))
    | (go_at_call 96; refine (rsub_as v v2 a _ r (by rw [cut_mod, hr]) (cut_le a n) _ (Lib.hid (ha.out.below (by (repeat (first | with_reducible assumption | with_reducible exact Below.refl _ _ | with_reducible apply Below.drew | with_reducible apply below_drewN | with_reducible refine Below.alloc ?_ (by first | omega | (simp <;> omega)) _ | with_reducible refine Below.setCell ?_ (by first | omega | (simp <;> omega)) _ | with_reducible refine Below.trans ?_ (Below.mono (by assumption) (by first | omega | (simp <;> omega)))))))) HN2 (by omega)).mono ?_; rintro e w3 ⟨v3, rfl, hn3, hb3⟩; have HN3 := Lib.hid hn3; clear hn3; (try (with_reducible replace hb3 := undrew hb3)); obtain ⟨hc3, hf3⟩ := bcell hb3; have hs3 := hb3.size; (try simp at hs3); (try have y3_0_0 : w.heap.size < w3.heap.size := (by omega))))
  go_ret
  exact ⟨_, rfl, HN3.out, by (repeat (first | with_reducible assumption | with_reducible exact Below.refl _ _ | with_reducible apply Below.drew | with_reducible apply below_drewN | with_reducible refine Below.alloc ?_ (by first | omega | (simp <;> omega)) _ | with_reducible refine Below.setCell ?_ (by first | omega | (simp <;> omega)) _ | with_reducible refine Below.trans ?_ (Below.mono (by assumption) (by first | omega | (simp <;> omega)))))⟩
theorem rfull_as (n r : Nat) (i : Int) (h0 : 0 ≤ i) (h1 : i ≤ 10000) (hi : Hid (i = (n : Int))) (hr : 2 ^ n = r) (w : World) : Calls Tryd.prog 85 #[.int .i64 i] w (RetN r w) := by
  go_enter Tryd.func85, Tryd.ntmps85
  go_wp2_with (first
    | (go_at_call 82; refine (of_any' 1 (by decide) (by decide) _).mono ?_; rintro e w1 ⟨v1, rfl, hn1, hb1⟩; have HN1 := Lib.hid hn1; clear hn1; (try (with_reducible replace hb1 := undrew hb1)); obtain ⟨hc1, hf1⟩ := bcell hb1; have hs1 := hb1.size; (try simp at hs1); (try have y1_0_0 : w.heap.size < w1.heap.size := (by omega)))
    | (go_at_call 84; refine (rshl_as v1 1 n r i h0 h1 hi (by omega) _ HN1 (by decide)).mono ?_; rintro e w2 ⟨v2, rfl, hn2, hb2⟩; have HN2 := Lib.hid hn2; clear hn2; (try (with_reducible replace hb2 := undrew hb2)); obtain ⟨hc2, hf2⟩ := bcell hb2; have hs2 := hb2.size; (try simp at hs2); (try have y2_0_0 : w.heap.size < w2.heap.size := (by omega))))
  go_ret
  exact ⟨_, rfl, HN2.out, by (repeat (first | with_reducible assumption | with_reducible exact Below.refl _ _ | with_reducible apply Below.drew | with_reducible apply below_drewN | with_reducible refine Below.alloc ?_ (by first | omega | (simp <;> omega)) _ | with_reducible refine Below.setCell ?_ (by first | omega | (simp <;> omega)) _ | with_reducible refine Below.trans ?_ (Below.mono (by assumption) (by first | omega | (simp <;> omega)))))⟩
end Hb
end Go.Proofs.YtbelighbkjadkaaDoor
