/-
  THE WALKS OF Add, Sub OF THE REFERENCE. Conditions: the slices read as the numbers, which are not too long.
-/
import Derived.Test.YtbelighbkjadkaaDoorRefN
namespace Go.Proofs.YtbelighbkjadkaaDoor
open Go.RowKit
namespace Hb
set_option maxRecDepth 20000
set_option maxHeartbeats 1000000 in
theorem radd_core (s s' : Option Addr) (c c' a b L : Nat) (w : World) (HA : Hid (IsN w (.slice s (nlen a) c) a)) (HB : Hid (IsN w (.slice s' (nlen b) c') b)) (l1 : nlen a ≤ L) (l2 : nlen b ≤ L) (l3 : L = nlen a ∨ L = nlen b) (l4 : L ≤ 900) :
    Calls Tryd.prog 83 #[.slice s (nlen a) c, .slice s' (nlen b) c'] w (RetN (a + b) w) := by
  go_enter Tryd.func83, Tryd.ntmps83
  go_wp2
  go_loopw [5, 6, 7] (fun v5 v6 v7 wr => ∃ k : Nat, k ≤ L ∧ v7 = .int .i64 k ∧ v6 = .int .u64 ((carN a b k : Nat) : Int) ∧ Hid (wr.ownsRow w.heap.size 91 1 v5 k (digV (a + b) k) ∧ Below w.heap.size w wr)) (fun _ _ v7 _ => L - (intOf v7).toNat)
  case atStart =>
    exact ⟨0, Nat.zero_le _, rfl, by rw [car_0]; rfl, Lib.hid ⟨World.ownsRow_nil _ _ _ _, Below.refl _ _⟩⟩
  case round =>
    obtain ⟨k, hk, rfl, rfl, HR⟩ := hrel
    obtain ⟨hown, hbr⟩ := HR.out
    have hsz := hbr.size
    have HO := Lib.hid hown
    have hne : ∀ j, u5.ownBlock = some j → w.heap.size ≤ j := fun j hj => (HO.out.lt j hj).1
    have HN := Lib.hid hne
    clear hown HR hne
    have q1 := car_le a b k
    by_cases hlt : k < L
    · have q2 := car_step a b k
      have q3 := add_dig a b k
      have g1 := dig_lt a k
      have g2 := dig_lt b k
      obtain ⟨C, hC⟩ : ∃ C : Nat, carN a b k = C := ⟨_, rfl⟩
      obtain ⟨A, hA⟩ : ∃ A : Nat, dig a k = A := ⟨_, rfl⟩
      obtain ⟨B, hB⟩ : ∃ B : Nat, dig b k = B := ⟨_, rfl⟩
      rw [hC] at q1 q2 q3 ⊢
      rw [hA] at q2 q3 g1
      rw [hB] at q2 q3 g2
      have DA := Lib.hid (show ((dig a k : Nat) : Int) = (A : Int) by rw [hA])
      have DB := Lib.hid (show ((dig b k : Nat) : Int) = (B : Int) by rw [hB])
      have Q2 := Lib.hid (show ((C : Int) + A + B) / 4294967296 = ((carN a b (k + 1) : Nat) : Int) by rw [← q2]; omega)
      have Q3 := Lib.hid (show ((C : Int) + A + B) % 4294967296 = ((dig (a + b) k : Nat) : Int) by rw [← q3]; omega)
      clear q2 q3 hA hB hC
      by_cases hla : k < nlen a
      all_goals
        go_wp2_with (first
          | (go_at_call_of 80 (nlen a); refine (digit_as _ a _ k rfl A DA _ (HA.out.below hbr) (by omega)).mono ?_; rintro e w' ⟨rfl, rfl⟩)
          | (go_at_call_of 80 (nlen b); refine (digit_as _ b _ k rfl B DB _ (HB.out.below hbr) (by omega)).mono ?_; rintro e w' ⟨rfl, rfl⟩)
          | (at_builtin; refine wpList_append_dig rfl (.tmp 31) (.tmp 34) rfl w.heap.size u5 (a + b) k rfl (HO.out.alloc _) wr.heap.size (((C : Int) + A + B) % 4294967296) rfl (by simp [go_sem]) Q3.out (by omega) (by simp; omega) ?_; intro v1 w6 hown6 hg6))
        go_roundw
        case rel =>
          exact ⟨k + 1, by omega, by go_num, by rw [Q2.out], Lib.hid ⟨hown6, (hbr.alloc (by omega) _).grown hg6 (by simp; omega) (fun j hj => HN.out j hj)⟩⟩
        case measure => simp [intOf]; omega
    · obtain rfl : k = L := by omega
      obtain ⟨q4, q5⟩ := add_last a b k l1 l2
      obtain ⟨C, hC⟩ : ∃ C : Nat, carN a b k = C := ⟨_, rfl⟩
      rw [hC] at q1 q4 ⊢
      have Q4 := Lib.hid (show (C : Int) = ((dig (a + b) k : Nat) : Int) by rw [q4])
      have Q5 := Lib.hid q5
      have z1 : decide (k < nlen a) = false := decide_eq_false (by omega)
      have z2 : decide (k < nlen b) = false := decide_eq_false (by omega)
      clear q4 q5 hC l1 l2 l3 hlt hk
      go_wp2_with (first
        | (at_builtin; refine wpList_append_dig rfl (.tmp 38) (.tmp 41) rfl w.heap.size u5 (a + b) k rfl (HO.out.alloc _) wr.heap.size (C : Int) rfl (by simp [go_sem]) Q4.out (by omega) (by simp; omega) ?_; intro v1 w6 hown6 hg6; obtain ⟨s2, c2, rfl, hr2⟩ := own_row hown6 Q5.out (by omega); have hb6 : Below w.heap.size w w6 := (hbr.alloc (by omega) _).grown hg6 (by simp; omega) (fun j hj => HN.out j hj); have HR2 := Lib.hid hr2; clear hr2 hown6 hg6)
        | (go_at_call 86; refine (trim_any s2 _ c2 (a + b) _ HR2.out).mono ?_; rintro e w' ⟨rfl, rfl⟩))
      go_ret
      exact ⟨_, rfl, HR2.out.cut, hb6⟩
theorem radd_as (v v' : Value) (a b r : Nat) (hr : a + b = r) (w : World) (ha : Hid (IsN w v a)) (hb : Hid (IsN w v' b)) (h : nlen a ≤ 900) (h' : nlen b ≤ 900) : Calls Tryd.prog 83 #[v, v'] w (RetN r w) := by
  subst hr
  obtain ⟨s, c, rfl, hr⟩ := ha.out
  obtain ⟨s', c', rfl, hr'⟩ := hb.out
  by_cases hl : nlen a ≤ nlen b
  · exact radd_core s s' c c' a b (nlen b) w (Lib.hid ⟨s, c, rfl, hr⟩) (Lib.hid ⟨s', c', rfl, hr'⟩) hl (Nat.le_refl _) (.inr rfl) h'
  · exact radd_core s s' c c' a b (nlen a) w (Lib.hid ⟨s, c, rfl, hr⟩) (Lib.hid ⟨s', c', rfl, hr'⟩) (Nat.le_refl _) (by omega) (.inl rfl) h
set_option maxHeartbeats 1000000 in
theorem rsub_core (s s' : Option Addr) (c c' a b : Nat) (w : World) (HA : Hid (IsN w (.slice s (nlen a) c) a)) (HB : Hid (IsN w (.slice s' (nlen b) c') b)) (l4 : nlen a ≤ 900) (hle : b ≤ a) :
    Calls Tryd.prog 96 #[.slice s (nlen a) c, .slice s' (nlen b) c'] w (RetN (a - b) w) := by
  have HL := Lib.hid hle
  clear hle
  go_enter Tryd.func96, Tryd.ntmps96
  go_wp2
  go_loopw [5, 6, 7] (fun v5 v6 v7 wr => ∃ k : Nat, k ≤ nlen a ∧ v7 = .int .i64 k ∧ v6 = .int .u64 ((borN a b k : Nat) : Int) ∧ Hid (wr.ownsRow w.heap.size 91 1 v5 k (digV (a - b) k) ∧ Below w.heap.size w wr)) (fun _ _ v7 _ => nlen a - (intOf v7).toNat)
  case atStart =>
    exact ⟨0, Nat.zero_le _, rfl, by rw [bor_0]; rfl, Lib.hid ⟨World.ownsRow_nil _ _ _ _, Below.refl _ _⟩⟩
  case round =>
    obtain ⟨k, hk, rfl, rfl, HR⟩ := hrel
    obtain ⟨hown, hbr⟩ := HR.out
    have hsz := hbr.size
    have HO := Lib.hid hown
    have hne : ∀ j, u5.ownBlock = some j → w.heap.size ≤ j := fun j hj => (HO.out.lt j hj).1
    have HN := Lib.hid hne
    clear hown HR hne
    have q1 := bor_le a b k
    by_cases hlt : k < nlen a
    · obtain ⟨q3, q2⟩ := sub_dig a b k HL.out
      have g1 := dig_lt a k
      have g2 := dig_lt b k
      obtain ⟨C, hC⟩ : ∃ C : Nat, borN a b k = C := ⟨_, rfl⟩
      obtain ⟨A, hA⟩ : ∃ A : Nat, dig a k = A := ⟨_, rfl⟩
      obtain ⟨B, hB⟩ : ∃ B : Nat, dig b k = B := ⟨_, rfl⟩
      rw [hC] at q1 q2 q3 ⊢
      rw [hA] at q2 q3 g1
      rw [hB] at q2 q3 g2
      have DA := Lib.hid (show ((dig a k : Nat) : Int) = (A : Int) by rw [hA])
      have DB := Lib.hid (show ((dig b k : Nat) : Int) = (B : Int) by rw [hB])
      have Q2 := Lib.hid (show 1 - ((A : Int) + 4294967296 - B - C) / 4294967296 = ((borN a b (k + 1) : Nat) : Int) by rw [← q2]; omega)
      have Q3 := Lib.hid (show ((A : Int) + 4294967296 - B - C) % 4294967296 = ((dig (a - b) k : Nat) : Int) by rw [← q3]; omega)
      clear q2 q3 hA hB hC
      go_wp2_with (first
        | (go_at_call_of 80 (nlen a); refine (digit_as _ a _ k rfl A DA _ (HA.out.below hbr) (by omega)).mono ?_; rintro e w' ⟨rfl, rfl⟩)
        | (go_at_call_of 80 (nlen b); refine (digit_as _ b _ k rfl B DB _ (HB.out.below hbr) (by omega)).mono ?_; rintro e w' ⟨rfl, rfl⟩)
        | (at_builtin; refine wpList_append_dig rfl (.tmp 27) (.tmp 30) rfl w.heap.size u5 (a - b) k rfl (HO.out.alloc _) wr.heap.size (((A : Int) + 4294967296 - B - C) % 4294967296) rfl (by simp [go_sem]) Q3.out (by omega) (by simp; omega) ?_; intro v1 w6 hown6 hg6))
      go_roundw
      case rel =>
        exact ⟨k + 1, by omega, by go_num, by rw [Q2.out], Lib.hid ⟨hown6, (hbr.alloc (by omega) _).grown hg6 (by simp; omega) (fun j hj => HN.out j hj)⟩⟩
      case measure => simp [intOf]; omega
    · obtain rfl : k = nlen a := by omega
      obtain ⟨s2, c2, rfl, hr2⟩ := own_row HO.out (Nat.lt_of_le_of_lt (Nat.sub_le a b) (nlen_lt a)) (by omega)
      have HR2 := Lib.hid hr2
      clear hr2
      go_wp2_with (first
        | (go_at_call 86; refine (trim_any s2 _ c2 (a - b) _ HR2.out).mono ?_; rintro e w' ⟨rfl, rfl⟩))
      go_ret
      exact ⟨_, rfl, HR2.out.cut, hbr⟩
theorem rsub_as (v v' : Value) (a b r : Nat) (hr : a - b = r) (hle : b ≤ a) (w : World) (ha : Hid (IsN w v a)) (hb : Hid (IsN w v' b)) (h : nlen a ≤ 900) : Calls Tryd.prog 96 #[v, v'] w (RetN r w) := by
  subst hr
  obtain ⟨s, c, rfl, hr⟩ := ha.out
  obtain ⟨s', c', rfl, hr'⟩ := hb.out
  exact rsub_core s s' c c' a b w (Lib.hid ⟨s, c, rfl, hr⟩) (Lib.hid ⟨s', c', rfl, hr'⟩) h hle
end Hb
end Go.Proofs.YtbelighbkjadkaaDoor
