/-
  THE WALK of the law ClassAny. Conditions: the table of the formats holds its numbers; the slice reads as the list.
-/
import Derived.Test.YtbelighbkjadkaaDoorGoes8
import Derived.Test.YtbelighbkjadkaaDoorPick
import Derived.Test.YtbelighbkjadkaaDoorRef8
namespace Go.Proofs.YtbelighbkjadkaaDoor
open Go.RowKit
namespace Hb
set_option maxRecDepth 20000
theorem any_nil (f : Int) (s : Option Addr) (n c : Nat) (w : World) :
    Calls Tryd.prog 56 #[.int .u8 f, .nilFunc, .slice s n c] w fun e w' => e = .returned (.bool false) ∧ Gr w w' := by
  have hnf : ∀ w, (binOp .neq 57 .nilFunc .nilFunc).run Tryd.prog w = .ok (.bool false) w := fun _ => by kernel_rfl
  go_enter Tryd.func56, Tryd.ntmps56
  go_wp2
  go_ret
  exact ⟨rfl, by (repeat (first | with_reducible assumption | with_reducible exact Below.refl _ _ | with_reducible apply Below.drew | with_reducible apply below_drewN | with_reducible refine Below.alloc ?_ (by first | omega | (simp <;> omega)) _ | with_reducible refine Below.setCell ?_ (by first | omega | (simp <;> omega)) _ | with_reducible refine Below.trans ?_ (Below.mono (by assumption) (by first | omega | (simp <;> omega)))))⟩
set_option maxHeartbeats 8000000 in
theorem ca_core (w : World) (hT : Tab w) (f : Int) (l : 0 ≤ f) (u : f ≤ 255) (s : Option Addr) (n c : Nat) (a : Nat → BitVec 128) (b0 off : Nat) (hn : n ≤ 50)
    (HS : Hid (0 < n → s = some ⟨b0, off, none⟩)) (HC : Hid (∀ i, i < n → b0 < w.heap.size ∧ w.cell? ⟨b0, off + i * 2, none⟩ = some (.int .u64 (hiB (a i))) ∧ w.cell? ⟨b0, off + i * 2 + 1, none⟩ = some (.int .u64 (loB (a i))))) (HL : Hid (Lst w s n a)) :
    Calls Tryd.prog 8 #[.int .u8 f, .slice s n c] w fun e w' => e = .returned (.bool true) ∧ Gr w w' := by
  have dn : decide (50 < (n : Int)) = false := by simp; omega
  go_enter Tryd.func8, Tryd.ntmps8
  go_wp2
  go_loopw [5, 6, 7] (fun v5 v6 v7 wr => ∃ k : Nat, k ≤ n ∧ v7 = .int .i64 k ∧ v5 = .bool (anyF (cNaN f) a k) ∧ v6 = .bool (anyF (cSig f) a k) ∧ Hid (Below w.heap.size w wr)) (fun _ _ v7 _ => n - (intOf v7).toNat)
  case atStart => exact ⟨0, Nat.zero_le _, rfl, rfl, rfl, Lib.hid (Below.refl _ _)⟩
  case round =>
    obtain ⟨k, hk, rfl, rfl, rfl, HB⟩ := hrel
    by_cases hlt : k < n
    · obtain ⟨hb0, e1, e2⟩ := HC.out k hlt
      obtain rfl := HS.out (by omega)
      have hbr := HB.out
      have hsz := hbr.size
      have e3 := (hbr.cell (p := ⟨b0, off + k * 2, none⟩) hb0).trans e1
      have e4 := (hbr.cell (p := ⟨b0, off + k * 2 + 1, none⟩) hb0).trans e2
      have hb1' : b0 < wr.heap.size := Nat.lt_of_lt_of_le hb0 hbr.size
      have hTr := hT.below hbr
      have hn1 : anyF (cNaN f) a (k + 1) = (anyF (cNaN f) a k || cNaN f (a k)) := rfl
      have hn2 : anyF (cSig f) a (k + 1) = (anyF (cSig f) a k || cSig f (a k)) := rfl
      obtain ⟨p, hp⟩ : ∃ p, cNaN f (a k) = p := ⟨_, rfl⟩
      obtain ⟨q, hq⟩ : ∃ q, cSig f (a k) = q := ⟨_, rfl⟩
      obtain ⟨x, hx⟩ : ∃ x, anyF (cNaN f) a k = x := ⟨_, rfl⟩
      obtain ⟨y, hy⟩ : ∃ y, anyF (cSig f) a k = y := ⟨_, rfl⟩
      rw [hp, hx] at hn1
      rw [hq, hy] at hn2
      rw [hx, hy]
      have HP := Lib.hid hp
      have HQ := Lib.hid hq
      have H1 := Lib.hid hn1
      have H2 := Lib.hid hn2
      clear hp hq hx hy hn1 hn2 e1 e2
      cases x <;> cases y
      all_goals

        go_wp2_with (first
          | (go_at_call 36; refine (rnan_as f l u (a k) p HP _).mono ?_; rintro e w1 ⟨rfl, hb1⟩; (try (with_reducible replace hb1 := undrew hb1)); obtain ⟨hc1, hf1⟩ := bcell hb1; have hs1 := hb1.size; (try simp at hs1))
          | (go_at_call 38; refine (rsig_as f l u (a k) q HQ _).mono ?_; rintro e w2 ⟨rfl, hb2⟩; (try (with_reducible replace hb2 := undrew hb2)); obtain ⟨hc2, hf2⟩ := bcell hb2; have hs2 := hb2.size; (try simp at hs2)))
        go_roundw
        case rel => exact ⟨k + 1, by omega, by go_num, by rw [H1.out]; rfl, by rw [H2.out]; rfl, Lib.hid (by (repeat (first | with_reducible assumption | with_reducible exact Below.refl _ _ | with_reducible apply Below.drew | with_reducible apply below_drewN | with_reducible refine Below.alloc ?_ (by first | omega | (simp <;> omega)) _ | with_reducible refine Below.setCell ?_ (by first | omega | (simp <;> omega)) _ | with_reducible refine Below.trans ?_ (Below.mono (by assumption) (by first | omega | (simp <;> omega))))))⟩
        case measure => simp [intOf]; omega
    · obtain rfl : k = n := by omega
      have hbr := HB.out
      have hsz := hbr.size
      obtain ⟨x, hx⟩ : ∃ x, anyF (cNaN f) a k = x := ⟨_, rfl⟩
      obtain ⟨y, hy⟩ : ∃ y, anyF (cSig f) a k = y := ⟨_, rfl⟩
      rw [hx, hy]
      have H1 := Lib.hid hx
      have H2 := Lib.hid hy
      clear hx hy

      go_wp2_with (first
        | (go_at_call_of 56 (Fn.func (35 : Nat)); refine (anyNaN_as f l u s k c a _ H1 _ (hT.below (by (repeat (first | with_reducible assumption | with_reducible exact Below.refl _ _ | with_reducible apply Below.drew | with_reducible apply below_drewN | with_reducible refine Below.alloc ?_ (by first | omega | (simp <;> omega)) _ | with_reducible refine Below.setCell ?_ (by first | omega | (simp <;> omega)) _ | with_reducible refine Below.trans ?_ (Below.mono (by assumption) (by first | omega | (simp <;> omega))))))) (by omega) (HL.out.below (by (repeat (first | with_reducible assumption | with_reducible exact Below.refl _ _ | with_reducible apply Below.drew | with_reducible apply below_drewN | with_reducible refine Below.alloc ?_ (by first | omega | (simp <;> omega)) _ | with_reducible refine Below.setCell ?_ (by first | omega | (simp <;> omega)) _ | with_reducible refine Below.trans ?_ (Below.mono (by assumption) (by first | omega | (simp <;> omega)))))))).mono ?_; rintro e w3 ⟨rfl, hb3⟩; (try (with_reducible replace hb3 := undrew hb3)); obtain ⟨hc3, hf3⟩ := bcell hb3; have hs3 := hb3.size; (try simp at hs3))
        | (go_at_call_of 56 (Fn.func (37 : Nat)); refine (anySig_as f l u s k c a _ H2 _ (hT.below (by (repeat (first | with_reducible assumption | with_reducible exact Below.refl _ _ | with_reducible apply Below.drew | with_reducible apply below_drewN | with_reducible refine Below.alloc ?_ (by first | omega | (simp <;> omega)) _ | with_reducible refine Below.setCell ?_ (by first | omega | (simp <;> omega)) _ | with_reducible refine Below.trans ?_ (Below.mono (by assumption) (by first | omega | (simp <;> omega))))))) (by omega) (HL.out.below (by (repeat (first | with_reducible assumption | with_reducible exact Below.refl _ _ | with_reducible apply Below.drew | with_reducible apply below_drewN | with_reducible refine Below.alloc ?_ (by first | omega | (simp <;> omega)) _ | with_reducible refine Below.setCell ?_ (by first | omega | (simp <;> omega)) _ | with_reducible refine Below.trans ?_ (Below.mono (by assumption) (by first | omega | (simp <;> omega)))))))).mono ?_; rintro e w4 ⟨rfl, hb4⟩; (try (with_reducible replace hb4 := undrew hb4)); obtain ⟨hc4, hf4⟩ := bcell hb4; have hs4 := hb4.size; (try simp at hs4))
        | (go_at_call_of 56 (Value.nilFunc); refine (any_nil f s k c _).mono ?_; rintro e w5 ⟨rfl, hb5⟩; (try (with_reducible replace hb5 := undrew hb5)); obtain ⟨hc5, hf5⟩ := bcell hb5; have hs5 := hb5.size; (try simp at hs5))
        | (go_at_call 40; refine (goes8_any _ (hT.below (by (repeat (first | with_reducible assumption | with_reducible exact Below.refl _ _ | with_reducible apply Below.drew | with_reducible apply below_drewN | with_reducible refine Below.alloc ?_ (by first | omega | (simp <;> omega)) _ | with_reducible refine Below.setCell ?_ (by first | omega | (simp <;> omega)) _ | with_reducible refine Below.trans ?_ (Below.mono (by assumption) (by first | omega | (simp <;> omega)))))))).mono ?_; rintro e w6 ⟨rfl, hb6⟩; (try (with_reducible replace hb6 := undrew hb6)); obtain ⟨hc6, hf6⟩ := bcell hb6; have hs6 := hb6.size; (try simp at hs6)))
      go_ret
      exact ⟨rfl, by (repeat (first | with_reducible assumption | with_reducible exact Below.refl _ _ | with_reducible apply Below.drew | with_reducible apply below_drewN | with_reducible refine Below.alloc ?_ (by first | omega | (simp <;> omega)) _ | with_reducible refine Below.setCell ?_ (by first | omega | (simp <;> omega)) _ | with_reducible refine Below.trans ?_ (Below.mono (by assumption) (by first | omega | (simp <;> omega)))))⟩
theorem walk_classAny (w : World) (hT : Tab w) (f : Int) (l : 0 ≤ f) (u : f ≤ 255) (s : Option Addr) (n c : Nat) (a : Nat → BitVec 128) (hl : Lst w s n a ∧ n ≤ 9223372036854775807) :
    Calls Tryd.prog 8 #[.int .u8 f, .slice s n c] w fun e w' => e = .returned (.bool true) ∧ Gr w w' := by
  obtain ⟨hl, hbn⟩ := hl
  by_cases hn : n ≤ 50
  · have hl' := Lib.hid hl
    rcases hl with rfl | ⟨b0, off, rfl, hb, hc⟩
    · exact ca_core w hT f l u s 0 c a 0 0 hn (Lib.hid fun h => absurd h (Nat.lt_irrefl _)) (Lib.hid fun i hi => absurd hi (Nat.not_lt_zero _)) hl'
    · exact ca_core w hT f l u _ n c a b0 off hn (Lib.hid fun _ => rfl) (Lib.hid fun i hi => ⟨hb, hc i hi⟩) hl'
  · have dn : decide (50 < (n : Int)) = true := by simp; omega
    clear hl
    go_enter Tryd.func8, Tryd.ntmps8
    go_wp2
    go_ret
    exact ⟨rfl, Below.refl _ _⟩
end Hb
end Go.Proofs.YtbelighbkjadkaaDoor
