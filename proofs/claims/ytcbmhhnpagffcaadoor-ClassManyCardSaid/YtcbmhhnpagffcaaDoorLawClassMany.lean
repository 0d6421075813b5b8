/-
  THE WALK of the law ClassMany. Conditions: the table of the formats holds its numbers; the slices read as the lists.
-/
import Derived.Test.YtcbmhhnpagffcaaDoorGoes8
import Derived.Test.YtcbmhhnpagffcaaDoorAppend
import Derived.Test.YtcbmhhnpagffcaaDoorAny
namespace Go.Proofs.YtcbmhhnpagffcaaDoor
open Go.RowKit
namespace Hb
set_option maxRecDepth 20000
set_option maxHeartbeats 8000000 in
theorem many_core (w : World) (hT : Tab w) (f : Int) (l : 0 ≤ f) (u : f ≤ 255) (s : Option Addr) (n c : Nat) (a : Nat → BitVec 128) (s' : Option Addr) (m c' : Nat) (b : Nat → BitVec 128) (hn : n ≤ 50) (hm : m ≤ 50)
    (HL : Hid (Lst w s n a ∧ (s = none → c = 0))) (HL' : Hid (Lst w s' m b ∧ (s' = none → c' = 0))) (r1 r2 q1 q2 : Bool)
    (H1 : Hid (anyF (cNaN f) a n = r1)) (H2 : Hid (anyF (cNaN f) b m = r2)) (H3 : Hid (anyF (cNaN f) (catF a n b) (n + m) = (r1 || r2)))
    (K1 : Hid (anyF (cFin f) a n = q1)) (K2 : Hid (anyF (cFin f) b m = q2)) (K3 : Hid (anyF (cFin f) (catF a n b) (n + m) = (q1 || q2))) :
    Calls Tryd.prog 8 #[.int .u8 f, .slice s n c, .slice s' m c'] w fun e w' => e = .returned (.bool true) ∧ Gr w w' := by
  have tok1 : True := trivial
  have dn : decide (50 < (n : Int)) = false := by simp; omega
  have dm : decide (50 < (m : Int)) = false := by simp; omega
  have own0 := World.ownsRow_made (base := w.heap.size) (e := 25) (size := 2) w #[] 0 (Nat.le_refl _) (Nat.zero_le _) rfl
  go_enter Tryd.func8, Tryd.ntmps8
  go_upto_region 4 with (first
    | (at_builtin; clear tok1; refine wpList_append_lst rfl (.tmp 16) (.tmp 17) rfl w.heap.size _ 0 [] rfl own0 s n c a rfl (HL.out.1.below ((Below.refl _ _).alloc (Nat.le_refl _) _)) HL.out.2 (by omega) (by simp) ?_; intro v1 w1 hown1 hg1; have hb1 : Below w.heap.size w w1 := ((Below.refl w.heap.size w).alloc (Nat.le_refl _) _).grown hg1 (by simp) (fun k hk => (own0.lt k hk).1); clear own0 hg1)
    | (at_builtin; refine wpList_append_lst rfl (.tmp 18) (.tmp 19) rfl w.heap.size v1 (0 + n) ([] ++ rowV a n) rfl hown1 s' m c' b rfl (HL'.out.1.below hb1) HL'.out.2 (by omega) hb1.size ?_; intro v2 w2 hown2 hg2; have hb2 : Below w.heap.size w w2 := hb1.grown hg2 hb1.size (fun k hk => (hown1.lt k hk).1); rw [Nat.zero_add, List.nil_append, rowV_cat] at hown2; obtain ⟨s2, c2, rfl, hl2⟩ := lst_own hown2; clear hown1 hown2 hg2; have HL2 := Lib.hid hl2; clear hl2))
  have hs2 := hb2.size
  clear dn dm
  cases r1 <;> cases q1
  all_goals

    go_wp2_with (first
      | (go_at_call_of 54 (s2); go_at_call_of 54 (Fn.func (33 : Nat)); refine (anyNaN_at f l u s2 (n + m) c2 (catF a n b) _ H3 _ (hT.below (by (repeat (first | with_reducible assumption | with_reducible exact Below.refl _ _ | with_reducible apply Below.drew | with_reducible apply below_drewN | with_reducible refine Below.alloc ?_ (by first | omega | (simp <;> omega)) _ | with_reducible refine Below.setCell ?_ (by first | omega | (simp <;> omega)) _ | with_reducible refine Below.trans ?_ (Below.mono (by assumption) (by first | omega | (simp <;> omega))))))) (by omega) (HL2.out.below (by (repeat (first | with_reducible assumption | with_reducible exact Below.refl _ _ | with_reducible apply Below.drew | with_reducible apply below_drewN | with_reducible refine Below.alloc ?_ (by first | omega | (simp <;> omega)) _ | with_reducible refine Below.setCell ?_ (by first | omega | (simp <;> omega)) _ | with_reducible refine Below.trans ?_ (Below.mono (by assumption) (by first | omega | (simp <;> omega)))))))).mono ?_; rintro e w3 ⟨rfl, hb3⟩; (try (with_reducible replace hb3 := undrew hb3)); obtain ⟨hc3, hf3⟩ := bcell hb3; have hs3 := hb3.size; (try simp at hs3))
      | (go_at_call_of 54 (s); go_at_call_of 54 (Fn.func (33 : Nat)); refine (anyNaN_at f l u s n c a _ H1 _ (hT.below (by (repeat (first | with_reducible assumption | with_reducible exact Below.refl _ _ | with_reducible apply Below.drew | with_reducible apply below_drewN | with_reducible refine Below.alloc ?_ (by first | omega | (simp <;> omega)) _ | with_reducible refine Below.setCell ?_ (by first | omega | (simp <;> omega)) _ | with_reducible refine Below.trans ?_ (Below.mono (by assumption) (by first | omega | (simp <;> omega))))))) (by omega) (HL.out.1.below (by (repeat (first | with_reducible assumption | with_reducible exact Below.refl _ _ | with_reducible apply Below.drew | with_reducible apply below_drewN | with_reducible refine Below.alloc ?_ (by first | omega | (simp <;> omega)) _ | with_reducible refine Below.setCell ?_ (by first | omega | (simp <;> omega)) _ | with_reducible refine Below.trans ?_ (Below.mono (by assumption) (by first | omega | (simp <;> omega)))))))).mono ?_; rintro e w4 ⟨rfl, hb4⟩; (try (with_reducible replace hb4 := undrew hb4)); obtain ⟨hc4, hf4⟩ := bcell hb4; have hs4 := hb4.size; (try simp at hs4))
      | (go_at_call_of 54 (s'); go_at_call_of 54 (Fn.func (33 : Nat)); refine (anyNaN_at f l u s' m c' b _ H2 _ (hT.below (by (repeat (first | with_reducible assumption | with_reducible exact Below.refl _ _ | with_reducible apply Below.drew | with_reducible apply below_drewN | with_reducible refine Below.alloc ?_ (by first | omega | (simp <;> omega)) _ | with_reducible refine Below.setCell ?_ (by first | omega | (simp <;> omega)) _ | with_reducible refine Below.trans ?_ (Below.mono (by assumption) (by first | omega | (simp <;> omega))))))) (by omega) (HL'.out.1.below (by (repeat (first | with_reducible assumption | with_reducible exact Below.refl _ _ | with_reducible apply Below.drew | with_reducible apply below_drewN | with_reducible refine Below.alloc ?_ (by first | omega | (simp <;> omega)) _ | with_reducible refine Below.setCell ?_ (by first | omega | (simp <;> omega)) _ | with_reducible refine Below.trans ?_ (Below.mono (by assumption) (by first | omega | (simp <;> omega)))))))).mono ?_; rintro e w5 ⟨rfl, hb5⟩; (try (with_reducible replace hb5 := undrew hb5)); obtain ⟨hc5, hf5⟩ := bcell hb5; have hs5 := hb5.size; (try simp at hs5))
      | (go_at_call_of 54 (s2); go_at_call_of 54 (Fn.func (37 : Nat)); refine (anyFin_at f l u s2 (n + m) c2 (catF a n b) _ K3 _ (hT.below (by (repeat (first | with_reducible assumption | with_reducible exact Below.refl _ _ | with_reducible apply Below.drew | with_reducible apply below_drewN | with_reducible refine Below.alloc ?_ (by first | omega | (simp <;> omega)) _ | with_reducible refine Below.setCell ?_ (by first | omega | (simp <;> omega)) _ | with_reducible refine Below.trans ?_ (Below.mono (by assumption) (by first | omega | (simp <;> omega))))))) (by omega) (HL2.out.below (by (repeat (first | with_reducible assumption | with_reducible exact Below.refl _ _ | with_reducible apply Below.drew | with_reducible apply below_drewN | with_reducible refine Below.alloc ?_ (by first | omega | (simp <;> omega)) _ | with_reducible refine Below.setCell ?_ (by first | omega | (simp <;> omega)) _ | with_reducible refine Below.trans ?_ (Below.mono (by assumption) (by first | omega | (simp <;> omega)))))))).mono ?_; rintro e w6 ⟨rfl, hb6⟩; (try (with_reducible replace hb6 := undrew hb6)); obtain ⟨hc6, hf6⟩ := bcell hb6; have hs6 := hb6.size; (try simp at hs6))
      | (go_at_call_of 54 (s); go_at_call_of 54 (Fn.func (37 : Nat)); refine (anyFin_at f l u s n c a _ K1 _ (hT.below (by (repeat (first | with_reducible assumption | with_reducible exact Below.refl _ _ | with_reducible apply Below.drew | with_reducible apply below_drewN | with_reducible refine Below.alloc ?_ (by first | omega | (simp <;> omega)) _ | with_reducible refine Below.setCell ?_ (by first | omega | (simp <;> omega)) _ | with_reducible refine Below.trans ?_ (Below.mono (by assumption) (by first | omega | (simp <;> omega))))))) (by omega) (HL.out.1.below (by (repeat (first | with_reducible assumption | with_reducible exact Below.refl _ _ | with_reducible apply Below.drew | with_reducible apply below_drewN | with_reducible refine Below.alloc ?_ (by first | omega | (simp <;> omega)) _ | with_reducible refine Below.setCell ?_ (by first | omega | (simp <;> omega)) _ | with_reducible refine Below.trans ?_ (Below.mono (by assumption) (by first | omega | (simp <;> omega)))))))).mono ?_; rintro e w7 ⟨rfl, hb7⟩; (try (with_reducible replace hb7 := undrew hb7)); obtain ⟨hc7, hf7⟩ := bcell hb7; have hs7 := hb7.size; (try simp at hs7))
      | (go_at_call_of 54 (s'); go_at_call_of 54 (Fn.func (37 : Nat)); refine (anyFin_at f l u s' m c' b _ K2 _ (hT.below (by (repeat (first | with_reducible assumption | with_reducible exact Below.refl _ _ | with_reducible apply Below.drew | with_reducible apply below_drewN | with_reducible refine Below.alloc ?_ (by first | omega | (simp <;> omega)) _ | with_reducible refine Below.setCell ?_ (by first | omega | (simp <;> omega)) _ | with_reducible refine Below.trans ?_ (Below.mono (by assumption) (by first | omega | (simp <;> omega))))))) (by omega) (HL'.out.1.below (by (repeat (first | with_reducible assumption | with_reducible exact Below.refl _ _ | with_reducible apply Below.drew | with_reducible apply below_drewN | with_reducible refine Below.alloc ?_ (by first | omega | (simp <;> omega)) _ | with_reducible refine Below.setCell ?_ (by first | omega | (simp <;> omega)) _ | with_reducible refine Below.trans ?_ (Below.mono (by assumption) (by first | omega | (simp <;> omega)))))))).mono ?_; rintro e w8 ⟨rfl, hb8⟩; (try (with_reducible replace hb8 := undrew hb8)); obtain ⟨hc8, hf8⟩ := bcell hb8; have hs8 := hb8.size; (try simp at hs8))
      | (go_at_call 38; refine (goes8_any _ (hT.below (by (repeat (first | with_reducible assumption | with_reducible exact Below.refl _ _ | with_reducible apply Below.drew | with_reducible apply below_drewN | with_reducible refine Below.alloc ?_ (by first | omega | (simp <;> omega)) _ | with_reducible refine Below.setCell ?_ (by first | omega | (simp <;> omega)) _ | with_reducible refine Below.trans ?_ (Below.mono (by assumption) (by first | omega | (simp <;> omega)))))))).mono ?_; rintro e w9 ⟨rfl, hb9⟩; (try (with_reducible replace hb9 := undrew hb9)); obtain ⟨hc9, hf9⟩ := bcell hb9; have hs9 := hb9.size; (try simp at hs9)))
    go_ret
    exact ⟨rfl, by (repeat (first | with_reducible assumption | with_reducible exact Below.refl _ _ | with_reducible apply Below.drew | with_reducible apply below_drewN | with_reducible refine Below.alloc ?_ (by first | omega | (simp <;> omega)) _ | with_reducible refine Below.setCell ?_ (by first | omega | (simp <;> omega)) _ | with_reducible refine Below.trans ?_ (Below.mono (by assumption) (by first | omega | (simp <;> omega)))))⟩
theorem walk_classMany (w : World) (hT : Tab w) (f : Int) (l : 0 ≤ f) (u : f ≤ 255) (s : Option Addr) (n c : Nat) (a : Nat → BitVec 128) (hl : Lst w s n a ∧ n ≤ 9223372036854775807 ∧ (s = none → c = 0)) (s' : Option Addr) (m c' : Nat) (b : Nat → BitVec 128) (hl' : Lst w s' m b ∧ m ≤ 9223372036854775807 ∧ (s' = none → c' = 0)) :
    Calls Tryd.prog 8 #[.int .u8 f, .slice s n c, .slice s' m c'] w fun e w' => e = .returned (.bool true) ∧ Gr w w' := by
  obtain ⟨hl, hbn, hsn⟩ := hl
  obtain ⟨hl', hbm, hsm⟩ := hl'
  by_cases hn : n ≤ 50
  · by_cases hm : m ≤ 50
    · exact many_core w hT f l u s n c a s' m c' b hn hm (Lib.hid ⟨hl, hsn⟩) (Lib.hid ⟨hl', hsm⟩) _ _ _ _ (Lib.hid rfl) (Lib.hid rfl) (Lib.hid (any_cat _ _ _ _ _)) (Lib.hid rfl) (Lib.hid rfl) (Lib.hid (any_cat _ _ _ _ _))
    · have dn : decide (50 < (n : Int)) = false := by simp; omega
      have dm : decide (50 < (m : Int)) = true := by simp; omega
      clear hl hl' hsn hsm
      go_enter Tryd.func8, Tryd.ntmps8
      go_wp2
      go_ret
      exact ⟨rfl, Below.refl _ _⟩
  · have dn : decide (50 < (n : Int)) = true := by simp; omega
    clear hl hl' hsn hsm
    go_enter Tryd.func8, Tryd.ntmps8
    go_wp2
    go_ret
    exact ⟨rfl, Below.refl _ _⟩
end Hb
end Go.Proofs.YtcbmhhnpagffcaaDoor
