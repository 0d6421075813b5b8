/-
  THE WALK of the law NanFirst. Conditions: the table of the formats holds its numbers; the slices read as the lists.
-/
import Derived.Test.YtmnoghkbmkiplaaDoorGoes10
import Derived.Test.YtmnoghkbmkiplaaDoorFirstPlain
import Derived.Test.YtmnoghkbmkiplaaDoorPast
import Derived.Test.YtmnoghkbmkiplaaDoorPayPlain
namespace Go.Proofs.YtmnoghkbmkiplaaDoor
open Go.RowKit
namespace Hb
set_option maxRecDepth 20000
theorem lst_one (W : World) (g : Nat) (x : BitVec 128) (hg : g < W.heap.size) (h0 : W.cell? ⟨g, 0, none⟩ = some (.int .u64 (hiB x))) (h1 : W.cell? ⟨g, 1, none⟩ = some (.int .u64 (loB x))) : Lst W (some ⟨g, 0, none⟩) 1 (fun _ => x) :=
  .inr ⟨g, 0, rfl, hg, fun i hi => by
    obtain rfl : i = 0 := by omega
    exact ⟨h0, h1⟩⟩
theorem own_below {w w' : World} {base e size n : Nat} {v : Value} {xs : List Value} (h : w.ownsRow base e size v n xs) (hb : Below w.heap.size w w') : w'.ownsRow base e size v n xs :=
  h.kept (row := none) ⟨hb.os, hb.tape, hb.output, hb.size, fun k hk _ => hb.block k hk⟩ (by
    cases hv : v.ownBlock
    · exact .inl rfl
    · exact .inr (by simp))
def FirstAt (f : Int) (w : World) (x : BitVec 128) (a : Nat → BitVec 128) (k : Nat) (v : Value) (wr : World) : Prop :=
  wr.ownsRow (w.heap.size + 1) 26 2 v (keepL (cNaN f) a k).length (rowV (fnL (keepL (cNaN f) a k)) (keepL (cNaN f) a k).length) ∧ Below w.heap.size w wr ∧ wr.cell? ⟨w.heap.size, 0, none⟩ = some (.int .u64 (hiB x)) ∧ wr.cell? ⟨w.heap.size, 1, none⟩ = some (.int .u64 (loB x)) ∧ w.heap.size < wr.heap.size
set_option maxHeartbeats 8000000 in
theorem first_core (w : World) (hT : Tab w) (f : Int) (l : 0 ≤ f) (u : f ≤ 255) (h : f < 4) (s : Option Addr) (n c : Nat) (a : Nat → BitVec 128) (s' : Option Addr) (m c' : Nat) (b : Nat → BitVec 128) (x : BitVec 128) (b0 off : Nat) (hn : n ≤ 20) (hm : m ≤ 20)
    (hs : 0 < n → s = some ⟨b0, off, none⟩) (HC : Hid (∀ i, i < n → b0 < w.heap.size ∧ w.cell? ⟨b0, off + i * 2, none⟩ = some (.int .u64 (hiB (a i))) ∧ w.cell? ⟨b0, off + i * 2 + 1, none⟩ = some (.int .u64 (loB (a i)))))
    (HL' : Hid (Lst w s' m b ∧ (s' = none → c' = 0))) (HN : Hid (cNaN f x = true)) :
    Calls Tryd.prog 3 #[.int .u8 f, .slice s n c, .slice s' m c', Bv x] w fun e w' => e = .returned (.bool true) ∧ Gr w w' := by
  have tok1 : True := trivial
  have dn : decide (20 < (n : Int)) = false := by simp; omega
  have dm : decide (20 < (m : Int)) = false := by simp; omega
  have HS := Lib.hid hs
  clear hs
  simp only [Bv]

  go_enter Tryd.func3, Tryd.ntmps3
  go_wp2_with (first | (go_at_call 4; refine (nan_as f l u x _ HN _ (hT.below (by (repeat (first | with_reducible assumption | with_reducible exact Below.refl _ _ | with_reducible apply Below.drew | with_reducible apply below_drewN | with_reducible refine Below.alloc ?_ (by first | omega | (simp <;> omega)) _ | with_reducible refine Below.setCell ?_ (by first | omega | (simp <;> omega)) _ | with_reducible refine Below.trans ?_ (Below.mono (by assumption) (by first | omega | (simp <;> omega)))))))).mono ?_; rintro e w1 ⟨rfl, hb1⟩; (try (with_reducible replace hb1 := undrew hb1)); obtain ⟨hc1, hf1⟩ := bcell hb1; have hs1 := hb1.size; (try simp at hs1); (try have y1_0_0 : w.heap.size < w1.heap.size := (by omega))))
  go_loopw [9, 10] (fun v9 v10 wr => ∃ k : Nat, k ≤ n ∧ v10 = .int .i64 k ∧ Hid (FirstAt f w x a k v9 wr)) (fun _ v10 _ => n - (intOf v10).toNat)
  case atStart =>
    refine ⟨0, Nat.zero_le _, rfl, Lib.hid ⟨World.ownsRow_nil _ _ _ _, by (repeat (first | with_reducible assumption | with_reducible exact Below.refl _ _ | with_reducible apply Below.drew | with_reducible apply below_drewN | with_reducible refine Below.alloc ?_ (by first | omega | (simp <;> omega)) _ | with_reducible refine Below.setCell ?_ (by first | omega | (simp <;> omega)) _ | with_reducible refine Below.trans ?_ (Below.mono (by assumption) (by first | omega | (simp <;> omega))))), ?_, ?_, by omega⟩⟩ <;> simp [go_sem, *]
  case round =>
    obtain ⟨k, hk, rfl, HR⟩ := hrel
    obtain ⟨hown, hbr, hx0, hx1, hsz⟩ := HR.out
    by_cases hlt : k < n
    · have hltz : (k : Int) < (n : Int) := by omega
      obtain rfl := HS.out (by omega)
      obtain ⟨hb0, e1, e2⟩ := HC.out k hlt
      have e3 := (hbr.cell (p := ⟨b0, off + k * 2, none⟩) hb0).trans e1
      have e4 := (hbr.cell (p := ⟨b0, off + k * 2 + 1, none⟩) hb0).trans e2
      have hb1' : b0 < wr.heap.size := Nat.lt_of_lt_of_le hb0 hbr.size
      have HO := Lib.hid hown
      have hTr := hT.below hbr
      clear hown e1 e2 HC HL' HR
      cases hq : cNaN f (a k) with
      | true =>
        have HQ := Lib.hid hq
        have hkeep : keepL (cNaN f) a (k + 1) = keepL (cNaN f) a k := by show (if cNaN f (a k) then _ else _) = _; rw [hq, if_pos rfl]
        have HK := Lib.hid hkeep
        clear hq hkeep
        go_wp2_with (first | (go_at_call 4; refine (nan_as f l u (a k) _ HQ _ hTr).mono ?_; rintro e w5 ⟨rfl, hb5⟩))
        go_roundw
        case rel =>
          refine ⟨k + 1, by omega, by go_num, Lib.hid ⟨?_, hbr.trans (hb5.mono hbr.size), (hb5.cell (p := ⟨w.heap.size, 0, none⟩) hsz).trans hx0, (hb5.cell (p := ⟨w.heap.size, 1, none⟩) hsz).trans hx1, Nat.lt_of_lt_of_le hsz hb5.size⟩⟩
          rw [HK.out]; exact own_below HO.out hb5
        case measure => simp [intOf]; omega
      | false =>
        have HQ := Lib.hid hq
        have hkeep : keepL (cNaN f) a (k + 1) = keepL (cNaN f) a k ++ [a k] := by show (if cNaN f (a k) then _ else _) = _; rw [hq, if_neg (by decide)]
        have HK := Lib.hid hkeep
        clear hq hkeep
        have hkl := keep_len (cNaN f) a k
        have elen : (keepL (cNaN f) a k ++ [a k]).length = (keepL (cNaN f) a k).length + 1 := by simp
        have HE := Lib.hid elen
        clear elen
        go_wp2_with (first
          | (go_at_call 4; refine (nan_as f l u (a k) _ HQ _ hTr).mono ?_; rintro e w5 ⟨rfl, hb5⟩; obtain ⟨hc5, hf5⟩ := bcell hb5; have hs5 := hb5.size)
          | (at_builtin; refine wpList_append_lst rfl (.tmp 43) (.tmp 48) rfl (w.heap.size + 1) u9 _ _ rfl ((own_below HO.out hb5).alloc _) (some ⟨_, 0, none⟩) 1 1 (fun _ => a k) rfl (lst_one _ _ _ (by simp) (by simp [go_sem]) (by simp [go_sem])) (by simp) (by omega) (by simp; omega) ?_; intro v1 w6 hown6 hg6))
        go_roundw
        case rel =>
          have hne : ∀ j, u9.ownBlock = some j → w.heap.size + 1 ≤ j := fun j hj => (HO.out.lt j hj).1
          have hne2 : some w.heap.size ≠ u9.ownBlock := fun e => by have := hne _ e.symm; omega
          refine ⟨k + 1, by omega, by go_num, Lib.hid ⟨?_, ((hbr.trans (hb5.mono hbr.size)).alloc (by omega) _).grown hg6 (by simp; omega) (fun j hj => by have := hne j hj; omega), hg6.cell (a := ⟨w.heap.size, 0, none⟩) (v := .int .u64 (hiB x)) (by rw [World.cell?_alloc_past _ _ _ (by first | omega | (simp; omega))]; exact (hc5 _ _ hsz).trans hx0) hne2, hg6.cell (a := ⟨w.heap.size, 1, none⟩) (v := .int .u64 (loB x)) (by rw [World.cell?_alloc_past _ _ _ (by first | omega | (simp; omega))]; exact (hc5 _ _ hsz).trans hx1) hne2, Nat.lt_of_lt_of_le (by simp; omega) hg6.size⟩⟩
          rw [fnL_snoc] at hown6
          rw [HK.out, HE.out]
          rw [HE.out] at hown6
          exact hown6
        case measure => simp [intOf]; omega
    · have hltz : ¬ (k : Int) < (n : Int) := by omega
      obtain rfl : k = n := by omega
      have hkl := keep_len (cNaN f) a k
      have hkn := keep_not (cNaN f) a k
      obtain ⟨P1, P2⟩ := first_plain f h (keepL (cNaN f) a k) x b m hkn HN.out false
      obtain ⟨P3, P4⟩ := first_plain f h (keepL (cNaN f) a k) x b m hkn HN.out true
      have elen : (keepL (cNaN f) a k ++ [x]).length = (keepL (cNaN f) a k).length + 1 := by simp
      have esn := fnL_snoc (keepL (cNaN f) a k) x
      generalize keepL (cNaN f) a k = K at *
      obtain ⟨z, hz⟩ : ∃ z, nQ f x = z := ⟨_, rfl⟩
      rw [hz] at P2 P4
      obtain ⟨L, hL⟩ : ∃ L, (K ++ [x]).length + m = L := ⟨_, rfl⟩
      obtain ⟨A, hA⟩ : ∃ A, catF (fnL (K ++ [x])) (K ++ [x]).length b = A := ⟨_, rfl⟩
      rw [hL, hA] at P1 P2 P3 P4
      have hLb : L ≤ 100 := by omega
      obtain ⟨fl, hfl⟩ : ∃ fl, pkF f false A L = fl := ⟨_, rfl⟩
      have hft : pkF f true A L = 1 := rfl
      have Q1 := Lib.hid P1
      have Q2 := Lib.hid P2
      have Q3 := Lib.hid P3
      have Q4 := Lib.hid P4
      have Q5 := Lib.hid hfl
      have Q6 := Lib.hid hft
      have HZ := Lib.hid hz
      have HE := Lib.hid elen
      have HLL := Lib.hid hL
      have HAA := Lib.hid hA
      have HSN := Lib.hid esn
      have HO := Lib.hid hown
      clear P1 P2 P3 P4 hfl hft hz elen esn hown HR HC hkn dn dm hL hA
      have hne : ∀ j, u9.ownBlock = some j → w.heap.size + 1 ≤ j := fun j hj => (HO.out.lt j hj).1
      go_upto_region 10 with (first
        | (at_builtin; clear tok1; refine wpList_append_lst rfl (.tmp 50) (.tmp 52) rfl (w.heap.size + 1) u9 _ _ rfl (HO.out.alloc _) (some ⟨_, 0, none⟩) 1 1 (fun _ => x) rfl (lst_one _ _ _ (by simp) (by simp [go_sem]) (by simp [go_sem])) (by simp) (by omega) (by simp; omega) ?_; intro v1 w6 hown6 hg6; rw [HSN.out] at hown6; rw [← HE.out] at hown6; have hb6 : Below w.heap.size w w6 := (hbr.alloc (by omega) _).grown hg6 (by simp; omega) (fun j hj => by have := hne j hj; omega); have hne6 : ∀ j, v1.ownBlock = some j → w.heap.size + 1 ≤ j := fun j hj => (hown6.lt j hj).1)
        | (at_builtin; refine wpList_append_lst rfl (.tmp 53) (.tmp 54) rfl (w.heap.size + 1) v1 _ _ rfl hown6 s' m c' b rfl (HL'.out.1.below hb6) HL'.out.2 (by rw [HE.out]; omega) (by have := hg6.size; simp at this; omega) ?_; intro v2 w7 hown7 hg7; rw [rowV_cat, HLL.out, HAA.out] at hown7; have hb7 : Below w.heap.size w w7 := hb6.grown hg7 hb6.size (fun j hj => by have := hne6 j hj; omega); obtain ⟨s2, c2, rfl, hl2⟩ := lst_own hown7))
      have hx60 : w6.cell? ⟨w.heap.size, 0, none⟩ = some (.int .u64 (hiB x)) := hg6.cell (by rw [World.cell?_alloc_past _ _ _ (by first | omega | (simp; omega))]; exact hx0) (fun e => absurd (show w.heap.size + 1 ≤ w.heap.size from hne _ e.symm) (by omega))
      have hx61 : w6.cell? ⟨w.heap.size, 1, none⟩ = some (.int .u64 (loB x)) := hg6.cell (by rw [World.cell?_alloc_past _ _ _ (by first | omega | (simp; omega))]; exact hx1) (fun e => absurd (show w.heap.size + 1 ≤ w.heap.size from hne _ e.symm) (by omega))
      have hx70 : w7.cell? ⟨w.heap.size, 0, none⟩ = some (.int .u64 (hiB x)) := hg7.cell hx60 (fun e => absurd (show w.heap.size + 1 ≤ w.heap.size from hne6 _ e.symm) (by omega))
      have hx71 : w7.cell? ⟨w.heap.size, 1, none⟩ = some (.int .u64 (loB x)) := hg7.cell hx61 (fun e => absurd (show w.heap.size + 1 ≤ w.heap.size from hne6 _ e.symm) (by omega))
      have hs7 : w.heap.size < w7.heap.size := by have h1 := hg6.size; have h2 := hg7.size; simp at h1; omega
      have HL2 := Lib.hid hl2
      clear hl2 hown6 hown7 hg6 hg7 hne hne6 hx60 hx61 HSN HO HL' HS hx0 hx1


      go_wp2_with (first
        | (go_at_call_of 6 (Value.bool false); refine (pick_yes f l u false s2 L c2 A _ (hT.below (by (repeat (first | with_reducible assumption | with_reducible exact Below.refl _ _ | with_reducible apply Below.drew | with_reducible apply below_drewN | with_reducible refine Below.alloc ?_ (by first | omega | (simp <;> omega)) _ | with_reducible refine Below.setCell ?_ (by first | omega | (simp <;> omega)) _ | with_reducible refine Below.trans ?_ (Below.mono (by assumption) (by first | omega | (simp <;> omega))))))) (by omega) (HL2.out.below (by (repeat (first | with_reducible assumption | with_reducible exact Below.refl _ _ | with_reducible apply Below.drew | with_reducible apply below_drewN | with_reducible refine Below.alloc ?_ (by first | omega | (simp <;> omega)) _ | with_reducible refine Below.setCell ?_ (by first | omega | (simp <;> omega)) _ | with_reducible refine Below.trans ?_ (Below.mono (by assumption) (by first | omega | (simp <;> omega))))))) z fl Q1 Q2 Q5).mono ?_; rintro e w8 ⟨rfl, hb8⟩; (try (with_reducible replace hb8 := undrew hb8)); obtain ⟨hc8, hf8⟩ := bcell hb8; have hs8 := hb8.size; (try simp at hs8); (try have y8_0_0 : w.heap.size < w8.heap.size := (by omega)); (try have y8_0_1 : w.heap.size < w8.heap.size + 1 := (by omega)))
        | (go_at_call_of 6 (Value.bool true); refine (pick_yes f l u true s2 L c2 A _ (hT.below (by (repeat (first | with_reducible assumption | with_reducible exact Below.refl _ _ | with_reducible apply Below.drew | with_reducible apply below_drewN | with_reducible refine Below.alloc ?_ (by first | omega | (simp <;> omega)) _ | with_reducible refine Below.setCell ?_ (by first | omega | (simp <;> omega)) _ | with_reducible refine Below.trans ?_ (Below.mono (by assumption) (by first | omega | (simp <;> omega))))))) (by omega) (HL2.out.below (by (repeat (first | with_reducible assumption | with_reducible exact Below.refl _ _ | with_reducible apply Below.drew | with_reducible apply below_drewN | with_reducible refine Below.alloc ?_ (by first | omega | (simp <;> omega)) _ | with_reducible refine Below.setCell ?_ (by first | omega | (simp <;> omega)) _ | with_reducible refine Below.trans ?_ (Below.mono (by assumption) (by first | omega | (simp <;> omega))))))) z 1 Q3 Q4 Q6).mono ?_; rintro e w9 ⟨rfl, hb9⟩; (try (with_reducible replace hb9 := undrew hb9)); obtain ⟨hc9, hf9⟩ := bcell hb9; have hs9 := hb9.size; (try simp at hs9); (try have y9_0_0 : w.heap.size < w9.heap.size := (by omega)); (try have y9_0_1 : w.heap.size < w9.heap.size + 1 := (by omega)); (try have y9_1_0 : w8.heap.size < w9.heap.size := (by omega)); (try have y9_1_1 : w8.heap.size < w9.heap.size + 1 := (by omega))))
      refine wp_region_past (fun y => Tab y ∧ y.cell? ⟨w.heap.size, 0, none⟩ = some (.int .u64 (hiB x)) ∧ y.cell? ⟨w.heap.size, 1, none⟩ = some (.int .u64 (loB x)) ∧ y.cell? ⟨w8.heap.size, 0, none⟩ = some (.int .u64 (hiB z)) ∧ y.cell? ⟨w8.heap.size, 1, none⟩ = some (.int .u64 (loB z)) ∧ y.cell? ⟨w9.heap.size, 0, none⟩ = some (.int .u64 (hiB z)) ∧ y.cell? ⟨w9.heap.size, 1, none⟩ = some (.int .u64 (loB z)) ∧ y.cell? ⟨w9.heap.size, 2, none⟩ = some (.int .u8 1)) (by kernel_rfl) (by kernel_rfl) (fun wx hbx => ?_) (fun T hne tw hh hx => ?_)
      · obtain ⟨hcx, _⟩ := bcell hbx
        have hbw : Below w.heap.size w wx := by (repeat (first | with_reducible assumption | with_reducible exact Below.refl _ _ | with_reducible apply Below.drew | with_reducible apply below_drewN | with_reducible refine Below.alloc ?_ (by first | omega | (simp <;> omega)) _ | with_reducible refine Below.setCell ?_ (by first | omega | (simp <;> omega)) _ | with_reducible refine Below.trans ?_ (Below.mono (by assumption) (by first | omega | (simp <;> omega)))))
        refine ⟨hT.below hbw, ?_, ?_, ?_, ?_, ?_, ?_, ?_⟩ <;> simp [go_sem, *]
      · have t0 := fun p => (hh p).1
        have t1 := fun p => (hh p).2.1
        have t2 := fun p => (hh p).2.2.1
        have t3 := fun p => (hh p).2.2.2.1
        have t4 := fun p => (hh p).2.2.2.2.1
        have t5 := fun p => (hh p).2.2.2.2.2.1
        have t6 := fun p => (hh p).2.2.2.2.2.2.1
        have t7 := fun p => (hh p).2.2.2.2.2.2.2
        repeat (quiet_step (first
          | (go_at_call 7; exact callsPast hx (quiet_as f l u x _ HZ _ (t0 _)))
          | (go_at_call 5; exact callsPast hx (goes10_any _ (t0 _)))))
        refine wpQuiet_nil ?_
        intro w11 hb11
        (try (with_reducible replace hb11 := undrew hb11)); obtain ⟨hc11, hf11⟩ := bcell hb11; have hs11 := hb11.size; (try simp at hs11); (try have y11_0 : w.heap.size < w11.heap.size := (by omega)); (try have y11_1 : w8.heap.size < w11.heap.size := (by omega)); (try have y11_2 : w9.heap.size < w11.heap.size := (by omega))
        go_wp2
        go_ret
        exact ⟨rfl, by (repeat (first | with_reducible assumption | with_reducible exact Below.refl _ _ | with_reducible apply Below.drew | with_reducible apply below_drewN | with_reducible refine Below.alloc ?_ (by first | omega | (simp <;> omega)) _ | with_reducible refine Below.setCell ?_ (by first | omega | (simp <;> omega)) _ | with_reducible refine Below.trans ?_ (Below.mono (by assumption) (by first | omega | (simp <;> omega)))))⟩
theorem walk_nanFirst (w : World) (hT : Tab w) (f : Int) (l : 0 ≤ f) (u : f ≤ 255) (s : Option Addr) (n c : Nat) (a : Nat → BitVec 128) (hl : Lst w s n a ∧ n ≤ 9223372036854775807 ∧ (s = none → c = 0)) (s' : Option Addr) (m c' : Nat) (b : Nat → BitVec 128) (hl' : Lst w s' m b ∧ m ≤ 9223372036854775807 ∧ (s' = none → c' = 0)) (x : BitVec 128) :
    Calls Tryd.prog 3 #[.int .u8 f, .slice s n c, .slice s' m c', Bv x] w fun e w' => e = .returned (.bool true) ∧ Gr w w' := by
  obtain ⟨hl, hbn, hsn⟩ := hl
  obtain ⟨hl', hbm, hsm⟩ := hl'
  by_cases hall : n ≤ 20 ∧ m ≤ 20 ∧ cNaN f x = true
  · obtain ⟨hn, hm, hx⟩ := hall
    rcases hl with rfl | ⟨b0, off, rfl, hb, hc⟩
    · exact first_core w hT f l u (nan_known f x hx) s 0 c a s' m c' b x 0 0 hn hm (fun h => absurd h (Nat.lt_irrefl _)) (Lib.hid fun i hi => absurd hi (Nat.not_lt_zero _)) (Lib.hid ⟨hl', hsm⟩) (Lib.hid hx)
    · exact first_core w hT f l u (nan_known f x hx) _ n c a s' m c' b x b0 off hn hm (fun _ => rfl) (Lib.hid fun i hi => ⟨hb, hc i hi⟩) (Lib.hid ⟨hl', hsm⟩) (Lib.hid hx)
  · clear hl hl' hsn hsm
    obtain ⟨r, hr⟩ : ∃ r, cNaN f x = r := ⟨_, rfl⟩
    rw [hr] at hall
    have HN := Lib.hid hr
    have cs : decide (20 < (n : Int)) = true ∨ (decide (20 < (n : Int)) = false ∧ decide (20 < (m : Int)) = true) ∨ (decide (20 < (n : Int)) = false ∧ decide (20 < (m : Int)) = false ∧ r = false) := by
      cases r <;> simp at hall ⊢ <;> omega
    clear hr hall
    simp only [Bv]
    rcases cs with d1 | ⟨d1, d2⟩ | ⟨d1, d2, rfl⟩
    all_goals

      go_enter Tryd.func3, Tryd.ntmps3
      go_wp2_with (first
        | (go_at_call 4; refine (nan_as f l u x _ HN _ (hT.below (by (repeat (first | with_reducible assumption | with_reducible exact Below.refl _ _ | with_reducible apply Below.drew | with_reducible apply below_drewN | with_reducible refine Below.alloc ?_ (by first | omega | (simp <;> omega)) _ | with_reducible refine Below.setCell ?_ (by first | omega | (simp <;> omega)) _ | with_reducible refine Below.trans ?_ (Below.mono (by assumption) (by first | omega | (simp <;> omega)))))))).mono ?_; rintro e w1 ⟨rfl, hb1⟩; (try (with_reducible replace hb1 := undrew hb1)); obtain ⟨hc1, hf1⟩ := bcell hb1; have hs1 := hb1.size; (try simp at hs1); (try have y1_0_0 : w.heap.size < w1.heap.size := (by omega)))
        | (go_at_call 5; refine (goes10_any _ (hT.below (by (repeat (first | with_reducible assumption | with_reducible exact Below.refl _ _ | with_reducible apply Below.drew | with_reducible apply below_drewN | with_reducible refine Below.alloc ?_ (by first | omega | (simp <;> omega)) _ | with_reducible refine Below.setCell ?_ (by first | omega | (simp <;> omega)) _ | with_reducible refine Below.trans ?_ (Below.mono (by assumption) (by first | omega | (simp <;> omega)))))))).mono ?_; rintro e w2 ⟨rfl, hb2⟩; (try (with_reducible replace hb2 := undrew hb2)); obtain ⟨hc2, hf2⟩ := bcell hb2; have hs2 := hb2.size; (try simp at hs2); (try have y2_0_0 : w.heap.size < w2.heap.size := (by omega))))
      go_ret
      exact ⟨rfl, by (repeat (first | with_reducible assumption | with_reducible exact Below.refl _ _ | with_reducible apply Below.drew | with_reducible apply below_drewN | with_reducible refine Below.alloc ?_ (by first | omega | (simp <;> omega)) _ | with_reducible refine Below.setCell ?_ (by first | omega | (simp <;> omega)) _ | with_reducible refine Below.trans ?_ (Below.mono (by assumption) (by first | omega | (simp <;> omega)))))⟩
end Hb
end Go.Proofs.YtmnoghkbmkiplaaDoor
