/-
  THE WALK OF Pick OF THE REFERENCE: it answers what the program's plain part says. Conditions: the slice reads as the list.
-/
import Derived.Test.YtbelighbkjadkaaDoorRef10
import Derived.Test.YtbelighbkjadkaaDoorPick
namespace Go.Proofs.YtbelighbkjadkaaDoor
open Go.RowKit
namespace Hb
set_option maxRecDepth 20000
theorem pkB_0 (f : Int) (a : Nat → BitVec 128) : pkB f a 0 = nD f := by unfold pkB; rw [if_neg (by unfold idxF; decide)]
theorem pkB_skip (f : Int) (a : Nat → BitVec 128) (k : Nat) (h : anyF (cNaN f) a k = true ∨ cNaN f (a k) = false) : pkB f a (k + 1) = pkB f a k := by
  unfold pkB
  have e : idxF (cNaN f) a (k + 1) = if 0 ≤ idxF (cNaN f) a k then idxF (cNaN f) a k else if cNaN f (a k) then (k : Int) else -1 := rfl
  rw [any_idx] at h
  rw [e]
  by_cases h0 : 0 ≤ idxF (cNaN f) a k
  · rw [if_pos h0]
  · rcases h with h | h
    · exact absurd (of_decide_eq_true h) h0
    · rw [if_neg h0, h]; simp [h0]
theorem pkB_take (f : Int) (a : Nat → BitVec 128) (k : Nat) (h1 : anyF (cNaN f) a k = false) (h2 : cNaN f (a k) = true) : pkB f a (k + 1) = nQ f (a k) := by
  unfold pkB
  have e : idxF (cNaN f) a (k + 1) = if 0 ≤ idxF (cNaN f) a k then idxF (cNaN f) a k else if cNaN f (a k) then (k : Int) else -1 := rfl
  rw [any_idx] at h1
  rw [e, if_neg (of_decide_eq_false h1), h2]
  simp
/-- The flags behind the first k. -/
def flK (f : Int) (a : Nat → BitVec 128) (k : Nat) : Int := if anyF (cSig f) a k then 1 else 0
theorem flK_keep (f : Int) (a : Nat → BitVec 128) (k : Nat) (h : cSig f (a k) = false) : flK f a (k + 1) = flK f a k := by
  unfold flK; show (if (anyF (cSig f) a k || cSig f (a k)) then _ else _) = _; rw [h, Bool.or_false]
theorem flK_set (f : Int) (a : Nat → BitVec 128) (k : Nat) (h : cSig f (a k) = true) : flK f a (k + 1) = 1 := by
  unfold flK; show (if (anyF (cSig f) a k || cSig f (a k)) then _ else _) = _; rw [h, Bool.or_true]; rfl
/-- The result's cells behind the first k. -/
def PickAt (f : Int) (a : Nat → BitVec 128) (w : World) (B k : Nat) (wr : World) : Prop :=
  Below w.heap.size w wr ∧ B < wr.heap.size ∧ w.heap.size < wr.heap.size ∧ wr.cell? ⟨B, 0, none⟩ = some (.int .u64 (hiB (pkB f a k))) ∧ wr.cell? ⟨B, 1, none⟩ = some (.int .u64 (loB (pkB f a k))) ∧ wr.cell? ⟨B, 2, none⟩ = some (.int .u8 (flK f a k)) ∧
    wr.frozen? ⟨B, 0, none⟩ = false ∧ wr.frozen? ⟨B, 1, none⟩ = false ∧ wr.frozen? ⟨B, 2, none⟩ = false ∧ wr.cell? ⟨w.heap.size, 0, none⟩ = some (.int .u64 0) ∧ wr.cell? ⟨w.heap.size, 1, none⟩ = some (.int .u64 0) ∧ wr.cell? ⟨w.heap.size, 2, none⟩ = some (.int .u8 0) ∧
    wr.frozen? ⟨w.heap.size, 0, none⟩ = false ∧ wr.frozen? ⟨w.heap.size, 1, none⟩ = false ∧ wr.frozen? ⟨w.heap.size, 2, none⟩ = false
set_option maxHeartbeats 8000000 in
theorem rpick_core (f : Int) (l : 0 ≤ f) (u : f ≤ 255) (h : f < 4) (inv : Bool) (s : Option Addr) (n c : Nat) (a : Nat → BitVec 128) (w : World) (b0 off : Nat) (hn : n ≤ 50) (z D : BitVec 128) (fl : Int) (x : Bool)
    (HS : Hid (0 < n → s = some ⟨b0, off, none⟩)) (HC : Hid (∀ i, i < n → b0 < w.heap.size ∧ w.cell? ⟨b0, off + i * 2, none⟩ = some (.int .u64 (hiB (a i))) ∧ w.cell? ⟨b0, off + i * 2 + 1, none⟩ = some (.int .u64 (loB (a i)))))
    (HD : Hid (nD f = D)) (HX : Hid (anyF (cNaN f) a n = x)) (HB : Hid (pkB f a n = z)) (HF : Hid (flK f a n = fl)) :
    Calls Tryd.prog 67 #[.int .u8 f, .bool inv, .slice s n c] w fun e w' => e = .returned (if inv || x then .tuple #[.agg #[.int .u64 (hiB z), .int .u64 (loB z), .int .u8 (if inv then 1 else fl)], .bool true] else .tuple #[.agg #[.int .u64 0, .int .u64 0, .int .u8 0], .bool false]) ∧ Gr w w' := by
  have dn : 3 < f ↔ False := by simp; omega

  go_enter Tryd.func67, Tryd.ntmps67
  go_wp2_with (first
    | (go_at_call 64; refine (rdef_as f l u D HD _).mono ?_; rintro e w1 ⟨rfl, hb1⟩; (try (with_reducible replace hb1 := undrew hb1)); obtain ⟨hc1, hf1⟩ := bcell hb1; have hs1 := hb1.size; (try simp at hs1); (try have y1_0_0 : w.heap.size < w1.heap.size := (by omega)); (try have y1_0_1 : w.heap.size < w1.heap.size + 1 := (by omega))))
  have hB1 : w.heap.size < w1.heap.size := by omega
  go_loopw [9, 10] (fun v9 v10 wr => ∃ k : Nat, k ≤ n ∧ v10 = .int .i64 k ∧ v9 = .bool (anyF (cNaN f) a k) ∧ Hid (PickAt f a w w1.heap.size k wr)) (fun _ v10 _ => n - (intOf v10).toNat)
  case atStart =>
    refine ⟨0, Nat.zero_le _, rfl, rfl, Lib.hid ⟨by (repeat (first | with_reducible assumption | with_reducible exact Below.refl _ _ | with_reducible apply Below.drew | with_reducible apply below_drewN | with_reducible refine Below.alloc ?_ (by first | omega | (simp <;> omega)) _ | with_reducible refine Below.setCell ?_ (by first | omega | (simp <;> omega)) _ | with_reducible refine Below.trans ?_ (Below.mono (by assumption) (by first | omega | (simp <;> omega))))), by simp, by simp; omega, ?_, ?_, ?_, ?_, ?_, ?_, ?_, ?_, ?_, ?_, ?_, ?_⟩⟩
    all_goals (try rw [pkB_0, HD.out])
    all_goals simp [go_sem, flK, anyF, *]
  case round =>
    obtain ⟨k, hk, rfl, rfl, HR⟩ := hrel
    by_cases hlt : k < n
    · obtain ⟨hbr, hBr, hsz, k0, k1, k2, f0, f1, f2, m0, m1, m2, g0, g1, g2⟩ := HR.out
      have hszr := hbr.size
      obtain ⟨hb0, e1, e2⟩ := HC.out k hlt
      obtain rfl := HS.out (by omega)
      have e3 := (hbr.cell (p := ⟨b0, off + k * 2, none⟩) hb0).trans e1
      have e4 := (hbr.cell (p := ⟨b0, off + k * 2 + 1, none⟩) hb0).trans e2
      have hb1' : b0 < wr.heap.size := Nat.lt_of_lt_of_le hb0 hbr.size
      have hne1 : ¬ b0 = w1.heap.size := by omega
      have hne2 : ¬ w1.heap.size = b0 := by omega
      have hne3 : ¬ w.heap.size = w1.heap.size := by omega
      have hne4 : ¬ w1.heap.size = w.heap.size := by omega
      have hn1 : anyF (cNaN f) a (k + 1) = (anyF (cNaN f) a k || cNaN f (a k)) := rfl
      have hb2 := pkB_skip f a k
      have hb3 := pkB_take f a k
      have hf1 := flK_keep f a k
      have hf2 := flK_set f a k
      obtain ⟨Z, hZ⟩ : ∃ Z, nQ f (a k) = Z := ⟨_, rfl⟩
      obtain ⟨zk, hzk⟩ : ∃ zk, pkB f a k = zk := ⟨_, rfl⟩
      obtain ⟨fk, hfk⟩ : ∃ fk, flK f a k = fk := ⟨_, rfl⟩
      obtain ⟨p, hp⟩ : ∃ p, cNaN f (a k) = p := ⟨_, rfl⟩
      obtain ⟨q, hq⟩ : ∃ q, cSig f (a k) = q := ⟨_, rfl⟩
      obtain ⟨x0, hx⟩ : ∃ x, anyF (cNaN f) a k = x := ⟨_, rfl⟩
      rw [hp, hx] at hn1
      rw [hx]
      rw [hzk] at k0 k1 hb2
      rw [hfk] at k2 hf1
      rw [hZ] at hb3
      rw [hx, hp] at hb2 hb3
      rw [hq] at hf1 hf2
      have HKB := Lib.hid (show pkB f a (k + 1) = (if (!x0 && p) = true then Z else zk) by
        cases x0 <;> cases p
        · exact hb2 (.inr rfl)
        · exact hb3 rfl rfl
        · exact hb2 (.inl rfl)
        · exact hb2 (.inl rfl))
      have HKF := Lib.hid (show flK f a (k + 1) = (if q = true then 1 else fk) by
        cases q
        · exact hf1 rfl
        · exact hf2 rfl)
      have HP := Lib.hid hp
      have HQ := Lib.hid hq
      have HZ := Lib.hid hZ
      have H1 := Lib.hid hn1
      clear hp hq hx hn1 e1 e2 hb2 hb3 hf1 hf2 hZ hzk hfk HR
      cases x0 <;> cases p <;> cases q
      all_goals


        go_wp2_with (first
          | (go_at_call 36; refine (rnan_as f l u (a k) _ HP _).mono ?_; rintro e w2 ⟨rfl, hb2⟩; (try (with_reducible replace hb2 := undrew hb2)); obtain ⟨hc2, hf2⟩ := bcell hb2; have hs2 := hb2.size; (try simp at hs2); (try have y2_0_0 : w1.heap.size < w2.heap.size := (by omega)); (try have y2_1_0 : w.heap.size < w2.heap.size := (by omega)); (try have y2_2_0 : b0 < w2.heap.size := (by omega)))
          | (go_at_call 62; refine (rquiet_as f l u (a k) Z HZ _).mono ?_; rintro e w3 ⟨rfl, hb3⟩; (try (with_reducible replace hb3 := undrew hb3)); obtain ⟨hc3, hf3⟩ := bcell hb3; have hs3 := hb3.size; (try simp at hs3); (try have y3_0_0 : w1.heap.size < w3.heap.size := (by omega)); (try have y3_1_0 : w.heap.size < w3.heap.size := (by omega)); (try have y3_2_0 : b0 < w3.heap.size := (by omega)))
          | (go_at_call 38; refine (rsig_as f l u (a k) _ HQ _).mono ?_; rintro e w4 ⟨rfl, hb4⟩; (try (with_reducible replace hb4 := undrew hb4)); obtain ⟨hc4, hf4⟩ := bcell hb4; have hs4 := hb4.size; (try simp at hs4); (try have y4_0_0 : w1.heap.size < w4.heap.size := (by omega)); (try have y4_1_0 : w.heap.size < w4.heap.size := (by omega)); (try have y4_2_0 : b0 < w4.heap.size := (by omega))))
        go_roundw
        case rel =>
          refine ⟨k + 1, by omega, by go_num, by rw [H1.out]; rfl, Lib.hid ⟨by (repeat (first | with_reducible assumption | with_reducible exact Below.refl _ _ | with_reducible apply Below.drew | with_reducible apply below_drewN | with_reducible refine Below.alloc ?_ (by first | omega | (simp <;> omega)) _ | with_reducible refine Below.setCell ?_ (by first | omega | (simp <;> omega)) _ | with_reducible refine Below.trans ?_ (Below.mono (by assumption) (by first | omega | (simp <;> omega))))), by first | omega | (simp; omega), by first | omega | (simp; omega), ?_, ?_, ?_, ?_, ?_, ?_, ?_, ?_, ?_, ?_, ?_, ?_⟩⟩
          · rw [HKB.out]; simp (maxDischargeDepth := 9) [go_sem, *]
          · rw [HKB.out]; simp (maxDischargeDepth := 9) [go_sem, *]
          · rw [HKF.out]; simp (maxDischargeDepth := 9) [go_sem, *]
          all_goals simp (maxDischargeDepth := 9) [go_sem, *]
        case measure => simp [intOf]; omega
    · obtain rfl : k = n := by omega
      obtain ⟨hbr, hBr, hsz, k0, k1, k2, f0, f1, f2, m0, m1, m2, g0, g1, g2⟩ := HR.out
      have hszr := hbr.size
      rw [HB.out] at k0 k1
      rw [HF.out] at k2
      rw [HX.out]
      have hne1 : ¬ w.heap.size = w1.heap.size := by omega
      have hne2 : ¬ w1.heap.size = w.heap.size := by omega
      clear HR HS HC HD HB HF HX
      cases inv <;> cases x
      all_goals
        go_wp2
        simp (maxDischargeDepth := 9) [bodyPost, results, Tryd.results67, go_sem, *]
        (repeat (first | with_reducible assumption | with_reducible exact Below.refl _ _ | with_reducible apply Below.drew | with_reducible apply below_drewN | with_reducible refine Below.alloc ?_ (by first | omega | (simp <;> omega)) _ | with_reducible refine Below.setCell ?_ (by first | omega | (simp <;> omega)) _ | with_reducible refine Below.trans ?_ (Below.mono (by assumption) (by first | omega | (simp <;> omega)))))
theorem flK_pk (f : Int) (inv : Bool) (a : Nat → BitVec 128) (n : Nat) : (if inv then (1 : Int) else flK f a n) = pkF f inv a n := by
  unfold pkF flK
  cases inv <;> rfl
theorem rpick_no' (f : Int) (h : 3 < f) (inv : Bool) (s : Option Addr) (n c : Nat) (w : World) :
    Calls Tryd.prog 67 #[.int .u8 f, .bool inv, .slice s n c] w fun e w' => e = .returned (.tuple #[.agg #[.int .u64 0, .int .u64 0, .int .u8 0], .bool false]) ∧ Gr w w' := by

  go_enter Tryd.func67, Tryd.ntmps67
  go_wp2
  simp [bodyPost, results, Tryd.results67, go_sem]
  (repeat (first | with_reducible assumption | with_reducible exact Below.refl _ _ | with_reducible apply Below.drew | with_reducible apply below_drewN | with_reducible refine Below.alloc ?_ (by first | omega | (simp <;> omega)) _ | with_reducible refine Below.setCell ?_ (by first | omega | (simp <;> omega)) _ | with_reducible refine Below.trans ?_ (Below.mono (by assumption) (by first | omega | (simp <;> omega)))))
theorem rpick_any (f : Int) (l : 0 ≤ f) (u : f ≤ 255) (h : f < 4) (inv : Bool) (s : Option Addr) (n c : Nat) (a : Nat → BitVec 128) (w : World) (hn : n ≤ 50) (hl : Lst w s n a) :
    Calls Tryd.prog 67 #[.int .u8 f, .bool inv, .slice s n c] w fun e w' => e = .returned (if inv || anyF (cNaN f) a n then .tuple #[.agg #[.int .u64 (hiB (pkB f a n)), .int .u64 (loB (pkB f a n)), .int .u8 (pkF f inv a n)], .bool true] else .tuple #[.agg #[.int .u64 0, .int .u64 0, .int .u8 0], .bool false]) ∧ Gr w w' := by
  rw [← flK_pk]
  rcases hl with rfl | ⟨b0, off, rfl, hb, hc⟩
  · exact rpick_core f l u h inv s 0 c a w 0 0 hn _ _ _ _ (Lib.hid fun h => absurd h (Nat.lt_irrefl _)) (Lib.hid fun i hi => absurd hi (Nat.not_lt_zero _)) (Lib.hid rfl) (Lib.hid rfl) (Lib.hid rfl) (Lib.hid rfl)
  · exact rpick_core f l u h inv _ n c a w b0 off hn _ _ _ _ (Lib.hid fun _ => rfl) (Lib.hid fun i hi => ⟨hb, hc i hi⟩) (Lib.hid rfl) (Lib.hid rfl) (Lib.hid rfl) (Lib.hid rfl)
theorem rpick_yes (f : Int) (l : 0 ≤ f) (u : f ≤ 255) (inv : Bool) (s : Option Addr) (n c : Nat) (a : Nat → BitVec 128) (w : World) (hn : n ≤ 50) (hl : Lst w s n a) (z : BitVec 128) (fl : Int)
    (H : Hid (pkOk f inv a n = true)) (HB : Hid (pkB f a n = z)) (HF : Hid (pkF f inv a n = fl)) :
    Calls Tryd.prog 67 #[.int .u8 f, .bool inv, .slice s n c] w fun e w' => e = .returned (.tuple #[.agg #[.int .u64 (hiB z), .int .u64 (loB z), .int .u8 fl], .bool true]) ∧ Gr w w' := by
  have hH := H.out
  unfold pkOk at hH
  rw [Bool.and_eq_true] at hH
  have h : f < 4 := by have := hH.1; unfold fKn at this; simpa using this
  have := rpick_any f l u h inv s n c a w hn hl
  rw [hH.2, HB.out, HF.out] at this
  exact this
theorem rpick_no (f : Int) (l : 0 ≤ f) (u : f ≤ 255) (inv : Bool) (s : Option Addr) (n c : Nat) (a : Nat → BitVec 128) (w : World) (hn : n ≤ 50) (hl : Lst w s n a) (H : Hid (pkOk f inv a n = false)) :
    Calls Tryd.prog 67 #[.int .u8 f, .bool inv, .slice s n c] w fun e w' => e = .returned (.tuple #[.agg #[.int .u64 0, .int .u64 0, .int .u8 0], .bool false]) ∧ Gr w w' := by
  by_cases h : f < 4
  · have hk : fKn f = true := by unfold fKn; simpa using h
    have hH := H.out
    unfold pkOk at hH
    rw [hk, Bool.true_and] at hH
    have := rpick_any f l u h inv s n c a w hn hl
    rw [hH] at this
    exact this
  · exact rpick_no' f (by omega) inv s n c w
end Hb
end Go.Proofs.YtbelighbkjadkaaDoor
