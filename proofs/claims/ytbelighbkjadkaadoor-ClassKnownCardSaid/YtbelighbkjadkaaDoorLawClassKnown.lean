/-
  THE WALK of the law ClassKnown. Conditions: the table of the formats holds its numbers.
-/
import Derived.Test.YtbelighbkjadkaaDoorGoes8
import Derived.Test.YtbelighbkjadkaaDoorAny
import Derived.Test.YtbelighbkjadkaaDoorTail
namespace Go.Proofs.YtbelighbkjadkaaDoor
open Go.RowKit
namespace Hb
set_option maxRecDepth 20000
/-- Each class of each format: the law's seven numbers, their classes, their signs. -/
theorem ck_plain (f : Int) (l : 0 ≤ f) (h : f < 4) : (cOf f (fNou f true) = 0 ∧ fNeg f (fNou f true) = true) ∧ (cOf f (mkB 0 1) = 1 ∧ fNeg f (mkB 0 1) = false) ∧ (cOf f (fMake f true 1 (mkB 0 1)) = 2 ∧ fNeg f (fMake f true 1 (mkB 0 1)) = true) ∧ (cOf f (fMax f false) = 2 ∧ fNeg f (fMax f false) = false) ∧ (cOf f (fInf f true) = 3 ∧ fNeg f (fInf f true) = true) ∧ (cOf f (fMake f false (2 * fEm f + 1) (mkB 0 1)) = 5 ∧ fNeg f (fMake f false (2 * fEm f + 1) (mkB 0 1)) = false) ∧ (cOf f (fMake f true (2 * fEm f + 1) (bShl (mkB 0 1) (fPr f - 2))) = 4 ∧ fNeg f (fMake f true (2 * fEm f + 1) (bShl (mkB 0 1) (fPr f - 2))) = true) := by
  rcases f_four f l h with rfl | rfl | rfl | rfl <;> decide +kernel
/-- The worlds of the inner loop. -/
def KnAt (w : World) (L K : Nat) (Z0 Z1 Z2 Z3 Z4 Z5 Z6 : BitVec 128) (wx : World) : Prop :=
  Below w.heap.size w wx ∧ L < wx.heap.size ∧ K < wx.heap.size ∧ (wx.cell? ⟨L, 0, none⟩ = some (.int .u64 (hiB Z0)) ∧ wx.cell? ⟨L, 1, none⟩ = some (.int .u64 (loB Z0))) ∧ (wx.cell? ⟨L, 2, none⟩ = some (.int .u64 (hiB Z1)) ∧ wx.cell? ⟨L, 3, none⟩ = some (.int .u64 (loB Z1))) ∧ (wx.cell? ⟨L, 4, none⟩ = some (.int .u64 (hiB Z2)) ∧ wx.cell? ⟨L, 5, none⟩ = some (.int .u64 (loB Z2))) ∧ (wx.cell? ⟨L, 6, none⟩ = some (.int .u64 (hiB Z3)) ∧ wx.cell? ⟨L, 7, none⟩ = some (.int .u64 (loB Z3))) ∧ (wx.cell? ⟨L, 8, none⟩ = some (.int .u64 (hiB Z4)) ∧ wx.cell? ⟨L, 9, none⟩ = some (.int .u64 (loB Z4))) ∧ (wx.cell? ⟨L, 10, none⟩ = some (.int .u64 (hiB Z5)) ∧ wx.cell? ⟨L, 11, none⟩ = some (.int .u64 (loB Z5))) ∧ (wx.cell? ⟨L, 12, none⟩ = some (.int .u64 (hiB Z6)) ∧ wx.cell? ⟨L, 13, none⟩ = some (.int .u64 (loB Z6))) ∧ wx.cell? ⟨K, 0, none⟩ = some (.int .u8 0) ∧ wx.cell? ⟨K, 1, none⟩ = some (.int .u8 1) ∧ wx.cell? ⟨K, 2, none⟩ = some (.int .u8 2) ∧ wx.cell? ⟨K, 3, none⟩ = some (.int .u8 2) ∧ wx.cell? ⟨K, 4, none⟩ = some (.int .u8 3) ∧ wx.cell? ⟨K, 5, none⟩ = some (.int .u8 5) ∧ wx.cell? ⟨K, 6, none⟩ = some (.int .u8 4)
theorem KnAt.next {w : World} {L K : Nat} {Z0 Z1 Z2 Z3 Z4 Z5 Z6 : BitVec 128} {wx wy : World} (h : KnAt w L K Z0 Z1 Z2 Z3 Z4 Z5 Z6 wx) (hb : Below wx.heap.size wx wy) : KnAt w L K Z0 Z1 Z2 Z3 Z4 Z5 Z6 wy := by
  obtain ⟨h0, h1, h2, ⟨a0, b0⟩, ⟨a1, b1⟩, ⟨a2, b2⟩, ⟨a3, b3⟩, ⟨a4, b4⟩, ⟨a5, b5⟩, ⟨a6, b6⟩, k0, k1, k2, k3, k4, k5, k6⟩ := h
  have hc := fun (b o : Nat) (h : b < wx.heap.size) => hb.cell (p := ⟨b, o, none⟩) h
  exact ⟨h0.trans (hb.mono h0.size), Nat.lt_of_lt_of_le h1 hb.size, Nat.lt_of_lt_of_le h2 hb.size, ⟨(hc _ _ h1).trans a0, (hc _ _ h1).trans b0⟩, ⟨(hc _ _ h1).trans a1, (hc _ _ h1).trans b1⟩, ⟨(hc _ _ h1).trans a2, (hc _ _ h1).trans b2⟩, ⟨(hc _ _ h1).trans a3, (hc _ _ h1).trans b3⟩, ⟨(hc _ _ h1).trans a4, (hc _ _ h1).trans b4⟩, ⟨(hc _ _ h1).trans a5, (hc _ _ h1).trans b5⟩, ⟨(hc _ _ h1).trans a6, (hc _ _ h1).trans b6⟩, (hc _ _ h2).trans k0, (hc _ _ h2).trans k1, (hc _ _ h2).trans k2, (hc _ _ h2).trans k3, (hc _ _ h2).trans k4, (hc _ _ h2).trans k5, (hc _ _ h2).trans k6⟩
theorem nou_as (f : Int) (l : 0 ≤ f) (u : f ≤ 255) (N : Bool) (z : BitVec 128) (H : Hid (fNou f N = z)) (w : World) (hT : Tab w) :
    Calls Tryd.prog 55 #[.int .u8 f, .bool N] w fun e w' => e = .returned (Bv z) ∧ Gr w w' := by
  obtain rfl := H.out; exact nought_any f l u N w hT
theorem mx_as (f : Int) (l : 0 ≤ f) (u : f ≤ 255) (N : Bool) (z : BitVec 128) (H : Hid (fMax f N = z)) (w : World) (hT : Tab w) :
    Calls Tryd.prog 53 #[.int .u8 f, .bool N] w fun e w' => e = .returned (Bv z) ∧ Gr w w' := by
  obtain rfl := H.out; exact max_any f l u N w hT
theorem make_one (f : Int) (l : 0 ≤ f) (u : f ≤ 255) (N : Bool) (E : Int) (z : BitVec 128) (H : Hid (fMake f N E (mkB 0 1) = z)) (w : World) (hT : Tab w) :
    Calls Tryd.prog 18 #[.int .u8 f, .bool N, .int .i64 E, .agg #[.int .u64 0, .int .u64 1]] w fun e w' => e = .returned (Bv z) ∧ Gr w w' := by
  have := make_as f l u N E (mkB 0 1) z H w hT
  rw [bv_mk 0 1 wd0 wd1] at this
  exact this
set_option maxHeartbeats 8000000 in
theorem walk_classKnown (w : World) (hT : Tab w) : Calls Tryd.prog 9 #[] w fun e w' => e = .returned (.bool true) ∧ Gr w w' := by
  go_enter Tryd.func9, Tryd.ntmps9
  go_wp2
  go_loopw [1] (fun v1 wr => ∃ f : Int, 0 ≤ f ∧ f ≤ 4 ∧ v1 = .int .u8 f ∧ Hid (Below w.heap.size w wr)) (fun v1 _ => (4 - intOf v1).toNat)
  case atStart => exact ⟨0, by decide, by decide, rfl, Lib.hid (Below.refl _ _)⟩
  case round =>
    obtain ⟨f, l, u4, rfl, HB⟩ := hrel
    have hbr := HB.out
    have hszr := hbr.size
    by_cases h : f < 4
    · have hp := ck_plain f l h
      have hb := f_bounds f l h
      have u : f ≤ 255 := by omega
      have h3 : f ≤ 3 := by omega
      obtain ⟨M, hM⟩ : ∃ M, fEm f = M := ⟨_, rfl⟩
      obtain ⟨P, hP⟩ : ∃ P, fPr f = P := ⟨_, rfl⟩
      rw [hM, hP] at hp hb
      obtain ⟨T, hT'⟩ : ∃ T, bShl (mkB 0 1) (P - 2) = T := ⟨_, rfl⟩
      rw [hT'] at hp
      obtain ⟨Z0, hZ0⟩ : ∃ Z, fNou f true = Z := ⟨_, rfl⟩
      rw [hZ0] at hp
      obtain ⟨Z2, hZ2⟩ : ∃ Z, fMake f true 1 (mkB 0 1) = Z := ⟨_, rfl⟩
      rw [hZ2] at hp
      obtain ⟨Z3, hZ3⟩ : ∃ Z, fMax f false = Z := ⟨_, rfl⟩
      rw [hZ3] at hp
      obtain ⟨Z4, hZ4⟩ : ∃ Z, fInf f true = Z := ⟨_, rfl⟩
      rw [hZ4] at hp
      obtain ⟨Z5, hZ5⟩ : ∃ Z, fMake f false (2 * M + 1) (mkB 0 1) = Z := ⟨_, rfl⟩
      rw [hZ5] at hp
      obtain ⟨Z6, hZ6⟩ : ∃ Z, fMake f true (2 * M + 1) T = Z := ⟨_, rfl⟩
      rw [hZ6] at hp
      obtain ⟨Z1, hZ1⟩ : ∃ Z, mkB 0 1 = Z := ⟨_, rfl⟩
      have h1h : hiB Z1 = 0 ∧ loB Z1 = 1 := by rw [← hZ1]; exact ⟨hiB_mk 0 1 wd0 wd1, loB_mk 0 1 wd0 wd1⟩
      rw [hZ1] at hp
      obtain ⟨q0, q1, q2, q3, q4, q5, q6⟩ := hp
      have K0 := Lib.hid q0
      have K1 := Lib.hid q1
      have K2 := Lib.hid q2
      have K3 := Lib.hid q3
      have K4 := Lib.hid q4
      have K5 := Lib.hid q5
      have K6 := Lib.hid q6
      have HZ0 := Lib.hid hZ0
      have HZ2 := Lib.hid hZ2
      have HZ3 := Lib.hid hZ3
      have HZ4 := Lib.hid hZ4
      have HZ5 := Lib.hid hZ5
      have HZ6 := Lib.hid hZ6
      have H1 := Lib.hid h1h
      have HM := Lib.hid hM
      have HP := Lib.hid hP
      have HT' := Lib.hid hT'
      obtain ⟨_, _, p0, p1, m0, m1, _, _⟩ := hb
      have hm0 : 0 ≤ M := by omega
      clear hM hP hT' h1h hZ1 q0 q1 q2 q3 q4 q5 q6 hZ0 hZ2 hZ3 hZ4 hZ5 hZ6

      go_wp2_with (first
        | (go_at_call 47; refine (emax_as f l u M HM _ (hT.below (by (repeat (first | with_reducible assumption | with_reducible exact Below.refl _ _ | with_reducible apply Below.drew | with_reducible apply below_drewN | with_reducible refine Below.alloc ?_ (by first | omega | (simp <;> omega)) _ | with_reducible refine Below.setCell ?_ (by first | omega | (simp <;> omega)) _ | with_reducible refine Below.trans ?_ (Below.mono (by assumption) (by first | omega | (simp <;> omega)))))))).mono ?_; rintro e w1 ⟨rfl, hb1⟩; (try (with_reducible replace hb1 := undrew hb1)); obtain ⟨hc1, hf1⟩ := bcell hb1; have hs1 := hb1.size; (try simp at hs1); (try have y1_0_0 : wr.heap.size < w1.heap.size := (by omega))))
      have x1 := IntWalk.i64_in (P - 2) (by omega)
      refine wp_region_past_tail 22 (fun y => Tab y ∧ y.cell? ⟨wr.heap.size, 0, none⟩ = some (.int .u64 0) ∧ y.cell? ⟨wr.heap.size, 1, none⟩ = some (.int .u64 1)) (by kernel_rfl) (by kernel_rfl) (fun wx hbx => ?_) (fun TT hne tw hh hx => ?_)
      · obtain ⟨hcx, _⟩ := bcell hbx
        have hbw : Below w.heap.size w wx := by (repeat (first | with_reducible assumption | with_reducible exact Below.refl _ _ | with_reducible apply Below.drew | with_reducible apply below_drewN | with_reducible refine Below.alloc ?_ (by first | omega | (simp <;> omega)) _ | with_reducible refine Below.setCell ?_ (by first | omega | (simp <;> omega)) _ | with_reducible refine Below.trans ?_ (Below.mono (by assumption) (by first | omega | (simp <;> omega)))))
        refine ⟨hT.below hbw, ?_, ?_⟩ <;> simp [go_sem, *]
      simp only [List.take_succ_cons, List.take_zero, List.drop_succ_cons, List.drop_zero]
      have t1 := fun p => (hh p).2.1
      have t2 := fun p => (hh p).2.2
      repeat (go_big_quiet_step (first
        | (go_at_call 55; exact callsPast hx (nou_as f l u true Z0 HZ0 _ (hh _).1))
        | (go_at_call_of 18 (Value.int IntKind.i64 1); exact callsPast hx (make_one f l u true 1 Z2 HZ2 _ (hh _).1))
        | (go_at_call 53; exact callsPast hx (mx_as f l u false Z3 HZ3 _ (hh _).1))
        | (go_at_call 51; exact callsPast hx (inf_as f l u true Z4 HZ4 _ (hh _).1))
        | (go_at_call_of 18 (Value.bool false); exact callsPast hx (make_one f l u false _ Z5 HZ5 _ (hh _).1))
        | (go_at_call 45; exact callsPast hx (prec_as f l u P HP _ (hh _).1))
        | (go_at_call 57; exact callsPast hx (left_one (P - 2) T HT' _))
        | (go_at_call_of 18 (Value.bool true); exact callsPast hx (make_as f l u true _ T Z6 HZ6 _ (hh _).1))))
      refine wpQuiet_nil ?_
      intro w2 hb2
      clear t1 t2 hh hx x1
      have hs2 := hb2.size
      go_wp2
      go_loopw [6] (fun v6 wq => ∃ k : Nat, k ≤ 7 ∧ v6 = .int .i64 k ∧ Hid (KnAt w w2.heap.size (w2.heap.size + 1) Z0 Z1 Z2 Z3 Z4 Z5 Z6 wq)) (fun v6 _ => 7 - (intOf v6).toNat)
      case atStart =>
        obtain ⟨g1, g2⟩ := H1.out
        refine ⟨0, Nat.zero_le _, rfl, Lib.hid ⟨by (repeat (first | with_reducible assumption | with_reducible exact Below.refl _ _ | with_reducible apply Below.drew | with_reducible apply below_drewN | with_reducible refine Below.alloc ?_ (by first | omega | (simp <;> omega)) _ | with_reducible refine Below.setCell ?_ (by first | omega | (simp <;> omega)) _ | with_reducible refine Below.trans ?_ (Below.mono (by assumption) (by first | omega | (simp <;> omega))))), by simp <;> omega, by simp <;> omega, ⟨?_, ?_⟩, ⟨?_, ?_⟩, ⟨?_, ?_⟩, ⟨?_, ?_⟩, ⟨?_, ?_⟩, ⟨?_, ?_⟩, ⟨?_, ?_⟩, ?_, ?_, ?_, ?_, ?_, ?_, ?_⟩⟩
        all_goals (try rw [g1])
        all_goals (try rw [g2])
        all_goals simp [go_sem]
      case round =>
        obtain ⟨k, hk, rfl, HR⟩ := hrel
        by_cases hlt : k < 7
        · have HR' := HR.out
          obtain ⟨hbq, l1, l2, ⟨a0, b0⟩, ⟨a1, b1⟩, ⟨a2, b2⟩, ⟨a3, b3⟩, ⟨a4, b4⟩, ⟨a5, b5⟩, ⟨a6, b6⟩, k0, k1, k2, k3, k4, k5, k6⟩ := HR'
          have hsq := hbq.size
          obtain ⟨k', hk'⟩ : ∃ k', k' = k + 1 := ⟨_, rfl⟩
          have HK' := Lib.hid hk'
          clear hk'
          rcases (by omega : k = 0 ∨ k = 1 ∨ k = 2 ∨ k = 3 ∨ k = 4 ∨ k = 5 ∨ k = 6) with rfl | rfl | rfl | rfl | rfl | rfl | rfl
          all_goals

            go_wp2_with (first
              | (go_at_call_of 33 (hiB Z0); refine (clof_as f l u Z0 _ _ K0 _ (hT.below (by (repeat (first | with_reducible assumption | with_reducible exact Below.refl _ _ | with_reducible apply Below.drew | with_reducible apply below_drewN | with_reducible refine Below.alloc ?_ (by first | omega | (simp <;> omega)) _ | with_reducible refine Below.setCell ?_ (by first | omega | (simp <;> omega)) _ | with_reducible refine Below.trans ?_ (Below.mono (by assumption) (by first | omega | (simp <;> omega)))))))).mono ?_; rintro e w3 ⟨rfl, hb3⟩; (try (with_reducible replace hb3 := undrew hb3)); obtain ⟨hc3, hf3⟩ := bcell hb3; have hs3 := hb3.size; (try simp at hs3))
              | (go_at_call_of 33 (hiB Z1); refine (clof_as f l u Z1 _ _ K1 _ (hT.below (by (repeat (first | with_reducible assumption | with_reducible exact Below.refl _ _ | with_reducible apply Below.drew | with_reducible apply below_drewN | with_reducible refine Below.alloc ?_ (by first | omega | (simp <;> omega)) _ | with_reducible refine Below.setCell ?_ (by first | omega | (simp <;> omega)) _ | with_reducible refine Below.trans ?_ (Below.mono (by assumption) (by first | omega | (simp <;> omega)))))))).mono ?_; rintro e w31 ⟨rfl, hb31⟩; (try (with_reducible replace hb31 := undrew hb31)); obtain ⟨hc31, hf31⟩ := bcell hb31; have hs31 := hb31.size; (try simp at hs31))
              | (go_at_call_of 33 (hiB Z2); refine (clof_as f l u Z2 _ _ K2 _ (hT.below (by (repeat (first | with_reducible assumption | with_reducible exact Below.refl _ _ | with_reducible apply Below.drew | with_reducible apply below_drewN | with_reducible refine Below.alloc ?_ (by first | omega | (simp <;> omega)) _ | with_reducible refine Below.setCell ?_ (by first | omega | (simp <;> omega)) _ | with_reducible refine Below.trans ?_ (Below.mono (by assumption) (by first | omega | (simp <;> omega)))))))).mono ?_; rintro e w32 ⟨rfl, hb32⟩; (try (with_reducible replace hb32 := undrew hb32)); obtain ⟨hc32, hf32⟩ := bcell hb32; have hs32 := hb32.size; (try simp at hs32))
              | (go_at_call_of 33 (hiB Z3); refine (clof_as f l u Z3 _ _ K3 _ (hT.below (by (repeat (first | with_reducible assumption | with_reducible exact Below.refl _ _ | with_reducible apply Below.drew | with_reducible apply below_drewN | with_reducible refine Below.alloc ?_ (by first | omega | (simp <;> omega)) _ | with_reducible refine Below.setCell ?_ (by first | omega | (simp <;> omega)) _ | with_reducible refine Below.trans ?_ (Below.mono (by assumption) (by first | omega | (simp <;> omega)))))))).mono ?_; rintro e w33 ⟨rfl, hb33⟩; (try (with_reducible replace hb33 := undrew hb33)); obtain ⟨hc33, hf33⟩ := bcell hb33; have hs33 := hb33.size; (try simp at hs33))
              | (go_at_call_of 33 (hiB Z4); refine (clof_as f l u Z4 _ _ K4 _ (hT.below (by (repeat (first | with_reducible assumption | with_reducible exact Below.refl _ _ | with_reducible apply Below.drew | with_reducible apply below_drewN | with_reducible refine Below.alloc ?_ (by first | omega | (simp <;> omega)) _ | with_reducible refine Below.setCell ?_ (by first | omega | (simp <;> omega)) _ | with_reducible refine Below.trans ?_ (Below.mono (by assumption) (by first | omega | (simp <;> omega)))))))).mono ?_; rintro e w34 ⟨rfl, hb34⟩; (try (with_reducible replace hb34 := undrew hb34)); obtain ⟨hc34, hf34⟩ := bcell hb34; have hs34 := hb34.size; (try simp at hs34))
              | (go_at_call_of 33 (hiB Z5); refine (clof_as f l u Z5 _ _ K5 _ (hT.below (by (repeat (first | with_reducible assumption | with_reducible exact Below.refl _ _ | with_reducible apply Below.drew | with_reducible apply below_drewN | with_reducible refine Below.alloc ?_ (by first | omega | (simp <;> omega)) _ | with_reducible refine Below.setCell ?_ (by first | omega | (simp <;> omega)) _ | with_reducible refine Below.trans ?_ (Below.mono (by assumption) (by first | omega | (simp <;> omega)))))))).mono ?_; rintro e w35 ⟨rfl, hb35⟩; (try (with_reducible replace hb35 := undrew hb35)); obtain ⟨hc35, hf35⟩ := bcell hb35; have hs35 := hb35.size; (try simp at hs35))
              | (go_at_call_of 33 (hiB Z6); refine (clof_as f l u Z6 _ _ K6 _ (hT.below (by (repeat (first | with_reducible assumption | with_reducible exact Below.refl _ _ | with_reducible apply Below.drew | with_reducible apply below_drewN | with_reducible refine Below.alloc ?_ (by first | omega | (simp <;> omega)) _ | with_reducible refine Below.setCell ?_ (by first | omega | (simp <;> omega)) _ | with_reducible refine Below.trans ?_ (Below.mono (by assumption) (by first | omega | (simp <;> omega)))))))).mono ?_; rintro e w36 ⟨rfl, hb36⟩; (try (with_reducible replace hb36 := undrew hb36)); obtain ⟨hc36, hf36⟩ := bcell hb36; have hs36 := hb36.size; (try simp at hs36)))
            go_roundw
            case rel => exact ⟨k', by have := HK'.out; omega, by rw [HK'.out]; go_num, Lib.hid (HR.out.next (by (repeat (first | with_reducible assumption | with_reducible exact Below.refl _ _ | with_reducible apply Below.drew | with_reducible apply below_drewN | with_reducible refine Below.alloc ?_ (by first | omega | (simp <;> omega)) _ | with_reducible refine Below.setCell ?_ (by first | omega | (simp <;> omega)) _ | with_reducible refine Below.trans ?_ (Below.mono (by assumption) (by first | omega | (simp <;> omega)))))))⟩
            case measure => simp [intOf]
        · obtain rfl : k = 7 := by omega
          have hbq := HR.out.1
          go_wp2
          go_roundw
          case rel => exact ⟨f + 1, by omega, by omega, rfl, Lib.hid hbq⟩
          case measure => simp [intOf]; omega
    · obtain rfl : f = 4 := by omega
      clear h

      go_wp2_with (first
        | (go_at_call 33; refine (clof_hl 4 (by decide) (by decide) 0 5 wd0 ⟨by decide, by decide⟩ 0 false (Lib.hid (by decide +kernel)) _ (hT.below (by (repeat (first | with_reducible assumption | with_reducible exact Below.refl _ _ | with_reducible apply Below.drew | with_reducible apply below_drewN | with_reducible refine Below.alloc ?_ (by first | omega | (simp <;> omega)) _ | with_reducible refine Below.setCell ?_ (by first | omega | (simp <;> omega)) _ | with_reducible refine Below.trans ?_ (Below.mono (by assumption) (by first | omega | (simp <;> omega)))))))).mono ?_; rintro e w4 ⟨rfl, hb4⟩; (try (with_reducible replace hb4 := undrew hb4)); obtain ⟨hc4, hf4⟩ := bcell hb4; have hs4 := hb4.size; (try simp at hs4))
        | (go_at_call 35; refine (nan_hl 4 (by decide) (by decide) 0 0 wd0 wd0 false (Lib.hid (by decide +kernel)) _ (hT.below (by (repeat (first | with_reducible assumption | with_reducible exact Below.refl _ _ | with_reducible apply Below.drew | with_reducible apply below_drewN | with_reducible refine Below.alloc ?_ (by first | omega | (simp <;> omega)) _ | with_reducible refine Below.setCell ?_ (by first | omega | (simp <;> omega)) _ | with_reducible refine Below.trans ?_ (Below.mono (by assumption) (by first | omega | (simp <;> omega)))))))).mono ?_; rintro e w5 ⟨rfl, hb5⟩; (try (with_reducible replace hb5 := undrew hb5)); obtain ⟨hc5, hf5⟩ := bcell hb5; have hs5 := hb5.size; (try simp at hs5))
        | (go_at_call 39; refine (fin_hl 4 (by decide) (by decide) 0 0 wd0 wd0 false (Lib.hid (by decide +kernel)) _ (hT.below (by (repeat (first | with_reducible assumption | with_reducible exact Below.refl _ _ | with_reducible apply Below.drew | with_reducible apply below_drewN | with_reducible refine Below.alloc ?_ (by first | omega | (simp <;> omega)) _ | with_reducible refine Below.setCell ?_ (by first | omega | (simp <;> omega)) _ | with_reducible refine Below.trans ?_ (Below.mono (by assumption) (by first | omega | (simp <;> omega)))))))).mono ?_; rintro e w6 ⟨rfl, hb6⟩; (try (with_reducible replace hb6 := undrew hb6)); obtain ⟨hc6, hf6⟩ := bcell hb6; have hs6 := hb6.size; (try simp at hs6))
        | (go_at_call 56; refine (anyNaN_at 0 (by decide) (by decide) none 0 0 (fun _ => 0#128) false (Lib.hid rfl) _ (hT.below (by (repeat (first | with_reducible assumption | with_reducible exact Below.refl _ _ | with_reducible apply Below.drew | with_reducible apply below_drewN | with_reducible refine Below.alloc ?_ (by first | omega | (simp <;> omega)) _ | with_reducible refine Below.setCell ?_ (by first | omega | (simp <;> omega)) _ | with_reducible refine Below.trans ?_ (Below.mono (by assumption) (by first | omega | (simp <;> omega))))))) (by decide) (.inl rfl)).mono ?_; rintro e w7 ⟨rfl, hb7⟩; (try (with_reducible replace hb7 := undrew hb7)); obtain ⟨hc7, hf7⟩ := bcell hb7; have hs7 := hb7.size; (try simp at hs7))
        | (go_at_call 40; refine (goes8_any _ (hT.below (by (repeat (first | with_reducible assumption | with_reducible exact Below.refl _ _ | with_reducible apply Below.drew | with_reducible apply below_drewN | with_reducible refine Below.alloc ?_ (by first | omega | (simp <;> omega)) _ | with_reducible refine Below.setCell ?_ (by first | omega | (simp <;> omega)) _ | with_reducible refine Below.trans ?_ (Below.mono (by assumption) (by first | omega | (simp <;> omega)))))))).mono ?_; rintro e w8 ⟨rfl, hb8⟩; (try (with_reducible replace hb8 := undrew hb8)); obtain ⟨hc8, hf8⟩ := bcell hb8; have hs8 := hb8.size; (try simp at hs8)))
      go_ret
      exact ⟨rfl, by (repeat (first | with_reducible assumption | with_reducible exact Below.refl _ _ | with_reducible apply Below.drew | with_reducible apply below_drewN | with_reducible refine Below.alloc ?_ (by first | omega | (simp <;> omega)) _ | with_reducible refine Below.setCell ?_ (by first | omega | (simp <;> omega)) _ | with_reducible refine Below.trans ?_ (Below.mono (by assumption) (by first | omega | (simp <;> omega)))))⟩
end Hb
end Go.Proofs.YtbelighbkjadkaaDoor
