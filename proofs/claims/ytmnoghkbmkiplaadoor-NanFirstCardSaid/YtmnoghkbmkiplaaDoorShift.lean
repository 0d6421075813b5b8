/-
  THE WALKS of package shift at 128 bits (Left, Right) and of word.Bit. Conditions: none.
-/
import Derived.Test.YtmnoghkbmkiplaaDoorBit
namespace Go.Proofs.YtmnoghkbmkiplaaDoor
open Go.RowKit
namespace Hb
theorem left_any (x : BitVec 128) (k : Int) (w : World) :
    Calls Tryd.prog 16 #[Bv x, .int .i64 k] w fun e w' => e = .returned (Bv (bShl x k)) ∧ Gr w w' := by
  by_cases h0 : 0 ≤ k
  · rw [← bShf_up x k h0]
    simp only [Bv]
    go_enter Tryd.func16, Tryd.ntmps16
    go_wp2_with (first
      | (go_at_call 28; go_in)
      | (go_at_call 27; refine (moved_any _ x _ _ (by simp) (by simp [go_sem]) (by simp [go_sem]) (by omega)).mono ?_; rintro e w1 ⟨rfl, hb1⟩; obtain ⟨hc, hf⟩ := bcell hb1; have hz := hb1.size; simp at hz))
    all_goals simp [bodyPost, results, Tryd.results16, go_sem, hc]
    all_goals (repeat (first | exact Below.refl _ _ | assumption | apply Below.drew | apply below_drewN | refine Below.alloc ?_ (by first | omega | (simp <;> omega)) _ | refine Below.setCell ?_ (by first | omega | (simp <;> omega)) _ | refine Below.trans ?_ (Below.mono (by assumption) (by first | omega | (simp <;> omega)))))
  · have e : bShl x k = bShf x 0 := by rw [bShf_up x 0 (by decide)]; unfold bShl; rw [show k.toNat = (0 : Int).toNat by omega]
    rw [e]
    simp only [Bv]
    go_enter Tryd.func16, Tryd.ntmps16
    go_wp2_with (first
      | (go_at_call 28; go_in)
      | (go_at_call 27; refine (moved_any _ x _ _ (by simp) (by simp [go_sem]) (by simp [go_sem]) (by omega)).mono ?_; rintro e w1 ⟨rfl, hb1⟩; obtain ⟨hc, hf⟩ := bcell hb1; have hz := hb1.size; simp at hz))
    all_goals simp [bodyPost, results, Tryd.results16, go_sem, hc]
    all_goals (repeat (first | exact Below.refl _ _ | assumption | apply Below.drew | apply below_drewN | refine Below.alloc ?_ (by first | omega | (simp <;> omega)) _ | refine Below.setCell ?_ (by first | omega | (simp <;> omega)) _ | refine Below.trans ?_ (Below.mono (by assumption) (by first | omega | (simp <;> omega)))))

theorem right_core (x : BitVec 128) (k m : Int) (hm : (0 ≤ k ∧ k ≤ 128 ∧ m = -k) ∨ (k < 0 ∧ m = 0) ∨ (128 < k ∧ m = -128)) (w : World) :
    Calls Tryd.prog 31 #[Bv x, .int .i64 k] w fun e w' => e = .returned (Bv (bShf x m)) ∧ Gr w w' := by
  simp only [Bv]
  rcases hm with ⟨h0, h1, rfl⟩ | ⟨h0, rfl⟩ | ⟨h0, rfl⟩
  all_goals
    go_enter Tryd.func31, Tryd.ntmps31
    go_wp2_with (first
      | (go_at_call 28; go_in)
      | (go_at_call 27; refine (moved_any _ x _ _ (by simp) (by simp [go_sem]) (by simp [go_sem]) (by omega)).mono ?_; rintro e w1 ⟨rfl, hb1⟩; obtain ⟨hc, hf⟩ := bcell hb1; have hz := hb1.size; simp at hz))
    all_goals simp [bodyPost, results, Tryd.results31, go_sem, hc]
    all_goals (repeat (first | exact Below.refl _ _ | assumption | apply Below.drew | apply below_drewN | refine Below.alloc ?_ (by first | omega | (simp <;> omega)) _ | refine Below.setCell ?_ (by first | omega | (simp <;> omega)) _ | refine Below.trans ?_ (Below.mono (by assumption) (by first | omega | (simp <;> omega)))))
theorem right_any (x : BitVec 128) (k : Int) (w : World) :
    Calls Tryd.prog 31 #[Bv x, .int .i64 k] w fun e w' => e = .returned (Bv (bShr x k)) ∧ Gr w w' := by
  by_cases h0 : 0 ≤ k
  · by_cases h1 : k ≤ 128
    · rw [← bShf_down x k h0]; exact right_core x k _ (.inl ⟨h0, h1, rfl⟩) w
    · rw [bShr_far x k (by omega), ← bShf_down x 128 (by decide)]; exact right_core x k _ (.inr (.inr ⟨by omega, rfl⟩)) w
  · have e : bShr x k = bShf x 0 := by rw [bShf_up x 0 (by decide)]; unfold bShl bShr; rw [show k.toNat = 0 by omega]; simp
    rw [e]; exact right_core x k _ (.inr (.inl ⟨by omega, rfl⟩)) w

theorem and_one (a : Int) (h0 : 0 ≤ a) (h1 : a < 18446744073709551616) : (bits BinOp.and IntKind.u64 a 1 == 1) = decide (a % 2 = 1) := by
  obtain ⟨m, rfl⟩ := Int.eq_ofNat_of_zero_le h0
  have := u64_and_nat m 1 (by omega) (by decide)
  rw [show ((1 : Nat) : Int) = 1 from rfl] at this
  rw [this, nat_mask1, Bool.eq_iff_iff]
  simp only [beq_iff_eq, decide_eq_true_eq]
  omega
theorem bit_hi (x : BitVec 128) (i : Int) (h0 : 64 ≤ i) : bBit x i = (bits BinOp.and IntKind.u64 (hiB x / 2 ^ (i - 64).toNat) 1 == 1) := by
  obtain ⟨m, rfl⟩ := Int.eq_ofNat_of_zero_le (show 0 ≤ i by omega)
  have hw := hiB_word x
  have e0 : hiB x / 2 ^ ((m : Int) - 64).toNat = ((x.toNat / 18446744073709551616 / 2 ^ (m - 64) : Nat) : Int) := by
    unfold hiB; rw [show ((m : Int) - 64).toNat = m - 64 by omega]; simp
  have hlt : x.toNat / 18446744073709551616 / 2 ^ (m - 64) < 18446744073709551616 := Nat.lt_of_le_of_lt (Nat.div_le_self _ _) (by have := x.isLt; omega)
  rw [e0, and_one _ (Int.natCast_nonneg _) (Int.ofNat_lt.mpr hlt)]
  unfold bBit
  rw [Int.toNat_natCast, BitVec.getLsbD, Nat.testBit_eq_decide_div_mod_eq, Bool.eq_iff_iff]
  have e1 : x.toNat / 2 ^ m = x.toNat / 18446744073709551616 / 2 ^ (m - 64) := by
    rw [Nat.div_div_eq_div_mul, show (18446744073709551616 : Nat) = 2 ^ 64 from rfl, ← Nat.pow_add]; congr 2; omega
  rw [e1]
  generalize x.toNat / 18446744073709551616 / 2 ^ (m - 64) = X
  simp only [Bool.and_eq_true, decide_eq_true_eq]
  omega
theorem bit_lo (x : BitVec 128) (i : Int) (h0 : 0 ≤ i) (h1 : i < 64) : bBit x i = (bits BinOp.and IntKind.u64 (loB x / 2 ^ i.toNat) 1 == 1) := by
  obtain ⟨m, rfl⟩ := Int.eq_ofNat_of_zero_le h0
  have e0 : loB x / 2 ^ (m : Int).toNat = ((x.toNat % 18446744073709551616 / 2 ^ m : Nat) : Int) := by
    unfold loB; rw [Int.toNat_natCast]; simp
  have hlt : x.toNat % 18446744073709551616 / 2 ^ m < 18446744073709551616 := Nat.lt_of_le_of_lt (Nat.div_le_self _ _) (by omega)
  rw [e0, and_one _ (Int.natCast_nonneg _) (Int.ofNat_lt.mpr hlt)]
  unfold bBit
  rw [Int.toNat_natCast, BitVec.getLsbD, Bool.eq_iff_iff]
  have e1 : x.toNat.testBit m = (x.toNat % 2 ^ 64).testBit m := by rw [Nat.testBit_mod_two_pow]; simp; omega
  rw [e1, Nat.testBit_eq_decide_div_mod_eq]
  rw [show (2 : Nat) ^ 64 = 18446744073709551616 from rfl]
  generalize x.toNat % 18446744073709551616 / 2 ^ m = X
  simp only [Bool.and_eq_true, decide_eq_true_eq]
  omega
theorem bit_any (x : BitVec 128) (i : Int) (h0 : 0 ≤ i) (h1 : i ≤ 127) (w : World) :
    Calls Tryd.prog 21 #[Bv x, .int .i64 i] w fun e w' => e = .returned (.bool (bBit x i)) ∧ Gr w w' := by
  by_cases h : 64 ≤ i
  · rw [bit_hi x i h]
    simp only [Bv]
    go_enter Tryd.func21, Tryd.ntmps21
    go_wp2
    go_ret
    exact ⟨rfl, (Below.refl _ _).alloc (Nat.le_refl _) _⟩
  · rw [bit_lo x i h0 (by omega)]
    simp only [Bv]
    go_enter Tryd.func21, Tryd.ntmps21
    go_wp2
    go_ret
    exact ⟨rfl, (Below.refl _ _).alloc (Nat.le_refl _) _⟩
end Hb
end Go.Proofs.YtmnoghkbmkiplaaDoor
