/-
  THE PLAIN PART OF package count: how long a number is, how many bits at its end are 0, what it is when it is raised. No program in sight. No conditions.
-/
import Derived.Test.YtbkkidgeanogjaaDoorWidePlain
import Derived.Test.YtbkkidgeanogjaaDoorRefPlain
import Derived.Lib.TrailingZeros
import Derived.Lib.BitFns
namespace Go.Proofs.YtbkkidgeanogjaaDoor
namespace Hb
theorem blen_zero : blen 0 = 0 := rfl
theorem blen_pos {n : Nat} (h : n ≠ 0) : 1 ≤ blen n := by
  unfold blen; rw [if_neg h]; omega
theorem blen_lt (n : Nat) : n < 2 ^ blen n := (blen_le n _).1 (Nat.le_refl _)
theorem blen_ge {n : Nat} (h : n ≠ 0) : 2 ^ (blen n - 1) ≤ n := by
  have hp := blen_pos h
  refine Nat.le_of_not_lt fun hlt => ?_
  have := (blen_le n _).2 hlt
  omega
theorem blen_of {n k : Nat} (h0 : 2 ^ k ≤ n) (h1 : n < 2 ^ (k + 1)) : blen n = k + 1 := by
  have a := (blen_le n (k + 1)).2 h1
  have b : ¬ blen n ≤ k := fun hb => by have := (blen_le n k).1 hb; omega
  omega
theorem blen_half {n : Nat} (h : n ≠ 0) : blen n = 1 + blen (n / 2) := by
  have e : ∀ k, blen n ≤ k + 1 ↔ blen (n / 2) ≤ k := fun k => by rw [blen_le, blen_le, Nat.pow_succ]; omega
  have hp := blen_pos h
  have h1 := (e (blen (n / 2))).2 (Nat.le_refl _)
  have h2 := (e (blen n - 1)).1 (by omega)
  omega
theorem bitLenAux_blen : ∀ (f x : Nat), x < 2 ^ f → Lib.bitLenAux f x = blen x
  | 0, x, h => by have : x = 0 := by simpa using h
                  subst this; rfl
  | f + 1, x, h => by
    unfold Lib.bitLenAux
    by_cases h0 : x = 0
    · subst h0; rfl
    · rw [if_neg h0, bitLenAux_blen f (x / 2) (by rw [Nat.pow_succ] at h; omega), blen_half h0]
theorem bitLen_blen (x : Nat) (h : x < 2 ^ 64) : Lib.bitLen x = blen x := bitLenAux_blen 64 x h
/-- Shifted up, with something below. -/
theorem blen_up {h l k : Nat} (hh : h ≠ 0) (hl : l < 2 ^ k) : blen (h * 2 ^ k + l) = k + blen h := by
  have hp := blen_pos hh
  have a := blen_lt h
  have b := blen_ge hh
  obtain ⟨j, hj⟩ : ∃ j, blen h = j + 1 := ⟨blen h - 1, by omega⟩
  rw [hj] at a b ⊢
  rw [Nat.add_sub_cancel] at b
  have e1 : 2 ^ (k + j) = 2 ^ j * 2 ^ k := by rw [Nat.pow_add, Nat.mul_comm]
  have e2 : 2 ^ (k + j + 1) = 2 ^ (j + 1) * 2 ^ k := by rw [Nat.add_assoc, Nat.pow_add, Nat.mul_comm]
  have c1 := Nat.mul_le_mul_right (2 ^ k) b
  have c2 := Nat.mul_le_mul_right (2 ^ k) (show h + 1 ≤ 2 ^ (j + 1) by omega)
  rw [Nat.add_mul, Nat.one_mul] at c2
  rw [show k + (j + 1) = k + j + 1 by omega]
  exact blen_of (by omega) (by omega)
theorem blen_shl {h k : Nat} (hh : h ≠ 0) : blen (h * 2 ^ k) = k + blen h := by
  have := blen_up (l := 0) hh (Nat.two_pow_pos k)
  rwa [Nat.add_zero] at this
theorem blen_mono {a b : Nat} (h : a ≤ b) : blen a ≤ blen b := (blen_le a _).2 (Nat.lt_of_le_of_lt h (blen_lt b))
theorem blen_lt_lt {a b : Nat} (h : blen a < blen b) : a < b := Nat.lt_of_not_le fun hle => by have := blen_mono hle; omega
/-- A length, as the program hands it back. -/
def wLen (x : BitVec 256) : Int := ((blen x.toNat : Nat) : Int)
def bLen (x : BitVec 128) : Int := ((blen x.toNat : Nat) : Int)
theorem wLen_bounds (x : BitVec 256) : 0 ≤ wLen x ∧ wLen x ≤ 256 := by
  have := (blen_le x.toNat 256).2 x.isLt
  unfold wLen; omega
theorem bLen_bounds (x : BitVec 128) : 0 ≤ bLen x ∧ bLen x ≤ 128 := by
  have := (blen_le x.toNat 128).2 x.isLt
  unfold bLen; omega
/-- The walk's own form: by the highest word that is not 0. -/
def len4 (a0 a1 a2 a3 : Int) : Int :=
  if a3 = 0 then (if a2 = 0 then (if a1 = 0 then (if a0 = 0 then 0 else (Lib.bitLen a0.toNat : Int)) else 64 + (Lib.bitLen a1.toNat : Int)) else 128 + (Lib.bitLen a2.toNat : Int)) else 192 + (Lib.bitLen a3.toNat : Int)
theorem bitLen_nat (n : Nat) (h : n < 18446744073709551616) : Lib.bitLen ((n : Nat) : Int).toNat = blen n := by
  rw [Int.toNat_natCast]; exact bitLen_blen n h
theorem len4_w (x : BitVec 256) : len4 (wq0 x) (wq1 x) (wq2 x) (wq3 x) = wLen x := by
  have hx := x.isLt
  unfold len4 wq0 wq1 wq2 wq3 wLen
  generalize hn : x.toNat = n at *
  rw [bitLen_nat _ (by omega), bitLen_nat _ (by omega), bitLen_nat _ (by omega), bitLen_nat _ (by omega)]
  by_cases h3 : n / 6277101735386680763835789423207666416102355444464034512896 = 0
  · rw [if_pos (by omega)]
    by_cases h2 : n / 340282366920938463463374607431768211456 % 18446744073709551616 = 0
    · rw [if_pos (by omega)]
      by_cases h1 : n / 18446744073709551616 % 18446744073709551616 = 0
      · rw [if_pos (by omega)]
        by_cases h0 : n % 18446744073709551616 = 0
        · rw [if_pos (by omega), show n = 0 by omega]; rfl
        · rw [if_neg (by omega), show n % 18446744073709551616 = n by omega]
      · rw [if_neg (by omega)]
        have := blen_up (h := n / 18446744073709551616 % 18446744073709551616) (l := n % 18446744073709551616) (k := 64) h1 (by omega)
        rw [show n / 18446744073709551616 % 18446744073709551616 * 2 ^ 64 + n % 18446744073709551616 = n by omega] at this
        omega
    · rw [if_neg (by omega)]
      have := blen_up (h := n / 340282366920938463463374607431768211456 % 18446744073709551616) (l := n % 340282366920938463463374607431768211456) (k := 128) h2 (by omega)
      rw [show n / 340282366920938463463374607431768211456 % 18446744073709551616 * 2 ^ 128 + n % 340282366920938463463374607431768211456 = n by omega] at this
      omega
  · rw [if_neg (by omega)]
    have := blen_up (h := n / 6277101735386680763835789423207666416102355444464034512896) (l := n % 6277101735386680763835789423207666416102355444464034512896) (k := 192) h3 (by omega)
    rw [show n / 6277101735386680763835789423207666416102355444464034512896 * 2 ^ 192 + n % 6277101735386680763835789423207666416102355444464034512896 = n by omega] at this
    omega
def len2 (a0 a1 : Int) : Int := if a1 = 0 then (if a0 = 0 then 0 else (Lib.bitLen a0.toNat : Int)) else 64 + (Lib.bitLen a1.toNat : Int)
theorem len2_b (x : BitVec 128) : len2 (loB x) (hiB x) = bLen x := by
  have hx := x.isLt
  unfold len2 hiB loB bLen
  generalize hn : x.toNat = n at *
  rw [bitLen_nat _ (by omega), bitLen_nat _ (by omega)]
  by_cases h1 : n / 18446744073709551616 = 0
  · rw [if_pos (by omega)]
    by_cases h0 : n % 18446744073709551616 = 0
    · rw [if_pos (by omega), show n = 0 by omega]; rfl
    · rw [if_neg (by omega), show n % 18446744073709551616 = n by omega]
  · rw [if_neg (by omega)]
    have := blen_up (h := n / 18446744073709551616) (l := n % 18446744073709551616) (k := 64) h1 (by omega)
    rw [show n / 18446744073709551616 * 2 ^ 64 + n % 18446744073709551616 = n by omega] at this
    omega
/-! ### How many bits at the end are 0 -/
theorem odd_pow {s t m k : Nat} (h : 2 ^ s * (2 * m + 1) = 2 ^ t * (2 * k + 1)) : s = t := by
  have key : ∀ {s t m k : Nat}, 2 ^ s * (2 * m + 1) = 2 ^ t * (2 * k + 1) → ¬ s < t := fun {s t m k} h hlt => by
    obtain ⟨d, rfl⟩ := Nat.exists_eq_add_of_lt hlt
    rw [show s + d + 1 = s + (d + 1) by omega, Nat.pow_add, Nat.mul_assoc] at h
    have := Nat.eq_of_mul_eq_mul_left (Nat.two_pow_pos s) h
    rw [Nat.pow_succ, Nat.mul_comm (2 ^ d) 2, Nat.mul_assoc] at this
    omega
  have := key h
  have := key h.symm
  omega
theorem ctz_spec (n x : Nat) (h0 : x ≠ 0) (h : x < 2 ^ n) : ∃ m, x = 2 ^ Lib.ctz n x * (2 * m + 1) ∧ Lib.ctz n x < n := by
  have e : Lib.ctz n x = Lib.ctzFrom n x := by unfold Lib.ctz; rw [if_neg h0]
  rw [e]; exact Lib.ctzFrom_spec n x (by omega) h
theorem ctz_of {n x s m : Nat} (h : x < 2 ^ n) (e : x = 2 ^ s * (2 * m + 1)) : Lib.ctz n x = s := by
  have h0 : x ≠ 0 := by
    rw [e]; have := Nat.mul_pos (Nat.two_pow_pos s) (show 0 < 2 * m + 1 by omega); omega
  obtain ⟨k, hk, _⟩ := ctz_spec n x h0 h
  exact odd_pow (hk.symm.trans e)
def wTail (x : BitVec 256) : Int := ((Lib.ctz 256 x.toNat : Nat) : Int)
theorem wTail_bounds (x : BitVec 256) : 0 ≤ wTail x ∧ wTail x ≤ 256 := by
  unfold wTail
  by_cases h : x.toNat = 0
  · rw [h]; decide
  · obtain ⟨_, _, h2⟩ := ctz_spec 256 x.toNat h x.isLt; omega
theorem ctz_up {a r k : Nat} (ha : a ≠ 0) (hk : a < 2 ^ k) (h : (a + 2 ^ k * r) < 2 ^ 256) : Lib.ctz 256 (a + 2 ^ k * r) = Lib.ctz k a := by
  obtain ⟨m, hm, hl⟩ := ctz_spec k a ha hk
  refine ctz_of (m := m + 2 ^ (k - Lib.ctz k a - 1) * r) h ?_
  have e : 2 ^ k = 2 ^ Lib.ctz k a * (2 * 2 ^ (k - Lib.ctz k a - 1)) := by
    rw [← Nat.pow_succ', ← Nat.pow_add]; congr 1; omega
  rw [show 2 * (m + 2 ^ (k - Lib.ctz k a - 1) * r) + 1 = (2 * m + 1) + 2 * 2 ^ (k - Lib.ctz k a - 1) * r by rw [Nat.mul_add, Nat.mul_assoc]; omega, Nat.mul_add, ← Nat.mul_assoc, ← e, ← hm]
theorem ctz_mul {k j v : Nat} (hv : v ≠ 0) (hj : v < 2 ^ j) (h : v * 2 ^ k < 2 ^ 256) : Lib.ctz 256 (v * 2 ^ k) = k + Lib.ctz j v := by
  obtain ⟨m, hm, hl⟩ := ctz_spec j v hv hj
  refine ctz_of (m := m) h ?_
  rw [Nat.pow_add, Nat.mul_assoc, ← hm, Nat.mul_comm]
def tail4 (a0 a1 a2 a3 : Int) : Int :=
  if a0 = 0 then (if a1 = 0 then (if a2 = 0 then (if a3 = 0 then 256 else 192 + (Lib.ctz 64 a3.toNat : Int)) else 128 + (Lib.ctz 64 a2.toNat : Int)) else 64 + (Lib.ctz 64 a1.toNat : Int)) else (Lib.ctz 64 a0.toNat : Int)
theorem tail4_w (x : BitVec 256) : tail4 (wq0 x) (wq1 x) (wq2 x) (wq3 x) = wTail x := by
  have hx := x.isLt
  unfold tail4 wq0 wq1 wq2 wq3 wTail
  simp only [Int.toNat_natCast]
  generalize hn : x.toNat = n at *
  have key : ∀ (v r k : Nat), v ≠ 0 → v < 2 ^ 64 → n = (v + 2 ^ 64 * r) * 2 ^ k → Lib.ctz 256 n = k + Lib.ctz 64 v := fun v r k hv hl e => by
    have hk : v + 2 ^ 64 * r ≤ (v + 2 ^ 64 * r) * 2 ^ k := Nat.le_mul_of_pos_right _ (Nat.two_pow_pos k)
    have hlt : v + 2 ^ 64 * r < 2 ^ 256 := by omega
    have := ctz_mul (k := k) (j := 256) (v := v + 2 ^ 64 * r) (by omega) hlt (by omega)
    rw [← e, ctz_up hv hl hlt] at this
    exact this
  by_cases h0 : n % 18446744073709551616 = 0
  · rw [if_pos (by omega)]
    by_cases h1 : n / 18446744073709551616 % 18446744073709551616 = 0
    · rw [if_pos (by omega)]
      by_cases h2 : n / 340282366920938463463374607431768211456 % 18446744073709551616 = 0
      · rw [if_pos (by omega)]
        by_cases h3 : n / 6277101735386680763835789423207666416102355444464034512896 = 0
        · rw [if_pos (by omega), show n = 0 by omega]; rfl
        · rw [if_neg (by omega), key _ 0 192 h3 (by omega) (by omega)]; omega
      · rw [if_neg (by omega), key _ (n / 6277101735386680763835789423207666416102355444464034512896) 128 h2 (by omega) (by omega)]; omega
    · rw [if_neg (by omega), key _ (n / 340282366920938463463374607431768211456) 64 h1 (by omega) (by omega)]; omega
  · rw [if_neg (by omega), key _ (n / 18446744073709551616) 0 h0 (by omega) (by omega)]; omega
/-! ### Raised -/
def wRaise (x : BitVec 256) : BitVec 256 := if wLen x = 0 then x else wShl x (256 - wLen x)
def wRby (x : BitVec 256) : Int := if wLen x = 0 then 0 else 256 - wLen x
def bRaise (x : BitVec 128) : BitVec 128 := if bLen x = 0 then x else bShl x (128 - bLen x)
def bRby (x : BitVec 128) : Int := if bLen x = 0 then 0 else 128 - bLen x
theorem wLen_zero (x : BitVec 256) : wLen x = 0 ↔ x.toNat = 0 := by
  unfold wLen
  constructor
  · intro h; refine Classical.byContradiction fun h0 => ?_; have := blen_pos h0; omega
  · intro h; rw [h]; rfl
theorem bLen_zero (x : BitVec 128) : bLen x = 0 ↔ x.toNat = 0 := by
  unfold bLen
  constructor
  · intro h; refine Classical.byContradiction fun h0 => ?_; have := blen_pos h0; omega
  · intro h; rw [h]; rfl
theorem join_len (x : BitVec 128) : wLen (wJoin x 0#128) = if bLen x = 0 then 0 else 128 + bLen x := by
  have e : (wJoin x 0#128).toNat = x.toNat * 2 ^ 128 := by rw [toNat_join, show (0#128 : BitVec 128).toNat = 0 from rfl]; omega
  unfold wLen; rw [e]
  by_cases h : bLen x = 0
  · rw [if_pos h, (bLen_zero x).1 h]; rfl
  · rw [if_neg h, blen_shl (fun h0 => h ((bLen_zero x).2 h0))]; unfold bLen; omega
theorem raise_by (x : BitVec 128) : wRby (wJoin x 0#128) = bRby x := by
  have := bLen_bounds x
  unfold wRby bRby; rw [join_len]
  by_cases h : bLen x = 0
  · rw [if_pos h, if_pos rfl, if_pos h]
  · rw [if_neg h, if_neg (by omega), if_neg h]; omega
theorem raise_high (x : BitVec 128) : wHigh (wRaise (wJoin x 0#128)) = bRaise x := by
  have hb := bLen_bounds x
  have hx := x.isLt
  have e : (wJoin x 0#128).toNat = x.toNat * 2 ^ 128 := by rw [toNat_join, show (0#128 : BitVec 128).toNat = 0 from rfl]; omega
  apply BitVec.eq_of_toNat_eq
  unfold wRaise bRaise
  rw [join_len]
  by_cases h : bLen x = 0
  · rw [if_pos h, if_pos rfl, if_pos h, toNat_high, e]; omega
  · rw [if_neg h, if_neg (by omega), if_neg h, toNat_high, toNat_wshl, toNat_shl, e, show (256 - (128 + bLen x)).toNat = (128 - bLen x).toNat by omega]
    generalize (128 - bLen x).toNat = j
    rw [Nat.mul_right_comm, show (2 : Nat) ^ 256 = 2 ^ 128 * 2 ^ 128 from rfl, Nat.mul_mod_mul_right]
    exact Nat.mul_div_cancel _ (by decide)
end Hb
end Go.Proofs.YtbkkidgeanogjaaDoor
