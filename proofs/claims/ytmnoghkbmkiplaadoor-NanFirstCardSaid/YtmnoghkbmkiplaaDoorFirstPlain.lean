/-
  THE PLAIN PART OF NanFirst: a list without its NaNs, then a NaN, then a list: the NaN is the first. Conditions: none.
-/
import Derived.Test.YtmnoghkbmkiplaaDoorAppend
import Derived.Test.YtmnoghkbmkiplaaDoorPick
namespace Go.Proofs.YtmnoghkbmkiplaaDoor
open Go.RowKit
namespace Hb
set_option maxRecDepth 20000
/-- Those of the first n of which it is not so. -/
def keepL (p : BitVec 128 → Bool) (a : Nat → BitVec 128) : Nat → List (BitVec 128)
  | 0 => []
  | n + 1 => if p (a n) then keepL p a n else keepL p a n ++ [a n]
def fnL (xs : List (BitVec 128)) (i : Nat) : BitVec 128 := xs.getD i 0#128
theorem keep_not (p : BitVec 128 → Bool) (a : Nat → BitVec 128) (n : Nat) : ∀ x ∈ keepL p a n, p x = false := by
  induction n with
  | zero => intro x hx; cases hx
  | succ n ih =>
    intro x hx
    unfold keepL at hx
    by_cases h : p (a n) = true
    · rw [if_pos h] at hx; exact ih x hx
    · rw [if_neg h, List.mem_append] at hx
      rcases hx with hx | hx
      · exact ih x hx
      · simp at hx; subst hx; simpa using h
theorem keep_len (p : BitVec 128 → Bool) (a : Nat → BitVec 128) (n : Nat) : (keepL p a n).length ≤ n := by
  induction n with
  | zero => exact Nat.le_refl _
  | succ n ih =>
    unfold keepL
    split
    · omega
    · rw [List.length_append]; simp; omega
theorem fnL_snoc (xs : List (BitVec 128)) (x : BitVec 128) : rowV (fnL xs) xs.length ++ rowV (fun _ => x) 1 = rowV (fnL (xs ++ [x])) (xs ++ [x]).length := by
  rw [List.length_append, List.length_singleton]
  show _ = rowV (fnL (xs ++ [x])) xs.length ++ [.int .u64 (hiB (fnL (xs ++ [x]) xs.length)), .int .u64 (loB (fnL (xs ++ [x]) xs.length))]
  have e1 : fnL (xs ++ [x]) xs.length = x := by unfold fnL; simp
  rw [e1, rowV_congr (fnL (xs ++ [x])) (fnL xs) xs.length (fun i hi => by unfold fnL; simp [List.getD_eq_getElem?_getD, List.getElem?_append_left hi])]
  rfl
/-- What is picked out of such a list. -/
theorem first_plain (f : Int) (h : f < 4) (xs : List (BitVec 128)) (x : BitVec 128) (b : Nat → BitVec 128) (m : Nat) (hx : ∀ y ∈ xs, cNaN f y = false) (hn : cNaN f x = true) (inv : Bool) :
    pkOk f inv (catF (fnL (xs ++ [x])) (xs ++ [x]).length b) ((xs ++ [x]).length + m) = true ∧ pkB f (catF (fnL (xs ++ [x])) (xs ++ [x]).length b) ((xs ++ [x]).length + m) = nQ f x := by
  have hk : fKn f = true := by unfold fKn; simpa using h
  have hlen : (xs ++ [x]).length = xs.length + 1 := by simp
  have hat : catF (fnL (xs ++ [x])) (xs ++ [x]).length b xs.length = x := by unfold catF fnL; rw [if_pos (by omega)]; simp
  have hi : idxF (cNaN f) (catF (fnL (xs ++ [x])) (xs ++ [x]).length b) ((xs ++ [x]).length + m) = (xs.length : Int) := by
    refine idx_hit _ _ _ xs.length (by omega) (by rw [hat]; exact hn) fun j hj => ?_
    have e : catF (fnL (xs ++ [x])) (xs ++ [x]).length b j = xs[j] := by
      unfold catF fnL
      rw [if_pos (by omega)]
      simp [List.getD_eq_getElem?_getD, List.getElem?_append_left hj, hj]
    rw [e]
    exact hx _ (List.getElem_mem hj)
  unfold pkOk pkB
  rw [any_idx, hi, hk, if_pos (by omega), Int.toNat_natCast, hat]
  simp
end Hb
end Go.Proofs.YtmnoghkbmkiplaaDoor
