/-
  LISTS OF NUMBERS OF 128 BITS, APPENDED: what the call's own rows read as. Conditions: those of each theorem.
-/
import Derived.Test.YtmnoghkbmkiplaaDoorList
import Derived.Laws.AppendOwn
import Derived.Laws.AppendOwnNone
import Derived.OwnWalk
import Derived.ProofKit
namespace Go.Proofs.YtmnoghkbmkiplaaDoor
open Go.RowKit
namespace Hb
set_option maxRecDepth 20000
theorem infoB : (Tryd.prog.info? 26).map (fun i => (i.zero, i.size, i.bytes)) = some (some (.agg #[.int .u64 0, .int .u64 0]), 2, 16) := by kernel_rfl
/-- The cells of a list. -/
def rowV (a : Nat → BitVec 128) : Nat → List Value
  | 0 => []
  | n + 1 => rowV a n ++ [.int .u64 (hiB (a n)), .int .u64 (loB (a n))]
theorem rowV_len (a : Nat → BitVec 128) (n : Nat) : (rowV a n).length = n * 2 := by
  induction n with
  | zero => rfl
  | succ n ih => unfold rowV; rw [List.length_append, ih]; simp; omega
theorem rowV_get (a : Nat → BitVec 128) (n i : Nat) (h : i < n) : (rowV a n)[i * 2]? = some (.int .u64 (hiB (a i))) ∧ (rowV a n)[i * 2 + 1]? = some (.int .u64 (loB (a i))) := by
  induction n with
  | zero => omega
  | succ n ih =>
    unfold rowV
    have hl := rowV_len a n
    by_cases e : i = n
    · subst e
      rw [List.getElem?_append_right (by omega), List.getElem?_append_right (by omega), hl]
      simp
    · obtain ⟨h1, h2⟩ := ih (by omega)
      rw [List.getElem?_append_left (by omega), List.getElem?_append_left (by omega)]
      exact ⟨h1, h2⟩
theorem rowV_one (a : Nat → BitVec 128) (n : Nat) : ∀ u ∈ rowV a n, u.oneCell' = true := by
  induction n with
  | zero => intro u hu; cases hu
  | succ n ih =>
    intro u hu
    unfold rowV at hu
    rw [List.mem_append] at hu
    rcases hu with hu | hu
    · exact ih u hu
    · simp at hu
      rcases hu with rfl | rfl <;> rfl
theorem rowV_congr (a b : Nat → BitVec 128) (n : Nat) (h : ∀ i, i < n → a i = b i) : rowV a n = rowV b n := by
  induction n with
  | zero => rfl
  | succ n ih => unfold rowV; rw [ih fun i hi => h i (by omega), h n (by omega)]
theorem rowV_cat (a b : Nat → BitVec 128) (n m : Nat) : rowV a n ++ rowV b m = rowV (catF a n b) (n + m) := by
  induction m with
  | zero =>
    rw [Nat.add_zero, show rowV b 0 = [] from rfl, List.append_nil]
    exact rowV_congr _ _ _ fun i hi => by unfold catF; rw [if_pos hi]
  | succ m ih =>
    rw [show n + (m + 1) = (n + m) + 1 from rfl, show rowV b (m + 1) = rowV b m ++ [.int .u64 (hiB (b m)), .int .u64 (loB (b m))] from rfl, ← List.append_assoc, ih]
    show _ = rowV (catF a n b) (n + m) ++ [.int .u64 (hiB (catF a n b (n + m))), .int .u64 (loB (catF a n b (n + m)))]
    unfold catF
    rw [if_neg (by omega), show n + m - n = m by omega]
/-- A list in memory, as the law on append wants its source. -/
theorem Lst.cells {w : World} {s : Option Addr} {n : Nat} {a : Nat → BitVec 128} (h : Lst w s n a) : (s = none ∧ n = 0) ∨ ∃ ad : Addr, s = some ad ∧ ∀ j u, (rowV a n)[j]? = some u → w.cell? (ad.add j) = some u := by
  rcases h with rfl | ⟨b, off, rfl, _, hc⟩
  · cases s with
    | none => exact .inl ⟨rfl, rfl⟩
    | some ad => exact .inr ⟨ad, rfl, fun j u hu => by cases hu⟩
  · refine .inr ⟨_, rfl, fun j u hu => ?_⟩
    have hj : j < n * 2 := by
      have := rowV_len a n
      rcases Nat.lt_or_ge j (rowV a n).length with h | h
      · omega
      · rw [List.getElem?_eq_none h] at hu; cases hu
    rw [Go.WideShapes.add_plain]
    obtain ⟨i, hi | hi⟩ : ∃ i, j = i * 2 ∨ j = i * 2 + 1 := ⟨j / 2, by omega⟩
    · subst hi
      rw [(rowV_get a n i (by omega)).1] at hu
      rw [← hu]; exact (hc i (by omega)).1
    · subst hi
      rw [(rowV_get a n i (by omega)).2] at hu
      rw [← hu]; exact (hc i (by omega)).2
/-- A row of the call's own reads as a list. -/
theorem lst_own {w : World} {base e n : Nat} {v : Value} {a : Nat → BitVec 128} (h : w.ownsRow base e 2 v n (rowV a n)) : ∃ s c, v = .slice s n c ∧ Lst w s n a := by
  rcases h.2 with ⟨rfl, rfl⟩ | ⟨g, cap, cur, rfl, hb, hg, _⟩
  · exact ⟨none, 0, rfl, .inl rfl⟩
  · refine ⟨_, cap, rfl, .inr ⟨g, 0, rfl, (h.lt g rfl).2, fun i hi => ?_⟩⟩
    have h1 := h.cells (g := g) rfl (i * 2) _ (rowV_get a n i hi).1
    have h2 := h.cells (g := g) rfl (i * 2 + 1) _ (rowV_get a n i hi).2
    rw [Go.WideShapes.add_plain] at h1 h2
    exact ⟨h1, h2⟩
/-- 'append(own, list...)': the call's own row goes on with the list. -/
theorem wpList_append_lst {ops : Array Oper} {rest : List Oper} {o : Oper} {a : Act} {Q : Exit → Act → World → Prop} {w : World} (hgd : o.guard = none) (s x : Operand)
    (ho : o.op = .call { callee := .builtin .append, args := #[s, x], argTypes := #[23, 23] }) (base : Nat) (v : Value) (n : Nat) (xs : List Value) (hs : a.eval s = v) (hown : w.ownsRow base 26 2 v n xs)
    (sx : Option Addr) (m c : Nat) (b : Nat → BitVec 128) (hx : a.eval x = .slice sx m c) (hl : Lst w sx m b) (hnil : sx = none → c = 0) (hnm : n + m ≤ 8796093022208) (hbase : base ≤ w.heap.size)
    (h : ∀ v' w', w'.ownsRow base 26 2 v' (n + m) (xs ++ rowV b m) → w.grownBy w' v.ownBlock → wpList Tryd.prog ops Q rest (a.put o.dst v') w') : wpList Tryd.prog ops Q (o :: rest) a w := by
  obtain ⟨i0, hi, hz0, hz1, hz2⟩ := info_parts infoB
  rcases hl.cells with ⟨rfl, rfl⟩ | ⟨ad, rfl, hc⟩
  · obtain rfl := hnil rfl
    refine wpList_append_own_none hgd s x 23 ho base 26 i0 2 Tryd.underlying23 hi v n xs hs hown hx ?_
    exact h v w (by rw [show rowV b 0 = [] from rfl, List.append_nil]; exact hown) ⟨rfl, rfl, rfl, Nat.le_refl _, fun _ _ _ => rfl⟩
  · exact wpList_append_own w hgd s x 23 ho base 26 i0 _ 2 16 Tryd.underlying23 hi hz0 hz1 hz2 rfl (by decide) v n xs hs hown ad m c (rowV b m) hx (rowV_len b m) hc (rowV_one b m)
      (by unfold maxLen; omega) (by omega) hbase fun v' w' h1 h2 _ => h v' w' h1 h2
end Hb
end Go.Proofs.YtmnoghkbmkiplaaDoor
