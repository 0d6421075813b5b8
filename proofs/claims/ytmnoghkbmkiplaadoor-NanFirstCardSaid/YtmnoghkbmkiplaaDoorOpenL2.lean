/-
  WHAT THE ROWS' FRAMES WANT OF A LIST: a slice of numbers of 128 bits that came in, opened. Conditions: those named in the theorem.
-/
import Derived.Test.YtmnoghkbmkiplaaDoorOpen
import Derived.Test.YtmnoghkbmkiplaaDoorList
import Derived.Deep.Slices
import Derived.Deep.Fields
namespace Go.Proofs.YtmnoghkbmkiplaaDoor
open Go.ChangeShapes Go.WideShapes Go.ChangeAt Go.RowKit
namespace Hb
set_option maxRecDepth 20000
theorem open_list2 {H : Type} {enc : TypeId × Value → H} {w : World} {base b0 : Nat} {sp : Nat → Bool} {held : Bool} {r : Reach} {v : Value} {d : DataW H} {p : List MemPlace}
    (hv : Value.okWide Tryd.prog w r b0 23 v) (h : DataW.Trod enc Tryd.prog w base sp held 23 v d p) : ∃ (s : Option Addr) (n c : Nat) (a : Nat → BitVec 128), v = .slice s n c ∧ (Lst w s n a ∧ n ≤ 9223372036854775807 ∧ (s = none → c = 0)) := by
  obtain ⟨a0, len, cap, rfl⟩ := Go.WideShapes.okWide_slice Tryd.underlying23 hv
  obtain ⟨fuel, hf⟩ := h
  rcases Go.Deep.open_slice Tryd.underlying23 hf with ⟨hcs, _⟩ | ⟨a, n, c, m, k, D, Pl, hcs, hb, hl, hm, hmm, hx, hi⟩
  · simp [Value.cells] at hcs
    obtain ⟨rfl, rfl, rfl⟩ := hcs
    exact ⟨none, 0, 0, fun _ => 0#128, rfl, .inl rfl, by omega, fun _ => rfl⟩
  · simp [Value.cells] at hcs
    obtain ⟨rfl, rfl, rfl⟩ := hcs
    unfold maxLen at hm
    by_cases hn : len = 0
    · exact ⟨some a, len, cap, fun _ => 0#128, rfl, .inl hn, by omega, fun h => by cases h⟩
    · have key : ∀ i, i < len → ∃ x : BitVec 128, w.cell? (a.add (i * 2)) = some (.int .u64 (hiB x)) ∧ w.cell? (a.add (i * 2 + 1)) = some (.int .u64 (loB x)) := fun i hin => by
        obtain ⟨cs', hc, ht⟩ := hi i (by rw [hmm]; split <;> omega)
        rw [cellsB] at hc
        obtain ⟨_, hcl, hat⟩ := World.cells?_some hc
        obtain ⟨y0, y1, q, _, _, h0, h1⟩ := trod_struct2 Tryd.underlying26 ht
        match cs', hcl with
        | [c0, c1], _ =>
          simp only [cells64, List.drop_zero, List.drop_succ_cons, List.take_succ_cons, List.take_zero] at h0 h1
          obtain ⟨z0, e0, _, v0⟩ := DataW.trod_int Tryd.underlying24 h0
          obtain ⟨z1, e1, _, v1⟩ := DataW.trod_int Tryd.underlying24 h1
          simp only [List.cons.injEq, and_true] at e0 e1
          subst e0; subst e1
          have b0 := bounds_u64 v0
          have b1 := bounds_u64 v1
          have r0 := hat 0 (by decide)
          have r1 := hat 1 (by decide)
          rw [Go.Deep.add_add] at r0 r1
          refine ⟨mkB z0 z1, ?_, ?_⟩
          · rw [hiB_mk z0 z1 ⟨b0.1, by omega⟩ ⟨b1.1, by omega⟩]; simpa using r0
          · rw [loB_mk z0 z1 ⟨b0.1, by omega⟩ ⟨b1.1, by omega⟩]; simpa using r1
      obtain ⟨b, off, spot⟩ := a
      obtain ⟨x0, hx0, _⟩ := key 0 (by omega)
      have hspot : spot = none := by simpa [Addr.add] using World.cell?_spot hx0
      subst hspot
      have hlt : b < w.heap.size := by simpa [Addr.add] using World.block_lt_of_cell? _ _ hx0
      have key2 : ∀ i, i < len → ∃ x : BitVec 128, w.cell? ⟨b, off + i * 2, none⟩ = some (.int .u64 (hiB x)) ∧ w.cell? ⟨b, off + i * 2 + 1, none⟩ = some (.int .u64 (loB x)) := fun i hin => by
        obtain ⟨x, h1, h2⟩ := key i hin
        rw [Go.WideShapes.add_plain] at h1 h2
        exact ⟨x, h1, h2⟩
      refine ⟨_, len, cap, fun i => if h : i < len then Classical.choose (key2 i h) else 0#128, rfl, .inr ⟨b, off, rfl, hlt, fun i hin => ?_⟩, by omega, fun h => by cases h⟩
      have := Classical.choose_spec (key2 i hin)
      simp only [dif_pos hin]
      exact this
end Hb
end Go.Proofs.YtmnoghkbmkiplaaDoor
