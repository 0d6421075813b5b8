/-
  WHAT THE ROWS' FRAMES WANT, WHERE THE LISTED VARIABLE IS THE LIBRARY'S TABLE; numbers of 256 bits opened. Conditions: those named in each theorem.
-/
import Derived.Test.YtbelighbkjadkaaDoorOpen
import Derived.Test.YtbelighbkjadkaaDoorLen
namespace Go.Proofs.YtbelighbkjadkaaDoor
open Go.ChangeShapes Go.WideShapes Go.ChangeAt Go.RowKit
namespace Hb
set_option maxRecDepth 20000
theorem gDt : Tryd.prog.globalNamed "math/bits.deBruijn64tab" = some 1 := by kernel_rfl
theorem gDtType : (Tryd.prog.globals[1]?).map (·.type) = some 130 := by kernel_rfl
def dtN : List Int := Lib.deBruijn64tab.map fun n : Nat => (n : Int)
theorem dt_laid {H : Type} : (Rows.laid_math_bits_deBruijn64tab : DataW H) = Lib.tabData .u8 dtN := rfl
theorem dtab_of_laid {W : World} (h : laidMet Tryd.prog [("math/bits.deBruijn64tab", Rows.laid_math_bits_deBruijn64tab)] W) : DTab W := by
  rw [dt_laid] at h
  have ht := Lib.tabIs_of_head gDt gDtType Tryd.underlying130 Tryd.underlying5 (by kernel_rfl) (by kernel_rfl) h
  have hc : ∀ i : Nat, i < 64 → W.cell? ⟨1, i, none⟩ = some (.int .u8 (Lib.deBruijn64tab.getD i 0)) := fun i hi => by
    have hk := ht.cell gDt i hi
    rw [hk]
    have key : ∀ m : Fin 64, dtN.getD m.val 0 = ((Lib.deBruijn64tab.getD m.val 0 : Nat) : Int) := by decide +kernel
    have := key ⟨i, hi⟩
    simp only at this
    rw [this]
  exact ⟨fun j hj => hc j hj, World.block_lt_of_cell? _ _ (hc 0 (by decide))⟩
/-- A WORLD FOR THE WITNESS: the settled one, the table holding its numbers. -/
noncomputable def laidWorld4 (os : Os) : World :=
  { World.holding Tryd.prog os ⟨#[], #[], []⟩ with heap := (World.holding Tryd.prog os ⟨#[], #[], []⟩).heap.modify 1 fun
      | .cells _ t frozen => .cells (dtN.map fun z => Value.int .u8 z).toArray t frozen
      | o => o }
theorem cellsW : Tryd.prog.cellsOf 46 = 4 := by kernel_rfl
theorem open_wide {H : Type} {enc : TypeId × Value → H} {w : World} {base b0 : Nat} {sp : Nat → Bool} {held : Bool} {r : Reach} {v : Value} {d : DataW H} {p : List MemPlace}
    (hv : Value.okWide Tryd.prog w r b0 46 v) (h : DataW.Trod enc Tryd.prog w base sp held 46 v d p) : ∃ a : BitVec 256, v = Wv a := by
  simp only [Value.okWide, Tryd.underlying46] at hv
  obtain ⟨cs, rfl, hsz, _⟩ := hv
  rw [cellsW] at hsz
  obtain ⟨fuel, hf⟩ := h
  obtain ⟨xs, m, _, _, hl, hxl, hel⟩ := DataW.trod_array Tryd.underlying46 hf
  obtain ⟨cs⟩ := cs
  match cs, hsz, xs, hxl with
  | [c0, c1, c2, c3], _, [x0, x1, x2, x3], _ =>
    have h0 := hel 0 (by decide)
    have h1 := hel 1 (by decide)
    have h2 := hel 2 (by decide)
    have h3 := hel 3 (by decide)
    simp [Value.cells, cells64] at h0 h1 h2 h3
    obtain ⟨z0, e0, _, w0⟩ := DataW.trod_int Tryd.underlying23 h0
    obtain ⟨z1, e1, _, w1⟩ := DataW.trod_int Tryd.underlying23 h1
    obtain ⟨z2, e2, _, w2⟩ := DataW.trod_int Tryd.underlying23 h2
    obtain ⟨z3, e3, _, w3⟩ := DataW.trod_int Tryd.underlying23 h3
    simp only [List.cons.injEq, and_true] at e0 e1 e2 e3
    subst e0; subst e1; subst e2; subst e3
    have b0 := bounds_u64 w0
    have b1 := bounds_u64 w1
    have b2 := bounds_u64 w2
    have b3 := bounds_u64 w3
    obtain ⟨q0, q1, q2, q3⟩ := wq_mk z0 z1 z2 z3 ⟨b0.1, by omega⟩ ⟨b1.1, by omega⟩ ⟨b2.1, by omega⟩ ⟨b3.1, by omega⟩
    exact ⟨mkW z0 z1 z2 z3, by simp only [Wv]; rw [q0, q1, q2, q3]⟩
end Hb
end Go.Proofs.YtbelighbkjadkaaDoor
