/-
  WHAT THE ROWS' FRAMES WANT: a number taken apart, opened. Conditions: those named in each theorem.
-/
import Derived.Test.YtbelighbkjadkaaDoorOpen
import Derived.Test.YtbelighbkjadkaaDoorPackAs
import Derived.Lib.SmallJoins
namespace Go.Proofs.YtbelighbkjadkaaDoor
open Go.ChangeShapes Go.WideShapes Go.ChangeAt Go.RowKit
namespace Hb
set_option maxRecDepth 20000
theorem cellsNum : Tryd.prog.cellsOf 80 = 5 := by kernel_rfl
theorem cellsBo : Tryd.prog.cellsOf 4 = 1 := by kernel_rfl
theorem cellsCl : Tryd.prog.cellsOf 54 = 1 := by kernel_rfl
theorem cellsIn : Tryd.prog.cellsOf 3 = 1 := by kernel_rfl
theorem open_num {H : Type} {enc : TypeId × Value → H} {w : World} {base b0 : Nat} {sp : Nat → Bool} {held : Bool} {r : Reach} {v : Value} {d : DataW H} {p : List MemPlace}
    (hv : Value.okWide Tryd.prog w r b0 80 v) (h : DataW.Trod enc Tryd.prog w base sp held 80 v d p) : ∃ (n : Bool) (c e : Int) (s : BitVec 128), v = Nv n c e s ∧ 0 ≤ c ∧ c ≤ 255 := by
  obtain ⟨cs, rfl, hsz⟩ := okWide_struct Tryd.underlying80 hv
  obtain ⟨fuel, hf⟩ := h
  obtain ⟨y0, y1, y2, y3, n, _, hl, h0, h1, h2, h3⟩ := Go.Joins.trod_struct4 Tryd.underlying80 hf
  rw [cellsNum] at hsz
  obtain ⟨cs⟩ := cs
  match cs, hsz with
  | [c0, c1, c2, c3, c4], _ =>
    simp only [Value.cells, cellsBo, cellsCl, cellsIn, cellsB, List.drop_zero, List.drop_succ_cons, List.take_succ_cons, List.take_zero] at h0 h1 h2 h3
    obtain ⟨z0, e0, _⟩ := DataW.trod_bool Tryd.underlying4 h0
    obtain ⟨z1, e1, _, w1⟩ := DataW.trod_int Tryd.underlying54 h1
    obtain ⟨z2, e2, _, w2⟩ := DataW.trod_int Tryd.underlying3 h2
    obtain ⟨x0, x1, m, _, _, g0, g1⟩ := trod_struct2 Tryd.underlying25 h3
    simp only [cells64, List.drop_zero, List.drop_succ_cons, List.take_succ_cons, List.take_zero] at g0 g1
    obtain ⟨z3, e3, _, w3⟩ := DataW.trod_int Tryd.underlying23 g0
    obtain ⟨z4, e4, _, w4⟩ := DataW.trod_int Tryd.underlying23 g1
    simp only [List.cons.injEq, and_true] at e0 e1 e2 e3 e4
    subst e0; subst e1; subst e2; subst e3; subst e4
    have b1 := bounds_u8 w1
    have b3 := bounds_u64 w3
    have b4 := bounds_u64 w4
    refine ⟨z0, z1, z2, mkB z3 z4, ?_, b1.1, b1.2⟩
    simp only [Nv]
    rw [hiB_mk z3 z4 ⟨b3.1, by omega⟩ ⟨b4.1, by omega⟩, loB_mk z3 z4 ⟨b3.1, by omega⟩ ⟨b4.1, by omega⟩]
end Hb
end Go.Proofs.YtbelighbkjadkaaDoor
