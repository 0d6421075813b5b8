/-
  WHAT THE ROWS' FRAMES WANT: the table read as the row lists it holds its numbers; a world in which it does; arguments opened. Conditions: those named in each theorem.
-/
import Derived.Test.YtmnoghkbmkiplaaDoorRows
import Derived.Test.YtmnoghkbmkiplaaDoorFormat
import Derived.ProofKit
import Derived.OpenShut
import Derived.Deep.DeepHandedRow
import Derived.Lib.LaidTab
import Derived.Deep.Strs
import Derived.Carry
namespace Go.Proofs.YtmnoghkbmkiplaaDoor
open Go.ChangeShapes Go.WideShapes Go.ChangeAt Go.RowKit
namespace Hb
set_option maxRecDepth 20000
theorem own : ownKnob Tryd.prog.godebug = none := by kernel_rfl
theorem laidOut : laidOutB Tryd.prog = true := by kernel_rfl
theorem gTab : Tryd.prog.globalNamed "hairsbreadth/format.table" = some 0 := by kernel_rfl
theorem gTabType : (Tryd.prog.globals[0]?).map (·.type) = some 62 := by kernel_rfl
theorem cellsT : Tryd.prog.cellsOf 62 = 12 := by kernel_rfl
theorem cellsN : Tryd.prog.cellsOf 56 = 3 := by kernel_rfl
theorem cellsI : Tryd.prog.cellsOf 3 = 1 := by kernel_rfl
theorem row3 {H : Type} {enc : TypeId × Value → H} {w : World} {base : Nat} {sp : Nat → Bool} {held : Bool} {fuel : Nat} {cs : List Value} {x : DataW H × List MemPlace} {a b c : Int}
    (h : DataW.trod enc Tryd.prog w base sp held fuel 56 cs = some x) (hx : x.1 = .agg [.lit (.int .i64 a), .lit (.int .i64 b), .lit (.int .i64 c)]) : cs = [.int .i64 a, .int .i64 b, .int .i64 c] := by
  obtain ⟨y0, y1, y2, n, rfl, hl, h0, h1, h2⟩ := Go.Deep.trod_struct3 Tryd.underlying56 h
  rw [cellsN] at hl
  match cs, hl with
  | [c0, c1, c2], _ =>
    simp only [cellsI, List.drop_zero, List.drop_succ_cons, List.take_succ_cons, List.take_zero] at h0 h1 h2
    obtain ⟨z0, e0, rfl, _⟩ := DataW.trod_int Tryd.underlying3 h0
    obtain ⟨z1, e1, rfl, _⟩ := DataW.trod_int Tryd.underlying3 h1
    obtain ⟨z2, e2, rfl, _⟩ := DataW.trod_int Tryd.underlying3 h2
    simp only [DataW.agg.injEq, List.cons.injEq, DataW.lit.injEq, Lit.int.injEq, true_and, and_true] at hx
    obtain ⟨rfl, rfl, rfl⟩ := hx
    simp only [List.cons.injEq, and_true] at e0 e1 e2
    rw [e0, e1, e2]
theorem tab_of_laid {W : World} (h : laidMet Tryd.prog [("hairsbreadth/format.table", Rows.laid_hairsbreadth_format_table)] W) : Tab W := by
  obtain ⟨ps, ⟨g', t', cs, fuel, p, q, hg', ht', hvar, hd, _, _⟩, _⟩ := h
  obtain rfl := Option.some.inj (gTab.symm.trans hg')
  obtain rfl := Option.some.inj (gTabType.symm.trans ht')
  obtain ⟨cs⟩ := cs
  obtain ⟨xs, m, rfl, hx, hl, hxl, hel⟩ := DataW.trod_array Tryd.underlying62 hd
  rw [cellsT] at hl
  simp only [cellsN] at hel
  dsimp only at hl hel
  simp only [Rows.laid_hairsbreadth_format_table, Prod.mk.injEq, DataW.agg.injEq] at hx
  have hm := hx.1
  match xs, hxl with
  | [x0, x1, x2, x3], _ =>
    simp only [List.map_cons, List.map_nil, List.cons.injEq, and_true] at hm
    obtain ⟨m0, m1, m2, m3⟩ := hm
    have r0 := row3 (hel 0 (by decide)) m0.symm
    have r1 := row3 (hel 1 (by decide)) m1.symm
    have r2 := row3 (hel 2 (by decide)) m2.symm
    have r3 := row3 (hel 3 (by decide)) m3.symm
    match cs, hl with
    | [c0, c1, c2, c3, c4, c5, c6, c7, c8, c9, c10, c11], _ =>
      simp at r0 r1 r2 r3
      obtain ⟨rfl, rfl, rfl⟩ := r0
      obtain ⟨rfl, rfl, rfl⟩ := r1
      obtain ⟨rfl, rfl, rfl⟩ := r2
      obtain ⟨rfl, rfl, rfl⟩ := r3
      have hc : ∀ i : Nat, i < 12 → W.cell? ⟨0, i, none⟩ = some (.int .i64 (tabN.getD i 0)) := fun i hi => by
        rw [World.var?_cell gTab hvar i]
        have : i = 0 ∨ i = 1 ∨ i = 2 ∨ i = 3 ∨ i = 4 ∨ i = 5 ∨ i = 6 ∨ i = 7 ∨ i = 8 ∨ i = 9 ∨ i = 10 ∨ i = 11 := by omega
        rcases this with rfl | rfl | rfl | rfl | rfl | rfl | rfl | rfl | rfl | rfl | rfl | rfl <;> rfl
      exact ⟨hc, World.block_lt_of_cell? _ _ (hc 0 (by decide))⟩
/-- A WORLD FOR THE WITNESS: the settled one, the table holding its numbers. -/
noncomputable def laidWorld (os : Os) : World :=
  { World.holding Tryd.prog os ⟨#[], #[], []⟩ with heap := (World.holding Tryd.prog os ⟨#[], #[], []⟩).heap.modify 0 fun
      | .cells _ t frozen => .cells #[.int .i64 16, .int .i64 11, .int .i64 15, .int .i64 32, .int .i64 24, .int .i64 127, .int .i64 64, .int .i64 53, .int .i64 1023, .int .i64 128, .int .i64 113, .int .i64 16383] t frozen
      | o => o }
theorem byte_of_wf {n : Int} (h : (Lit.int .u8 n).wf = true) : 0 ≤ n ∧ n ≤ 255 := bounds_u8 h
theorem int_of_wf {n : Int} (h : (Lit.int .i64 n).wf = true) : -9223372036854775808 ≤ n ∧ n ≤ 9223372036854775807 := bounds_i64 h
theorem cellsB : Tryd.prog.cellsOf 26 = 2 := by kernel_rfl
theorem cells64 : Tryd.prog.cellsOf 24 = 1 := by kernel_rfl
theorem bv_mk' (h l : Int) (h1 : Word h) (h2 : Word l) : Bv (mkB h l) = .agg #[.int .u64 h, .int .u64 l] := by simp only [Bv]; rw [hiB_mk h l h1 h2, loB_mk h l h1 h2]
theorem open_bits {H : Type} {enc : TypeId × Value → H} {w : World} {base b0 : Nat} {sp : Nat → Bool} {held : Bool} {r : Reach} {v : Value} {d : DataW H} {p : List MemPlace}
    (hv : Value.okWide Tryd.prog w r b0 26 v) (h : DataW.Trod enc Tryd.prog w base sp held 26 v d p) : ∃ a : BitVec 128, v = Bv a := by
  obtain ⟨cs, rfl, hsz⟩ := okWide_struct Tryd.underlying26 hv
  obtain ⟨fuel, hf⟩ := h
  obtain ⟨y0, y1, n, _, hl, h0, h1⟩ := trod_struct2 Tryd.underlying26 hf
  rw [cellsB] at hsz
  obtain ⟨cs⟩ := cs
  match cs, hsz with
  | [c0, c1], _ =>
    simp only [Value.cells, cells64, List.drop_zero, List.drop_succ_cons, List.take_succ_cons, List.take_zero] at h0 h1
    obtain ⟨z0, e0, _, w0⟩ := DataW.trod_int Tryd.underlying24 h0
    obtain ⟨z1, e1, _, w1⟩ := DataW.trod_int Tryd.underlying24 h1
    simp only [List.cons.injEq, and_true] at e0 e1
    subst e0; subst e1
    have b0 := bounds_u64 w0
    have b1 := bounds_u64 w1
    exact ⟨mkB z0 z1, (bv_mk' z0 z1 ⟨b0.1, by omega⟩ ⟨b1.1, by omega⟩).symm⟩
end Hb
end Go.Proofs.YtmnoghkbmkiplaaDoor
