/-
  THE WALKS of package format: Inf, Max, Nought. Conditions: the table of the formats holds its numbers.
-/
import Derived.Test.YtmnoghkbmkiplaaDoorMake
namespace Go.Proofs.YtmnoghkbmkiplaaDoor
open Go.RowKit
namespace Hb
theorem em_le (f : Int) (h0 : 0 ≤ f) : 0 ≤ fEm f ∧ fEm f ≤ 16383 := by
  by_cases h : f < 4
  · have := f_bounds f h0 h; omega
  · have := (f_none f h).2.2.1; omega
theorem make_hl (f : Int) (h0 : 0 ≤ f) (h1 : f ≤ 255) (neg : Bool) (e : Int) (h l : Int) (hh : Word h) (hl : Word l) (w : World) (hT : Tab w) :
    Calls Tryd.prog 22 #[.int .u8 f, .bool neg, .int .i64 e, .agg #[.int .u64 h, .int .u64 l]] w fun x w' => x = .returned (Bv (fMake f neg e (mkB h l))) ∧ Gr w w' := by
  have := make_any f h0 h1 neg e (mkB h l) w hT
  rw [bv_mk h l hh hl] at this
  exact this
theorem mk_zero : mkB 0 0 = 0#128 := by decide
end Hb
end Go.Proofs.YtmnoghkbmkiplaaDoor
