/-
  THE CONTRACTS OF word, shift AND format ONCE MORE, THE ANSWER UNDER A NAME OF ITS OWN. Conditions: the named equations; where a format is asked, that the table of the formats holds its numbers.
-/
import Derived.Test.YtmnoghkbmkiplaaDoorInf
import Derived.Test.YtmnoghkbmkiplaaDoorSplit
namespace Go.Proofs.YtmnoghkbmkiplaaDoor
open Go.RowKit
namespace Hb
set_option maxRecDepth 20000
theorem wd0 : Word 0 := ⟨by decide, by decide⟩
theorem wd1 : Word 1 := ⟨by decide, by decide⟩
theorem split_as (f : Int) (l : 0 ≤ f) (u : f ≤ 255) (b : BitVec 128) (N : Bool) (E : Int) (F : BitVec 128) (H : Hid (fNeg f b = N ∧ fExp f b = E ∧ fFrac f b = F)) (w : World) (hT : Tab w) :
    Calls Tryd.prog 18 #[.int .u8 f, Bv b] w fun e w' => e = .returned (.tuple #[.bool N, .int .i64 E, Bv F]) ∧ Gr w w' := by
  obtain ⟨rfl, rfl, rfl⟩ := H.out; exact split_any f l u b w hT
theorem left_as (x : BitVec 128) (k : Int) (z : BitVec 128) (H : Hid (bShl x k = z)) (w : World) :
    Calls Tryd.prog 16 #[Bv x, .int .i64 k] w fun e w' => e = .returned (Bv z) ∧ Gr w w' := by
  obtain rfl := H.out; exact left_any x k w
theorem right_as (x : BitVec 128) (k : Int) (z : BitVec 128) (H : Hid (bShr x k = z)) (w : World) :
    Calls Tryd.prog 31 #[Bv x, .int .i64 k] w fun e w' => e = .returned (Bv z) ∧ Gr w w' := by
  obtain rfl := H.out; exact right_any x k w
theorem left_one (k : Int) (z : BitVec 128) (H : Hid (bShl (mkB 0 1) k = z)) (w : World) :
    Calls Tryd.prog 16 #[.agg #[.int .u64 0, .int .u64 1], .int .i64 k] w fun e w' => e = .returned (Bv z) ∧ Gr w w' := by
  obtain rfl := H.out; exact left_hl 0 1 wd0 wd1 k w
theorem make_as (f : Int) (l : 0 ≤ f) (u : f ≤ 255) (N : Bool) (E : Int) (F z : BitVec 128) (H : Hid (fMake f N E F = z)) (w : World) (hT : Tab w) :
    Calls Tryd.prog 22 #[.int .u8 f, .bool N, .int .i64 E, Bv F] w fun e w' => e = .returned (Bv z) ∧ Gr w w' := by
  obtain rfl := H.out; exact make_any f l u N E F w hT
theorem make_0 (f : Int) (l : 0 ≤ f) (u : f ≤ 255) (N : Bool) (E : Int) (z : BitVec 128) (H : Hid (fMake f N E 0#128 = z)) (w : World) (hT : Tab w) :
    Calls Tryd.prog 22 #[.int .u8 f, .bool N, .int .i64 E, .agg #[.int .u64 0, .int .u64 0]] w fun e w' => e = .returned (Bv z) ∧ Gr w w' := by
  obtain rfl := H.out
  have := make_hl f l u N E 0 0 wd0 wd0 w hT
  rw [mk_zero] at this
  exact this
theorem cut_as (f : Int) (l : 0 ≤ f) (u : f ≤ 255) (b z : BitVec 128) (H : Hid (fCut f b = z)) (w : World) (hT : Tab w) :
    Calls Tryd.prog 15 #[.int .u8 f, Bv b] w fun e w' => e = .returned (Bv z) ∧ Gr w w' := by
  obtain rfl := H.out; exact cut_any f l u b w hT
theorem prec_as (f : Int) (l : 0 ≤ f) (u : f ≤ 255) (p : Int) (H : Hid (fPr f = p)) (w : World) (hT : Tab w) :
    Calls Tryd.prog 17 #[.int .u8 f] w fun e w' => e = .returned (.int .i64 p) ∧ Gr w w' := by
  obtain rfl := H.out; exact prec_any f l u w hT
theorem emax_as (f : Int) (l : 0 ≤ f) (u : f ≤ 255) (p : Int) (H : Hid (fEm f = p)) (w : World) (hT : Tab w) :
    Calls Tryd.prog 20 #[.int .u8 f] w fun e w' => e = .returned (.int .i64 p) ∧ Gr w w' := by
  obtain rfl := H.out; exact emax_any f l u w hT
theorem width_as (f : Int) (l : 0 ≤ f) (u : f ≤ 255) (p : Int) (H : Hid (fWd f = p)) (w : World) (hT : Tab w) :
    Calls Tryd.prog 26 #[.int .u8 f] w fun e w' => e = .returned (.int .i64 p) ∧ Gr w w' := by
  obtain rfl := H.out; exact width_any f l u w hT
theorem add_as (x y z : BitVec 128) (c : Bool) (H : Hid (bAdd x y = z ∧ bCarry x y = c)) (w : World) :
    Calls Tryd.prog 32 #[Bv x, Bv y] w fun e w' => e = .returned (.tuple #[Bv z, .bool c]) ∧ Gr w w' := by
  obtain ⟨rfl, rfl⟩ := H.out; exact add_any x y w
theorem bzero_as (x : BitVec 128) (c : Bool) (H : Hid (bZero x = c)) (w : World) :
    Calls Tryd.prog 19 #[Bv x] w fun e w' => e = .returned (.bool c) ∧ Gr w w' := by
  obtain rfl := H.out; exact zero_any x w
theorem bbit_as (x : BitVec 128) (i : Int) (h0 : 0 ≤ i) (h1 : i ≤ 127) (c : Bool) (H : Hid (bBit x i = c)) (w : World) :
    Calls Tryd.prog 21 #[Bv x, .int .i64 i] w fun e w' => e = .returned (.bool c) ∧ Gr w w' := by
  obtain rfl := H.out; exact bit_any x i h0 h1 w
end Hb
end Go.Proofs.YtmnoghkbmkiplaaDoor
