/-
  class.Any AT NaN, Finite, Signaling. Conditions: the table of the formats holds its numbers; the slice reads as the list.
-/
import Derived.Test.YtbelighbkjadkaaDoorList
namespace Go.Proofs.YtbelighbkjadkaaDoor
open Go.RowKit
namespace Hb
set_option maxRecDepth 20000
theorem anySig_at (f : Int) (l : 0 ≤ f) (u : f ≤ 255) (s : Option Addr) (n c : Nat) (a : Nat → BitVec 128) (r : Bool) (H : Hid (anyF (cSig f) a n = r)) (w : World) (hT : Tab w) (hbig : n ≤ 9223372036854775807) (hl : Lst w s n a) :
    Calls Tryd.prog 56 #[.int .u8 f, .func (.func 37) #[] #[], .slice s n c] w fun e w' => e = .returned (.bool r) ∧ Gr w w' :=
  any_core 37 (Go.Proofs.enters_of Tryd.func37 (by kernel_rfl) rfl) f (cSig f) s n c a r H w (fun W x hb => sig_as f l u x _ (Lib.hid rfl) W (hT.below hb)) hbig hl
theorem anyNaN_at (f : Int) (l : 0 ≤ f) (u : f ≤ 255) (s : Option Addr) (n c : Nat) (a : Nat → BitVec 128) (r : Bool) (H : Hid (anyF (cNaN f) a n = r)) (w : World) (hT : Tab w) (hbig : n ≤ 9223372036854775807) (hl : Lst w s n a) :
    Calls Tryd.prog 56 #[.int .u8 f, .func (.func 35) #[] #[], .slice s n c] w fun e w' => e = .returned (.bool r) ∧ Gr w w' :=
  any_core 35 (Go.Proofs.enters_of Tryd.func35 (by kernel_rfl) rfl) f (cNaN f) s n c a r H w (fun W x hb => nan_as f l u x _ (Lib.hid rfl) W (hT.below hb)) hbig hl
theorem anyFin_at (f : Int) (l : 0 ≤ f) (u : f ≤ 255) (s : Option Addr) (n c : Nat) (a : Nat → BitVec 128) (r : Bool) (H : Hid (anyF (cFin f) a n = r)) (w : World) (hT : Tab w) (hbig : n ≤ 9223372036854775807) (hl : Lst w s n a) :
    Calls Tryd.prog 56 #[.int .u8 f, .func (.func 39) #[] #[], .slice s n c] w fun e w' => e = .returned (.bool r) ∧ Gr w w' :=
  any_core 39 (Go.Proofs.enters_of Tryd.func39 (by kernel_rfl) rfl) f (cFin f) s n c a r H w (fun W x hb => fin_as f l u x _ (Lib.hid rfl) W (hT.below hb)) hbig hl
end Hb
end Go.Proofs.YtbelighbkjadkaaDoor
