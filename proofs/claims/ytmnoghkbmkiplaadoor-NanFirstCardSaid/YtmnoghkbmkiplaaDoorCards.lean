/-
  DERIVED. GIVEN WITH THE SEED: THE CARDS: each row of YtmnoghkbmkiplaaDoorRows.lean that lists a variable, with what it lists TIED to the program's text (the seventh form; the later family's looks); each row that meets fmt, with fmt's text TOLD by the authors' own Lean function (tested against real Go, not proved from fmt's source: count such statements apart). THE CARD IS WHAT COUNTS. Prove the row's statement (the work); the ties are given (YtmnoghkbmkiplaaDoorTie.lean); close each card by the builder's one call (the guide's Derived/Test/ToyasCard.lean, 'card_holds'). Laid BY PROGRAM, IN A SANDBOX (cutbox-door.mjs). By AI agents, Wed Nov 11 2026. No macro, syntax, notation, axiom, sorry.
-/
import Derived.Test.YtmnoghkbmkiplaaDoorRows
import GoSem.ClaimSeven
namespace Go.Proofs.YtmnoghkbmkiplaaDoor
namespace Rows

/-- THE TIED CARD OF 'hairsbreadthlaw10.NanFirst'. -/
def nanFirstCard : Claim7 := { stood := { row := nanFirstRow, standIns := [], harness := (true, "0a98959389bb2f50d0b86d3ecef71d05915475794f1886d572f5fe99367d64eb"), looks := false }, kinds := [], alts := [], laidByText := true, laidKinds := [.data], laidTests := true, laidLooks := .later }
def NanFirstCardSaid : Prop := Claim7.holds Tryd.pinned (.plain (OpenSpec.ofChange nanFirstSpec)) nanFirstCard

/-- THE SECOND FORM's CARD OF 'hairsbreadthlaw10.NanFirst'. -/
def nanFirstUptoCard : Claim7 := { stood := { row := nanFirstUptoRow, standIns := [], harness := (true, "0a98959389bb2f50d0b86d3ecef71d05915475794f1886d572f5fe99367d64eb"), looks := false }, kinds := [], alts := [], laidByText := true, laidKinds := [.data], laidTests := true, laidLooks := .later }
def NanFirstUptoCardSaid : Prop := Claim7.holds Tryd.pinned (.plain (OpenSpec.upto nanFirstSpec)) nanFirstUptoCard
end Rows
end Go.Proofs.YtmnoghkbmkiplaaDoor
