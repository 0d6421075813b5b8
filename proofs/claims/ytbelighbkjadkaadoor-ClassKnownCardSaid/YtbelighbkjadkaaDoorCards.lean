/-
  DERIVED. GIVEN WITH THE SEED: THE CARDS: each row of YtbelighbkjadkaaDoorRows.lean that lists a variable, with what it lists TIED to the program's text (the seventh form; the later family's looks); each row that meets fmt, with fmt's text TOLD by the authors' own Lean function (tested against real Go, not proved from fmt's source: count such statements apart). THE CARD IS WHAT COUNTS. Prove the row's statement (the work); the ties are given (YtbelighbkjadkaaDoorTie.lean); close each card by the builder's one call (the guide's Derived/Test/ToyasCard.lean, 'card_holds'). Laid BY PROGRAM, IN A SANDBOX (cutbox-door.mjs). By AI agents, Wed Nov 11 2026. No macro, syntax, notation, axiom, sorry.
-/
import Derived.Test.YtbelighbkjadkaaDoorRows
import GoSem.ClaimSeven
namespace Go.Proofs.YtbelighbkjadkaaDoor
namespace Rows

/-- THE TIED CARD OF 'hairsbreadthlaw07.FormatFields'. -/
def formatFieldsCard : Claim7 := { stood := { row := formatFieldsRow, standIns := [], harness := (true, "54a83773c35dcefca6f8541ee6d0deaccb2a16b0da1f45f6ef439ff27432620b"), looks := false }, kinds := [], alts := [], laidByText := true, laidKinds := [.data], laidTests := true, laidLooks := .later }
def FormatFieldsCardSaid : Prop := Claim7.holds Tryd.pinned (.plain (OpenSpec.ofChange formatFieldsSpec)) formatFieldsCard

/-- THE TIED CARD OF 'hairsbreadthlaw04.CountTwo'. -/
def countTwoCard : Claim7 := { stood := { row := countTwoRow, standIns := [], harness := (true, "54a83773c35dcefca6f8541ee6d0deaccb2a16b0da1f45f6ef439ff27432620b"), looks := false }, kinds := [], alts := [], laidByText := true, laidKinds := [.data], laidTests := true, laidLooks := .later }
def CountTwoCardSaid : Prop := Claim7.holds Tryd.pinned (.plain (OpenSpec.ofChange countTwoSpec)) countTwoCard

/-- THE TIED CARD OF 'hairsbreadthlaw04.CountFour'. -/
def countFourCard : Claim7 := { stood := { row := countFourRow, standIns := [], harness := (true, "54a83773c35dcefca6f8541ee6d0deaccb2a16b0da1f45f6ef439ff27432620b"), looks := false }, kinds := [], alts := [], laidByText := true, laidKinds := [.data], laidTests := true, laidLooks := .later }
def CountFourCardSaid : Prop := Claim7.holds Tryd.pinned (.plain (OpenSpec.ofChange countFourSpec)) countFourCard

/-- THE TIED CARD OF 'hairsbreadthlaw08.ClassOf'. -/
def classOfCard : Claim7 := { stood := { row := classOfRow, standIns := [], harness := (true, "54a83773c35dcefca6f8541ee6d0deaccb2a16b0da1f45f6ef439ff27432620b"), looks := false }, kinds := [], alts := [], laidByText := true, laidKinds := [.data], laidTests := true, laidLooks := .later }
def ClassOfCardSaid : Prop := Claim7.holds Tryd.pinned (.plain (OpenSpec.ofChange classOfSpec)) classOfCard

/-- THE TIED CARD OF 'hairsbreadthlaw07.FormatNumbers'. -/
def formatNumbersCard : Claim7 := { stood := { row := formatNumbersRow, standIns := [], harness := (true, "54a83773c35dcefca6f8541ee6d0deaccb2a16b0da1f45f6ef439ff27432620b"), looks := false }, kinds := [], alts := [], laidByText := true, laidKinds := [.data], laidTests := true, laidLooks := .later }
def FormatNumbersCardSaid : Prop := Claim7.holds Tryd.pinned (.plain (OpenSpec.ofChange formatNumbersSpec)) formatNumbersCard

/-- THE TIED CARD OF 'hairsbreadthlaw08.ClassAny'. -/
def classAnyCard : Claim7 := { stood := { row := classAnyRow, standIns := [], harness := (true, "54a83773c35dcefca6f8541ee6d0deaccb2a16b0da1f45f6ef439ff27432620b"), looks := false }, kinds := [], alts := [], laidByText := true, laidKinds := [.data], laidTests := true, laidLooks := .later }
def ClassAnyCardSaid : Prop := Claim7.holds Tryd.pinned (.plain (OpenSpec.ofChange classAnySpec)) classAnyCard

/-- THE TIED CARD OF 'hairsbreadthlaw08.ClassKnown'. -/
def classKnownCard : Claim7 := { stood := { row := classKnownRow, standIns := [], harness := (true, "54a83773c35dcefca6f8541ee6d0deaccb2a16b0da1f45f6ef439ff27432620b"), looks := false }, kinds := [], alts := [], laidByText := true, laidKinds := [.data], laidTests := true, laidLooks := .later }
def ClassKnownCardSaid : Prop := Claim7.holds Tryd.pinned (.plain (OpenSpec.ofChange classKnownSpec)) classKnownCard

/-- THE TIED CARD OF 'hairsbreadthlaw11.PayloadMoves'. -/
def payloadMovesCard : Claim7 := { stood := { row := payloadMovesRow, standIns := [], harness := (true, "54a83773c35dcefca6f8541ee6d0deaccb2a16b0da1f45f6ef439ff27432620b"), looks := false }, kinds := [], alts := [], laidByText := true, laidKinds := [.data], laidTests := true, laidLooks := .later }
def PayloadMovesCardSaid : Prop := Claim7.holds Tryd.pinned (.plain (OpenSpec.ofChange payloadMovesSpec)) payloadMovesCard

/-- THE TIED CARD OF 'hairsbreadthlaw10.NanQuiets'. -/
def nanQuietsCard : Claim7 := { stood := { row := nanQuietsRow, standIns := [], harness := (true, "54a83773c35dcefca6f8541ee6d0deaccb2a16b0da1f45f6ef439ff27432620b"), looks := false }, kinds := [], alts := [], laidByText := true, laidKinds := [.data], laidTests := true, laidLooks := .later }
def NanQuietsCardSaid : Prop := Claim7.holds Tryd.pinned (.plain (OpenSpec.ofChange nanQuietsSpec)) nanQuietsCard

/-- THE TIED CARD OF 'hairsbreadthlaw10.NanPicks'. -/
def nanPicksCard : Claim7 := { stood := { row := nanPicksRow, standIns := [], harness := (true, "54a83773c35dcefca6f8541ee6d0deaccb2a16b0da1f45f6ef439ff27432620b"), looks := false }, kinds := [], alts := [], laidByText := true, laidKinds := [.data], laidTests := true, laidLooks := .later }
def NanPicksCardSaid : Prop := Claim7.holds Tryd.pinned (.plain (OpenSpec.ofChange nanPicksSpec)) nanPicksCard

/-- THE TIED CARD OF 'hairsbreadthlaw09.FieldsUnpack'. -/
def fieldsUnpackCard : Claim7 := { stood := { row := fieldsUnpackRow, standIns := [], harness := (true, "54a83773c35dcefca6f8541ee6d0deaccb2a16b0da1f45f6ef439ff27432620b"), looks := false }, kinds := [], alts := [], laidByText := true, laidKinds := [.data], laidTests := true, laidLooks := .later }
def FieldsUnpackCardSaid : Prop := Claim7.holds Tryd.pinned (.plain (OpenSpec.ofChange fieldsUnpackSpec)) fieldsUnpackCard

/-- THE TIED CARD OF 'hairsbreadthlaw09.FieldsPack'. -/
def fieldsPackCard : Claim7 := { stood := { row := fieldsPackRow, standIns := [], harness := (true, "54a83773c35dcefca6f8541ee6d0deaccb2a16b0da1f45f6ef439ff27432620b"), looks := false }, kinds := [], alts := [], laidByText := true, laidKinds := [.data], laidTests := true, laidLooks := .later }
def FieldsPackCardSaid : Prop := Claim7.holds Tryd.pinned (.plain (OpenSpec.ofChange fieldsPackSpec)) fieldsPackCard

/-- THE SECOND FORM's CARD OF 'hairsbreadthlaw07.FormatFields'. -/
def formatFieldsUptoCard : Claim7 := { stood := { row := formatFieldsUptoRow, standIns := [], harness := (true, "54a83773c35dcefca6f8541ee6d0deaccb2a16b0da1f45f6ef439ff27432620b"), looks := false }, kinds := [], alts := [], laidByText := true, laidKinds := [.data], laidTests := true, laidLooks := .later }
def FormatFieldsUptoCardSaid : Prop := Claim7.holds Tryd.pinned (.plain (OpenSpec.upto formatFieldsSpec)) formatFieldsUptoCard

/-- THE SECOND FORM's CARD OF 'hairsbreadthlaw04.CountTwo'. -/
def countTwoUptoCard : Claim7 := { stood := { row := countTwoUptoRow, standIns := [], harness := (true, "54a83773c35dcefca6f8541ee6d0deaccb2a16b0da1f45f6ef439ff27432620b"), looks := false }, kinds := [], alts := [], laidByText := true, laidKinds := [.data], laidTests := true, laidLooks := .later }
def CountTwoUptoCardSaid : Prop := Claim7.holds Tryd.pinned (.plain (OpenSpec.upto countTwoSpec)) countTwoUptoCard

/-- THE SECOND FORM's CARD OF 'hairsbreadthlaw04.CountFour'. -/
def countFourUptoCard : Claim7 := { stood := { row := countFourUptoRow, standIns := [], harness := (true, "54a83773c35dcefca6f8541ee6d0deaccb2a16b0da1f45f6ef439ff27432620b"), looks := false }, kinds := [], alts := [], laidByText := true, laidKinds := [.data], laidTests := true, laidLooks := .later }
def CountFourUptoCardSaid : Prop := Claim7.holds Tryd.pinned (.plain (OpenSpec.upto countFourSpec)) countFourUptoCard

/-- THE SECOND FORM's CARD OF 'hairsbreadthlaw08.ClassOf'. -/
def classOfUptoCard : Claim7 := { stood := { row := classOfUptoRow, standIns := [], harness := (true, "54a83773c35dcefca6f8541ee6d0deaccb2a16b0da1f45f6ef439ff27432620b"), looks := false }, kinds := [], alts := [], laidByText := true, laidKinds := [.data], laidTests := true, laidLooks := .later }
def ClassOfUptoCardSaid : Prop := Claim7.holds Tryd.pinned (.plain (OpenSpec.upto classOfSpec)) classOfUptoCard

/-- THE SECOND FORM's CARD OF 'hairsbreadthlaw07.FormatNumbers'. -/
def formatNumbersUptoCard : Claim7 := { stood := { row := formatNumbersUptoRow, standIns := [], harness := (true, "54a83773c35dcefca6f8541ee6d0deaccb2a16b0da1f45f6ef439ff27432620b"), looks := false }, kinds := [], alts := [], laidByText := true, laidKinds := [.data], laidTests := true, laidLooks := .later }
def FormatNumbersUptoCardSaid : Prop := Claim7.holds Tryd.pinned (.plain (OpenSpec.upto formatNumbersSpec)) formatNumbersUptoCard

/-- THE SECOND FORM's CARD OF 'hairsbreadthlaw08.ClassAny'. -/
def classAnyUptoCard : Claim7 := { stood := { row := classAnyUptoRow, standIns := [], harness := (true, "54a83773c35dcefca6f8541ee6d0deaccb2a16b0da1f45f6ef439ff27432620b"), looks := false }, kinds := [], alts := [], laidByText := true, laidKinds := [.data], laidTests := true, laidLooks := .later }
def ClassAnyUptoCardSaid : Prop := Claim7.holds Tryd.pinned (.plain (OpenSpec.upto classAnySpec)) classAnyUptoCard

/-- THE SECOND FORM's CARD OF 'hairsbreadthlaw08.ClassKnown'. -/
def classKnownUptoCard : Claim7 := { stood := { row := classKnownUptoRow, standIns := [], harness := (true, "54a83773c35dcefca6f8541ee6d0deaccb2a16b0da1f45f6ef439ff27432620b"), looks := false }, kinds := [], alts := [], laidByText := true, laidKinds := [.data], laidTests := true, laidLooks := .later }
def ClassKnownUptoCardSaid : Prop := Claim7.holds Tryd.pinned (.plain (OpenSpec.upto classKnownSpec)) classKnownUptoCard

/-- THE SECOND FORM's CARD OF 'hairsbreadthlaw11.PayloadMoves'. -/
def payloadMovesUptoCard : Claim7 := { stood := { row := payloadMovesUptoRow, standIns := [], harness := (true, "54a83773c35dcefca6f8541ee6d0deaccb2a16b0da1f45f6ef439ff27432620b"), looks := false }, kinds := [], alts := [], laidByText := true, laidKinds := [.data], laidTests := true, laidLooks := .later }
def PayloadMovesUptoCardSaid : Prop := Claim7.holds Tryd.pinned (.plain (OpenSpec.upto payloadMovesSpec)) payloadMovesUptoCard

/-- THE SECOND FORM's CARD OF 'hairsbreadthlaw10.NanQuiets'. -/
def nanQuietsUptoCard : Claim7 := { stood := { row := nanQuietsUptoRow, standIns := [], harness := (true, "54a83773c35dcefca6f8541ee6d0deaccb2a16b0da1f45f6ef439ff27432620b"), looks := false }, kinds := [], alts := [], laidByText := true, laidKinds := [.data], laidTests := true, laidLooks := .later }
def NanQuietsUptoCardSaid : Prop := Claim7.holds Tryd.pinned (.plain (OpenSpec.upto nanQuietsSpec)) nanQuietsUptoCard

/-- THE SECOND FORM's CARD OF 'hairsbreadthlaw10.NanPicks'. -/
def nanPicksUptoCard : Claim7 := { stood := { row := nanPicksUptoRow, standIns := [], harness := (true, "54a83773c35dcefca6f8541ee6d0deaccb2a16b0da1f45f6ef439ff27432620b"), looks := false }, kinds := [], alts := [], laidByText := true, laidKinds := [.data], laidTests := true, laidLooks := .later }
def NanPicksUptoCardSaid : Prop := Claim7.holds Tryd.pinned (.plain (OpenSpec.upto nanPicksSpec)) nanPicksUptoCard

/-- THE SECOND FORM's CARD OF 'hairsbreadthlaw09.FieldsUnpack'. -/
def fieldsUnpackUptoCard : Claim7 := { stood := { row := fieldsUnpackUptoRow, standIns := [], harness := (true, "54a83773c35dcefca6f8541ee6d0deaccb2a16b0da1f45f6ef439ff27432620b"), looks := false }, kinds := [], alts := [], laidByText := true, laidKinds := [.data], laidTests := true, laidLooks := .later }
def FieldsUnpackUptoCardSaid : Prop := Claim7.holds Tryd.pinned (.plain (OpenSpec.upto fieldsUnpackSpec)) fieldsUnpackUptoCard

/-- THE SECOND FORM's CARD OF 'hairsbreadthlaw09.FieldsPack'. -/
def fieldsPackUptoCard : Claim7 := { stood := { row := fieldsPackUptoRow, standIns := [], harness := (true, "54a83773c35dcefca6f8541ee6d0deaccb2a16b0da1f45f6ef439ff27432620b"), looks := false }, kinds := [], alts := [], laidByText := true, laidKinds := [.data], laidTests := true, laidLooks := .later }
def FieldsPackUptoCardSaid : Prop := Claim7.holds Tryd.pinned (.plain (OpenSpec.upto fieldsPackSpec)) fieldsPackUptoCard
end Rows
end Go.Proofs.YtbelighbkjadkaaDoor
