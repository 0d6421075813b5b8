/-
  DERIVED. GIVEN WITH THE SEED: THE CARDS: each row of YtkkbenhmgfohiaaDoorRows.lean that lists a variable, with what it lists TIED to the program's text (the seventh form; the later family's looks); each row that meets fmt, with fmt's text TOLD by the authors' own Lean function (tested against real Go, not proved from fmt's source: count such statements apart). THE CARD IS WHAT COUNTS. Prove the row's statement (the work); the ties are given (YtkkbenhmgfohiaaDoorTie.lean); close each card by the builder's one call (the guide's Derived/Test/ToyasCard.lean, 'card_holds'). Laid BY PROGRAM, IN A SANDBOX (cutbox-door.mjs). By AI agents, Wed Nov 11 2026. No macro, syntax, notation, axiom, sorry.
-/
import Derived.Test.YtkkbenhmgfohiaaDoorRows
import GoSem.ClaimSeven
namespace Go.Proofs.YtkkbenhmgfohiaaDoor
namespace Rows

/-- THE TIED CARD OF 'hairsbreadthlaw11.PayloadMoves'. -/
def payloadMovesCard : Claim7 := { stood := { row := payloadMovesRow, standIns := [], harness := (true, "01a93d811fe181a92be86b19ffd7c824f6e6c885aa06624f59d768346cdc2694"), looks := false }, kinds := [], alts := [], laidByText := true, laidKinds := [.data], laidTests := true, laidLooks := .later }
def PayloadMovesCardSaid : Prop := Claim7.holds Tryd.pinned (.plain (OpenSpec.ofChange payloadMovesSpec)) payloadMovesCard

/-- THE TIED CARD OF 'hairsbreadthlaw11.PayloadOn'. -/
def payloadOnCard : Claim7 := { stood := { row := payloadOnRow, standIns := [], harness := (true, "01a93d811fe181a92be86b19ffd7c824f6e6c885aa06624f59d768346cdc2694"), looks := false }, kinds := [], alts := [], laidByText := true, laidKinds := [.data], laidTests := true, laidLooks := .later }
def PayloadOnCardSaid : Prop := Claim7.holds Tryd.pinned (.plain (OpenSpec.ofChange payloadOnSpec)) payloadOnCard

/-- THE TIED CARD OF 'hairsbreadthlaw11.PayloadKnown'. -/
def payloadKnownCard : Claim7 := { stood := { row := payloadKnownRow, standIns := [], harness := (true, "01a93d811fe181a92be86b19ffd7c824f6e6c885aa06624f59d768346cdc2694"), looks := false }, kinds := [], alts := [], laidByText := true, laidKinds := [.data], laidTests := true, laidLooks := .later }
def PayloadKnownCardSaid : Prop := Claim7.holds Tryd.pinned (.plain (OpenSpec.ofChange payloadKnownSpec)) payloadKnownCard

/-- THE TIED CARD OF 'hairsbreadthlaw11.PayloadBack'. -/
def payloadBackCard : Claim7 := { stood := { row := payloadBackRow, standIns := [], harness := (true, "01a93d811fe181a92be86b19ffd7c824f6e6c885aa06624f59d768346cdc2694"), looks := false }, kinds := [], alts := [], laidByText := true, laidKinds := [.data], laidTests := true, laidLooks := .later }
def PayloadBackCardSaid : Prop := Claim7.holds Tryd.pinned (.plain (OpenSpec.ofChange payloadBackSpec)) payloadBackCard

/-- THE TIED CARD OF 'hairsbreadthlaw11.PayloadNone'. -/
def payloadNoneCard : Claim7 := { stood := { row := payloadNoneRow, standIns := [], harness := (true, "01a93d811fe181a92be86b19ffd7c824f6e6c885aa06624f59d768346cdc2694"), looks := false }, kinds := [], alts := [], laidByText := true, laidKinds := [.data], laidTests := true, laidLooks := .later }
def PayloadNoneCardSaid : Prop := Claim7.holds Tryd.pinned (.plain (OpenSpec.ofChange payloadNoneSpec)) payloadNoneCard

/-- THE TIED CARD OF 'hairsbreadthlaw10.NanQuiets'. -/
def nanQuietsCard : Claim7 := { stood := { row := nanQuietsRow, standIns := [], harness := (true, "01a93d811fe181a92be86b19ffd7c824f6e6c885aa06624f59d768346cdc2694"), looks := false }, kinds := [], alts := [], laidByText := true, laidKinds := [.data], laidTests := true, laidLooks := .later }
def NanQuietsCardSaid : Prop := Claim7.holds Tryd.pinned (.plain (OpenSpec.ofChange nanQuietsSpec)) nanQuietsCard

/-- THE TIED CARD OF 'hairsbreadthlaw10.NanPicks'. -/
def nanPicksCard : Claim7 := { stood := { row := nanPicksRow, standIns := [], harness := (true, "01a93d811fe181a92be86b19ffd7c824f6e6c885aa06624f59d768346cdc2694"), looks := false }, kinds := [], alts := [], laidByText := true, laidKinds := [.data], laidTests := true, laidLooks := .later }
def NanPicksCardSaid : Prop := Claim7.holds Tryd.pinned (.plain (OpenSpec.ofChange nanPicksSpec)) nanPicksCard

/-- THE TIED CARD OF 'hairsbreadthlaw10.NanFirst'. -/
def nanFirstCard : Claim7 := { stood := { row := nanFirstRow, standIns := [], harness := (true, "01a93d811fe181a92be86b19ffd7c824f6e6c885aa06624f59d768346cdc2694"), looks := false }, kinds := [], alts := [], laidByText := true, laidKinds := [.data], laidTests := true, laidLooks := .later }
def NanFirstCardSaid : Prop := Claim7.holds Tryd.pinned (.plain (OpenSpec.ofChange nanFirstSpec)) nanFirstCard

/-- THE TIED CARD OF 'hairsbreadthlaw10.NanKnown'. -/
def nanKnownCard : Claim7 := { stood := { row := nanKnownRow, standIns := [], harness := (true, "01a93d811fe181a92be86b19ffd7c824f6e6c885aa06624f59d768346cdc2694"), looks := false }, kinds := [], alts := [], laidByText := true, laidKinds := [.data], laidTests := true, laidLooks := .later }
def NanKnownCardSaid : Prop := Claim7.holds Tryd.pinned (.plain (OpenSpec.ofChange nanKnownSpec)) nanKnownCard

/-- THE TIED CARD OF 'hairsbreadthlaw10.NanAnswers'. -/
def nanAnswersCard : Claim7 := { stood := { row := nanAnswersRow, standIns := [], harness := (true, "01a93d811fe181a92be86b19ffd7c824f6e6c885aa06624f59d768346cdc2694"), looks := false }, kinds := [], alts := [], laidByText := true, laidKinds := [.data], laidTests := true, laidLooks := .later }
def NanAnswersCardSaid : Prop := Claim7.holds Tryd.pinned (.plain (OpenSpec.ofChange nanAnswersSpec)) nanAnswersCard

/-- THE TIED CARD OF 'hairsbreadthlaw10.NanStays'. -/
def nanStaysCard : Claim7 := { stood := { row := nanStaysRow, standIns := [], harness := (true, "01a93d811fe181a92be86b19ffd7c824f6e6c885aa06624f59d768346cdc2694"), looks := false }, kinds := [], alts := [], laidByText := true, laidKinds := [.data], laidTests := true, laidLooks := .later }
def NanStaysCardSaid : Prop := Claim7.holds Tryd.pinned (.plain (OpenSpec.ofChange nanStaysSpec)) nanStaysCard

/-- THE SECOND FORM's CARD OF 'hairsbreadthlaw11.PayloadMoves'. -/
def payloadMovesUptoCard : Claim7 := { stood := { row := payloadMovesUptoRow, standIns := [], harness := (true, "01a93d811fe181a92be86b19ffd7c824f6e6c885aa06624f59d768346cdc2694"), looks := false }, kinds := [], alts := [], laidByText := true, laidKinds := [.data], laidTests := true, laidLooks := .later }
def PayloadMovesUptoCardSaid : Prop := Claim7.holds Tryd.pinned (.plain (OpenSpec.upto payloadMovesSpec)) payloadMovesUptoCard

/-- THE SECOND FORM's CARD OF 'hairsbreadthlaw11.PayloadOn'. -/
def payloadOnUptoCard : Claim7 := { stood := { row := payloadOnUptoRow, standIns := [], harness := (true, "01a93d811fe181a92be86b19ffd7c824f6e6c885aa06624f59d768346cdc2694"), looks := false }, kinds := [], alts := [], laidByText := true, laidKinds := [.data], laidTests := true, laidLooks := .later }
def PayloadOnUptoCardSaid : Prop := Claim7.holds Tryd.pinned (.plain (OpenSpec.upto payloadOnSpec)) payloadOnUptoCard

/-- THE SECOND FORM's CARD OF 'hairsbreadthlaw11.PayloadKnown'. -/
def payloadKnownUptoCard : Claim7 := { stood := { row := payloadKnownUptoRow, standIns := [], harness := (true, "01a93d811fe181a92be86b19ffd7c824f6e6c885aa06624f59d768346cdc2694"), looks := false }, kinds := [], alts := [], laidByText := true, laidKinds := [.data], laidTests := true, laidLooks := .later }
def PayloadKnownUptoCardSaid : Prop := Claim7.holds Tryd.pinned (.plain (OpenSpec.upto payloadKnownSpec)) payloadKnownUptoCard

/-- THE SECOND FORM's CARD OF 'hairsbreadthlaw11.PayloadBack'. -/
def payloadBackUptoCard : Claim7 := { stood := { row := payloadBackUptoRow, standIns := [], harness := (true, "01a93d811fe181a92be86b19ffd7c824f6e6c885aa06624f59d768346cdc2694"), looks := false }, kinds := [], alts := [], laidByText := true, laidKinds := [.data], laidTests := true, laidLooks := .later }
def PayloadBackUptoCardSaid : Prop := Claim7.holds Tryd.pinned (.plain (OpenSpec.upto payloadBackSpec)) payloadBackUptoCard

/-- THE SECOND FORM's CARD OF 'hairsbreadthlaw11.PayloadNone'. -/
def payloadNoneUptoCard : Claim7 := { stood := { row := payloadNoneUptoRow, standIns := [], harness := (true, "01a93d811fe181a92be86b19ffd7c824f6e6c885aa06624f59d768346cdc2694"), looks := false }, kinds := [], alts := [], laidByText := true, laidKinds := [.data], laidTests := true, laidLooks := .later }
def PayloadNoneUptoCardSaid : Prop := Claim7.holds Tryd.pinned (.plain (OpenSpec.upto payloadNoneSpec)) payloadNoneUptoCard

/-- THE SECOND FORM's CARD OF 'hairsbreadthlaw10.NanQuiets'. -/
def nanQuietsUptoCard : Claim7 := { stood := { row := nanQuietsUptoRow, standIns := [], harness := (true, "01a93d811fe181a92be86b19ffd7c824f6e6c885aa06624f59d768346cdc2694"), looks := false }, kinds := [], alts := [], laidByText := true, laidKinds := [.data], laidTests := true, laidLooks := .later }
def NanQuietsUptoCardSaid : Prop := Claim7.holds Tryd.pinned (.plain (OpenSpec.upto nanQuietsSpec)) nanQuietsUptoCard

/-- THE SECOND FORM's CARD OF 'hairsbreadthlaw10.NanPicks'. -/
def nanPicksUptoCard : Claim7 := { stood := { row := nanPicksUptoRow, standIns := [], harness := (true, "01a93d811fe181a92be86b19ffd7c824f6e6c885aa06624f59d768346cdc2694"), looks := false }, kinds := [], alts := [], laidByText := true, laidKinds := [.data], laidTests := true, laidLooks := .later }
def NanPicksUptoCardSaid : Prop := Claim7.holds Tryd.pinned (.plain (OpenSpec.upto nanPicksSpec)) nanPicksUptoCard

/-- THE SECOND FORM's CARD OF 'hairsbreadthlaw10.NanFirst'. -/
def nanFirstUptoCard : Claim7 := { stood := { row := nanFirstUptoRow, standIns := [], harness := (true, "01a93d811fe181a92be86b19ffd7c824f6e6c885aa06624f59d768346cdc2694"), looks := false }, kinds := [], alts := [], laidByText := true, laidKinds := [.data], laidTests := true, laidLooks := .later }
def NanFirstUptoCardSaid : Prop := Claim7.holds Tryd.pinned (.plain (OpenSpec.upto nanFirstSpec)) nanFirstUptoCard

/-- THE SECOND FORM's CARD OF 'hairsbreadthlaw10.NanKnown'. -/
def nanKnownUptoCard : Claim7 := { stood := { row := nanKnownUptoRow, standIns := [], harness := (true, "01a93d811fe181a92be86b19ffd7c824f6e6c885aa06624f59d768346cdc2694"), looks := false }, kinds := [], alts := [], laidByText := true, laidKinds := [.data], laidTests := true, laidLooks := .later }
def NanKnownUptoCardSaid : Prop := Claim7.holds Tryd.pinned (.plain (OpenSpec.upto nanKnownSpec)) nanKnownUptoCard

/-- THE SECOND FORM's CARD OF 'hairsbreadthlaw10.NanAnswers'. -/
def nanAnswersUptoCard : Claim7 := { stood := { row := nanAnswersUptoRow, standIns := [], harness := (true, "01a93d811fe181a92be86b19ffd7c824f6e6c885aa06624f59d768346cdc2694"), looks := false }, kinds := [], alts := [], laidByText := true, laidKinds := [.data], laidTests := true, laidLooks := .later }
def NanAnswersUptoCardSaid : Prop := Claim7.holds Tryd.pinned (.plain (OpenSpec.upto nanAnswersSpec)) nanAnswersUptoCard

/-- THE SECOND FORM's CARD OF 'hairsbreadthlaw10.NanStays'. -/
def nanStaysUptoCard : Claim7 := { stood := { row := nanStaysUptoRow, standIns := [], harness := (true, "01a93d811fe181a92be86b19ffd7c824f6e6c885aa06624f59d768346cdc2694"), looks := false }, kinds := [], alts := [], laidByText := true, laidKinds := [.data], laidTests := true, laidLooks := .later }
def NanStaysUptoCardSaid : Prop := Claim7.holds Tryd.pinned (.plain (OpenSpec.upto nanStaysSpec)) nanStaysUptoCard
end Rows
end Go.Proofs.YtkkbenhmgfohiaaDoor
