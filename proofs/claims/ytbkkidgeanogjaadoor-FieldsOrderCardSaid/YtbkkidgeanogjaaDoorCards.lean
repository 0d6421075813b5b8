/-
  DERIVED. GIVEN WITH THE SEED: THE CARDS: each row of YtbkkidgeanogjaaDoorRows.lean that lists a variable, with what it lists TIED to the program's text (the seventh form; the later family's looks); each row that meets fmt, with fmt's text TOLD by the authors' own Lean function (tested against real Go, not proved from fmt's source: count such statements apart). THE CARD IS WHAT COUNTS. Prove the row's statement (the work); the ties are given (YtbkkidgeanogjaaDoorTie.lean); close each card by the builder's one call (the guide's Derived/Test/ToyasCard.lean, 'card_holds'). Laid BY PROGRAM, IN A SANDBOX (cutbox-door.mjs). By AI agents, Wed Nov 11 2026. No macro, syntax, notation, axiom, sorry.
-/
import Derived.Test.YtbkkidgeanogjaaDoorRows
import GoSem.ClaimSeven
namespace Go.Proofs.YtbkkidgeanogjaaDoor
namespace Rows

/-- THE TIED CARD OF 'hairsbreadthlaw09.FieldsOrder'. -/
def fieldsOrderCard : Claim7 := { stood := { row := fieldsOrderRow, standIns := [], harness := (true, "59d05c90e14cd1c323024f143b5acaeb82f87770def03899b42369e62cd0d4af"), looks := false }, kinds := [], alts := [], laidByText := true, laidKinds := [.data], laidTests := true, laidLooks := .later }
def FieldsOrderCardSaid : Prop := Claim7.holds Tryd.pinned (.plain (OpenSpec.ofChange fieldsOrderSpec)) fieldsOrderCard

/-- THE TIED CARD OF 'hairsbreadthlaw10.NanFirst'. -/
def nanFirstCard : Claim7 := { stood := { row := nanFirstRow, standIns := [], harness := (true, "59d05c90e14cd1c323024f143b5acaeb82f87770def03899b42369e62cd0d4af"), looks := false }, kinds := [], alts := [], laidByText := true, laidKinds := [.data], laidTests := true, laidLooks := .later }
def NanFirstCardSaid : Prop := Claim7.holds Tryd.pinned (.plain (OpenSpec.ofChange nanFirstSpec)) nanFirstCard

/-- THE TIED CARD OF 'hairsbreadthlaw09.FieldsKnown'. -/
def fieldsKnownCard : Claim7 := { stood := { row := fieldsKnownRow, standIns := [], harness := (true, "59d05c90e14cd1c323024f143b5acaeb82f87770def03899b42369e62cd0d4af"), looks := false }, kinds := [], alts := [], laidByText := true, laidKinds := [.data], laidTests := true, laidLooks := .later }
def FieldsKnownCardSaid : Prop := Claim7.holds Tryd.pinned (.plain (OpenSpec.ofChange fieldsKnownSpec)) fieldsKnownCard

/-- THE SECOND FORM's CARD OF 'hairsbreadthlaw09.FieldsOrder'. -/
def fieldsOrderUptoCard : Claim7 := { stood := { row := fieldsOrderUptoRow, standIns := [], harness := (true, "59d05c90e14cd1c323024f143b5acaeb82f87770def03899b42369e62cd0d4af"), looks := false }, kinds := [], alts := [], laidByText := true, laidKinds := [.data], laidTests := true, laidLooks := .later }
def FieldsOrderUptoCardSaid : Prop := Claim7.holds Tryd.pinned (.plain (OpenSpec.upto fieldsOrderSpec)) fieldsOrderUptoCard

/-- THE SECOND FORM's CARD OF 'hairsbreadthlaw10.NanFirst'. -/
def nanFirstUptoCard : Claim7 := { stood := { row := nanFirstUptoRow, standIns := [], harness := (true, "59d05c90e14cd1c323024f143b5acaeb82f87770def03899b42369e62cd0d4af"), looks := false }, kinds := [], alts := [], laidByText := true, laidKinds := [.data], laidTests := true, laidLooks := .later }
def NanFirstUptoCardSaid : Prop := Claim7.holds Tryd.pinned (.plain (OpenSpec.upto nanFirstSpec)) nanFirstUptoCard

/-- THE SECOND FORM's CARD OF 'hairsbreadthlaw09.FieldsKnown'. -/
def fieldsKnownUptoCard : Claim7 := { stood := { row := fieldsKnownUptoRow, standIns := [], harness := (true, "59d05c90e14cd1c323024f143b5acaeb82f87770def03899b42369e62cd0d4af"), looks := false }, kinds := [], alts := [], laidByText := true, laidKinds := [.data], laidTests := true, laidLooks := .later }
def FieldsKnownUptoCardSaid : Prop := Claim7.holds Tryd.pinned (.plain (OpenSpec.upto fieldsKnownSpec)) fieldsKnownUptoCard
end Rows
end Go.Proofs.YtbkkidgeanogjaaDoor
