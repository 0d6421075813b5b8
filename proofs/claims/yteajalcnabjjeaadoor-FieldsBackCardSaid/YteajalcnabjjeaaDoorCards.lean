/-
  DERIVED. GIVEN WITH THE SEED: THE CARDS: each row of YteajalcnabjjeaaDoorRows.lean that lists a variable, with what it lists TIED to the program's text (the seventh form; the later family's looks); each row that meets fmt, with fmt's text TOLD by the authors' own Lean function (tested against real Go, not proved from fmt's source: count such statements apart). THE CARD IS WHAT COUNTS. Prove the row's statement (the work); the ties are given (YteajalcnabjjeaaDoorTie.lean); close each card by the builder's one call (the guide's Derived/Test/ToyasCard.lean, 'card_holds'). Laid BY PROGRAM, IN A SANDBOX (cutbox-door.mjs). By AI agents, Wed Nov 11 2026. No macro, syntax, notation, axiom, sorry.
-/
import Derived.Test.YteajalcnabjjeaaDoorRows
import GoSem.ClaimSeven
namespace Go.Proofs.YteajalcnabjjeaaDoor
namespace Rows

/-- THE TIED CARD OF 'hairsbreadthlaw04.CountKnown'. -/
def countKnownCard : Claim7 := { stood := { row := countKnownRow, standIns := [], harness := (true, "35c1163cbf6596f0fd1ba2ae7457a378af99b2fd5ddc313a5a5190427835be3c"), looks := false }, kinds := [], alts := [], laidByText := true, laidKinds := [.data], laidTests := true, laidLooks := .later }
def CountKnownCardSaid : Prop := Claim7.holds Tryd.pinned (.plain (OpenSpec.ofChange countKnownSpec)) countKnownCard

/-- THE TIED CARD OF 'hairsbreadthlaw09.FieldsWide'. -/
def fieldsWideCard : Claim7 := { stood := { row := fieldsWideRow, standIns := [], harness := (true, "35c1163cbf6596f0fd1ba2ae7457a378af99b2fd5ddc313a5a5190427835be3c"), looks := false }, kinds := [], alts := [], laidByText := true, laidKinds := [.data], laidTests := true, laidLooks := .later }
def FieldsWideCardSaid : Prop := Claim7.holds Tryd.pinned (.plain (OpenSpec.ofChange fieldsWideSpec)) fieldsWideCard

/-- THE TIED CARD OF 'hairsbreadthlaw04.CountTail'. -/
def countTailCard : Claim7 := { stood := { row := countTailRow, standIns := [], harness := (true, "35c1163cbf6596f0fd1ba2ae7457a378af99b2fd5ddc313a5a5190427835be3c"), looks := false }, kinds := [], alts := [], laidByText := true, laidKinds := [.data], laidTests := true, laidLooks := .later }
def CountTailCardSaid : Prop := Claim7.holds Tryd.pinned (.plain (OpenSpec.ofChange countTailSpec)) countTailCard

/-- THE TIED CARD OF 'hairsbreadthlaw09.FieldsOrder'. -/
def fieldsOrderCard : Claim7 := { stood := { row := fieldsOrderRow, standIns := [], harness := (true, "35c1163cbf6596f0fd1ba2ae7457a378af99b2fd5ddc313a5a5190427835be3c"), looks := false }, kinds := [], alts := [], laidByText := true, laidKinds := [.data], laidTests := true, laidLooks := .later }
def FieldsOrderCardSaid : Prop := Claim7.holds Tryd.pinned (.plain (OpenSpec.ofChange fieldsOrderSpec)) fieldsOrderCard

/-- THE TIED CARD OF 'hairsbreadthlaw04.CountBack'. -/
def countBackCard : Claim7 := { stood := { row := countBackRow, standIns := [], harness := (true, "35c1163cbf6596f0fd1ba2ae7457a378af99b2fd5ddc313a5a5190427835be3c"), looks := false }, kinds := [], alts := [], laidByText := true, laidKinds := [.data], laidTests := true, laidLooks := .later }
def CountBackCardSaid : Prop := Claim7.holds Tryd.pinned (.plain (OpenSpec.ofChange countBackSpec)) countBackCard

/-- THE TIED CARD OF 'hairsbreadthlaw04.CountShift'. -/
def countShiftCard : Claim7 := { stood := { row := countShiftRow, standIns := [], harness := (true, "35c1163cbf6596f0fd1ba2ae7457a378af99b2fd5ddc313a5a5190427835be3c"), looks := false }, kinds := [], alts := [], laidByText := true, laidKinds := [.data], laidTests := true, laidLooks := .later }
def CountShiftCardSaid : Prop := Claim7.holds Tryd.pinned (.plain (OpenSpec.ofChange countShiftSpec)) countShiftCard

/-- THE TIED CARD OF 'hairsbreadthlaw04.CountBetween'. -/
def countBetweenCard : Claim7 := { stood := { row := countBetweenRow, standIns := [], harness := (true, "35c1163cbf6596f0fd1ba2ae7457a378af99b2fd5ddc313a5a5190427835be3c"), looks := false }, kinds := [], alts := [], laidByText := true, laidKinds := [.data], laidTests := true, laidLooks := .later }
def CountBetweenCardSaid : Prop := Claim7.holds Tryd.pinned (.plain (OpenSpec.ofChange countBetweenSpec)) countBetweenCard

/-- THE TIED CARD OF 'hairsbreadthlaw08.ClassKnown'. -/
def classKnownCard : Claim7 := { stood := { row := classKnownRow, standIns := [], harness := (true, "35c1163cbf6596f0fd1ba2ae7457a378af99b2fd5ddc313a5a5190427835be3c"), looks := false }, kinds := [], alts := [], laidByText := true, laidKinds := [.data], laidTests := true, laidLooks := .later }
def ClassKnownCardSaid : Prop := Claim7.holds Tryd.pinned (.plain (OpenSpec.ofChange classKnownSpec)) classKnownCard

/-- THE TIED CARD OF 'hairsbreadthlaw10.NanFirst'. -/
def nanFirstCard : Claim7 := { stood := { row := nanFirstRow, standIns := [], harness := (true, "35c1163cbf6596f0fd1ba2ae7457a378af99b2fd5ddc313a5a5190427835be3c"), looks := false }, kinds := [], alts := [], laidByText := true, laidKinds := [.data], laidTests := true, laidLooks := .later }
def NanFirstCardSaid : Prop := Claim7.holds Tryd.pinned (.plain (OpenSpec.ofChange nanFirstSpec)) nanFirstCard

/-- THE TIED CARD OF 'hairsbreadthlaw09.FieldsReach'. -/
def fieldsReachCard : Claim7 := { stood := { row := fieldsReachRow, standIns := [], harness := (true, "35c1163cbf6596f0fd1ba2ae7457a378af99b2fd5ddc313a5a5190427835be3c"), looks := false }, kinds := [], alts := [], laidByText := true, laidKinds := [.data], laidTests := true, laidLooks := .later }
def FieldsReachCardSaid : Prop := Claim7.holds Tryd.pinned (.plain (OpenSpec.ofChange fieldsReachSpec)) fieldsReachCard

/-- THE TIED CARD OF 'hairsbreadthlaw09.FieldsKnown'. -/
def fieldsKnownCard : Claim7 := { stood := { row := fieldsKnownRow, standIns := [], harness := (true, "35c1163cbf6596f0fd1ba2ae7457a378af99b2fd5ddc313a5a5190427835be3c"), looks := false }, kinds := [], alts := [], laidByText := true, laidKinds := [.data], laidTests := true, laidLooks := .later }
def FieldsKnownCardSaid : Prop := Claim7.holds Tryd.pinned (.plain (OpenSpec.ofChange fieldsKnownSpec)) fieldsKnownCard

/-- THE TIED CARD OF 'hairsbreadthlaw09.FieldsBack'. -/
def fieldsBackCard : Claim7 := { stood := { row := fieldsBackRow, standIns := [], harness := (true, "35c1163cbf6596f0fd1ba2ae7457a378af99b2fd5ddc313a5a5190427835be3c"), looks := false }, kinds := [], alts := [], laidByText := true, laidKinds := [.data], laidTests := true, laidLooks := .later }
def FieldsBackCardSaid : Prop := Claim7.holds Tryd.pinned (.plain (OpenSpec.ofChange fieldsBackSpec)) fieldsBackCard

/-- THE SECOND FORM's CARD OF 'hairsbreadthlaw04.CountKnown'. -/
def countKnownUptoCard : Claim7 := { stood := { row := countKnownUptoRow, standIns := [], harness := (true, "35c1163cbf6596f0fd1ba2ae7457a378af99b2fd5ddc313a5a5190427835be3c"), looks := false }, kinds := [], alts := [], laidByText := true, laidKinds := [.data], laidTests := true, laidLooks := .later }
def CountKnownUptoCardSaid : Prop := Claim7.holds Tryd.pinned (.plain (OpenSpec.upto countKnownSpec)) countKnownUptoCard

/-- THE SECOND FORM's CARD OF 'hairsbreadthlaw09.FieldsWide'. -/
def fieldsWideUptoCard : Claim7 := { stood := { row := fieldsWideUptoRow, standIns := [], harness := (true, "35c1163cbf6596f0fd1ba2ae7457a378af99b2fd5ddc313a5a5190427835be3c"), looks := false }, kinds := [], alts := [], laidByText := true, laidKinds := [.data], laidTests := true, laidLooks := .later }
def FieldsWideUptoCardSaid : Prop := Claim7.holds Tryd.pinned (.plain (OpenSpec.upto fieldsWideSpec)) fieldsWideUptoCard

/-- THE SECOND FORM's CARD OF 'hairsbreadthlaw04.CountTail'. -/
def countTailUptoCard : Claim7 := { stood := { row := countTailUptoRow, standIns := [], harness := (true, "35c1163cbf6596f0fd1ba2ae7457a378af99b2fd5ddc313a5a5190427835be3c"), looks := false }, kinds := [], alts := [], laidByText := true, laidKinds := [.data], laidTests := true, laidLooks := .later }
def CountTailUptoCardSaid : Prop := Claim7.holds Tryd.pinned (.plain (OpenSpec.upto countTailSpec)) countTailUptoCard

/-- THE SECOND FORM's CARD OF 'hairsbreadthlaw09.FieldsOrder'. -/
def fieldsOrderUptoCard : Claim7 := { stood := { row := fieldsOrderUptoRow, standIns := [], harness := (true, "35c1163cbf6596f0fd1ba2ae7457a378af99b2fd5ddc313a5a5190427835be3c"), looks := false }, kinds := [], alts := [], laidByText := true, laidKinds := [.data], laidTests := true, laidLooks := .later }
def FieldsOrderUptoCardSaid : Prop := Claim7.holds Tryd.pinned (.plain (OpenSpec.upto fieldsOrderSpec)) fieldsOrderUptoCard

/-- THE SECOND FORM's CARD OF 'hairsbreadthlaw04.CountBack'. -/
def countBackUptoCard : Claim7 := { stood := { row := countBackUptoRow, standIns := [], harness := (true, "35c1163cbf6596f0fd1ba2ae7457a378af99b2fd5ddc313a5a5190427835be3c"), looks := false }, kinds := [], alts := [], laidByText := true, laidKinds := [.data], laidTests := true, laidLooks := .later }
def CountBackUptoCardSaid : Prop := Claim7.holds Tryd.pinned (.plain (OpenSpec.upto countBackSpec)) countBackUptoCard

/-- THE SECOND FORM's CARD OF 'hairsbreadthlaw04.CountShift'. -/
def countShiftUptoCard : Claim7 := { stood := { row := countShiftUptoRow, standIns := [], harness := (true, "35c1163cbf6596f0fd1ba2ae7457a378af99b2fd5ddc313a5a5190427835be3c"), looks := false }, kinds := [], alts := [], laidByText := true, laidKinds := [.data], laidTests := true, laidLooks := .later }
def CountShiftUptoCardSaid : Prop := Claim7.holds Tryd.pinned (.plain (OpenSpec.upto countShiftSpec)) countShiftUptoCard

/-- THE SECOND FORM's CARD OF 'hairsbreadthlaw04.CountBetween'. -/
def countBetweenUptoCard : Claim7 := { stood := { row := countBetweenUptoRow, standIns := [], harness := (true, "35c1163cbf6596f0fd1ba2ae7457a378af99b2fd5ddc313a5a5190427835be3c"), looks := false }, kinds := [], alts := [], laidByText := true, laidKinds := [.data], laidTests := true, laidLooks := .later }
def CountBetweenUptoCardSaid : Prop := Claim7.holds Tryd.pinned (.plain (OpenSpec.upto countBetweenSpec)) countBetweenUptoCard

/-- THE SECOND FORM's CARD OF 'hairsbreadthlaw08.ClassKnown'. -/
def classKnownUptoCard : Claim7 := { stood := { row := classKnownUptoRow, standIns := [], harness := (true, "35c1163cbf6596f0fd1ba2ae7457a378af99b2fd5ddc313a5a5190427835be3c"), looks := false }, kinds := [], alts := [], laidByText := true, laidKinds := [.data], laidTests := true, laidLooks := .later }
def ClassKnownUptoCardSaid : Prop := Claim7.holds Tryd.pinned (.plain (OpenSpec.upto classKnownSpec)) classKnownUptoCard

/-- THE SECOND FORM's CARD OF 'hairsbreadthlaw10.NanFirst'. -/
def nanFirstUptoCard : Claim7 := { stood := { row := nanFirstUptoRow, standIns := [], harness := (true, "35c1163cbf6596f0fd1ba2ae7457a378af99b2fd5ddc313a5a5190427835be3c"), looks := false }, kinds := [], alts := [], laidByText := true, laidKinds := [.data], laidTests := true, laidLooks := .later }
def NanFirstUptoCardSaid : Prop := Claim7.holds Tryd.pinned (.plain (OpenSpec.upto nanFirstSpec)) nanFirstUptoCard

/-- THE SECOND FORM's CARD OF 'hairsbreadthlaw09.FieldsReach'. -/
def fieldsReachUptoCard : Claim7 := { stood := { row := fieldsReachUptoRow, standIns := [], harness := (true, "35c1163cbf6596f0fd1ba2ae7457a378af99b2fd5ddc313a5a5190427835be3c"), looks := false }, kinds := [], alts := [], laidByText := true, laidKinds := [.data], laidTests := true, laidLooks := .later }
def FieldsReachUptoCardSaid : Prop := Claim7.holds Tryd.pinned (.plain (OpenSpec.upto fieldsReachSpec)) fieldsReachUptoCard

/-- THE SECOND FORM's CARD OF 'hairsbreadthlaw09.FieldsKnown'. -/
def fieldsKnownUptoCard : Claim7 := { stood := { row := fieldsKnownUptoRow, standIns := [], harness := (true, "35c1163cbf6596f0fd1ba2ae7457a378af99b2fd5ddc313a5a5190427835be3c"), looks := false }, kinds := [], alts := [], laidByText := true, laidKinds := [.data], laidTests := true, laidLooks := .later }
def FieldsKnownUptoCardSaid : Prop := Claim7.holds Tryd.pinned (.plain (OpenSpec.upto fieldsKnownSpec)) fieldsKnownUptoCard

/-- THE SECOND FORM's CARD OF 'hairsbreadthlaw09.FieldsBack'. -/
def fieldsBackUptoCard : Claim7 := { stood := { row := fieldsBackUptoRow, standIns := [], harness := (true, "35c1163cbf6596f0fd1ba2ae7457a378af99b2fd5ddc313a5a5190427835be3c"), looks := false }, kinds := [], alts := [], laidByText := true, laidKinds := [.data], laidTests := true, laidLooks := .later }
def FieldsBackUptoCardSaid : Prop := Claim7.holds Tryd.pinned (.plain (OpenSpec.upto fieldsBackSpec)) fieldsBackUptoCard
end Rows
end Go.Proofs.YteajalcnabjjeaaDoor
