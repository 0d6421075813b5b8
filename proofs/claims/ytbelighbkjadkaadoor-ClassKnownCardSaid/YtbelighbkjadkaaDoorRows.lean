/-
  NARROWER THAN 'FOR EVERY INPUT', by the rows' own cells (each row's printed sentence says how): FormatFields: laid · CountTwo: laid · CountFour: laid · ClassOf: laid · FormatNumbers: laid · ClassAny: laid · ClassKnown: laid · PayloadMoves: laid · NanQuiets: laid · NanPicks: laid · FieldsUnpack: laid · FieldsPack: laid.
  DERIVED. THE GIVEN ROWS OF THIS SEAT. 12 by the template 'for every input the law returns true; each argument reads behind the call as it read before'; 0 by the template 'total and deterministic' (their statements: YtbelighbkjadkaaDoorTotals.lean).
  GIVEN WITH THE SEED: the statements are not yours to turn. If you find one false, say at which input.
  Laid BY PROGRAM, IN A SANDBOX (cutbox-rows.mjs): the forced cells as the released guide's own fill.sh prints them over the translation 44546c5a4cd6c120… (all of the seat's roots in one cut). By AI agents, Wed Nov 11 2026. No macro, syntax, notation, axiom, sorry.
-/
import Derived.Test.YtbelighbkjadkaaDoorChecked
import GoSem.Claim
import GoSem.ClaimJoined
import GoSem.ClaimMapViews
import Derived.JoinedTies
import Derived.KernelRfl
namespace Go.Proofs.YtbelighbkjadkaaDoor
/- THE CELL 'sum', in the pinned program and in every row, IS THE sha256 OF THE DUMP (.gsa) THAT YtbelighbkjadkaaDoorProg.lean LOADS. Nothing in Lean hashes anything: it is a label: what it is worth is what the hold of that sum in a sandbox is worth. -/
noncomputable def Tryd.pinned : Pinned := { name := "ytbelighbkjadkaadoor", sum := "44546c5a4cd6c12028f70c20f4e4f09c1e9b4d59872efc14773a15ea92d8fdaa", checked := Tryd.checked }
namespace Rows
def none {H : Type} : Left H := { results := [], args := [] }

/- WHAT THE LISTED PACKAGE-LEVEL VARIABLES READ AS WHEN THE CALL BEGINS. Each datum BY PROGRAM (the guide's laid-datum.mjs) off the statement by which the dump's own 'gosem.cut.vars' lays the variable. In a bare row this is a premise. The card (YtbelighbkjadkaaDoorCards.lean) ties it to the program's text. -/
def laid_hairsbreadth_format_table {H : Type} : DataW H := .agg [.agg [.lit (.int .i64 16), .lit (.int .i64 11), .lit (.int .i64 15)], .agg [.lit (.int .i64 32), .lit (.int .i64 24), .lit (.int .i64 127)], .agg [.lit (.int .i64 64), .lit (.int .i64 53), .lit (.int .i64 1023)], .agg [.lit (.int .i64 128), .lit (.int .i64 113), .lit (.int .i64 16383)]]
def laid_math_bits_deBruijn64tab {H : Type} : DataW H := .agg [.lit (.int .u8 0), .lit (.int .u8 1), .lit (.int .u8 56), .lit (.int .u8 2), .lit (.int .u8 57), .lit (.int .u8 49), .lit (.int .u8 28), .lit (.int .u8 3), .lit (.int .u8 61), .lit (.int .u8 58), .lit (.int .u8 42), .lit (.int .u8 50), .lit (.int .u8 38), .lit (.int .u8 29), .lit (.int .u8 17), .lit (.int .u8 4), .lit (.int .u8 62), .lit (.int .u8 47), .lit (.int .u8 59), .lit (.int .u8 36), .lit (.int .u8 45), .lit (.int .u8 43), .lit (.int .u8 51), .lit (.int .u8 22), .lit (.int .u8 53), .lit (.int .u8 39), .lit (.int .u8 33), .lit (.int .u8 30), .lit (.int .u8 24), .lit (.int .u8 18), .lit (.int .u8 12), .lit (.int .u8 5), .lit (.int .u8 63), .lit (.int .u8 55), .lit (.int .u8 48), .lit (.int .u8 27), .lit (.int .u8 60), .lit (.int .u8 41), .lit (.int .u8 37), .lit (.int .u8 16), .lit (.int .u8 46), .lit (.int .u8 35), .lit (.int .u8 44), .lit (.int .u8 21), .lit (.int .u8 52), .lit (.int .u8 32), .lit (.int .u8 23), .lit (.int .u8 11), .lit (.int .u8 54), .lit (.int .u8 26), .lit (.int .u8 40), .lit (.int .u8 15), .lit (.int .u8 34), .lit (.int .u8 20), .lit (.int .u8 31), .lit (.int .u8 10), .lit (.int .u8 25), .lit (.int .u8 14), .lit (.int .u8 19), .lit (.int .u8 9), .lit (.int .u8 13), .lit (.int .u8 8), .lit (.int .u8 7), .lit (.int .u8 6)]

/-- 'hairsbreadthlaw07.FormatFields': WHATEVER THE INPUT: true; the input reads as it did. -/
def formatFieldsSpec : ChangeSpec := { name := "formatFields", fn := fun _ => fun
  | [d1, d2, d3, d4, d5] => { results := [.lit (.bool true)], args := [d1, d2, d3, d4, d5] }
  | _ => none }
def formatFieldsRow : OpenClaim := { program := "ytbelighbkjadkaadoor", sum := "44546c5a4cd6c12028f70c20f4e4f09c1e9b4d59872efc14773a15ea92d8fdaa", func := "hairsbreadth/hairsbreadthlaw07.FormatFields", spec := "formatFields", inPlace := ["math/bits.Add64"], unfollowed := true, recurses := true, named := ["hairsbreadth/format.table"], apart := false, laid := [("hairsbreadth/format.table", laid_hairsbreadth_format_table)] }
def FormatFieldsSaid : Prop := formatFieldsRow.holds Tryd.pinned (OpenSpec.ofChange formatFieldsSpec)

/-- ITS FALSE NEIGHBOUR: 'it returns false'. Refute it at one input. -/
def formatFieldsWrong : ChangeSpec := { name := "formatFields", fn := fun _ => fun
  | [d1, d2, d3, d4, d5] => { results := [.lit (.bool false)], args := [d1, d2, d3, d4, d5] }
  | _ => none }
def FormatFieldsWrongFalsely : Prop := formatFieldsRow.holds Tryd.pinned (OpenSpec.ofChange formatFieldsWrong)

/-- 'hairsbreadthlaw04.CountTwo': WHATEVER THE INPUT: true; the input reads as it did. -/
def countTwoSpec : ChangeSpec := { name := "countTwo", fn := fun _ => fun
  | [d] => { results := [.lit (.bool true)], args := [d] }
  | _ => none }
def countTwoRow : OpenClaim := { program := "ytbelighbkjadkaadoor", sum := "44546c5a4cd6c12028f70c20f4e4f09c1e9b4d59872efc14773a15ea92d8fdaa", func := "hairsbreadth/hairsbreadthlaw04.CountTwo", spec := "countTwo", unfollowed := true, recurses := true, named := ["math/bits.deBruijn64tab"], apart := false, laid := [("math/bits.deBruijn64tab", laid_math_bits_deBruijn64tab)] }
def CountTwoSaid : Prop := countTwoRow.holds Tryd.pinned (OpenSpec.ofChange countTwoSpec)

/-- ITS FALSE NEIGHBOUR: 'it returns false'. Refute it at one input. -/
def countTwoWrong : ChangeSpec := { name := "countTwo", fn := fun _ => fun
  | [d] => { results := [.lit (.bool false)], args := [d] }
  | _ => none }
def CountTwoWrongFalsely : Prop := countTwoRow.holds Tryd.pinned (OpenSpec.ofChange countTwoWrong)

/-- 'hairsbreadthlaw04.CountFour': WHATEVER THE INPUT: true; the input reads as it did. -/
def countFourSpec : ChangeSpec := { name := "countFour", fn := fun _ => fun
  | [d] => { results := [.lit (.bool true)], args := [d] }
  | _ => none }
def countFourRow : OpenClaim := { program := "ytbelighbkjadkaadoor", sum := "44546c5a4cd6c12028f70c20f4e4f09c1e9b4d59872efc14773a15ea92d8fdaa", func := "hairsbreadth/hairsbreadthlaw04.CountFour", spec := "countFour", unfollowed := true, recurses := true, named := ["math/bits.deBruijn64tab"], apart := false, laid := [("math/bits.deBruijn64tab", laid_math_bits_deBruijn64tab)] }
def CountFourSaid : Prop := countFourRow.holds Tryd.pinned (OpenSpec.ofChange countFourSpec)

/-- ITS FALSE NEIGHBOUR: 'it returns false'. Refute it at one input. -/
def countFourWrong : ChangeSpec := { name := "countFour", fn := fun _ => fun
  | [d] => { results := [.lit (.bool false)], args := [d] }
  | _ => none }
def CountFourWrongFalsely : Prop := countFourRow.holds Tryd.pinned (OpenSpec.ofChange countFourWrong)

/-- 'hairsbreadthlaw08.ClassOf': WHATEVER THE INPUT: true; the input reads as it did. -/
def classOfSpec : ChangeSpec := { name := "classOf", fn := fun _ => fun
  | [d1, d2] => { results := [.lit (.bool true)], args := [d1, d2] }
  | _ => none }
def classOfRow : OpenClaim := { program := "ytbelighbkjadkaadoor", sum := "44546c5a4cd6c12028f70c20f4e4f09c1e9b4d59872efc14773a15ea92d8fdaa", func := "hairsbreadth/hairsbreadthlaw08.ClassOf", spec := "classOf", unfollowed := true, recurses := true, named := ["hairsbreadth/format.table"], apart := false, laid := [("hairsbreadth/format.table", laid_hairsbreadth_format_table)] }
def ClassOfSaid : Prop := classOfRow.holds Tryd.pinned (OpenSpec.ofChange classOfSpec)

/-- ITS FALSE NEIGHBOUR: 'it returns false'. Refute it at one input. -/
def classOfWrong : ChangeSpec := { name := "classOf", fn := fun _ => fun
  | [d1, d2] => { results := [.lit (.bool false)], args := [d1, d2] }
  | _ => none }
def ClassOfWrongFalsely : Prop := classOfRow.holds Tryd.pinned (OpenSpec.ofChange classOfWrong)

/-- 'hairsbreadthlaw07.FormatNumbers': WHATEVER THE INPUT: true; the input reads as it did. -/
def formatNumbersSpec : ChangeSpec := { name := "formatNumbers", fn := fun _ => fun
  | [d1, d2, d3] => { results := [.lit (.bool true)], args := [d1, d2, d3] }
  | _ => none }
def formatNumbersRow : OpenClaim := { program := "ytbelighbkjadkaadoor", sum := "44546c5a4cd6c12028f70c20f4e4f09c1e9b4d59872efc14773a15ea92d8fdaa", func := "hairsbreadth/hairsbreadthlaw07.FormatNumbers", spec := "formatNumbers", inPlace := ["math/bits.Add64"], unfollowed := true, recurses := true, named := ["hairsbreadth/format.table"], apart := false, laid := [("hairsbreadth/format.table", laid_hairsbreadth_format_table)] }
def FormatNumbersSaid : Prop := formatNumbersRow.holds Tryd.pinned (OpenSpec.ofChange formatNumbersSpec)

/-- ITS FALSE NEIGHBOUR: 'it returns false'. Refute it at one input. -/
def formatNumbersWrong : ChangeSpec := { name := "formatNumbers", fn := fun _ => fun
  | [d1, d2, d3] => { results := [.lit (.bool false)], args := [d1, d2, d3] }
  | _ => none }
def FormatNumbersWrongFalsely : Prop := formatNumbersRow.holds Tryd.pinned (OpenSpec.ofChange formatNumbersWrong)

/-- 'hairsbreadthlaw08.ClassAny': WHATEVER THE INPUT: true; the input reads as it did. -/
def classAnySpec : ChangeSpec := { name := "classAny", fn := fun _ => fun
  | [d1, d2] => { results := [.lit (.bool true)], args := [d1, d2] }
  | _ => none }
def classAnyRow : OpenClaim := { program := "ytbelighbkjadkaadoor", sum := "44546c5a4cd6c12028f70c20f4e4f09c1e9b4d59872efc14773a15ea92d8fdaa", func := "hairsbreadth/hairsbreadthlaw08.ClassAny", spec := "classAny", unfollowed := true, recurses := true, named := ["hairsbreadth/format.table"], apart := false, laid := [("hairsbreadth/format.table", laid_hairsbreadth_format_table)] }
def ClassAnySaid : Prop := classAnyRow.holds Tryd.pinned (OpenSpec.ofChange classAnySpec)

/-- ITS FALSE NEIGHBOUR: 'it returns false'. Refute it at one input. -/
def classAnyWrong : ChangeSpec := { name := "classAny", fn := fun _ => fun
  | [d1, d2] => { results := [.lit (.bool false)], args := [d1, d2] }
  | _ => none }
def ClassAnyWrongFalsely : Prop := classAnyRow.holds Tryd.pinned (OpenSpec.ofChange classAnyWrong)

/-- 'hairsbreadthlaw08.ClassKnown': WHATEVER THE INPUT: true; the input reads as it did. -/
def classKnownSpec : ChangeSpec := { name := "classKnown", fn := fun _ => fun
  | [] => { results := [.lit (.bool true)], args := [] }
  | _ => none }
def classKnownRow : OpenClaim := { program := "ytbelighbkjadkaadoor", sum := "44546c5a4cd6c12028f70c20f4e4f09c1e9b4d59872efc14773a15ea92d8fdaa", func := "hairsbreadth/hairsbreadthlaw08.ClassKnown", spec := "classKnown", inPlace := ["math/bits.Add64"], unfollowed := true, recurses := true, named := ["hairsbreadth/format.table"], apart := false, laid := [("hairsbreadth/format.table", laid_hairsbreadth_format_table)] }
def ClassKnownSaid : Prop := classKnownRow.holds Tryd.pinned (OpenSpec.ofChange classKnownSpec)

/-- ITS FALSE NEIGHBOUR: 'it returns false'. Refute it at one input. -/
def classKnownWrong : ChangeSpec := { name := "classKnown", fn := fun _ => fun
  | [] => { results := [.lit (.bool false)], args := [] }
  | _ => none }
def ClassKnownWrongFalsely : Prop := classKnownRow.holds Tryd.pinned (OpenSpec.ofChange classKnownWrong)

/-- 'hairsbreadthlaw11.PayloadMoves': WHATEVER THE INPUT: true; the input reads as it did. -/
def payloadMovesSpec : ChangeSpec := { name := "payloadMoves", fn := fun _ => fun
  | [d1, d2, d3] => { results := [.lit (.bool true)], args := [d1, d2, d3] }
  | _ => none }
def payloadMovesRow : OpenClaim := { program := "ytbelighbkjadkaadoor", sum := "44546c5a4cd6c12028f70c20f4e4f09c1e9b4d59872efc14773a15ea92d8fdaa", func := "hairsbreadth/hairsbreadthlaw11.PayloadMoves", spec := "payloadMoves", inPlace := ["math/bits.Add64"], unfollowed := true, recurses := true, named := ["hairsbreadth/format.table"], apart := false, laid := [("hairsbreadth/format.table", laid_hairsbreadth_format_table)] }
def PayloadMovesSaid : Prop := payloadMovesRow.holds Tryd.pinned (OpenSpec.ofChange payloadMovesSpec)

/-- ITS FALSE NEIGHBOUR: 'it returns false'. Refute it at one input. -/
def payloadMovesWrong : ChangeSpec := { name := "payloadMoves", fn := fun _ => fun
  | [d1, d2, d3] => { results := [.lit (.bool false)], args := [d1, d2, d3] }
  | _ => none }
def PayloadMovesWrongFalsely : Prop := payloadMovesRow.holds Tryd.pinned (OpenSpec.ofChange payloadMovesWrong)

/-- 'hairsbreadthlaw10.NanQuiets': WHATEVER THE INPUT: true; the input reads as it did. -/
def nanQuietsSpec : ChangeSpec := { name := "nanQuiets", fn := fun _ => fun
  | [d1, d2] => { results := [.lit (.bool true)], args := [d1, d2] }
  | _ => none }
def nanQuietsRow : OpenClaim := { program := "ytbelighbkjadkaadoor", sum := "44546c5a4cd6c12028f70c20f4e4f09c1e9b4d59872efc14773a15ea92d8fdaa", func := "hairsbreadth/hairsbreadthlaw10.NanQuiets", spec := "nanQuiets", inPlace := ["math/bits.Add64"], unfollowed := true, recurses := true, named := ["hairsbreadth/format.table"], apart := false, laid := [("hairsbreadth/format.table", laid_hairsbreadth_format_table)] }
def NanQuietsSaid : Prop := nanQuietsRow.holds Tryd.pinned (OpenSpec.ofChange nanQuietsSpec)

/-- ITS FALSE NEIGHBOUR: 'it returns false'. Refute it at one input. -/
def nanQuietsWrong : ChangeSpec := { name := "nanQuiets", fn := fun _ => fun
  | [d1, d2] => { results := [.lit (.bool false)], args := [d1, d2] }
  | _ => none }
def NanQuietsWrongFalsely : Prop := nanQuietsRow.holds Tryd.pinned (OpenSpec.ofChange nanQuietsWrong)

/-- 'hairsbreadthlaw10.NanPicks': WHATEVER THE INPUT: true; the input reads as it did. -/
def nanPicksSpec : ChangeSpec := { name := "nanPicks", fn := fun _ => fun
  | [d1, d2, d3] => { results := [.lit (.bool true)], args := [d1, d2, d3] }
  | _ => none }
def nanPicksRow : OpenClaim := { program := "ytbelighbkjadkaadoor", sum := "44546c5a4cd6c12028f70c20f4e4f09c1e9b4d59872efc14773a15ea92d8fdaa", func := "hairsbreadth/hairsbreadthlaw10.NanPicks", spec := "nanPicks", inPlace := ["math/bits.Add64"], unfollowed := true, recurses := true, named := ["hairsbreadth/format.table"], apart := false, laid := [("hairsbreadth/format.table", laid_hairsbreadth_format_table)] }
def NanPicksSaid : Prop := nanPicksRow.holds Tryd.pinned (OpenSpec.ofChange nanPicksSpec)

/-- ITS FALSE NEIGHBOUR: 'it returns false'. Refute it at one input. -/
def nanPicksWrong : ChangeSpec := { name := "nanPicks", fn := fun _ => fun
  | [d1, d2, d3] => { results := [.lit (.bool false)], args := [d1, d2, d3] }
  | _ => none }
def NanPicksWrongFalsely : Prop := nanPicksRow.holds Tryd.pinned (OpenSpec.ofChange nanPicksWrong)

/-- 'hairsbreadthlaw09.FieldsUnpack': WHATEVER THE INPUT: true; the input reads as it did. -/
def fieldsUnpackSpec : ChangeSpec := { name := "fieldsUnpack", fn := fun _ => fun
  | [d1, d2] => { results := [.lit (.bool true)], args := [d1, d2] }
  | _ => none }
def fieldsUnpackRow : OpenClaim := { program := "ytbelighbkjadkaadoor", sum := "44546c5a4cd6c12028f70c20f4e4f09c1e9b4d59872efc14773a15ea92d8fdaa", func := "hairsbreadth/hairsbreadthlaw09.FieldsUnpack", spec := "fieldsUnpack", inPlace := ["math/bits.Add64"], unfollowed := true, recurses := true, named := ["hairsbreadth/format.table"], apart := false, laid := [("hairsbreadth/format.table", laid_hairsbreadth_format_table)] }
def FieldsUnpackSaid : Prop := fieldsUnpackRow.holds Tryd.pinned (OpenSpec.ofChange fieldsUnpackSpec)

/-- ITS FALSE NEIGHBOUR: 'it returns false'. Refute it at one input. -/
def fieldsUnpackWrong : ChangeSpec := { name := "fieldsUnpack", fn := fun _ => fun
  | [d1, d2] => { results := [.lit (.bool false)], args := [d1, d2] }
  | _ => none }
def FieldsUnpackWrongFalsely : Prop := fieldsUnpackRow.holds Tryd.pinned (OpenSpec.ofChange fieldsUnpackWrong)

/-- 'hairsbreadthlaw09.FieldsPack': WHATEVER THE INPUT: true; the input reads as it did. -/
def fieldsPackSpec : ChangeSpec := { name := "fieldsPack", fn := fun _ => fun
  | [d1, d2] => { results := [.lit (.bool true)], args := [d1, d2] }
  | _ => none }
def fieldsPackRow : OpenClaim := { program := "ytbelighbkjadkaadoor", sum := "44546c5a4cd6c12028f70c20f4e4f09c1e9b4d59872efc14773a15ea92d8fdaa", func := "hairsbreadth/hairsbreadthlaw09.FieldsPack", spec := "fieldsPack", inPlace := ["math/bits.Add64"], unfollowed := true, recurses := true, named := ["hairsbreadth/format.table"], apart := false, laid := [("hairsbreadth/format.table", laid_hairsbreadth_format_table)] }
def FieldsPackSaid : Prop := fieldsPackRow.holds Tryd.pinned (OpenSpec.ofChange fieldsPackSpec)

/-- ITS FALSE NEIGHBOUR: 'it returns false'. Refute it at one input. -/
def fieldsPackWrong : ChangeSpec := { name := "fieldsPack", fn := fun _ => fun
  | [d1, d2] => { results := [.lit (.bool false)], args := [d1, d2] }
  | _ => none }
def FieldsPackWrongFalsely : Prop := fieldsPackRow.holds Tryd.pinned (OpenSpec.ofChange fieldsPackWrong)

/- THE SECOND FORM. 'bulk': how many values and letters a reading holds, each counted each time it is reached (what is shared counts as often as it is met; a slice's spare places count too). A statement '..UptoSaid' is the law's where the arguments, and the package variables that the reading takes, are together of bulk at most 1048576: NARROWER than '..Said'. Prove '..Said' where nothing that the law and all that it calls make is longer than what came in: it says more and counts as full. Else prove '..UptoSaid'. A law counts once. -/
mutual
def uptoBulk {H : Type} : DataW H → Nat
  | .lit (.string bytes) => bytes.length + 1
  | .lit _ => 1
  | .nil => 1
  | .ptr d => uptoBulk d + 1
  | .slice elems spare => uptoBulkAll elems + uptoBulkAll spare + 1
  | .agg parts => uptoBulkAll parts + 1
  | .iface _ d => uptoBulk d + 1
  | .map entries => uptoBulkEntries entries + 1
  | .held _ => 1
def uptoBulkAll {H : Type} : List (DataW H) → Nat
  | [] => 0
  | d :: r => uptoBulk d + uptoBulkAll r
def uptoBulkEntries {H : Type} : List (Lit × DataW H) → Nat
  | [] => 0
  | x :: r => uptoBulkEntry x + uptoBulkEntries r
def uptoBulkEntry {H : Type} : Lit × DataW H → Nat
  | (.string bytes, d) => bytes.length + uptoBulk d + 1
  | (_, d) => uptoBulk d + 1
 end
def uptoSmall : (H : Type) → List (DataW H) → Bool := fun _ ds => decide (uptoBulkAll ds ≤ 1048576)
def OpenSpec.upto (s : _root_.Go.ChangeSpec) : _root_.Go.OpenSpec := { _root_.Go.OpenSpec.ofChange s with cond := some uptoSmall }

/-- 'hairsbreadthlaw07.FormatFields', WHERE WHAT IT READS IS OF BULK AT MOST 1048576: true; the input reads as it did. -/
def formatFieldsUptoRow : OpenClaim := { program := "ytbelighbkjadkaadoor", sum := "44546c5a4cd6c12028f70c20f4e4f09c1e9b4d59872efc14773a15ea92d8fdaa", func := "hairsbreadth/hairsbreadthlaw07.FormatFields", spec := "formatFields", inPlace := ["math/bits.Add64"], unfollowed := true, recurses := true, named := ["hairsbreadth/format.table"], apart := false, laid := [("hairsbreadth/format.table", laid_hairsbreadth_format_table)], narrowed := true }
def FormatFieldsUptoSaid : Prop := formatFieldsUptoRow.holds Tryd.pinned (OpenSpec.upto formatFieldsSpec)

/-- 'hairsbreadthlaw04.CountTwo', WHERE WHAT IT READS IS OF BULK AT MOST 1048576: true; the input reads as it did. -/
def countTwoUptoRow : OpenClaim := { program := "ytbelighbkjadkaadoor", sum := "44546c5a4cd6c12028f70c20f4e4f09c1e9b4d59872efc14773a15ea92d8fdaa", func := "hairsbreadth/hairsbreadthlaw04.CountTwo", spec := "countTwo", unfollowed := true, recurses := true, named := ["math/bits.deBruijn64tab"], apart := false, laid := [("math/bits.deBruijn64tab", laid_math_bits_deBruijn64tab)], narrowed := true }
def CountTwoUptoSaid : Prop := countTwoUptoRow.holds Tryd.pinned (OpenSpec.upto countTwoSpec)

/-- 'hairsbreadthlaw04.CountFour', WHERE WHAT IT READS IS OF BULK AT MOST 1048576: true; the input reads as it did. -/
def countFourUptoRow : OpenClaim := { program := "ytbelighbkjadkaadoor", sum := "44546c5a4cd6c12028f70c20f4e4f09c1e9b4d59872efc14773a15ea92d8fdaa", func := "hairsbreadth/hairsbreadthlaw04.CountFour", spec := "countFour", unfollowed := true, recurses := true, named := ["math/bits.deBruijn64tab"], apart := false, laid := [("math/bits.deBruijn64tab", laid_math_bits_deBruijn64tab)], narrowed := true }
def CountFourUptoSaid : Prop := countFourUptoRow.holds Tryd.pinned (OpenSpec.upto countFourSpec)

/-- 'hairsbreadthlaw08.ClassOf', WHERE WHAT IT READS IS OF BULK AT MOST 1048576: true; the input reads as it did. -/
def classOfUptoRow : OpenClaim := { program := "ytbelighbkjadkaadoor", sum := "44546c5a4cd6c12028f70c20f4e4f09c1e9b4d59872efc14773a15ea92d8fdaa", func := "hairsbreadth/hairsbreadthlaw08.ClassOf", spec := "classOf", unfollowed := true, recurses := true, named := ["hairsbreadth/format.table"], apart := false, laid := [("hairsbreadth/format.table", laid_hairsbreadth_format_table)], narrowed := true }
def ClassOfUptoSaid : Prop := classOfUptoRow.holds Tryd.pinned (OpenSpec.upto classOfSpec)

/-- 'hairsbreadthlaw07.FormatNumbers', WHERE WHAT IT READS IS OF BULK AT MOST 1048576: true; the input reads as it did. -/
def formatNumbersUptoRow : OpenClaim := { program := "ytbelighbkjadkaadoor", sum := "44546c5a4cd6c12028f70c20f4e4f09c1e9b4d59872efc14773a15ea92d8fdaa", func := "hairsbreadth/hairsbreadthlaw07.FormatNumbers", spec := "formatNumbers", inPlace := ["math/bits.Add64"], unfollowed := true, recurses := true, named := ["hairsbreadth/format.table"], apart := false, laid := [("hairsbreadth/format.table", laid_hairsbreadth_format_table)], narrowed := true }
def FormatNumbersUptoSaid : Prop := formatNumbersUptoRow.holds Tryd.pinned (OpenSpec.upto formatNumbersSpec)

/-- 'hairsbreadthlaw08.ClassAny', WHERE WHAT IT READS IS OF BULK AT MOST 1048576: true; the input reads as it did. -/
def classAnyUptoRow : OpenClaim := { program := "ytbelighbkjadkaadoor", sum := "44546c5a4cd6c12028f70c20f4e4f09c1e9b4d59872efc14773a15ea92d8fdaa", func := "hairsbreadth/hairsbreadthlaw08.ClassAny", spec := "classAny", unfollowed := true, recurses := true, named := ["hairsbreadth/format.table"], apart := false, laid := [("hairsbreadth/format.table", laid_hairsbreadth_format_table)], narrowed := true }
def ClassAnyUptoSaid : Prop := classAnyUptoRow.holds Tryd.pinned (OpenSpec.upto classAnySpec)

/-- 'hairsbreadthlaw08.ClassKnown', WHERE WHAT IT READS IS OF BULK AT MOST 1048576: true; the input reads as it did. -/
def classKnownUptoRow : OpenClaim := { program := "ytbelighbkjadkaadoor", sum := "44546c5a4cd6c12028f70c20f4e4f09c1e9b4d59872efc14773a15ea92d8fdaa", func := "hairsbreadth/hairsbreadthlaw08.ClassKnown", spec := "classKnown", inPlace := ["math/bits.Add64"], unfollowed := true, recurses := true, named := ["hairsbreadth/format.table"], apart := false, laid := [("hairsbreadth/format.table", laid_hairsbreadth_format_table)], narrowed := true }
def ClassKnownUptoSaid : Prop := classKnownUptoRow.holds Tryd.pinned (OpenSpec.upto classKnownSpec)

/-- 'hairsbreadthlaw11.PayloadMoves', WHERE WHAT IT READS IS OF BULK AT MOST 1048576: true; the input reads as it did. -/
def payloadMovesUptoRow : OpenClaim := { program := "ytbelighbkjadkaadoor", sum := "44546c5a4cd6c12028f70c20f4e4f09c1e9b4d59872efc14773a15ea92d8fdaa", func := "hairsbreadth/hairsbreadthlaw11.PayloadMoves", spec := "payloadMoves", inPlace := ["math/bits.Add64"], unfollowed := true, recurses := true, named := ["hairsbreadth/format.table"], apart := false, laid := [("hairsbreadth/format.table", laid_hairsbreadth_format_table)], narrowed := true }
def PayloadMovesUptoSaid : Prop := payloadMovesUptoRow.holds Tryd.pinned (OpenSpec.upto payloadMovesSpec)

/-- 'hairsbreadthlaw10.NanQuiets', WHERE WHAT IT READS IS OF BULK AT MOST 1048576: true; the input reads as it did. -/
def nanQuietsUptoRow : OpenClaim := { program := "ytbelighbkjadkaadoor", sum := "44546c5a4cd6c12028f70c20f4e4f09c1e9b4d59872efc14773a15ea92d8fdaa", func := "hairsbreadth/hairsbreadthlaw10.NanQuiets", spec := "nanQuiets", inPlace := ["math/bits.Add64"], unfollowed := true, recurses := true, named := ["hairsbreadth/format.table"], apart := false, laid := [("hairsbreadth/format.table", laid_hairsbreadth_format_table)], narrowed := true }
def NanQuietsUptoSaid : Prop := nanQuietsUptoRow.holds Tryd.pinned (OpenSpec.upto nanQuietsSpec)

/-- 'hairsbreadthlaw10.NanPicks', WHERE WHAT IT READS IS OF BULK AT MOST 1048576: true; the input reads as it did. -/
def nanPicksUptoRow : OpenClaim := { program := "ytbelighbkjadkaadoor", sum := "44546c5a4cd6c12028f70c20f4e4f09c1e9b4d59872efc14773a15ea92d8fdaa", func := "hairsbreadth/hairsbreadthlaw10.NanPicks", spec := "nanPicks", inPlace := ["math/bits.Add64"], unfollowed := true, recurses := true, named := ["hairsbreadth/format.table"], apart := false, laid := [("hairsbreadth/format.table", laid_hairsbreadth_format_table)], narrowed := true }
def NanPicksUptoSaid : Prop := nanPicksUptoRow.holds Tryd.pinned (OpenSpec.upto nanPicksSpec)

/-- 'hairsbreadthlaw09.FieldsUnpack', WHERE WHAT IT READS IS OF BULK AT MOST 1048576: true; the input reads as it did. -/
def fieldsUnpackUptoRow : OpenClaim := { program := "ytbelighbkjadkaadoor", sum := "44546c5a4cd6c12028f70c20f4e4f09c1e9b4d59872efc14773a15ea92d8fdaa", func := "hairsbreadth/hairsbreadthlaw09.FieldsUnpack", spec := "fieldsUnpack", inPlace := ["math/bits.Add64"], unfollowed := true, recurses := true, named := ["hairsbreadth/format.table"], apart := false, laid := [("hairsbreadth/format.table", laid_hairsbreadth_format_table)], narrowed := true }
def FieldsUnpackUptoSaid : Prop := fieldsUnpackUptoRow.holds Tryd.pinned (OpenSpec.upto fieldsUnpackSpec)

/-- 'hairsbreadthlaw09.FieldsPack', WHERE WHAT IT READS IS OF BULK AT MOST 1048576: true; the input reads as it did. -/
def fieldsPackUptoRow : OpenClaim := { program := "ytbelighbkjadkaadoor", sum := "44546c5a4cd6c12028f70c20f4e4f09c1e9b4d59872efc14773a15ea92d8fdaa", func := "hairsbreadth/hairsbreadthlaw09.FieldsPack", spec := "fieldsPack", inPlace := ["math/bits.Add64"], unfollowed := true, recurses := true, named := ["hairsbreadth/format.table"], apart := false, laid := [("hairsbreadth/format.table", laid_hairsbreadth_format_table)], narrowed := true }
def FieldsPackUptoSaid : Prop := fieldsPackUptoRow.holds Tryd.pinned (OpenSpec.upto fieldsPackSpec)

end Rows
end Go.Proofs.YtbelighbkjadkaaDoor
