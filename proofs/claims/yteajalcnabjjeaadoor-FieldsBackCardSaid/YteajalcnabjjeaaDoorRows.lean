/-
  NARROWER THAN 'FOR EVERY INPUT', by the rows' own cells (each row's printed sentence says how): CountKnown: laid · FieldsWide: laid · CountTail: laid · FieldsOrder: laid · CountBack: laid · CountShift: laid · CountBetween: laid · ClassKnown: laid · NanFirst: laid · FieldsReach: laid · FieldsKnown: laid · FieldsBack: laid.
  DERIVED. THE GIVEN ROWS OF THIS SEAT. 12 by the template 'for every input the law returns true; each argument reads behind the call as it read before'; 0 by the template 'total and deterministic' (their statements: YteajalcnabjjeaaDoorTotals.lean).
  GIVEN WITH THE SEED: the statements are not yours to turn. If you find one false, say at which input.
  Laid BY PROGRAM, IN A SANDBOX (cutbox-rows.mjs): the forced cells as the released guide's own fill.sh prints them over the translation 3735d2adc448b5af… (all of the seat's roots in one cut). By AI agents, Wed Nov 11 2026. No macro, syntax, notation, axiom, sorry.
-/
import Derived.Test.YteajalcnabjjeaaDoorChecked
import GoSem.Claim
import GoSem.ClaimJoined
import GoSem.ClaimMapViews
import Derived.JoinedTies
import Derived.KernelRfl
namespace Go.Proofs.YteajalcnabjjeaaDoor
/- THE CELL 'sum', in the pinned program and in every row, IS THE sha256 OF THE DUMP (.gsa) THAT YteajalcnabjjeaaDoorProg.lean LOADS. Nothing in Lean hashes anything: it is a label: what it is worth is what the hold of that sum in a sandbox is worth. -/
noncomputable def Tryd.pinned : Pinned := { name := "yteajalcnabjjeaadoor", sum := "3735d2adc448b5af758a818e5071d6703215cd741a2fabce52fe5928bc265440", checked := Tryd.checked }
namespace Rows
def none {H : Type} : Left H := { results := [], args := [] }

/- WHAT THE LISTED PACKAGE-LEVEL VARIABLES READ AS WHEN THE CALL BEGINS. Each datum BY PROGRAM (the guide's laid-datum.mjs) off the statement by which the dump's own 'gosem.cut.vars' lays the variable. In a bare row this is a premise. The card (YteajalcnabjjeaaDoorCards.lean) ties it to the program's text. -/
def laid_math_bits_deBruijn64tab {H : Type} : DataW H := .agg [.lit (.int .u8 0), .lit (.int .u8 1), .lit (.int .u8 56), .lit (.int .u8 2), .lit (.int .u8 57), .lit (.int .u8 49), .lit (.int .u8 28), .lit (.int .u8 3), .lit (.int .u8 61), .lit (.int .u8 58), .lit (.int .u8 42), .lit (.int .u8 50), .lit (.int .u8 38), .lit (.int .u8 29), .lit (.int .u8 17), .lit (.int .u8 4), .lit (.int .u8 62), .lit (.int .u8 47), .lit (.int .u8 59), .lit (.int .u8 36), .lit (.int .u8 45), .lit (.int .u8 43), .lit (.int .u8 51), .lit (.int .u8 22), .lit (.int .u8 53), .lit (.int .u8 39), .lit (.int .u8 33), .lit (.int .u8 30), .lit (.int .u8 24), .lit (.int .u8 18), .lit (.int .u8 12), .lit (.int .u8 5), .lit (.int .u8 63), .lit (.int .u8 55), .lit (.int .u8 48), .lit (.int .u8 27), .lit (.int .u8 60), .lit (.int .u8 41), .lit (.int .u8 37), .lit (.int .u8 16), .lit (.int .u8 46), .lit (.int .u8 35), .lit (.int .u8 44), .lit (.int .u8 21), .lit (.int .u8 52), .lit (.int .u8 32), .lit (.int .u8 23), .lit (.int .u8 11), .lit (.int .u8 54), .lit (.int .u8 26), .lit (.int .u8 40), .lit (.int .u8 15), .lit (.int .u8 34), .lit (.int .u8 20), .lit (.int .u8 31), .lit (.int .u8 10), .lit (.int .u8 25), .lit (.int .u8 14), .lit (.int .u8 19), .lit (.int .u8 9), .lit (.int .u8 13), .lit (.int .u8 8), .lit (.int .u8 7), .lit (.int .u8 6)]
def laid_hairsbreadth_format_table {H : Type} : DataW H := .agg [.agg [.lit (.int .i64 16), .lit (.int .i64 11), .lit (.int .i64 15)], .agg [.lit (.int .i64 32), .lit (.int .i64 24), .lit (.int .i64 127)], .agg [.lit (.int .i64 64), .lit (.int .i64 53), .lit (.int .i64 1023)], .agg [.lit (.int .i64 128), .lit (.int .i64 113), .lit (.int .i64 16383)]]

/-- 'hairsbreadthlaw04.CountKnown': WHATEVER THE INPUT: true; the input reads as it did. -/
def countKnownSpec : ChangeSpec := { name := "countKnown", fn := fun _ => fun
  | [] => { results := [.lit (.bool true)], args := [] }
  | _ => none }
def countKnownRow : OpenClaim := { program := "yteajalcnabjjeaadoor", sum := "3735d2adc448b5af758a818e5071d6703215cd741a2fabce52fe5928bc265440", func := "hairsbreadth/hairsbreadthlaw04.CountKnown", spec := "countKnown", unfollowed := true, recurses := true, named := ["math/bits.deBruijn64tab"], apart := false, laid := [("math/bits.deBruijn64tab", laid_math_bits_deBruijn64tab)] }
def CountKnownSaid : Prop := countKnownRow.holds Tryd.pinned (OpenSpec.ofChange countKnownSpec)

/-- ITS FALSE NEIGHBOUR: 'it returns false'. Refute it at one input. -/
def countKnownWrong : ChangeSpec := { name := "countKnown", fn := fun _ => fun
  | [] => { results := [.lit (.bool false)], args := [] }
  | _ => none }
def CountKnownWrongFalsely : Prop := countKnownRow.holds Tryd.pinned (OpenSpec.ofChange countKnownWrong)

/-- 'hairsbreadthlaw09.FieldsWide': WHATEVER THE INPUT: true; the input reads as it did. -/
def fieldsWideSpec : ChangeSpec := { name := "fieldsWide", fn := fun _ => fun
  | [d1, d2] => { results := [.lit (.bool true)], args := [d1, d2] }
  | _ => none }
def fieldsWideRow : OpenClaim := { program := "yteajalcnabjjeaadoor", sum := "3735d2adc448b5af758a818e5071d6703215cd741a2fabce52fe5928bc265440", func := "hairsbreadth/hairsbreadthlaw09.FieldsWide", spec := "fieldsWide", inPlace := ["math/bits.Add64"], unfollowed := true, recurses := true, named := ["hairsbreadth/format.table"], apart := false, laid := [("hairsbreadth/format.table", laid_hairsbreadth_format_table)] }
def FieldsWideSaid : Prop := fieldsWideRow.holds Tryd.pinned (OpenSpec.ofChange fieldsWideSpec)

/-- ITS FALSE NEIGHBOUR: 'it returns false'. Refute it at one input. -/
def fieldsWideWrong : ChangeSpec := { name := "fieldsWide", fn := fun _ => fun
  | [d1, d2] => { results := [.lit (.bool false)], args := [d1, d2] }
  | _ => none }
def FieldsWideWrongFalsely : Prop := fieldsWideRow.holds Tryd.pinned (OpenSpec.ofChange fieldsWideWrong)

/-- 'hairsbreadthlaw04.CountTail': WHATEVER THE INPUT: true; the input reads as it did. -/
def countTailSpec : ChangeSpec := { name := "countTail", fn := fun _ => fun
  | [d] => { results := [.lit (.bool true)], args := [d] }
  | _ => none }
def countTailRow : OpenClaim := { program := "yteajalcnabjjeaadoor", sum := "3735d2adc448b5af758a818e5071d6703215cd741a2fabce52fe5928bc265440", func := "hairsbreadth/hairsbreadthlaw04.CountTail", spec := "countTail", unfollowed := true, recurses := true, named := ["math/bits.deBruijn64tab"], apart := false, laid := [("math/bits.deBruijn64tab", laid_math_bits_deBruijn64tab)] }
def CountTailSaid : Prop := countTailRow.holds Tryd.pinned (OpenSpec.ofChange countTailSpec)

/-- ITS FALSE NEIGHBOUR: 'it returns false'. Refute it at one input. -/
def countTailWrong : ChangeSpec := { name := "countTail", fn := fun _ => fun
  | [d] => { results := [.lit (.bool false)], args := [d] }
  | _ => none }
def CountTailWrongFalsely : Prop := countTailRow.holds Tryd.pinned (OpenSpec.ofChange countTailWrong)

/-- 'hairsbreadthlaw09.FieldsOrder': WHATEVER THE INPUT: true; the input reads as it did. -/
def fieldsOrderSpec : ChangeSpec := { name := "fieldsOrder", fn := fun _ => fun
  | [d1, d2, d3] => { results := [.lit (.bool true)], args := [d1, d2, d3] }
  | _ => none }
def fieldsOrderRow : OpenClaim := { program := "yteajalcnabjjeaadoor", sum := "3735d2adc448b5af758a818e5071d6703215cd741a2fabce52fe5928bc265440", func := "hairsbreadth/hairsbreadthlaw09.FieldsOrder", spec := "fieldsOrder", inPlace := ["math/bits.Add64"], unfollowed := true, recurses := true, named := ["hairsbreadth/format.table"], apart := false, laid := [("hairsbreadth/format.table", laid_hairsbreadth_format_table)] }
def FieldsOrderSaid : Prop := fieldsOrderRow.holds Tryd.pinned (OpenSpec.ofChange fieldsOrderSpec)

/-- ITS FALSE NEIGHBOUR: 'it returns false'. Refute it at one input. -/
def fieldsOrderWrong : ChangeSpec := { name := "fieldsOrder", fn := fun _ => fun
  | [d1, d2, d3] => { results := [.lit (.bool false)], args := [d1, d2, d3] }
  | _ => none }
def FieldsOrderWrongFalsely : Prop := fieldsOrderRow.holds Tryd.pinned (OpenSpec.ofChange fieldsOrderWrong)

/-- 'hairsbreadthlaw04.CountBack': WHATEVER THE INPUT: true; the input reads as it did. -/
def countBackSpec : ChangeSpec := { name := "countBack", fn := fun _ => fun
  | [d] => { results := [.lit (.bool true)], args := [d] }
  | _ => none }
def countBackRow : OpenClaim := { program := "yteajalcnabjjeaadoor", sum := "3735d2adc448b5af758a818e5071d6703215cd741a2fabce52fe5928bc265440", func := "hairsbreadth/hairsbreadthlaw04.CountBack", spec := "countBack", unfollowed := true, recurses := true, named := ["math/bits.deBruijn64tab"], apart := false, laid := [("math/bits.deBruijn64tab", laid_math_bits_deBruijn64tab)] }
def CountBackSaid : Prop := countBackRow.holds Tryd.pinned (OpenSpec.ofChange countBackSpec)

/-- ITS FALSE NEIGHBOUR: 'it returns false'. Refute it at one input. -/
def countBackWrong : ChangeSpec := { name := "countBack", fn := fun _ => fun
  | [d] => { results := [.lit (.bool false)], args := [d] }
  | _ => none }
def CountBackWrongFalsely : Prop := countBackRow.holds Tryd.pinned (OpenSpec.ofChange countBackWrong)

/-- 'hairsbreadthlaw04.CountShift': WHATEVER THE INPUT: true; the input reads as it did. -/
def countShiftSpec : ChangeSpec := { name := "countShift", fn := fun _ => fun
  | [d1, d2, d3] => { results := [.lit (.bool true)], args := [d1, d2, d3] }
  | _ => none }
def countShiftRow : OpenClaim := { program := "yteajalcnabjjeaadoor", sum := "3735d2adc448b5af758a818e5071d6703215cd741a2fabce52fe5928bc265440", func := "hairsbreadth/hairsbreadthlaw04.CountShift", spec := "countShift", unfollowed := true, recurses := true, named := ["math/bits.deBruijn64tab"], apart := false, laid := [("math/bits.deBruijn64tab", laid_math_bits_deBruijn64tab)] }
def CountShiftSaid : Prop := countShiftRow.holds Tryd.pinned (OpenSpec.ofChange countShiftSpec)

/-- ITS FALSE NEIGHBOUR: 'it returns false'. Refute it at one input. -/
def countShiftWrong : ChangeSpec := { name := "countShift", fn := fun _ => fun
  | [d1, d2, d3] => { results := [.lit (.bool false)], args := [d1, d2, d3] }
  | _ => none }
def CountShiftWrongFalsely : Prop := countShiftRow.holds Tryd.pinned (OpenSpec.ofChange countShiftWrong)

/-- 'hairsbreadthlaw04.CountBetween': WHATEVER THE INPUT: true; the input reads as it did. -/
def countBetweenSpec : ChangeSpec := { name := "countBetween", fn := fun _ => fun
  | [d] => { results := [.lit (.bool true)], args := [d] }
  | _ => none }
def countBetweenRow : OpenClaim := { program := "yteajalcnabjjeaadoor", sum := "3735d2adc448b5af758a818e5071d6703215cd741a2fabce52fe5928bc265440", func := "hairsbreadth/hairsbreadthlaw04.CountBetween", spec := "countBetween", unfollowed := true, recurses := true, named := ["math/bits.deBruijn64tab"], apart := false, laid := [("math/bits.deBruijn64tab", laid_math_bits_deBruijn64tab)] }
def CountBetweenSaid : Prop := countBetweenRow.holds Tryd.pinned (OpenSpec.ofChange countBetweenSpec)

/-- ITS FALSE NEIGHBOUR: 'it returns false'. Refute it at one input. -/
def countBetweenWrong : ChangeSpec := { name := "countBetween", fn := fun _ => fun
  | [d] => { results := [.lit (.bool false)], args := [d] }
  | _ => none }
def CountBetweenWrongFalsely : Prop := countBetweenRow.holds Tryd.pinned (OpenSpec.ofChange countBetweenWrong)

/-- 'hairsbreadthlaw08.ClassKnown': WHATEVER THE INPUT: true; the input reads as it did. -/
def classKnownSpec : ChangeSpec := { name := "classKnown", fn := fun _ => fun
  | [] => { results := [.lit (.bool true)], args := [] }
  | _ => none }
def classKnownRow : OpenClaim := { program := "yteajalcnabjjeaadoor", sum := "3735d2adc448b5af758a818e5071d6703215cd741a2fabce52fe5928bc265440", func := "hairsbreadth/hairsbreadthlaw08.ClassKnown", spec := "classKnown", inPlace := ["math/bits.Add64"], unfollowed := true, recurses := true, named := ["hairsbreadth/format.table"], apart := false, laid := [("hairsbreadth/format.table", laid_hairsbreadth_format_table)] }
def ClassKnownSaid : Prop := classKnownRow.holds Tryd.pinned (OpenSpec.ofChange classKnownSpec)

/-- ITS FALSE NEIGHBOUR: 'it returns false'. Refute it at one input. -/
def classKnownWrong : ChangeSpec := { name := "classKnown", fn := fun _ => fun
  | [] => { results := [.lit (.bool false)], args := [] }
  | _ => none }
def ClassKnownWrongFalsely : Prop := classKnownRow.holds Tryd.pinned (OpenSpec.ofChange classKnownWrong)

/-- 'hairsbreadthlaw10.NanFirst': WHATEVER THE INPUT: true; the input reads as it did. -/
def nanFirstSpec : ChangeSpec := { name := "nanFirst", fn := fun _ => fun
  | [d1, d2, d3, d4] => { results := [.lit (.bool true)], args := [d1, d2, d3, d4] }
  | _ => none }
def nanFirstRow : OpenClaim := { program := "yteajalcnabjjeaadoor", sum := "3735d2adc448b5af758a818e5071d6703215cd741a2fabce52fe5928bc265440", func := "hairsbreadth/hairsbreadthlaw10.NanFirst", spec := "nanFirst", inPlace := ["math/bits.Add64"], unfollowed := true, recurses := true, named := ["hairsbreadth/format.table"], apart := false, laid := [("hairsbreadth/format.table", laid_hairsbreadth_format_table)] }
def NanFirstSaid : Prop := nanFirstRow.holds Tryd.pinned (OpenSpec.ofChange nanFirstSpec)

/-- ITS FALSE NEIGHBOUR: 'it returns false'. Refute it at one input. -/
def nanFirstWrong : ChangeSpec := { name := "nanFirst", fn := fun _ => fun
  | [d1, d2, d3, d4] => { results := [.lit (.bool false)], args := [d1, d2, d3, d4] }
  | _ => none }
def NanFirstWrongFalsely : Prop := nanFirstRow.holds Tryd.pinned (OpenSpec.ofChange nanFirstWrong)

/-- 'hairsbreadthlaw09.FieldsReach': WHATEVER THE INPUT: true; the input reads as it did. -/
def fieldsReachSpec : ChangeSpec := { name := "fieldsReach", fn := fun _ => fun
  | [d1, d2] => { results := [.lit (.bool true)], args := [d1, d2] }
  | _ => none }
def fieldsReachRow : OpenClaim := { program := "yteajalcnabjjeaadoor", sum := "3735d2adc448b5af758a818e5071d6703215cd741a2fabce52fe5928bc265440", func := "hairsbreadth/hairsbreadthlaw09.FieldsReach", spec := "fieldsReach", inPlace := ["math/bits.Add64"], unfollowed := true, recurses := true, named := ["hairsbreadth/format.table"], apart := false, laid := [("hairsbreadth/format.table", laid_hairsbreadth_format_table)] }
def FieldsReachSaid : Prop := fieldsReachRow.holds Tryd.pinned (OpenSpec.ofChange fieldsReachSpec)

/-- ITS FALSE NEIGHBOUR: 'it returns false'. Refute it at one input. -/
def fieldsReachWrong : ChangeSpec := { name := "fieldsReach", fn := fun _ => fun
  | [d1, d2] => { results := [.lit (.bool false)], args := [d1, d2] }
  | _ => none }
def FieldsReachWrongFalsely : Prop := fieldsReachRow.holds Tryd.pinned (OpenSpec.ofChange fieldsReachWrong)

/-- 'hairsbreadthlaw09.FieldsKnown': WHATEVER THE INPUT: true; the input reads as it did. -/
def fieldsKnownSpec : ChangeSpec := { name := "fieldsKnown", fn := fun _ => fun
  | [] => { results := [.lit (.bool true)], args := [] }
  | _ => none }
def fieldsKnownRow : OpenClaim := { program := "yteajalcnabjjeaadoor", sum := "3735d2adc448b5af758a818e5071d6703215cd741a2fabce52fe5928bc265440", func := "hairsbreadth/hairsbreadthlaw09.FieldsKnown", spec := "fieldsKnown", inPlace := ["math/bits.Add64"], unfollowed := true, recurses := true, named := ["hairsbreadth/format.table"], apart := false, laid := [("hairsbreadth/format.table", laid_hairsbreadth_format_table)] }
def FieldsKnownSaid : Prop := fieldsKnownRow.holds Tryd.pinned (OpenSpec.ofChange fieldsKnownSpec)

/-- ITS FALSE NEIGHBOUR: 'it returns false'. Refute it at one input. -/
def fieldsKnownWrong : ChangeSpec := { name := "fieldsKnown", fn := fun _ => fun
  | [] => { results := [.lit (.bool false)], args := [] }
  | _ => none }
def FieldsKnownWrongFalsely : Prop := fieldsKnownRow.holds Tryd.pinned (OpenSpec.ofChange fieldsKnownWrong)

/-- 'hairsbreadthlaw09.FieldsBack': WHATEVER THE INPUT: true; the input reads as it did. -/
def fieldsBackSpec : ChangeSpec := { name := "fieldsBack", fn := fun _ => fun
  | [d1, d2, d3] => { results := [.lit (.bool true)], args := [d1, d2, d3] }
  | _ => none }
def fieldsBackRow : OpenClaim := { program := "yteajalcnabjjeaadoor", sum := "3735d2adc448b5af758a818e5071d6703215cd741a2fabce52fe5928bc265440", func := "hairsbreadth/hairsbreadthlaw09.FieldsBack", spec := "fieldsBack", inPlace := ["math/bits.Add64"], unfollowed := true, recurses := true, named := ["hairsbreadth/format.table"], apart := false, laid := [("hairsbreadth/format.table", laid_hairsbreadth_format_table)] }
def FieldsBackSaid : Prop := fieldsBackRow.holds Tryd.pinned (OpenSpec.ofChange fieldsBackSpec)

/-- ITS FALSE NEIGHBOUR: 'it returns false'. Refute it at one input. -/
def fieldsBackWrong : ChangeSpec := { name := "fieldsBack", fn := fun _ => fun
  | [d1, d2, d3] => { results := [.lit (.bool false)], args := [d1, d2, d3] }
  | _ => none }
def FieldsBackWrongFalsely : Prop := fieldsBackRow.holds Tryd.pinned (OpenSpec.ofChange fieldsBackWrong)

/- THE SECOND FORM. 'bulk': how many values and letters a reading holds, each counted each time it is reached (what is shared counts as often as it is met; a slice's spare places count too). A statement '..UptoSaid' is the law's where the arguments, and the package variables that the reading takes, are together of bulk at most 1048576: NARROWER than '..Said'. Prove '..Said' where nothing that the law and all that it calls make is longer than what came in: it says more and counts as full. Else prove '..UptoSaid'. A law counts once. -/
mutual
def uptoBulk {H : Type} : DataW H → Nat
  | .lit (.string bytes) => bytes.length + 1
  | .lit _ => 1
  | .nil => 1
  | .ptr d => uptoBulk d + 1
  | .slice elems spare => uptoBulkAll elems + uptoBulkAll spare + 1
  | .agg parts => uptoBulkAll parts + 1
  | .iface _ d => uptoBulk d + 1
  | .map entries => uptoBulkEntries entries + 1
  | .held _ => 1
def uptoBulkAll {H : Type} : List (DataW H) → Nat
  | [] => 0
  | d :: r => uptoBulk d + uptoBulkAll r
def uptoBulkEntries {H : Type} : List (Lit × DataW H) → Nat
  | [] => 0
  | x :: r => uptoBulkEntry x + uptoBulkEntries r
def uptoBulkEntry {H : Type} : Lit × DataW H → Nat
  | (.string bytes, d) => bytes.length + uptoBulk d + 1
  | (_, d) => uptoBulk d + 1
 end
def uptoSmall : (H : Type) → List (DataW H) → Bool := fun _ ds => decide (uptoBulkAll ds ≤ 1048576)
def OpenSpec.upto (s : _root_.Go.ChangeSpec) : _root_.Go.OpenSpec := { _root_.Go.OpenSpec.ofChange s with cond := some uptoSmall }

/-- 'hairsbreadthlaw04.CountKnown', WHERE WHAT IT READS IS OF BULK AT MOST 1048576: true; the input reads as it did. -/
def countKnownUptoRow : OpenClaim := { program := "yteajalcnabjjeaadoor", sum := "3735d2adc448b5af758a818e5071d6703215cd741a2fabce52fe5928bc265440", func := "hairsbreadth/hairsbreadthlaw04.CountKnown", spec := "countKnown", unfollowed := true, recurses := true, named := ["math/bits.deBruijn64tab"], apart := false, laid := [("math/bits.deBruijn64tab", laid_math_bits_deBruijn64tab)], narrowed := true }
def CountKnownUptoSaid : Prop := countKnownUptoRow.holds Tryd.pinned (OpenSpec.upto countKnownSpec)

/-- 'hairsbreadthlaw09.FieldsWide', WHERE WHAT IT READS IS OF BULK AT MOST 1048576: true; the input reads as it did. -/
def fieldsWideUptoRow : OpenClaim := { program := "yteajalcnabjjeaadoor", sum := "3735d2adc448b5af758a818e5071d6703215cd741a2fabce52fe5928bc265440", func := "hairsbreadth/hairsbreadthlaw09.FieldsWide", spec := "fieldsWide", inPlace := ["math/bits.Add64"], unfollowed := true, recurses := true, named := ["hairsbreadth/format.table"], apart := false, laid := [("hairsbreadth/format.table", laid_hairsbreadth_format_table)], narrowed := true }
def FieldsWideUptoSaid : Prop := fieldsWideUptoRow.holds Tryd.pinned (OpenSpec.upto fieldsWideSpec)

/-- 'hairsbreadthlaw04.CountTail', WHERE WHAT IT READS IS OF BULK AT MOST 1048576: true; the input reads as it did. -/
def countTailUptoRow : OpenClaim := { program := "yteajalcnabjjeaadoor", sum := "3735d2adc448b5af758a818e5071d6703215cd741a2fabce52fe5928bc265440", func := "hairsbreadth/hairsbreadthlaw04.CountTail", spec := "countTail", unfollowed := true, recurses := true, named := ["math/bits.deBruijn64tab"], apart := false, laid := [("math/bits.deBruijn64tab", laid_math_bits_deBruijn64tab)], narrowed := true }
def CountTailUptoSaid : Prop := countTailUptoRow.holds Tryd.pinned (OpenSpec.upto countTailSpec)

/-- 'hairsbreadthlaw09.FieldsOrder', WHERE WHAT IT READS IS OF BULK AT MOST 1048576: true; the input reads as it did. -/
def fieldsOrderUptoRow : OpenClaim := { program := "yteajalcnabjjeaadoor", sum := "3735d2adc448b5af758a818e5071d6703215cd741a2fabce52fe5928bc265440", func := "hairsbreadth/hairsbreadthlaw09.FieldsOrder", spec := "fieldsOrder", inPlace := ["math/bits.Add64"], unfollowed := true, recurses := true, named := ["hairsbreadth/format.table"], apart := false, laid := [("hairsbreadth/format.table", laid_hairsbreadth_format_table)], narrowed := true }
def FieldsOrderUptoSaid : Prop := fieldsOrderUptoRow.holds Tryd.pinned (OpenSpec.upto fieldsOrderSpec)

/-- 'hairsbreadthlaw04.CountBack', WHERE WHAT IT READS IS OF BULK AT MOST 1048576: true; the input reads as it did. -/
def countBackUptoRow : OpenClaim := { program := "yteajalcnabjjeaadoor", sum := "3735d2adc448b5af758a818e5071d6703215cd741a2fabce52fe5928bc265440", func := "hairsbreadth/hairsbreadthlaw04.CountBack", spec := "countBack", unfollowed := true, recurses := true, named := ["math/bits.deBruijn64tab"], apart := false, laid := [("math/bits.deBruijn64tab", laid_math_bits_deBruijn64tab)], narrowed := true }
def CountBackUptoSaid : Prop := countBackUptoRow.holds Tryd.pinned (OpenSpec.upto countBackSpec)

/-- 'hairsbreadthlaw04.CountShift', WHERE WHAT IT READS IS OF BULK AT MOST 1048576: true; the input reads as it did. -/
def countShiftUptoRow : OpenClaim := { program := "yteajalcnabjjeaadoor", sum := "3735d2adc448b5af758a818e5071d6703215cd741a2fabce52fe5928bc265440", func := "hairsbreadth/hairsbreadthlaw04.CountShift", spec := "countShift", unfollowed := true, recurses := true, named := ["math/bits.deBruijn64tab"], apart := false, laid := [("math/bits.deBruijn64tab", laid_math_bits_deBruijn64tab)], narrowed := true }
def CountShiftUptoSaid : Prop := countShiftUptoRow.holds Tryd.pinned (OpenSpec.upto countShiftSpec)

/-- 'hairsbreadthlaw04.CountBetween', WHERE WHAT IT READS IS OF BULK AT MOST 1048576: true; the input reads as it did. -/
def countBetweenUptoRow : OpenClaim := { program := "yteajalcnabjjeaadoor", sum := "3735d2adc448b5af758a818e5071d6703215cd741a2fabce52fe5928bc265440", func := "hairsbreadth/hairsbreadthlaw04.CountBetween", spec := "countBetween", unfollowed := true, recurses := true, named := ["math/bits.deBruijn64tab"], apart := false, laid := [("math/bits.deBruijn64tab", laid_math_bits_deBruijn64tab)], narrowed := true }
def CountBetweenUptoSaid : Prop := countBetweenUptoRow.holds Tryd.pinned (OpenSpec.upto countBetweenSpec)

/-- 'hairsbreadthlaw08.ClassKnown', WHERE WHAT IT READS IS OF BULK AT MOST 1048576: true; the input reads as it did. -/
def classKnownUptoRow : OpenClaim := { program := "yteajalcnabjjeaadoor", sum := "3735d2adc448b5af758a818e5071d6703215cd741a2fabce52fe5928bc265440", func := "hairsbreadth/hairsbreadthlaw08.ClassKnown", spec := "classKnown", inPlace := ["math/bits.Add64"], unfollowed := true, recurses := true, named := ["hairsbreadth/format.table"], apart := false, laid := [("hairsbreadth/format.table", laid_hairsbreadth_format_table)], narrowed := true }
def ClassKnownUptoSaid : Prop := classKnownUptoRow.holds Tryd.pinned (OpenSpec.upto classKnownSpec)

/-- 'hairsbreadthlaw10.NanFirst', WHERE WHAT IT READS IS OF BULK AT MOST 1048576: true; the input reads as it did. -/
def nanFirstUptoRow : OpenClaim := { program := "yteajalcnabjjeaadoor", sum := "3735d2adc448b5af758a818e5071d6703215cd741a2fabce52fe5928bc265440", func := "hairsbreadth/hairsbreadthlaw10.NanFirst", spec := "nanFirst", inPlace := ["math/bits.Add64"], unfollowed := true, recurses := true, named := ["hairsbreadth/format.table"], apart := false, laid := [("hairsbreadth/format.table", laid_hairsbreadth_format_table)], narrowed := true }
def NanFirstUptoSaid : Prop := nanFirstUptoRow.holds Tryd.pinned (OpenSpec.upto nanFirstSpec)

/-- 'hairsbreadthlaw09.FieldsReach', WHERE WHAT IT READS IS OF BULK AT MOST 1048576: true; the input reads as it did. -/
def fieldsReachUptoRow : OpenClaim := { program := "yteajalcnabjjeaadoor", sum := "3735d2adc448b5af758a818e5071d6703215cd741a2fabce52fe5928bc265440", func := "hairsbreadth/hairsbreadthlaw09.FieldsReach", spec := "fieldsReach", inPlace := ["math/bits.Add64"], unfollowed := true, recurses := true, named := ["hairsbreadth/format.table"], apart := false, laid := [("hairsbreadth/format.table", laid_hairsbreadth_format_table)], narrowed := true }
def FieldsReachUptoSaid : Prop := fieldsReachUptoRow.holds Tryd.pinned (OpenSpec.upto fieldsReachSpec)

/-- 'hairsbreadthlaw09.FieldsKnown', WHERE WHAT IT READS IS OF BULK AT MOST 1048576: true; the input reads as it did. -/
def fieldsKnownUptoRow : OpenClaim := { program := "yteajalcnabjjeaadoor", sum := "3735d2adc448b5af758a818e5071d6703215cd741a2fabce52fe5928bc265440", func := "hairsbreadth/hairsbreadthlaw09.FieldsKnown", spec := "fieldsKnown", inPlace := ["math/bits.Add64"], unfollowed := true, recurses := true, named := ["hairsbreadth/format.table"], apart := false, laid := [("hairsbreadth/format.table", laid_hairsbreadth_format_table)], narrowed := true }
def FieldsKnownUptoSaid : Prop := fieldsKnownUptoRow.holds Tryd.pinned (OpenSpec.upto fieldsKnownSpec)

/-- 'hairsbreadthlaw09.FieldsBack', WHERE WHAT IT READS IS OF BULK AT MOST 1048576: true; the input reads as it did. -/
def fieldsBackUptoRow : OpenClaim := { program := "yteajalcnabjjeaadoor", sum := "3735d2adc448b5af758a818e5071d6703215cd741a2fabce52fe5928bc265440", func := "hairsbreadth/hairsbreadthlaw09.FieldsBack", spec := "fieldsBack", inPlace := ["math/bits.Add64"], unfollowed := true, recurses := true, named := ["hairsbreadth/format.table"], apart := false, laid := [("hairsbreadth/format.table", laid_hairsbreadth_format_table)], narrowed := true }
def FieldsBackUptoSaid : Prop := fieldsBackUptoRow.holds Tryd.pinned (OpenSpec.upto fieldsBackSpec)

end Rows
end Go.Proofs.YteajalcnabjjeaaDoor
