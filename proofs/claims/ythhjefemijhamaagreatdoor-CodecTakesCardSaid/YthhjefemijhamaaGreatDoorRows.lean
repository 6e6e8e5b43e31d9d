/-
  NARROWER THAN 'FOR EVERY INPUT', by the rows' own cells (each row's printed sentence says how): CodecEncodes: loops, laid · CodecCanon: laid · CodecDeep: laid · CodecMany: laid · CodecOne: loops, laid · CodecCut: loops, laid · CodecParses: laid · CodecTakes: laid · CodecBack: loops, laid · CodecBlanks: laid.
  DERIVED. THE GIVEN ROWS OF THIS SEAT. 10 by the template 'for every input the law returns true; each argument reads behind the call as it read before'; 0 by the template 'total and deterministic' (their statements: YthhjefemijhamaaGreatDoorTotals.lean).
  GIVEN WITH THE SEED: the statements are not yours to turn. If you find one false, say at which input.
  Laid BY PROGRAM, IN A SANDBOX (cutbox-rows.mjs): the forced cells as the released guide's own fill.sh prints them over the translation 135a35032608a1ec… (all of the seat's roots in one cut). By AI agents, Wed Nov 11 2026. No macro, syntax, notation, axiom, sorry.
-/
import Derived.Test.YthhjefemijhamaaGreatDoorChecked
import GoSem.Claim
import GoSem.ClaimJoined
import GoSem.ClaimMapViews
import Derived.JoinedTies
import Derived.KernelRfl
namespace Go.Proofs.YthhjefemijhamaaGreatDoor
/- THE CELL 'sum', in the pinned program and in every row, IS THE sha256 OF THE DUMP (.gsa) THAT YthhjefemijhamaaGreatDoorProg.lean LOADS. Nothing in Lean hashes anything: it is a label: what it is worth is what the hold of that sum in a sandbox is worth. -/
noncomputable def Tryz.pinned : Pinned := { name := "ythhjefemijhamaagreatdoor", sum := "135a35032608a1ec39d2783d4f7a6c655f6fac5aabf656a8ad1792fc929cf50e", checked := Tryz.checked }
namespace Rows
def none {H : Type} : Left H := { results := [], args := [] }

/- WHAT THE LISTED PACKAGE-LEVEL VARIABLES READ AS WHEN THE CALL BEGINS. Each datum BY PROGRAM (the guide's laid-datum.mjs) off the statement by which the dump's own 'gosem.cut.vars' lays the variable. In a bare row this is a premise. The card (YthhjefemijhamaaGreatDoorCards.lean) ties it to the program's text. -/
def laid_math_bits_deBruijn32tab {H : Type} : DataW H := .agg [.lit (.int .u8 0), .lit (.int .u8 1), .lit (.int .u8 28), .lit (.int .u8 2), .lit (.int .u8 29), .lit (.int .u8 14), .lit (.int .u8 24), .lit (.int .u8 3), .lit (.int .u8 30), .lit (.int .u8 22), .lit (.int .u8 20), .lit (.int .u8 15), .lit (.int .u8 25), .lit (.int .u8 17), .lit (.int .u8 4), .lit (.int .u8 8), .lit (.int .u8 31), .lit (.int .u8 27), .lit (.int .u8 13), .lit (.int .u8 23), .lit (.int .u8 21), .lit (.int .u8 19), .lit (.int .u8 16), .lit (.int .u8 7), .lit (.int .u8 26), .lit (.int .u8 12), .lit (.int .u8 18), .lit (.int .u8 6), .lit (.int .u8 11), .lit (.int .u8 5), .lit (.int .u8 10), .lit (.int .u8 9)]
def laid_errors_errorType {H : Type} : DataW H := .iface "internal/reflectlite.rtype" (.agg [.ptr (.lit (.string [101, 114, 114, 111, 114]))])
def laid_placket_lex_signs {H : Type} : DataW H := .agg [.lit (.string [46, 46]), .lit (.string [61, 61]), .lit (.string [33, 61]), .lit (.string [60, 61]), .lit (.string [62, 61]), .lit (.string [38, 38]), .lit (.string [124, 124]), .lit (.string [91]), .lit (.string [93]), .lit (.string [123]), .lit (.string [125]), .lit (.string [60]), .lit (.string [62]), .lit (.string [40]), .lit (.string [41]), .lit (.string [44]), .lit (.string [58]), .lit (.string [46]), .lit (.string [42]), .lit (.string [63]), .lit (.string [33]), .lit (.string [36]), .lit (.string [64])]

/-- 'placketlaw14.CodecEncodes': WHATEVER THE INPUT: true; the input reads as it did. -/
def codecEncodesSpec : ChangeSpec := { name := "codecEncodes", fn := fun _ => fun
  | [d1, d2] => { results := [.lit (.bool true)], args := [d1, d2] }
  | _ => none }
def codecEncodesRow : OpenClaim := { program := "ythhjefemijhamaagreatdoor", sum := "135a35032608a1ec39d2783d4f7a6c655f6fac5aabf656a8ad1792fc929cf50e", func := "placket/placketlaw14.CodecEncodes", spec := "codecEncodes", inPlace := ["slices.overlaps[placket/hamt.pair[placket/value.Value]]", "internal/reflectlite.ValueOf", "(internal/reflectlite.Value).Type", "(internal/reflectlite.Value).IsNil", "internal/reflectlite.TypeOf", "(internal/reflectlite.Value).Elem", "(internal/reflectlite.Value).Set"], unfollowed := true, recurses := true, named := ["placket/lex.signs", "math/bits.deBruijn32tab", "errors.errorType"], loops := true, apart := false, laid := [("math/bits.deBruijn32tab", laid_math_bits_deBruijn32tab), ("errors.errorType", laid_errors_errorType), ("placket/lex.signs", laid_placket_lex_signs)] }
def CodecEncodesSaid : Prop := codecEncodesRow.holds Tryz.pinned (OpenSpec.ofChange codecEncodesSpec)

/-- ITS FALSE NEIGHBOUR: 'it returns false'. Refute it at one input. -/
def codecEncodesWrong : ChangeSpec := { name := "codecEncodes", fn := fun _ => fun
  | [d1, d2] => { results := [.lit (.bool false)], args := [d1, d2] }
  | _ => none }
def CodecEncodesWrongFalsely : Prop := codecEncodesRow.holds Tryz.pinned (OpenSpec.ofChange codecEncodesWrong)

/-- 'placketlaw14.CodecCanon': WHATEVER THE INPUT: true; the input reads as it did. -/
def codecCanonSpec : ChangeSpec := { name := "codecCanon", fn := fun _ => fun
  | [d1, d2] => { results := [.lit (.bool true)], args := [d1, d2] }
  | _ => none }
def codecCanonRow : OpenClaim := { program := "ythhjefemijhamaagreatdoor", sum := "135a35032608a1ec39d2783d4f7a6c655f6fac5aabf656a8ad1792fc929cf50e", func := "placket/placketlaw14.CodecCanon", spec := "codecCanon", inPlace := ["slices.overlaps[placket/hamt.pair[placket/value.Value]]", "internal/reflectlite.ValueOf", "(internal/reflectlite.Value).Type", "(internal/reflectlite.Value).IsNil", "internal/reflectlite.TypeOf", "(internal/reflectlite.Value).Elem", "(internal/reflectlite.Value).Set"], unfollowed := true, recurses := true, named := ["placket/lex.signs", "math/bits.deBruijn32tab", "errors.errorType"], apart := false, laid := [("math/bits.deBruijn32tab", laid_math_bits_deBruijn32tab), ("errors.errorType", laid_errors_errorType), ("placket/lex.signs", laid_placket_lex_signs)] }
def CodecCanonSaid : Prop := codecCanonRow.holds Tryz.pinned (OpenSpec.ofChange codecCanonSpec)

/-- ITS FALSE NEIGHBOUR: 'it returns false'. Refute it at one input. -/
def codecCanonWrong : ChangeSpec := { name := "codecCanon", fn := fun _ => fun
  | [d1, d2] => { results := [.lit (.bool false)], args := [d1, d2] }
  | _ => none }
def CodecCanonWrongFalsely : Prop := codecCanonRow.holds Tryz.pinned (OpenSpec.ofChange codecCanonWrong)

/-- 'placketlaw14.CodecDeep': WHATEVER THE INPUT: true; the input reads as it did. -/
def codecDeepSpec : ChangeSpec := { name := "codecDeep", fn := fun _ => fun
  | [d1, d2] => { results := [.lit (.bool true)], args := [d1, d2] }
  | _ => none }
def codecDeepRow : OpenClaim := { program := "ythhjefemijhamaagreatdoor", sum := "135a35032608a1ec39d2783d4f7a6c655f6fac5aabf656a8ad1792fc929cf50e", func := "placket/placketlaw14.CodecDeep", spec := "codecDeep", inPlace := ["slices.overlaps[placket/hamt.pair[placket/value.Value]]", "internal/reflectlite.ValueOf", "(internal/reflectlite.Value).Type", "(internal/reflectlite.Value).IsNil", "internal/reflectlite.TypeOf", "(internal/reflectlite.Value).Elem", "(internal/reflectlite.Value).Set"], unfollowed := true, recurses := true, named := ["placket/lex.signs", "math/bits.deBruijn32tab", "errors.errorType"], apart := false, laid := [("math/bits.deBruijn32tab", laid_math_bits_deBruijn32tab), ("errors.errorType", laid_errors_errorType), ("placket/lex.signs", laid_placket_lex_signs)] }
def CodecDeepSaid : Prop := codecDeepRow.holds Tryz.pinned (OpenSpec.ofChange codecDeepSpec)

/-- ITS FALSE NEIGHBOUR: 'it returns false'. Refute it at one input. -/
def codecDeepWrong : ChangeSpec := { name := "codecDeep", fn := fun _ => fun
  | [d1, d2] => { results := [.lit (.bool false)], args := [d1, d2] }
  | _ => none }
def CodecDeepWrongFalsely : Prop := codecDeepRow.holds Tryz.pinned (OpenSpec.ofChange codecDeepWrong)

/-- 'placketlaw14.CodecMany': WHATEVER THE INPUT: true; the input reads as it did. -/
def codecManySpec : ChangeSpec := { name := "codecMany", fn := fun _ => fun
  | [d1, d2] => { results := [.lit (.bool true)], args := [d1, d2] }
  | _ => none }
def codecManyRow : OpenClaim := { program := "ythhjefemijhamaagreatdoor", sum := "135a35032608a1ec39d2783d4f7a6c655f6fac5aabf656a8ad1792fc929cf50e", func := "placket/placketlaw14.CodecMany", spec := "codecMany", inPlace := ["slices.overlaps[placket/hamt.pair[placket/value.Value]]", "internal/reflectlite.ValueOf", "(internal/reflectlite.Value).Type", "(internal/reflectlite.Value).IsNil", "internal/reflectlite.TypeOf", "(internal/reflectlite.Value).Elem", "(internal/reflectlite.Value).Set"], unfollowed := true, recurses := true, named := ["placket/lex.signs", "math/bits.deBruijn32tab", "errors.errorType"], apart := false, laid := [("math/bits.deBruijn32tab", laid_math_bits_deBruijn32tab), ("errors.errorType", laid_errors_errorType), ("placket/lex.signs", laid_placket_lex_signs)] }
def CodecManySaid : Prop := codecManyRow.holds Tryz.pinned (OpenSpec.ofChange codecManySpec)

/-- ITS FALSE NEIGHBOUR: 'it returns false'. Refute it at one input. -/
def codecManyWrong : ChangeSpec := { name := "codecMany", fn := fun _ => fun
  | [d1, d2] => { results := [.lit (.bool false)], args := [d1, d2] }
  | _ => none }
def CodecManyWrongFalsely : Prop := codecManyRow.holds Tryz.pinned (OpenSpec.ofChange codecManyWrong)

/-- 'placketlaw14.CodecOne': WHATEVER THE INPUT: true; the input reads as it did. -/
def codecOneSpec : ChangeSpec := { name := "codecOne", fn := fun _ => fun
  | [d1, d2, d3, d4] => { results := [.lit (.bool true)], args := [d1, d2, d3, d4] }
  | _ => none }
def codecOneRow : OpenClaim := { program := "ythhjefemijhamaagreatdoor", sum := "135a35032608a1ec39d2783d4f7a6c655f6fac5aabf656a8ad1792fc929cf50e", func := "placket/placketlaw14.CodecOne", spec := "codecOne", inPlace := ["slices.overlaps[placket/hamt.pair[placket/value.Value]]", "internal/reflectlite.ValueOf", "(internal/reflectlite.Value).Type", "(internal/reflectlite.Value).IsNil", "internal/reflectlite.TypeOf", "(internal/reflectlite.Value).Elem", "(internal/reflectlite.Value).Set"], unfollowed := true, recurses := true, named := ["placket/lex.signs", "math/bits.deBruijn32tab", "errors.errorType"], loops := true, apart := false, laid := [("math/bits.deBruijn32tab", laid_math_bits_deBruijn32tab), ("errors.errorType", laid_errors_errorType), ("placket/lex.signs", laid_placket_lex_signs)] }
def CodecOneSaid : Prop := codecOneRow.holds Tryz.pinned (OpenSpec.ofChange codecOneSpec)

/-- ITS FALSE NEIGHBOUR: 'it returns false'. Refute it at one input. -/
def codecOneWrong : ChangeSpec := { name := "codecOne", fn := fun _ => fun
  | [d1, d2, d3, d4] => { results := [.lit (.bool false)], args := [d1, d2, d3, d4] }
  | _ => none }
def CodecOneWrongFalsely : Prop := codecOneRow.holds Tryz.pinned (OpenSpec.ofChange codecOneWrong)

/-- 'placketlaw14.CodecCut': WHATEVER THE INPUT: true; the input reads as it did. -/
def codecCutSpec : ChangeSpec := { name := "codecCut", fn := fun _ => fun
  | [d1, d2, d3] => { results := [.lit (.bool true)], args := [d1, d2, d3] }
  | _ => none }
def codecCutRow : OpenClaim := { program := "ythhjefemijhamaagreatdoor", sum := "135a35032608a1ec39d2783d4f7a6c655f6fac5aabf656a8ad1792fc929cf50e", func := "placket/placketlaw14.CodecCut", spec := "codecCut", inPlace := ["slices.overlaps[placket/hamt.pair[placket/value.Value]]", "internal/reflectlite.ValueOf", "(internal/reflectlite.Value).Type", "(internal/reflectlite.Value).IsNil", "internal/reflectlite.TypeOf", "(internal/reflectlite.Value).Elem", "(internal/reflectlite.Value).Set"], unfollowed := true, recurses := true, named := ["placket/lex.signs", "math/bits.deBruijn32tab", "errors.errorType"], loops := true, apart := false, laid := [("math/bits.deBruijn32tab", laid_math_bits_deBruijn32tab), ("errors.errorType", laid_errors_errorType), ("placket/lex.signs", laid_placket_lex_signs)] }
def CodecCutSaid : Prop := codecCutRow.holds Tryz.pinned (OpenSpec.ofChange codecCutSpec)

/-- ITS FALSE NEIGHBOUR: 'it returns false'. Refute it at one input. -/
def codecCutWrong : ChangeSpec := { name := "codecCut", fn := fun _ => fun
  | [d1, d2, d3] => { results := [.lit (.bool false)], args := [d1, d2, d3] }
  | _ => none }
def CodecCutWrongFalsely : Prop := codecCutRow.holds Tryz.pinned (OpenSpec.ofChange codecCutWrong)

/-- 'placketlaw14.CodecParses': WHATEVER THE INPUT: true; the input reads as it did. -/
def codecParsesSpec : ChangeSpec := { name := "codecParses", fn := fun _ => fun
  | [d1, d2] => { results := [.lit (.bool true)], args := [d1, d2] }
  | _ => none }
def codecParsesRow : OpenClaim := { program := "ythhjefemijhamaagreatdoor", sum := "135a35032608a1ec39d2783d4f7a6c655f6fac5aabf656a8ad1792fc929cf50e", func := "placket/placketlaw14.CodecParses", spec := "codecParses", inPlace := ["slices.overlaps[placket/hamt.pair[placket/value.Value]]", "internal/reflectlite.ValueOf", "(internal/reflectlite.Value).Type", "(internal/reflectlite.Value).IsNil", "internal/reflectlite.TypeOf", "(internal/reflectlite.Value).Elem", "(internal/reflectlite.Value).Set"], unfollowed := true, recurses := true, named := ["placket/lex.signs", "math/bits.deBruijn32tab", "errors.errorType"], apart := false, laid := [("math/bits.deBruijn32tab", laid_math_bits_deBruijn32tab), ("errors.errorType", laid_errors_errorType), ("placket/lex.signs", laid_placket_lex_signs)] }
def CodecParsesSaid : Prop := codecParsesRow.holds Tryz.pinned (OpenSpec.ofChange codecParsesSpec)

/-- ITS FALSE NEIGHBOUR: 'it returns false'. Refute it at one input. -/
def codecParsesWrong : ChangeSpec := { name := "codecParses", fn := fun _ => fun
  | [d1, d2] => { results := [.lit (.bool false)], args := [d1, d2] }
  | _ => none }
def CodecParsesWrongFalsely : Prop := codecParsesRow.holds Tryz.pinned (OpenSpec.ofChange codecParsesWrong)

/-- 'placketlaw14.CodecTakes': WHATEVER THE INPUT: true; the input reads as it did. -/
def codecTakesSpec : ChangeSpec := { name := "codecTakes", fn := fun _ => fun
  | [d1, d2, d3] => { results := [.lit (.bool true)], args := [d1, d2, d3] }
  | _ => none }
def codecTakesRow : OpenClaim := { program := "ythhjefemijhamaagreatdoor", sum := "135a35032608a1ec39d2783d4f7a6c655f6fac5aabf656a8ad1792fc929cf50e", func := "placket/placketlaw14.CodecTakes", spec := "codecTakes", inPlace := ["slices.overlaps[placket/hamt.pair[placket/value.Value]]", "internal/reflectlite.ValueOf", "(internal/reflectlite.Value).Type", "(internal/reflectlite.Value).IsNil", "internal/reflectlite.TypeOf", "(internal/reflectlite.Value).Elem", "(internal/reflectlite.Value).Set"], unfollowed := true, recurses := true, named := ["placket/lex.signs", "math/bits.deBruijn32tab", "errors.errorType"], apart := false, laid := [("math/bits.deBruijn32tab", laid_math_bits_deBruijn32tab), ("errors.errorType", laid_errors_errorType), ("placket/lex.signs", laid_placket_lex_signs)] }
def CodecTakesSaid : Prop := codecTakesRow.holds Tryz.pinned (OpenSpec.ofChange codecTakesSpec)

/-- ITS FALSE NEIGHBOUR: 'it returns false'. Refute it at one input. -/
def codecTakesWrong : ChangeSpec := { name := "codecTakes", fn := fun _ => fun
  | [d1, d2, d3] => { results := [.lit (.bool false)], args := [d1, d2, d3] }
  | _ => none }
def CodecTakesWrongFalsely : Prop := codecTakesRow.holds Tryz.pinned (OpenSpec.ofChange codecTakesWrong)

/-- 'placketlaw14.CodecBack': WHATEVER THE INPUT: true; the input reads as it did. -/
def codecBackSpec : ChangeSpec := { name := "codecBack", fn := fun _ => fun
  | [d1, d2, d3, d4, d5] => { results := [.lit (.bool true)], args := [d1, d2, d3, d4, d5] }
  | _ => none }
def codecBackRow : OpenClaim := { program := "ythhjefemijhamaagreatdoor", sum := "135a35032608a1ec39d2783d4f7a6c655f6fac5aabf656a8ad1792fc929cf50e", func := "placket/placketlaw14.CodecBack", spec := "codecBack", inPlace := ["slices.overlaps[placket/hamt.pair[placket/value.Value]]", "internal/reflectlite.ValueOf", "(internal/reflectlite.Value).Type", "(internal/reflectlite.Value).IsNil", "internal/reflectlite.TypeOf", "(internal/reflectlite.Value).Elem", "(internal/reflectlite.Value).Set"], unfollowed := true, recurses := true, named := ["placket/lex.signs", "math/bits.deBruijn32tab", "errors.errorType"], loops := true, apart := false, laid := [("math/bits.deBruijn32tab", laid_math_bits_deBruijn32tab), ("errors.errorType", laid_errors_errorType), ("placket/lex.signs", laid_placket_lex_signs)] }
def CodecBackSaid : Prop := codecBackRow.holds Tryz.pinned (OpenSpec.ofChange codecBackSpec)

/-- ITS FALSE NEIGHBOUR: 'it returns false'. Refute it at one input. -/
def codecBackWrong : ChangeSpec := { name := "codecBack", fn := fun _ => fun
  | [d1, d2, d3, d4, d5] => { results := [.lit (.bool false)], args := [d1, d2, d3, d4, d5] }
  | _ => none }
def CodecBackWrongFalsely : Prop := codecBackRow.holds Tryz.pinned (OpenSpec.ofChange codecBackWrong)

/-- 'placketlaw14.CodecBlanks': WHATEVER THE INPUT: true; the input reads as it did. -/
def codecBlanksSpec : ChangeSpec := { name := "codecBlanks", fn := fun _ => fun
  | [d1, d2] => { results := [.lit (.bool true)], args := [d1, d2] }
  | _ => none }
def codecBlanksRow : OpenClaim := { program := "ythhjefemijhamaagreatdoor", sum := "135a35032608a1ec39d2783d4f7a6c655f6fac5aabf656a8ad1792fc929cf50e", func := "placket/placketlaw14.CodecBlanks", spec := "codecBlanks", inPlace := ["slices.overlaps[placket/hamt.pair[placket/value.Value]]", "internal/reflectlite.ValueOf", "(internal/reflectlite.Value).Type", "(internal/reflectlite.Value).IsNil", "internal/reflectlite.TypeOf", "(internal/reflectlite.Value).Elem", "(internal/reflectlite.Value).Set"], unfollowed := true, recurses := true, named := ["placket/lex.signs", "math/bits.deBruijn32tab", "errors.errorType"], apart := false, laid := [("math/bits.deBruijn32tab", laid_math_bits_deBruijn32tab), ("errors.errorType", laid_errors_errorType), ("placket/lex.signs", laid_placket_lex_signs)] }
def CodecBlanksSaid : Prop := codecBlanksRow.holds Tryz.pinned (OpenSpec.ofChange codecBlanksSpec)

/-- ITS FALSE NEIGHBOUR: 'it returns false'. Refute it at one input. -/
def codecBlanksWrong : ChangeSpec := { name := "codecBlanks", fn := fun _ => fun
  | [d1, d2] => { results := [.lit (.bool false)], args := [d1, d2] }
  | _ => none }
def CodecBlanksWrongFalsely : Prop := codecBlanksRow.holds Tryz.pinned (OpenSpec.ofChange codecBlanksWrong)

/- THE SECOND FORM. 'bulk': how many values and letters a reading holds, each counted each time it is reached (what is shared counts as often as it is met; a slice's spare places count too). A statement '..UptoSaid' is the law's where the arguments, and the package variables that the reading takes, are together of bulk at most 1048576: NARROWER than '..Said'. Prove '..Said' where nothing that the law and all that it calls make is longer than what came in: it says more and counts as full. Else prove '..UptoSaid'. A law counts once. -/
mutual
def uptoBulk {H : Type} : DataW H → Nat
  | .lit (.string bytes) => bytes.length + 1
  | .lit _ => 1
  | .nil => 1
  | .ptr d => uptoBulk d + 1
  | .slice elems spare => uptoBulkAll elems + uptoBulkAll spare + 1
  | .agg parts => uptoBulkAll parts + 1
  | .iface _ d => uptoBulk d + 1
  | .map entries => uptoBulkEntries entries + 1
  | .held _ => 1
def uptoBulkAll {H : Type} : List (DataW H) → Nat
  | [] => 0
  | d :: r => uptoBulk d + uptoBulkAll r
def uptoBulkEntries {H : Type} : List (Lit × DataW H) → Nat
  | [] => 0
  | x :: r => uptoBulkEntry x + uptoBulkEntries r
def uptoBulkEntry {H : Type} : Lit × DataW H → Nat
  | (.string bytes, d) => bytes.length + uptoBulk d + 1
  | (_, d) => uptoBulk d + 1
 end
def uptoSmall : (H : Type) → List (DataW H) → Bool := fun _ ds => decide (uptoBulkAll ds ≤ 1048576)
def OpenSpec.upto (s : _root_.Go.ChangeSpec) : _root_.Go.OpenSpec := { _root_.Go.OpenSpec.ofChange s with cond := some uptoSmall }

/-- 'placketlaw14.CodecEncodes', WHERE WHAT IT READS IS OF BULK AT MOST 1048576: true; the input reads as it did. -/
def codecEncodesUptoRow : OpenClaim := { program := "ythhjefemijhamaagreatdoor", sum := "135a35032608a1ec39d2783d4f7a6c655f6fac5aabf656a8ad1792fc929cf50e", func := "placket/placketlaw14.CodecEncodes", spec := "codecEncodes", inPlace := ["slices.overlaps[placket/hamt.pair[placket/value.Value]]", "internal/reflectlite.ValueOf", "(internal/reflectlite.Value).Type", "(internal/reflectlite.Value).IsNil", "internal/reflectlite.TypeOf", "(internal/reflectlite.Value).Elem", "(internal/reflectlite.Value).Set"], unfollowed := true, recurses := true, named := ["placket/lex.signs", "math/bits.deBruijn32tab", "errors.errorType"], loops := true, apart := false, laid := [("math/bits.deBruijn32tab", laid_math_bits_deBruijn32tab), ("errors.errorType", laid_errors_errorType), ("placket/lex.signs", laid_placket_lex_signs)], narrowed := true }
def CodecEncodesUptoSaid : Prop := codecEncodesUptoRow.holds Tryz.pinned (OpenSpec.upto codecEncodesSpec)

/-- 'placketlaw14.CodecCanon', WHERE WHAT IT READS IS OF BULK AT MOST 1048576: true; the input reads as it did. -/
def codecCanonUptoRow : OpenClaim := { program := "ythhjefemijhamaagreatdoor", sum := "135a35032608a1ec39d2783d4f7a6c655f6fac5aabf656a8ad1792fc929cf50e", func := "placket/placketlaw14.CodecCanon", spec := "codecCanon", inPlace := ["slices.overlaps[placket/hamt.pair[placket/value.Value]]", "internal/reflectlite.ValueOf", "(internal/reflectlite.Value).Type", "(internal/reflectlite.Value).IsNil", "internal/reflectlite.TypeOf", "(internal/reflectlite.Value).Elem", "(internal/reflectlite.Value).Set"], unfollowed := true, recurses := true, named := ["placket/lex.signs", "math/bits.deBruijn32tab", "errors.errorType"], apart := false, laid := [("math/bits.deBruijn32tab", laid_math_bits_deBruijn32tab), ("errors.errorType", laid_errors_errorType), ("placket/lex.signs", laid_placket_lex_signs)], narrowed := true }
def CodecCanonUptoSaid : Prop := codecCanonUptoRow.holds Tryz.pinned (OpenSpec.upto codecCanonSpec)

/-- 'placketlaw14.CodecDeep', WHERE WHAT IT READS IS OF BULK AT MOST 1048576: true; the input reads as it did. -/
def codecDeepUptoRow : OpenClaim := { program := "ythhjefemijhamaagreatdoor", sum := "135a35032608a1ec39d2783d4f7a6c655f6fac5aabf656a8ad1792fc929cf50e", func := "placket/placketlaw14.CodecDeep", spec := "codecDeep", inPlace := ["slices.overlaps[placket/hamt.pair[placket/value.Value]]", "internal/reflectlite.ValueOf", "(internal/reflectlite.Value).Type", "(internal/reflectlite.Value).IsNil", "internal/reflectlite.TypeOf", "(internal/reflectlite.Value).Elem", "(internal/reflectlite.Value).Set"], unfollowed := true, recurses := true, named := ["placket/lex.signs", "math/bits.deBruijn32tab", "errors.errorType"], apart := false, laid := [("math/bits.deBruijn32tab", laid_math_bits_deBruijn32tab), ("errors.errorType", laid_errors_errorType), ("placket/lex.signs", laid_placket_lex_signs)], narrowed := true }
def CodecDeepUptoSaid : Prop := codecDeepUptoRow.holds Tryz.pinned (OpenSpec.upto codecDeepSpec)

/-- 'placketlaw14.CodecMany', WHERE WHAT IT READS IS OF BULK AT MOST 1048576: true; the input reads as it did. -/
def codecManyUptoRow : OpenClaim := { program := "ythhjefemijhamaagreatdoor", sum := "135a35032608a1ec39d2783d4f7a6c655f6fac5aabf656a8ad1792fc929cf50e", func := "placket/placketlaw14.CodecMany", spec := "codecMany", inPlace := ["slices.overlaps[placket/hamt.pair[placket/value.Value]]", "internal/reflectlite.ValueOf", "(internal/reflectlite.Value).Type", "(internal/reflectlite.Value).IsNil", "internal/reflectlite.TypeOf", "(internal/reflectlite.Value).Elem", "(internal/reflectlite.Value).Set"], unfollowed := true, recurses := true, named := ["placket/lex.signs", "math/bits.deBruijn32tab", "errors.errorType"], apart := false, laid := [("math/bits.deBruijn32tab", laid_math_bits_deBruijn32tab), ("errors.errorType", laid_errors_errorType), ("placket/lex.signs", laid_placket_lex_signs)], narrowed := true }
def CodecManyUptoSaid : Prop := codecManyUptoRow.holds Tryz.pinned (OpenSpec.upto codecManySpec)

/-- 'placketlaw14.CodecOne', WHERE WHAT IT READS IS OF BULK AT MOST 1048576: true; the input reads as it did. -/
def codecOneUptoRow : OpenClaim := { program := "ythhjefemijhamaagreatdoor", sum := "135a35032608a1ec39d2783d4f7a6c655f6fac5aabf656a8ad1792fc929cf50e", func := "placket/placketlaw14.CodecOne", spec := "codecOne", inPlace := ["slices.overlaps[placket/hamt.pair[placket/value.Value]]", "internal/reflectlite.ValueOf", "(internal/reflectlite.Value).Type", "(internal/reflectlite.Value).IsNil", "internal/reflectlite.TypeOf", "(internal/reflectlite.Value).Elem", "(internal/reflectlite.Value).Set"], unfollowed := true, recurses := true, named := ["placket/lex.signs", "math/bits.deBruijn32tab", "errors.errorType"], loops := true, apart := false, laid := [("math/bits.deBruijn32tab", laid_math_bits_deBruijn32tab), ("errors.errorType", laid_errors_errorType), ("placket/lex.signs", laid_placket_lex_signs)], narrowed := true }
def CodecOneUptoSaid : Prop := codecOneUptoRow.holds Tryz.pinned (OpenSpec.upto codecOneSpec)

/-- 'placketlaw14.CodecCut', WHERE WHAT IT READS IS OF BULK AT MOST 1048576: true; the input reads as it did. -/
def codecCutUptoRow : OpenClaim := { program := "ythhjefemijhamaagreatdoor", sum := "135a35032608a1ec39d2783d4f7a6c655f6fac5aabf656a8ad1792fc929cf50e", func := "placket/placketlaw14.CodecCut", spec := "codecCut", inPlace := ["slices.overlaps[placket/hamt.pair[placket/value.Value]]", "internal/reflectlite.ValueOf", "(internal/reflectlite.Value).Type", "(internal/reflectlite.Value).IsNil", "internal/reflectlite.TypeOf", "(internal/reflectlite.Value).Elem", "(internal/reflectlite.Value).Set"], unfollowed := true, recurses := true, named := ["placket/lex.signs", "math/bits.deBruijn32tab", "errors.errorType"], loops := true, apart := false, laid := [("math/bits.deBruijn32tab", laid_math_bits_deBruijn32tab), ("errors.errorType", laid_errors_errorType), ("placket/lex.signs", laid_placket_lex_signs)], narrowed := true }
def CodecCutUptoSaid : Prop := codecCutUptoRow.holds Tryz.pinned (OpenSpec.upto codecCutSpec)

/-- 'placketlaw14.CodecParses', WHERE WHAT IT READS IS OF BULK AT MOST 1048576: true; the input reads as it did. -/
def codecParsesUptoRow : OpenClaim := { program := "ythhjefemijhamaagreatdoor", sum := "135a35032608a1ec39d2783d4f7a6c655f6fac5aabf656a8ad1792fc929cf50e", func := "placket/placketlaw14.CodecParses", spec := "codecParses", inPlace := ["slices.overlaps[placket/hamt.pair[placket/value.Value]]", "internal/reflectlite.ValueOf", "(internal/reflectlite.Value).Type", "(internal/reflectlite.Value).IsNil", "internal/reflectlite.TypeOf", "(internal/reflectlite.Value).Elem", "(internal/reflectlite.Value).Set"], unfollowed := true, recurses := true, named := ["placket/lex.signs", "math/bits.deBruijn32tab", "errors.errorType"], apart := false, laid := [("math/bits.deBruijn32tab", laid_math_bits_deBruijn32tab), ("errors.errorType", laid_errors_errorType), ("placket/lex.signs", laid_placket_lex_signs)], narrowed := true }
def CodecParsesUptoSaid : Prop := codecParsesUptoRow.holds Tryz.pinned (OpenSpec.upto codecParsesSpec)

/-- 'placketlaw14.CodecTakes', WHERE WHAT IT READS IS OF BULK AT MOST 1048576: true; the input reads as it did. -/
def codecTakesUptoRow : OpenClaim := { program := "ythhjefemijhamaagreatdoor", sum := "135a35032608a1ec39d2783d4f7a6c655f6fac5aabf656a8ad1792fc929cf50e", func := "placket/placketlaw14.CodecTakes", spec := "codecTakes", inPlace := ["slices.overlaps[placket/hamt.pair[placket/value.Value]]", "internal/reflectlite.ValueOf", "(internal/reflectlite.Value).Type", "(internal/reflectlite.Value).IsNil", "internal/reflectlite.TypeOf", "(internal/reflectlite.Value).Elem", "(internal/reflectlite.Value).Set"], unfollowed := true, recurses := true, named := ["placket/lex.signs", "math/bits.deBruijn32tab", "errors.errorType"], apart := false, laid := [("math/bits.deBruijn32tab", laid_math_bits_deBruijn32tab), ("errors.errorType", laid_errors_errorType), ("placket/lex.signs", laid_placket_lex_signs)], narrowed := true }
def CodecTakesUptoSaid : Prop := codecTakesUptoRow.holds Tryz.pinned (OpenSpec.upto codecTakesSpec)

/-- 'placketlaw14.CodecBack', WHERE WHAT IT READS IS OF BULK AT MOST 1048576: true; the input reads as it did. -/
def codecBackUptoRow : OpenClaim := { program := "ythhjefemijhamaagreatdoor", sum := "135a35032608a1ec39d2783d4f7a6c655f6fac5aabf656a8ad1792fc929cf50e", func := "placket/placketlaw14.CodecBack", spec := "codecBack", inPlace := ["slices.overlaps[placket/hamt.pair[placket/value.Value]]", "internal/reflectlite.ValueOf", "(internal/reflectlite.Value).Type", "(internal/reflectlite.Value).IsNil", "internal/reflectlite.TypeOf", "(internal/reflectlite.Value).Elem", "(internal/reflectlite.Value).Set"], unfollowed := true, recurses := true, named := ["placket/lex.signs", "math/bits.deBruijn32tab", "errors.errorType"], loops := true, apart := false, laid := [("math/bits.deBruijn32tab", laid_math_bits_deBruijn32tab), ("errors.errorType", laid_errors_errorType), ("placket/lex.signs", laid_placket_lex_signs)], narrowed := true }
def CodecBackUptoSaid : Prop := codecBackUptoRow.holds Tryz.pinned (OpenSpec.upto codecBackSpec)

/-- 'placketlaw14.CodecBlanks', WHERE WHAT IT READS IS OF BULK AT MOST 1048576: true; the input reads as it did. -/
def codecBlanksUptoRow : OpenClaim := { program := "ythhjefemijhamaagreatdoor", sum := "135a35032608a1ec39d2783d4f7a6c655f6fac5aabf656a8ad1792fc929cf50e", func := "placket/placketlaw14.CodecBlanks", spec := "codecBlanks", inPlace := ["slices.overlaps[placket/hamt.pair[placket/value.Value]]", "internal/reflectlite.ValueOf", "(internal/reflectlite.Value).Type", "(internal/reflectlite.Value).IsNil", "internal/reflectlite.TypeOf", "(internal/reflectlite.Value).Elem", "(internal/reflectlite.Value).Set"], unfollowed := true, recurses := true, named := ["placket/lex.signs", "math/bits.deBruijn32tab", "errors.errorType"], apart := false, laid := [("math/bits.deBruijn32tab", laid_math_bits_deBruijn32tab), ("errors.errorType", laid_errors_errorType), ("placket/lex.signs", laid_placket_lex_signs)], narrowed := true }
def CodecBlanksUptoSaid : Prop := codecBlanksUptoRow.holds Tryz.pinned (OpenSpec.upto codecBlanksSpec)

end Rows
end Go.Proofs.YthhjefemijhamaaGreatDoor
