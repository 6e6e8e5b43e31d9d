/-
  NARROWER THAN 'FOR EVERY INPUT', by the rows' own cells (each row's printed sentence says how): PredTruths: loops, laid · PredTurned: loops, laid · PredPaths: loops, laid · PredChecks: laid · PredParses: laid · PredHolds: loops, laid · PredAgain: laid.
  DERIVED. THE GIVEN ROWS OF THIS SEAT. 7 by the template 'for every input the law returns true; each argument reads behind the call as it read before'; 0 by the template 'total and deterministic' (their statements: YtgmhpemjlbgfcaaGreatDoorTotals.lean).
  GIVEN WITH THE SEED: the statements are not yours to turn. If you find one false, say at which input.
  Laid BY PROGRAM, IN A SANDBOX (cutbox-rows.mjs): the forced cells as the released guide's own fill.sh prints them over the translation 75be882a3da4c418… (all of the seat's roots in one cut). By AI agents, Wed Nov 11 2026. No macro, syntax, notation, axiom, sorry.
-/
import Derived.Test.YtgmhpemjlbgfcaaGreatDoorChecked
import GoSem.Claim
import GoSem.ClaimJoined
import GoSem.ClaimMapViews
import Derived.JoinedTies
import Derived.KernelRfl
namespace Go.Proofs.YtgmhpemjlbgfcaaGreatDoor
/- THE CELL 'sum', in the pinned program and in every row, IS THE sha256 OF THE DUMP (.gsa) THAT YtgmhpemjlbgfcaaGreatDoorProg.lean LOADS. Nothing in Lean hashes anything: it is a label: what it is worth is what the hold of that sum in a sandbox is worth. -/
noncomputable def Tryz.pinned : Pinned := { name := "ytgmhpemjlbgfcaagreatdoor", sum := "75be882a3da4c4188d8e40479eb04c16556b4b7092771fd08fca37cb05089bfb", checked := Tryz.checked }
namespace Rows
def none {H : Type} : Left H := { results := [], args := [] }

/- WHAT THE LISTED PACKAGE-LEVEL VARIABLES READ AS WHEN THE CALL BEGINS. Each datum BY PROGRAM (the guide's laid-datum.mjs) off the statement by which the dump's own 'gosem.cut.vars' lays the variable. In a bare row this is a premise. The card (YtgmhpemjlbgfcaaGreatDoorCards.lean) ties it to the program's text. -/
def laid_math_bits_deBruijn32tab {H : Type} : DataW H := .agg [.lit (.int .u8 0), .lit (.int .u8 1), .lit (.int .u8 28), .lit (.int .u8 2), .lit (.int .u8 29), .lit (.int .u8 14), .lit (.int .u8 24), .lit (.int .u8 3), .lit (.int .u8 30), .lit (.int .u8 22), .lit (.int .u8 20), .lit (.int .u8 15), .lit (.int .u8 25), .lit (.int .u8 17), .lit (.int .u8 4), .lit (.int .u8 8), .lit (.int .u8 31), .lit (.int .u8 27), .lit (.int .u8 13), .lit (.int .u8 23), .lit (.int .u8 21), .lit (.int .u8 19), .lit (.int .u8 16), .lit (.int .u8 7), .lit (.int .u8 26), .lit (.int .u8 12), .lit (.int .u8 18), .lit (.int .u8 6), .lit (.int .u8 11), .lit (.int .u8 5), .lit (.int .u8 10), .lit (.int .u8 9)]
def laid_errors_errorType {H : Type} : DataW H := .iface "internal/reflectlite.rtype" (.agg [.ptr (.lit (.string [101, 114, 114, 111, 114]))])
def laid_placket_lex_signs {H : Type} : DataW H := .agg [.lit (.string [46, 46]), .lit (.string [61, 61]), .lit (.string [33, 61]), .lit (.string [60, 61]), .lit (.string [62, 61]), .lit (.string [38, 38]), .lit (.string [124, 124]), .lit (.string [91]), .lit (.string [93]), .lit (.string [123]), .lit (.string [125]), .lit (.string [60]), .lit (.string [62]), .lit (.string [40]), .lit (.string [41]), .lit (.string [44]), .lit (.string [58]), .lit (.string [46]), .lit (.string [42]), .lit (.string [63]), .lit (.string [33]), .lit (.string [36]), .lit (.string [64])]
def laid_placket_pred_signs {H : Type} : DataW H := .agg [.lit (.string [61, 61]), .lit (.string [33, 61]), .lit (.string [60]), .lit (.string [60, 61]), .lit (.string [62]), .lit (.string [62, 61])]
def laid_placket_pred_names {H : Type} : DataW H := .agg [.lit (.string [110, 117, 108, 108]), .lit (.string [98, 111, 111, 108]), .lit (.string [105, 110, 116]), .lit (.string [116, 101, 120, 116]), .lit (.string [118, 101, 99]), .lit (.string [109, 97, 112]), .lit (.string [115, 101, 116])]

/-- 'placketlaw17.PredTruths': WHATEVER THE INPUT: true; the input reads as it did. -/
def predTruthsSpec : ChangeSpec := { name := "predTruths", fn := fun _ => fun
  | [d1, d2, d3, d4] => { results := [.lit (.bool true)], args := [d1, d2, d3, d4] }
  | _ => none }
def predTruthsRow : OpenClaim := { program := "ytgmhpemjlbgfcaagreatdoor", sum := "75be882a3da4c4188d8e40479eb04c16556b4b7092771fd08fca37cb05089bfb", func := "placket/placketlaw17.PredTruths", spec := "predTruths", inPlace := ["internal/reflectlite.ValueOf", "(internal/reflectlite.Value).Type", "(internal/reflectlite.Value).IsNil", "internal/reflectlite.TypeOf", "(internal/reflectlite.Value).Elem", "(internal/reflectlite.Value).Set", "slices.overlaps[placket/hamt.pair[placket/value.Value]]"], unfollowed := true, recurses := true, named := ["placket/lex.signs", "placket/pred.signs", "errors.errorType", "math/bits.deBruijn32tab", "placket/pred.names"], loops := true, apart := false, laid := [("math/bits.deBruijn32tab", laid_math_bits_deBruijn32tab), ("errors.errorType", laid_errors_errorType), ("placket/lex.signs", laid_placket_lex_signs), ("placket/pred.signs", laid_placket_pred_signs), ("placket/pred.names", laid_placket_pred_names)] }
def PredTruthsSaid : Prop := predTruthsRow.holds Tryz.pinned (OpenSpec.ofChange predTruthsSpec)

/-- ITS FALSE NEIGHBOUR: 'it returns false'. Refute it at one input. -/
def predTruthsWrong : ChangeSpec := { name := "predTruths", fn := fun _ => fun
  | [d1, d2, d3, d4] => { results := [.lit (.bool false)], args := [d1, d2, d3, d4] }
  | _ => none }
def PredTruthsWrongFalsely : Prop := predTruthsRow.holds Tryz.pinned (OpenSpec.ofChange predTruthsWrong)

/-- 'placketlaw17.PredTurned': WHATEVER THE INPUT: true; the input reads as it did. -/
def predTurnedSpec : ChangeSpec := { name := "predTurned", fn := fun _ => fun
  | [d1, d2, d3, d4] => { results := [.lit (.bool true)], args := [d1, d2, d3, d4] }
  | _ => none }
def predTurnedRow : OpenClaim := { program := "ytgmhpemjlbgfcaagreatdoor", sum := "75be882a3da4c4188d8e40479eb04c16556b4b7092771fd08fca37cb05089bfb", func := "placket/placketlaw17.PredTurned", spec := "predTurned", inPlace := ["internal/reflectlite.ValueOf", "(internal/reflectlite.Value).Type", "(internal/reflectlite.Value).IsNil", "internal/reflectlite.TypeOf", "(internal/reflectlite.Value).Elem", "(internal/reflectlite.Value).Set", "slices.overlaps[placket/hamt.pair[placket/value.Value]]"], unfollowed := true, recurses := true, named := ["placket/lex.signs", "placket/pred.signs", "errors.errorType", "math/bits.deBruijn32tab", "placket/pred.names"], loops := true, apart := false, laid := [("math/bits.deBruijn32tab", laid_math_bits_deBruijn32tab), ("errors.errorType", laid_errors_errorType), ("placket/lex.signs", laid_placket_lex_signs), ("placket/pred.signs", laid_placket_pred_signs), ("placket/pred.names", laid_placket_pred_names)] }
def PredTurnedSaid : Prop := predTurnedRow.holds Tryz.pinned (OpenSpec.ofChange predTurnedSpec)

/-- ITS FALSE NEIGHBOUR: 'it returns false'. Refute it at one input. -/
def predTurnedWrong : ChangeSpec := { name := "predTurned", fn := fun _ => fun
  | [d1, d2, d3, d4] => { results := [.lit (.bool false)], args := [d1, d2, d3, d4] }
  | _ => none }
def PredTurnedWrongFalsely : Prop := predTurnedRow.holds Tryz.pinned (OpenSpec.ofChange predTurnedWrong)

/-- 'placketlaw17.PredPaths': WHATEVER THE INPUT: true; the input reads as it did. -/
def predPathsSpec : ChangeSpec := { name := "predPaths", fn := fun _ => fun
  | [d1, d2, d3] => { results := [.lit (.bool true)], args := [d1, d2, d3] }
  | _ => none }
def predPathsRow : OpenClaim := { program := "ytgmhpemjlbgfcaagreatdoor", sum := "75be882a3da4c4188d8e40479eb04c16556b4b7092771fd08fca37cb05089bfb", func := "placket/placketlaw17.PredPaths", spec := "predPaths", inPlace := ["internal/reflectlite.ValueOf", "(internal/reflectlite.Value).Type", "(internal/reflectlite.Value).IsNil", "internal/reflectlite.TypeOf", "(internal/reflectlite.Value).Elem", "(internal/reflectlite.Value).Set", "slices.overlaps[placket/hamt.pair[placket/value.Value]]"], unfollowed := true, recurses := true, named := ["placket/lex.signs", "placket/pred.signs", "errors.errorType", "math/bits.deBruijn32tab", "placket/pred.names"], loops := true, apart := false, laid := [("math/bits.deBruijn32tab", laid_math_bits_deBruijn32tab), ("errors.errorType", laid_errors_errorType), ("placket/lex.signs", laid_placket_lex_signs), ("placket/pred.signs", laid_placket_pred_signs), ("placket/pred.names", laid_placket_pred_names)] }
def PredPathsSaid : Prop := predPathsRow.holds Tryz.pinned (OpenSpec.ofChange predPathsSpec)

/-- ITS FALSE NEIGHBOUR: 'it returns false'. Refute it at one input. -/
def predPathsWrong : ChangeSpec := { name := "predPaths", fn := fun _ => fun
  | [d1, d2, d3] => { results := [.lit (.bool false)], args := [d1, d2, d3] }
  | _ => none }
def PredPathsWrongFalsely : Prop := predPathsRow.holds Tryz.pinned (OpenSpec.ofChange predPathsWrong)

/-- 'placketlaw17.PredChecks': WHATEVER THE INPUT: true; the input reads as it did. -/
def predChecksSpec : ChangeSpec := { name := "predChecks", fn := fun _ => fun
  | [d] => { results := [.lit (.bool true)], args := [d] }
  | _ => none }
def predChecksRow : OpenClaim := { program := "ytgmhpemjlbgfcaagreatdoor", sum := "75be882a3da4c4188d8e40479eb04c16556b4b7092771fd08fca37cb05089bfb", func := "placket/placketlaw17.PredChecks", spec := "predChecks", inPlace := ["internal/reflectlite.ValueOf", "(internal/reflectlite.Value).Type", "(internal/reflectlite.Value).IsNil", "internal/reflectlite.TypeOf", "(internal/reflectlite.Value).Elem", "(internal/reflectlite.Value).Set", "slices.overlaps[placket/hamt.pair[placket/value.Value]]"], unfollowed := true, recurses := true, named := ["placket/lex.signs", "placket/pred.signs", "errors.errorType", "math/bits.deBruijn32tab", "placket/pred.names"], apart := false, laid := [("math/bits.deBruijn32tab", laid_math_bits_deBruijn32tab), ("errors.errorType", laid_errors_errorType), ("placket/lex.signs", laid_placket_lex_signs), ("placket/pred.signs", laid_placket_pred_signs), ("placket/pred.names", laid_placket_pred_names)] }
def PredChecksSaid : Prop := predChecksRow.holds Tryz.pinned (OpenSpec.ofChange predChecksSpec)

/-- ITS FALSE NEIGHBOUR: 'it returns false'. Refute it at one input. -/
def predChecksWrong : ChangeSpec := { name := "predChecks", fn := fun _ => fun
  | [d] => { results := [.lit (.bool false)], args := [d] }
  | _ => none }
def PredChecksWrongFalsely : Prop := predChecksRow.holds Tryz.pinned (OpenSpec.ofChange predChecksWrong)

/-- 'placketlaw17.PredParses': WHATEVER THE INPUT: true; the input reads as it did. -/
def predParsesSpec : ChangeSpec := { name := "predParses", fn := fun _ => fun
  | [d] => { results := [.lit (.bool true)], args := [d] }
  | _ => none }
def predParsesRow : OpenClaim := { program := "ytgmhpemjlbgfcaagreatdoor", sum := "75be882a3da4c4188d8e40479eb04c16556b4b7092771fd08fca37cb05089bfb", func := "placket/placketlaw17.PredParses", spec := "predParses", inPlace := ["internal/reflectlite.ValueOf", "(internal/reflectlite.Value).Type", "(internal/reflectlite.Value).IsNil", "internal/reflectlite.TypeOf", "(internal/reflectlite.Value).Elem", "(internal/reflectlite.Value).Set", "slices.overlaps[placket/hamt.pair[placket/value.Value]]"], unfollowed := true, recurses := true, named := ["placket/lex.signs", "placket/pred.signs", "errors.errorType", "math/bits.deBruijn32tab", "placket/pred.names"], apart := false, laid := [("math/bits.deBruijn32tab", laid_math_bits_deBruijn32tab), ("errors.errorType", laid_errors_errorType), ("placket/lex.signs", laid_placket_lex_signs), ("placket/pred.signs", laid_placket_pred_signs), ("placket/pred.names", laid_placket_pred_names)] }
def PredParsesSaid : Prop := predParsesRow.holds Tryz.pinned (OpenSpec.ofChange predParsesSpec)

/-- ITS FALSE NEIGHBOUR: 'it returns false'. Refute it at one input. -/
def predParsesWrong : ChangeSpec := { name := "predParses", fn := fun _ => fun
  | [d] => { results := [.lit (.bool false)], args := [d] }
  | _ => none }
def PredParsesWrongFalsely : Prop := predParsesRow.holds Tryz.pinned (OpenSpec.ofChange predParsesWrong)

/-- 'placketlaw17.PredHolds': WHATEVER THE INPUT: true; the input reads as it did. -/
def predHoldsSpec : ChangeSpec := { name := "predHolds", fn := fun _ => fun
  | [d1, d2, d3] => { results := [.lit (.bool true)], args := [d1, d2, d3] }
  | _ => none }
def predHoldsRow : OpenClaim := { program := "ytgmhpemjlbgfcaagreatdoor", sum := "75be882a3da4c4188d8e40479eb04c16556b4b7092771fd08fca37cb05089bfb", func := "placket/placketlaw17.PredHolds", spec := "predHolds", inPlace := ["internal/reflectlite.ValueOf", "(internal/reflectlite.Value).Type", "(internal/reflectlite.Value).IsNil", "internal/reflectlite.TypeOf", "(internal/reflectlite.Value).Elem", "(internal/reflectlite.Value).Set", "slices.overlaps[placket/hamt.pair[placket/value.Value]]"], unfollowed := true, recurses := true, named := ["placket/lex.signs", "placket/pred.signs", "errors.errorType", "math/bits.deBruijn32tab", "placket/pred.names"], loops := true, apart := false, laid := [("math/bits.deBruijn32tab", laid_math_bits_deBruijn32tab), ("errors.errorType", laid_errors_errorType), ("placket/lex.signs", laid_placket_lex_signs), ("placket/pred.signs", laid_placket_pred_signs), ("placket/pred.names", laid_placket_pred_names)] }
def PredHoldsSaid : Prop := predHoldsRow.holds Tryz.pinned (OpenSpec.ofChange predHoldsSpec)

/-- ITS FALSE NEIGHBOUR: 'it returns false'. Refute it at one input. -/
def predHoldsWrong : ChangeSpec := { name := "predHolds", fn := fun _ => fun
  | [d1, d2, d3] => { results := [.lit (.bool false)], args := [d1, d2, d3] }
  | _ => none }
def PredHoldsWrongFalsely : Prop := predHoldsRow.holds Tryz.pinned (OpenSpec.ofChange predHoldsWrong)

/-- 'placketlaw17.PredAgain': WHATEVER THE INPUT: true; the input reads as it did. -/
def predAgainSpec : ChangeSpec := { name := "predAgain", fn := fun _ => fun
  | [d] => { results := [.lit (.bool true)], args := [d] }
  | _ => none }
def predAgainRow : OpenClaim := { program := "ytgmhpemjlbgfcaagreatdoor", sum := "75be882a3da4c4188d8e40479eb04c16556b4b7092771fd08fca37cb05089bfb", func := "placket/placketlaw17.PredAgain", spec := "predAgain", inPlace := ["internal/reflectlite.ValueOf", "(internal/reflectlite.Value).Type", "(internal/reflectlite.Value).IsNil", "internal/reflectlite.TypeOf", "(internal/reflectlite.Value).Elem", "(internal/reflectlite.Value).Set", "slices.overlaps[placket/hamt.pair[placket/value.Value]]"], unfollowed := true, recurses := true, named := ["placket/lex.signs", "placket/pred.signs", "errors.errorType", "math/bits.deBruijn32tab", "placket/pred.names"], apart := false, laid := [("math/bits.deBruijn32tab", laid_math_bits_deBruijn32tab), ("errors.errorType", laid_errors_errorType), ("placket/lex.signs", laid_placket_lex_signs), ("placket/pred.signs", laid_placket_pred_signs), ("placket/pred.names", laid_placket_pred_names)] }
def PredAgainSaid : Prop := predAgainRow.holds Tryz.pinned (OpenSpec.ofChange predAgainSpec)

/-- ITS FALSE NEIGHBOUR: 'it returns false'. Refute it at one input. -/
def predAgainWrong : ChangeSpec := { name := "predAgain", fn := fun _ => fun
  | [d] => { results := [.lit (.bool false)], args := [d] }
  | _ => none }
def PredAgainWrongFalsely : Prop := predAgainRow.holds Tryz.pinned (OpenSpec.ofChange predAgainWrong)

/- THE SECOND FORM. 'bulk': how many values and letters a reading holds, each counted each time it is reached (what is shared counts as often as it is met; a slice's spare places count too). A statement '..UptoSaid' is the law's where the arguments, and the package variables that the reading takes, are together of bulk at most 1048576: NARROWER than '..Said'. Prove '..Said' where nothing that the law and all that it calls make is longer than what came in: it says more and counts as full. Else prove '..UptoSaid'. A law counts once. -/
mutual
def uptoBulk {H : Type} : DataW H → Nat
  | .lit (.string bytes) => bytes.length + 1
  | .lit _ => 1
  | .nil => 1
  | .ptr d => uptoBulk d + 1
  | .slice elems spare => uptoBulkAll elems + uptoBulkAll spare + 1
  | .agg parts => uptoBulkAll parts + 1
  | .iface _ d => uptoBulk d + 1
  | .map entries => uptoBulkEntries entries + 1
  | .held _ => 1
def uptoBulkAll {H : Type} : List (DataW H) → Nat
  | [] => 0
  | d :: r => uptoBulk d + uptoBulkAll r
def uptoBulkEntries {H : Type} : List (Lit × DataW H) → Nat
  | [] => 0
  | x :: r => uptoBulkEntry x + uptoBulkEntries r
def uptoBulkEntry {H : Type} : Lit × DataW H → Nat
  | (.string bytes, d) => bytes.length + uptoBulk d + 1
  | (_, d) => uptoBulk d + 1
 end
def uptoSmall : (H : Type) → List (DataW H) → Bool := fun _ ds => decide (uptoBulkAll ds ≤ 1048576)
def OpenSpec.upto (s : _root_.Go.ChangeSpec) : _root_.Go.OpenSpec := { _root_.Go.OpenSpec.ofChange s with cond := some uptoSmall }

/-- 'placketlaw17.PredTruths', WHERE WHAT IT READS IS OF BULK AT MOST 1048576: true; the input reads as it did. -/
def predTruthsUptoRow : OpenClaim := { program := "ytgmhpemjlbgfcaagreatdoor", sum := "75be882a3da4c4188d8e40479eb04c16556b4b7092771fd08fca37cb05089bfb", func := "placket/placketlaw17.PredTruths", spec := "predTruths", inPlace := ["internal/reflectlite.ValueOf", "(internal/reflectlite.Value).Type", "(internal/reflectlite.Value).IsNil", "internal/reflectlite.TypeOf", "(internal/reflectlite.Value).Elem", "(internal/reflectlite.Value).Set", "slices.overlaps[placket/hamt.pair[placket/value.Value]]"], unfollowed := true, recurses := true, named := ["placket/lex.signs", "placket/pred.signs", "errors.errorType", "math/bits.deBruijn32tab", "placket/pred.names"], loops := true, apart := false, laid := [("math/bits.deBruijn32tab", laid_math_bits_deBruijn32tab), ("errors.errorType", laid_errors_errorType), ("placket/lex.signs", laid_placket_lex_signs), ("placket/pred.signs", laid_placket_pred_signs), ("placket/pred.names", laid_placket_pred_names)], narrowed := true }
def PredTruthsUptoSaid : Prop := predTruthsUptoRow.holds Tryz.pinned (OpenSpec.upto predTruthsSpec)

/-- 'placketlaw17.PredTurned', WHERE WHAT IT READS IS OF BULK AT MOST 1048576: true; the input reads as it did. -/
def predTurnedUptoRow : OpenClaim := { program := "ytgmhpemjlbgfcaagreatdoor", sum := "75be882a3da4c4188d8e40479eb04c16556b4b7092771fd08fca37cb05089bfb", func := "placket/placketlaw17.PredTurned", spec := "predTurned", inPlace := ["internal/reflectlite.ValueOf", "(internal/reflectlite.Value).Type", "(internal/reflectlite.Value).IsNil", "internal/reflectlite.TypeOf", "(internal/reflectlite.Value).Elem", "(internal/reflectlite.Value).Set", "slices.overlaps[placket/hamt.pair[placket/value.Value]]"], unfollowed := true, recurses := true, named := ["placket/lex.signs", "placket/pred.signs", "errors.errorType", "math/bits.deBruijn32tab", "placket/pred.names"], loops := true, apart := false, laid := [("math/bits.deBruijn32tab", laid_math_bits_deBruijn32tab), ("errors.errorType", laid_errors_errorType), ("placket/lex.signs", laid_placket_lex_signs), ("placket/pred.signs", laid_placket_pred_signs), ("placket/pred.names", laid_placket_pred_names)], narrowed := true }
def PredTurnedUptoSaid : Prop := predTurnedUptoRow.holds Tryz.pinned (OpenSpec.upto predTurnedSpec)

/-- 'placketlaw17.PredPaths', WHERE WHAT IT READS IS OF BULK AT MOST 1048576: true; the input reads as it did. -/
def predPathsUptoRow : OpenClaim := { program := "ytgmhpemjlbgfcaagreatdoor", sum := "75be882a3da4c4188d8e40479eb04c16556b4b7092771fd08fca37cb05089bfb", func := "placket/placketlaw17.PredPaths", spec := "predPaths", inPlace := ["internal/reflectlite.ValueOf", "(internal/reflectlite.Value).Type", "(internal/reflectlite.Value).IsNil", "internal/reflectlite.TypeOf", "(internal/reflectlite.Value).Elem", "(internal/reflectlite.Value).Set", "slices.overlaps[placket/hamt.pair[placket/value.Value]]"], unfollowed := true, recurses := true, named := ["placket/lex.signs", "placket/pred.signs", "errors.errorType", "math/bits.deBruijn32tab", "placket/pred.names"], loops := true, apart := false, laid := [("math/bits.deBruijn32tab", laid_math_bits_deBruijn32tab), ("errors.errorType", laid_errors_errorType), ("placket/lex.signs", laid_placket_lex_signs), ("placket/pred.signs", laid_placket_pred_signs), ("placket/pred.names", laid_placket_pred_names)], narrowed := true }
def PredPathsUptoSaid : Prop := predPathsUptoRow.holds Tryz.pinned (OpenSpec.upto predPathsSpec)

/-- 'placketlaw17.PredChecks', WHERE WHAT IT READS IS OF BULK AT MOST 1048576: true; the input reads as it did. -/
def predChecksUptoRow : OpenClaim := { program := "ytgmhpemjlbgfcaagreatdoor", sum := "75be882a3da4c4188d8e40479eb04c16556b4b7092771fd08fca37cb05089bfb", func := "placket/placketlaw17.PredChecks", spec := "predChecks", inPlace := ["internal/reflectlite.ValueOf", "(internal/reflectlite.Value).Type", "(internal/reflectlite.Value).IsNil", "internal/reflectlite.TypeOf", "(internal/reflectlite.Value).Elem", "(internal/reflectlite.Value).Set", "slices.overlaps[placket/hamt.pair[placket/value.Value]]"], unfollowed := true, recurses := true, named := ["placket/lex.signs", "placket/pred.signs", "errors.errorType", "math/bits.deBruijn32tab", "placket/pred.names"], apart := false, laid := [("math/bits.deBruijn32tab", laid_math_bits_deBruijn32tab), ("errors.errorType", laid_errors_errorType), ("placket/lex.signs", laid_placket_lex_signs), ("placket/pred.signs", laid_placket_pred_signs), ("placket/pred.names", laid_placket_pred_names)], narrowed := true }
def PredChecksUptoSaid : Prop := predChecksUptoRow.holds Tryz.pinned (OpenSpec.upto predChecksSpec)

/-- 'placketlaw17.PredParses', WHERE WHAT IT READS IS OF BULK AT MOST 1048576: true; the input reads as it did. -/
def predParsesUptoRow : OpenClaim := { program := "ytgmhpemjlbgfcaagreatdoor", sum := "75be882a3da4c4188d8e40479eb04c16556b4b7092771fd08fca37cb05089bfb", func := "placket/placketlaw17.PredParses", spec := "predParses", inPlace := ["internal/reflectlite.ValueOf", "(internal/reflectlite.Value).Type", "(internal/reflectlite.Value).IsNil", "internal/reflectlite.TypeOf", "(internal/reflectlite.Value).Elem", "(internal/reflectlite.Value).Set", "slices.overlaps[placket/hamt.pair[placket/value.Value]]"], unfollowed := true, recurses := true, named := ["placket/lex.signs", "placket/pred.signs", "errors.errorType", "math/bits.deBruijn32tab", "placket/pred.names"], apart := false, laid := [("math/bits.deBruijn32tab", laid_math_bits_deBruijn32tab), ("errors.errorType", laid_errors_errorType), ("placket/lex.signs", laid_placket_lex_signs), ("placket/pred.signs", laid_placket_pred_signs), ("placket/pred.names", laid_placket_pred_names)], narrowed := true }
def PredParsesUptoSaid : Prop := predParsesUptoRow.holds Tryz.pinned (OpenSpec.upto predParsesSpec)

/-- 'placketlaw17.PredHolds', WHERE WHAT IT READS IS OF BULK AT MOST 1048576: true; the input reads as it did. -/
def predHoldsUptoRow : OpenClaim := { program := "ytgmhpemjlbgfcaagreatdoor", sum := "75be882a3da4c4188d8e40479eb04c16556b4b7092771fd08fca37cb05089bfb", func := "placket/placketlaw17.PredHolds", spec := "predHolds", inPlace := ["internal/reflectlite.ValueOf", "(internal/reflectlite.Value).Type", "(internal/reflectlite.Value).IsNil", "internal/reflectlite.TypeOf", "(internal/reflectlite.Value).Elem", "(internal/reflectlite.Value).Set", "slices.overlaps[placket/hamt.pair[placket/value.Value]]"], unfollowed := true, recurses := true, named := ["placket/lex.signs", "placket/pred.signs", "errors.errorType", "math/bits.deBruijn32tab", "placket/pred.names"], loops := true, apart := false, laid := [("math/bits.deBruijn32tab", laid_math_bits_deBruijn32tab), ("errors.errorType", laid_errors_errorType), ("placket/lex.signs", laid_placket_lex_signs), ("placket/pred.signs", laid_placket_pred_signs), ("placket/pred.names", laid_placket_pred_names)], narrowed := true }
def PredHoldsUptoSaid : Prop := predHoldsUptoRow.holds Tryz.pinned (OpenSpec.upto predHoldsSpec)

/-- 'placketlaw17.PredAgain', WHERE WHAT IT READS IS OF BULK AT MOST 1048576: true; the input reads as it did. -/
def predAgainUptoRow : OpenClaim := { program := "ytgmhpemjlbgfcaagreatdoor", sum := "75be882a3da4c4188d8e40479eb04c16556b4b7092771fd08fca37cb05089bfb", func := "placket/placketlaw17.PredAgain", spec := "predAgain", inPlace := ["internal/reflectlite.ValueOf", "(internal/reflectlite.Value).Type", "(internal/reflectlite.Value).IsNil", "internal/reflectlite.TypeOf", "(internal/reflectlite.Value).Elem", "(internal/reflectlite.Value).Set", "slices.overlaps[placket/hamt.pair[placket/value.Value]]"], unfollowed := true, recurses := true, named := ["placket/lex.signs", "placket/pred.signs", "errors.errorType", "math/bits.deBruijn32tab", "placket/pred.names"], apart := false, laid := [("math/bits.deBruijn32tab", laid_math_bits_deBruijn32tab), ("errors.errorType", laid_errors_errorType), ("placket/lex.signs", laid_placket_lex_signs), ("placket/pred.signs", laid_placket_pred_signs), ("placket/pred.names", laid_placket_pred_names)], narrowed := true }
def PredAgainUptoSaid : Prop := predAgainUptoRow.holds Tryz.pinned (OpenSpec.upto predAgainSpec)

end Rows
end Go.Proofs.YtgmhpemjlbgfcaaGreatDoor
