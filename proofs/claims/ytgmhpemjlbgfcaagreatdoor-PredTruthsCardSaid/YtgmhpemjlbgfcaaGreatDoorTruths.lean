/- Proved here: the statement PredTruths (its card): for every input the law answers true and its arguments read as before. Conditions: those of the row's cells (the package variables lex.signs, pred.signs, pred.names, deBruijn32tab and errors.errorType are laid as the program's text lays them). Axioms: propext, Classical.choice, Quot.sound. -/
import Derived.Test.YtgmhpemjlbgfcaaGreatDoorG50
namespace Go.Proofs.YtgmhpemjlbgfcaaGreatDoor
theorem predTruths_holds : Rows.PredTruthsCardSaid := Go.V.truths_card
end Go.Proofs.YtgmhpemjlbgfcaaGreatDoor
#print axioms Go.Proofs.YtgmhpemjlbgfcaaGreatDoor.predTruths_holds
