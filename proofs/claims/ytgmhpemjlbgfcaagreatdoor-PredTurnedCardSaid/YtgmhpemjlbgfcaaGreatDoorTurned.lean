/- Proved here: the statement PredTurned (its card): for every input the law answers true and its arguments read as before. Conditions: those of the row's cells (the package variables lex.signs, pred.signs, pred.names, deBruijn32tab and errors.errorType are laid as the program's text lays them). Axioms: propext, Classical.choice, Quot.sound. -/
import Derived.Test.YtgmhpemjlbgfcaaGreatDoorG52
namespace Go.Proofs.YtgmhpemjlbgfcaaGreatDoor
theorem predTurned_holds : Rows.PredTurnedCardSaid := Go.V.turned_card
end Go.Proofs.YtgmhpemjlbgfcaaGreatDoor
#print axioms Go.Proofs.YtgmhpemjlbgfcaaGreatDoor.predTurned_holds
