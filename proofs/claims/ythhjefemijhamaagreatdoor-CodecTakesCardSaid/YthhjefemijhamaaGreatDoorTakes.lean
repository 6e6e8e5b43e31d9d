/- Proved here: the statement CodecTakes (its card): for every input the law answers true and its arguments read as before. Conditions: those of the row's cells (the package variables lex.signs, deBruijn32tab and errors.errorType are laid as the program's text lays them). Axioms: propext, Classical.choice, Quot.sound. -/
import Derived.Test.YthhjefemijhamaaGreatDoorG53
namespace Go.Proofs.YthhjefemijhamaaGreatDoor
theorem codecTakes_holds : Rows.CodecTakesCardSaid := Go.V.takes_card
end Go.Proofs.YthhjefemijhamaaGreatDoor
#print axioms Go.Proofs.YthhjefemijhamaaGreatDoor.codecTakes_holds
