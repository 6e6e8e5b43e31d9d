/- Texts J9. -/
import Derived.ChangeMaps5
import Derived.Test.YthhjefemijhamaaGreatDoorCards
import Derived.Test.YthhjefemijhamaaGreatDoorG45
import Derived.Test.YthhjefemijhamaaGreatDoorG46
set_option linter.unusedVariables false
set_option linter.unusedSimpArgs false
namespace Go.V
open Go.Proofs Go.Proofs.YthhjefemijhamaaGreatDoor
open Go.ChangeShapes Go.WideShapes Go.ChangeAt Go.RowKit
set_option maxRecDepth 100000
theorem open_treeV {H : Type} {enc : TypeId × Value→H} {W : World} {base : Nat} {held : Bool} {r : Reach} {b0 : Nat} {v : Value} {d : DataW H} {ps : List MemPlace} (hval : Value.okWide Tryz.prog W r b0 28 v) (hd : DataW.Trod enc Tryz.prog W base (fun _=>true) held 28 v d ps) :
  ∃ (t : Tr) (c : List VV),TrV t c∧TrOK t∧VR W (OO (fun _=>False) [] []) [] (.agg c) v:=by
 obtain ⟨cs,rfl,hsz⟩:=okWide_struct j_u28 hval
 obtain ⟨fuel,hf⟩:=hd
 obtain ⟨t,c,h1,h2,h3⟩:=open_tree (O:=OO (fun _=>False) [] []) (by rintro b (h | ⟨id,L,o,h,_⟩);exact h;simp at h) (fun _=>rfl) fuel _ _ hf
 exact ⟨t,c,h1,h2,by simp only [VR];exact ⟨cs,rfl,h3⟩⟩
theorem laid_out : laidOutB Tryz.prog=true:=by kernel_rfl
end Go.V
