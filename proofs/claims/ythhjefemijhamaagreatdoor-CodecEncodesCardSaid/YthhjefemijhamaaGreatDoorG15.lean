/- Texts C4. -/
import Derived.Test.YthhjefemijhamaaGreatDoorG13
set_option linter.unusedVariables false
set_option linter.unusedSimpArgs false
namespace Go.V
open Go.Proofs Go.Proofs.Tryz
set_option maxRecDepth 100000
def c206 : VCode:=(show {c // CH f206 [[⟨0,false,[],false⟩,⟨1,false,[],false⟩,⟨2,false,[],false⟩,⟨3,false,[],false⟩,⟨4,false,[],false⟩,⟨5,false,[],false⟩,⟨6,false,[],false⟩,⟨7,false,[],false⟩,⟨8,false,[],false⟩,⟨9,false,[],false⟩,⟨10,false,[],false⟩,⟨11,false,[],false⟩,⟨12,false,[],false⟩,⟨13,false,[],false⟩,⟨14,true,[],false⟩,⟨15,false,[],false⟩,⟨16,false,[],false⟩],[⟨0,false,[],false⟩,⟨1,false,[],false⟩,⟨2,false,[],false⟩,⟨3,false,[],false⟩,⟨4,false,[],false⟩,⟨5,false,[],false⟩,⟨6,false,[],false⟩,⟨7,false,[],false⟩,⟨8,false,[],false⟩,⟨9,false,[],false⟩,⟨10,false,[],false⟩,⟨11,false,[],false⟩,⟨12,false,[],false⟩,⟨13,false,[],false⟩,⟨14,false,[],false⟩,⟨15,true,[],false⟩,⟨16,false,[],false⟩,⟨17,true,[],false⟩]]=c} by apply Subtype.mk;simp only [go_sem,seval,f206];rfl).1
theorem e206 : fnV Tryz.prog lab 206=some ⟨c206,[],53⟩:=by kernel_rfl
def c215 : VCode:=(show {c // CH f215 []=c} by apply Subtype.mk;simp only [go_sem,seval,f215];rfl).1
theorem e215 : fnV Tryz.prog lab 215=some ⟨c215,[.tmp 2],25⟩:=by kernel_rfl
def c217 : VCode:=(show {c // CH f217 []=c} by apply Subtype.mk;simp only [go_sem,seval,f217];rfl).1
theorem e217 : fnV Tryz.prog lab 217=some ⟨c217,[.tmp 4],17⟩:=by kernel_rfl
end Go.V
