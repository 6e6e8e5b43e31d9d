/- Texts C3. -/
import Derived.Test.YtgmhpemjlbgfcaaGreatDoorG15
set_option linter.unusedVariables false
set_option linter.unusedSimpArgs false
namespace Go.V
open Go.Proofs Go.Proofs.Tryz
set_option maxRecDepth 100000
def c208 : aA:=(show {c // CH f208 [[⟨0,false,[],false⟩,⟨1,false,[],true⟩,⟨2,false,[],false⟩,⟨3,true,[1],false⟩,⟨4,false,[],false⟩,⟨5,false,[],false⟩,⟨6,true,[],false⟩],[⟨0,false,[],false⟩,⟨1,false,[],true⟩,⟨2,false,[],false⟩,⟨3,true,[1],false⟩,⟨4,false,[],false⟩,⟨5,false,[],false⟩,⟨6,true,[],false⟩]]=c} by apply Subtype.mk;simp only [go_sem,seval,f208];rfl).1
theorem e208 : dU Tryz.prog lab 208=some ⟨c208,[],17⟩:=by kernel_rfl
def c209 : aA:=(show {c // CH f209 []=c} by apply Subtype.mk;simp only [go_sem,seval,f209];rfl).1
theorem e209 : dU Tryz.prog lab 209=some ⟨c209,[.tmp 2],6⟩:=by kernel_rfl
def c210 : aA:=(show {c // CH f210 []=c} by apply Subtype.mk;simp only [go_sem,seval,f210];rfl).1
theorem e210 : dU Tryz.prog lab 210=some ⟨c210,[.tmp 2],6⟩:=by kernel_rfl
def c211 : aA:=(show {c // CH f211 [[⟨0,false,[],false⟩,⟨1,false,[],false⟩,⟨2,false,[],false⟩,⟨3,false,[],false⟩,⟨4,false,[],false⟩,⟨5,false,[],false⟩,⟨6,false,[],false⟩,⟨7,false,[],false⟩,⟨8,false,[],false⟩,⟨9,false,[],false⟩,⟨10,false,[],false⟩,⟨11,true,[],false⟩]]=c} by apply Subtype.mk;simp only [go_sem,seval,f211];rfl).1
theorem e211 : dU Tryz.prog lab 211=some ⟨c211,[.tmp 2],44⟩:=by kernel_rfl
def c212 : aA:=(show {c // CH f212 [[⟨0,false,[],false⟩,⟨1,false,[],false⟩,⟨2,false,[],false⟩,⟨3,false,[],false⟩,⟨4,false,[],false⟩,⟨5,false,[],false⟩,⟨6,false,[],false⟩,⟨7,false,[],false⟩,⟨8,false,[],false⟩,⟨9,false,[],false⟩,⟨10,false,[],false⟩,⟨11,false,[],false⟩,⟨12,false,[],false⟩,⟨13,false,[],false⟩,⟨14,false,[],false⟩]]=c} by apply Subtype.mk;simp only [go_sem,seval,f212];rfl).1
theorem e212 : dU Tryz.prog lab 212=some ⟨c212,[.tmp 4],55⟩:=by kernel_rfl
def c213 : aA:=(show {c // CH f213 [[⟨0,false,[],false⟩,⟨1,false,[],false⟩,⟨2,false,[],false⟩,⟨3,false,[],false⟩,⟨4,false,[],false⟩,⟨5,false,[],false⟩,⟨6,false,[],false⟩,⟨7,false,[],false⟩,⟨8,false,[],false⟩,⟨9,false,[],false⟩,⟨10,false,[],false⟩,⟨11,false,[],false⟩,⟨12,false,[],false⟩,⟨13,false,[],false⟩]]=c} by apply Subtype.mk;simp only [go_sem,seval,f213];rfl).1
theorem e213 : dU Tryz.prog lab 213=some ⟨c213,[.tmp 4],44⟩:=by kernel_rfl
def c214 : aA:=(show {c // CH f214 [[⟨0,false,[],false⟩,⟨1,false,[],false⟩,⟨2,false,[],false⟩,⟨3,false,[],false⟩,⟨4,false,[],false⟩,⟨5,false,[],false⟩,⟨6,false,[],false⟩,⟨7,false,[],false⟩,⟨8,true,[],false⟩,⟨9,true,[],false⟩,⟨10,false,[],false⟩],[⟨0,false,[],false⟩,⟨1,false,[],false⟩,⟨2,false,[],false⟩,⟨3,false,[],false⟩,⟨4,false,[],false⟩,⟨5,false,[],false⟩,⟨6,false,[],false⟩,⟨7,false,[],false⟩,⟨8,true,[],false⟩,⟨9,true,[],false⟩,⟨10,false,[],false⟩]]=c} by apply Subtype.mk;simp only [go_sem,seval,f214];rfl).1
theorem e214 : dU Tryz.prog lab 214=some ⟨c214,[.tmp 4],64⟩:=by kernel_rfl
def c215 : aA:=(show {c // CH f215 []=c} by apply Subtype.mk;simp only [go_sem,seval,f215];rfl).1
theorem e215 : dU Tryz.prog lab 215=some ⟨c215,[.tmp 2],8⟩:=by kernel_rfl
def c216 : aA:=(show {c // CH f216 [[⟨0,false,[],false⟩,⟨1,false,[],false⟩,⟨2,false,[],false⟩,⟨3,false,[],false⟩,⟨4,false,[],false⟩,⟨5,false,[],false⟩,⟨6,false,[],false⟩,⟨7,false,[],false⟩,⟨8,true,[],false⟩],[⟨0,false,[],false⟩,⟨1,false,[],false⟩,⟨2,false,[],false⟩,⟨3,false,[],false⟩,⟨4,false,[],false⟩,⟨5,false,[],false⟩,⟨6,false,[],false⟩,⟨7,false,[],false⟩,⟨8,true,[],false⟩]]=c} by apply Subtype.mk;simp only [go_sem,seval,f216];rfl).1
theorem e216 : dU Tryz.prog lab 216=some ⟨c216,[.tmp 6],95⟩:=by kernel_rfl
def c217 : aA:=(show {c // CH f217 [[⟨0,false,[],false⟩,⟨1,false,[],false⟩,⟨2,false,[],false⟩,⟨4,false,[],false⟩,⟨6,false,[],true⟩,⟨7,false,[],false⟩,⟨8,false,[],true⟩,⟨10,false,[],false⟩,⟨3,true,[6,8],false⟩,⟨5,false,[],false⟩,⟨9,true,[],false⟩,⟨11,false,[],false⟩,⟨12,false,[],false⟩,⟨13,false,[],false⟩],[⟨0,false,[],true⟩,⟨1,false,[],false⟩,⟨2,false,[],false⟩,⟨3,false,[],false⟩,⟨4,false,[],false⟩,⟨5,false,[],false⟩,⟨6,false,[],false⟩,⟨7,true,[0],false⟩,⟨8,false,[],false⟩,⟨9,true,[],false⟩,⟨10,false,[],false⟩,⟨11,true,[],false⟩,⟨12,false,[],false⟩],[⟨0,false,[],false⟩,⟨1,false,[],false⟩,⟨2,false,[],false⟩,⟨3,false,[],false⟩,⟨5,false,[],false⟩,⟨6,false,[],true⟩,⟨7,false,[],false⟩,⟨4,true,[6],false⟩,⟨8,true,[],false⟩,⟨9,false,[],false⟩,⟨10,true,[],false⟩,⟨11,false,[],false⟩]]=c} by apply Subtype.mk;simp only [go_sem,seval,f217];rfl).1
theorem e217 : dU Tryz.prog lab 217=some ⟨c217,[.tmp 8],65⟩:=by kernel_rfl
def c218 : aA:=(show {c // CH f218 [[⟨0,false,[],false⟩,⟨1,false,[],false⟩,⟨3,false,[],false⟩,⟨4,false,[],true⟩,⟨5,false,[],true⟩,⟨2,true,[4,5],false⟩,⟨6,false,[],false⟩,⟨7,false,[],false⟩],[⟨0,false,[],false⟩,⟨1,false,[],false⟩,⟨2,false,[],false⟩,⟨3,false,[],false⟩,⟨4,false,[],false⟩,⟨5,false,[],false⟩,⟨6,false,[],false⟩,⟨7,false,[],false⟩,⟨8,true,[],false⟩]]=c} by apply Subtype.mk;simp only [go_sem,seval,f218];rfl).1
theorem e218 : dU Tryz.prog lab 218=some ⟨c218,[.cell 6 224],61⟩:=by kernel_rfl
def c219 : aA:=(show {c // CH f219 []=c} by apply Subtype.mk;simp only [go_sem,seval,f219];rfl).1
theorem e219 : dU Tryz.prog lab 219=some ⟨c219,[.tmp 2],59⟩:=by kernel_rfl
def c220 : aA:=(show {c // CH f220 [[⟨0,false,[],true⟩,⟨1,false,[],false⟩,⟨2,false,[],false⟩,⟨3,false,[],false⟩,⟨4,true,[0],false⟩,⟨5,true,[],false⟩,⟨6,true,[],false⟩]]=c} by apply Subtype.mk;simp only [go_sem,seval,f220];rfl).1
theorem e220 : dU Tryz.prog lab 220=some ⟨c220,[],18⟩:=by kernel_rfl
def c221 : aA:=(show {c // CH f221 []=c} by apply Subtype.mk;simp only [go_sem,seval,f221];rfl).1
theorem e221 : dU Tryz.prog lab 221=some ⟨c221,[.tmp 4],11⟩:=by kernel_rfl
def c222 : aA:=(show {c // CH f222 []=c} by apply Subtype.mk;simp only [go_sem,seval,f222];rfl).1
theorem e222 : dU Tryz.prog lab 222=some ⟨c222,[.tmp 4],28⟩:=by kernel_rfl
def c223 : aA:=(show {c // CH f223 []=c} by apply Subtype.mk;simp only [go_sem,seval,f223];rfl).1
theorem e223 : dU Tryz.prog lab 223=some ⟨c223,[.tmp 2],13⟩:=by kernel_rfl
def c224 : aA:=(show {c // CH f224 [[⟨0,false,[],false⟩,⟨1,false,[],false⟩,⟨2,false,[],false⟩,⟨3,false,[],false⟩,⟨4,false,[],false⟩,⟨5,false,[],false⟩,⟨6,false,[],false⟩,⟨7,false,[],false⟩,⟨8,false,[],false⟩,⟨9,false,[],false⟩,⟨10,false,[],false⟩,⟨11,false,[],false⟩,⟨12,false,[],false⟩,⟨13,false,[],false⟩,⟨14,false,[],false⟩,⟨15,false,[],false⟩,⟨16,false,[],false⟩,⟨17,false,[],false⟩,⟨18,false,[],false⟩]]=c} by apply Subtype.mk;simp only [go_sem,seval,f224];rfl).1
theorem e224 : dU Tryz.prog lab 224=some ⟨c224,[.tmp 2],21⟩:=by kernel_rfl
def c225 : aA:=(show {c // CH f225 []=c} by apply Subtype.mk;simp only [go_sem,seval,f225];rfl).1
theorem e225 : dU Tryz.prog lab 225=some ⟨c225,[.tmp 2],4⟩:=by kernel_rfl
def c226 : aA:=(show {c // CH f226 [[⟨0,false,[],false⟩,⟨1,false,[],false⟩,⟨2,false,[],false⟩,⟨3,false,[],false⟩,⟨4,false,[],false⟩,⟨5,false,[],false⟩,⟨6,false,[],false⟩,⟨7,false,[],false⟩,⟨8,false,[],false⟩,⟨9,false,[],false⟩,⟨10,false,[],false⟩,⟨11,false,[],false⟩,⟨12,false,[],false⟩,⟨13,true,[],false⟩,⟨14,false,[],false⟩,⟨15,false,[],false⟩,⟨16,false,[],false⟩]]=c} by apply Subtype.mk;simp only [go_sem,seval,f226];rfl).1
theorem e226 : dU Tryz.prog lab 226=some ⟨c226,[],148⟩:=by kernel_rfl
def c227 : aA:=(show {c // CH f227 []=c} by apply Subtype.mk;simp only [go_sem,seval,f227];rfl).1
theorem e227 : dU Tryz.prog lab 227=some ⟨c227,[.tmp 2],8⟩:=by kernel_rfl
def c235 : aA:=(show {c // CH f235 [[⟨0,false,[],false⟩,⟨1,false,[],false⟩,⟨2,false,[],false⟩,⟨5,false,[],false⟩,⟨6,false,[],false⟩,⟨7,false,[],true⟩,⟨3,true,[7],false⟩,⟨4,true,[7],false⟩,⟨8,true,[],false⟩,⟨9,true,[],false⟩,⟨10,false,[],false⟩,⟨11,false,[],false⟩]]=c} by apply Subtype.mk;simp only [go_sem,seval,f235];rfl).1
theorem e235 : dU Tryz.prog lab 235=some ⟨c235,[.tmp 2],24⟩:=by kernel_rfl
def c236 : aA:=(show {c // CH f236 []=c} by apply Subtype.mk;simp only [go_sem,seval,f236];rfl).1
theorem e236 : dU Tryz.prog lab 236=some ⟨c236,[.tmp 4],17⟩:=by kernel_rfl
def c237 : aA:=(show {c // CH f237 [[⟨0,false,[],false⟩,⟨1,false,[],false⟩,⟨2,false,[],false⟩,⟨5,false,[],false⟩,⟨6,false,[],false⟩,⟨7,false,[],true⟩,⟨3,true,[7],false⟩,⟨4,true,[7],false⟩,⟨8,true,[],false⟩,⟨9,true,[],false⟩,⟨10,false,[],false⟩,⟨11,false,[],false⟩]]=c} by apply Subtype.mk;simp only [go_sem,seval,f237];rfl).1
theorem e237 : dU Tryz.prog lab 237=some ⟨c237,[.tmp 2],24⟩:=by kernel_rfl
def c240 : aA:=(show {c // CH f240 []=c} by apply Subtype.mk;simp only [go_sem,seval,f240];rfl).1
theorem e240 : dU Tryz.prog lab 240=some ⟨c240,[.tmp 2],21⟩:=by kernel_rfl
def c241 : aA:=(show {c // CH f241 []=c} by apply Subtype.mk;simp only [go_sem,seval,f241];rfl).1
theorem e241 : dU Tryz.prog lab 241=some ⟨c241,[.tmp 4],17⟩:=by kernel_rfl
def c242 : aA:=(show {c // CH f242 []=c} by apply Subtype.mk;simp only [go_sem,seval,f242];rfl).1
theorem e242 : dU Tryz.prog lab 242=some ⟨c242,[],29⟩:=by kernel_rfl
def c243 : aA:=(show {c // CH f243 []=c} by apply Subtype.mk;simp only [go_sem,seval,f243];rfl).1
theorem e243 : dU Tryz.prog lab 243=some ⟨c243,[.tmp 2],14⟩:=by kernel_rfl
def c244 : aA:=(show {c // CH f244 [[⟨0,false,[],false⟩,⟨1,false,[],false⟩,⟨2,false,[],false⟩,⟨3,false,[],false⟩,⟨4,false,[],false⟩,⟨5,false,[],false⟩,⟨6,false,[],false⟩,⟨7,false,[],false⟩,⟨8,false,[],false⟩,⟨9,false,[],false⟩,⟨10,false,[],false⟩,⟨11,false,[],false⟩,⟨12,false,[],false⟩,⟨13,false,[],false⟩,⟨14,true,[],false⟩,⟨15,false,[],false⟩,⟨16,false,[],false⟩],[⟨0,false,[],false⟩,⟨1,false,[],false⟩,⟨2,false,[],false⟩,⟨3,false,[],false⟩,⟨4,false,[],false⟩,⟨5,false,[],false⟩,⟨6,false,[],false⟩,⟨7,false,[],false⟩,⟨8,false,[],false⟩,⟨9,false,[],false⟩,⟨10,false,[],false⟩,⟨11,false,[],false⟩,⟨12,false,[],false⟩,⟨13,false,[],false⟩,⟨14,false,[],false⟩,⟨15,true,[],false⟩,⟨16,false,[],false⟩,⟨17,true,[],false⟩]]=c} by apply Subtype.mk;simp only [go_sem,seval,f244];rfl).1
theorem e244 : dU Tryz.prog lab 244=some ⟨c244,[],53⟩:=by kernel_rfl
def c253 : aA:=(show {c // CH f253 []=c} by apply Subtype.mk;simp only [go_sem,seval,f253];rfl).1
theorem e253 : dU Tryz.prog lab 253=some ⟨c253,[.tmp 2],25⟩:=by kernel_rfl
end Go.V
