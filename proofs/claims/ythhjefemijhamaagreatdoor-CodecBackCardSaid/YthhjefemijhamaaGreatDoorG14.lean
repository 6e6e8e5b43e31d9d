/- Texts C1 C2 C3 C4. -/
import Derived.Test.YthhjefemijhamaaGreatDoorG13
set_option linter.unusedVariables false
set_option linter.unusedSimpArgs false
namespace Go.V
open Go.Proofs Go.Proofs.Tryz
set_option maxRecDepth 100000
def c2 : VCode:=(show {c // CH f2 []=c} by apply Subtype.mk;simp only [go_sem,seval,f2];rfl).1
theorem e2 : fnV Tryz.prog lab 2=some ⟨c2,[],1⟩:=by kernel_rfl
def c3 : VCode:=(show {c // CH f3 [[⟨0,false,[],false⟩,⟨1,false,[],false⟩,⟨2,false,[],false⟩,⟨3,false,[],false⟩,⟨4,false,[],false⟩,⟨5,false,[],false⟩,⟨6,true,[],false⟩,⟨7,true,[],false⟩,⟨8,false,[],false⟩,⟨9,false,[],false⟩,⟨10,false,[],false⟩]]=c} by apply Subtype.mk;simp only [go_sem,seval,f3];rfl).1
theorem e3 : fnV Tryz.prog lab 3=some ⟨c3,[.tmp 4],36⟩:=by kernel_rfl
def c4 : VCode:=(show {c // CH f4 [[⟨0,false,[],false⟩,⟨1,false,[],false⟩,⟨2,false,[],false⟩,⟨3,false,[],false⟩,⟨5,false,[],true⟩,⟨4,true,[5],false⟩,⟨6,true,[],false⟩,⟨7,false,[],false⟩,⟨8,false,[],false⟩,⟨9,false,[],false⟩,⟨10,false,[],false⟩,⟨11,true,[],false⟩,⟨12,false,[],false⟩,⟨13,false,[],false⟩,⟨14,false,[],false⟩,⟨16,false,[],false⟩,⟨17,false,[],false⟩,⟨18,false,[],false⟩,⟨15,true,[],false⟩,⟨19,false,[],false⟩,⟨20,false,[],false⟩,⟨21,false,[],false⟩]]=c} by apply Subtype.mk;simp only [go_sem,seval,f4];rfl).1
theorem e4 : fnV Tryz.prog lab 4=some ⟨c4,[.tmp 4],82⟩:=by kernel_rfl
def c5 : VCode:=(show {c // CH f5 [[⟨0,false,[],false⟩,⟨1,false,[],false⟩,⟨2,false,[],false⟩,⟨3,false,[],false⟩,⟨5,false,[],false⟩,⟨4,true,[],false⟩,⟨6,false,[],false⟩,⟨7,false,[],false⟩,⟨8,false,[],false⟩,⟨9,false,[],false⟩,⟨10,false,[],false⟩,⟨11,false,[],false⟩,⟨12,false,[],false⟩,⟨13,false,[],false⟩,⟨14,false,[],false⟩,⟨15,false,[],false⟩]]=c} by apply Subtype.mk;simp only [go_sem,seval,f5];rfl).1
theorem e5 : fnV Tryz.prog lab 5=some ⟨c5,[.tmp 4],65⟩:=by kernel_rfl
def c6 : VCode:=(show {c // CH f6 []=c} by apply Subtype.mk;simp only [go_sem,seval,f6];rfl).1
theorem e6 : fnV Tryz.prog lab 6=some ⟨c6,[.tmp 4],63⟩:=by kernel_rfl
def c7 : VCode:=(show {c // CH f7 [[⟨0,false,[],false⟩,⟨1,false,[],false⟩,⟨2,false,[],false⟩,⟨3,false,[],false⟩,⟨4,false,[],false⟩,⟨5,false,[],false⟩,⟨7,false,[],true⟩,⟨6,true,[7],false⟩,⟨8,true,[],false⟩,⟨9,false,[],false⟩,⟨10,false,[],false⟩,⟨11,false,[],false⟩]]=c} by apply Subtype.mk;simp only [go_sem,seval,f7];rfl).1
theorem e7 : fnV Tryz.prog lab 7=some ⟨c7,[.tmp 8],59⟩:=by kernel_rfl
def c8 : VCode:=(show {c // CH f8 [[⟨0,false,[],true⟩,⟨1,false,[],false⟩,⟨2,false,[],false⟩,⟨3,false,[],true⟩,⟨4,false,[],false⟩,⟨5,false,[],false⟩,⟨6,false,[],false⟩,⟨7,false,[],false⟩,⟨8,true,[0,3],false⟩,⟨9,true,[],false⟩,⟨10,false,[],false⟩]]=c} by apply Subtype.mk;simp only [go_sem,seval,f8];rfl).1
theorem e8 : fnV Tryz.prog lab 8=some ⟨c8,[.tmp 6],79⟩:=by kernel_rfl
def c9 : VCode:=(show {c // CH f9 [[⟨0,false,[],false⟩,⟨2,false,[],true⟩,⟨1,true,[2],false⟩,⟨3,true,[],false⟩,⟨4,false,[],false⟩,⟨5,false,[],false⟩,⟨6,false,[],false⟩,⟨7,false,[],false⟩,⟨8,true,[],false⟩,⟨9,false,[],false⟩,⟨10,false,[],false⟩,⟨11,false,[],false⟩,⟨13,false,[],false⟩,⟨12,true,[],false⟩,⟨14,true,[],false⟩,⟨15,false,[],false⟩,⟨16,false,[],false⟩,⟨17,false,[],false⟩]]=c} by apply Subtype.mk;simp only [go_sem,seval,f9];rfl).1
theorem e9 : fnV Tryz.prog lab 9=some ⟨c9,[.tmp 4],47⟩:=by kernel_rfl
def c10 : VCode:=(show {c // CH f10 [[⟨0,false,[],false⟩,⟨2,false,[],true⟩,⟨1,true,[2],false⟩,⟨3,true,[],false⟩,⟨4,false,[],false⟩,⟨5,false,[],false⟩,⟨6,false,[],false⟩,⟨7,false,[],false⟩,⟨8,false,[],false⟩,⟨9,false,[],false⟩,⟨10,false,[],false⟩,⟨11,false,[],false⟩,⟨12,false,[],false⟩,⟨13,true,[],false⟩,⟨14,false,[],false⟩,⟨15,false,[],false⟩]]=c} by apply Subtype.mk;simp only [go_sem,seval,f10];rfl).1
def c11 : VCode:=(show {c // CH f11 [[⟨0,false,[],false⟩,⟨1,false,[],false⟩,⟨2,false,[],false⟩,⟨3,false,[],false⟩,⟨5,false,[],true⟩,⟨4,true,[5],false⟩,⟨6,true,[],false⟩,⟨7,true,[],false⟩,⟨8,false,[],false⟩,⟨9,false,[],false⟩,⟨10,false,[],false⟩,⟨11,false,[],false⟩,⟨12,true,[],false⟩,⟨13,false,[],false⟩,⟨14,false,[],false⟩],[⟨0,false,[],true⟩,⟨1,false,[],false⟩,⟨2,false,[],false⟩,⟨3,false,[],false⟩,⟨4,false,[],false⟩,⟨5,false,[],true⟩,⟨6,false,[],false⟩,⟨7,false,[],true⟩,⟨8,false,[],false⟩,⟨9,false,[],false⟩,⟨10,false,[],false⟩,⟨11,false,[],false⟩,⟨12,false,[],false⟩,⟨13,false,[],false⟩,⟨14,false,[],false⟩,⟨15,true,[0,5,7],false⟩,⟨16,true,[],false⟩,⟨17,false,[],false⟩,⟨18,false,[],false⟩],[⟨0,false,[],false⟩,⟨1,false,[],false⟩,⟨2,false,[],false⟩,⟨3,false,[],false⟩,⟨4,false,[],false⟩,⟨5,false,[],false⟩,⟨6,false,[],false⟩,⟨7,false,[],false⟩,⟨8,false,[],false⟩,⟨9,false,[],false⟩,⟨11,false,[],true⟩,⟨10,true,[11],false⟩,⟨12,true,[],false⟩,⟨13,true,[],false⟩,⟨14,false,[],false⟩,⟨15,false,[],false⟩]]=c} by apply Subtype.mk;simp only [go_sem,seval,f11];rfl).1
theorem e11 : fnV Tryz.prog lab 11=some ⟨c11,[.tmp 10],108⟩:=by kernel_rfl
def c13 : VCode:=(show {c // CH f13 []=c} by apply Subtype.mk;simp only [go_sem,seval,f13];rfl).1
theorem e13 : fnV Tryz.prog lab 13=some ⟨c13,[.tmp 0],38⟩:=by kernel_rfl
def c14 : VCode:=(show {c // CH f14 []=c} by apply Subtype.mk;simp only [go_sem,seval,f14];rfl).1
theorem e14 : fnV Tryz.prog lab 14=some ⟨c14,[.tmp 4],14⟩:=by kernel_rfl
def c16 : VCode:=(show {c // CH f16 []=c} by apply Subtype.mk;simp only [go_sem,seval,f16];rfl).1
theorem e16 : fnV Tryz.prog lab 16=some ⟨c16,[.cell 4 42,.tmp 5],15⟩:=by kernel_rfl
def c17 : VCode:=(show {c // CH f17 []=c} by apply Subtype.mk;simp only [go_sem,seval,f17];rfl).1
theorem e17 : fnV Tryz.prog lab 17=some ⟨c17,[.tmp 2],6⟩:=by kernel_rfl
def c20 : VCode:=(show {c // CH f20 []=c} by apply Subtype.mk;simp only [go_sem,seval,f20];rfl).1
theorem e20 : fnV Tryz.prog lab 20=some ⟨c20,[.cell 4 42,.tmp 5],44⟩:=by kernel_rfl
def c21 : VCode:=(show {c // CH f21 []=c} by apply Subtype.mk;simp only [go_sem,seval,f21];rfl).1
theorem e21 : fnV Tryz.prog lab 21=some ⟨c21,[.tmp 2,.tmp 3],16⟩:=by kernel_rfl
def c22 : VCode:=(show {c // CH f22 []=c} by apply Subtype.mk;simp only [go_sem,seval,f22];rfl).1
theorem e22 : fnV Tryz.prog lab 22=some ⟨c22,[.tmp 2],19⟩:=by kernel_rfl
def c23 : VCode:=(show {c // CH f23 []=c} by apply Subtype.mk;simp only [go_sem,seval,f23];rfl).1
theorem e23 : fnV Tryz.prog lab 23=some ⟨c23,[.tmp 2],5⟩:=by kernel_rfl
def c24 : VCode:=(show {c // CH f24 []=c} by apply Subtype.mk;simp only [go_sem,seval,f24];rfl).1
theorem e24 : fnV Tryz.prog lab 24=some ⟨c24,[.tmp 2],6⟩:=by kernel_rfl
def c25 : VCode:=(show {c // CH f25 []=c} by apply Subtype.mk;simp only [go_sem,seval,f25];rfl).1
theorem e25 : fnV Tryz.prog lab 25=some ⟨c25,[.tmp 6],34⟩:=by kernel_rfl
def c26 : VCode:=(show {c // CH f26 []=c} by apply Subtype.mk;simp only [go_sem,seval,f26];rfl).1
theorem e26 : fnV Tryz.prog lab 26=some ⟨c26,[.tmp 2],6⟩:=by kernel_rfl
def c27 : VCode:=(show {c // CH f27 [[⟨0,false,[],false⟩,⟨1,false,[],false⟩,⟨3,false,[],false⟩,⟨4,false,[],true⟩,⟨2,true,[4],false⟩,⟨5,true,[],false⟩,⟨6,false,[],false⟩,⟨7,false,[],false⟩]]=c} by apply Subtype.mk;simp only [go_sem,seval,f27];rfl).1
theorem e27 : fnV Tryz.prog lab 27=some ⟨c27,[.tmp 2],10⟩:=by kernel_rfl
def c28 : VCode:=(show {c // CH f28 []=c} by apply Subtype.mk;simp only [go_sem,seval,f28];rfl).1
theorem e28 : fnV Tryz.prog lab 28=some ⟨c28,[.tmp 2],6⟩:=by kernel_rfl
def c29 : VCode:=(show {c // CH f29 []=c} by apply Subtype.mk;simp only [go_sem,seval,f29];rfl).1
theorem e29 : fnV Tryz.prog lab 29=some ⟨c29,[.tmp 2],12⟩:=by kernel_rfl
def c31 : VCode:=(show {c // CH f31 [[⟨0,false,[],false⟩,⟨1,false,[],false⟩,⟨2,false,[],false⟩,⟨3,false,[],false⟩,⟨4,false,[],false⟩,⟨5,false,[],false⟩,⟨6,false,[],false⟩,⟨7,false,[],false⟩,⟨8,false,[],false⟩,⟨9,false,[],false⟩,⟨10,false,[],false⟩],[⟨0,false,[],false⟩,⟨1,false,[],false⟩,⟨2,false,[],false⟩,⟨3,false,[],false⟩,⟨4,false,[],false⟩,⟨5,false,[],false⟩,⟨6,false,[],false⟩,⟨7,false,[],false⟩,⟨8,false,[],false⟩,⟨9,false,[],false⟩,⟨10,true,[],false⟩,⟨11,false,[],false⟩]]=c} by apply Subtype.mk;simp only [go_sem,seval,f31];rfl).1
theorem e31 : fnV Tryz.prog lab 31=some ⟨c31,[.tmp 4],81⟩:=by kernel_rfl
def c32 : VCode:=(show {c // CH f32 []=c} by apply Subtype.mk;simp only [go_sem,seval,f32];rfl).1
theorem e32 : fnV Tryz.prog lab 32=some ⟨c32,[.cell 2 28],17⟩:=by kernel_rfl
def c38 : VCode:=(show {c // CH f38 []=c} by apply Subtype.mk;simp only [go_sem,seval,f38];rfl).1
theorem e38 : fnV Tryz.prog lab 38=some ⟨c38,[.tmp 2],10⟩:=by kernel_rfl
def c39 : VCode:=(show {c // CH f39 []=c} by apply Subtype.mk;simp only [go_sem,seval,f39];rfl).1
theorem e39 : fnV Tryz.prog lab 39=some ⟨c39,[.tmp 6,.tmp 7],65⟩:=by kernel_rfl
def c41 : VCode:=(show {c // CH f41 [[⟨0,false,[],false⟩,⟨1,false,[],false⟩,⟨2,false,[],false⟩,⟨3,false,[],false⟩,⟨4,false,[],false⟩,⟨5,false,[],false⟩,⟨6,false,[],false⟩,⟨7,true,[],false⟩,⟨8,true,[],false⟩],[⟨0,false,[],true⟩,⟨1,false,[],false⟩,⟨3,false,[],true⟩,⟨2,true,[0,3],false⟩,⟨4,true,[],false⟩,⟨5,true,[],false⟩]]=c} by apply Subtype.mk;simp only [go_sem,seval,f41];rfl).1
theorem e41 : fnV Tryz.prog lab 41=some ⟨c41,[.cell 8 42,.tmp 9],119⟩:=by kernel_rfl
def c42 : VCode:=(show {c // CH f42 []=c} by apply Subtype.mk;simp only [go_sem,seval,f42];rfl).1
theorem e42 : fnV Tryz.prog lab 42=some ⟨c42,[.tmp 4],92⟩:=by kernel_rfl
def c46 : VCode:=(show {c // CH f46 []=c} by apply Subtype.mk;simp only [go_sem,seval,f46];rfl).1
def c47 : VCode:=(show {c // CH f47 []=c} by apply Subtype.mk;simp only [go_sem,seval,f47];rfl).1
theorem e47 : fnV Tryz.prog lab 47=some ⟨c47,[.tmp 4],13⟩:=by kernel_rfl
def c48 : VCode:=(show {c // CH f48 [[⟨0,false,[],false⟩,⟨1,false,[],false⟩,⟨2,false,[],false⟩,⟨3,false,[],false⟩,⟨4,false,[],true⟩,⟨5,false,[],false⟩,⟨6,true,[4],false⟩,⟨7,false,[],false⟩,⟨8,true,[],false⟩]]=c} by apply Subtype.mk;simp only [go_sem,seval,f48];rfl).1
theorem e48 : fnV Tryz.prog lab 48=some ⟨c48,[.cell 4 93,.tmp 5],127⟩:=by kernel_rfl
def c49 : VCode:=(show {c // CH f49 []=c} by apply Subtype.mk;simp only [go_sem,seval,f49];rfl).1
theorem e49 : fnV Tryz.prog lab 49=some ⟨c49,[.tmp 2],28⟩:=by kernel_rfl
def c50 : VCode:=(show {c // CH f50 [[⟨0,false,[],true⟩,⟨1,false,[],false⟩,⟨2,false,[],false⟩,⟨3,true,[0],false⟩,⟨4,true,[],false⟩,⟨5,false,[],false⟩]]=c} by apply Subtype.mk;simp only [go_sem,seval,f50];rfl).1
theorem e50 : fnV Tryz.prog lab 50=some ⟨c50,[.tmp 4],26⟩:=by kernel_rfl
def c51 : VCode:=(show {c // CH f51 []=c} by apply Subtype.mk;simp only [go_sem,seval,f51];rfl).1
theorem e51 : fnV Tryz.prog lab 51=some ⟨c51,[.tmp 2],11⟩:=by kernel_rfl
def c52 : VCode:=(show {c // CH f52 []=c} by apply Subtype.mk;simp only [go_sem,seval,f52];rfl).1
theorem e52 : fnV Tryz.prog lab 52=some ⟨c52,[.tmp 2],5⟩:=by kernel_rfl
def c54 : VCode:=(show {c // CH f54 []=c} by apply Subtype.mk;simp only [go_sem,seval,f54];rfl).1
theorem e54 : fnV Tryz.prog lab 54=some ⟨c54,[],48⟩:=by kernel_rfl
def c55 : VCode:=(show {c // CH f55 [[⟨0,false,[],false⟩,⟨1,false,[],true⟩,⟨2,false,[],false⟩,⟨4,false,[],true⟩,⟨5,false,[],false⟩,⟨3,true,[1,4],false⟩,⟨6,true,[],false⟩,⟨7,false,[],false⟩,⟨9,false,[],false⟩,⟨8,true,[],false⟩,⟨10,true,[],false⟩]]=c} by apply Subtype.mk;simp only [go_sem,seval,f55];rfl).1
def c56 : VCode:=(show {c // CH f56 [[⟨0,false,[],false⟩,⟨1,false,[],false⟩,⟨2,false,[],true⟩,⟨3,true,[2],false⟩,⟨4,true,[2],false⟩,⟨5,true,[],false⟩]]=c} by apply Subtype.mk;simp only [go_sem,seval,f56];rfl).1
def c57 : VCode:=(show {c // CH f57 []=c} by apply Subtype.mk;simp only [go_sem,seval,f57];rfl).1
theorem e57 : fnV Tryz.prog lab 57=some ⟨c57,[.cell 4 42],56⟩:=by kernel_rfl
def c59 : VCode:=(show {c // CH f59 []=c} by apply Subtype.mk;simp only [go_sem,seval,f59];rfl).1
theorem e59 : fnV Tryz.prog lab 59=some ⟨c59,[.tmp 2],29⟩:=by kernel_rfl
end Go.V
namespace Go.V
open Go.Proofs Go.Proofs.Tryz
set_option maxRecDepth 100000
def c60 : VCode:=(show {c // CH f60 [[⟨0,false,[],false⟩,⟨1,false,[],false⟩,⟨2,false,[],false⟩,⟨3,false,[],false⟩,⟨4,false,[],false⟩,⟨5,false,[],false⟩,⟨6,false,[],false⟩,⟨7,false,[],false⟩,⟨8,true,[],false⟩,⟨9,false,[],false⟩]]=c} by apply Subtype.mk;simp only [go_sem,seval,f60];rfl).1
theorem e60 : fnV Tryz.prog lab 60=some ⟨c60,[.tmp 2],54⟩:=by kernel_rfl
def c63 : VCode:=(show {c // CH f63 []=c} by apply Subtype.mk;simp only [go_sem,seval,f63];rfl).1
theorem e63 : fnV Tryz.prog lab 63=some ⟨c63,[.tmp 2],82⟩:=by kernel_rfl
def c64 : VCode:=(show {c // CH f64 []=c} by apply Subtype.mk;simp only [go_sem,seval,f64];rfl).1
theorem e64 : fnV Tryz.prog lab 64=some ⟨c64,[.cell 2 42],7⟩:=by kernel_rfl
def c65 : VCode:=(show {c // CH f65 []=c} by apply Subtype.mk;simp only [go_sem,seval,f65];rfl).1
theorem e65 : fnV Tryz.prog lab 65=some ⟨c65,[.cell 2 42],6⟩:=by kernel_rfl
def c66 : VCode:=(show {c // CH f66 [[⟨0,false,[],false⟩,⟨1,false,[],true⟩,⟨2,false,[],false⟩,⟨3,false,[],false⟩,⟨4,false,[],false⟩,⟨5,false,[],false⟩,⟨6,false,[],false⟩,⟨7,false,[],false⟩,⟨8,false,[],false⟩,⟨9,false,[],false⟩,⟨10,true,[1],false⟩,⟨11,true,[1],false⟩,⟨12,true,[],false⟩,⟨13,false,[],false⟩,⟨14,true,[],false⟩]]=c} by apply Subtype.mk;simp only [go_sem,seval,f66];rfl).1
theorem e66 : fnV Tryz.prog lab 66=some ⟨c66,[.cell 2 37],26⟩:=by kernel_rfl
def c67 : VCode:=(show {c // CH f67 []=c} by apply Subtype.mk;simp only [go_sem,seval,f67];rfl).1
theorem e67 : fnV Tryz.prog lab 67=some ⟨c67,[.cell 2 40],5⟩:=by kernel_rfl
def c68 : VCode:=(show {c // CH f68 []=c} by apply Subtype.mk;simp only [go_sem,seval,f68];rfl).1
theorem e68 : fnV Tryz.prog lab 68=some ⟨c68,[.cell 6 40],32⟩:=by kernel_rfl
def c69 : VCode:=(show {c // CH f69 []=c} by apply Subtype.mk;simp only [go_sem,seval,f69];rfl).1
theorem e69 : fnV Tryz.prog lab 69=some ⟨c69,[.cell 4 42],9⟩:=by kernel_rfl
def c70 : VCode:=(show {c // CH f70 [[⟨0,false,[],false⟩,⟨1,false,[],false⟩,⟨2,false,[],false⟩,⟨3,false,[],true⟩,⟨4,false,[],false⟩,⟨5,true,[3],false⟩,⟨6,false,[],false⟩]]=c} by apply Subtype.mk;simp only [go_sem,seval,f70];rfl).1
theorem e70 : fnV Tryz.prog lab 70=some ⟨c70,[.cell 2 34,.tmp 3],9⟩:=by kernel_rfl
def c71 : VCode:=(show {c // CH f71 []=c} by apply Subtype.mk;simp only [go_sem,seval,f71];rfl).1
theorem e71 : fnV Tryz.prog lab 71=some ⟨c71,[.tmp 2],8⟩:=by kernel_rfl
def c72 : VCode:=(show {c // CH f72 []=c} by apply Subtype.mk;simp only [go_sem,seval,f72];rfl).1
theorem e72 : fnV Tryz.prog lab 72=some ⟨c72,[.cell 4 42,.tmp 5],39⟩:=by kernel_rfl
def c77 : VCode:=(show {c // CH f77 []=c} by apply Subtype.mk;simp only [go_sem,seval,f77];rfl).1
theorem e77 : fnV Tryz.prog lab 77=some ⟨c77,[.tmp 2],9⟩:=by kernel_rfl
def c78 : VCode:=(show {c // CH f78 []=c} by apply Subtype.mk;simp only [go_sem,seval,f78];rfl).1
theorem e78 : fnV Tryz.prog lab 78=some ⟨c78,[.cell 4 93,.tmp 5],31⟩:=by kernel_rfl
def c79 : VCode:=(show {c // CH f79 []=c} by apply Subtype.mk;simp only [go_sem,seval,f79];rfl).1
theorem e79 : fnV Tryz.prog lab 79=some ⟨c79,[.tmp 4],25⟩:=by kernel_rfl
def c80 : VCode:=(show {c // CH f80 []=c} by apply Subtype.mk;simp only [go_sem,seval,f80];rfl).1
theorem e80 : fnV Tryz.prog lab 80=some ⟨c80,[.tmp 2],9⟩:=by kernel_rfl
def c81 : VCode:=(show {c // CH f81 []=c} by apply Subtype.mk;simp only [go_sem,seval,f81];rfl).1
theorem e81 : fnV Tryz.prog lab 81=some ⟨c81,[.tmp 2,.tmp 3],74⟩:=by kernel_rfl
def c82 : VCode:=(show {c // CH f82 []=c} by apply Subtype.mk;simp only [go_sem,seval,f82];rfl).1
theorem e82 : fnV Tryz.prog lab 82=some ⟨c82,[.cell 4 93,.tmp 5],37⟩:=by kernel_rfl
def c83 : VCode:=(show {c // CH f83 []=c} by apply Subtype.mk;simp only [go_sem,seval,f83];rfl).1
theorem e83 : fnV Tryz.prog lab 83=some ⟨c83,[.tmp 2],59⟩:=by kernel_rfl
def c84 : VCode:=(show {c // CH f84 [[⟨0,false,[],true⟩,⟨1,false,[],false⟩,⟨2,false,[],false⟩,⟨3,false,[],false⟩,⟨4,true,[0],false⟩,⟨5,true,[],false⟩,⟨6,true,[],false⟩]]=c} by apply Subtype.mk;simp only [go_sem,seval,f84];rfl).1
theorem e84 : fnV Tryz.prog lab 84=some ⟨c84,[],18⟩:=by kernel_rfl
def c92 : VCode:=(show {c // CH f92 []=c} by apply Subtype.mk;simp only [go_sem,seval,f92];rfl).1
theorem e92 : fnV Tryz.prog lab 92=some ⟨c92,[.tmp 2],4⟩:=by kernel_rfl
def c93 : VCode:=(show {c // CH f93 []=c} by apply Subtype.mk;simp only [go_sem,seval,f93];rfl).1
theorem e93 : fnV Tryz.prog lab 93=some ⟨c93,[.tmp 2],4⟩:=by kernel_rfl
def c94 : VCode:=(show {c // CH f94 []=c} by apply Subtype.mk;simp only [go_sem,seval,f94];rfl).1
theorem e94 : fnV Tryz.prog lab 94=some ⟨c94,[.cell 2 93],12⟩:=by kernel_rfl
def c95 : VCode:=(show {c // CH f95 []=c} by apply Subtype.mk;simp only [go_sem,seval,f95];rfl).1
theorem e95 : fnV Tryz.prog lab 95=some ⟨c95,[.cell 2 34,.tmp 3],48⟩:=by kernel_rfl
def c96 : VCode:=(show {c // CH f96 []=c} by apply Subtype.mk;simp only [go_sem,seval,f96];rfl).1
theorem e96 : fnV Tryz.prog lab 96=some ⟨c96,[],9⟩:=by kernel_rfl
def c97 : VCode:=(show {c // CH f97 []=c} by apply Subtype.mk;simp only [go_sem,seval,f97];rfl).1
theorem e97 : fnV Tryz.prog lab 97=some ⟨c97,[.cell 4 42],12⟩:=by kernel_rfl
def c98 : VCode:=(show {c // CH f98 []=c} by apply Subtype.mk;simp only [go_sem,seval,f98];rfl).1
theorem e98 : fnV Tryz.prog lab 98=some ⟨c98,[.cell 4 42],12⟩:=by kernel_rfl
def c99 : VCode:=(show {c // CH f99 []=c} by apply Subtype.mk;simp only [go_sem,seval,f99];rfl).1
theorem e99 : fnV Tryz.prog lab 99=some ⟨c99,[.cell 4 42],12⟩:=by kernel_rfl
def c100 : VCode:=(show {c // CH f100 []=c} by apply Subtype.mk;simp only [go_sem,seval,f100];rfl).1
theorem e100 : fnV Tryz.prog lab 100=some ⟨c100,[.cell 4 42],10⟩:=by kernel_rfl
def c101 : VCode:=(show {c // CH f101 []=c} by apply Subtype.mk;simp only [go_sem,seval,f101];rfl).1
theorem e101 : fnV Tryz.prog lab 101=some ⟨c101,[.cell 2 42,.tmp 3],13⟩:=by kernel_rfl
def c105 : VCode:=(show {c // CH f105 []=c} by apply Subtype.mk;simp only [go_sem,seval,f105];rfl).1
theorem e105 : fnV Tryz.prog lab 105=some ⟨c105,[.tmp 2],10⟩:=by kernel_rfl
def c106 : VCode:=(show {c // CH f106 []=c} by apply Subtype.mk;simp only [go_sem,seval,f106];rfl).1
theorem e106 : fnV Tryz.prog lab 106=some ⟨c106,[.tmp 2],16⟩:=by kernel_rfl
def c112 : VCode:=(show {c // CH f112 []=c} by apply Subtype.mk;simp only [go_sem,seval,f112];rfl).1
theorem e112 : fnV Tryz.prog lab 112=some ⟨c112,[.tmp 2],38⟩:=by kernel_rfl
def c113 : VCode:=(show {c // CH f113 []=c} by apply Subtype.mk;simp only [go_sem,seval,f113];rfl).1
theorem e113 : fnV Tryz.prog lab 113=some ⟨c113,[.cell 2 42],9⟩:=by kernel_rfl
def c114 : VCode:=(show {c // CH f114 [[⟨0,false,[],false⟩,⟨1,false,[],false⟩,⟨2,false,[],false⟩,⟨3,false,[],false⟩,⟨4,false,[],false⟩,⟨5,false,[],false⟩,⟨6,false,[],false⟩,⟨7,false,[],false⟩,⟨8,false,[],false⟩,⟨9,false,[],false⟩],[⟨0,false,[],false⟩,⟨1,false,[],false⟩,⟨2,false,[],false⟩,⟨3,false,[],false⟩,⟨4,false,[],false⟩,⟨5,false,[],false⟩,⟨6,false,[],false⟩,⟨7,false,[],false⟩,⟨8,false,[],false⟩,⟨9,false,[],false⟩]]=c} by apply Subtype.mk;simp only [go_sem,seval,f114];rfl).1
theorem e114 : fnV Tryz.prog lab 114=some ⟨c114,[.tmp 4],45⟩:=by kernel_rfl
def c115 : VCode:=(show {c // CH f115 []=c} by apply Subtype.mk;simp only [go_sem,seval,f115];rfl).1
theorem e115 : fnV Tryz.prog lab 115=some ⟨c115,[.tmp 2],11⟩:=by kernel_rfl
def c116 : VCode:=(show {c // CH f116 []=c} by apply Subtype.mk;simp only [go_sem,seval,f116];rfl).1
theorem e116 : fnV Tryz.prog lab 116=some ⟨c116,[.tmp 4],17⟩:=by kernel_rfl
def c117 : VCode:=(show {c // CH f117 [[⟨0,false,[],false⟩,⟨1,false,[],false⟩,⟨2,false,[],false⟩,⟨3,false,[],false⟩,⟨4,false,[],false⟩,⟨5,false,[],false⟩,⟨6,true,[],false⟩,⟨7,false,[],false⟩,⟨8,false,[],false⟩,⟨9,false,[],false⟩,⟨10,false,[],false⟩,⟨11,false,[],false⟩],[⟨0,false,[],false⟩,⟨1,false,[],false⟩,⟨2,false,[],false⟩,⟨3,false,[],false⟩,⟨4,false,[],false⟩,⟨5,false,[],false⟩,⟨9,false,[],false⟩,⟨6,true,[],false⟩,⟨7,false,[],false⟩,⟨8,true,[],false⟩,⟨10,false,[],false⟩,⟨11,false,[],false⟩]]=c} by apply Subtype.mk;simp only [go_sem,seval,f117];rfl).1
theorem e117 : fnV Tryz.prog lab 117=some ⟨c117,[.tmp 8,.tmp 9],122⟩:=by kernel_rfl
def c118 : VCode:=(show {c // CH f118 []=c} by apply Subtype.mk;simp only [go_sem,seval,f118];rfl).1
theorem e118 : fnV Tryz.prog lab 118=some ⟨c118,[],9⟩:=by kernel_rfl
def c119 : VCode:=(show {c // CH f119 []=c} by apply Subtype.mk;simp only [go_sem,seval,f119];rfl).1
theorem e119 : fnV Tryz.prog lab 119=some ⟨c119,[.tmp 4],19⟩:=by kernel_rfl
def c120 : VCode:=(show {c // CH f120 [[⟨0,false,[],false⟩,⟨1,false,[],false⟩,⟨3,false,[],false⟩,⟨4,false,[],true⟩,⟨2,true,[4],false⟩,⟨5,false,[],false⟩,⟨6,false,[],false⟩],[⟨0,false,[],false⟩,⟨1,false,[],false⟩,⟨2,false,[],false⟩,⟨3,false,[],true⟩,⟨4,false,[],false⟩,⟨5,false,[],false⟩,⟨6,false,[],false⟩,⟨7,false,[],false⟩,⟨8,false,[],false⟩,⟨9,false,[],false⟩,⟨10,false,[],false⟩,⟨11,true,[3],false⟩,⟨12,true,[],false⟩,⟨13,false,[],false⟩]]=c} by apply Subtype.mk;simp only [go_sem,seval,f120];rfl).1
theorem e120 : fnV Tryz.prog lab 120=some ⟨c120,[.cell 4 42,.tmp 5],78⟩:=by kernel_rfl
def c121 : VCode:=(show {c // CH f121 []=c} by apply Subtype.mk;simp only [go_sem,seval,f121];rfl).1
theorem e121 : fnV Tryz.prog lab 121=some ⟨c121,[.cell 4 42,.tmp 5],61⟩:=by kernel_rfl
def c126 : VCode:=(show {c // CH f126 []=c} by apply Subtype.mk;simp only [go_sem,seval,f126];rfl).1
theorem e126 : fnV Tryz.prog lab 126=some ⟨c126,[.tmp 2,.tmp 3,.tmp 4],93⟩:=by kernel_rfl
def c127 : VCode:=(show {c // CH f127 []=c} by apply Subtype.mk;simp only [go_sem,seval,f127];rfl).1
theorem e127 : fnV Tryz.prog lab 127=some ⟨c127,[.tmp 4,.tmp 5],16⟩:=by kernel_rfl
def c128 : VCode:=(show {c // CH f128 []=c} by apply Subtype.mk;simp only [go_sem,seval,f128];rfl).1
theorem e128 : fnV Tryz.prog lab 128=some ⟨c128,[.tmp 2],21⟩:=by kernel_rfl
def c132 : VCode:=(show {c // CH f132 []=c} by apply Subtype.mk;simp only [go_sem,seval,f132];rfl).1
theorem e132 : fnV Tryz.prog lab 132=some ⟨c132,[],10⟩:=by kernel_rfl
def c133 : VCode:=(show {c // CH f133 []=c} by apply Subtype.mk;simp only [go_sem,seval,f133];rfl).1
theorem e133 : fnV Tryz.prog lab 133=some ⟨c133,[.tmp 6],50⟩:=by kernel_rfl
def c134 : VCode:=(show {c // CH f134 []=c} by apply Subtype.mk;simp only [go_sem,seval,f134];rfl).1
theorem e134 : fnV Tryz.prog lab 134=some ⟨c134,[],20⟩:=by kernel_rfl
def c135 : VCode:=(show {c // CH f135 []=c} by apply Subtype.mk;simp only [go_sem,seval,f135];rfl).1
theorem e135 : fnV Tryz.prog lab 135=some ⟨c135,[.tmp 2],11⟩:=by kernel_rfl
def c136 : VCode:=(show {c // CH f136 [[⟨0,false,[],false⟩,⟨1,false,[],false⟩,⟨2,false,[],false⟩,⟨3,false,[],true⟩,⟨4,false,[],false⟩,⟨5,false,[],false⟩,⟨6,false,[],false⟩,⟨7,false,[],true⟩,⟨8,false,[],false⟩,⟨9,false,[],false⟩,⟨10,false,[],false⟩,⟨11,false,[],false⟩,⟨12,true,[3,7],false⟩,⟨13,true,[],false⟩,⟨14,false,[],false⟩]]=c} by apply Subtype.mk;simp only [go_sem,seval,f136];rfl).1
theorem e136 : fnV Tryz.prog lab 136=some ⟨c136,[.cell 2 93],32⟩:=by kernel_rfl
def c137 : VCode:=(show {c // CH f137 []=c} by apply Subtype.mk;simp only [go_sem,seval,f137];rfl).1
theorem e137 : fnV Tryz.prog lab 137=some ⟨c137,[.cell 4 42],15⟩:=by kernel_rfl
def c138 : VCode:=(show {c // CH f138 []=c} by apply Subtype.mk;simp only [go_sem,seval,f138];rfl).1
theorem e138 : fnV Tryz.prog lab 138=some ⟨c138,[],17⟩:=by kernel_rfl
def c139 : VCode:=(show {c // CH f139 [[⟨0,false,[],true⟩,⟨1,false,[],false⟩,⟨3,false,[],true⟩,⟨4,false,[],true⟩,⟨5,false,[],false⟩,⟨2,true,[0,3,4],false⟩,⟨6,true,[0],false⟩,⟨7,true,[],false⟩,⟨8,false,[],false⟩,⟨9,false,[],false⟩,⟨10,true,[],false⟩,⟨11,true,[],false⟩]]=c} by apply Subtype.mk;simp only [go_sem,seval,f139];rfl).1
theorem e139 : fnV Tryz.prog lab 139=some ⟨c139,[],14⟩:=by kernel_rfl
def c140 : VCode:=(show {c // CH f140 []=c} by apply Subtype.mk;simp only [go_sem,seval,f140];rfl).1
theorem e140 : fnV Tryz.prog lab 140=some ⟨c140,[.cell 6 42,.tmp 7],34⟩:=by kernel_rfl
def c141 : VCode:=(show {c // CH f141 [[⟨0,false,[],true⟩,⟨1,false,[],true⟩,⟨2,false,[],false⟩,⟨3,false,[],false⟩,⟨4,false,[],false⟩,⟨5,true,[0,1],false⟩,⟨6,true,[],false⟩,⟨7,false,[],false⟩,⟨8,false,[],false⟩,⟨9,true,[],false⟩,⟨10,true,[],false⟩]]=c} by apply Subtype.mk;simp only [go_sem,seval,f141];rfl).1
theorem e141 : fnV Tryz.prog lab 141=some ⟨c141,[],41⟩:=by kernel_rfl
def c142 : VCode:=(show {c // CH f142 []=c} by apply Subtype.mk;simp only [go_sem,seval,f142];rfl).1
theorem e142 : fnV Tryz.prog lab 142=some ⟨c142,[],12⟩:=by kernel_rfl
end Go.V
namespace Go.V
open Go.Proofs Go.Proofs.Tryz
set_option maxRecDepth 100000
def c143 : VCode:=(show {c // CH f143 [[⟨0,false,[],false⟩,⟨1,false,[],false⟩,⟨2,false,[],false⟩,⟨3,false,[],false⟩,⟨5,false,[],false⟩,⟨6,false,[],true⟩,⟨4,true,[6],false⟩,⟨7,false,[],false⟩,⟨8,false,[],false⟩,⟨9,false,[],false⟩,⟨10,false,[],false⟩,⟨12,false,[],false⟩,⟨13,false,[],true⟩,⟨11,true,[13],false⟩,⟨14,false,[],false⟩,⟨15,false,[],false⟩],[⟨0,false,[],false⟩,⟨1,false,[],true⟩,⟨2,false,[],false⟩,⟨3,true,[1],false⟩,⟨4,false,[],false⟩,⟨5,false,[],false⟩,⟨6,true,[],false⟩]]=c} by apply Subtype.mk;simp only [go_sem,seval,f143];rfl).1
theorem e143 : fnV Tryz.prog lab 143=some ⟨c143,[.cell 6 42,.tmp 7],86⟩:=by kernel_rfl
def c144 : VCode:=(show {c // CH f144 []=c} by apply Subtype.mk;simp only [go_sem,seval,f144];rfl).1
theorem e144 : fnV Tryz.prog lab 144=some ⟨c144,[],27⟩:=by kernel_rfl
def c145 : VCode:=(show {c // CH f145 []=c} by apply Subtype.mk;simp only [go_sem,seval,f145];rfl).1
theorem e145 : fnV Tryz.prog lab 145=some ⟨c145,[.cell 4 42,.tmp 5],36⟩:=by kernel_rfl
def c150 : VCode:=(show {c // CH f150 []=c} by apply Subtype.mk;simp only [go_sem,seval,f150];rfl).1
theorem e150 : fnV Tryz.prog lab 150=some ⟨c150,[.cell 0 219],7⟩:=by kernel_rfl
def c154 : VCode:=(show {c // CH f154 [[⟨0,false,[],false⟩,⟨1,false,[],true⟩,⟨2,false,[],false⟩,⟨3,true,[1],false⟩,⟨4,false,[],false⟩,⟨5,false,[],false⟩,⟨6,true,[],false⟩],[⟨0,false,[],false⟩,⟨1,false,[],true⟩,⟨2,false,[],false⟩,⟨3,true,[1],false⟩,⟨4,false,[],false⟩,⟨5,false,[],false⟩,⟨6,true,[],false⟩]]=c} by apply Subtype.mk;simp only [go_sem,seval,f154];rfl).1
theorem e154 : fnV Tryz.prog lab 154=some ⟨c154,[],17⟩:=by kernel_rfl
def c155 : VCode:=(show {c // CH f155 [[⟨0,false,[],false⟩,⟨1,false,[],false⟩,⟨2,false,[],false⟩,⟨3,false,[],false⟩,⟨4,false,[],false⟩,⟨5,false,[],false⟩,⟨6,false,[],false⟩,⟨7,false,[],false⟩,⟨8,false,[],false⟩,⟨9,false,[],false⟩,⟨10,false,[],false⟩,⟨11,true,[],false⟩]]=c} by apply Subtype.mk;simp only [go_sem,seval,f155];rfl).1
theorem e155 : fnV Tryz.prog lab 155=some ⟨c155,[.tmp 2],44⟩:=by kernel_rfl
def c156 : VCode:=(show {c // CH f156 [[⟨0,false,[],false⟩,⟨1,false,[],false⟩,⟨2,false,[],false⟩,⟨3,false,[],false⟩,⟨4,false,[],false⟩,⟨5,false,[],false⟩,⟨6,false,[],false⟩,⟨7,false,[],false⟩,⟨8,false,[],false⟩,⟨9,false,[],false⟩,⟨10,false,[],false⟩,⟨11,false,[],false⟩,⟨12,false,[],false⟩,⟨13,false,[],false⟩,⟨14,false,[],false⟩]]=c} by apply Subtype.mk;simp only [go_sem,seval,f156];rfl).1
theorem e156 : fnV Tryz.prog lab 156=some ⟨c156,[.tmp 4],55⟩:=by kernel_rfl
def c157 : VCode:=(show {c // CH f157 [[⟨0,false,[],false⟩,⟨1,false,[],false⟩,⟨2,false,[],false⟩,⟨3,false,[],false⟩,⟨4,false,[],false⟩,⟨5,false,[],false⟩,⟨6,false,[],false⟩,⟨7,false,[],false⟩,⟨8,false,[],false⟩,⟨9,false,[],false⟩,⟨10,false,[],false⟩,⟨11,false,[],false⟩,⟨12,false,[],false⟩,⟨13,false,[],false⟩]]=c} by apply Subtype.mk;simp only [go_sem,seval,f157];rfl).1
theorem e157 : fnV Tryz.prog lab 157=some ⟨c157,[.tmp 4],44⟩:=by kernel_rfl
def c158 : VCode:=(show {c // CH f158 [[⟨0,false,[],false⟩,⟨1,false,[],false⟩,⟨2,false,[],false⟩,⟨3,false,[],false⟩,⟨4,false,[],false⟩,⟨5,false,[],false⟩,⟨6,false,[],false⟩,⟨7,false,[],false⟩,⟨8,true,[],false⟩,⟨9,true,[],false⟩,⟨10,false,[],false⟩],[⟨0,false,[],false⟩,⟨1,false,[],false⟩,⟨2,false,[],false⟩,⟨3,false,[],false⟩,⟨4,false,[],false⟩,⟨5,false,[],false⟩,⟨6,false,[],false⟩,⟨7,false,[],false⟩,⟨8,true,[],false⟩,⟨9,true,[],false⟩,⟨10,false,[],false⟩]]=c} by apply Subtype.mk;simp only [go_sem,seval,f158];rfl).1
theorem e158 : fnV Tryz.prog lab 158=some ⟨c158,[.tmp 4],64⟩:=by kernel_rfl
def c159 : VCode:=(show {c // CH f159 []=c} by apply Subtype.mk;simp only [go_sem,seval,f159];rfl).1
theorem e159 : fnV Tryz.prog lab 159=some ⟨c159,[.tmp 4,.tmp 5],11⟩:=by kernel_rfl
def c160 : VCode:=(show {c // CH f160 []=c} by apply Subtype.mk;simp only [go_sem,seval,f160];rfl).1
theorem e160 : fnV Tryz.prog lab 160=some ⟨c160,[.tmp 2],8⟩:=by kernel_rfl
def c161 : VCode:=(show {c // CH f161 [[⟨0,false,[],false⟩,⟨1,false,[],false⟩,⟨2,false,[],false⟩,⟨3,false,[],false⟩,⟨4,false,[],false⟩,⟨5,false,[],false⟩,⟨6,false,[],false⟩,⟨7,false,[],false⟩,⟨8,true,[],false⟩],[⟨0,false,[],false⟩,⟨1,false,[],false⟩,⟨2,false,[],false⟩,⟨3,false,[],false⟩,⟨4,false,[],false⟩,⟨5,false,[],false⟩,⟨6,false,[],false⟩,⟨7,false,[],false⟩,⟨8,true,[],false⟩]]=c} by apply Subtype.mk;simp only [go_sem,seval,f161];rfl).1
theorem e161 : fnV Tryz.prog lab 161=some ⟨c161,[.tmp 6],95⟩:=by kernel_rfl
def c162 : VCode:=(show {c // CH f162 []=c} by apply Subtype.mk;simp only [go_sem,seval,f162];rfl).1
theorem e162 : fnV Tryz.prog lab 162=some ⟨c162,[.tmp 4],18⟩:=by kernel_rfl
def c163 : VCode:=(show {c // CH f163 [[⟨0,false,[],false⟩,⟨1,false,[],false⟩,⟨2,false,[],false⟩,⟨3,false,[],false⟩,⟨5,false,[],false⟩,⟨6,false,[],false⟩,⟨7,false,[],true⟩,⟨4,true,[7],false⟩,⟨8,true,[],false⟩,⟨9,false,[],false⟩]]=c} by apply Subtype.mk;simp only [go_sem,seval,f163];rfl).1
theorem e163 : fnV Tryz.prog lab 163=some ⟨c163,[.tmp 4],14⟩:=by kernel_rfl
def c164 : VCode:=(show {c // CH f164 [[⟨0,false,[],false⟩,⟨1,false,[],true⟩,⟨2,false,[],false⟩,⟨3,false,[],false⟩,⟨4,true,[1],false⟩,⟨5,false,[],false⟩,⟨6,false,[],false⟩,⟨7,true,[],false⟩,⟨8,false,[],false⟩]]=c} by apply Subtype.mk;simp only [go_sem,seval,f164];rfl).1
theorem e164 : fnV Tryz.prog lab 164=some ⟨c164,[.cell 4 243,.tmp 5],19⟩:=by kernel_rfl
def c165 : VCode:=(show {c // CH f165 [[⟨0,false,[],false⟩,⟨1,false,[],false⟩,⟨2,false,[],false⟩,⟨4,false,[],false⟩,⟨6,false,[],true⟩,⟨7,false,[],false⟩,⟨8,false,[],true⟩,⟨10,false,[],false⟩,⟨3,true,[6,8],false⟩,⟨5,false,[],false⟩,⟨9,true,[],false⟩,⟨11,false,[],false⟩,⟨12,false,[],false⟩,⟨13,false,[],false⟩],[⟨0,false,[],true⟩,⟨1,false,[],false⟩,⟨2,false,[],false⟩,⟨3,false,[],false⟩,⟨4,false,[],false⟩,⟨5,false,[],false⟩,⟨6,false,[],false⟩,⟨7,true,[0],false⟩,⟨8,false,[],false⟩,⟨9,true,[],false⟩,⟨10,false,[],false⟩,⟨11,true,[],false⟩,⟨12,false,[],false⟩],[⟨0,false,[],false⟩,⟨1,false,[],false⟩,⟨2,false,[],false⟩,⟨3,false,[],false⟩,⟨5,false,[],false⟩,⟨6,false,[],true⟩,⟨7,false,[],false⟩,⟨4,true,[6],false⟩,⟨8,true,[],false⟩,⟨9,false,[],false⟩,⟨10,true,[],false⟩,⟨11,false,[],false⟩]]=c} by apply Subtype.mk;simp only [go_sem,seval,f165];rfl).1
theorem e165 : fnV Tryz.prog lab 165=some ⟨c165,[.tmp 8],65⟩:=by kernel_rfl
def c166 : VCode:=(show {c // CH f166 [[⟨0,false,[],false⟩,⟨1,false,[],false⟩,⟨3,false,[],false⟩,⟨4,false,[],true⟩,⟨5,false,[],true⟩,⟨2,true,[4,5],false⟩,⟨6,false,[],false⟩,⟨7,false,[],false⟩],[⟨0,false,[],false⟩,⟨1,false,[],false⟩,⟨2,false,[],false⟩,⟨3,false,[],false⟩,⟨4,false,[],false⟩,⟨5,false,[],false⟩,⟨6,false,[],false⟩,⟨7,false,[],false⟩,⟨8,true,[],false⟩]]=c} by apply Subtype.mk;simp only [go_sem,seval,f166];rfl).1
theorem e166 : fnV Tryz.prog lab 166=some ⟨c166,[.cell 6 189],61⟩:=by kernel_rfl
def c167 : VCode:=(show {c // CH f167 []=c} by apply Subtype.mk;simp only [go_sem,seval,f167];rfl).1
theorem e167 : fnV Tryz.prog lab 167=some ⟨c167,[.tmp 4],13⟩:=by kernel_rfl
def c168 : VCode:=(show {c // CH f168 []=c} by apply Subtype.mk;simp only [go_sem,seval,f168];rfl).1
theorem e168 : fnV Tryz.prog lab 168=some ⟨c168,[.tmp 4,.tmp 5,.tmp 6],41⟩:=by kernel_rfl
def c169 : VCode:=(show {c // CH f169 []=c} by apply Subtype.mk;simp only [go_sem,seval,f169];rfl).1
theorem e169 : fnV Tryz.prog lab 169=some ⟨c169,[.tmp 2,.tmp 3],20⟩:=by kernel_rfl
def c171 : VCode:=(show {c // CH f171 []=c} by apply Subtype.mk;simp only [go_sem,seval,f171];rfl).1
theorem e171 : fnV Tryz.prog lab 171=some ⟨c171,[],41⟩:=by kernel_rfl
def c172 : VCode:=(show {c // CH f172 []=c} by apply Subtype.mk;simp only [go_sem,seval,f172];rfl).1
theorem e172 : fnV Tryz.prog lab 172=some ⟨c172,[],7⟩:=by kernel_rfl
def c173 : VCode:=(show {c // CH f173 []=c} by apply Subtype.mk;simp only [go_sem,seval,f173];rfl).1
theorem e173 : fnV Tryz.prog lab 173=some ⟨c173,[],14⟩:=by kernel_rfl
def c175 : VCode:=(show {c // CH f175 []=c} by apply Subtype.mk;simp only [go_sem,seval,f175];rfl).1
theorem e175 : fnV Tryz.prog lab 175=some ⟨c175,[.tmp 4],13⟩:=by kernel_rfl
def c176 : VCode:=(show {c // CH f176 []=c} by apply Subtype.mk;simp only [go_sem,seval,f176];rfl).1
theorem e176 : fnV Tryz.prog lab 176=some ⟨c176,[.tmp 4],22⟩:=by kernel_rfl
def c177 : VCode:=(show {c // CH f177 []=c} by apply Subtype.mk;simp only [go_sem,seval,f177];rfl).1
theorem e177 : fnV Tryz.prog lab 177=some ⟨c177,[.cell 6 37,.tmp 7],34⟩:=by kernel_rfl
def c178 : VCode:=(show {c // CH f178 []=c} by apply Subtype.mk;simp only [go_sem,seval,f178];rfl).1
theorem e178 : fnV Tryz.prog lab 178=some ⟨c178,[.cell 2 42,.tmp 3],13⟩:=by kernel_rfl
def c179 : VCode:=(show {c // CH f179 [[⟨0,false,[],false⟩,⟨1,false,[],true⟩,⟨2,false,[],false⟩,⟨3,true,[1],false⟩,⟨4,false,[],false⟩,⟨5,false,[],false⟩,⟨6,true,[],false⟩],[⟨0,false,[],false⟩,⟨1,false,[],true⟩,⟨2,false,[],false⟩,⟨3,true,[1],false⟩,⟨4,false,[],false⟩,⟨5,false,[],false⟩,⟨6,true,[],false⟩]]=c} by apply Subtype.mk;simp only [go_sem,seval,f179];rfl).1
theorem e179 : fnV Tryz.prog lab 179=some ⟨c179,[.cell 4 42],18⟩:=by kernel_rfl
def c181 : VCode:=(show {c // CH f181 [[⟨0,false,[],false⟩,⟨1,false,[],false⟩,⟨2,false,[],false⟩,⟨5,false,[],false⟩,⟨6,false,[],false⟩,⟨7,false,[],true⟩,⟨3,true,[7],false⟩,⟨4,true,[7],false⟩,⟨8,true,[],false⟩,⟨9,true,[],false⟩,⟨10,false,[],false⟩,⟨11,false,[],false⟩]]=c} by apply Subtype.mk;simp only [go_sem,seval,f181];rfl).1
theorem e181 : fnV Tryz.prog lab 181=some ⟨c181,[.tmp 2],24⟩:=by kernel_rfl
def c182 : VCode:=(show {c // CH f182 []=c} by apply Subtype.mk;simp only [go_sem,seval,f182];rfl).1
theorem e182 : fnV Tryz.prog lab 182=some ⟨c182,[.tmp 4],17⟩:=by kernel_rfl
def c183 : VCode:=(show {c // CH f183 [[⟨0,false,[],false⟩,⟨1,false,[],false⟩,⟨2,false,[],false⟩,⟨5,false,[],false⟩,⟨6,false,[],false⟩,⟨7,false,[],true⟩,⟨3,true,[7],false⟩,⟨4,true,[7],false⟩,⟨8,true,[],false⟩,⟨9,true,[],false⟩,⟨10,false,[],false⟩,⟨11,false,[],false⟩]]=c} by apply Subtype.mk;simp only [go_sem,seval,f183];rfl).1
theorem e183 : fnV Tryz.prog lab 183=some ⟨c183,[.tmp 2],24⟩:=by kernel_rfl
def c184 : VCode:=(show {c // CH f184 []=c} by apply Subtype.mk;simp only [go_sem,seval,f184];rfl).1
theorem e184 : fnV Tryz.prog lab 184=some ⟨c184,[.tmp 6,.tmp 7],49⟩:=by kernel_rfl
def c185 : VCode:=(show {c // CH f185 []=c} by apply Subtype.mk;simp only [go_sem,seval,f185];rfl).1
theorem e185 : fnV Tryz.prog lab 185=some ⟨c185,[.tmp 4],9⟩:=by kernel_rfl
def c188 : VCode:=(show {c // CH f188 []=c} by apply Subtype.mk;simp only [go_sem,seval,f188];rfl).1
theorem e188 : fnV Tryz.prog lab 188=some ⟨c188,[.tmp 4],16⟩:=by kernel_rfl
def c189 : VCode:=(show {c // CH f189 []=c} by apply Subtype.mk;simp only [go_sem,seval,f189];rfl).1
theorem e189 : fnV Tryz.prog lab 189=some ⟨c189,[.tmp 4],25⟩:=by kernel_rfl
def c190 : VCode:=(show {c // CH f190 []=c} by apply Subtype.mk;simp only [go_sem,seval,f190];rfl).1
theorem e190 : fnV Tryz.prog lab 190=some ⟨c190,[.tmp 4],20⟩:=by kernel_rfl
def c191 : VCode:=(show {c // CH f191 []=c} by apply Subtype.mk;simp only [go_sem,seval,f191];rfl).1
theorem e191 : fnV Tryz.prog lab 191=some ⟨c191,[.tmp 4],13⟩:=by kernel_rfl
def c192 : VCode:=(show {c // CH f192 []=c} by apply Subtype.mk;simp only [go_sem,seval,f192];rfl).1
theorem e192 : fnV Tryz.prog lab 192=some ⟨c192,[.tmp 2,.tmp 3],16⟩:=by kernel_rfl
def c193 : VCode:=(show {c // CH f193 []=c} by apply Subtype.mk;simp only [go_sem,seval,f193];rfl).1
theorem e193 : fnV Tryz.prog lab 193=some ⟨c193,[.tmp 2],4⟩:=by kernel_rfl
def c194 : VCode:=(show {c // CH f194 [[⟨0,false,[],false⟩,⟨1,false,[],false⟩,⟨2,false,[],false⟩,⟨3,false,[],false⟩,⟨4,false,[],false⟩,⟨5,false,[],false⟩,⟨6,false,[],false⟩,⟨7,false,[],false⟩,⟨8,false,[],false⟩,⟨9,false,[],false⟩,⟨10,false,[],false⟩,⟨11,false,[],false⟩,⟨12,false,[],false⟩,⟨13,true,[],false⟩,⟨14,false,[],false⟩,⟨15,false,[],false⟩,⟨16,false,[],false⟩]]=c} by apply Subtype.mk;simp only [go_sem,seval,f194];rfl).1
theorem e194 : fnV Tryz.prog lab 194=some ⟨c194,[],148⟩:=by kernel_rfl
def c195 : VCode:=(show {c // CH f195 []=c} by apply Subtype.mk;simp only [go_sem,seval,f195];rfl).1
theorem e195 : fnV Tryz.prog lab 195=some ⟨c195,[.tmp 2],8⟩:=by kernel_rfl
def c196 : VCode:=(show {c // CH f196 [[⟨0,false,[],false⟩,⟨1,false,[],false⟩,⟨2,false,[],false⟩,⟨3,false,[],false⟩,⟨4,false,[],false⟩,⟨5,false,[],false⟩,⟨8,false,[],false⟩,⟨9,false,[],false⟩,⟨10,false,[],false⟩,⟨11,false,[],true⟩,⟨12,false,[],false⟩,⟨13,false,[],true⟩,⟨6,true,[11,13],false⟩,⟨7,true,[11,13],false⟩,⟨14,true,[],false⟩,⟨15,true,[],false⟩,⟨16,false,[],false⟩,⟨17,false,[],false⟩],[⟨0,false,[],false⟩,⟨1,false,[],false⟩,⟨2,false,[],false⟩,⟨3,false,[],false⟩,⟨4,false,[],false⟩,⟨5,false,[],false⟩,⟨8,false,[],false⟩,⟨10,false,[],false⟩,⟨11,false,[],false⟩,⟨12,false,[],false⟩,⟨13,false,[],false⟩,⟨14,false,[],true⟩,⟨15,false,[],false⟩,⟨16,false,[],false⟩,⟨17,false,[],true⟩,⟨6,true,[14,17],false⟩,⟨7,true,[14,17],false⟩,⟨9,true,[14,17],false⟩,⟨18,true,[],false⟩,⟨19,true,[],false⟩,⟨20,true,[],false⟩,⟨21,false,[],false⟩,⟨22,false,[],false⟩]]=c} by apply Subtype.mk;simp only [go_sem,seval,f196];rfl).1
theorem e196 : fnV Tryz.prog lab 196=some ⟨c196,[.tmp 4,.tmp 5],106⟩:=by kernel_rfl
def c199 : VCode:=(show {c // CH f199 []=c} by apply Subtype.mk;simp only [go_sem,seval,f199];rfl).1
theorem e199 : fnV Tryz.prog lab 199=some ⟨c199,[.tmp 4],11⟩:=by kernel_rfl
def c200 : VCode:=(show {c // CH f200 []=c} by apply Subtype.mk;simp only [go_sem,seval,f200];rfl).1
theorem e200 : fnV Tryz.prog lab 200=some ⟨c200,[.tmp 4],28⟩:=by kernel_rfl
def c201 : VCode:=(show {c // CH f201 []=c} by apply Subtype.mk;simp only [go_sem,seval,f201];rfl).1
theorem e201 : fnV Tryz.prog lab 201=some ⟨c201,[.tmp 2],13⟩:=by kernel_rfl
def c202 : VCode:=(show {c // CH f202 [[⟨0,false,[],false⟩,⟨1,false,[],false⟩,⟨2,false,[],false⟩,⟨3,false,[],false⟩,⟨4,false,[],false⟩,⟨5,false,[],false⟩,⟨6,false,[],false⟩,⟨7,false,[],false⟩,⟨8,false,[],false⟩,⟨9,false,[],false⟩,⟨10,false,[],false⟩,⟨11,false,[],false⟩,⟨12,false,[],false⟩,⟨13,false,[],false⟩,⟨14,false,[],false⟩,⟨15,false,[],false⟩,⟨16,false,[],false⟩,⟨17,false,[],false⟩,⟨18,false,[],false⟩]]=c} by apply Subtype.mk;simp only [go_sem,seval,f202];rfl).1
theorem e202 : fnV Tryz.prog lab 202=some ⟨c202,[.tmp 2],21⟩:=by kernel_rfl
def c203 : VCode:=(show {c // CH f203 []=c} by apply Subtype.mk;simp only [go_sem,seval,f203];rfl).1
theorem e203 : fnV Tryz.prog lab 203=some ⟨c203,[.tmp 2,.tmp 3],23⟩:=by kernel_rfl
def c204 : VCode:=(show {c // CH f204 []=c} by apply Subtype.mk;simp only [go_sem,seval,f204];rfl).1
theorem e204 : fnV Tryz.prog lab 204=some ⟨c204,[],29⟩:=by kernel_rfl
def c205 : VCode:=(show {c // CH f205 []=c} by apply Subtype.mk;simp only [go_sem,seval,f205];rfl).1
theorem e205 : fnV Tryz.prog lab 205=some ⟨c205,[.tmp 2],14⟩:=by kernel_rfl
end Go.V
namespace Go.V
open Go.Proofs Go.Proofs.Tryz
set_option maxRecDepth 100000
def c206 : VCode:=(show {c // CH f206 [[⟨0,false,[],false⟩,⟨1,false,[],false⟩,⟨2,false,[],false⟩,⟨3,false,[],false⟩,⟨4,false,[],false⟩,⟨5,false,[],false⟩,⟨6,false,[],false⟩,⟨7,false,[],false⟩,⟨8,false,[],false⟩,⟨9,false,[],false⟩,⟨10,false,[],false⟩,⟨11,false,[],false⟩,⟨12,false,[],false⟩,⟨13,false,[],false⟩,⟨14,true,[],false⟩,⟨15,false,[],false⟩,⟨16,false,[],false⟩],[⟨0,false,[],false⟩,⟨1,false,[],false⟩,⟨2,false,[],false⟩,⟨3,false,[],false⟩,⟨4,false,[],false⟩,⟨5,false,[],false⟩,⟨6,false,[],false⟩,⟨7,false,[],false⟩,⟨8,false,[],false⟩,⟨9,false,[],false⟩,⟨10,false,[],false⟩,⟨11,false,[],false⟩,⟨12,false,[],false⟩,⟨13,false,[],false⟩,⟨14,false,[],false⟩,⟨15,true,[],false⟩,⟨16,false,[],false⟩,⟨17,true,[],false⟩]]=c} by apply Subtype.mk;simp only [go_sem,seval,f206];rfl).1
theorem e206 : fnV Tryz.prog lab 206=some ⟨c206,[],53⟩:=by kernel_rfl
def c215 : VCode:=(show {c // CH f215 []=c} by apply Subtype.mk;simp only [go_sem,seval,f215];rfl).1
theorem e215 : fnV Tryz.prog lab 215=some ⟨c215,[.tmp 2],25⟩:=by kernel_rfl
def c217 : VCode:=(show {c // CH f217 []=c} by apply Subtype.mk;simp only [go_sem,seval,f217];rfl).1
theorem e217 : fnV Tryz.prog lab 217=some ⟨c217,[.tmp 4],17⟩:=by kernel_rfl
end Go.V
