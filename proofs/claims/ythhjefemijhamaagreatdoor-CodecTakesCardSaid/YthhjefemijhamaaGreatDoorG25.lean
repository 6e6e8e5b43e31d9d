/- Texts E5. -/
import Derived.Ground.SlsfProg
import Derived.LaidEql
import Derived.Laws.Cover1
import Derived.RowKitTokens
import Derived.Shelf.SlGeneric
import Derived.Shelf.SlSortCmp.WholeK
import Derived.Stop.Asserts
import Derived.WalkKit
import Derived.Test.YthhjefemijhamaaGreatDoorG15
set_option linter.unusedVariables false
set_option linter.unusedSimpArgs false
namespace Go.Proofs
open Go.Shelf Go.RowKit Go.Lib Go.Sort
def Tryz.DJ : Go.Shelf.Ren:=⟨fun | 6=>173 | 15=>195 | 14=>194 | 28=>214 | 29=>215 | 20=>206 | 21=>207 | 22=>208 | 23=>209 | 24=>210 | 25=>211 | 26=>212 | 27=>213 | 46=>218 | 47=>219 | 48=>220 | 49=>221 | 50=>222 | 57=>223 | n=>n,fun | 22=>190 | 24=>196 | 25=>255 | 3=>3 | 39=>167 | 0=>0 | 53=>186 | 55=>22 | 4=>4 | 46=>284 | 45=>283 | 50=>53 | 5=>5 | 9=>9 | 66=>292 | 70=>296 | 76=>298 | 77=>299 | n=>n,fun | n=>n⟩
theorem Tryz.Ox : Go.Proofs.SlLaysF0.n6 Tryz.prog Tryz.DJ:={
 mixed:=by kernel_rfl,
 f6:=⟨Tryz.f173.name,by decide,Tryz.func173.trans (congrArg some (by kernel_rfl))⟩,
 f14:=⟨Tryz.f194.name,by decide,Tryz.func194.trans (congrArg some (by kernel_rfl))⟩,
 f15:=Tryz.func195.trans (congrArg some (by kernel_rfl)),
 f20:=⟨Tryz.f206.name,by decide,Tryz.func206.trans (congrArg some (by kernel_rfl))⟩,
 f21:=⟨Tryz.f207.name,by decide,Tryz.func207.trans (congrArg some (by kernel_rfl))⟩,
 f22:=⟨Tryz.f208.name,by decide,Tryz.func208.trans (congrArg some (by kernel_rfl))⟩,
 f23:=⟨Tryz.f209.name,by decide,Tryz.func209.trans (congrArg some (by kernel_rfl))⟩,
 f24:=⟨Tryz.f210.name,by decide,Tryz.func210.trans (congrArg some (by kernel_rfl))⟩,
 f25:=⟨Tryz.f211.name,by decide,Tryz.func211.trans (congrArg some (by kernel_rfl))⟩,
 f26:=⟨Tryz.f212.name,by decide,Tryz.func212.trans (congrArg some (by kernel_rfl))⟩,
 f27:=⟨Tryz.f213.name,by decide,Tryz.func213.trans (congrArg some (by kernel_rfl))⟩,
 f28:=Tryz.func214.trans (congrArg some (by kernel_rfl)),
 f29:=Tryz.func215.trans (congrArg some (by kernel_rfl)),
 f46:=⟨Tryz.f218.name,by decide,Tryz.func218.trans (congrArg some (by kernel_rfl))⟩,
 f47:=Tryz.func219.trans (congrArg some (by kernel_rfl)),
 f48:=Tryz.func220.trans (congrArg some (by kernel_rfl)),
 f49:=⟨Tryz.f221.name,by decide,Tryz.func221.trans (congrArg some (by kernel_rfl))⟩,
 f50:=⟨Tryz.f222.name,by decide,Tryz.func222.trans (congrArg some (by kernel_rfl))⟩,
 f57:=⟨Tryz.f223.name,by decide,Tryz.func223.trans (congrArg some (by kernel_rfl))⟩,
 t0:=Tryz.underlying0,
 a0:=Tryz.isAgg0,
 z0:=Tryz.sizeOf0,
 v0:=Tryz.zeroValue0,
 t3:=Tryz.underlying3,
 a3:=Tryz.isAgg3,
 z3:=Tryz.sizeOf3,
 v3:=Tryz.zeroValue3,
 t4:=Tryz.underlying4,
 a4:=Tryz.isAgg4,
 z4:=Tryz.sizeOf4,
 v4:=Tryz.zeroValue4,
 t5:=Tryz.underlying5,
 a5:=Tryz.isAgg5,
 z5:=Tryz.sizeOf5,
 v5:=Tryz.zeroValue5,
 t9:=Tryz.underlying9,
 a9:=Tryz.isAgg9,
 z9:=Tryz.sizeOf9,
 v9:=Tryz.zeroValue9,
 t22:=Tryz.underlying190,
 a22:=Tryz.isAgg190,
 z22:=Tryz.sizeOf190,
 v22:=Tryz.zeroValue190,
 t25:=Tryz.underlying255,
 a25:=Tryz.isAgg255,
 z25:=Tryz.sizeOf255,
 v25:=Tryz.zeroValue255,
 t39:=Tryz.underlying167,
 a39:=Tryz.isAgg167,
 z39:=Tryz.sizeOf167,
 v39:=Tryz.zeroValue167,
 t45:=Tryz.underlying283,
 a45:=Tryz.isAgg283,
 z45:=Tryz.sizeOf283,
 v45:=Tryz.zeroValue283,
 t46:=Tryz.underlying284,
 a46:=Tryz.isAgg284,
 z46:=Tryz.sizeOf284,
 v46:=Tryz.zeroValue284,
 t50:=Tryz.underlying53,
 a50:=Tryz.isAgg53,
 z50:=Tryz.sizeOf53,
 v50:=Tryz.zeroValue53,
 t53:=Tryz.underlying186,
 a53:=Tryz.isAgg186,
 z53:=Tryz.sizeOf186,
 v53:=Tryz.zeroValue186,
 t55:=Tryz.underlying22,
 a55:=Tryz.isAgg22,
 z55:=Tryz.sizeOf22,
 v55:=Tryz.zeroValue22,
 t66:=Tryz.underlying292,
 a66:=Tryz.isAgg292,
 z66:=Tryz.sizeOf292,
 v66:=Tryz.zeroValue292,
 t70:=Tryz.underlying296,
 a70:=Tryz.isAgg296,
 z70:=Tryz.sizeOf296,
 v70:=Tryz.zeroValue296,
 t76:=Tryz.underlying298,
 a76:=Tryz.isAgg298,
 z76:=Tryz.sizeOf298,
 v76:=Tryz.zeroValue298,
 t77:=Tryz.underlying299,
 a77:=Tryz.isAgg299,
 z77:=Tryz.sizeOf299,
 v77:=Tryz.zeroValue299 }
end Go.Proofs
namespace Go.V.Srt
open Go.Proofs Go.Shelf Go.RowKit Go.Lib Go.Sort
theorem order (x y : ByteArray) (W : World) : Calls Tryz.prog 175 #[.string x,.string y] W fun e w'=>e=.returned (.int .i64 (if Op.bytesLess x.toList y.toList=true then -1 else if (!(Op.bytesLess x.toList y.toList || x.toList == y.toList))=true then 1 else 0))∧w'=W:=by
 generalize h1 : Op.bytesLess x.toList y.toList=b1
 generalize h2 : (x.toList == y.toList)=b2
 go_enter Tryz.func175,Tryz.ntmps175
 go_wp2
 all_goals (go_ret;first | exact ⟨rfl,rfl⟩ | trace_state)
def TA (x y : ByteArray) : Int:=if Op.bytesLess x.toList y.toList=true then -1 else if (!(Op.bytesLess x.toList y.toList || x.toList == y.toList))=true then 1 else 0
set_option maxHeartbeats 1000000 in
theorem Zp (x y : ByteArray) (a1 a2 a3 a4 a5 a6 a7 a8 a9 a10 a11 b1 b2 b3 b4 b5 b6 b7 b8 b9 b10 b11 : Value) (W : World) :
  Calls Tryz.prog 174 #[.agg #[.string x,a1,a2,a3,a4,a5,a6,a7,a8,a9,a10,a11],.agg #[.string y,b1,b2,b3,b4,b5,b6,b7,b8,b9,b10,b11]] W fun e w'=>e=.returned (.int .i64 (TA x y))∧∃ q os',w'=grow (W.drewN q) os':=by
 have hcon:=fun W'=>order x y W'
 unfold TA
 generalize (if Op.bytesLess x.toList y.toList=true then (-1 : Int) else if (!(Op.bytesLess x.toList y.toList || x.toList == y.toList))=true then 1 else 0)=r at hcon ⊢
 go_enter Tryz.func174,Tryz.ntmps174
 go_wp2_with (go_at_call 175;refine (hcon _).mono ?_;rintro e w' ⟨rfl,rfl⟩)
 go_ret
 exact ⟨rfl,0,_,by rw [alloc_eq_grow,alloc_eq_grow,grow_grow];rfl⟩
end Go.V.Srt
