/- Texts E5. -/
import Derived.Ground.SlsfProg
import Derived.LaidEql
import Derived.Laws.Cover1
import Derived.RowKitTokens
import Derived.Shelf.SlGeneric
import Derived.Shelf.SlSortCmp.WholeK
import Derived.Stop.Asserts
import Derived.WalkKit
import Derived.Test.YtgmhpemjlbgfcaaGreatDoorG17
set_option linter.unusedVariables false
set_option linter.unusedSimpArgs false
namespace Go.Proofs
open Go.Shelf Go.RowKit Go.Lib Go.Sort
def Tryz.Ad : Go.Shelf.Ren:=⟨fun | 6=>186 | 15=>227 | 14=>226 | 28=>252 | 29=>253 | 20=>244 | 21=>245 | 22=>246 | 23=>247 | 24=>248 | 25=>249 | 26=>250 | 27=>251 | 46=>259 | 47=>260 | 48=>261 | 49=>262 | 50=>263 | 57=>266 | n=>n,fun | 22=>225 | 24=>216 | 25=>277 | 3=>3 | 39=>251 | 0=>0 | 53=>221 | 55=>22 | 4=>4 | 46=>333 | 45=>332 | 50=>79 | 5=>5 | 9=>9 | 66=>343 | 70=>347 | 76=>350 | 77=>351 | n=>n,fun | n=>n⟩
theorem Tryz.KG : Go.Proofs.SlLaysF0.n6 Tryz.prog Tryz.Ad:={
 mixed:=by kernel_rfl,
 f6:=⟨Tryz.f186.name,by decide,Tryz.func186.trans (congrArg some (by kernel_rfl))⟩,
 f14:=⟨Tryz.f226.name,by decide,Tryz.func226.trans (congrArg some (by kernel_rfl))⟩,
 f15:=Tryz.func227.trans (congrArg some (by kernel_rfl)),
 f20:=⟨Tryz.f244.name,by decide,Tryz.func244.trans (congrArg some (by kernel_rfl))⟩,
 f21:=⟨Tryz.f245.name,by decide,Tryz.func245.trans (congrArg some (by kernel_rfl))⟩,
 f22:=⟨Tryz.f246.name,by decide,Tryz.func246.trans (congrArg some (by kernel_rfl))⟩,
 f23:=⟨Tryz.f247.name,by decide,Tryz.func247.trans (congrArg some (by kernel_rfl))⟩,
 f24:=⟨Tryz.f248.name,by decide,Tryz.func248.trans (congrArg some (by kernel_rfl))⟩,
 f25:=⟨Tryz.f249.name,by decide,Tryz.func249.trans (congrArg some (by kernel_rfl))⟩,
 f26:=⟨Tryz.f250.name,by decide,Tryz.func250.trans (congrArg some (by kernel_rfl))⟩,
 f27:=⟨Tryz.f251.name,by decide,Tryz.func251.trans (congrArg some (by kernel_rfl))⟩,
 f28:=Tryz.func252.trans (congrArg some (by kernel_rfl)),
 f29:=Tryz.func253.trans (congrArg some (by kernel_rfl)),
 f46:=⟨Tryz.f259.name,by decide,Tryz.func259.trans (congrArg some (by kernel_rfl))⟩,
 f47:=Tryz.func260.trans (congrArg some (by kernel_rfl)),
 f48:=Tryz.func261.trans (congrArg some (by kernel_rfl)),
 f49:=⟨Tryz.f262.name,by decide,Tryz.func262.trans (congrArg some (by kernel_rfl))⟩,
 f50:=⟨Tryz.f263.name,by decide,Tryz.func263.trans (congrArg some (by kernel_rfl))⟩,
 f57:=⟨Tryz.f266.name,by decide,Tryz.func266.trans (congrArg some (by kernel_rfl))⟩,
 t0:=Tryz.underlying0,
 a0:=Tryz.isAgg0,
 z0:=Tryz.sizeOf0,
 v0:=Tryz.zeroValue0,
 t3:=Tryz.underlying3,
 a3:=Tryz.isAgg3,
 z3:=Tryz.sizeOf3,
 v3:=Tryz.zeroValue3,
 t4:=Tryz.underlying4,
 a4:=Tryz.isAgg4,
 z4:=Tryz.sizeOf4,
 v4:=Tryz.zeroValue4,
 t5:=Tryz.underlying5,
 a5:=Tryz.isAgg5,
 z5:=Tryz.sizeOf5,
 v5:=Tryz.zeroValue5,
 t9:=Tryz.underlying9,
 a9:=Tryz.isAgg9,
 z9:=Tryz.sizeOf9,
 v9:=Tryz.zeroValue9,
 t22:=Tryz.underlying225,
 a22:=Tryz.isAgg225,
 z22:=Tryz.sizeOf225,
 v22:=Tryz.zeroValue225,
 t25:=Tryz.underlying277,
 a25:=Tryz.isAgg277,
 z25:=Tryz.sizeOf277,
 v25:=Tryz.zeroValue277,
 t39:=Tryz.underlying251,
 a39:=Tryz.isAgg251,
 z39:=Tryz.sizeOf251,
 v39:=Tryz.zeroValue251,
 t45:=Tryz.underlying332,
 a45:=Tryz.isAgg332,
 z45:=Tryz.sizeOf332,
 v45:=Tryz.zeroValue332,
 t46:=Tryz.underlying333,
 a46:=Tryz.isAgg333,
 z46:=Tryz.sizeOf333,
 v46:=Tryz.zeroValue333,
 t50:=Tryz.underlying79,
 a50:=Tryz.isAgg79,
 z50:=Tryz.sizeOf79,
 v50:=Tryz.zeroValue79,
 t53:=Tryz.underlying221,
 a53:=Tryz.isAgg221,
 z53:=Tryz.sizeOf221,
 v53:=Tryz.zeroValue221,
 t55:=Tryz.underlying22,
 a55:=Tryz.isAgg22,
 z55:=Tryz.sizeOf22,
 v55:=Tryz.zeroValue22,
 t66:=Tryz.underlying343,
 a66:=Tryz.isAgg343,
 z66:=Tryz.sizeOf343,
 v66:=Tryz.zeroValue343,
 t70:=Tryz.underlying347,
 a70:=Tryz.isAgg347,
 z70:=Tryz.sizeOf347,
 v70:=Tryz.zeroValue347,
 t76:=Tryz.underlying350,
 a76:=Tryz.isAgg350,
 z76:=Tryz.sizeOf350,
 v76:=Tryz.zeroValue350,
 t77:=Tryz.underlying351,
 a77:=Tryz.isAgg351,
 z77:=Tryz.sizeOf351,
 v77:=Tryz.zeroValue351 }
end Go.Proofs
namespace Go.V.Srt
open Go.Proofs Go.Shelf Go.RowKit Go.Lib Go.Sort
theorem order (x y : ByteArray) (W : World) : Calls Tryz.prog 176 #[.string x,.string y] W fun e w'=>e=.returned (.int .i64 (if Op.bytesLess x.toList y.toList=true then -1 else if (!(Op.bytesLess x.toList y.toList || x.toList == y.toList))=true then 1 else 0))∧w'=W:=by
 generalize h1 : Op.bytesLess x.toList y.toList=b1
 generalize h2 : (x.toList == y.toList)=b2
 go_enter Tryz.func176,Tryz.ntmps176
 go_wp2
 all_goals (go_ret;first | exact ⟨rfl,rfl⟩ | trace_state)
def LY (x y : ByteArray) : Int:=if Op.bytesLess x.toList y.toList=true then -1 else if (!(Op.bytesLess x.toList y.toList || x.toList == y.toList))=true then 1 else 0
set_option maxHeartbeats 1000000 in
theorem UR (x y : ByteArray) (a1 a2 a3 a4 a5 a6 a7 a8 a9 a10 a11 b1 b2 b3 b4 b5 b6 b7 b8 b9 b10 b11 : Value) (W : World) :
  Calls Tryz.prog 187 #[.agg #[.string x,a1,a2,a3,a4,a5,a6,a7,a8,a9,a10,a11],.agg #[.string y,b1,b2,b3,b4,b5,b6,b7,b8,b9,b10,b11]] W fun e w'=>e=.returned (.int .i64 (LY x y))∧∃ q os',w'=grow (W.drewN q) os':=by
 have hcon:=fun W'=>order x y W'
 unfold LY
 generalize (if Op.bytesLess x.toList y.toList=true then (-1 : Int) else if (!(Op.bytesLess x.toList y.toList || x.toList == y.toList))=true then 1 else 0)=r at hcon ⊢
 go_enter Tryz.func187,Tryz.ntmps187
 go_wp2_with (go_at_call 176;refine (hcon _).mono ?_;rintro e w' ⟨rfl,rfl⟩)
 go_ret
 exact ⟨rfl,0,_,by rw [alloc_eq_grow,alloc_eq_grow,grow_grow];rfl⟩
end Go.V.Srt
