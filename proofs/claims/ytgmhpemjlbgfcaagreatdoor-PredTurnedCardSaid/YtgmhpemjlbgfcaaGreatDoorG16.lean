/- Texts C2 C3. -/
import Derived.Test.YtgmhpemjlbgfcaaGreatDoorG15
set_option linter.unusedVariables false
set_option linter.unusedSimpArgs false
namespace Go.V
open Go.Proofs Go.Proofs.Tryz
set_option maxRecDepth 100000
def c83 : aA:=(show {c // CH f83 [[⟨0,false,[],false⟩,⟨2,false,[],true⟩,⟨1,true,[2],false⟩,⟨3,true,[],false⟩,⟨4,false,[],false⟩],[⟨0,false,[],false⟩,⟨3,false,[],true⟩,⟨1,true,[3],false⟩,⟨2,false,[],false⟩,⟨4,true,[],false⟩,⟨5,false,[],false⟩,⟨6,true,[],false⟩,⟨7,false,[],false⟩],[⟨0,false,[],false⟩,⟨2,false,[],true⟩,⟨1,true,[2],false⟩,⟨3,true,[],false⟩,⟨4,false,[],false⟩,⟨5,false,[],false⟩],[⟨0,false,[],false⟩,⟨2,false,[],false⟩,⟨3,false,[],false⟩,⟨4,false,[],false⟩,⟨5,false,[],true⟩,⟨6,false,[],false⟩,⟨7,false,[],false⟩,⟨8,false,[],false⟩,⟨9,false,[],true⟩,⟨1,true,[5,9],false⟩,⟨10,true,[],false⟩,⟨11,false,[],false⟩],[⟨0,false,[],false⟩,⟨1,false,[],false⟩,⟨2,false,[],false⟩,⟨3,false,[],false⟩,⟨4,false,[],false⟩,⟨5,false,[],false⟩,⟨7,false,[],true⟩,⟨8,false,[],false⟩,⟨9,false,[],false⟩,⟨10,false,[],false⟩,⟨11,false,[],false⟩,⟨12,false,[],true⟩,⟨6,true,[7,12],false⟩,⟨13,true,[],false⟩,⟨14,true,[],false⟩,⟨15,false,[],false⟩]]=c} by apply Subtype.mk;simp only [go_sem,seval,f83];rfl).1
theorem e83 : dU Tryz.prog lab 83=some ⟨c83,[.tmp 4],97⟩:=by kernel_rfl
def c84 : aA:=(show {c // CH f84 []=c} by apply Subtype.mk;simp only [go_sem,seval,f84];rfl).1
theorem e84 : dU Tryz.prog lab 84=some ⟨c84,[.cell 2 93],14⟩:=by kernel_rfl
def c85 : aA:=(show {c // CH f85 []=c} by apply Subtype.mk;simp only [go_sem,seval,f85];rfl).1
theorem e85 : dU Tryz.prog lab 85=some ⟨c85,[.tmp 2],11⟩:=by kernel_rfl
def c86 : aA:=(show {c // CH f86 []=c} by apply Subtype.mk;simp only [go_sem,seval,f86];rfl).1
theorem e86 : dU Tryz.prog lab 86=some ⟨c86,[.tmp 2],5⟩:=by kernel_rfl
def c87 : aA:=(show {c // CH f87 []=c} by apply Subtype.mk;simp only [go_sem,seval,f87];rfl).1
theorem e87 : dU Tryz.prog lab 87=some ⟨c87,[.tmp 4],19⟩:=by kernel_rfl
def c88 : aA:=(show {c // CH f88 [[⟨0,false,[],false⟩,⟨1,false,[],false⟩,⟨3,false,[],false⟩,⟨4,false,[],true⟩,⟨2,true,[4],false⟩,⟨5,false,[],false⟩,⟨6,false,[],false⟩],[⟨0,false,[],false⟩,⟨1,false,[],false⟩,⟨2,false,[],false⟩,⟨3,false,[],true⟩,⟨4,false,[],false⟩,⟨5,false,[],false⟩,⟨6,false,[],false⟩,⟨7,false,[],false⟩,⟨8,false,[],false⟩,⟨9,false,[],false⟩,⟨10,false,[],false⟩,⟨11,true,[3],false⟩,⟨12,true,[],false⟩,⟨13,false,[],false⟩]]=c} by apply Subtype.mk;simp only [go_sem,seval,f88];rfl).1
theorem e88 : dU Tryz.prog lab 88=some ⟨c88,[.cell 4 45,.tmp 5],78⟩:=by kernel_rfl
def c89 : aA:=(show {c // CH f89 []=c} by apply Subtype.mk;simp only [go_sem,seval,f89];rfl).1
theorem e89 : dU Tryz.prog lab 89=some ⟨c89,[.cell 4 45,.tmp 5],61⟩:=by kernel_rfl
def c92 : aA:=(show {c // CH f92 [[⟨0,false,[],false⟩,⟨1,false,[],false⟩,⟨2,false,[],false⟩,⟨3,false,[],false⟩,⟨4,false,[],false⟩,⟨5,false,[],false⟩,⟨6,false,[],false⟩,⟨7,false,[],false⟩]]=c} by apply Subtype.mk;simp only [go_sem,seval,f92];rfl).1
theorem e92 : dU Tryz.prog lab 92=some ⟨c92,[.tmp 4],38⟩:=by kernel_rfl
def c93 : aA:=(show {c // CH f93 []=c} by apply Subtype.mk;simp only [go_sem,seval,f93];rfl).1
theorem e93 : dU Tryz.prog lab 93=some ⟨c93,[.tmp 2],29⟩:=by kernel_rfl
def c94 : aA:=(show {c // CH f94 []=c} by apply Subtype.mk;simp only [go_sem,seval,f94];rfl).1
theorem e94 : dU Tryz.prog lab 94=some ⟨c94,[.cell 2 37],10⟩:=by kernel_rfl
def c95 : aA:=(show {c // CH f95 []=c} by apply Subtype.mk;simp only [go_sem,seval,f95];rfl).1
theorem e95 : dU Tryz.prog lab 95=some ⟨c95,[.tmp 2],4⟩:=by kernel_rfl
def c96 : aA:=(show {c // CH f96 []=c} by apply Subtype.mk;simp only [go_sem,seval,f96];rfl).1
theorem e96 : dU Tryz.prog lab 96=some ⟨c96,[.tmp 2],4⟩:=by kernel_rfl
def c98 : aA:=(show {c // CH f98 []=c} by apply Subtype.mk;simp only [go_sem,seval,f98];rfl).1
theorem e98 : dU Tryz.prog lab 98=some ⟨c98,[.tmp 2],49⟩:=by kernel_rfl
def c117 : aA:=(show {c // CH f117 [[⟨0,false,[],false⟩,⟨1,false,[],false⟩,⟨2,false,[],false⟩,⟨3,false,[],false⟩,⟨4,false,[],false⟩,⟨5,false,[],false⟩,⟨6,false,[],false⟩,⟨7,false,[],false⟩,⟨8,false,[],false⟩,⟨9,false,[],false⟩,⟨10,false,[],false⟩]]=c} by apply Subtype.mk;simp only [go_sem,seval,f117];rfl).1
theorem e117 : dU Tryz.prog lab 117=some ⟨c117,[.tmp 2],87⟩:=by kernel_rfl
def c118 : aA:=(show {c // CH f118 []=c} by apply Subtype.mk;simp only [go_sem,seval,f118];rfl).1
theorem e118 : dU Tryz.prog lab 118=some ⟨c118,[.tmp 2],44⟩:=by kernel_rfl
def c119 : aA:=(show {c // CH f119 []=c} by apply Subtype.mk;simp only [go_sem,seval,f119];rfl).1
theorem e119 : dU Tryz.prog lab 119=some ⟨c119,[.tmp 2],82⟩:=by kernel_rfl
def c120 : aA:=(show {c // CH f120 []=c} by apply Subtype.mk;simp only [go_sem,seval,f120];rfl).1
theorem e120 : dU Tryz.prog lab 120=some ⟨c120,[.cell 2 45],7⟩:=by kernel_rfl
def c121 : aA:=(show {c // CH f121 []=c} by apply Subtype.mk;simp only [go_sem,seval,f121];rfl).1
theorem e121 : dU Tryz.prog lab 121=some ⟨c121,[.cell 2 45],6⟩:=by kernel_rfl
def c122 : aA:=(show {c // CH f122 [[⟨0,false,[],false⟩,⟨1,false,[],true⟩,⟨2,false,[],false⟩,⟨3,false,[],false⟩,⟨4,false,[],false⟩,⟨5,false,[],false⟩,⟨6,false,[],false⟩,⟨7,false,[],false⟩,⟨8,false,[],false⟩,⟨9,false,[],false⟩,⟨10,true,[1],false⟩,⟨11,true,[1],false⟩,⟨12,true,[],false⟩,⟨13,false,[],false⟩,⟨14,true,[],false⟩]]=c} by apply Subtype.mk;simp only [go_sem,seval,f122];rfl).1
theorem e122 : dU Tryz.prog lab 122=some ⟨c122,[.cell 2 40],26⟩:=by kernel_rfl
def c123 : aA:=(show {c // CH f123 []=c} by apply Subtype.mk;simp only [go_sem,seval,f123];rfl).1
theorem e123 : dU Tryz.prog lab 123=some ⟨c123,[.cell 2 43],5⟩:=by kernel_rfl
def c124 : aA:=(show {c // CH f124 []=c} by apply Subtype.mk;simp only [go_sem,seval,f124];rfl).1
theorem e124 : dU Tryz.prog lab 124=some ⟨c124,[.cell 6 43],32⟩:=by kernel_rfl
def c125 : aA:=(show {c // CH f125 []=c} by apply Subtype.mk;simp only [go_sem,seval,f125];rfl).1
theorem e125 : dU Tryz.prog lab 125=some ⟨c125,[.tmp 2],6⟩:=by kernel_rfl
def c126 : aA:=(show {c // CH f126 []=c} by apply Subtype.mk;simp only [go_sem,seval,f126];rfl).1
theorem e126 : dU Tryz.prog lab 126=some ⟨c126,[.cell 4 45],9⟩:=by kernel_rfl
def c127 : aA:=(show {c // CH f127 []=c} by apply Subtype.mk;simp only [go_sem,seval,f127];rfl).1
theorem e127 : dU Tryz.prog lab 127=some ⟨c127,[.tmp 4],28⟩:=by kernel_rfl
def c128 : aA:=(show {c // CH f128 [[⟨0,false,[],false⟩,⟨1,false,[],false⟩,⟨2,false,[],false⟩,⟨3,false,[],true⟩,⟨4,false,[],false⟩,⟨5,true,[3],false⟩,⟨6,false,[],false⟩]]=c} by apply Subtype.mk;simp only [go_sem,seval,f128];rfl).1
theorem e128 : dU Tryz.prog lab 128=some ⟨c128,[.cell 2 37,.tmp 3],9⟩:=by kernel_rfl
def c129 : aA:=(show {c // CH f129 []=c} by apply Subtype.mk;simp only [go_sem,seval,f129];rfl).1
theorem e129 : dU Tryz.prog lab 129=some ⟨c129,[.tmp 2],8⟩:=by kernel_rfl
def c130 : aA:=(show {c // CH f130 []=c} by apply Subtype.mk;simp only [go_sem,seval,f130];rfl).1
theorem e130 : dU Tryz.prog lab 130=some ⟨c130,[.tmp 6],14⟩:=by kernel_rfl
def c131 : aA:=(show {c // CH f131 []=c} by apply Subtype.mk;simp only [go_sem,seval,f131];rfl).1
theorem e131 : dU Tryz.prog lab 131=some ⟨c131,[.cell 4 45],14⟩:=by kernel_rfl
def c132 : aA:=(show {c // CH f132 []=c} by apply Subtype.mk;simp only [go_sem,seval,f132];rfl).1
theorem e132 : dU Tryz.prog lab 132=some ⟨c132,[.cell 2 45,.tmp 3],13⟩:=by kernel_rfl
def c133 : aA:=(show {c // CH f133 [[⟨0,false,[],false⟩,⟨1,false,[],false⟩,⟨2,false,[],false⟩,⟨3,false,[],false⟩,⟨5,false,[],false⟩,⟨6,false,[],false⟩,⟨7,false,[],true⟩,⟨4,true,[7],false⟩,⟨8,true,[],false⟩,⟨9,false,[],false⟩]]=c} by apply Subtype.mk;simp only [go_sem,seval,f133];rfl).1
theorem e133 : dU Tryz.prog lab 133=some ⟨c133,[.tmp 4],14⟩:=by kernel_rfl
def c134 : aA:=(show {c // CH f134 [[⟨0,false,[],false⟩,⟨1,false,[],true⟩,⟨2,false,[],false⟩,⟨3,false,[],false⟩,⟨4,true,[1],false⟩,⟨5,false,[],false⟩,⟨6,false,[],false⟩,⟨7,true,[],false⟩,⟨8,false,[],false⟩]]=c} by apply Subtype.mk;simp only [go_sem,seval,f134];rfl).1
theorem e134 : dU Tryz.prog lab 134=some ⟨c134,[.cell 4 218,.tmp 5],19⟩:=by kernel_rfl
def c135 : aA:=(show {c // CH f135 []=c} by apply Subtype.mk;simp only [go_sem,seval,f135];rfl).1
theorem e135 : dU Tryz.prog lab 135=some ⟨c135,[.tmp 4],18⟩:=by kernel_rfl
def c136 : aA:=(show {c // CH f136 []=c} by apply Subtype.mk;simp only [go_sem,seval,f136];rfl).1
theorem e136 : dU Tryz.prog lab 136=some ⟨c136,[.tmp 4,.tmp 5],11⟩:=by kernel_rfl
def c137 : aA:=(show {c // CH f137 []=c} by apply Subtype.mk;simp only [go_sem,seval,f137];rfl).1
theorem e137 : dU Tryz.prog lab 137=some ⟨c137,[.tmp 4],13⟩:=by kernel_rfl
def c138 : aA:=(show {c // CH f138 [[⟨0,false,[],false⟩,⟨1,false,[],false⟩,⟨2,false,[],false⟩,⟨3,false,[],false⟩,⟨4,false,[],false⟩,⟨5,false,[],false⟩,⟨6,false,[],false⟩,⟨7,false,[],false⟩,⟨8,false,[],false⟩,⟨9,false,[],false⟩,⟨10,false,[],false⟩,⟨11,false,[],false⟩,⟨12,false,[],false⟩,⟨13,false,[],false⟩,⟨14,false,[],false⟩,⟨15,false,[],false⟩,⟨16,false,[],false⟩,⟨17,false,[],false⟩,⟨18,false,[],false⟩]]=c} by apply Subtype.mk;simp only [go_sem,seval,f138];rfl).1
theorem e138 : dU Tryz.prog lab 138=some ⟨c138,[.tmp 4],28⟩:=by kernel_rfl
def c139 : aA:=(show {c // CH f139 []=c} by apply Subtype.mk;simp only [go_sem,seval,f139];rfl).1
theorem e139 : dU Tryz.prog lab 139=some ⟨c139,[.tmp 2],26⟩:=by kernel_rfl
def c140 : aA:=(show {c // CH f140 []=c} by apply Subtype.mk;simp only [go_sem,seval,f140];rfl).1
theorem e140 : dU Tryz.prog lab 140=some ⟨c140,[.tmp 2],25⟩:=by kernel_rfl
def c141 : aA:=(show {c // CH f141 []=c} by apply Subtype.mk;simp only [go_sem,seval,f141];rfl).1
theorem e141 : dU Tryz.prog lab 141=some ⟨c141,[],10⟩:=by kernel_rfl
def c142 : aA:=(show {c // CH f142 []=c} by apply Subtype.mk;simp only [go_sem,seval,f142];rfl).1
theorem e142 : dU Tryz.prog lab 142=some ⟨c142,[.tmp 6],50⟩:=by kernel_rfl
def c143 : aA:=(show {c // CH f143 []=c} by apply Subtype.mk;simp only [go_sem,seval,f143];rfl).1
theorem e143 : dU Tryz.prog lab 143=some ⟨c143,[],20⟩:=by kernel_rfl
def c144 : aA:=(show {c // CH f144 []=c} by apply Subtype.mk;simp only [go_sem,seval,f144];rfl).1
theorem e144 : dU Tryz.prog lab 144=some ⟨c144,[.tmp 2],11⟩:=by kernel_rfl
def c169 : aA:=(show {c // CH f169 []=c} by apply Subtype.mk;simp only [go_sem,seval,f169];rfl).1
theorem e169 : dU Tryz.prog lab 169=some ⟨c169,[.cell 2 45],9⟩:=by kernel_rfl
def c170 : aA:=(show {c // CH f170 [[⟨0,false,[],false⟩,⟨1,false,[],false⟩,⟨2,false,[],false⟩,⟨3,false,[],false⟩,⟨4,false,[],false⟩,⟨5,false,[],false⟩,⟨6,false,[],false⟩,⟨7,false,[],false⟩,⟨8,false,[],false⟩,⟨9,false,[],false⟩],[⟨0,false,[],false⟩,⟨1,false,[],false⟩,⟨2,false,[],false⟩,⟨3,false,[],false⟩,⟨4,false,[],false⟩,⟨5,false,[],false⟩,⟨6,false,[],false⟩,⟨7,false,[],false⟩,⟨8,false,[],false⟩,⟨9,false,[],false⟩]]=c} by apply Subtype.mk;simp only [go_sem,seval,f170];rfl).1
theorem e170 : dU Tryz.prog lab 170=some ⟨c170,[.tmp 4],45⟩:=by kernel_rfl
def c171 : aA:=(show {c // CH f171 []=c} by apply Subtype.mk;simp only [go_sem,seval,f171];rfl).1
theorem e171 : dU Tryz.prog lab 171=some ⟨c171,[.tmp 2],11⟩:=by kernel_rfl
def c172 : aA:=(show {c // CH f172 []=c} by apply Subtype.mk;simp only [go_sem,seval,f172];rfl).1
theorem e172 : dU Tryz.prog lab 172=some ⟨c172,[.tmp 4],17⟩:=by kernel_rfl
def c173 : aA:=(show {c // CH f173 [[⟨0,false,[],false⟩,⟨1,false,[],false⟩,⟨2,false,[],false⟩,⟨3,false,[],false⟩,⟨4,false,[],false⟩,⟨5,false,[],false⟩,⟨6,true,[],false⟩,⟨7,false,[],false⟩,⟨8,false,[],false⟩,⟨9,false,[],false⟩,⟨10,false,[],false⟩,⟨11,false,[],false⟩],[⟨0,false,[],false⟩,⟨1,false,[],false⟩,⟨2,false,[],false⟩,⟨3,false,[],false⟩,⟨4,false,[],false⟩,⟨5,false,[],false⟩,⟨9,false,[],false⟩,⟨6,true,[],false⟩,⟨7,false,[],false⟩,⟨8,true,[],false⟩,⟨10,false,[],false⟩,⟨11,false,[],false⟩]]=c} by apply Subtype.mk;simp only [go_sem,seval,f173];rfl).1
theorem e173 : dU Tryz.prog lab 173=some ⟨c173,[.tmp 8,.tmp 9],122⟩:=by kernel_rfl
def c174 : aA:=(show {c // CH f174 [[⟨0,false,[],true⟩,⟨1,false,[],false⟩,⟨2,false,[],false⟩,⟨3,true,[0],false⟩,⟨4,true,[],false⟩,⟨5,false,[],false⟩]]=c} by apply Subtype.mk;simp only [go_sem,seval,f174];rfl).1
theorem e174 : dU Tryz.prog lab 174=some ⟨c174,[.tmp 4],26⟩:=by kernel_rfl
def c175 : aA:=(show {c // CH f175 []=c} by apply Subtype.mk;simp only [go_sem,seval,f175];rfl).1
theorem e175 : dU Tryz.prog lab 175=some ⟨c175,[.tmp 4],13⟩:=by kernel_rfl
def c176 : aA:=(show {c // CH f176 []=c} by apply Subtype.mk;simp only [go_sem,seval,f176];rfl).1
theorem e176 : dU Tryz.prog lab 176=some ⟨c176,[.tmp 4],13⟩:=by kernel_rfl
def c177 : aA:=(show {c // CH f177 []=c} by apply Subtype.mk;simp only [go_sem,seval,f177];rfl).1
theorem e177 : dU Tryz.prog lab 177=some ⟨c177,[],9⟩:=by kernel_rfl
def c178 : aA:=(show {c // CH f178 []=c} by apply Subtype.mk;simp only [go_sem,seval,f178];rfl).1
theorem e178 : dU Tryz.prog lab 178=some ⟨c178,[.tmp 4],16⟩:=by kernel_rfl
def c179 : aA:=(show {c // CH f179 []=c} by apply Subtype.mk;simp only [go_sem,seval,f179];rfl).1
theorem e179 : dU Tryz.prog lab 179=some ⟨c179,[.tmp 4],25⟩:=by kernel_rfl
def c180 : aA:=(show {c // CH f180 []=c} by apply Subtype.mk;simp only [go_sem,seval,f180];rfl).1
theorem e180 : dU Tryz.prog lab 180=some ⟨c180,[.tmp 4],20⟩:=by kernel_rfl
def c181 : aA:=(show {c // CH f181 []=c} by apply Subtype.mk;simp only [go_sem,seval,f181];rfl).1
theorem e181 : dU Tryz.prog lab 181=some ⟨c181,[.tmp 4],13⟩:=by kernel_rfl
def c182 : aA:=(show {c // CH f182 []=c} by apply Subtype.mk;simp only [go_sem,seval,f182];rfl).1
theorem e182 : dU Tryz.prog lab 182=some ⟨c182,[.tmp 6,.tmp 7],49⟩:=by kernel_rfl
def c183 : aA:=(show {c // CH f183 []=c} by apply Subtype.mk;simp only [go_sem,seval,f183];rfl).1
theorem e183 : dU Tryz.prog lab 183=some ⟨c183,[.tmp 4],9⟩:=by kernel_rfl
def c184 : aA:=(show {c // CH f184 []=c} by apply Subtype.mk;simp only [go_sem,seval,f184];rfl).1
theorem e184 : dU Tryz.prog lab 184=some ⟨c184,[],41⟩:=by kernel_rfl
def c185 : aA:=(show {c // CH f185 []=c} by apply Subtype.mk;simp only [go_sem,seval,f185];rfl).1
theorem e185 : dU Tryz.prog lab 185=some ⟨c185,[],7⟩:=by kernel_rfl
def c186 : aA:=(show {c // CH f186 []=c} by apply Subtype.mk;simp only [go_sem,seval,f186];rfl).1
theorem e186 : dU Tryz.prog lab 186=some ⟨c186,[],14⟩:=by kernel_rfl
end Go.V
namespace Go.V
open Go.Proofs Go.Proofs.Tryz
set_option maxRecDepth 100000
def c208 : aA:=(show {c // CH f208 [[⟨0,false,[],false⟩,⟨1,false,[],true⟩,⟨2,false,[],false⟩,⟨3,true,[1],false⟩,⟨4,false,[],false⟩,⟨5,false,[],false⟩,⟨6,true,[],false⟩],[⟨0,false,[],false⟩,⟨1,false,[],true⟩,⟨2,false,[],false⟩,⟨3,true,[1],false⟩,⟨4,false,[],false⟩,⟨5,false,[],false⟩,⟨6,true,[],false⟩]]=c} by apply Subtype.mk;simp only [go_sem,seval,f208];rfl).1
theorem e208 : dU Tryz.prog lab 208=some ⟨c208,[],17⟩:=by kernel_rfl
def c209 : aA:=(show {c // CH f209 []=c} by apply Subtype.mk;simp only [go_sem,seval,f209];rfl).1
theorem e209 : dU Tryz.prog lab 209=some ⟨c209,[.tmp 2],6⟩:=by kernel_rfl
def c210 : aA:=(show {c // CH f210 []=c} by apply Subtype.mk;simp only [go_sem,seval,f210];rfl).1
theorem e210 : dU Tryz.prog lab 210=some ⟨c210,[.tmp 2],6⟩:=by kernel_rfl
def c211 : aA:=(show {c // CH f211 [[⟨0,false,[],false⟩,⟨1,false,[],false⟩,⟨2,false,[],false⟩,⟨3,false,[],false⟩,⟨4,false,[],false⟩,⟨5,false,[],false⟩,⟨6,false,[],false⟩,⟨7,false,[],false⟩,⟨8,false,[],false⟩,⟨9,false,[],false⟩,⟨10,false,[],false⟩,⟨11,true,[],false⟩]]=c} by apply Subtype.mk;simp only [go_sem,seval,f211];rfl).1
theorem e211 : dU Tryz.prog lab 211=some ⟨c211,[.tmp 2],44⟩:=by kernel_rfl
def c212 : aA:=(show {c // CH f212 [[⟨0,false,[],false⟩,⟨1,false,[],false⟩,⟨2,false,[],false⟩,⟨3,false,[],false⟩,⟨4,false,[],false⟩,⟨5,false,[],false⟩,⟨6,false,[],false⟩,⟨7,false,[],false⟩,⟨8,false,[],false⟩,⟨9,false,[],false⟩,⟨10,false,[],false⟩,⟨11,false,[],false⟩,⟨12,false,[],false⟩,⟨13,false,[],false⟩,⟨14,false,[],false⟩]]=c} by apply Subtype.mk;simp only [go_sem,seval,f212];rfl).1
theorem e212 : dU Tryz.prog lab 212=some ⟨c212,[.tmp 4],55⟩:=by kernel_rfl
def c213 : aA:=(show {c // CH f213 [[⟨0,false,[],false⟩,⟨1,false,[],false⟩,⟨2,false,[],false⟩,⟨3,false,[],false⟩,⟨4,false,[],false⟩,⟨5,false,[],false⟩,⟨6,false,[],false⟩,⟨7,false,[],false⟩,⟨8,false,[],false⟩,⟨9,false,[],false⟩,⟨10,false,[],false⟩,⟨11,false,[],false⟩,⟨12,false,[],false⟩,⟨13,false,[],false⟩]]=c} by apply Subtype.mk;simp only [go_sem,seval,f213];rfl).1
theorem e213 : dU Tryz.prog lab 213=some ⟨c213,[.tmp 4],44⟩:=by kernel_rfl
def c214 : aA:=(show {c // CH f214 [[⟨0,false,[],false⟩,⟨1,false,[],false⟩,⟨2,false,[],false⟩,⟨3,false,[],false⟩,⟨4,false,[],false⟩,⟨5,false,[],false⟩,⟨6,false,[],false⟩,⟨7,false,[],false⟩,⟨8,true,[],false⟩,⟨9,true,[],false⟩,⟨10,false,[],false⟩],[⟨0,false,[],false⟩,⟨1,false,[],false⟩,⟨2,false,[],false⟩,⟨3,false,[],false⟩,⟨4,false,[],false⟩,⟨5,false,[],false⟩,⟨6,false,[],false⟩,⟨7,false,[],false⟩,⟨8,true,[],false⟩,⟨9,true,[],false⟩,⟨10,false,[],false⟩]]=c} by apply Subtype.mk;simp only [go_sem,seval,f214];rfl).1
theorem e214 : dU Tryz.prog lab 214=some ⟨c214,[.tmp 4],64⟩:=by kernel_rfl
def c215 : aA:=(show {c // CH f215 []=c} by apply Subtype.mk;simp only [go_sem,seval,f215];rfl).1
theorem e215 : dU Tryz.prog lab 215=some ⟨c215,[.tmp 2],8⟩:=by kernel_rfl
def c216 : aA:=(show {c // CH f216 [[⟨0,false,[],false⟩,⟨1,false,[],false⟩,⟨2,false,[],false⟩,⟨3,false,[],false⟩,⟨4,false,[],false⟩,⟨5,false,[],false⟩,⟨6,false,[],false⟩,⟨7,false,[],false⟩,⟨8,true,[],false⟩],[⟨0,false,[],false⟩,⟨1,false,[],false⟩,⟨2,false,[],false⟩,⟨3,false,[],false⟩,⟨4,false,[],false⟩,⟨5,false,[],false⟩,⟨6,false,[],false⟩,⟨7,false,[],false⟩,⟨8,true,[],false⟩]]=c} by apply Subtype.mk;simp only [go_sem,seval,f216];rfl).1
theorem e216 : dU Tryz.prog lab 216=some ⟨c216,[.tmp 6],95⟩:=by kernel_rfl
def c217 : aA:=(show {c // CH f217 [[⟨0,false,[],false⟩,⟨1,false,[],false⟩,⟨2,false,[],false⟩,⟨4,false,[],false⟩,⟨6,false,[],true⟩,⟨7,false,[],false⟩,⟨8,false,[],true⟩,⟨10,false,[],false⟩,⟨3,true,[6,8],false⟩,⟨5,false,[],false⟩,⟨9,true,[],false⟩,⟨11,false,[],false⟩,⟨12,false,[],false⟩,⟨13,false,[],false⟩],[⟨0,false,[],true⟩,⟨1,false,[],false⟩,⟨2,false,[],false⟩,⟨3,false,[],false⟩,⟨4,false,[],false⟩,⟨5,false,[],false⟩,⟨6,false,[],false⟩,⟨7,true,[0],false⟩,⟨8,false,[],false⟩,⟨9,true,[],false⟩,⟨10,false,[],false⟩,⟨11,true,[],false⟩,⟨12,false,[],false⟩],[⟨0,false,[],false⟩,⟨1,false,[],false⟩,⟨2,false,[],false⟩,⟨3,false,[],false⟩,⟨5,false,[],false⟩,⟨6,false,[],true⟩,⟨7,false,[],false⟩,⟨4,true,[6],false⟩,⟨8,true,[],false⟩,⟨9,false,[],false⟩,⟨10,true,[],false⟩,⟨11,false,[],false⟩]]=c} by apply Subtype.mk;simp only [go_sem,seval,f217];rfl).1
theorem e217 : dU Tryz.prog lab 217=some ⟨c217,[.tmp 8],65⟩:=by kernel_rfl
def c218 : aA:=(show {c // CH f218 [[⟨0,false,[],false⟩,⟨1,false,[],false⟩,⟨3,false,[],false⟩,⟨4,false,[],true⟩,⟨5,false,[],true⟩,⟨2,true,[4,5],false⟩,⟨6,false,[],false⟩,⟨7,false,[],false⟩],[⟨0,false,[],false⟩,⟨1,false,[],false⟩,⟨2,false,[],false⟩,⟨3,false,[],false⟩,⟨4,false,[],false⟩,⟨5,false,[],false⟩,⟨6,false,[],false⟩,⟨7,false,[],false⟩,⟨8,true,[],false⟩]]=c} by apply Subtype.mk;simp only [go_sem,seval,f218];rfl).1
theorem e218 : dU Tryz.prog lab 218=some ⟨c218,[.cell 6 224],61⟩:=by kernel_rfl
def c219 : aA:=(show {c // CH f219 []=c} by apply Subtype.mk;simp only [go_sem,seval,f219];rfl).1
theorem e219 : dU Tryz.prog lab 219=some ⟨c219,[.tmp 2],59⟩:=by kernel_rfl
def c220 : aA:=(show {c // CH f220 [[⟨0,false,[],true⟩,⟨1,false,[],false⟩,⟨2,false,[],false⟩,⟨3,false,[],false⟩,⟨4,true,[0],false⟩,⟨5,true,[],false⟩,⟨6,true,[],false⟩]]=c} by apply Subtype.mk;simp only [go_sem,seval,f220];rfl).1
theorem e220 : dU Tryz.prog lab 220=some ⟨c220,[],18⟩:=by kernel_rfl
def c221 : aA:=(show {c // CH f221 []=c} by apply Subtype.mk;simp only [go_sem,seval,f221];rfl).1
theorem e221 : dU Tryz.prog lab 221=some ⟨c221,[.tmp 4],11⟩:=by kernel_rfl
def c222 : aA:=(show {c // CH f222 []=c} by apply Subtype.mk;simp only [go_sem,seval,f222];rfl).1
theorem e222 : dU Tryz.prog lab 222=some ⟨c222,[.tmp 4],28⟩:=by kernel_rfl
def c223 : aA:=(show {c // CH f223 []=c} by apply Subtype.mk;simp only [go_sem,seval,f223];rfl).1
theorem e223 : dU Tryz.prog lab 223=some ⟨c223,[.tmp 2],13⟩:=by kernel_rfl
def c224 : aA:=(show {c // CH f224 [[⟨0,false,[],false⟩,⟨1,false,[],false⟩,⟨2,false,[],false⟩,⟨3,false,[],false⟩,⟨4,false,[],false⟩,⟨5,false,[],false⟩,⟨6,false,[],false⟩,⟨7,false,[],false⟩,⟨8,false,[],false⟩,⟨9,false,[],false⟩,⟨10,false,[],false⟩,⟨11,false,[],false⟩,⟨12,false,[],false⟩,⟨13,false,[],false⟩,⟨14,false,[],false⟩,⟨15,false,[],false⟩,⟨16,false,[],false⟩,⟨17,false,[],false⟩,⟨18,false,[],false⟩]]=c} by apply Subtype.mk;simp only [go_sem,seval,f224];rfl).1
theorem e224 : dU Tryz.prog lab 224=some ⟨c224,[.tmp 2],21⟩:=by kernel_rfl
def c225 : aA:=(show {c // CH f225 []=c} by apply Subtype.mk;simp only [go_sem,seval,f225];rfl).1
theorem e225 : dU Tryz.prog lab 225=some ⟨c225,[.tmp 2],4⟩:=by kernel_rfl
def c226 : aA:=(show {c // CH f226 [[⟨0,false,[],false⟩,⟨1,false,[],false⟩,⟨2,false,[],false⟩,⟨3,false,[],false⟩,⟨4,false,[],false⟩,⟨5,false,[],false⟩,⟨6,false,[],false⟩,⟨7,false,[],false⟩,⟨8,false,[],false⟩,⟨9,false,[],false⟩,⟨10,false,[],false⟩,⟨11,false,[],false⟩,⟨12,false,[],false⟩,⟨13,true,[],false⟩,⟨14,false,[],false⟩,⟨15,false,[],false⟩,⟨16,false,[],false⟩]]=c} by apply Subtype.mk;simp only [go_sem,seval,f226];rfl).1
theorem e226 : dU Tryz.prog lab 226=some ⟨c226,[],148⟩:=by kernel_rfl
def c227 : aA:=(show {c // CH f227 []=c} by apply Subtype.mk;simp only [go_sem,seval,f227];rfl).1
theorem e227 : dU Tryz.prog lab 227=some ⟨c227,[.tmp 2],8⟩:=by kernel_rfl
def c235 : aA:=(show {c // CH f235 [[⟨0,false,[],false⟩,⟨1,false,[],false⟩,⟨2,false,[],false⟩,⟨5,false,[],false⟩,⟨6,false,[],false⟩,⟨7,false,[],true⟩,⟨3,true,[7],false⟩,⟨4,true,[7],false⟩,⟨8,true,[],false⟩,⟨9,true,[],false⟩,⟨10,false,[],false⟩,⟨11,false,[],false⟩]]=c} by apply Subtype.mk;simp only [go_sem,seval,f235];rfl).1
theorem e235 : dU Tryz.prog lab 235=some ⟨c235,[.tmp 2],24⟩:=by kernel_rfl
def c236 : aA:=(show {c // CH f236 []=c} by apply Subtype.mk;simp only [go_sem,seval,f236];rfl).1
theorem e236 : dU Tryz.prog lab 236=some ⟨c236,[.tmp 4],17⟩:=by kernel_rfl
def c237 : aA:=(show {c // CH f237 [[⟨0,false,[],false⟩,⟨1,false,[],false⟩,⟨2,false,[],false⟩,⟨5,false,[],false⟩,⟨6,false,[],false⟩,⟨7,false,[],true⟩,⟨3,true,[7],false⟩,⟨4,true,[7],false⟩,⟨8,true,[],false⟩,⟨9,true,[],false⟩,⟨10,false,[],false⟩,⟨11,false,[],false⟩]]=c} by apply Subtype.mk;simp only [go_sem,seval,f237];rfl).1
theorem e237 : dU Tryz.prog lab 237=some ⟨c237,[.tmp 2],24⟩:=by kernel_rfl
def c240 : aA:=(show {c // CH f240 []=c} by apply Subtype.mk;simp only [go_sem,seval,f240];rfl).1
theorem e240 : dU Tryz.prog lab 240=some ⟨c240,[.tmp 2],21⟩:=by kernel_rfl
def c241 : aA:=(show {c // CH f241 []=c} by apply Subtype.mk;simp only [go_sem,seval,f241];rfl).1
theorem e241 : dU Tryz.prog lab 241=some ⟨c241,[.tmp 4],17⟩:=by kernel_rfl
def c242 : aA:=(show {c // CH f242 []=c} by apply Subtype.mk;simp only [go_sem,seval,f242];rfl).1
theorem e242 : dU Tryz.prog lab 242=some ⟨c242,[],29⟩:=by kernel_rfl
def c243 : aA:=(show {c // CH f243 []=c} by apply Subtype.mk;simp only [go_sem,seval,f243];rfl).1
theorem e243 : dU Tryz.prog lab 243=some ⟨c243,[.tmp 2],14⟩:=by kernel_rfl
def c244 : aA:=(show {c // CH f244 [[⟨0,false,[],false⟩,⟨1,false,[],false⟩,⟨2,false,[],false⟩,⟨3,false,[],false⟩,⟨4,false,[],false⟩,⟨5,false,[],false⟩,⟨6,false,[],false⟩,⟨7,false,[],false⟩,⟨8,false,[],false⟩,⟨9,false,[],false⟩,⟨10,false,[],false⟩,⟨11,false,[],false⟩,⟨12,false,[],false⟩,⟨13,false,[],false⟩,⟨14,true,[],false⟩,⟨15,false,[],false⟩,⟨16,false,[],false⟩],[⟨0,false,[],false⟩,⟨1,false,[],false⟩,⟨2,false,[],false⟩,⟨3,false,[],false⟩,⟨4,false,[],false⟩,⟨5,false,[],false⟩,⟨6,false,[],false⟩,⟨7,false,[],false⟩,⟨8,false,[],false⟩,⟨9,false,[],false⟩,⟨10,false,[],false⟩,⟨11,false,[],false⟩,⟨12,false,[],false⟩,⟨13,false,[],false⟩,⟨14,false,[],false⟩,⟨15,true,[],false⟩,⟨16,false,[],false⟩,⟨17,true,[],false⟩]]=c} by apply Subtype.mk;simp only [go_sem,seval,f244];rfl).1
theorem e244 : dU Tryz.prog lab 244=some ⟨c244,[],53⟩:=by kernel_rfl
def c253 : aA:=(show {c // CH f253 []=c} by apply Subtype.mk;simp only [go_sem,seval,f253];rfl).1
theorem e253 : dU Tryz.prog lab 253=some ⟨c253,[.tmp 2],25⟩:=by kernel_rfl
end Go.V
