/- Texts C2 C3 C4. -/
import Derived.Test.YthhjefemijhamaaGreatDoorG13
set_option linter.unusedVariables false
set_option linter.unusedSimpArgs false
namespace Go.V
open Go.Proofs Go.Proofs.Tryz
set_option maxRecDepth 100000
def c60 : aA:=(show {c // CH f60 [[⟨0,false,[],false⟩,⟨1,false,[],false⟩,⟨2,false,[],false⟩,⟨3,false,[],false⟩,⟨4,false,[],false⟩,⟨5,false,[],false⟩,⟨6,false,[],false⟩,⟨7,false,[],false⟩,⟨8,true,[],false⟩,⟨9,false,[],false⟩]]=c} by apply Subtype.mk;simp only [go_sem,seval,f60];rfl).1
theorem e60 : bZ Tryz.prog lab 60=some ⟨c60,[.tmp 2],54⟩:=by kernel_rfl
def c63 : aA:=(show {c // CH f63 []=c} by apply Subtype.mk;simp only [go_sem,seval,f63];rfl).1
theorem e63 : bZ Tryz.prog lab 63=some ⟨c63,[.tmp 2],82⟩:=by kernel_rfl
def c64 : aA:=(show {c // CH f64 []=c} by apply Subtype.mk;simp only [go_sem,seval,f64];rfl).1
theorem e64 : bZ Tryz.prog lab 64=some ⟨c64,[.cell 2 42],7⟩:=by kernel_rfl
def c65 : aA:=(show {c // CH f65 []=c} by apply Subtype.mk;simp only [go_sem,seval,f65];rfl).1
theorem e65 : bZ Tryz.prog lab 65=some ⟨c65,[.cell 2 42],6⟩:=by kernel_rfl
def c66 : aA:=(show {c // CH f66 [[⟨0,false,[],false⟩,⟨1,false,[],true⟩,⟨2,false,[],false⟩,⟨3,false,[],false⟩,⟨4,false,[],false⟩,⟨5,false,[],false⟩,⟨6,false,[],false⟩,⟨7,false,[],false⟩,⟨8,false,[],false⟩,⟨9,false,[],false⟩,⟨10,true,[1],false⟩,⟨11,true,[1],false⟩,⟨12,true,[],false⟩,⟨13,false,[],false⟩,⟨14,true,[],false⟩]]=c} by apply Subtype.mk;simp only [go_sem,seval,f66];rfl).1
theorem e66 : bZ Tryz.prog lab 66=some ⟨c66,[.cell 2 37],26⟩:=by kernel_rfl
def c67 : aA:=(show {c // CH f67 []=c} by apply Subtype.mk;simp only [go_sem,seval,f67];rfl).1
theorem e67 : bZ Tryz.prog lab 67=some ⟨c67,[.cell 2 40],5⟩:=by kernel_rfl
def c68 : aA:=(show {c // CH f68 []=c} by apply Subtype.mk;simp only [go_sem,seval,f68];rfl).1
theorem e68 : bZ Tryz.prog lab 68=some ⟨c68,[.cell 6 40],32⟩:=by kernel_rfl
def c69 : aA:=(show {c // CH f69 []=c} by apply Subtype.mk;simp only [go_sem,seval,f69];rfl).1
theorem e69 : bZ Tryz.prog lab 69=some ⟨c69,[.cell 4 42],9⟩:=by kernel_rfl
def c70 : aA:=(show {c // CH f70 [[⟨0,false,[],false⟩,⟨1,false,[],false⟩,⟨2,false,[],false⟩,⟨3,false,[],true⟩,⟨4,false,[],false⟩,⟨5,true,[3],false⟩,⟨6,false,[],false⟩]]=c} by apply Subtype.mk;simp only [go_sem,seval,f70];rfl).1
theorem e70 : bZ Tryz.prog lab 70=some ⟨c70,[.cell 2 34,.tmp 3],9⟩:=by kernel_rfl
def c71 : aA:=(show {c // CH f71 []=c} by apply Subtype.mk;simp only [go_sem,seval,f71];rfl).1
theorem e71 : bZ Tryz.prog lab 71=some ⟨c71,[.tmp 2],8⟩:=by kernel_rfl
def c72 : aA:=(show {c // CH f72 []=c} by apply Subtype.mk;simp only [go_sem,seval,f72];rfl).1
theorem e72 : bZ Tryz.prog lab 72=some ⟨c72,[.cell 4 42,.tmp 5],39⟩:=by kernel_rfl
def c73 : aA:=(show {c // CH f73 []=c} by apply Subtype.mk;simp only [go_sem,seval,f73];rfl).1
theorem e73 : bZ Tryz.prog lab 73=some ⟨c73,[.tmp 2],40⟩:=by kernel_rfl
def c74 : aA:=(show {c // CH f74 [[⟨0,false,[],false⟩,⟨1,false,[],false⟩,⟨2,false,[],false⟩,⟨3,false,[],false⟩,⟨4,false,[],false⟩,⟨5,false,[],false⟩,⟨6,false,[],false⟩,⟨7,false,[],false⟩]]=c} by apply Subtype.mk;simp only [go_sem,seval,f74];rfl).1
theorem e74 : bZ Tryz.prog lab 74=some ⟨c74,[.tmp 4],38⟩:=by kernel_rfl
def c75 : aA:=(show {c // CH f75 []=c} by apply Subtype.mk;simp only [go_sem,seval,f75];rfl).1
theorem e75 : bZ Tryz.prog lab 75=some ⟨c75,[.tmp 2],29⟩:=by kernel_rfl
def c76 : aA:=(show {c // CH f76 []=c} by apply Subtype.mk;simp only [go_sem,seval,f76];rfl).1
theorem e76 : bZ Tryz.prog lab 76=some ⟨c76,[.cell 2 34],10⟩:=by kernel_rfl
def c77 : aA:=(show {c // CH f77 []=c} by apply Subtype.mk;simp only [go_sem,seval,f77];rfl).1
theorem e77 : bZ Tryz.prog lab 77=some ⟨c77,[.tmp 2],9⟩:=by kernel_rfl
def c78 : aA:=(show {c // CH f78 []=c} by apply Subtype.mk;simp only [go_sem,seval,f78];rfl).1
theorem e78 : bZ Tryz.prog lab 78=some ⟨c78,[.cell 4 93,.tmp 5],31⟩:=by kernel_rfl
def c79 : aA:=(show {c // CH f79 []=c} by apply Subtype.mk;simp only [go_sem,seval,f79];rfl).1
theorem e79 : bZ Tryz.prog lab 79=some ⟨c79,[.tmp 4],25⟩:=by kernel_rfl
def c80 : aA:=(show {c // CH f80 []=c} by apply Subtype.mk;simp only [go_sem,seval,f80];rfl).1
theorem e80 : bZ Tryz.prog lab 80=some ⟨c80,[.tmp 2],9⟩:=by kernel_rfl
def c81 : aA:=(show {c // CH f81 []=c} by apply Subtype.mk;simp only [go_sem,seval,f81];rfl).1
theorem e81 : bZ Tryz.prog lab 81=some ⟨c81,[.tmp 2,.tmp 3],74⟩:=by kernel_rfl
def c82 : aA:=(show {c // CH f82 []=c} by apply Subtype.mk;simp only [go_sem,seval,f82];rfl).1
theorem e82 : bZ Tryz.prog lab 82=some ⟨c82,[.cell 4 93,.tmp 5],37⟩:=by kernel_rfl
def c83 : aA:=(show {c // CH f83 []=c} by apply Subtype.mk;simp only [go_sem,seval,f83];rfl).1
theorem e83 : bZ Tryz.prog lab 83=some ⟨c83,[.tmp 2],59⟩:=by kernel_rfl
def c84 : aA:=(show {c // CH f84 [[⟨0,false,[],true⟩,⟨1,false,[],false⟩,⟨2,false,[],false⟩,⟨3,false,[],false⟩,⟨4,true,[0],false⟩,⟨5,true,[],false⟩,⟨6,true,[],false⟩]]=c} by apply Subtype.mk;simp only [go_sem,seval,f84];rfl).1
theorem e84 : bZ Tryz.prog lab 84=some ⟨c84,[],18⟩:=by kernel_rfl
def c85 : aA:=(show {c // CH f85 []=c} by apply Subtype.mk;simp only [go_sem,seval,f85];rfl).1
theorem e85 : bZ Tryz.prog lab 85=some ⟨c85,[.tmp 2],17⟩:=by kernel_rfl
def c86 : aA:=(show {c // CH f86 []=c} by apply Subtype.mk;simp only [go_sem,seval,f86];rfl).1
theorem e86 : bZ Tryz.prog lab 86=some ⟨c86,[.tmp 2,.tmp 3,.tmp 4],104⟩:=by kernel_rfl
def c87 : aA:=(show {c // CH f87 []=c} by apply Subtype.mk;simp only [go_sem,seval,f87];rfl).1
theorem e87 : bZ Tryz.prog lab 87=some ⟨c87,[.tmp 2],9⟩:=by kernel_rfl
def c88 : aA:=(show {c // CH f88 []=c} by apply Subtype.mk;simp only [go_sem,seval,f88];rfl).1
theorem e88 : bZ Tryz.prog lab 88=some ⟨c88,[.cell 4 93,.tmp 5,.tmp 6],41⟩:=by kernel_rfl
def c89 : aA:=(show {c // CH f89 []=c} by apply Subtype.mk;simp only [go_sem,seval,f89];rfl).1
theorem e89 : bZ Tryz.prog lab 89=some ⟨c89,[.tmp 2],50⟩:=by kernel_rfl
def c90 : aA:=(show {c // CH f90 []=c} by apply Subtype.mk;simp only [go_sem,seval,f90];rfl).1
theorem e90 : bZ Tryz.prog lab 90=some ⟨c90,[.tmp 0],2⟩:=by kernel_rfl
def c91 : aA:=(show {c // CH f91 []=c} by apply Subtype.mk;simp only [go_sem,seval,f91];rfl).1
theorem e91 : bZ Tryz.prog lab 91=some ⟨c91,[.tmp 6],25⟩:=by kernel_rfl
def c92 : aA:=(show {c // CH f92 []=c} by apply Subtype.mk;simp only [go_sem,seval,f92];rfl).1
theorem e92 : bZ Tryz.prog lab 92=some ⟨c92,[.tmp 2],4⟩:=by kernel_rfl
def c93 : aA:=(show {c // CH f93 []=c} by apply Subtype.mk;simp only [go_sem,seval,f93];rfl).1
theorem e93 : bZ Tryz.prog lab 93=some ⟨c93,[.tmp 2],4⟩:=by kernel_rfl
def c94 : aA:=(show {c // CH f94 []=c} by apply Subtype.mk;simp only [go_sem,seval,f94];rfl).1
theorem e94 : bZ Tryz.prog lab 94=some ⟨c94,[.cell 2 93],12⟩:=by kernel_rfl
def c95 : aA:=(show {c // CH f95 []=c} by apply Subtype.mk;simp only [go_sem,seval,f95];rfl).1
theorem e95 : bZ Tryz.prog lab 95=some ⟨c95,[.cell 2 34,.tmp 3],48⟩:=by kernel_rfl
def c96 : aA:=(show {c // CH f96 []=c} by apply Subtype.mk;simp only [go_sem,seval,f96];rfl).1
theorem e96 : bZ Tryz.prog lab 96=some ⟨c96,[],9⟩:=by kernel_rfl
def c97 : aA:=(show {c // CH f97 []=c} by apply Subtype.mk;simp only [go_sem,seval,f97];rfl).1
theorem e97 : bZ Tryz.prog lab 97=some ⟨c97,[.cell 4 42],12⟩:=by kernel_rfl
def c98 : aA:=(show {c // CH f98 []=c} by apply Subtype.mk;simp only [go_sem,seval,f98];rfl).1
theorem e98 : bZ Tryz.prog lab 98=some ⟨c98,[.cell 4 42],12⟩:=by kernel_rfl
def c99 : aA:=(show {c // CH f99 []=c} by apply Subtype.mk;simp only [go_sem,seval,f99];rfl).1
theorem e99 : bZ Tryz.prog lab 99=some ⟨c99,[.cell 4 42],12⟩:=by kernel_rfl
def c100 : aA:=(show {c // CH f100 []=c} by apply Subtype.mk;simp only [go_sem,seval,f100];rfl).1
theorem e100 : bZ Tryz.prog lab 100=some ⟨c100,[.cell 4 42],10⟩:=by kernel_rfl
def c101 : aA:=(show {c // CH f101 []=c} by apply Subtype.mk;simp only [go_sem,seval,f101];rfl).1
theorem e101 : bZ Tryz.prog lab 101=some ⟨c101,[.cell 2 42,.tmp 3],13⟩:=by kernel_rfl
def c102 : aA:=(show {c // CH f102 [[⟨0,false,[],false⟩,⟨1,false,[],false⟩,⟨2,false,[],false⟩,⟨3,false,[],true⟩,⟨4,false,[],false⟩,⟨5,false,[],false⟩,⟨6,false,[],false⟩,⟨7,false,[],true⟩,⟨8,false,[],false⟩,⟨9,false,[],false⟩,⟨10,false,[],false⟩,⟨11,false,[],false⟩,⟨12,false,[],false⟩,⟨13,true,[3,7],false⟩,⟨14,true,[],false⟩,⟨15,false,[],false⟩,⟨16,false,[],false⟩]]=c} by apply Subtype.mk;simp only [go_sem,seval,f102];rfl).1
theorem e102 : bZ Tryz.prog lab 102=some ⟨c102,[.cell 2 93],51⟩:=by kernel_rfl
def c103 : aA:=(show {c // CH f103 []=c} by apply Subtype.mk;simp only [go_sem,seval,f103];rfl).1
theorem e103 : bZ Tryz.prog lab 103=some ⟨c103,[],19⟩:=by kernel_rfl
def c104 : aA:=(show {c // CH f104 []=c} by apply Subtype.mk;simp only [go_sem,seval,f104];rfl).1
theorem e104 : bZ Tryz.prog lab 104=some ⟨c104,[.cell 8 28],109⟩:=by kernel_rfl
def c105 : aA:=(show {c // CH f105 []=c} by apply Subtype.mk;simp only [go_sem,seval,f105];rfl).1
theorem e105 : bZ Tryz.prog lab 105=some ⟨c105,[.tmp 2],10⟩:=by kernel_rfl
def c106 : aA:=(show {c // CH f106 []=c} by apply Subtype.mk;simp only [go_sem,seval,f106];rfl).1
theorem e106 : bZ Tryz.prog lab 106=some ⟨c106,[.tmp 2],16⟩:=by kernel_rfl
def c111 : aA:=(show {c // CH f111 []=c} by apply Subtype.mk;simp only [go_sem,seval,f111];rfl).1
theorem e111 : bZ Tryz.prog lab 111=some ⟨c111,[.tmp 2],49⟩:=by kernel_rfl
def c112 : aA:=(show {c // CH f112 []=c} by apply Subtype.mk;simp only [go_sem,seval,f112];rfl).1
theorem e112 : bZ Tryz.prog lab 112=some ⟨c112,[.tmp 2],38⟩:=by kernel_rfl
def c113 : aA:=(show {c // CH f113 []=c} by apply Subtype.mk;simp only [go_sem,seval,f113];rfl).1
theorem e113 : bZ Tryz.prog lab 113=some ⟨c113,[.cell 2 42],9⟩:=by kernel_rfl
def c114 : aA:=(show {c // CH f114 [[⟨0,false,[],false⟩,⟨1,false,[],false⟩,⟨2,false,[],false⟩,⟨3,false,[],false⟩,⟨4,false,[],false⟩,⟨5,false,[],false⟩,⟨6,false,[],false⟩,⟨7,false,[],false⟩,⟨8,false,[],false⟩,⟨9,false,[],false⟩],[⟨0,false,[],false⟩,⟨1,false,[],false⟩,⟨2,false,[],false⟩,⟨3,false,[],false⟩,⟨4,false,[],false⟩,⟨5,false,[],false⟩,⟨6,false,[],false⟩,⟨7,false,[],false⟩,⟨8,false,[],false⟩,⟨9,false,[],false⟩]]=c} by apply Subtype.mk;simp only [go_sem,seval,f114];rfl).1
theorem e114 : bZ Tryz.prog lab 114=some ⟨c114,[.tmp 4],45⟩:=by kernel_rfl
def c115 : aA:=(show {c // CH f115 []=c} by apply Subtype.mk;simp only [go_sem,seval,f115];rfl).1
theorem e115 : bZ Tryz.prog lab 115=some ⟨c115,[.tmp 2],11⟩:=by kernel_rfl
def c116 : aA:=(show {c // CH f116 []=c} by apply Subtype.mk;simp only [go_sem,seval,f116];rfl).1
theorem e116 : bZ Tryz.prog lab 116=some ⟨c116,[.tmp 4],17⟩:=by kernel_rfl
def c117 : aA:=(show {c // CH f117 [[⟨0,false,[],false⟩,⟨1,false,[],false⟩,⟨2,false,[],false⟩,⟨3,false,[],false⟩,⟨4,false,[],false⟩,⟨5,false,[],false⟩,⟨6,true,[],false⟩,⟨7,false,[],false⟩,⟨8,false,[],false⟩,⟨9,false,[],false⟩,⟨10,false,[],false⟩,⟨11,false,[],false⟩],[⟨0,false,[],false⟩,⟨1,false,[],false⟩,⟨2,false,[],false⟩,⟨3,false,[],false⟩,⟨4,false,[],false⟩,⟨5,false,[],false⟩,⟨9,false,[],false⟩,⟨6,true,[],false⟩,⟨7,false,[],false⟩,⟨8,true,[],false⟩,⟨10,false,[],false⟩,⟨11,false,[],false⟩]]=c} by apply Subtype.mk;simp only [go_sem,seval,f117];rfl).1
theorem e117 : bZ Tryz.prog lab 117=some ⟨c117,[.tmp 8,.tmp 9],122⟩:=by kernel_rfl
def c118 : aA:=(show {c // CH f118 []=c} by apply Subtype.mk;simp only [go_sem,seval,f118];rfl).1
theorem e118 : bZ Tryz.prog lab 118=some ⟨c118,[],9⟩:=by kernel_rfl
def c119 : aA:=(show {c // CH f119 []=c} by apply Subtype.mk;simp only [go_sem,seval,f119];rfl).1
theorem e119 : bZ Tryz.prog lab 119=some ⟨c119,[.tmp 4],19⟩:=by kernel_rfl
def c120 : aA:=(show {c // CH f120 [[⟨0,false,[],false⟩,⟨1,false,[],false⟩,⟨3,false,[],false⟩,⟨4,false,[],true⟩,⟨2,true,[4],false⟩,⟨5,false,[],false⟩,⟨6,false,[],false⟩],[⟨0,false,[],false⟩,⟨1,false,[],false⟩,⟨2,false,[],false⟩,⟨3,false,[],true⟩,⟨4,false,[],false⟩,⟨5,false,[],false⟩,⟨6,false,[],false⟩,⟨7,false,[],false⟩,⟨8,false,[],false⟩,⟨9,false,[],false⟩,⟨10,false,[],false⟩,⟨11,true,[3],false⟩,⟨12,true,[],false⟩,⟨13,false,[],false⟩]]=c} by apply Subtype.mk;simp only [go_sem,seval,f120];rfl).1
theorem e120 : bZ Tryz.prog lab 120=some ⟨c120,[.cell 4 42,.tmp 5],78⟩:=by kernel_rfl
def c121 : aA:=(show {c // CH f121 []=c} by apply Subtype.mk;simp only [go_sem,seval,f121];rfl).1
theorem e121 : bZ Tryz.prog lab 121=some ⟨c121,[.cell 4 42,.tmp 5],61⟩:=by kernel_rfl
def c122 : aA:=(show {c // CH f122 []=c} by apply Subtype.mk;simp only [go_sem,seval,f122];rfl).1
theorem e122 : bZ Tryz.prog lab 122=some ⟨c122,[.tmp 2],10⟩:=by kernel_rfl
def c123 : aA:=(show {c // CH f123 [[⟨0,false,[],false⟩,⟨1,false,[],false⟩,⟨2,false,[],false⟩,⟨3,false,[],false⟩,⟨4,false,[],false⟩,⟨5,false,[],false⟩,⟨6,false,[],false⟩,⟨7,false,[],false⟩,⟨8,false,[],false⟩,⟨9,false,[],false⟩,⟨10,false,[],false⟩,⟨11,false,[],false⟩,⟨12,false,[],false⟩,⟨13,false,[],false⟩,⟨14,false,[],false⟩,⟨15,false,[],false⟩,⟨16,false,[],false⟩,⟨17,false,[],false⟩,⟨18,false,[],false⟩]]=c} by apply Subtype.mk;simp only [go_sem,seval,f123];rfl).1
theorem e123 : bZ Tryz.prog lab 123=some ⟨c123,[.tmp 4],28⟩:=by kernel_rfl
def c124 : aA:=(show {c // CH f124 []=c} by apply Subtype.mk;simp only [go_sem,seval,f124];rfl).1
theorem e124 : bZ Tryz.prog lab 124=some ⟨c124,[.tmp 2],26⟩:=by kernel_rfl
def c125 : aA:=(show {c // CH f125 []=c} by apply Subtype.mk;simp only [go_sem,seval,f125];rfl).1
theorem e125 : bZ Tryz.prog lab 125=some ⟨c125,[.tmp 2],25⟩:=by kernel_rfl
def c126 : aA:=(show {c // CH f126 []=c} by apply Subtype.mk;simp only [go_sem,seval,f126];rfl).1
theorem e126 : bZ Tryz.prog lab 126=some ⟨c126,[.tmp 2,.tmp 3,.tmp 4],93⟩:=by kernel_rfl
def c127 : aA:=(show {c // CH f127 []=c} by apply Subtype.mk;simp only [go_sem,seval,f127];rfl).1
theorem e127 : bZ Tryz.prog lab 127=some ⟨c127,[.tmp 4,.tmp 5],16⟩:=by kernel_rfl
def c128 : aA:=(show {c // CH f128 []=c} by apply Subtype.mk;simp only [go_sem,seval,f128];rfl).1
theorem e128 : bZ Tryz.prog lab 128=some ⟨c128,[.tmp 2],21⟩:=by kernel_rfl
def c129 : aA:=(show {c // CH f129 []=c} by apply Subtype.mk;simp only [go_sem,seval,f129];rfl).1
theorem e129 : bZ Tryz.prog lab 129=some ⟨c129,[.tmp 2,.tmp 3],16⟩:=by kernel_rfl
def c130 : aA:=(show {c // CH f130 []=c} by apply Subtype.mk;simp only [go_sem,seval,f130];rfl).1
theorem e130 : bZ Tryz.prog lab 130=some ⟨c130,[.tmp 4],37⟩:=by kernel_rfl
def c131 : aA:=(show {c // CH f131 []=c} by apply Subtype.mk;simp only [go_sem,seval,f131];rfl).1
theorem e131 : bZ Tryz.prog lab 131=some ⟨c131,[.tmp 2,.tmp 3],42⟩:=by kernel_rfl
def c132 : aA:=(show {c // CH f132 []=c} by apply Subtype.mk;simp only [go_sem,seval,f132];rfl).1
theorem e132 : bZ Tryz.prog lab 132=some ⟨c132,[],10⟩:=by kernel_rfl
def c133 : aA:=(show {c // CH f133 []=c} by apply Subtype.mk;simp only [go_sem,seval,f133];rfl).1
theorem e133 : bZ Tryz.prog lab 133=some ⟨c133,[.tmp 6],50⟩:=by kernel_rfl
def c134 : aA:=(show {c // CH f134 []=c} by apply Subtype.mk;simp only [go_sem,seval,f134];rfl).1
theorem e134 : bZ Tryz.prog lab 134=some ⟨c134,[],20⟩:=by kernel_rfl
def c135 : aA:=(show {c // CH f135 []=c} by apply Subtype.mk;simp only [go_sem,seval,f135];rfl).1
theorem e135 : bZ Tryz.prog lab 135=some ⟨c135,[.tmp 2],11⟩:=by kernel_rfl
def c136 : aA:=(show {c // CH f136 [[⟨0,false,[],false⟩,⟨1,false,[],false⟩,⟨2,false,[],false⟩,⟨3,false,[],true⟩,⟨4,false,[],false⟩,⟨5,false,[],false⟩,⟨6,false,[],false⟩,⟨7,false,[],true⟩,⟨8,false,[],false⟩,⟨9,false,[],false⟩,⟨10,false,[],false⟩,⟨11,false,[],false⟩,⟨12,true,[3,7],false⟩,⟨13,true,[],false⟩,⟨14,false,[],false⟩]]=c} by apply Subtype.mk;simp only [go_sem,seval,f136];rfl).1
theorem e136 : bZ Tryz.prog lab 136=some ⟨c136,[.cell 2 93],32⟩:=by kernel_rfl
def c137 : aA:=(show {c // CH f137 []=c} by apply Subtype.mk;simp only [go_sem,seval,f137];rfl).1
theorem e137 : bZ Tryz.prog lab 137=some ⟨c137,[.cell 4 42],15⟩:=by kernel_rfl
def c138 : aA:=(show {c // CH f138 []=c} by apply Subtype.mk;simp only [go_sem,seval,f138];rfl).1
theorem e138 : bZ Tryz.prog lab 138=some ⟨c138,[],17⟩:=by kernel_rfl
def c139 : aA:=(show {c // CH f139 [[⟨0,false,[],true⟩,⟨1,false,[],false⟩,⟨3,false,[],true⟩,⟨4,false,[],true⟩,⟨5,false,[],false⟩,⟨2,true,[0,3,4],false⟩,⟨6,true,[0],false⟩,⟨7,true,[],false⟩,⟨8,false,[],false⟩,⟨9,false,[],false⟩,⟨10,true,[],false⟩,⟨11,true,[],false⟩]]=c} by apply Subtype.mk;simp only [go_sem,seval,f139];rfl).1
theorem e139 : bZ Tryz.prog lab 139=some ⟨c139,[],14⟩:=by kernel_rfl
def c140 : aA:=(show {c // CH f140 []=c} by apply Subtype.mk;simp only [go_sem,seval,f140];rfl).1
theorem e140 : bZ Tryz.prog lab 140=some ⟨c140,[.cell 6 42,.tmp 7],34⟩:=by kernel_rfl
def c141 : aA:=(show {c // CH f141 [[⟨0,false,[],true⟩,⟨1,false,[],true⟩,⟨2,false,[],false⟩,⟨3,false,[],false⟩,⟨4,false,[],false⟩,⟨5,true,[0,1],false⟩,⟨6,true,[],false⟩,⟨7,false,[],false⟩,⟨8,false,[],false⟩,⟨9,true,[],false⟩,⟨10,true,[],false⟩]]=c} by apply Subtype.mk;simp only [go_sem,seval,f141];rfl).1
theorem e141 : bZ Tryz.prog lab 141=some ⟨c141,[],41⟩:=by kernel_rfl
def c142 : aA:=(show {c // CH f142 []=c} by apply Subtype.mk;simp only [go_sem,seval,f142];rfl).1
theorem e142 : bZ Tryz.prog lab 142=some ⟨c142,[],12⟩:=by kernel_rfl
end Go.V
namespace Go.V
open Go.Proofs Go.Proofs.Tryz
set_option maxRecDepth 100000
def c143 : aA:=(show {c // CH f143 [[⟨0,false,[],false⟩,⟨1,false,[],false⟩,⟨2,false,[],false⟩,⟨3,false,[],false⟩,⟨5,false,[],false⟩,⟨6,false,[],true⟩,⟨4,true,[6],false⟩,⟨7,false,[],false⟩,⟨8,false,[],false⟩,⟨9,false,[],false⟩,⟨10,false,[],false⟩,⟨12,false,[],false⟩,⟨13,false,[],true⟩,⟨11,true,[13],false⟩,⟨14,false,[],false⟩,⟨15,false,[],false⟩],[⟨0,false,[],false⟩,⟨1,false,[],true⟩,⟨2,false,[],false⟩,⟨3,true,[1],false⟩,⟨4,false,[],false⟩,⟨5,false,[],false⟩,⟨6,true,[],false⟩]]=c} by apply Subtype.mk;simp only [go_sem,seval,f143];rfl).1
theorem e143 : bZ Tryz.prog lab 143=some ⟨c143,[.cell 6 42,.tmp 7],86⟩:=by kernel_rfl
def c144 : aA:=(show {c // CH f144 []=c} by apply Subtype.mk;simp only [go_sem,seval,f144];rfl).1
theorem e144 : bZ Tryz.prog lab 144=some ⟨c144,[],27⟩:=by kernel_rfl
def c145 : aA:=(show {c // CH f145 []=c} by apply Subtype.mk;simp only [go_sem,seval,f145];rfl).1
theorem e145 : bZ Tryz.prog lab 145=some ⟨c145,[.cell 4 42,.tmp 5],36⟩:=by kernel_rfl
def c146 : aA:=(show {c // CH f146 []=c} by apply Subtype.mk;simp only [go_sem,seval,f146];rfl).1
theorem e146 : bZ Tryz.prog lab 146=some ⟨c146,[.tmp 4],23⟩:=by kernel_rfl
def c147 : aA:=(show {c // CH f147 []=c} by apply Subtype.mk;simp only [go_sem,seval,f147];rfl).1
theorem e147 : bZ Tryz.prog lab 147=some ⟨c147,[.tmp 4],18⟩:=by kernel_rfl
def c148 : aA:=(show {c // CH f148 []=c} by apply Subtype.mk;simp only [go_sem,seval,f148];rfl).1
theorem e148 : bZ Tryz.prog lab 148=some ⟨c148,[.tmp 4],17⟩:=by kernel_rfl
def c149 : aA:=(show {c // CH f149 []=c} by apply Subtype.mk;simp only [go_sem,seval,f149];rfl).1
theorem e149 : bZ Tryz.prog lab 149=some ⟨c149,[.tmp 4],14⟩:=by kernel_rfl
def c150 : aA:=(show {c // CH f150 []=c} by apply Subtype.mk;simp only [go_sem,seval,f150];rfl).1
theorem e150 : bZ Tryz.prog lab 150=some ⟨c150,[.cell 0 219],7⟩:=by kernel_rfl
def c154 : aA:=(show {c // CH f154 [[⟨0,false,[],false⟩,⟨1,false,[],true⟩,⟨2,false,[],false⟩,⟨3,true,[1],false⟩,⟨4,false,[],false⟩,⟨5,false,[],false⟩,⟨6,true,[],false⟩],[⟨0,false,[],false⟩,⟨1,false,[],true⟩,⟨2,false,[],false⟩,⟨3,true,[1],false⟩,⟨4,false,[],false⟩,⟨5,false,[],false⟩,⟨6,true,[],false⟩]]=c} by apply Subtype.mk;simp only [go_sem,seval,f154];rfl).1
theorem e154 : bZ Tryz.prog lab 154=some ⟨c154,[],17⟩:=by kernel_rfl
def c155 : aA:=(show {c // CH f155 [[⟨0,false,[],false⟩,⟨1,false,[],false⟩,⟨2,false,[],false⟩,⟨3,false,[],false⟩,⟨4,false,[],false⟩,⟨5,false,[],false⟩,⟨6,false,[],false⟩,⟨7,false,[],false⟩,⟨8,false,[],false⟩,⟨9,false,[],false⟩,⟨10,false,[],false⟩,⟨11,true,[],false⟩]]=c} by apply Subtype.mk;simp only [go_sem,seval,f155];rfl).1
theorem e155 : bZ Tryz.prog lab 155=some ⟨c155,[.tmp 2],44⟩:=by kernel_rfl
def c156 : aA:=(show {c // CH f156 [[⟨0,false,[],false⟩,⟨1,false,[],false⟩,⟨2,false,[],false⟩,⟨3,false,[],false⟩,⟨4,false,[],false⟩,⟨5,false,[],false⟩,⟨6,false,[],false⟩,⟨7,false,[],false⟩,⟨8,false,[],false⟩,⟨9,false,[],false⟩,⟨10,false,[],false⟩,⟨11,false,[],false⟩,⟨12,false,[],false⟩,⟨13,false,[],false⟩,⟨14,false,[],false⟩]]=c} by apply Subtype.mk;simp only [go_sem,seval,f156];rfl).1
theorem e156 : bZ Tryz.prog lab 156=some ⟨c156,[.tmp 4],55⟩:=by kernel_rfl
def c157 : aA:=(show {c // CH f157 [[⟨0,false,[],false⟩,⟨1,false,[],false⟩,⟨2,false,[],false⟩,⟨3,false,[],false⟩,⟨4,false,[],false⟩,⟨5,false,[],false⟩,⟨6,false,[],false⟩,⟨7,false,[],false⟩,⟨8,false,[],false⟩,⟨9,false,[],false⟩,⟨10,false,[],false⟩,⟨11,false,[],false⟩,⟨12,false,[],false⟩,⟨13,false,[],false⟩]]=c} by apply Subtype.mk;simp only [go_sem,seval,f157];rfl).1
theorem e157 : bZ Tryz.prog lab 157=some ⟨c157,[.tmp 4],44⟩:=by kernel_rfl
def c158 : aA:=(show {c // CH f158 [[⟨0,false,[],false⟩,⟨1,false,[],false⟩,⟨2,false,[],false⟩,⟨3,false,[],false⟩,⟨4,false,[],false⟩,⟨5,false,[],false⟩,⟨6,false,[],false⟩,⟨7,false,[],false⟩,⟨8,true,[],false⟩,⟨9,true,[],false⟩,⟨10,false,[],false⟩],[⟨0,false,[],false⟩,⟨1,false,[],false⟩,⟨2,false,[],false⟩,⟨3,false,[],false⟩,⟨4,false,[],false⟩,⟨5,false,[],false⟩,⟨6,false,[],false⟩,⟨7,false,[],false⟩,⟨8,true,[],false⟩,⟨9,true,[],false⟩,⟨10,false,[],false⟩]]=c} by apply Subtype.mk;simp only [go_sem,seval,f158];rfl).1
theorem e158 : bZ Tryz.prog lab 158=some ⟨c158,[.tmp 4],64⟩:=by kernel_rfl
def c159 : aA:=(show {c // CH f159 []=c} by apply Subtype.mk;simp only [go_sem,seval,f159];rfl).1
theorem e159 : bZ Tryz.prog lab 159=some ⟨c159,[.tmp 4,.tmp 5],11⟩:=by kernel_rfl
def c160 : aA:=(show {c // CH f160 []=c} by apply Subtype.mk;simp only [go_sem,seval,f160];rfl).1
theorem e160 : bZ Tryz.prog lab 160=some ⟨c160,[.tmp 2],8⟩:=by kernel_rfl
def c161 : aA:=(show {c // CH f161 [[⟨0,false,[],false⟩,⟨1,false,[],false⟩,⟨2,false,[],false⟩,⟨3,false,[],false⟩,⟨4,false,[],false⟩,⟨5,false,[],false⟩,⟨6,false,[],false⟩,⟨7,false,[],false⟩,⟨8,true,[],false⟩],[⟨0,false,[],false⟩,⟨1,false,[],false⟩,⟨2,false,[],false⟩,⟨3,false,[],false⟩,⟨4,false,[],false⟩,⟨5,false,[],false⟩,⟨6,false,[],false⟩,⟨7,false,[],false⟩,⟨8,true,[],false⟩]]=c} by apply Subtype.mk;simp only [go_sem,seval,f161];rfl).1
theorem e161 : bZ Tryz.prog lab 161=some ⟨c161,[.tmp 6],95⟩:=by kernel_rfl
def c162 : aA:=(show {c // CH f162 []=c} by apply Subtype.mk;simp only [go_sem,seval,f162];rfl).1
theorem e162 : bZ Tryz.prog lab 162=some ⟨c162,[.tmp 4],18⟩:=by kernel_rfl
def c163 : aA:=(show {c // CH f163 [[⟨0,false,[],false⟩,⟨1,false,[],false⟩,⟨2,false,[],false⟩,⟨3,false,[],false⟩,⟨5,false,[],false⟩,⟨6,false,[],false⟩,⟨7,false,[],true⟩,⟨4,true,[7],false⟩,⟨8,true,[],false⟩,⟨9,false,[],false⟩]]=c} by apply Subtype.mk;simp only [go_sem,seval,f163];rfl).1
theorem e163 : bZ Tryz.prog lab 163=some ⟨c163,[.tmp 4],14⟩:=by kernel_rfl
def c164 : aA:=(show {c // CH f164 [[⟨0,false,[],false⟩,⟨1,false,[],true⟩,⟨2,false,[],false⟩,⟨3,false,[],false⟩,⟨4,true,[1],false⟩,⟨5,false,[],false⟩,⟨6,false,[],false⟩,⟨7,true,[],false⟩,⟨8,false,[],false⟩]]=c} by apply Subtype.mk;simp only [go_sem,seval,f164];rfl).1
theorem e164 : bZ Tryz.prog lab 164=some ⟨c164,[.cell 4 243,.tmp 5],19⟩:=by kernel_rfl
def c165 : aA:=(show {c // CH f165 [[⟨0,false,[],false⟩,⟨1,false,[],false⟩,⟨2,false,[],false⟩,⟨4,false,[],false⟩,⟨6,false,[],true⟩,⟨7,false,[],false⟩,⟨8,false,[],true⟩,⟨10,false,[],false⟩,⟨3,true,[6,8],false⟩,⟨5,false,[],false⟩,⟨9,true,[],false⟩,⟨11,false,[],false⟩,⟨12,false,[],false⟩,⟨13,false,[],false⟩],[⟨0,false,[],true⟩,⟨1,false,[],false⟩,⟨2,false,[],false⟩,⟨3,false,[],false⟩,⟨4,false,[],false⟩,⟨5,false,[],false⟩,⟨6,false,[],false⟩,⟨7,true,[0],false⟩,⟨8,false,[],false⟩,⟨9,true,[],false⟩,⟨10,false,[],false⟩,⟨11,true,[],false⟩,⟨12,false,[],false⟩],[⟨0,false,[],false⟩,⟨1,false,[],false⟩,⟨2,false,[],false⟩,⟨3,false,[],false⟩,⟨5,false,[],false⟩,⟨6,false,[],true⟩,⟨7,false,[],false⟩,⟨4,true,[6],false⟩,⟨8,true,[],false⟩,⟨9,false,[],false⟩,⟨10,true,[],false⟩,⟨11,false,[],false⟩]]=c} by apply Subtype.mk;simp only [go_sem,seval,f165];rfl).1
theorem e165 : bZ Tryz.prog lab 165=some ⟨c165,[.tmp 8],65⟩:=by kernel_rfl
def c166 : aA:=(show {c // CH f166 [[⟨0,false,[],false⟩,⟨1,false,[],false⟩,⟨3,false,[],false⟩,⟨4,false,[],true⟩,⟨5,false,[],true⟩,⟨2,true,[4,5],false⟩,⟨6,false,[],false⟩,⟨7,false,[],false⟩],[⟨0,false,[],false⟩,⟨1,false,[],false⟩,⟨2,false,[],false⟩,⟨3,false,[],false⟩,⟨4,false,[],false⟩,⟨5,false,[],false⟩,⟨6,false,[],false⟩,⟨7,false,[],false⟩,⟨8,true,[],false⟩]]=c} by apply Subtype.mk;simp only [go_sem,seval,f166];rfl).1
theorem e166 : bZ Tryz.prog lab 166=some ⟨c166,[.cell 6 189],61⟩:=by kernel_rfl
def c167 : aA:=(show {c // CH f167 []=c} by apply Subtype.mk;simp only [go_sem,seval,f167];rfl).1
theorem e167 : bZ Tryz.prog lab 167=some ⟨c167,[.tmp 4],13⟩:=by kernel_rfl
def c168 : aA:=(show {c // CH f168 []=c} by apply Subtype.mk;simp only [go_sem,seval,f168];rfl).1
theorem e168 : bZ Tryz.prog lab 168=some ⟨c168,[.tmp 4,.tmp 5,.tmp 6],41⟩:=by kernel_rfl
def c169 : aA:=(show {c // CH f169 []=c} by apply Subtype.mk;simp only [go_sem,seval,f169];rfl).1
theorem e169 : bZ Tryz.prog lab 169=some ⟨c169,[.tmp 2,.tmp 3],20⟩:=by kernel_rfl
def c170 : aA:=(show {c // CH f170 []=c} by apply Subtype.mk;simp only [go_sem,seval,f170];rfl).1
theorem e170 : bZ Tryz.prog lab 170=some ⟨c170,[.tmp 2],45⟩:=by kernel_rfl
def c171 : aA:=(show {c // CH f171 []=c} by apply Subtype.mk;simp only [go_sem,seval,f171];rfl).1
theorem e171 : bZ Tryz.prog lab 171=some ⟨c171,[],41⟩:=by kernel_rfl
def c172 : aA:=(show {c // CH f172 []=c} by apply Subtype.mk;simp only [go_sem,seval,f172];rfl).1
theorem e172 : bZ Tryz.prog lab 172=some ⟨c172,[],7⟩:=by kernel_rfl
def c173 : aA:=(show {c // CH f173 []=c} by apply Subtype.mk;simp only [go_sem,seval,f173];rfl).1
theorem e173 : bZ Tryz.prog lab 173=some ⟨c173,[],14⟩:=by kernel_rfl
def c175 : aA:=(show {c // CH f175 []=c} by apply Subtype.mk;simp only [go_sem,seval,f175];rfl).1
theorem e175 : bZ Tryz.prog lab 175=some ⟨c175,[.tmp 4],13⟩:=by kernel_rfl
def c176 : aA:=(show {c // CH f176 []=c} by apply Subtype.mk;simp only [go_sem,seval,f176];rfl).1
theorem e176 : bZ Tryz.prog lab 176=some ⟨c176,[.tmp 4],22⟩:=by kernel_rfl
def c177 : aA:=(show {c // CH f177 []=c} by apply Subtype.mk;simp only [go_sem,seval,f177];rfl).1
theorem e177 : bZ Tryz.prog lab 177=some ⟨c177,[.cell 6 37,.tmp 7],34⟩:=by kernel_rfl
def c178 : aA:=(show {c // CH f178 []=c} by apply Subtype.mk;simp only [go_sem,seval,f178];rfl).1
theorem e178 : bZ Tryz.prog lab 178=some ⟨c178,[.cell 2 42,.tmp 3],13⟩:=by kernel_rfl
def c179 : aA:=(show {c // CH f179 [[⟨0,false,[],false⟩,⟨1,false,[],true⟩,⟨2,false,[],false⟩,⟨3,true,[1],false⟩,⟨4,false,[],false⟩,⟨5,false,[],false⟩,⟨6,true,[],false⟩],[⟨0,false,[],false⟩,⟨1,false,[],true⟩,⟨2,false,[],false⟩,⟨3,true,[1],false⟩,⟨4,false,[],false⟩,⟨5,false,[],false⟩,⟨6,true,[],false⟩]]=c} by apply Subtype.mk;simp only [go_sem,seval,f179];rfl).1
theorem e179 : bZ Tryz.prog lab 179=some ⟨c179,[.cell 4 42],18⟩:=by kernel_rfl
def c181 : aA:=(show {c // CH f181 [[⟨0,false,[],false⟩,⟨1,false,[],false⟩,⟨2,false,[],false⟩,⟨5,false,[],false⟩,⟨6,false,[],false⟩,⟨7,false,[],true⟩,⟨3,true,[7],false⟩,⟨4,true,[7],false⟩,⟨8,true,[],false⟩,⟨9,true,[],false⟩,⟨10,false,[],false⟩,⟨11,false,[],false⟩]]=c} by apply Subtype.mk;simp only [go_sem,seval,f181];rfl).1
theorem e181 : bZ Tryz.prog lab 181=some ⟨c181,[.tmp 2],24⟩:=by kernel_rfl
def c182 : aA:=(show {c // CH f182 []=c} by apply Subtype.mk;simp only [go_sem,seval,f182];rfl).1
theorem e182 : bZ Tryz.prog lab 182=some ⟨c182,[.tmp 4],17⟩:=by kernel_rfl
def c183 : aA:=(show {c // CH f183 [[⟨0,false,[],false⟩,⟨1,false,[],false⟩,⟨2,false,[],false⟩,⟨5,false,[],false⟩,⟨6,false,[],false⟩,⟨7,false,[],true⟩,⟨3,true,[7],false⟩,⟨4,true,[7],false⟩,⟨8,true,[],false⟩,⟨9,true,[],false⟩,⟨10,false,[],false⟩,⟨11,false,[],false⟩]]=c} by apply Subtype.mk;simp only [go_sem,seval,f183];rfl).1
theorem e183 : bZ Tryz.prog lab 183=some ⟨c183,[.tmp 2],24⟩:=by kernel_rfl
def c184 : aA:=(show {c // CH f184 []=c} by apply Subtype.mk;simp only [go_sem,seval,f184];rfl).1
theorem e184 : bZ Tryz.prog lab 184=some ⟨c184,[.tmp 6,.tmp 7],49⟩:=by kernel_rfl
def c185 : aA:=(show {c // CH f185 []=c} by apply Subtype.mk;simp only [go_sem,seval,f185];rfl).1
theorem e185 : bZ Tryz.prog lab 185=some ⟨c185,[.tmp 4],9⟩:=by kernel_rfl
def c188 : aA:=(show {c // CH f188 []=c} by apply Subtype.mk;simp only [go_sem,seval,f188];rfl).1
theorem e188 : bZ Tryz.prog lab 188=some ⟨c188,[.tmp 4],16⟩:=by kernel_rfl
def c189 : aA:=(show {c // CH f189 []=c} by apply Subtype.mk;simp only [go_sem,seval,f189];rfl).1
theorem e189 : bZ Tryz.prog lab 189=some ⟨c189,[.tmp 4],25⟩:=by kernel_rfl
def c190 : aA:=(show {c // CH f190 []=c} by apply Subtype.mk;simp only [go_sem,seval,f190];rfl).1
theorem e190 : bZ Tryz.prog lab 190=some ⟨c190,[.tmp 4],20⟩:=by kernel_rfl
def c191 : aA:=(show {c // CH f191 []=c} by apply Subtype.mk;simp only [go_sem,seval,f191];rfl).1
theorem e191 : bZ Tryz.prog lab 191=some ⟨c191,[.tmp 4],13⟩:=by kernel_rfl
def c192 : aA:=(show {c // CH f192 []=c} by apply Subtype.mk;simp only [go_sem,seval,f192];rfl).1
theorem e192 : bZ Tryz.prog lab 192=some ⟨c192,[.tmp 2,.tmp 3],16⟩:=by kernel_rfl
def c193 : aA:=(show {c // CH f193 []=c} by apply Subtype.mk;simp only [go_sem,seval,f193];rfl).1
theorem e193 : bZ Tryz.prog lab 193=some ⟨c193,[.tmp 2],4⟩:=by kernel_rfl
def c194 : aA:=(show {c // CH f194 [[⟨0,false,[],false⟩,⟨1,false,[],false⟩,⟨2,false,[],false⟩,⟨3,false,[],false⟩,⟨4,false,[],false⟩,⟨5,false,[],false⟩,⟨6,false,[],false⟩,⟨7,false,[],false⟩,⟨8,false,[],false⟩,⟨9,false,[],false⟩,⟨10,false,[],false⟩,⟨11,false,[],false⟩,⟨12,false,[],false⟩,⟨13,true,[],false⟩,⟨14,false,[],false⟩,⟨15,false,[],false⟩,⟨16,false,[],false⟩]]=c} by apply Subtype.mk;simp only [go_sem,seval,f194];rfl).1
theorem e194 : bZ Tryz.prog lab 194=some ⟨c194,[],148⟩:=by kernel_rfl
def c195 : aA:=(show {c // CH f195 []=c} by apply Subtype.mk;simp only [go_sem,seval,f195];rfl).1
theorem e195 : bZ Tryz.prog lab 195=some ⟨c195,[.tmp 2],8⟩:=by kernel_rfl
def c196 : aA:=(show {c // CH f196 [[⟨0,false,[],false⟩,⟨1,false,[],false⟩,⟨2,false,[],false⟩,⟨3,false,[],false⟩,⟨4,false,[],false⟩,⟨5,false,[],false⟩,⟨8,false,[],false⟩,⟨9,false,[],false⟩,⟨10,false,[],false⟩,⟨11,false,[],true⟩,⟨12,false,[],false⟩,⟨13,false,[],true⟩,⟨6,true,[11,13],false⟩,⟨7,true,[11,13],false⟩,⟨14,true,[],false⟩,⟨15,true,[],false⟩,⟨16,false,[],false⟩,⟨17,false,[],false⟩],[⟨0,false,[],false⟩,⟨1,false,[],false⟩,⟨2,false,[],false⟩,⟨3,false,[],false⟩,⟨4,false,[],false⟩,⟨5,false,[],false⟩,⟨8,false,[],false⟩,⟨10,false,[],false⟩,⟨11,false,[],false⟩,⟨12,false,[],false⟩,⟨13,false,[],false⟩,⟨14,false,[],true⟩,⟨15,false,[],false⟩,⟨16,false,[],false⟩,⟨17,false,[],true⟩,⟨6,true,[14,17],false⟩,⟨7,true,[14,17],false⟩,⟨9,true,[14,17],false⟩,⟨18,true,[],false⟩,⟨19,true,[],false⟩,⟨20,true,[],false⟩,⟨21,false,[],false⟩,⟨22,false,[],false⟩]]=c} by apply Subtype.mk;simp only [go_sem,seval,f196];rfl).1
theorem e196 : bZ Tryz.prog lab 196=some ⟨c196,[.tmp 4,.tmp 5],106⟩:=by kernel_rfl
def c199 : aA:=(show {c // CH f199 []=c} by apply Subtype.mk;simp only [go_sem,seval,f199];rfl).1
theorem e199 : bZ Tryz.prog lab 199=some ⟨c199,[.tmp 4],11⟩:=by kernel_rfl
def c200 : aA:=(show {c // CH f200 []=c} by apply Subtype.mk;simp only [go_sem,seval,f200];rfl).1
theorem e200 : bZ Tryz.prog lab 200=some ⟨c200,[.tmp 4],28⟩:=by kernel_rfl
def c201 : aA:=(show {c // CH f201 []=c} by apply Subtype.mk;simp only [go_sem,seval,f201];rfl).1
theorem e201 : bZ Tryz.prog lab 201=some ⟨c201,[.tmp 2],13⟩:=by kernel_rfl
def c202 : aA:=(show {c // CH f202 [[⟨0,false,[],false⟩,⟨1,false,[],false⟩,⟨2,false,[],false⟩,⟨3,false,[],false⟩,⟨4,false,[],false⟩,⟨5,false,[],false⟩,⟨6,false,[],false⟩,⟨7,false,[],false⟩,⟨8,false,[],false⟩,⟨9,false,[],false⟩,⟨10,false,[],false⟩,⟨11,false,[],false⟩,⟨12,false,[],false⟩,⟨13,false,[],false⟩,⟨14,false,[],false⟩,⟨15,false,[],false⟩,⟨16,false,[],false⟩,⟨17,false,[],false⟩,⟨18,false,[],false⟩]]=c} by apply Subtype.mk;simp only [go_sem,seval,f202];rfl).1
theorem e202 : bZ Tryz.prog lab 202=some ⟨c202,[.tmp 2],21⟩:=by kernel_rfl
def c203 : aA:=(show {c // CH f203 []=c} by apply Subtype.mk;simp only [go_sem,seval,f203];rfl).1
theorem e203 : bZ Tryz.prog lab 203=some ⟨c203,[.tmp 2,.tmp 3],23⟩:=by kernel_rfl
def c204 : aA:=(show {c // CH f204 []=c} by apply Subtype.mk;simp only [go_sem,seval,f204];rfl).1
theorem e204 : bZ Tryz.prog lab 204=some ⟨c204,[],29⟩:=by kernel_rfl
def c205 : aA:=(show {c // CH f205 []=c} by apply Subtype.mk;simp only [go_sem,seval,f205];rfl).1
theorem e205 : bZ Tryz.prog lab 205=some ⟨c205,[.tmp 2],14⟩:=by kernel_rfl
end Go.V
namespace Go.V
open Go.Proofs Go.Proofs.Tryz
set_option maxRecDepth 100000
def c206 : aA:=(show {c // CH f206 [[⟨0,false,[],false⟩,⟨1,false,[],false⟩,⟨2,false,[],false⟩,⟨3,false,[],false⟩,⟨4,false,[],false⟩,⟨5,false,[],false⟩,⟨6,false,[],false⟩,⟨7,false,[],false⟩,⟨8,false,[],false⟩,⟨9,false,[],false⟩,⟨10,false,[],false⟩,⟨11,false,[],false⟩,⟨12,false,[],false⟩,⟨13,false,[],false⟩,⟨14,true,[],false⟩,⟨15,false,[],false⟩,⟨16,false,[],false⟩],[⟨0,false,[],false⟩,⟨1,false,[],false⟩,⟨2,false,[],false⟩,⟨3,false,[],false⟩,⟨4,false,[],false⟩,⟨5,false,[],false⟩,⟨6,false,[],false⟩,⟨7,false,[],false⟩,⟨8,false,[],false⟩,⟨9,false,[],false⟩,⟨10,false,[],false⟩,⟨11,false,[],false⟩,⟨12,false,[],false⟩,⟨13,false,[],false⟩,⟨14,false,[],false⟩,⟨15,true,[],false⟩,⟨16,false,[],false⟩,⟨17,true,[],false⟩]]=c} by apply Subtype.mk;simp only [go_sem,seval,f206];rfl).1
theorem e206 : bZ Tryz.prog lab 206=some ⟨c206,[],53⟩:=by kernel_rfl
def c215 : aA:=(show {c // CH f215 []=c} by apply Subtype.mk;simp only [go_sem,seval,f215];rfl).1
theorem e215 : bZ Tryz.prog lab 215=some ⟨c215,[.tmp 2],25⟩:=by kernel_rfl
def c217 : aA:=(show {c // CH f217 []=c} by apply Subtype.mk;simp only [go_sem,seval,f217];rfl).1
theorem e217 : bZ Tryz.prog lab 217=some ⟨c217,[.tmp 4],17⟩:=by kernel_rfl
end Go.V
