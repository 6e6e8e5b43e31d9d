/- Texts K1 A0 C1. -/
import Derived.Test.YthhjefemijhamaaGreatDoorProg
import Derived.Test.YthhjefemijhamaaGreatDoorG11
set_option linter.unusedVariables false
set_option linter.unusedSimpArgs false
namespace Go.V
open Go.Proofs
set_option maxRecDepth 100000
@[go_sem] theorem tq : au Tryz.prog 118=true:=by kernel_rfl
@[go_sem] theorem uo : au Tryz.prog 154=true:=by kernel_rfl
@[go_sem] theorem DT : au Tryz.prog 172=true:=by kernel_rfl
@[go_sem] theorem xU : au Tryz.prog 55=true:=by kernel_rfl
@[go_sem] theorem wH : au Tryz.prog 84=true:=by kernel_rfl
@[go_sem] theorem Td : Tryz.prog.eqGuardType Tryz.prog.depth 34=false:=by kernel_rfl
@[go_sem] theorem RS : iM Tryz.prog 2=some false:=by kernel_rfl
@[go_sem] theorem Rf : iM Tryz.prog 3=some false:=by kernel_rfl
@[go_sem] theorem Qy : iM Tryz.prog 9=some false:=by kernel_rfl
@[go_sem] theorem Ep : zZ Tryz.prog 103=some 32:=by kernel_rfl
@[go_sem] theorem tY : zZ Tryz.prog 196=some 112:=by kernel_rfl
@[go_sem] theorem pR : zZ Tryz.prog 28=some 80:=by kernel_rfl
@[go_sem] theorem Vd : zZ Tryz.prog 3=some 8:=by kernel_rfl
@[go_sem] theorem Hq : zZ Tryz.prog 35=some 8:=by kernel_rfl
@[go_sem] theorem Jg : zZ Tryz.prog 42=some 96:=by kernel_rfl
@[go_sem] theorem oJ : zZ Tryz.prog 9=some 16:=by kernel_rfl
@[go_sem] theorem Qb : teq Tryz.prog 34=some [(3,0),(2,1),(9,2)]:=by kernel_rfl
@[go_sem] theorem jc : jh Tryz.prog 120=some 42:=by kernel_rfl
@[go_sem] theorem uD : jh Tryz.prog 128=some 103:=by kernel_rfl
@[go_sem] theorem je : jh Tryz.prog 143=some 35:=by kernel_rfl
@[go_sem] theorem fU : jh Tryz.prog 187=some 243:=by kernel_rfl
@[go_sem] theorem jA : jh Tryz.prog 190=some 196:=by kernel_rfl
@[go_sem] theorem dM : jh Tryz.prog 25=some 9:=by kernel_rfl
@[go_sem] theorem dY : jh Tryz.prog 26=some 28:=by kernel_rfl
@[go_sem] theorem Ir : jh Tryz.prog 96=some 3:=by kernel_rfl
@[go_sem] theorem Ea : fV Tryz.prog 103=some 3:=by kernel_rfl
@[go_sem] theorem uf : fV Tryz.prog 196=some 12:=by kernel_rfl
@[go_sem] theorem kG : fV Tryz.prog 243=some 13:=by kernel_rfl
@[go_sem] theorem lV : fV Tryz.prog 28=some 5:=by kernel_rfl
@[go_sem] theorem WA : fV Tryz.prog 3=some 1:=by kernel_rfl
@[go_sem] theorem G7 : fV Tryz.prog 35=some 1:=by kernel_rfl
@[go_sem] theorem Ho : fV Tryz.prog 42=some 11:=by kernel_rfl
@[go_sem] theorem lM : fV Tryz.prog 9=some 1:=by kernel_rfl
@[go_sem] theorem zq : bU Tryz.prog 103=some [.int .i64 0,.int .i64 0,.str []]:=by kernel_rfl
@[go_sem] theorem oh : bU Tryz.prog 196=some [.str [],.int .i64 0,.int .i64 0,.str [],.int .i64 0,.nilp,.int .u64 0,.int .i64 0,.int .i64 0,.nilp,.int .i64 0,.int .i64 0]:=by kernel_rfl
@[go_sem] theorem lF : bU Tryz.prog 28=some [.int .i64 0,.int .i64 0,.str [],.nils,.nils]:=by kernel_rfl
@[go_sem] theorem OB : bU Tryz.prog 3=some [.int .i64 0]:=by kernel_rfl
@[go_sem] theorem Ba : bU Tryz.prog 35=some [.nilp]:=by kernel_rfl
@[go_sem] theorem Bo : bU Tryz.prog 42=some [.int .i64 0,.int .i64 0,.str [],.int .i64 0,.nilp,.int .u64 0,.int .i64 0,.int .i64 0,.nilp,.int .i64 0,.int .i64 0]:=by kernel_rfl
@[go_sem] theorem kD : bU Tryz.prog 9=some [.str []]:=by kernel_rfl
@[go_sem] theorem O9 : Tryz.prog.underlying 181=some (.map 9 3):=by kernel_rfl
@[go_sem] theorem OM : Tryz.prog.underlying 190=some (.slice 196):=by kernel_rfl
@[go_sem] theorem VN : Tryz.prog.underlying 2=some (.int .i64):=by kernel_rfl
@[go_sem] theorem W9 : Tryz.prog.underlying 3=some (.int .i64):=by kernel_rfl
@[go_sem] theorem Tn : Tryz.prog.underlying 34=some (.struct #[{ name := "Kind",type:=3,offset:=0,embedded:=false,tag := "",pkgPath := "",byteOffset:=0 },{ name := "Int",type:=2,offset:=1,embedded:=false,tag := "",pkgPath := "",byteOffset:=8 },{ name := "Text",type:=9,offset:=2,embedded:=false,tag := "",pkgPath := "",byteOffset:=16 }]):=by kernel_rfl
@[go_sem] theorem WB : Tryz.prog.underlying 4=some .bool:=by kernel_rfl
@[go_sem] theorem Vp : Tryz.prog.underlying 9=some .string:=by kernel_rfl
@[go_sem] theorem Uh : au Tryz.prog 56=true:=by kernel_rfl
@[go_sem] theorem abJ : au Tryz.prog 100=true∧au Tryz.prog 101=true∧au Tryz.prog 102=true∧au Tryz.prog 103=true∧au Tryz.prog 104=true∧au Tryz.prog 105=true∧au Tryz.prog 106=true∧au Tryz.prog 111=true∧au Tryz.prog 112=true∧au Tryz.prog 113=true∧au Tryz.prog 114=true∧au Tryz.prog 115=true∧au Tryz.prog 116=true∧au Tryz.prog 117=true∧au Tryz.prog 119=true∧au Tryz.prog 120=true∧au Tryz.prog 121=true∧au Tryz.prog 122=true∧au Tryz.prog 123=true∧au Tryz.prog 124=true∧au Tryz.prog 125=true∧au Tryz.prog 126=true∧au Tryz.prog 127=true∧au Tryz.prog 128=true∧au Tryz.prog 129=true∧au Tryz.prog 13=true∧au Tryz.prog 130=true∧au Tryz.prog 131=true∧au Tryz.prog 132=true∧au Tryz.prog 133=true∧au Tryz.prog 134=true∧au Tryz.prog 135=true∧au Tryz.prog 136=true∧au Tryz.prog 137=true∧au Tryz.prog 138=true∧au Tryz.prog 139=true∧au Tryz.prog 14=true∧au Tryz.prog 140=true∧au Tryz.prog 141=true∧au Tryz.prog 142=true:=by and_intros<;>kernel_rfl
@[go_sem] theorem abR : au Tryz.prog 143=true∧au Tryz.prog 144=true∧au Tryz.prog 145=true∧au Tryz.prog 146=true∧au Tryz.prog 147=true∧au Tryz.prog 148=true∧au Tryz.prog 149=true∧au Tryz.prog 15=true∧au Tryz.prog 150=true∧au Tryz.prog 155=true∧au Tryz.prog 156=true∧au Tryz.prog 157=true∧au Tryz.prog 158=true∧au Tryz.prog 159=true∧au Tryz.prog 16=true∧au Tryz.prog 160=true∧au Tryz.prog 161=true∧au Tryz.prog 162=true∧au Tryz.prog 163=true∧au Tryz.prog 164=true∧au Tryz.prog 165=true∧au Tryz.prog 166=true∧au Tryz.prog 167=true∧au Tryz.prog 168=true∧au Tryz.prog 169=true∧au Tryz.prog 17=true∧au Tryz.prog 170=true∧au Tryz.prog 171=true∧au Tryz.prog 173=true∧au Tryz.prog 175=true∧au Tryz.prog 176=true∧au Tryz.prog 177=true∧au Tryz.prog 178=true∧au Tryz.prog 179=true∧au Tryz.prog 18=true∧au Tryz.prog 180=true∧au Tryz.prog 181=true∧au Tryz.prog 182=true∧au Tryz.prog 183=true∧au Tryz.prog 184=true:=by and_intros<;>kernel_rfl
@[go_sem] theorem ab1 : au Tryz.prog 187=true∧au Tryz.prog 188=true∧au Tryz.prog 189=true∧au Tryz.prog 19=true∧au Tryz.prog 190=true∧au Tryz.prog 191=true∧au Tryz.prog 192=true∧au Tryz.prog 193=true∧au Tryz.prog 194=true∧au Tryz.prog 195=true∧au Tryz.prog 196=true∧au Tryz.prog 199=true∧au Tryz.prog 20=true∧au Tryz.prog 200=true∧au Tryz.prog 201=true∧au Tryz.prog 202=true∧au Tryz.prog 203=true∧au Tryz.prog 204=true∧au Tryz.prog 205=true∧au Tryz.prog 206=true∧au Tryz.prog 207=true∧au Tryz.prog 208=true∧au Tryz.prog 209=true∧au Tryz.prog 21=true∧au Tryz.prog 210=true∧au Tryz.prog 211=true∧au Tryz.prog 212=true∧au Tryz.prog 213=true∧au Tryz.prog 214=true∧au Tryz.prog 215=true∧au Tryz.prog 217=true∧au Tryz.prog 22=true∧au Tryz.prog 23=true∧au Tryz.prog 24=true∧au Tryz.prog 25=true∧au Tryz.prog 26=true∧au Tryz.prog 27=true∧au Tryz.prog 28=true∧au Tryz.prog 29=true∧au Tryz.prog 30=true:=by and_intros<;>kernel_rfl
@[go_sem] theorem abQ : au Tryz.prog 31=true∧au Tryz.prog 32=true∧au Tryz.prog 33=true∧au Tryz.prog 34=true∧au Tryz.prog 35=true∧au Tryz.prog 38=true∧au Tryz.prog 41=true∧au Tryz.prog 42=true∧au Tryz.prog 43=true∧au Tryz.prog 44=true∧au Tryz.prog 45=true∧au Tryz.prog 46=true∧au Tryz.prog 47=true∧au Tryz.prog 48=true∧au Tryz.prog 49=true∧au Tryz.prog 50=true∧au Tryz.prog 51=true∧au Tryz.prog 52=true∧au Tryz.prog 53=true∧au Tryz.prog 54=true∧au Tryz.prog 57=true∧au Tryz.prog 58=true∧au Tryz.prog 59=true∧au Tryz.prog 60=true∧au Tryz.prog 61=true∧au Tryz.prog 63=true∧au Tryz.prog 64=true∧au Tryz.prog 65=true∧au Tryz.prog 66=true∧au Tryz.prog 67=true∧au Tryz.prog 68=true∧au Tryz.prog 69=true∧au Tryz.prog 70=true∧au Tryz.prog 71=true∧au Tryz.prog 72=true∧au Tryz.prog 73=true∧au Tryz.prog 74=true∧au Tryz.prog 75=true∧au Tryz.prog 76=true∧au Tryz.prog 77=true:=by and_intros<;>kernel_rfl
@[go_sem] theorem abI : au Tryz.prog 78=true∧au Tryz.prog 79=true∧au Tryz.prog 80=true∧au Tryz.prog 81=true∧au Tryz.prog 82=true∧au Tryz.prog 83=true∧au Tryz.prog 85=true∧au Tryz.prog 86=true∧au Tryz.prog 87=true∧au Tryz.prog 88=true∧au Tryz.prog 89=true∧au Tryz.prog 90=true∧au Tryz.prog 91=true∧au Tryz.prog 92=true∧au Tryz.prog 93=true∧au Tryz.prog 94=true∧au Tryz.prog 95=true∧au Tryz.prog 96=true∧au Tryz.prog 97=true∧au Tryz.prog 98=true∧au Tryz.prog 99=true∧iM Tryz.prog 103=some true∧iM Tryz.prog 104=some false∧iM Tryz.prog 105=some false∧iM Tryz.prog 120=some false∧iM Tryz.prog 128=some false∧iM Tryz.prog 135=some false∧iM Tryz.prog 143=some false∧iM Tryz.prog 186=some false∧iM Tryz.prog 187=some false∧iM Tryz.prog 189=some true∧iM Tryz.prog 190=some false∧iM Tryz.prog 196=some true∧iM Tryz.prog 202=some true∧iM Tryz.prog 218=some true∧iM Tryz.prog 219=some true∧iM Tryz.prog 22=some false∧iM Tryz.prog 24=some true∧iM Tryz.prog 243=some true∧iM Tryz.prog 25=some false:=by and_intros<;>kernel_rfl
@[go_sem] theorem abS : iM Tryz.prog 253=some false∧iM Tryz.prog 26=some false∧iM Tryz.prog 28=some true∧iM Tryz.prog 31=some false∧iM Tryz.prog 34=some true∧iM Tryz.prog 35=some false∧iM Tryz.prog 37=some true∧iM Tryz.prog 38=some false∧iM Tryz.prog 40=some true∧iM Tryz.prog 42=some true∧iM Tryz.prog 5=some false∧iM Tryz.prog 50=some false∧iM Tryz.prog 59=some false∧iM Tryz.prog 93=some true∧yu Tryz.prog 164=some (20,5)∧yu Tryz.prog 202=some (23,9)∧yu Tryz.prog 219=some (5,218)∧yu Tryz.prog 251=some (8,5)∧yu Tryz.prog 291=some (32,5)∧zZ Tryz.prog 243=some 120∧zZ Tryz.prog 5=some 1∧jg Tryz.prog 103=some true∧jg Tryz.prog 109=some true∧jg Tryz.prog 114=some true∧jg Tryz.prog 137=some true∧jg Tryz.prog 145=some true∧jg Tryz.prog 189=some true∧jg Tryz.prog 192=some true∧jg Tryz.prog 196=some true∧jg Tryz.prog 218=some true∧jg Tryz.prog 219=some true∧jg Tryz.prog 24=some true∧jg Tryz.prog 243=some true∧jg Tryz.prog 28=some true∧jg Tryz.prog 34=some true∧jg Tryz.prog 37=some true∧jg Tryz.prog 40=some true∧jg Tryz.prog 42=some true∧jg Tryz.prog 84=some true∧jg Tryz.prog 93=some true:=by and_intros<;>kernel_rfl
@[go_sem] theorem abZ : eY Tryz.prog 103 0=some 0∧eY Tryz.prog 103 1=some 1∧eY Tryz.prog 103 2=some 2∧eY Tryz.prog 107 0=some 0∧eY Tryz.prog 107 1=some 2∧eY Tryz.prog 107 2=some 3∧eY Tryz.prog 107 3=some 4∧eY Tryz.prog 114 0=some 0∧eY Tryz.prog 114 1=some 1∧eY Tryz.prog 114 2=some 2∧eY Tryz.prog 114 3=some 3∧eY Tryz.prog 114 4=some 4∧eY Tryz.prog 137 0=some 0∧eY Tryz.prog 137 1=some 1∧eY Tryz.prog 145 0=some 0∧eY Tryz.prog 145 1=some 1∧eY Tryz.prog 145 2=some 2∧eY Tryz.prog 145 3=some 3∧eY Tryz.prog 189 0=some 0∧eY Tryz.prog 189 1=some 1∧eY Tryz.prog 192 0=some 0∧eY Tryz.prog 192 1=some 2∧eY Tryz.prog 196 0=some 0∧eY Tryz.prog 196 1=some 1∧eY Tryz.prog 218 0=some 0∧eY Tryz.prog 218 1=some 1∧eY Tryz.prog 24 0=some 0∧eY Tryz.prog 24 1=some 1∧eY Tryz.prog 243 0=some 0∧eY Tryz.prog 243 1=some 12∧eY Tryz.prog 28 0=some 0∧eY Tryz.prog 28 1=some 1∧eY Tryz.prog 28 2=some 2∧eY Tryz.prog 28 3=some 3∧eY Tryz.prog 28 4=some 4∧eY Tryz.prog 34 0=some 0∧eY Tryz.prog 34 1=some 1∧eY Tryz.prog 34 2=some 2∧eY Tryz.prog 37 0=some 0∧eY Tryz.prog 40 0=some 0:=by and_intros<;>kernel_rfl
@[go_sem] theorem abK : eY Tryz.prog 40 1=some 2∧eY Tryz.prog 40 2=some 3∧eY Tryz.prog 42 0=some 0∧eY Tryz.prog 42 1=some 3∧eY Tryz.prog 42 2=some 4∧eY Tryz.prog 42 3=some 5∧eY Tryz.prog 42 4=some 9∧eY Tryz.prog 42 5=some 10∧eY Tryz.prog 84 0=some 0∧eY Tryz.prog 93 0=some 0∧eY Tryz.prog 93 1=some 1∧eY Tryz.prog 93 2=some 2∧eY Tryz.prog 93 3=some 3∧eY Tryz.prog 93 4=some 4∧MX Tryz.prog 93 1=some (3,1)∧Ap Tryz.prog 109=some false∧Ap Tryz.prog 118=some false∧Ap Tryz.prog 135=some false∧Ap Tryz.prog 142=some false∧Ap Tryz.prog 31=some false∧tint Tryz.prog 167=some IntKind.u64∧tint Tryz.prog 186=some IntKind.u32∧tint Tryz.prog 2=some IntKind.i64∧tint Tryz.prog 22=some IntKind.u64∧tint Tryz.prog 3=some IntKind.i64∧tint Tryz.prog 5=some IntKind.u8∧tint Tryz.prog 59=none∧tint Tryz.prog 9=none∧CZ Tryz.prog 181=some 3∧bG Tryz.prog 103 0=some (0,1)∧bG Tryz.prog 103 2=some (2,1)∧bG Tryz.prog 109 0=some (0,1)∧bG Tryz.prog 114 0=some (0,1)∧bG Tryz.prog 114 1=some (1,1)∧bG Tryz.prog 137 0=some (0,1)∧bG Tryz.prog 137 1=some (1,1)∧bG Tryz.prog 145 0=some (0,1)∧bG Tryz.prog 145 1=some (1,1)∧bG Tryz.prog 145 2=some (2,1)∧bG Tryz.prog 145 3=some (3,1):=by and_intros<;>kernel_rfl
@[go_sem] theorem abO : bG Tryz.prog 189 0=some (0,1)∧bG Tryz.prog 189 1=some (1,1)∧bG Tryz.prog 192 0=some (0,2)∧bG Tryz.prog 192 1=some (2,1)∧bG Tryz.prog 196 0=some (0,1)∧bG Tryz.prog 196 1=some (1,11)∧bG Tryz.prog 218 0=some (0,1)∧bG Tryz.prog 218 1=some (1,1)∧bG Tryz.prog 219 0=some (0,2)∧bG Tryz.prog 219 1=some (2,2)∧bG Tryz.prog 219 2=some (4,2)∧bG Tryz.prog 219 3=some (6,2)∧bG Tryz.prog 219 4=some (8,2)∧bG Tryz.prog 24 1=some (1,1)∧bG Tryz.prog 243 0=some (0,12)∧bG Tryz.prog 243 1=some (12,1)∧bG Tryz.prog 28 0=some (0,1)∧bG Tryz.prog 28 1=some (1,1)∧bG Tryz.prog 28 2=some (2,1)∧bG Tryz.prog 28 3=some (3,1)∧bG Tryz.prog 28 4=some (4,1)∧bG Tryz.prog 34 0=some (0,1)∧bG Tryz.prog 34 1=some (1,1)∧bG Tryz.prog 34 2=some (2,1)∧bG Tryz.prog 37 0=some (0,1)∧bG Tryz.prog 40 0=some (0,2)∧bG Tryz.prog 42 0=some (0,3)∧bG Tryz.prog 42 1=some (3,1)∧bG Tryz.prog 42 2=some (4,1)∧bG Tryz.prog 42 3=some (5,4)∧bG Tryz.prog 93 0=some (0,1)∧bG Tryz.prog 93 1=some (1,1)∧bG Tryz.prog 93 2=some (2,1)∧bG Tryz.prog 93 3=some (3,1)∧bG Tryz.prog 93 4=some (4,1)∧jh Tryz.prog 164=none∧jh Tryz.prog 167=none∧jh Tryz.prog 186=none∧jh Tryz.prog 2=none∧jh Tryz.prog 202=none:=by and_intros<;>kernel_rfl
@[go_sem] theorem abM : jh Tryz.prog 219=none∧jh Tryz.prog 22=none∧jh Tryz.prog 251=none∧jh Tryz.prog 291=none∧jh Tryz.prog 3=none∧jh Tryz.prog 5=none∧jh Tryz.prog 59=some 5∧jh Tryz.prog 9=none∧jE Tryz.prog 120=false∧jE Tryz.prog 128=false∧jE Tryz.prog 143=false∧jE Tryz.prog 167=false∧jE Tryz.prog 186=false∧jE Tryz.prog 187=false∧jE Tryz.prog 190=false∧jE Tryz.prog 2=false∧jE Tryz.prog 22=false∧jE Tryz.prog 25=false∧jE Tryz.prog 26=false∧jE Tryz.prog 3=false∧jE Tryz.prog 5=false∧jE Tryz.prog 59=false∧jE Tryz.prog 9=true∧jE Tryz.prog 96=false∧fV Tryz.prog 104=some 1∧fV Tryz.prog 105=some 1∧fV Tryz.prog 120=some 1∧fV Tryz.prog 128=some 1∧fV Tryz.prog 135=some 1∧fV Tryz.prog 143=some 1∧fV Tryz.prog 186=some 1∧fV Tryz.prog 187=some 1∧fV Tryz.prog 189=some 2∧fV Tryz.prog 190=some 1∧fV Tryz.prog 2=some 1∧fV Tryz.prog 202=some 23∧fV Tryz.prog 218=some 2∧fV Tryz.prog 219=some 10∧fV Tryz.prog 22=some 1∧fV Tryz.prog 24=some 2:=by and_intros<;>kernel_rfl
@[go_sem] theorem abA : fV Tryz.prog 25=some 1∧fV Tryz.prog 253=some 1∧fV Tryz.prog 26=some 1∧fV Tryz.prog 31=some 1∧fV Tryz.prog 34=some 3∧fV Tryz.prog 37=some 1∧fV Tryz.prog 38=some 1∧fV Tryz.prog 40=some 4∧fV Tryz.prog 5=some 1∧fV Tryz.prog 50=some 1∧fV Tryz.prog 59=some 1∧fV Tryz.prog 93=some 5∧bU Tryz.prog 109=some [.nili]∧bU Tryz.prog 114=some [.str [],.int .i64 0,.int .i64 0,.int .i64 0,.int .i64 0]∧bU Tryz.prog 128=some [.nils]∧bU Tryz.prog 135=some [.nilp]∧bU Tryz.prog 137=some [.int .i64 0,.nili]∧bU Tryz.prog 145=some [.int .i64 0,.int .i64 0,.nils,.nils]∧bU Tryz.prog 164=some [.int .u8 0,.int .u8 0,.int .u8 0,.int .u8 0,.int .u8 0,.int .u8 0,.int .u8 0,.int .u8 0,.int .u8 0,.int .u8 0,.int .u8 0,.int .u8 0,.int .u8 0,.int .u8 0,.int .u8 0,.int .u8 0,.int .u8 0,.int .u8 0,.int .u8 0,.int .u8 0]∧bU Tryz.prog 189=some [.int .u32 0,.nils]∧bU Tryz.prog 190=some [.nils]∧bU Tryz.prog 192=some [.int .u32 0,.nils,.nils]∧bU Tryz.prog 218=some [.int .u8 0,.int .u8 0]∧bU Tryz.prog 219=some [.int .u8 0,.int .u8 0,.int .u8 0,.int .u8 0,.int .u8 0,.int .u8 0,.int .u8 0,.int .u8 0,.int .u8 0,.int .u8 0]∧bU Tryz.prog 24=some [.int .u64 0,.int .i64 0]∧bU Tryz.prog 243=some [.str [],.int .i64 0,.int .i64 0,.str [],.int .i64 0,.nilp,.int .u64 0,.int .i64 0,.int .i64 0,.nilp,.int .i64 0,.int .i64 0,.nilp]∧bU Tryz.prog 251=some [.int .u8 0,.int .u8 0,.int .u8 0,.int .u8 0,.int .u8 0,.int .u8 0,.int .u8 0,.int .u8 0]∧bU Tryz.prog 31=some [.int .i64 0]∧bU Tryz.prog 34=some [.int .i64 0,.int .i64 0,.str []]∧bU Tryz.prog 37=some [.nilp]∧bU Tryz.prog 40=some [.int .u64 0,.int .i64 0,.int .i64 0,.nilp]∧bU Tryz.prog 5=some [.int .u8 0]∧bU Tryz.prog 84=some [.int .i64 0]∧bU Tryz.prog 93=some [.int .i64 0,.int .i64 0,.int .i64 0,.int .i64 0,.str []]∧FB Tryz.prog 3=some (.int .i64 0)∧Tryz.prog.underlying 120=some (.slice 42)∧Tryz.prog.underlying 128=some (.slice 103)∧Tryz.prog.underlying 135=some (.pointer 137)∧Tryz.prog.underlying 143=some (.slice 35)∧Tryz.prog.underlying 167=some (.int .u64):=by and_intros<;>kernel_rfl
@[go_sem] theorem abo : Tryz.prog.underlying 186=some (.int .u32)∧Tryz.prog.underlying 187=some (.slice 243)∧Tryz.prog.underlying 22=some (.int .u64)∧Tryz.prog.underlying 25=some (.slice 9)∧Tryz.prog.underlying 26=some (.slice 28)∧Tryz.prog.underlying 35=some (.pointer 145)∧Tryz.prog.underlying 38=some (.pointer 192)∧Tryz.prog.underlying 5=some (.int .u8)∧Tryz.prog.underlying 50=some (.interface #[("Error",57)])∧Tryz.prog.underlying 59=some (.slice 5)∧Tryz.prog.underlying 96=some (.slice 3):=by and_intros<;>kernel_rfl
end Go.V
namespace Go.V
open Go.Proofs
set_option maxRecDepth 100000
def lab (f : FuncId) : Bool:=[17,20,34,37,48,53,162,164].contains f
theorem mix : Tryz.prog.follows .mixedOrders=true:=by kernel_rfl
def aL {α : Type} (a : Array α) : List α:=a.toList
theorem Yv {α : Type} {l : List α} : aL l.toArray=l:=rfl
def oN : Option Nat→Nat
 | some n=>n
 | none=>0
def dA : List Oper→Nat→Nat
 | [],_=>0
 | o::_,0=>oN o.dst
 | _::r,n+1=>dA r n
def gT (os : List Oper) : Option (Nat × Bool)→Option (Nat × Bool)
 | none=>none
 | some (j,b)=>some (dA os j,b)
def mO (os : List Oper) : List Oper→List VO
 | []=>[]
 | o::r=>⟨o.dst,o.op,o.type,gT os o.guard⟩::mO os r
def dO (os : List Oper) (p : PL) : Nat→List Oper→DO
 | _,[]=>⟨0,none,.nilCheck (.tmp 0),0,none,false,[],false⟩
 | 0,o::_=>⟨p.ix,o.dst,o.op,o.type,gT os o.guard,p.eff,p.chk,p.save⟩
 | n+1,_::r=>dO os p n r
def pO (os : List Oper) : List PL→List DO
 | []=>[]
 | p::r=>dO os p p.ix os::pO os r
def cH (N : Nat) : Code→List (List PL)→aA × List (List PL)
 | .exit id,h=>(.exit id,h)
 | .goto l,h=>(.goto l,h)
 | .ret,h=>(.ret,h)
 | .seq a b,h=>(.seq (cH N a h).1 (cH N b (cH N a h).2).1,(cH N b (cH N a h).2).2)
 | .cond c a b,h=>(.cond c (cH N a h).1 (cH N b (cH N a h).2).1,(cH N b (cH N a h).2).2)
 | .block id b,h=>(.block id (cH N b h).1,(cH N b h).2)
 | .loop b,h=>(.loop (cH N b h).1,(cH N b h).2)
 | .scope b,h=>(.scope (cH N b h).1,(cH N b h).2)
 | .region _ ops false,h=>(.reg (mO (aL ops) (aL ops)),h)
 | .region _ ops true,p::h=>(.draw (pO (aL ops) p),h)
 | .rangeFunc g ps x y,h=>(.rangeF g (aL ps) N (cH N x h).1 (cH N y (cH N x h).2).1,(cH N y (cH N x h).2).2)
 | _,h=>(.skip,h)
def oC : Option Code→Code
 | some c=>c
 | none=>.skip
def CH (f : Func) (h : List (List PL)) : aA:=(cH f.ntmps (oC f.body) h).1
attribute [go_sem] Yv oN dA gT mO dO pO cH oC CH
end Go.V
namespace Go.V
open Go.Proofs Go.Proofs.Tryz
set_option maxRecDepth 100000
def c2 : aA:=(show {c // CH f2 []=c} by apply Subtype.mk;simp only [go_sem,seval,f2];rfl).1
theorem e2 : bZ Tryz.prog lab 2=some ⟨c2,[],1⟩:=by kernel_rfl
def c3 : aA:=(show {c // CH f3 [[⟨0,false,[],false⟩,⟨1,false,[],false⟩,⟨2,false,[],false⟩,⟨3,false,[],false⟩,⟨4,false,[],false⟩,⟨5,false,[],false⟩,⟨6,true,[],false⟩,⟨7,true,[],false⟩,⟨8,false,[],false⟩,⟨9,false,[],false⟩,⟨10,false,[],false⟩]]=c} by apply Subtype.mk;simp only [go_sem,seval,f3];rfl).1
theorem e3 : bZ Tryz.prog lab 3=some ⟨c3,[.tmp 4],36⟩:=by kernel_rfl
def c4 : aA:=(show {c // CH f4 [[⟨0,false,[],false⟩,⟨1,false,[],false⟩,⟨2,false,[],false⟩,⟨3,false,[],false⟩,⟨5,false,[],true⟩,⟨4,true,[5],false⟩,⟨6,true,[],false⟩,⟨7,false,[],false⟩,⟨8,false,[],false⟩,⟨9,false,[],false⟩,⟨10,false,[],false⟩,⟨11,true,[],false⟩,⟨12,false,[],false⟩,⟨13,false,[],false⟩,⟨14,false,[],false⟩,⟨16,false,[],false⟩,⟨17,false,[],false⟩,⟨18,false,[],false⟩,⟨15,true,[],false⟩,⟨19,false,[],false⟩,⟨20,false,[],false⟩,⟨21,false,[],false⟩]]=c} by apply Subtype.mk;simp only [go_sem,seval,f4];rfl).1
theorem e4 : bZ Tryz.prog lab 4=some ⟨c4,[.tmp 4],82⟩:=by kernel_rfl
def c5 : aA:=(show {c // CH f5 [[⟨0,false,[],false⟩,⟨1,false,[],false⟩,⟨2,false,[],false⟩,⟨3,false,[],false⟩,⟨5,false,[],false⟩,⟨4,true,[],false⟩,⟨6,false,[],false⟩,⟨7,false,[],false⟩,⟨8,false,[],false⟩,⟨9,false,[],false⟩,⟨10,false,[],false⟩,⟨11,false,[],false⟩,⟨12,false,[],false⟩,⟨13,false,[],false⟩,⟨14,false,[],false⟩,⟨15,false,[],false⟩]]=c} by apply Subtype.mk;simp only [go_sem,seval,f5];rfl).1
theorem e5 : bZ Tryz.prog lab 5=some ⟨c5,[.tmp 4],65⟩:=by kernel_rfl
def c6 : aA:=(show {c // CH f6 []=c} by apply Subtype.mk;simp only [go_sem,seval,f6];rfl).1
theorem e6 : bZ Tryz.prog lab 6=some ⟨c6,[.tmp 4],63⟩:=by kernel_rfl
def c7 : aA:=(show {c // CH f7 [[⟨0,false,[],false⟩,⟨1,false,[],false⟩,⟨2,false,[],false⟩,⟨3,false,[],false⟩,⟨4,false,[],false⟩,⟨5,false,[],false⟩,⟨7,false,[],true⟩,⟨6,true,[7],false⟩,⟨8,true,[],false⟩,⟨9,false,[],false⟩,⟨10,false,[],false⟩,⟨11,false,[],false⟩]]=c} by apply Subtype.mk;simp only [go_sem,seval,f7];rfl).1
theorem e7 : bZ Tryz.prog lab 7=some ⟨c7,[.tmp 8],59⟩:=by kernel_rfl
def c8 : aA:=(show {c // CH f8 [[⟨0,false,[],true⟩,⟨1,false,[],false⟩,⟨2,false,[],false⟩,⟨3,false,[],true⟩,⟨4,false,[],false⟩,⟨5,false,[],false⟩,⟨6,false,[],false⟩,⟨7,false,[],false⟩,⟨8,true,[0,3],false⟩,⟨9,true,[],false⟩,⟨10,false,[],false⟩]]=c} by apply Subtype.mk;simp only [go_sem,seval,f8];rfl).1
theorem e8 : bZ Tryz.prog lab 8=some ⟨c8,[.tmp 6],79⟩:=by kernel_rfl
def c9 : aA:=(show {c // CH f9 [[⟨0,false,[],false⟩,⟨2,false,[],true⟩,⟨1,true,[2],false⟩,⟨3,true,[],false⟩,⟨4,false,[],false⟩,⟨5,false,[],false⟩,⟨6,false,[],false⟩,⟨7,false,[],false⟩,⟨8,true,[],false⟩,⟨9,false,[],false⟩,⟨10,false,[],false⟩,⟨11,false,[],false⟩,⟨13,false,[],false⟩,⟨12,true,[],false⟩,⟨14,true,[],false⟩,⟨15,false,[],false⟩,⟨16,false,[],false⟩,⟨17,false,[],false⟩]]=c} by apply Subtype.mk;simp only [go_sem,seval,f9];rfl).1
theorem e9 : bZ Tryz.prog lab 9=some ⟨c9,[.tmp 4],47⟩:=by kernel_rfl
def c10 : aA:=(show {c // CH f10 [[⟨0,false,[],false⟩,⟨2,false,[],true⟩,⟨1,true,[2],false⟩,⟨3,true,[],false⟩,⟨4,false,[],false⟩,⟨5,false,[],false⟩,⟨6,false,[],false⟩,⟨7,false,[],false⟩,⟨8,false,[],false⟩,⟨9,false,[],false⟩,⟨10,false,[],false⟩,⟨11,false,[],false⟩,⟨12,false,[],false⟩,⟨13,true,[],false⟩,⟨14,false,[],false⟩,⟨15,false,[],false⟩]]=c} by apply Subtype.mk;simp only [go_sem,seval,f10];rfl).1
theorem e10 : bZ Tryz.prog lab 10=some ⟨c10,[.tmp 6],53⟩:=by kernel_rfl
def c13 : aA:=(show {c // CH f13 []=c} by apply Subtype.mk;simp only [go_sem,seval,f13];rfl).1
theorem e13 : bZ Tryz.prog lab 13=some ⟨c13,[.tmp 0],38⟩:=by kernel_rfl
def c16 : aA:=(show {c // CH f16 []=c} by apply Subtype.mk;simp only [go_sem,seval,f16];rfl).1
theorem e16 : bZ Tryz.prog lab 16=some ⟨c16,[.cell 4 42,.tmp 5],15⟩:=by kernel_rfl
def c17 : aA:=(show {c // CH f17 []=c} by apply Subtype.mk;simp only [go_sem,seval,f17];rfl).1
theorem e17 : bZ Tryz.prog lab 17=some ⟨c17,[.tmp 2],6⟩:=by kernel_rfl
def c18 : aA:=(show {c // CH f18 []=c} by apply Subtype.mk;simp only [go_sem,seval,f18];rfl).1
theorem e18 : bZ Tryz.prog lab 18=some ⟨c18,[.tmp 2],69⟩:=by kernel_rfl
def c19 : aA:=(show {c // CH f19 [[⟨0,false,[],false⟩,⟨1,false,[],false⟩,⟨2,false,[],false⟩,⟨3,false,[],false⟩,⟨4,false,[],false⟩,⟨5,false,[],false⟩,⟨6,false,[],false⟩,⟨7,false,[],false⟩,⟨8,true,[],false⟩,⟨9,false,[],false⟩,⟨10,false,[],false⟩,⟨11,false,[],false⟩,⟨12,false,[],false⟩,⟨13,false,[],false⟩],[⟨0,false,[],false⟩,⟨1,false,[],false⟩,⟨2,false,[],false⟩,⟨4,false,[],true⟩,⟨3,true,[4],false⟩,⟨5,true,[],false⟩,⟨6,false,[],false⟩,⟨7,false,[],false⟩,⟨8,false,[],false⟩,⟨9,false,[],false⟩,⟨10,false,[],false⟩]]=c} by apply Subtype.mk;simp only [go_sem,seval,f19];rfl).1
theorem e19 : bZ Tryz.prog lab 19=some ⟨c19,[.cell 2 28],62⟩:=by kernel_rfl
def c20 : aA:=(show {c // CH f20 []=c} by apply Subtype.mk;simp only [go_sem,seval,f20];rfl).1
theorem e20 : bZ Tryz.prog lab 20=some ⟨c20,[.cell 4 42,.tmp 5],44⟩:=by kernel_rfl
def c21 : aA:=(show {c // CH f21 []=c} by apply Subtype.mk;simp only [go_sem,seval,f21];rfl).1
theorem e21 : bZ Tryz.prog lab 21=some ⟨c21,[.tmp 2,.tmp 3],16⟩:=by kernel_rfl
def c22 : aA:=(show {c // CH f22 []=c} by apply Subtype.mk;simp only [go_sem,seval,f22];rfl).1
theorem e22 : bZ Tryz.prog lab 22=some ⟨c22,[.tmp 2],19⟩:=by kernel_rfl
def c23 : aA:=(show {c // CH f23 []=c} by apply Subtype.mk;simp only [go_sem,seval,f23];rfl).1
theorem e23 : bZ Tryz.prog lab 23=some ⟨c23,[.tmp 2],5⟩:=by kernel_rfl
def c24 : aA:=(show {c // CH f24 []=c} by apply Subtype.mk;simp only [go_sem,seval,f24];rfl).1
theorem e24 : bZ Tryz.prog lab 24=some ⟨c24,[.tmp 2],6⟩:=by kernel_rfl
def c25 : aA:=(show {c // CH f25 []=c} by apply Subtype.mk;simp only [go_sem,seval,f25];rfl).1
theorem e25 : bZ Tryz.prog lab 25=some ⟨c25,[.tmp 6],34⟩:=by kernel_rfl
def c26 : aA:=(show {c // CH f26 []=c} by apply Subtype.mk;simp only [go_sem,seval,f26];rfl).1
theorem e26 : bZ Tryz.prog lab 26=some ⟨c26,[.tmp 2],6⟩:=by kernel_rfl
def c27 : aA:=(show {c // CH f27 [[⟨0,false,[],false⟩,⟨1,false,[],false⟩,⟨3,false,[],false⟩,⟨4,false,[],true⟩,⟨2,true,[4],false⟩,⟨5,true,[],false⟩,⟨6,false,[],false⟩,⟨7,false,[],false⟩]]=c} by apply Subtype.mk;simp only [go_sem,seval,f27];rfl).1
theorem e27 : bZ Tryz.prog lab 27=some ⟨c27,[.tmp 2],10⟩:=by kernel_rfl
def c28 : aA:=(show {c // CH f28 []=c} by apply Subtype.mk;simp only [go_sem,seval,f28];rfl).1
theorem e28 : bZ Tryz.prog lab 28=some ⟨c28,[.tmp 2],6⟩:=by kernel_rfl
def c30 : aA:=(show {c // CH f30 [[⟨0,false,[],false⟩,⟨1,false,[],false⟩,⟨2,false,[],true⟩,⟨3,true,[2],false⟩,⟨4,false,[],false⟩,⟨5,false,[],false⟩]]=c} by apply Subtype.mk;simp only [go_sem,seval,f30];rfl).1
theorem e30 : bZ Tryz.prog lab 30=some ⟨c30,[.cell 2 28,.tmp 3,.tmp 4],45⟩:=by kernel_rfl
def c31 : aA:=(show {c // CH f31 [[⟨0,false,[],false⟩,⟨1,false,[],false⟩,⟨2,false,[],false⟩,⟨3,false,[],false⟩,⟨4,false,[],false⟩,⟨5,false,[],false⟩,⟨6,false,[],false⟩,⟨7,false,[],false⟩,⟨8,false,[],false⟩,⟨9,false,[],false⟩,⟨10,false,[],false⟩],[⟨0,false,[],false⟩,⟨1,false,[],false⟩,⟨2,false,[],false⟩,⟨3,false,[],false⟩,⟨4,false,[],false⟩,⟨5,false,[],false⟩,⟨6,false,[],false⟩,⟨7,false,[],false⟩,⟨8,false,[],false⟩,⟨9,false,[],false⟩,⟨10,true,[],false⟩,⟨11,false,[],false⟩]]=c} by apply Subtype.mk;simp only [go_sem,seval,f31];rfl).1
theorem e31 : bZ Tryz.prog lab 31=some ⟨c31,[.tmp 4],81⟩:=by kernel_rfl
def c32 : aA:=(show {c // CH f32 []=c} by apply Subtype.mk;simp only [go_sem,seval,f32];rfl).1
theorem e32 : bZ Tryz.prog lab 32=some ⟨c32,[.cell 2 28],17⟩:=by kernel_rfl
def c33 : aA:=(show {c // CH f33 []=c} by apply Subtype.mk;simp only [go_sem,seval,f33];rfl).1
theorem e33 : bZ Tryz.prog lab 33=some ⟨c33,[.tmp 2],20⟩:=by kernel_rfl
def c35 : aA:=(show {c // CH f35 [[⟨0,false,[],false⟩,⟨1,false,[],false⟩,⟨2,false,[],false⟩,⟨3,false,[],false⟩,⟨4,false,[],true⟩,⟨5,false,[],false⟩,⟨6,false,[],false⟩,⟨7,false,[],false⟩,⟨8,false,[],true⟩,⟨9,true,[4,8],false⟩,⟨10,false,[],false⟩,⟨11,false,[],false⟩,⟨12,false,[],false⟩],[⟨0,false,[],false⟩,⟨2,false,[],false⟩,⟨3,false,[],false⟩,⟨4,false,[],false⟩,⟨5,false,[],true⟩,⟨1,true,[5],false⟩,⟨6,true,[5],false⟩,⟨7,false,[],false⟩,⟨8,false,[],false⟩,⟨9,false,[],false⟩]]=c} by apply Subtype.mk;simp only [go_sem,seval,f35];rfl).1
theorem e35 : bZ Tryz.prog lab 35=some ⟨c35,[.cell 4 28,.tmp 5,.tmp 6,.tmp 7],40⟩:=by kernel_rfl
def c38 : aA:=(show {c // CH f38 []=c} by apply Subtype.mk;simp only [go_sem,seval,f38];rfl).1
theorem e38 : bZ Tryz.prog lab 38=some ⟨c38,[.tmp 2],10⟩:=by kernel_rfl
def c41 : aA:=(show {c // CH f41 [[⟨0,false,[],false⟩,⟨1,false,[],false⟩,⟨2,false,[],false⟩,⟨3,false,[],false⟩,⟨4,false,[],false⟩,⟨5,false,[],false⟩,⟨6,false,[],false⟩,⟨7,true,[],false⟩,⟨8,true,[],false⟩],[⟨0,false,[],true⟩,⟨1,false,[],false⟩,⟨3,false,[],true⟩,⟨2,true,[0,3],false⟩,⟨4,true,[],false⟩,⟨5,true,[],false⟩]]=c} by apply Subtype.mk;simp only [go_sem,seval,f41];rfl).1
theorem e41 : bZ Tryz.prog lab 41=some ⟨c41,[.cell 8 42,.tmp 9],119⟩:=by kernel_rfl
def c42 : aA:=(show {c // CH f42 []=c} by apply Subtype.mk;simp only [go_sem,seval,f42];rfl).1
theorem e42 : bZ Tryz.prog lab 42=some ⟨c42,[.tmp 4],92⟩:=by kernel_rfl
def c43 : aA:=(show {c // CH f43 [[⟨0,false,[],false⟩,⟨1,false,[],false⟩,⟨3,false,[],false⟩,⟨4,false,[],false⟩,⟨5,false,[],false⟩,⟨6,false,[],true⟩,⟨7,false,[],false⟩,⟨8,false,[],true⟩,⟨2,true,[6,8],false⟩,⟨9,false,[],false⟩,⟨10,false,[],false⟩]]=c} by apply Subtype.mk;simp only [go_sem,seval,f43];rfl).1
theorem e43 : bZ Tryz.prog lab 43=some ⟨c43,[.tmp 2],28⟩:=by kernel_rfl
def c44 : aA:=(show {c // CH f44 []=c} by apply Subtype.mk;simp only [go_sem,seval,f44];rfl).1
theorem e44 : bZ Tryz.prog lab 44=some ⟨c44,[.tmp 2],23⟩:=by kernel_rfl
def c45 : aA:=(show {c // CH f45 [[⟨0,false,[],false⟩,⟨1,false,[],false⟩,⟨2,false,[],false⟩,⟨3,false,[],false⟩,⟨5,false,[],true⟩,⟨6,false,[],false⟩,⟨4,true,[5],false⟩,⟨7,true,[],false⟩,⟨8,false,[],false⟩],[⟨0,false,[],false⟩,⟨1,false,[],false⟩,⟨2,false,[],false⟩,⟨3,false,[],false⟩,⟨5,false,[],false⟩,⟨6,false,[],false⟩,⟨7,false,[],false⟩,⟨8,false,[],true⟩,⟨4,true,[8],false⟩,⟨9,true,[],false⟩,⟨10,false,[],false⟩,⟨11,false,[],false⟩]]=c} by apply Subtype.mk;simp only [go_sem,seval,f45];rfl).1
theorem e45 : bZ Tryz.prog lab 45=some ⟨c45,[.tmp 8,.tmp 9],54⟩:=by kernel_rfl
def c46 : aA:=(show {c // CH f46 []=c} by apply Subtype.mk;simp only [go_sem,seval,f46];rfl).1
theorem e46 : bZ Tryz.prog lab 46=some ⟨c46,[.tmp 2],45⟩:=by kernel_rfl
def c47 : aA:=(show {c // CH f47 []=c} by apply Subtype.mk;simp only [go_sem,seval,f47];rfl).1
theorem e47 : bZ Tryz.prog lab 47=some ⟨c47,[.tmp 4],13⟩:=by kernel_rfl
def c48 : aA:=(show {c // CH f48 [[⟨0,false,[],false⟩,⟨1,false,[],false⟩,⟨2,false,[],false⟩,⟨3,false,[],false⟩,⟨4,false,[],true⟩,⟨5,false,[],false⟩,⟨6,true,[4],false⟩,⟨7,false,[],false⟩,⟨8,true,[],false⟩]]=c} by apply Subtype.mk;simp only [go_sem,seval,f48];rfl).1
theorem e48 : bZ Tryz.prog lab 48=some ⟨c48,[.cell 4 93,.tmp 5],127⟩:=by kernel_rfl
def c49 : aA:=(show {c // CH f49 []=c} by apply Subtype.mk;simp only [go_sem,seval,f49];rfl).1
theorem e49 : bZ Tryz.prog lab 49=some ⟨c49,[.tmp 2],28⟩:=by kernel_rfl
def c50 : aA:=(show {c // CH f50 [[⟨0,false,[],true⟩,⟨1,false,[],false⟩,⟨2,false,[],false⟩,⟨3,true,[0],false⟩,⟨4,true,[],false⟩,⟨5,false,[],false⟩]]=c} by apply Subtype.mk;simp only [go_sem,seval,f50];rfl).1
theorem e50 : bZ Tryz.prog lab 50=some ⟨c50,[.tmp 4],26⟩:=by kernel_rfl
def c51 : aA:=(show {c // CH f51 []=c} by apply Subtype.mk;simp only [go_sem,seval,f51];rfl).1
theorem e51 : bZ Tryz.prog lab 51=some ⟨c51,[.tmp 2],11⟩:=by kernel_rfl
def c52 : aA:=(show {c // CH f52 []=c} by apply Subtype.mk;simp only [go_sem,seval,f52];rfl).1
theorem e52 : bZ Tryz.prog lab 52=some ⟨c52,[.tmp 2],5⟩:=by kernel_rfl
def c53 : aA:=(show {c // CH f53 []=c} by apply Subtype.mk;simp only [go_sem,seval,f53];rfl).1
theorem e53 : bZ Tryz.prog lab 53=some ⟨c53,[.cell 4 93,.tmp 5,.tmp 6],125⟩:=by kernel_rfl
def c54 : aA:=(show {c // CH f54 []=c} by apply Subtype.mk;simp only [go_sem,seval,f54];rfl).1
theorem e54 : bZ Tryz.prog lab 54=some ⟨c54,[],48⟩:=by kernel_rfl
def c55 : aA:=(show {c // CH f55 [[⟨0,false,[],false⟩,⟨1,false,[],true⟩,⟨2,false,[],false⟩,⟨4,false,[],true⟩,⟨5,false,[],false⟩,⟨3,true,[1,4],false⟩,⟨6,true,[],false⟩,⟨7,false,[],false⟩,⟨9,false,[],false⟩,⟨8,true,[],false⟩,⟨10,true,[],false⟩]]=c} by apply Subtype.mk;simp only [go_sem,seval,f55];rfl).1
def c57 : aA:=(show {c // CH f57 []=c} by apply Subtype.mk;simp only [go_sem,seval,f57];rfl).1
theorem e57 : bZ Tryz.prog lab 57=some ⟨c57,[.cell 4 42],56⟩:=by kernel_rfl
def c58 : aA:=(show {c // CH f58 [[⟨0,false,[],false⟩,⟨1,false,[],false⟩,⟨2,false,[],false⟩,⟨3,false,[],false⟩,⟨4,true,[],false⟩],[⟨0,false,[],false⟩,⟨1,false,[],false⟩,⟨2,false,[],false⟩,⟨3,false,[],false⟩,⟨4,true,[],false⟩],[⟨0,false,[],false⟩,⟨1,false,[],false⟩,⟨2,false,[],true⟩,⟨3,true,[2],false⟩,⟨4,false,[],false⟩],[⟨0,false,[],false⟩,⟨1,false,[],false⟩,⟨2,false,[],true⟩,⟨3,true,[2],false⟩,⟨4,false,[],false⟩]]=c} by apply Subtype.mk;simp only [go_sem,seval,f58];rfl).1
theorem e58 : bZ Tryz.prog lab 58=some ⟨c58,[.cell 4 28,.tmp 5],94⟩:=by kernel_rfl
def c59 : aA:=(show {c // CH f59 []=c} by apply Subtype.mk;simp only [go_sem,seval,f59];rfl).1
theorem e59 : bZ Tryz.prog lab 59=some ⟨c59,[.tmp 2],29⟩:=by kernel_rfl
end Go.V
