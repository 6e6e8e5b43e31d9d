/- Texts K1 A0 C1. -/
import Derived.Test.YtgmhpemjlbgfcaaGreatDoorProg
import Derived.Test.YtgmhpemjlbgfcaaGreatDoorG11
set_option linter.unusedVariables false
set_option linter.unusedSimpArgs false
namespace Go.V
open Go.Proofs
set_option maxRecDepth 100000
@[go_sem] theorem J5 : ay Tryz.prog 177=true:=by kernel_rfl
@[go_sem] theorem Bv : ay Tryz.prog 185=true:=by kernel_rfl
@[go_sem] theorem qV : ay Tryz.prog 208=true:=by kernel_rfl
@[go_sem] theorem qL : ay Tryz.prog 220=true:=by kernel_rfl
@[go_sem] theorem I7 : ay Tryz.prog 39=true:=by kernel_rfl
@[go_sem] theorem Zm : ay Tryz.prog 44=true:=by kernel_rfl
@[go_sem] theorem Om : Tryz.prog.eqGuardType Tryz.prog.depth 37=false:=by kernel_rfl
@[go_sem] theorem aae : Tryz.prog.eqGuardType Tryz.prog.depth 99=false:=by kernel_rfl
@[go_sem] theorem NJ : iI Tryz.prog 2=some false:=by kernel_rfl
@[go_sem] theorem L9 : iI Tryz.prog 3=some false:=by kernel_rfl
@[go_sem] theorem LV : iI Tryz.prog 9=some false:=by kernel_rfl
@[go_sem] theorem AV : Yr Tryz.prog 101=some 32:=by kernel_rfl
@[go_sem] theorem qM : Yr Tryz.prog 216=some 112:=by kernel_rfl
@[go_sem] theorem oZ : Yr Tryz.prog 29=some 80:=by kernel_rfl
@[go_sem] theorem DN : Yr Tryz.prog 38=some 8:=by kernel_rfl
@[go_sem] theorem aak : Yr Tryz.prog 4=some 1:=by kernel_rfl
@[go_sem] theorem uO : Yr Tryz.prog 45=some 96:=by kernel_rfl
@[go_sem] theorem uQ : Yr Tryz.prog 9=some 16:=by kernel_rfl
@[go_sem] theorem ZV : Yr Tryz.prog 93=some 104:=by kernel_rfl
@[go_sem] theorem PD : Xq Tryz.prog 37=some [(3,0),(2,1),(9,2)]:=by kernel_rfl
@[go_sem] theorem aah : Xq Tryz.prog 99=some [(3,0),(3,1),(3,2),(3,3),(9,4)]:=by kernel_rfl
@[go_sem] theorem dS : iF Tryz.prog 196=some 45:=by kernel_rfl
@[go_sem] theorem wH : iF Tryz.prog 206=some 101:=by kernel_rfl
@[go_sem] theorem iK : iF Tryz.prog 211=some 38:=by kernel_rfl
@[go_sem] theorem fA : iF Tryz.prog 222=some 218:=by kernel_rfl
@[go_sem] theorem iZ : iF Tryz.prog 225=some 216:=by kernel_rfl
@[go_sem] theorem Dp : iF Tryz.prog 25=some 53:=by kernel_rfl
@[go_sem] theorem dM : iF Tryz.prog 26=some 9:=by kernel_rfl
@[go_sem] theorem bK : iF Tryz.prog 27=some 29:=by kernel_rfl
@[go_sem] theorem zF : iF Tryz.prog 51=some 99:=by kernel_rfl
@[go_sem] theorem JW : iF Tryz.prog 85=some 4:=by kernel_rfl
@[go_sem] theorem YB : iF Tryz.prog 91=some 93:=by kernel_rfl
@[go_sem] theorem AP : eH Tryz.prog 101=some 3:=by kernel_rfl
@[go_sem] theorem qK : eH Tryz.prog 216=some 12:=by kernel_rfl
@[go_sem] theorem jE : eH Tryz.prog 218=some 13:=by kernel_rfl
@[go_sem] theorem lK : eH Tryz.prog 29=some 5:=by kernel_rfl
@[go_sem] theorem Et : eH Tryz.prog 38=some 1:=by kernel_rfl
@[go_sem] theorem Zg : eH Tryz.prog 4=some 1:=by kernel_rfl
@[go_sem] theorem vH : eH Tryz.prog 45=some 11:=by kernel_rfl
@[go_sem] theorem oD : eH Tryz.prog 9=some 1:=by kernel_rfl
@[go_sem] theorem Z8 : eH Tryz.prog 93=some 13:=by kernel_rfl
@[go_sem] theorem wW : bG Tryz.prog 101=some [.int .i64 0,.int .i64 0,.str []]:=by kernel_rfl
@[go_sem] theorem lX : bG Tryz.prog 216=some [.str [],.int .i64 0,.int .i64 0,.str [],.int .i64 0,.nilp,.int .u64 0,.int .i64 0,.int .i64 0,.nilp,.int .i64 0,.int .i64 0]:=by kernel_rfl
@[go_sem] theorem lD : bG Tryz.prog 29=some [.int .i64 0,.int .i64 0,.str [],.nils,.nils]:=by kernel_rfl
@[go_sem] theorem yE : bG Tryz.prog 38=some [.nilp]:=by kernel_rfl
@[go_sem] theorem ZP : bG Tryz.prog 4=some [.bool false]:=by kernel_rfl
@[go_sem] theorem nO : bG Tryz.prog 45=some [.int .i64 0,.int .i64 0,.str [],.int .i64 0,.nilp,.int .u64 0,.int .i64 0,.int .i64 0,.nilp,.int .i64 0,.int .i64 0]:=by kernel_rfl
@[go_sem] theorem mQ : bG Tryz.prog 9=some [.str []]:=by kernel_rfl
@[go_sem] theorem ZF : bG Tryz.prog 93=some [.int .i64 0,.int .i64 0,.str [],.int .i64 0,.nilp,.int .u64 0,.int .i64 0,.int .i64 0,.nilp,.int .i64 0,.int .i64 0,.bool false,.bool false]:=by kernel_rfl
@[go_sem] theorem RI : Tryz.prog.underlying 2=some (.int .i64):=by kernel_rfl
@[go_sem] theorem JV : Tryz.prog.underlying 225=some (.slice 216):=by kernel_rfl
@[go_sem] theorem Le : Tryz.prog.underlying 260=some (.map 9 3):=by kernel_rfl
@[go_sem] theorem Qi : Tryz.prog.underlying 3=some (.int .i64):=by kernel_rfl
@[go_sem] theorem OV : Tryz.prog.underlying 37=some (.struct #[{ name := "Kind",type:=3,offset:=0,embedded:=false,tag := "",pkgPath := "",byteOffset:=0 },{ name := "Int",type:=2,offset:=1,embedded:=false,tag := "",pkgPath := "",byteOffset:=8 },{ name := "Text",type:=9,offset:=2,embedded:=false,tag := "",pkgPath := "",byteOffset:=16 }]):=by kernel_rfl
@[go_sem] theorem QT : Tryz.prog.underlying 4=some .bool:=by kernel_rfl
@[go_sem] theorem QK : Tryz.prog.underlying 9=some .string:=by kernel_rfl
@[go_sem] theorem aai : Tryz.prog.underlying 99=some (.struct #[{ name := "Kind",type:=3,offset:=0,embedded:=false,tag := "",pkgPath := "",byteOffset:=0 },{ name := "Int",type:=3,offset:=1,embedded:=false,tag := "",pkgPath := "",byteOffset:=8 },{ name := "Lo",type:=3,offset:=2,embedded:=false,tag := "",pkgPath := "",byteOffset:=16 },{ name := "Hi",type:=3,offset:=3,embedded:=false,tag := "",pkgPath := "",byteOffset:=24 },{ name := "Text",type:=9,offset:=4,embedded:=false,tag := "",pkgPath := "",byteOffset:=32 }]):=by kernel_rfl
@[go_sem] theorem uf : ay Tryz.prog 50=true:=by kernel_rfl
@[go_sem] theorem Yd : ay Tryz.prog 10=true∧ay Tryz.prog 11=true∧ay Tryz.prog 117=true∧ay Tryz.prog 118=true∧ay Tryz.prog 119=true∧ay Tryz.prog 12=true∧ay Tryz.prog 120=true∧ay Tryz.prog 121=true∧ay Tryz.prog 122=true∧ay Tryz.prog 123=true∧ay Tryz.prog 124=true∧ay Tryz.prog 125=true∧ay Tryz.prog 126=true∧ay Tryz.prog 127=true∧ay Tryz.prog 128=true∧ay Tryz.prog 129=true∧ay Tryz.prog 13=true∧ay Tryz.prog 130=true∧ay Tryz.prog 131=true∧ay Tryz.prog 132=true∧ay Tryz.prog 133=true∧ay Tryz.prog 134=true∧ay Tryz.prog 135=true∧ay Tryz.prog 136=true∧ay Tryz.prog 137=true∧ay Tryz.prog 138=true∧ay Tryz.prog 139=true∧ay Tryz.prog 14=true∧ay Tryz.prog 140=true∧ay Tryz.prog 141=true∧ay Tryz.prog 142=true∧ay Tryz.prog 143=true∧ay Tryz.prog 144=true∧ay Tryz.prog 15=true∧ay Tryz.prog 16=true∧ay Tryz.prog 168=true∧ay Tryz.prog 169=true∧ay Tryz.prog 17=true∧ay Tryz.prog 170=true∧ay Tryz.prog 171=true:=by and_intros<;>kernel_rfl
@[go_sem] theorem Ym : ay Tryz.prog 172=true∧ay Tryz.prog 173=true∧ay Tryz.prog 174=true∧ay Tryz.prog 175=true∧ay Tryz.prog 176=true∧ay Tryz.prog 178=true∧ay Tryz.prog 179=true∧ay Tryz.prog 18=true∧ay Tryz.prog 180=true∧ay Tryz.prog 181=true∧ay Tryz.prog 182=true∧ay Tryz.prog 184=true∧ay Tryz.prog 186=true∧ay Tryz.prog 19=true∧ay Tryz.prog 20=true∧ay Tryz.prog 209=true∧ay Tryz.prog 21=true∧ay Tryz.prog 210=true∧ay Tryz.prog 211=true∧ay Tryz.prog 212=true∧ay Tryz.prog 213=true∧ay Tryz.prog 214=true∧ay Tryz.prog 215=true∧ay Tryz.prog 216=true∧ay Tryz.prog 217=true∧ay Tryz.prog 218=true∧ay Tryz.prog 219=true∧ay Tryz.prog 22=true∧ay Tryz.prog 221=true∧ay Tryz.prog 222=true∧ay Tryz.prog 223=true∧ay Tryz.prog 224=true∧ay Tryz.prog 225=true∧ay Tryz.prog 226=true∧ay Tryz.prog 227=true∧ay Tryz.prog 23=true∧ay Tryz.prog 235=true∧ay Tryz.prog 236=true∧ay Tryz.prog 237=true∧ay Tryz.prog 239=true:=by and_intros<;>kernel_rfl
@[go_sem] theorem Yg : ay Tryz.prog 24=true∧ay Tryz.prog 240=true∧ay Tryz.prog 241=true∧ay Tryz.prog 242=true∧ay Tryz.prog 243=true∧ay Tryz.prog 244=true∧ay Tryz.prog 245=true∧ay Tryz.prog 246=true∧ay Tryz.prog 247=true∧ay Tryz.prog 248=true∧ay Tryz.prog 249=true∧ay Tryz.prog 25=true∧ay Tryz.prog 250=true∧ay Tryz.prog 251=true∧ay Tryz.prog 252=true∧ay Tryz.prog 253=true∧ay Tryz.prog 26=true∧ay Tryz.prog 27=true∧ay Tryz.prog 28=true∧ay Tryz.prog 29=true∧ay Tryz.prog 30=true∧ay Tryz.prog 31=true∧ay Tryz.prog 32=true∧ay Tryz.prog 33=true∧ay Tryz.prog 34=true∧ay Tryz.prog 35=true∧ay Tryz.prog 36=true∧ay Tryz.prog 37=true∧ay Tryz.prog 38=true∧ay Tryz.prog 40=true∧ay Tryz.prog 41=true∧ay Tryz.prog 42=true∧ay Tryz.prog 43=true∧ay Tryz.prog 47=true∧ay Tryz.prog 48=true∧ay Tryz.prog 49=true∧ay Tryz.prog 75=true∧ay Tryz.prog 76=true∧ay Tryz.prog 77=true∧ay Tryz.prog 78=true:=by and_intros<;>kernel_rfl
@[go_sem] theorem Ye : ay Tryz.prog 79=true∧ay Tryz.prog 80=true∧ay Tryz.prog 81=true∧ay Tryz.prog 82=true∧ay Tryz.prog 83=true∧ay Tryz.prog 84=true∧ay Tryz.prog 85=true∧ay Tryz.prog 86=true∧ay Tryz.prog 87=true∧ay Tryz.prog 88=true∧ay Tryz.prog 89=true∧ay Tryz.prog 90=true∧ay Tryz.prog 91=true∧ay Tryz.prog 92=true∧ay Tryz.prog 93=true∧ay Tryz.prog 94=true∧ay Tryz.prog 95=true∧ay Tryz.prog 96=true∧ay Tryz.prog 98=true∧iI Tryz.prog 101=some true∧iI Tryz.prog 111=some false∧iI Tryz.prog 117=some true∧iI Tryz.prog 173=some false∧iI Tryz.prog 196=some false∧iI Tryz.prog 206=some false∧iI Tryz.prog 211=some false∧iI Tryz.prog 216=some true∧iI Tryz.prog 218=some true∧iI Tryz.prog 22=some false∧iI Tryz.prog 221=some false∧iI Tryz.prog 222=some false∧iI Tryz.prog 224=some true∧iI Tryz.prog 225=some false∧iI Tryz.prog 24=some true∧iI Tryz.prog 26=some false∧iI Tryz.prog 27=some false∧iI Tryz.prog 275=some false∧iI Tryz.prog 29=some true∧iI Tryz.prog 37=some true∧iI Tryz.prog 38=some false:=by and_intros<;>kernel_rfl
@[go_sem] theorem Yj : iI Tryz.prog 4=some false∧iI Tryz.prog 40=some true∧iI Tryz.prog 41=some false∧iI Tryz.prog 43=some true∧iI Tryz.prog 45=some true∧iI Tryz.prog 5=some false∧iI Tryz.prog 51=some false∧iI Tryz.prog 53=some true∧iI Tryz.prog 85=some false∧iI Tryz.prog 91=some false∧iI Tryz.prog 93=some true∧iI Tryz.prog 99=some true∧sG Tryz.prog 164=some (7,9)∧sG Tryz.prog 341=some (8,5)∧sG Tryz.prog 342=some (32,5)∧sG Tryz.prog 54=some (6,4)∧Yr Tryz.prog 218=some 120∧Yr Tryz.prog 5=some 1∧jK Tryz.prog 101=some true∧jK Tryz.prog 117=some true∧jK Tryz.prog 153=some true∧jK Tryz.prog 159=some true∧jK Tryz.prog 213=some true∧jK Tryz.prog 216=some true∧jK Tryz.prog 218=some true∧jK Tryz.prog 224=some true∧jK Tryz.prog 227=some true∧jK Tryz.prog 24=some true∧jK Tryz.prog 29=some true∧jK Tryz.prog 37=some true∧jK Tryz.prog 43=some true∧jK Tryz.prog 45=some true∧jK Tryz.prog 53=some true∧jK Tryz.prog 87=some true∧jK Tryz.prog 93=some true∧jK Tryz.prog 99=some true∧gU Tryz.prog 101 0=some 0∧gU Tryz.prog 101 1=some 1∧gU Tryz.prog 101 2=some 2∧gU Tryz.prog 159 0=some 0:=by and_intros<;>kernel_rfl
@[go_sem] theorem Yi : gU Tryz.prog 213 0=some 0∧gU Tryz.prog 213 1=some 1∧gU Tryz.prog 213 2=some 2∧gU Tryz.prog 213 3=some 3∧gU Tryz.prog 216 0=some 0∧gU Tryz.prog 216 1=some 1∧gU Tryz.prog 218 0=some 0∧gU Tryz.prog 218 1=some 12∧gU Tryz.prog 224 0=some 0∧gU Tryz.prog 224 1=some 1∧gU Tryz.prog 227 0=some 0∧gU Tryz.prog 227 1=some 2∧gU Tryz.prog 24 0=some 0∧gU Tryz.prog 24 1=some 1∧gU Tryz.prog 29 0=some 0∧gU Tryz.prog 29 1=some 1∧gU Tryz.prog 29 2=some 2∧gU Tryz.prog 29 3=some 3∧gU Tryz.prog 29 4=some 4∧gU Tryz.prog 37 0=some 0∧gU Tryz.prog 37 1=some 1∧gU Tryz.prog 37 2=some 2∧gU Tryz.prog 40 0=some 0∧gU Tryz.prog 43 0=some 0∧gU Tryz.prog 43 1=some 2∧gU Tryz.prog 43 2=some 3∧gU Tryz.prog 45 0=some 0∧gU Tryz.prog 45 1=some 3∧gU Tryz.prog 45 2=some 4∧gU Tryz.prog 45 3=some 5∧gU Tryz.prog 45 4=some 9∧gU Tryz.prog 45 5=some 10∧gU Tryz.prog 53 0=some 0∧gU Tryz.prog 53 1=some 1∧gU Tryz.prog 53 2=some 2∧gU Tryz.prog 53 3=some 3∧gU Tryz.prog 87 0=some 0∧gU Tryz.prog 93 0=some 0∧gU Tryz.prog 93 1=some 11∧gU Tryz.prog 93 2=some 12:=by and_intros<;>kernel_rfl
@[go_sem] theorem Yn : gU Tryz.prog 99 0=some 0∧gU Tryz.prog 99 1=some 1∧gU Tryz.prog 99 2=some 2∧gU Tryz.prog 99 3=some 3∧gU Tryz.prog 99 4=some 4∧IX Tryz.prog 93 2=some (4,12)∧Kz Tryz.prog 151=some false∧Kz Tryz.prog 65=some false∧tint Tryz.prog 173=none∧tint Tryz.prog 2=some IntKind.i64∧tint Tryz.prog 22=some IntKind.u64∧tint Tryz.prog 221=some IntKind.u32∧tint Tryz.prog 251=some IntKind.u64∧tint Tryz.prog 3=some IntKind.i64∧tint Tryz.prog 5=some IntKind.u8∧tint Tryz.prog 9=none∧uV Tryz.prog 260=some 3∧bH Tryz.prog 101 0=some (0,1)∧bH Tryz.prog 101 1=some (1,1)∧bH Tryz.prog 101 2=some (2,1)∧bH Tryz.prog 117 0=some (0,1)∧bH Tryz.prog 117 4=some (4,1)∧bH Tryz.prog 153 0=some (0,1)∧bH Tryz.prog 153 1=some (1,1)∧bH Tryz.prog 213 0=some (0,1)∧bH Tryz.prog 213 1=some (1,1)∧bH Tryz.prog 213 2=some (2,1)∧bH Tryz.prog 213 3=some (3,1)∧bH Tryz.prog 216 0=some (0,1)∧bH Tryz.prog 216 1=some (1,11)∧bH Tryz.prog 218 0=some (0,12)∧bH Tryz.prog 218 1=some (12,1)∧bH Tryz.prog 224 0=some (0,1)∧bH Tryz.prog 224 1=some (1,1)∧bH Tryz.prog 227 0=some (0,2)∧bH Tryz.prog 227 1=some (2,1)∧bH Tryz.prog 24 1=some (1,1)∧bH Tryz.prog 29 0=some (0,1)∧bH Tryz.prog 29 1=some (1,1)∧bH Tryz.prog 29 2=some (2,1):=by and_intros<;>kernel_rfl
@[go_sem] theorem Yc : bH Tryz.prog 29 3=some (3,1)∧bH Tryz.prog 29 4=some (4,1)∧bH Tryz.prog 37 0=some (0,1)∧bH Tryz.prog 37 1=some (1,1)∧bH Tryz.prog 37 2=some (2,1)∧bH Tryz.prog 43 0=some (0,2)∧bH Tryz.prog 45 0=some (0,3)∧bH Tryz.prog 45 1=some (3,1)∧bH Tryz.prog 45 2=some (4,1)∧bH Tryz.prog 45 3=some (5,4)∧bH Tryz.prog 53 0=some (0,1)∧bH Tryz.prog 53 2=some (2,1)∧bH Tryz.prog 93 0=some (0,11)∧bH Tryz.prog 93 1=some (11,1)∧bH Tryz.prog 93 2=some (12,1)∧bH Tryz.prog 99 0=some (0,1)∧iF Tryz.prog 164=none∧iF Tryz.prog 173=some 5∧iF Tryz.prog 2=none∧iF Tryz.prog 22=none∧iF Tryz.prog 221=none∧iF Tryz.prog 251=none∧iF Tryz.prog 3=none∧iF Tryz.prog 341=none∧iF Tryz.prog 342=none∧iF Tryz.prog 5=none∧iF Tryz.prog 54=none∧iF Tryz.prog 9=none∧iF Tryz.prog 97=some 25∧ji Tryz.prog 173=false∧ji Tryz.prog 196=false∧ji Tryz.prog 2=false∧ji Tryz.prog 206=false∧ji Tryz.prog 211=false∧ji Tryz.prog 22=false∧ji Tryz.prog 221=false∧ji Tryz.prog 222=false∧ji Tryz.prog 225=false∧ji Tryz.prog 251=false∧ji Tryz.prog 26=false:=by and_intros<;>kernel_rfl
@[go_sem] theorem Yk : ji Tryz.prog 27=false∧ji Tryz.prog 3=false∧ji Tryz.prog 5=false∧ji Tryz.prog 85=false∧ji Tryz.prog 9=true∧ji Tryz.prog 91=false∧eH Tryz.prog 111=some 1∧eH Tryz.prog 117=some 5∧eH Tryz.prog 173=some 1∧eH Tryz.prog 196=some 1∧eH Tryz.prog 2=some 1∧eH Tryz.prog 206=some 1∧eH Tryz.prog 211=some 1∧eH Tryz.prog 22=some 1∧eH Tryz.prog 221=some 1∧eH Tryz.prog 222=some 1∧eH Tryz.prog 224=some 2∧eH Tryz.prog 225=some 1∧eH Tryz.prog 24=some 2∧eH Tryz.prog 25=some 1∧eH Tryz.prog 26=some 1∧eH Tryz.prog 27=some 1∧eH Tryz.prog 275=some 1∧eH Tryz.prog 3=some 1∧eH Tryz.prog 37=some 3∧eH Tryz.prog 40=some 1∧eH Tryz.prog 41=some 1∧eH Tryz.prog 43=some 4∧eH Tryz.prog 5=some 1∧eH Tryz.prog 51=some 1∧eH Tryz.prog 53=some 6∧eH Tryz.prog 85=some 1∧eH Tryz.prog 91=some 1∧eH Tryz.prog 99=some 5∧bG Tryz.prog 117=some [.int .i64 0,.int .i64 0,.int .i64 0,.int .i64 0,.str []]∧bG Tryz.prog 153=some [.int .i64 0,.nili]∧bG Tryz.prog 159=some [.int .i64 0]∧bG Tryz.prog 206=some [.nils]∧bG Tryz.prog 213=some [.int .i64 0,.int .i64 0,.nils,.nils]∧bG Tryz.prog 218=some [.str [],.int .i64 0,.int .i64 0,.str [],.int .i64 0,.nilp,.int .u64 0,.int .i64 0,.int .i64 0,.nilp,.int .i64 0,.int .i64 0,.nilp]:=by and_intros<;>kernel_rfl
@[go_sem] theorem aaV : bG Tryz.prog 224=some [.int .u32 0,.nils]∧bG Tryz.prog 225=some [.nils]∧bG Tryz.prog 227=some [.int .u32 0,.nils,.nils]∧bG Tryz.prog 24=some [.int .u64 0,.int .i64 0]∧bG Tryz.prog 25=some [.nils]∧bG Tryz.prog 341=some [.int .u8 0,.int .u8 0,.int .u8 0,.int .u8 0,.int .u8 0,.int .u8 0,.int .u8 0,.int .u8 0]∧bG Tryz.prog 37=some [.int .i64 0,.int .i64 0,.str []]∧bG Tryz.prog 40=some [.nilp]∧bG Tryz.prog 43=some [.int .u64 0,.int .i64 0,.int .i64 0,.nilp]∧bG Tryz.prog 5=some [.int .u8 0]∧bG Tryz.prog 53=some [.int .i64 0,.nils,.int .i64 0,.int .i64 0,.int .i64 0,.str []]∧bG Tryz.prog 54=some [.bool false,.bool false,.bool false,.bool false,.bool false,.bool false]∧bG Tryz.prog 87=some [.nils]∧bG Tryz.prog 91=some [.nils]∧bG Tryz.prog 99=some [.int .i64 0,.int .i64 0,.int .i64 0,.int .i64 0,.str []]∧yH Tryz.prog 3=some (.int .i64 0)∧Tryz.prog.underlying 173=some (.slice 5)∧Tryz.prog.underlying 196=some (.slice 45)∧Tryz.prog.underlying 206=some (.slice 101)∧Tryz.prog.underlying 211=some (.slice 38)∧Tryz.prog.underlying 22=some (.int .u64)∧Tryz.prog.underlying 221=some (.int .u32)∧Tryz.prog.underlying 222=some (.slice 218)∧Tryz.prog.underlying 25=some (.slice 53)∧Tryz.prog.underlying 251=some (.int .u64)∧Tryz.prog.underlying 26=some (.slice 9)∧Tryz.prog.underlying 27=some (.slice 29)∧Tryz.prog.underlying 34=some (.interface #[("Error",201)])∧Tryz.prog.underlying 38=some (.pointer 213)∧Tryz.prog.underlying 41=some (.pointer 227)∧Tryz.prog.underlying 5=some (.int .u8)∧Tryz.prog.underlying 51=some (.slice 99)∧Tryz.prog.underlying 85=some (.slice 4)∧Tryz.prog.underlying 91=some (.slice 93):=by and_intros<;>kernel_rfl
end Go.V
namespace Go.V
open Go.Proofs
set_option maxRecDepth 100000
def lab (f : FuncId) : Bool:=[114,134,135].contains f
theorem mix : Tryz.prog.follows .mixedOrders=true:=by kernel_rfl
def aL {α : Type} (a : Array α) : List α:=a.toList
theorem Un {α : Type} {l : List α} : aL l.toArray=l:=rfl
def oN : Option Nat→Nat
 | some n=>n
 | none=>0
def dA : List Oper→Nat→Nat
 | [],_=>0
 | o::_,0=>oN o.dst
 | _::r,n+1=>dA r n
def gT (os : List Oper) : Option (Nat × Bool)→Option (Nat × Bool)
 | none=>none
 | some (j,b)=>some (dA os j,b)
def mO (os : List Oper) : List Oper→List VO
 | []=>[]
 | o::r=>⟨o.dst,o.op,o.type,gT os o.guard⟩::mO os r
def dO (os : List Oper) (p : PL) : Nat→List Oper→DO
 | _,[]=>⟨0,none,.nilCheck (.tmp 0),0,none,false,[],false⟩
 | 0,o::_=>⟨p.ix,o.dst,o.op,o.type,gT os o.guard,p.eff,p.chk,p.save⟩
 | n+1,_::r=>dO os p n r
def pO (os : List Oper) : List PL→List DO
 | []=>[]
 | p::r=>dO os p p.ix os::pO os r
def cH (N : Nat) : Code→List (List PL)→aA × List (List PL)
 | .exit id,h=>(.exit id,h)
 | .goto l,h=>(.goto l,h)
 | .ret,h=>(.ret,h)
 | .seq a b,h=>(.seq (cH N a h).1 (cH N b (cH N a h).2).1,(cH N b (cH N a h).2).2)
 | .cond c a b,h=>(.cond c (cH N a h).1 (cH N b (cH N a h).2).1,(cH N b (cH N a h).2).2)
 | .block id b,h=>(.block id (cH N b h).1,(cH N b h).2)
 | .loop b,h=>(.loop (cH N b h).1,(cH N b h).2)
 | .scope b,h=>(.scope (cH N b h).1,(cH N b h).2)
 | .region _ ops false,h=>(.reg (mO (aL ops) (aL ops)),h)
 | .region _ ops true,p::h=>(.draw (pO (aL ops) p),h)
 | .rangeFunc g ps x y,h=>(.rangeF g (aL ps) N (cH N x h).1 (cH N y (cH N x h).2).1 x y,(cH N y (cH N x h).2).2)
 | _,h=>(.skip,h)
def oC : Option Code→Code
 | some c=>c
 | none=>.skip
def CH (f : Func) (h : List (List PL)) : aA:=(cH f.ntmps (oC f.body) h).1
attribute [go_sem] Un oN dA gT mO dO pO cH oC CH
end Go.V
namespace Go.V
open Go.Proofs Go.Proofs.Tryz
set_option maxRecDepth 100000
def c2 : aA:=(show {c // CH f2 []=c} by apply Subtype.mk;simp only [go_sem,seval,f2];rfl).1
theorem e2 : dU Tryz.prog lab 2=some ⟨c2,[],1⟩:=by kernel_rfl
def c3 : aA:=(show {c // CH f3 [[⟨0,false,[],false⟩,⟨1,false,[],false⟩,⟨3,false,[],true⟩,⟨2,true,[3],false⟩,⟨4,true,[],false⟩,⟨5,false,[],false⟩,⟨6,false,[],false⟩,⟨7,false,[],false⟩,⟨8,false,[],false⟩,⟨9,false,[],false⟩],[⟨0,false,[],false⟩,⟨1,false,[],false⟩,⟨2,false,[],false⟩,⟨4,false,[],true⟩,⟨3,true,[4],false⟩,⟨5,true,[],false⟩,⟨6,false,[],false⟩,⟨7,false,[],false⟩,⟨8,false,[],false⟩,⟨9,false,[],false⟩,⟨10,false,[],false⟩],[⟨0,false,[],false⟩,⟨1,false,[],false⟩,⟨2,false,[],false⟩,⟨4,false,[],true⟩,⟨3,true,[4],false⟩,⟨5,true,[],false⟩,⟨6,false,[],false⟩,⟨7,false,[],false⟩,⟨8,false,[],false⟩,⟨9,false,[],false⟩,⟨10,false,[],false⟩],[⟨0,false,[],false⟩,⟨1,false,[],false⟩,⟨2,false,[],false⟩,⟨6,false,[],true⟩,⟨3,true,[6],false⟩,⟨4,false,[],false⟩,⟨5,true,[6],false⟩,⟨7,true,[],false⟩,⟨8,false,[],false⟩,⟨9,false,[],false⟩,⟨10,false,[],false⟩,⟨11,false,[],false⟩,⟨12,false,[],false⟩],[⟨0,false,[],false⟩,⟨1,false,[],false⟩,⟨3,false,[],false⟩,⟨4,false,[],false⟩,⟨8,false,[],true⟩,⟨2,true,[8],false⟩,⟨5,true,[8],false⟩,⟨6,false,[],false⟩,⟨7,true,[8],false⟩,⟨9,true,[],false⟩,⟨10,false,[],false⟩,⟨11,false,[],false⟩,⟨12,false,[],false⟩,⟨13,false,[],false⟩,⟨14,false,[],false⟩]]=c} by apply Subtype.mk;simp only [go_sem,seval,f3];rfl).1
theorem e3 : dU Tryz.prog lab 3=some ⟨c3,[.tmp 8],177⟩:=by kernel_rfl
def c4 : aA:=(show {c // CH f4 []=c} by apply Subtype.mk;simp only [go_sem,seval,f4];rfl).1
theorem e4 : dU Tryz.prog lab 4=some ⟨c4,[.tmp 8],142⟩:=by kernel_rfl
def c5 : aA:=(show {c // CH f5 [[⟨0,false,[],false⟩,⟨1,false,[],false⟩,⟨2,false,[],false⟩,⟨3,false,[],false⟩,⟨4,false,[],false⟩,⟨6,false,[],true⟩,⟨5,true,[6],false⟩,⟨7,true,[],false⟩,⟨8,false,[],false⟩,⟨9,false,[],false⟩]]=c} by apply Subtype.mk;simp only [go_sem,seval,f5];rfl).1
theorem e5 : dU Tryz.prog lab 5=some ⟨c5,[.tmp 6],49⟩:=by kernel_rfl
def c6 : aA:=(show {c // CH f6 []=c} by apply Subtype.mk;simp only [go_sem,seval,f6];rfl).1
theorem e6 : dU Tryz.prog lab 6=some ⟨c6,[.tmp 2],30⟩:=by kernel_rfl
def c7 : aA:=(show {c // CH f7 []=c} by apply Subtype.mk;simp only [go_sem,seval,f7];rfl).1
theorem e7 : dU Tryz.prog lab 7=some ⟨c7,[.tmp 2],36⟩:=by kernel_rfl
def c8 : aA:=(show {c // CH f8 []=c} by apply Subtype.mk;simp only [go_sem,seval,f8];rfl).1
theorem e8 : dU Tryz.prog lab 8=some ⟨c8,[.tmp 6],51⟩:=by kernel_rfl
def c9 : aA:=(show {c // CH f9 []=c} by apply Subtype.mk;simp only [go_sem,seval,f9];rfl).1
theorem e9 : dU Tryz.prog lab 9=some ⟨c9,[.tmp 2],63⟩:=by kernel_rfl
def c10 : aA:=(show {c // CH f10 []=c} by apply Subtype.mk;simp only [go_sem,seval,f10];rfl).1
def c11 : aA:=(show {c // CH f11 []=c} by apply Subtype.mk;simp only [go_sem,seval,f11];rfl).1
theorem e11 : dU Tryz.prog lab 11=some ⟨c11,[.tmp 2],26⟩:=by kernel_rfl
def c12 : aA:=(show {c // CH f12 []=c} by apply Subtype.mk;simp only [go_sem,seval,f12];rfl).1
theorem e12 : dU Tryz.prog lab 12=some ⟨c12,[.tmp 2],23⟩:=by kernel_rfl
def c13 : aA:=(show {c // CH f13 []=c} by apply Subtype.mk;simp only [go_sem,seval,f13];rfl).1
theorem e13 : dU Tryz.prog lab 13=some ⟨c13,[.tmp 2],49⟩:=by kernel_rfl
def c14 : aA:=(show {c // CH f14 []=c} by apply Subtype.mk;simp only [go_sem,seval,f14];rfl).1
theorem e14 : dU Tryz.prog lab 14=some ⟨c14,[.cell 4 45],14⟩:=by kernel_rfl
def c15 : aA:=(show {c // CH f15 [[⟨0,false,[],false⟩,⟨1,false,[],true⟩,⟨2,false,[],false⟩,⟨4,false,[],true⟩,⟨3,true,[1,4],false⟩,⟨5,true,[],false⟩,⟨6,false,[],false⟩,⟨7,true,[],false⟩]]=c} by apply Subtype.mk;simp only [go_sem,seval,f15];rfl).1
theorem e15 : dU Tryz.prog lab 15=some ⟨c15,[.tmp 4,.tmp 5],84⟩:=by kernel_rfl
def c17 : aA:=(show {c // CH f17 []=c} by apply Subtype.mk;simp only [go_sem,seval,f17];rfl).1
theorem e17 : dU Tryz.prog lab 17=some ⟨c17,[.tmp 2],19⟩:=by kernel_rfl
def c18 : aA:=(show {c // CH f18 [[⟨0,false,[],false⟩,⟨1,false,[],true⟩,⟨2,false,[],false⟩,⟨3,true,[1],false⟩,⟨4,true,[],false⟩,⟨5,false,[],false⟩,⟨6,false,[],false⟩,⟨7,false,[],false⟩,⟨8,false,[],false⟩,⟨9,false,[],false⟩]]=c} by apply Subtype.mk;simp only [go_sem,seval,f18];rfl).1
theorem e18 : dU Tryz.prog lab 18=some ⟨c18,[.cell 4 45,.tmp 5],55⟩:=by kernel_rfl
def c20 : aA:=(show {c // CH f20 [[⟨0,false,[],false⟩,⟨1,false,[],false⟩,⟨2,false,[],false⟩,⟨3,false,[],false⟩,⟨4,false,[],false⟩,⟨5,false,[],false⟩,⟨6,false,[],false⟩,⟨7,false,[],false⟩,⟨8,true,[],false⟩,⟨9,false,[],false⟩,⟨10,false,[],false⟩,⟨11,false,[],false⟩,⟨12,false,[],false⟩,⟨13,false,[],false⟩],[⟨0,false,[],false⟩,⟨1,false,[],false⟩,⟨2,false,[],false⟩,⟨4,false,[],true⟩,⟨3,true,[4],false⟩,⟨5,true,[],false⟩,⟨6,false,[],false⟩,⟨7,false,[],false⟩,⟨8,false,[],false⟩,⟨9,false,[],false⟩,⟨10,false,[],false⟩]]=c} by apply Subtype.mk;simp only [go_sem,seval,f20];rfl).1
theorem e20 : dU Tryz.prog lab 20=some ⟨c20,[.cell 2 29],62⟩:=by kernel_rfl
def c33 : aA:=(show {c // CH f33 []=c} by apply Subtype.mk;simp only [go_sem,seval,f33];rfl).1
theorem e33 : dU Tryz.prog lab 33=some ⟨c33,[.tmp 4],14⟩:=by kernel_rfl
def c34 : aA:=(show {c // CH f34 []=c} by apply Subtype.mk;simp only [go_sem,seval,f34];rfl).1
theorem e34 : dU Tryz.prog lab 34=some ⟨c34,[.tmp 2],11⟩:=by kernel_rfl
def c35 : aA:=(show {c // CH f35 []=c} by apply Subtype.mk;simp only [go_sem,seval,f35];rfl).1
theorem e35 : dU Tryz.prog lab 35=some ⟨c35,[.tmp 4],13⟩:=by kernel_rfl
def c36 : aA:=(show {c // CH f36 []=c} by apply Subtype.mk;simp only [go_sem,seval,f36];rfl).1
theorem e36 : dU Tryz.prog lab 36=some ⟨c36,[.tmp 2],86⟩:=by kernel_rfl
def c37 : aA:=(show {c // CH f37 []=c} by apply Subtype.mk;simp only [go_sem,seval,f37];rfl).1
theorem e37 : dU Tryz.prog lab 37=some ⟨c37,[.tmp 4],35⟩:=by kernel_rfl
def c38 : aA:=(show {c // CH f38 []=c} by apply Subtype.mk;simp only [go_sem,seval,f38];rfl).1
theorem e38 : dU Tryz.prog lab 38=some ⟨c38,[.cell 4 45,.tmp 5],15⟩:=by kernel_rfl
def c39 : aA:=(show {c // CH f39 []=c} by apply Subtype.mk;simp only [go_sem,seval,f39];rfl).1
theorem e39 : dU Tryz.prog lab 39=some ⟨c39,[.cell 1 93],15⟩:=by kernel_rfl
def c40 : aA:=(show {c // CH f40 [[⟨0,false,[],false⟩,⟨1,false,[],false⟩,⟨2,false,[],false⟩,⟨3,false,[],false⟩,⟨4,false,[],false⟩,⟨5,false,[],false⟩,⟨6,false,[],false⟩,⟨7,false,[],false⟩,⟨8,false,[],false⟩,⟨10,false,[],false⟩,⟨11,false,[],true⟩,⟨9,true,[11],false⟩,⟨12,true,[],false⟩,⟨13,false,[],false⟩,⟨14,false,[],false⟩]]=c} by apply Subtype.mk;simp only [go_sem,seval,f40];rfl).1
theorem e40 : dU Tryz.prog lab 40=some ⟨c40,[.tmp 6],82⟩:=by kernel_rfl
def c41 : aA:=(show {c // CH f41 []=c} by apply Subtype.mk;simp only [go_sem,seval,f41];rfl).1
theorem e41 : dU Tryz.prog lab 41=some ⟨c41,[.cell 4 93],52⟩:=by kernel_rfl
def c42 : aA:=(show {c // CH f42 []=c} by apply Subtype.mk;simp only [go_sem,seval,f42];rfl).1
theorem e42 : dU Tryz.prog lab 42=some ⟨c42,[.tmp 4,.tmp 5],23⟩:=by kernel_rfl
def c43 : aA:=(show {c // CH f43 [[⟨0,false,[],false⟩,⟨1,false,[],false⟩,⟨3,false,[],false⟩,⟨4,false,[],true⟩,⟨2,true,[4],false⟩,⟨5,true,[],false⟩,⟨6,false,[],false⟩,⟨7,false,[],false⟩]]=c} by apply Subtype.mk;simp only [go_sem,seval,f43];rfl).1
theorem e43 : dU Tryz.prog lab 43=some ⟨c43,[.tmp 2],10⟩:=by kernel_rfl
def c44 : aA:=(show {c // CH f44 []=c} by apply Subtype.mk;simp only [go_sem,seval,f44];rfl).1
theorem e44 : dU Tryz.prog lab 44=some ⟨c44,[.cell 4 45,.tmp 5],39⟩:=by kernel_rfl
def c46 : aA:=(show {c // CH f46 []=c} by apply Subtype.mk;simp only [go_sem,seval,f46];rfl).1
def c47 : aA:=(show {c // CH f47 [[⟨0,false,[],false⟩,⟨1,false,[],false⟩,⟨2,false,[],false⟩,⟨3,false,[],false⟩,⟨5,false,[],true⟩,⟨6,false,[],false⟩,⟨4,true,[5],false⟩,⟨7,true,[],false⟩,⟨8,false,[],false⟩],[⟨0,false,[],false⟩,⟨1,false,[],false⟩,⟨2,false,[],false⟩,⟨3,false,[],false⟩,⟨5,false,[],false⟩,⟨6,false,[],false⟩,⟨7,false,[],false⟩,⟨8,false,[],true⟩,⟨4,true,[8],false⟩,⟨9,true,[],false⟩,⟨10,false,[],false⟩,⟨11,false,[],false⟩]]=c} by apply Subtype.mk;simp only [go_sem,seval,f47];rfl).1
theorem e47 : dU Tryz.prog lab 47=some ⟨c47,[.tmp 8,.tmp 9],54⟩:=by kernel_rfl
def c48 : aA:=(show {c // CH f48 []=c} by apply Subtype.mk;simp only [go_sem,seval,f48];rfl).1
theorem e48 : dU Tryz.prog lab 48=some ⟨c48,[.tmp 2],45⟩:=by kernel_rfl
def c49 : aA:=(show {c // CH f49 []=c} by apply Subtype.mk;simp only [go_sem,seval,f49];rfl).1
theorem e49 : dU Tryz.prog lab 49=some ⟨c49,[],48⟩:=by kernel_rfl
def c50 : aA:=(show {c // CH f50 [[⟨0,false,[],false⟩,⟨1,false,[],true⟩,⟨2,false,[],false⟩,⟨4,false,[],true⟩,⟨5,false,[],false⟩,⟨3,true,[1,4],false⟩,⟨6,true,[],false⟩,⟨7,false,[],false⟩,⟨9,false,[],false⟩,⟨8,true,[],false⟩,⟨10,true,[],false⟩]]=c} by apply Subtype.mk;simp only [go_sem,seval,f50];rfl).1
def c56 : aA:=(show {c // CH f56 []=c} by apply Subtype.mk;simp only [go_sem,seval,f56];rfl).1
def c75 : aA:=(show {c // CH f75 []=c} by apply Subtype.mk;simp only [go_sem,seval,f75];rfl).1
theorem e75 : dU Tryz.prog lab 75=some ⟨c75,[.tmp 6,.tmp 7],65⟩:=by kernel_rfl
def c76 : aA:=(show {c // CH f76 [[⟨0,false,[],false⟩,⟨1,false,[],false⟩,⟨2,false,[],false⟩,⟨3,false,[],false⟩,⟨4,false,[],false⟩,⟨5,false,[],false⟩,⟨6,false,[],false⟩,⟨7,false,[],false⟩,⟨8,false,[],false⟩]]=c} by apply Subtype.mk;simp only [go_sem,seval,f76];rfl).1
theorem e76 : dU Tryz.prog lab 76=some ⟨c76,[.tmp 6,.tmp 7],91⟩:=by kernel_rfl
def c77 : aA:=(show {c // CH f77 []=c} by apply Subtype.mk;simp only [go_sem,seval,f77];rfl).1
theorem e77 : dU Tryz.prog lab 77=some ⟨c77,[.tmp 2],38⟩:=by kernel_rfl
def c78 : aA:=(show {c // CH f78 []=c} by apply Subtype.mk;simp only [go_sem,seval,f78];rfl).1
theorem e78 : dU Tryz.prog lab 78=some ⟨c78,[.tmp 2],25⟩:=by kernel_rfl
def c79 : aA:=(show {c // CH f79 []=c} by apply Subtype.mk;simp only [go_sem,seval,f79];rfl).1
theorem e79 : dU Tryz.prog lab 79=some ⟨c79,[.tmp 6],43⟩:=by kernel_rfl
def c80 : aA:=(show {c // CH f80 [[⟨0,false,[],false⟩,⟨1,false,[],false⟩,⟨2,false,[],false⟩,⟨3,false,[],false⟩,⟨4,false,[],false⟩,⟨5,false,[],false⟩,⟨6,false,[],false⟩,⟨7,true,[],false⟩,⟨8,true,[],false⟩],[⟨0,false,[],true⟩,⟨1,false,[],false⟩,⟨3,false,[],true⟩,⟨2,true,[0,3],false⟩,⟨4,true,[],false⟩,⟨5,true,[],false⟩]]=c} by apply Subtype.mk;simp only [go_sem,seval,f80];rfl).1
theorem e80 : dU Tryz.prog lab 80=some ⟨c80,[.cell 8 45,.tmp 9],119⟩:=by kernel_rfl
def c81 : aA:=(show {c // CH f81 []=c} by apply Subtype.mk;simp only [go_sem,seval,f81];rfl).1
theorem e81 : dU Tryz.prog lab 81=some ⟨c81,[.tmp 4],9⟩:=by kernel_rfl
def c82 : aA:=(show {c // CH f82 []=c} by apply Subtype.mk;simp only [go_sem,seval,f82];rfl).1
theorem e82 : dU Tryz.prog lab 82=some ⟨c82,[.tmp 2],5⟩:=by kernel_rfl
end Go.V
