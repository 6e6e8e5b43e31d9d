/- Texts K1 A0 C1 C2. -/
import Derived.Test.YtgmhpemjlbgfcaaGreatDoorProg
import Derived.Test.YtgmhpemjlbgfcaaGreatDoorG11
set_option linter.unusedVariables false
set_option linter.unusedSimpArgs false
namespace Go.V
open Go.Proofs
set_option maxRecDepth 100000
@[go_sem] theorem Bv : ay Tryz.prog 185=true:=by kernel_rfl
@[go_sem] theorem qV : ay Tryz.prog 208=true:=by kernel_rfl
@[go_sem] theorem qL : ay Tryz.prog 220=true:=by kernel_rfl
@[go_sem] theorem uf : ay Tryz.prog 50=true:=by kernel_rfl
@[go_sem] theorem Om : Tryz.prog.eqGuardType Tryz.prog.depth 37=false:=by kernel_rfl
@[go_sem] theorem NJ : iI Tryz.prog 2=some false:=by kernel_rfl
@[go_sem] theorem L9 : iI Tryz.prog 3=some false:=by kernel_rfl
@[go_sem] theorem LV : iI Tryz.prog 9=some false:=by kernel_rfl
@[go_sem] theorem AV : xP Tryz.prog 101=some 32:=by kernel_rfl
@[go_sem] theorem qM : xP Tryz.prog 216=some 112:=by kernel_rfl
@[go_sem] theorem oZ : xP Tryz.prog 29=some 80:=by kernel_rfl
@[go_sem] theorem DN : xP Tryz.prog 38=some 8:=by kernel_rfl
@[go_sem] theorem uO : xP Tryz.prog 45=some 96:=by kernel_rfl
@[go_sem] theorem uQ : xP Tryz.prog 9=some 16:=by kernel_rfl
@[go_sem] theorem PD : Xq Tryz.prog 37=some [(3,0),(2,1),(9,2)]:=by kernel_rfl
@[go_sem] theorem dS : iF Tryz.prog 196=some 45:=by kernel_rfl
@[go_sem] theorem wH : iF Tryz.prog 206=some 101:=by kernel_rfl
@[go_sem] theorem iK : iF Tryz.prog 211=some 38:=by kernel_rfl
@[go_sem] theorem fA : iF Tryz.prog 222=some 218:=by kernel_rfl
@[go_sem] theorem iZ : iF Tryz.prog 225=some 216:=by kernel_rfl
@[go_sem] theorem dM : iF Tryz.prog 26=some 9:=by kernel_rfl
@[go_sem] theorem bK : iF Tryz.prog 27=some 29:=by kernel_rfl
@[go_sem] theorem zF : iF Tryz.prog 51=some 99:=by kernel_rfl
@[go_sem] theorem AP : eH Tryz.prog 101=some 3:=by kernel_rfl
@[go_sem] theorem qK : eH Tryz.prog 216=some 12:=by kernel_rfl
@[go_sem] theorem jE : eH Tryz.prog 218=some 13:=by kernel_rfl
@[go_sem] theorem lK : eH Tryz.prog 29=some 5:=by kernel_rfl
@[go_sem] theorem Et : eH Tryz.prog 38=some 1:=by kernel_rfl
@[go_sem] theorem vH : eH Tryz.prog 45=some 11:=by kernel_rfl
@[go_sem] theorem oD : eH Tryz.prog 9=some 1:=by kernel_rfl
@[go_sem] theorem wW : bG Tryz.prog 101=some [.int .i64 0,.int .i64 0,.str []]:=by kernel_rfl
@[go_sem] theorem lX : bG Tryz.prog 216=some [.str [],.int .i64 0,.int .i64 0,.str [],.int .i64 0,.nilp,.int .u64 0,.int .i64 0,.int .i64 0,.nilp,.int .i64 0,.int .i64 0]:=by kernel_rfl
@[go_sem] theorem lD : bG Tryz.prog 29=some [.int .i64 0,.int .i64 0,.str [],.nils,.nils]:=by kernel_rfl
@[go_sem] theorem yE : bG Tryz.prog 38=some [.nilp]:=by kernel_rfl
@[go_sem] theorem nO : bG Tryz.prog 45=some [.int .i64 0,.int .i64 0,.str [],.int .i64 0,.nilp,.int .u64 0,.int .i64 0,.int .i64 0,.nilp,.int .i64 0,.int .i64 0]:=by kernel_rfl
@[go_sem] theorem mQ : bG Tryz.prog 9=some [.str []]:=by kernel_rfl
@[go_sem] theorem RI : Tryz.prog.underlying 2=some (.int .i64):=by kernel_rfl
@[go_sem] theorem JV : Tryz.prog.underlying 225=some (.slice 216):=by kernel_rfl
@[go_sem] theorem Le : Tryz.prog.underlying 260=some (.map 9 3):=by kernel_rfl
@[go_sem] theorem Qi : Tryz.prog.underlying 3=some (.int .i64):=by kernel_rfl
@[go_sem] theorem OV : Tryz.prog.underlying 37=some (.struct #[{ name := "Kind",type:=3,offset:=0,embedded:=false,tag := "",pkgPath := "",byteOffset:=0 },{ name := "Int",type:=2,offset:=1,embedded:=false,tag := "",pkgPath := "",byteOffset:=8 },{ name := "Text",type:=9,offset:=2,embedded:=false,tag := "",pkgPath := "",byteOffset:=16 }]):=by kernel_rfl
@[go_sem] theorem QT : Tryz.prog.underlying 4=some .bool:=by kernel_rfl
@[go_sem] theorem QK : Tryz.prog.underlying 9=some .string:=by kernel_rfl
@[go_sem] theorem J5 : ay Tryz.prog 177=true:=by kernel_rfl
@[go_sem] theorem Yd : ay Tryz.prog 10=true∧ay Tryz.prog 11=true∧ay Tryz.prog 117=true∧ay Tryz.prog 119=true∧ay Tryz.prog 12=true∧ay Tryz.prog 120=true∧ay Tryz.prog 121=true∧ay Tryz.prog 122=true∧ay Tryz.prog 123=true∧ay Tryz.prog 124=true∧ay Tryz.prog 125=true∧ay Tryz.prog 126=true∧ay Tryz.prog 13=true∧ay Tryz.prog 133=true∧ay Tryz.prog 134=true∧ay Tryz.prog 135=true∧ay Tryz.prog 136=true∧ay Tryz.prog 137=true∧ay Tryz.prog 138=true∧ay Tryz.prog 139=true∧ay Tryz.prog 14=true∧ay Tryz.prog 140=true∧ay Tryz.prog 141=true∧ay Tryz.prog 142=true∧ay Tryz.prog 143=true∧ay Tryz.prog 144=true∧ay Tryz.prog 15=true∧ay Tryz.prog 16=true∧ay Tryz.prog 169=true∧ay Tryz.prog 17=true∧ay Tryz.prog 170=true∧ay Tryz.prog 171=true∧ay Tryz.prog 172=true∧ay Tryz.prog 173=true∧ay Tryz.prog 174=true∧ay Tryz.prog 176=true∧ay Tryz.prog 178=true∧ay Tryz.prog 179=true∧ay Tryz.prog 18=true∧ay Tryz.prog 180=true:=by and_intros<;>kernel_rfl
@[go_sem] theorem Ym : ay Tryz.prog 181=true∧ay Tryz.prog 182=true∧ay Tryz.prog 184=true∧ay Tryz.prog 186=true∧ay Tryz.prog 19=true∧ay Tryz.prog 20=true∧ay Tryz.prog 209=true∧ay Tryz.prog 21=true∧ay Tryz.prog 210=true∧ay Tryz.prog 211=true∧ay Tryz.prog 212=true∧ay Tryz.prog 213=true∧ay Tryz.prog 214=true∧ay Tryz.prog 215=true∧ay Tryz.prog 216=true∧ay Tryz.prog 217=true∧ay Tryz.prog 218=true∧ay Tryz.prog 219=true∧ay Tryz.prog 22=true∧ay Tryz.prog 221=true∧ay Tryz.prog 222=true∧ay Tryz.prog 223=true∧ay Tryz.prog 224=true∧ay Tryz.prog 225=true∧ay Tryz.prog 226=true∧ay Tryz.prog 227=true∧ay Tryz.prog 23=true∧ay Tryz.prog 235=true∧ay Tryz.prog 236=true∧ay Tryz.prog 237=true∧ay Tryz.prog 239=true∧ay Tryz.prog 24=true∧ay Tryz.prog 240=true∧ay Tryz.prog 241=true∧ay Tryz.prog 242=true∧ay Tryz.prog 243=true∧ay Tryz.prog 244=true∧ay Tryz.prog 245=true∧ay Tryz.prog 246=true∧ay Tryz.prog 247=true:=by and_intros<;>kernel_rfl
@[go_sem] theorem Yg : ay Tryz.prog 248=true∧ay Tryz.prog 249=true∧ay Tryz.prog 25=true∧ay Tryz.prog 250=true∧ay Tryz.prog 251=true∧ay Tryz.prog 252=true∧ay Tryz.prog 253=true∧ay Tryz.prog 26=true∧ay Tryz.prog 27=true∧ay Tryz.prog 28=true∧ay Tryz.prog 29=true∧ay Tryz.prog 30=true∧ay Tryz.prog 31=true∧ay Tryz.prog 32=true∧ay Tryz.prog 33=true∧ay Tryz.prog 34=true∧ay Tryz.prog 38=true∧ay Tryz.prog 42=true∧ay Tryz.prog 43=true∧ay Tryz.prog 44=true∧ay Tryz.prog 45=true∧ay Tryz.prog 46=true∧ay Tryz.prog 47=true∧ay Tryz.prog 48=true∧ay Tryz.prog 49=true∧ay Tryz.prog 75=true∧ay Tryz.prog 76=true∧ay Tryz.prog 77=true∧ay Tryz.prog 80=true∧ay Tryz.prog 85=true∧ay Tryz.prog 86=true∧ay Tryz.prog 87=true∧ay Tryz.prog 88=true∧ay Tryz.prog 89=true∧ay Tryz.prog 90=true∧ay Tryz.prog 91=true∧ay Tryz.prog 92=true∧ay Tryz.prog 93=true∧ay Tryz.prog 94=true∧ay Tryz.prog 95=true:=by and_intros<;>kernel_rfl
@[go_sem] theorem Ye : ay Tryz.prog 96=true∧ay Tryz.prog 98=true∧iI Tryz.prog 101=some true∧iI Tryz.prog 111=some false∧iI Tryz.prog 117=some true∧iI Tryz.prog 173=some false∧iI Tryz.prog 196=some false∧iI Tryz.prog 206=some false∧iI Tryz.prog 211=some false∧iI Tryz.prog 216=some true∧iI Tryz.prog 218=some true∧iI Tryz.prog 22=some false∧iI Tryz.prog 221=some false∧iI Tryz.prog 222=some false∧iI Tryz.prog 224=some true∧iI Tryz.prog 225=some false∧iI Tryz.prog 24=some true∧iI Tryz.prog 26=some false∧iI Tryz.prog 27=some false∧iI Tryz.prog 275=some false∧iI Tryz.prog 29=some true∧iI Tryz.prog 37=some true∧iI Tryz.prog 38=some false∧iI Tryz.prog 4=some false∧iI Tryz.prog 40=some true∧iI Tryz.prog 41=some false∧iI Tryz.prog 43=some true∧iI Tryz.prog 45=some true∧iI Tryz.prog 5=some false∧iI Tryz.prog 53=some true∧iI Tryz.prog 99=some true∧sG Tryz.prog 341=some (8,5)∧sG Tryz.prog 342=some (32,5)∧sG Tryz.prog 54=some (6,4)∧xP Tryz.prog 218=some 120∧xP Tryz.prog 5=some 1∧jK Tryz.prog 101=some true∧jK Tryz.prog 117=some true∧jK Tryz.prog 159=some true∧jK Tryz.prog 213=some true:=by and_intros<;>kernel_rfl
@[go_sem] theorem Yj : jK Tryz.prog 216=some true∧jK Tryz.prog 218=some true∧jK Tryz.prog 224=some true∧jK Tryz.prog 227=some true∧jK Tryz.prog 24=some true∧jK Tryz.prog 29=some true∧jK Tryz.prog 37=some true∧jK Tryz.prog 43=some true∧jK Tryz.prog 45=some true∧jK Tryz.prog 53=some true∧gU Tryz.prog 101 0=some 0∧gU Tryz.prog 101 1=some 1∧gU Tryz.prog 101 2=some 2∧gU Tryz.prog 159 0=some 0∧gU Tryz.prog 213 0=some 0∧gU Tryz.prog 213 1=some 1∧gU Tryz.prog 213 2=some 2∧gU Tryz.prog 213 3=some 3∧gU Tryz.prog 216 0=some 0∧gU Tryz.prog 216 1=some 1∧gU Tryz.prog 218 0=some 0∧gU Tryz.prog 218 1=some 12∧gU Tryz.prog 224 0=some 0∧gU Tryz.prog 224 1=some 1∧gU Tryz.prog 227 0=some 0∧gU Tryz.prog 227 1=some 2∧gU Tryz.prog 24 0=some 0∧gU Tryz.prog 24 1=some 1∧gU Tryz.prog 29 0=some 0∧gU Tryz.prog 29 1=some 1∧gU Tryz.prog 29 2=some 2∧gU Tryz.prog 29 3=some 3∧gU Tryz.prog 29 4=some 4∧gU Tryz.prog 37 0=some 0∧gU Tryz.prog 37 1=some 1∧gU Tryz.prog 37 2=some 2∧gU Tryz.prog 40 0=some 0∧gU Tryz.prog 43 0=some 0∧gU Tryz.prog 43 1=some 2∧gU Tryz.prog 43 2=some 3:=by and_intros<;>kernel_rfl
@[go_sem] theorem Yi : gU Tryz.prog 45 0=some 0∧gU Tryz.prog 45 1=some 3∧gU Tryz.prog 45 2=some 4∧gU Tryz.prog 45 3=some 5∧gU Tryz.prog 45 4=some 9∧gU Tryz.prog 45 5=some 10∧gU Tryz.prog 53 0=some 0∧gU Tryz.prog 99 0=some 0∧gU Tryz.prog 99 1=some 1∧gU Tryz.prog 99 4=some 4∧tint Tryz.prog 173=none∧tint Tryz.prog 2=some IntKind.i64∧tint Tryz.prog 22=some IntKind.u64∧tint Tryz.prog 221=some IntKind.u32∧tint Tryz.prog 251=some IntKind.u64∧tint Tryz.prog 3=some IntKind.i64∧tint Tryz.prog 5=some IntKind.u8∧tint Tryz.prog 9=none∧uV Tryz.prog 260=some 3∧bH Tryz.prog 101 0=some (0,1)∧bH Tryz.prog 101 1=some (1,1)∧bH Tryz.prog 101 2=some (2,1)∧bH Tryz.prog 117 0=some (0,1)∧bH Tryz.prog 117 4=some (4,1)∧bH Tryz.prog 213 0=some (0,1)∧bH Tryz.prog 213 1=some (1,1)∧bH Tryz.prog 213 2=some (2,1)∧bH Tryz.prog 213 3=some (3,1)∧bH Tryz.prog 216 0=some (0,1)∧bH Tryz.prog 216 1=some (1,11)∧bH Tryz.prog 218 0=some (0,12)∧bH Tryz.prog 218 1=some (12,1)∧bH Tryz.prog 224 0=some (0,1)∧bH Tryz.prog 224 1=some (1,1)∧bH Tryz.prog 227 0=some (0,2)∧bH Tryz.prog 227 1=some (2,1)∧bH Tryz.prog 24 1=some (1,1)∧bH Tryz.prog 29 0=some (0,1)∧bH Tryz.prog 29 1=some (1,1)∧bH Tryz.prog 29 2=some (2,1):=by and_intros<;>kernel_rfl
@[go_sem] theorem Yn : bH Tryz.prog 29 3=some (3,1)∧bH Tryz.prog 29 4=some (4,1)∧bH Tryz.prog 37 0=some (0,1)∧bH Tryz.prog 37 1=some (1,1)∧bH Tryz.prog 37 2=some (2,1)∧bH Tryz.prog 43 0=some (0,2)∧bH Tryz.prog 45 0=some (0,3)∧bH Tryz.prog 45 1=some (3,1)∧bH Tryz.prog 45 2=some (4,1)∧bH Tryz.prog 45 3=some (5,4)∧bH Tryz.prog 53 0=some (0,1)∧bH Tryz.prog 53 2=some (2,1)∧iF Tryz.prog 173=some 5∧iF Tryz.prog 2=none∧iF Tryz.prog 22=none∧iF Tryz.prog 221=none∧iF Tryz.prog 25=some 53∧iF Tryz.prog 251=none∧iF Tryz.prog 3=none∧iF Tryz.prog 341=none∧iF Tryz.prog 342=none∧iF Tryz.prog 5=none∧iF Tryz.prog 54=none∧iF Tryz.prog 9=none∧iF Tryz.prog 97=some 25∧ji Tryz.prog 173=false∧ji Tryz.prog 196=false∧ji Tryz.prog 2=false∧ji Tryz.prog 206=false∧ji Tryz.prog 211=false∧ji Tryz.prog 22=false∧ji Tryz.prog 221=false∧ji Tryz.prog 222=false∧ji Tryz.prog 225=false∧ji Tryz.prog 251=false∧ji Tryz.prog 26=false∧ji Tryz.prog 27=false∧ji Tryz.prog 3=false∧ji Tryz.prog 5=false∧ji Tryz.prog 9=true:=by and_intros<;>kernel_rfl
@[go_sem] theorem Yc : eH Tryz.prog 111=some 1∧eH Tryz.prog 117=some 5∧eH Tryz.prog 173=some 1∧eH Tryz.prog 196=some 1∧eH Tryz.prog 2=some 1∧eH Tryz.prog 206=some 1∧eH Tryz.prog 211=some 1∧eH Tryz.prog 22=some 1∧eH Tryz.prog 221=some 1∧eH Tryz.prog 222=some 1∧eH Tryz.prog 224=some 2∧eH Tryz.prog 225=some 1∧eH Tryz.prog 24=some 2∧eH Tryz.prog 25=some 1∧eH Tryz.prog 26=some 1∧eH Tryz.prog 27=some 1∧eH Tryz.prog 275=some 1∧eH Tryz.prog 3=some 1∧eH Tryz.prog 37=some 3∧eH Tryz.prog 4=some 1∧eH Tryz.prog 40=some 1∧eH Tryz.prog 41=some 1∧eH Tryz.prog 43=some 4∧eH Tryz.prog 5=some 1∧eH Tryz.prog 53=some 6∧eH Tryz.prog 99=some 5∧bG Tryz.prog 117=some [.int .i64 0,.int .i64 0,.int .i64 0,.int .i64 0,.str []]∧bG Tryz.prog 159=some [.int .i64 0]∧bG Tryz.prog 213=some [.int .i64 0,.int .i64 0,.nils,.nils]∧bG Tryz.prog 218=some [.str [],.int .i64 0,.int .i64 0,.str [],.int .i64 0,.nilp,.int .u64 0,.int .i64 0,.int .i64 0,.nilp,.int .i64 0,.int .i64 0,.nilp]∧bG Tryz.prog 224=some [.int .u32 0,.nils]∧bG Tryz.prog 225=some [.nils]∧bG Tryz.prog 227=some [.int .u32 0,.nils,.nils]∧bG Tryz.prog 24=some [.int .u64 0,.int .i64 0]∧bG Tryz.prog 25=some [.nils]∧bG Tryz.prog 341=some [.int .u8 0,.int .u8 0,.int .u8 0,.int .u8 0,.int .u8 0,.int .u8 0,.int .u8 0,.int .u8 0]∧bG Tryz.prog 37=some [.int .i64 0,.int .i64 0,.str []]∧bG Tryz.prog 40=some [.nilp]∧bG Tryz.prog 43=some [.int .u64 0,.int .i64 0,.int .i64 0,.nilp]∧bG Tryz.prog 5=some [.int .u8 0]:=by and_intros<;>kernel_rfl
@[go_sem] theorem Yk : bG Tryz.prog 53=some [.int .i64 0,.nils,.int .i64 0,.int .i64 0,.int .i64 0,.str []]∧bG Tryz.prog 54=some [.bool false,.bool false,.bool false,.bool false,.bool false,.bool false]∧bG Tryz.prog 99=some [.int .i64 0,.int .i64 0,.int .i64 0,.int .i64 0,.str []]∧yH Tryz.prog 3=some (.int .i64 0)∧Tryz.prog.underlying 173=some (.slice 5)∧Tryz.prog.underlying 196=some (.slice 45)∧Tryz.prog.underlying 211=some (.slice 38)∧Tryz.prog.underlying 22=some (.int .u64)∧Tryz.prog.underlying 221=some (.int .u32)∧Tryz.prog.underlying 222=some (.slice 218)∧Tryz.prog.underlying 25=some (.slice 53)∧Tryz.prog.underlying 251=some (.int .u64)∧Tryz.prog.underlying 26=some (.slice 9)∧Tryz.prog.underlying 27=some (.slice 29)∧Tryz.prog.underlying 34=some (.interface #[("Error",201)])∧Tryz.prog.underlying 38=some (.pointer 213)∧Tryz.prog.underlying 41=some (.pointer 227)∧Tryz.prog.underlying 5=some (.int .u8)∧Tryz.prog.underlying 51=some (.slice 99):=by and_intros<;>kernel_rfl
end Go.V
namespace Go.V
open Go.Proofs
set_option maxRecDepth 100000
def lab (f : FuncId) : Bool:=[114,134,135].contains f
theorem mix : Tryz.prog.follows .mixedOrders=true:=by kernel_rfl
def aL {α : Type} (a : Array α) : List α:=a.toList
theorem Un {α : Type} {l : List α} : aL l.toArray=l:=rfl
def oN : Option Nat→Nat
 | some n=>n
 | none=>0
def dA : List Oper→Nat→Nat
 | [],_=>0
 | o::_,0=>oN o.dst
 | _::r,n+1=>dA r n
def gT (os : List Oper) : Option (Nat × Bool)→Option (Nat × Bool)
 | none=>none
 | some (j,b)=>some (dA os j,b)
def mO (os : List Oper) : List Oper→List VO
 | []=>[]
 | o::r=>⟨o.dst,o.op,o.type,gT os o.guard⟩::mO os r
def dO (os : List Oper) (p : PL) : Nat→List Oper→DO
 | _,[]=>⟨0,none,.nilCheck (.tmp 0),0,none,false,[],false⟩
 | 0,o::_=>⟨p.ix,o.dst,o.op,o.type,gT os o.guard,p.eff,p.chk,p.save⟩
 | n+1,_::r=>dO os p n r
def pO (os : List Oper) : List PL→List DO
 | []=>[]
 | p::r=>dO os p p.ix os::pO os r
def cH (N : Nat) : Code→List (List PL)→aA × List (List PL)
 | .exit id,h=>(.exit id,h)
 | .goto l,h=>(.goto l,h)
 | .ret,h=>(.ret,h)
 | .seq a b,h=>(.seq (cH N a h).1 (cH N b (cH N a h).2).1,(cH N b (cH N a h).2).2)
 | .cond c a b,h=>(.cond c (cH N a h).1 (cH N b (cH N a h).2).1,(cH N b (cH N a h).2).2)
 | .block id b,h=>(.block id (cH N b h).1,(cH N b h).2)
 | .loop b,h=>(.loop (cH N b h).1,(cH N b h).2)
 | .scope b,h=>(.scope (cH N b h).1,(cH N b h).2)
 | .region _ ops false,h=>(.reg (mO (aL ops) (aL ops)),h)
 | .region _ ops true,p::h=>(.draw (pO (aL ops) p),h)
 | .rangeFunc g ps x y,h=>(.rangeF g (aL ps) N (cH N x h).1 (cH N y (cH N x h).2).1 x y,(cH N y (cH N x h).2).2)
 | _,h=>(.skip,h)
def oC : Option Code→Code
 | some c=>c
 | none=>.skip
def CH (f : Func) (h : List (List PL)) : aA:=(cH f.ntmps (oC f.body) h).1
attribute [go_sem] Un oN dA gT mO dO pO cH oC CH
end Go.V
namespace Go.V
open Go.Proofs Go.Proofs.Tryz
set_option maxRecDepth 100000
def c2 : aA:=(show {c // CH f2 []=c} by apply Subtype.mk;simp only [go_sem,seval,f2];rfl).1
theorem e2 : dU Tryz.prog lab 2=some ⟨c2,[],1⟩:=by kernel_rfl
def c3 : aA:=(show {c // CH f3 [[⟨0,false,[],false⟩,⟨1,false,[],false⟩,⟨3,false,[],true⟩,⟨2,true,[3],false⟩,⟨4,true,[],false⟩,⟨5,false,[],false⟩,⟨6,false,[],false⟩,⟨7,false,[],false⟩,⟨8,false,[],false⟩,⟨9,false,[],false⟩],[⟨0,false,[],false⟩,⟨1,false,[],false⟩,⟨2,false,[],false⟩,⟨4,false,[],true⟩,⟨3,true,[4],false⟩,⟨5,true,[],false⟩,⟨6,false,[],false⟩,⟨7,false,[],false⟩,⟨8,false,[],false⟩,⟨9,false,[],false⟩,⟨10,false,[],false⟩],[⟨0,false,[],false⟩,⟨1,false,[],false⟩,⟨2,false,[],false⟩,⟨4,false,[],true⟩,⟨3,true,[4],false⟩,⟨5,true,[],false⟩,⟨6,false,[],false⟩,⟨7,false,[],false⟩,⟨8,false,[],false⟩,⟨9,false,[],false⟩,⟨10,false,[],false⟩],[⟨0,false,[],false⟩,⟨1,false,[],false⟩,⟨2,false,[],false⟩,⟨6,false,[],true⟩,⟨3,true,[6],false⟩,⟨4,false,[],false⟩,⟨5,true,[6],false⟩,⟨7,true,[],false⟩,⟨8,false,[],false⟩,⟨9,false,[],false⟩,⟨10,false,[],false⟩,⟨11,false,[],false⟩,⟨12,false,[],false⟩],[⟨0,false,[],false⟩,⟨1,false,[],false⟩,⟨3,false,[],false⟩,⟨4,false,[],false⟩,⟨8,false,[],true⟩,⟨2,true,[8],false⟩,⟨5,true,[8],false⟩,⟨6,false,[],false⟩,⟨7,true,[8],false⟩,⟨9,true,[],false⟩,⟨10,false,[],false⟩,⟨11,false,[],false⟩,⟨12,false,[],false⟩,⟨13,false,[],false⟩,⟨14,false,[],false⟩]]=c} by apply Subtype.mk;simp only [go_sem,seval,f3];rfl).1
theorem e3 : dU Tryz.prog lab 3=some ⟨c3,[.tmp 8],177⟩:=by kernel_rfl
def c4 : aA:=(show {c // CH f4 []=c} by apply Subtype.mk;simp only [go_sem,seval,f4];rfl).1
theorem e4 : dU Tryz.prog lab 4=some ⟨c4,[.tmp 8],142⟩:=by kernel_rfl
def c5 : aA:=(show {c // CH f5 [[⟨0,false,[],false⟩,⟨1,false,[],false⟩,⟨2,false,[],false⟩,⟨3,false,[],false⟩,⟨4,false,[],false⟩,⟨6,false,[],true⟩,⟨5,true,[6],false⟩,⟨7,true,[],false⟩,⟨8,false,[],false⟩,⟨9,false,[],false⟩]]=c} by apply Subtype.mk;simp only [go_sem,seval,f5];rfl).1
theorem e5 : dU Tryz.prog lab 5=some ⟨c5,[.tmp 6],49⟩:=by kernel_rfl
def c6 : aA:=(show {c // CH f6 []=c} by apply Subtype.mk;simp only [go_sem,seval,f6];rfl).1
theorem e6 : dU Tryz.prog lab 6=some ⟨c6,[.tmp 2],30⟩:=by kernel_rfl
def c7 : aA:=(show {c // CH f7 []=c} by apply Subtype.mk;simp only [go_sem,seval,f7];rfl).1
theorem e7 : dU Tryz.prog lab 7=some ⟨c7,[.tmp 2],36⟩:=by kernel_rfl
def c8 : aA:=(show {c // CH f8 []=c} by apply Subtype.mk;simp only [go_sem,seval,f8];rfl).1
theorem e8 : dU Tryz.prog lab 8=some ⟨c8,[.tmp 6],51⟩:=by kernel_rfl
def c9 : aA:=(show {c // CH f9 []=c} by apply Subtype.mk;simp only [go_sem,seval,f9];rfl).1
theorem e9 : dU Tryz.prog lab 9=some ⟨c9,[.tmp 2],63⟩:=by kernel_rfl
def c10 : aA:=(show {c // CH f10 []=c} by apply Subtype.mk;simp only [go_sem,seval,f10];rfl).1
def c12 : aA:=(show {c // CH f12 []=c} by apply Subtype.mk;simp only [go_sem,seval,f12];rfl).1
theorem e12 : dU Tryz.prog lab 12=some ⟨c12,[.tmp 2],23⟩:=by kernel_rfl
def c14 : aA:=(show {c // CH f14 []=c} by apply Subtype.mk;simp only [go_sem,seval,f14];rfl).1
theorem e14 : dU Tryz.prog lab 14=some ⟨c14,[.cell 4 45],14⟩:=by kernel_rfl
def c17 : aA:=(show {c // CH f17 []=c} by apply Subtype.mk;simp only [go_sem,seval,f17];rfl).1
theorem e17 : dU Tryz.prog lab 17=some ⟨c17,[.tmp 2],19⟩:=by kernel_rfl
def c18 : aA:=(show {c // CH f18 [[⟨0,false,[],false⟩,⟨1,false,[],true⟩,⟨2,false,[],false⟩,⟨3,true,[1],false⟩,⟨4,true,[],false⟩,⟨5,false,[],false⟩,⟨6,false,[],false⟩,⟨7,false,[],false⟩,⟨8,false,[],false⟩,⟨9,false,[],false⟩]]=c} by apply Subtype.mk;simp only [go_sem,seval,f18];rfl).1
theorem e18 : dU Tryz.prog lab 18=some ⟨c18,[.cell 4 45,.tmp 5],55⟩:=by kernel_rfl
def c19 : aA:=(show {c // CH f19 []=c} by apply Subtype.mk;simp only [go_sem,seval,f19];rfl).1
theorem e19 : dU Tryz.prog lab 19=some ⟨c19,[.cell 4 29,.tmp 5],55⟩:=by kernel_rfl
def c20 : aA:=(show {c // CH f20 [[⟨0,false,[],false⟩,⟨1,false,[],false⟩,⟨2,false,[],false⟩,⟨3,false,[],false⟩,⟨4,false,[],false⟩,⟨5,false,[],false⟩,⟨6,false,[],false⟩,⟨7,false,[],false⟩,⟨8,true,[],false⟩,⟨9,false,[],false⟩,⟨10,false,[],false⟩,⟨11,false,[],false⟩,⟨12,false,[],false⟩,⟨13,false,[],false⟩],[⟨0,false,[],false⟩,⟨1,false,[],false⟩,⟨2,false,[],false⟩,⟨4,false,[],true⟩,⟨3,true,[4],false⟩,⟨5,true,[],false⟩,⟨6,false,[],false⟩,⟨7,false,[],false⟩,⟨8,false,[],false⟩,⟨9,false,[],false⟩,⟨10,false,[],false⟩]]=c} by apply Subtype.mk;simp only [go_sem,seval,f20];rfl).1
theorem e20 : dU Tryz.prog lab 20=some ⟨c20,[.cell 2 29],62⟩:=by kernel_rfl
def c21 : aA:=(show {c // CH f21 [[⟨0,false,[],false⟩,⟨1,false,[],false⟩,⟨2,false,[],false⟩,⟨3,false,[],false⟩,⟨4,false,[],false⟩,⟨5,false,[],false⟩,⟨6,false,[],false⟩,⟨7,false,[],false⟩,⟨8,false,[],false⟩,⟨9,false,[],false⟩,⟨10,false,[],false⟩],[⟨0,false,[],false⟩,⟨1,false,[],false⟩,⟨2,false,[],false⟩,⟨3,false,[],false⟩,⟨4,false,[],false⟩,⟨5,false,[],false⟩,⟨6,false,[],false⟩,⟨7,false,[],false⟩,⟨8,false,[],false⟩,⟨9,false,[],false⟩,⟨10,true,[],false⟩,⟨11,false,[],false⟩]]=c} by apply Subtype.mk;simp only [go_sem,seval,f21];rfl).1
theorem e21 : dU Tryz.prog lab 21=some ⟨c21,[.tmp 4],81⟩:=by kernel_rfl
def c22 : aA:=(show {c // CH f22 []=c} by apply Subtype.mk;simp only [go_sem,seval,f22];rfl).1
theorem e22 : dU Tryz.prog lab 22=some ⟨c22,[.cell 2 29],17⟩:=by kernel_rfl
def c33 : aA:=(show {c // CH f33 []=c} by apply Subtype.mk;simp only [go_sem,seval,f33];rfl).1
theorem e33 : dU Tryz.prog lab 33=some ⟨c33,[.tmp 4],14⟩:=by kernel_rfl
def c34 : aA:=(show {c // CH f34 []=c} by apply Subtype.mk;simp only [go_sem,seval,f34];rfl).1
theorem e34 : dU Tryz.prog lab 34=some ⟨c34,[.tmp 2],11⟩:=by kernel_rfl
def c38 : aA:=(show {c // CH f38 []=c} by apply Subtype.mk;simp only [go_sem,seval,f38];rfl).1
theorem e38 : dU Tryz.prog lab 38=some ⟨c38,[.cell 4 45,.tmp 5],15⟩:=by kernel_rfl
def c42 : aA:=(show {c // CH f42 []=c} by apply Subtype.mk;simp only [go_sem,seval,f42];rfl).1
theorem e42 : dU Tryz.prog lab 42=some ⟨c42,[.tmp 4,.tmp 5],23⟩:=by kernel_rfl
def c43 : aA:=(show {c // CH f43 [[⟨0,false,[],false⟩,⟨1,false,[],false⟩,⟨3,false,[],false⟩,⟨4,false,[],true⟩,⟨2,true,[4],false⟩,⟨5,true,[],false⟩,⟨6,false,[],false⟩,⟨7,false,[],false⟩]]=c} by apply Subtype.mk;simp only [go_sem,seval,f43];rfl).1
theorem e43 : dU Tryz.prog lab 43=some ⟨c43,[.tmp 2],10⟩:=by kernel_rfl
def c44 : aA:=(show {c // CH f44 []=c} by apply Subtype.mk;simp only [go_sem,seval,f44];rfl).1
theorem e44 : dU Tryz.prog lab 44=some ⟨c44,[.cell 4 45,.tmp 5],39⟩:=by kernel_rfl
def c45 : aA:=(show {c // CH f45 []=c} by apply Subtype.mk;simp only [go_sem,seval,f45];rfl).1
theorem e45 : dU Tryz.prog lab 45=some ⟨c45,[.tmp 4,.tmp 5],25⟩:=by kernel_rfl
def c46 : aA:=(show {c // CH f46 []=c} by apply Subtype.mk;simp only [go_sem,seval,f46];rfl).1
theorem e46 : dU Tryz.prog lab 46=some ⟨c46,[.cell 4 29,.tmp 5],26⟩:=by kernel_rfl
def c47 : aA:=(show {c // CH f47 [[⟨0,false,[],false⟩,⟨1,false,[],false⟩,⟨2,false,[],false⟩,⟨3,false,[],false⟩,⟨5,false,[],true⟩,⟨6,false,[],false⟩,⟨4,true,[5],false⟩,⟨7,true,[],false⟩,⟨8,false,[],false⟩],[⟨0,false,[],false⟩,⟨1,false,[],false⟩,⟨2,false,[],false⟩,⟨3,false,[],false⟩,⟨5,false,[],false⟩,⟨6,false,[],false⟩,⟨7,false,[],false⟩,⟨8,false,[],true⟩,⟨4,true,[8],false⟩,⟨9,true,[],false⟩,⟨10,false,[],false⟩,⟨11,false,[],false⟩]]=c} by apply Subtype.mk;simp only [go_sem,seval,f47];rfl).1
theorem e47 : dU Tryz.prog lab 47=some ⟨c47,[.tmp 8,.tmp 9],54⟩:=by kernel_rfl
def c48 : aA:=(show {c // CH f48 []=c} by apply Subtype.mk;simp only [go_sem,seval,f48];rfl).1
theorem e48 : dU Tryz.prog lab 48=some ⟨c48,[.tmp 2],45⟩:=by kernel_rfl
def c49 : aA:=(show {c // CH f49 []=c} by apply Subtype.mk;simp only [go_sem,seval,f49];rfl).1
theorem e49 : dU Tryz.prog lab 49=some ⟨c49,[],48⟩:=by kernel_rfl
def c50 : aA:=(show {c // CH f50 [[⟨0,false,[],false⟩,⟨1,false,[],true⟩,⟨2,false,[],false⟩,⟨4,false,[],true⟩,⟨5,false,[],false⟩,⟨3,true,[1,4],false⟩,⟨6,true,[],false⟩,⟨7,false,[],false⟩,⟨9,false,[],false⟩,⟨8,true,[],false⟩,⟨10,true,[],false⟩]]=c} by apply Subtype.mk;simp only [go_sem,seval,f50];rfl).1
def c56 : aA:=(show {c // CH f56 []=c} by apply Subtype.mk;simp only [go_sem,seval,f56];rfl).1
def c75 : aA:=(show {c // CH f75 []=c} by apply Subtype.mk;simp only [go_sem,seval,f75];rfl).1
theorem e75 : dU Tryz.prog lab 75=some ⟨c75,[.tmp 6,.tmp 7],65⟩:=by kernel_rfl
def c76 : aA:=(show {c // CH f76 [[⟨0,false,[],false⟩,⟨1,false,[],false⟩,⟨2,false,[],false⟩,⟨3,false,[],false⟩,⟨4,false,[],false⟩,⟨5,false,[],false⟩,⟨6,false,[],false⟩,⟨7,false,[],false⟩,⟨8,false,[],false⟩]]=c} by apply Subtype.mk;simp only [go_sem,seval,f76];rfl).1
theorem e76 : dU Tryz.prog lab 76=some ⟨c76,[.tmp 6,.tmp 7],91⟩:=by kernel_rfl
def c77 : aA:=(show {c // CH f77 []=c} by apply Subtype.mk;simp only [go_sem,seval,f77];rfl).1
theorem e77 : dU Tryz.prog lab 77=some ⟨c77,[.tmp 2],38⟩:=by kernel_rfl
def c80 : aA:=(show {c // CH f80 [[⟨0,false,[],false⟩,⟨1,false,[],false⟩,⟨2,false,[],false⟩,⟨3,false,[],false⟩,⟨4,false,[],false⟩,⟨5,false,[],false⟩,⟨6,false,[],false⟩,⟨7,true,[],false⟩,⟨8,true,[],false⟩],[⟨0,false,[],true⟩,⟨1,false,[],false⟩,⟨3,false,[],true⟩,⟨2,true,[0,3],false⟩,⟨4,true,[],false⟩,⟨5,true,[],false⟩]]=c} by apply Subtype.mk;simp only [go_sem,seval,f80];rfl).1
theorem e80 : dU Tryz.prog lab 80=some ⟨c80,[.cell 8 45,.tmp 9],119⟩:=by kernel_rfl
end Go.V
namespace Go.V
open Go.Proofs Go.Proofs.Tryz
set_option maxRecDepth 100000
def c85 : aA:=(show {c // CH f85 []=c} by apply Subtype.mk;simp only [go_sem,seval,f85];rfl).1
theorem e85 : dU Tryz.prog lab 85=some ⟨c85,[.tmp 2],11⟩:=by kernel_rfl
def c86 : aA:=(show {c // CH f86 []=c} by apply Subtype.mk;simp only [go_sem,seval,f86];rfl).1
theorem e86 : dU Tryz.prog lab 86=some ⟨c86,[.tmp 2],5⟩:=by kernel_rfl
def c87 : aA:=(show {c // CH f87 []=c} by apply Subtype.mk;simp only [go_sem,seval,f87];rfl).1
theorem e87 : dU Tryz.prog lab 87=some ⟨c87,[.tmp 4],19⟩:=by kernel_rfl
def c88 : aA:=(show {c // CH f88 [[⟨0,false,[],false⟩,⟨1,false,[],false⟩,⟨3,false,[],false⟩,⟨4,false,[],true⟩,⟨2,true,[4],false⟩,⟨5,false,[],false⟩,⟨6,false,[],false⟩],[⟨0,false,[],false⟩,⟨1,false,[],false⟩,⟨2,false,[],false⟩,⟨3,false,[],true⟩,⟨4,false,[],false⟩,⟨5,false,[],false⟩,⟨6,false,[],false⟩,⟨7,false,[],false⟩,⟨8,false,[],false⟩,⟨9,false,[],false⟩,⟨10,false,[],false⟩,⟨11,true,[3],false⟩,⟨12,true,[],false⟩,⟨13,false,[],false⟩]]=c} by apply Subtype.mk;simp only [go_sem,seval,f88];rfl).1
theorem e88 : dU Tryz.prog lab 88=some ⟨c88,[.cell 4 45,.tmp 5],78⟩:=by kernel_rfl
def c89 : aA:=(show {c // CH f89 []=c} by apply Subtype.mk;simp only [go_sem,seval,f89];rfl).1
theorem e89 : dU Tryz.prog lab 89=some ⟨c89,[.cell 4 45,.tmp 5],61⟩:=by kernel_rfl
def c90 : aA:=(show {c // CH f90 []=c} by apply Subtype.mk;simp only [go_sem,seval,f90];rfl).1
theorem e90 : dU Tryz.prog lab 90=some ⟨c90,[.tmp 4],22⟩:=by kernel_rfl
def c91 : aA:=(show {c // CH f91 [[⟨0,false,[],false⟩,⟨1,false,[],false⟩,⟨2,false,[],false⟩,⟨3,false,[],false⟩,⟨4,false,[],false⟩,⟨5,false,[],false⟩,⟨6,false,[],false⟩,⟨7,false,[],false⟩],[⟨0,false,[],false⟩,⟨2,false,[],false⟩,⟨3,false,[],true⟩,⟨1,true,[3],false⟩,⟨4,false,[],false⟩]]=c} by apply Subtype.mk;simp only [go_sem,seval,f91];rfl).1
theorem e91 : dU Tryz.prog lab 91=some ⟨c91,[.tmp 4],42⟩:=by kernel_rfl
def c92 : aA:=(show {c // CH f92 [[⟨0,false,[],false⟩,⟨1,false,[],false⟩,⟨2,false,[],false⟩,⟨3,false,[],false⟩,⟨4,false,[],false⟩,⟨5,false,[],false⟩,⟨6,false,[],false⟩,⟨7,false,[],false⟩]]=c} by apply Subtype.mk;simp only [go_sem,seval,f92];rfl).1
theorem e92 : dU Tryz.prog lab 92=some ⟨c92,[.tmp 4],38⟩:=by kernel_rfl
def c93 : aA:=(show {c // CH f93 []=c} by apply Subtype.mk;simp only [go_sem,seval,f93];rfl).1
theorem e93 : dU Tryz.prog lab 93=some ⟨c93,[.tmp 2],29⟩:=by kernel_rfl
def c94 : aA:=(show {c // CH f94 []=c} by apply Subtype.mk;simp only [go_sem,seval,f94];rfl).1
theorem e94 : dU Tryz.prog lab 94=some ⟨c94,[.cell 2 37],10⟩:=by kernel_rfl
def c95 : aA:=(show {c // CH f95 []=c} by apply Subtype.mk;simp only [go_sem,seval,f95];rfl).1
theorem e95 : dU Tryz.prog lab 95=some ⟨c95,[.tmp 2],4⟩:=by kernel_rfl
def c96 : aA:=(show {c // CH f96 []=c} by apply Subtype.mk;simp only [go_sem,seval,f96];rfl).1
theorem e96 : dU Tryz.prog lab 96=some ⟨c96,[.tmp 2],4⟩:=by kernel_rfl
def c98 : aA:=(show {c // CH f98 []=c} by apply Subtype.mk;simp only [go_sem,seval,f98];rfl).1
theorem e98 : dU Tryz.prog lab 98=some ⟨c98,[.tmp 2],49⟩:=by kernel_rfl
def c117 : aA:=(show {c // CH f117 [[⟨0,false,[],false⟩,⟨1,false,[],false⟩,⟨2,false,[],false⟩,⟨3,false,[],false⟩,⟨4,false,[],false⟩,⟨5,false,[],false⟩,⟨6,false,[],false⟩,⟨7,false,[],false⟩,⟨8,false,[],false⟩,⟨9,false,[],false⟩,⟨10,false,[],false⟩]]=c} by apply Subtype.mk;simp only [go_sem,seval,f117];rfl).1
theorem e117 : dU Tryz.prog lab 117=some ⟨c117,[.tmp 2],87⟩:=by kernel_rfl
def c119 : aA:=(show {c // CH f119 []=c} by apply Subtype.mk;simp only [go_sem,seval,f119];rfl).1
theorem e119 : dU Tryz.prog lab 119=some ⟨c119,[.tmp 2],82⟩:=by kernel_rfl
def c120 : aA:=(show {c // CH f120 []=c} by apply Subtype.mk;simp only [go_sem,seval,f120];rfl).1
theorem e120 : dU Tryz.prog lab 120=some ⟨c120,[.cell 2 45],7⟩:=by kernel_rfl
def c121 : aA:=(show {c // CH f121 []=c} by apply Subtype.mk;simp only [go_sem,seval,f121];rfl).1
theorem e121 : dU Tryz.prog lab 121=some ⟨c121,[.cell 2 45],6⟩:=by kernel_rfl
def c122 : aA:=(show {c // CH f122 [[⟨0,false,[],false⟩,⟨1,false,[],true⟩,⟨2,false,[],false⟩,⟨3,false,[],false⟩,⟨4,false,[],false⟩,⟨5,false,[],false⟩,⟨6,false,[],false⟩,⟨7,false,[],false⟩,⟨8,false,[],false⟩,⟨9,false,[],false⟩,⟨10,true,[1],false⟩,⟨11,true,[1],false⟩,⟨12,true,[],false⟩,⟨13,false,[],false⟩,⟨14,true,[],false⟩]]=c} by apply Subtype.mk;simp only [go_sem,seval,f122];rfl).1
theorem e122 : dU Tryz.prog lab 122=some ⟨c122,[.cell 2 40],26⟩:=by kernel_rfl
def c123 : aA:=(show {c // CH f123 []=c} by apply Subtype.mk;simp only [go_sem,seval,f123];rfl).1
theorem e123 : dU Tryz.prog lab 123=some ⟨c123,[.cell 2 43],5⟩:=by kernel_rfl
def c124 : aA:=(show {c // CH f124 []=c} by apply Subtype.mk;simp only [go_sem,seval,f124];rfl).1
theorem e124 : dU Tryz.prog lab 124=some ⟨c124,[.cell 6 43],32⟩:=by kernel_rfl
def c125 : aA:=(show {c // CH f125 []=c} by apply Subtype.mk;simp only [go_sem,seval,f125];rfl).1
theorem e125 : dU Tryz.prog lab 125=some ⟨c125,[.tmp 2],6⟩:=by kernel_rfl
def c126 : aA:=(show {c // CH f126 []=c} by apply Subtype.mk;simp only [go_sem,seval,f126];rfl).1
theorem e126 : dU Tryz.prog lab 126=some ⟨c126,[.cell 4 45],9⟩:=by kernel_rfl
def c133 : aA:=(show {c // CH f133 [[⟨0,false,[],false⟩,⟨1,false,[],false⟩,⟨2,false,[],false⟩,⟨3,false,[],false⟩,⟨5,false,[],false⟩,⟨6,false,[],false⟩,⟨7,false,[],true⟩,⟨4,true,[7],false⟩,⟨8,true,[],false⟩,⟨9,false,[],false⟩]]=c} by apply Subtype.mk;simp only [go_sem,seval,f133];rfl).1
theorem e133 : dU Tryz.prog lab 133=some ⟨c133,[.tmp 4],14⟩:=by kernel_rfl
def c134 : aA:=(show {c // CH f134 [[⟨0,false,[],false⟩,⟨1,false,[],true⟩,⟨2,false,[],false⟩,⟨3,false,[],false⟩,⟨4,true,[1],false⟩,⟨5,false,[],false⟩,⟨6,false,[],false⟩,⟨7,true,[],false⟩,⟨8,false,[],false⟩]]=c} by apply Subtype.mk;simp only [go_sem,seval,f134];rfl).1
theorem e134 : dU Tryz.prog lab 134=some ⟨c134,[.cell 4 218,.tmp 5],19⟩:=by kernel_rfl
def c135 : aA:=(show {c // CH f135 []=c} by apply Subtype.mk;simp only [go_sem,seval,f135];rfl).1
theorem e135 : dU Tryz.prog lab 135=some ⟨c135,[.tmp 4],18⟩:=by kernel_rfl
def c136 : aA:=(show {c // CH f136 []=c} by apply Subtype.mk;simp only [go_sem,seval,f136];rfl).1
theorem e136 : dU Tryz.prog lab 136=some ⟨c136,[.tmp 4,.tmp 5],11⟩:=by kernel_rfl
def c137 : aA:=(show {c // CH f137 []=c} by apply Subtype.mk;simp only [go_sem,seval,f137];rfl).1
theorem e137 : dU Tryz.prog lab 137=some ⟨c137,[.tmp 4],13⟩:=by kernel_rfl
def c138 : aA:=(show {c // CH f138 [[⟨0,false,[],false⟩,⟨1,false,[],false⟩,⟨2,false,[],false⟩,⟨3,false,[],false⟩,⟨4,false,[],false⟩,⟨5,false,[],false⟩,⟨6,false,[],false⟩,⟨7,false,[],false⟩,⟨8,false,[],false⟩,⟨9,false,[],false⟩,⟨10,false,[],false⟩,⟨11,false,[],false⟩,⟨12,false,[],false⟩,⟨13,false,[],false⟩,⟨14,false,[],false⟩,⟨15,false,[],false⟩,⟨16,false,[],false⟩,⟨17,false,[],false⟩,⟨18,false,[],false⟩]]=c} by apply Subtype.mk;simp only [go_sem,seval,f138];rfl).1
theorem e138 : dU Tryz.prog lab 138=some ⟨c138,[.tmp 4],28⟩:=by kernel_rfl
def c139 : aA:=(show {c // CH f139 []=c} by apply Subtype.mk;simp only [go_sem,seval,f139];rfl).1
theorem e139 : dU Tryz.prog lab 139=some ⟨c139,[.tmp 2],26⟩:=by kernel_rfl
def c140 : aA:=(show {c // CH f140 []=c} by apply Subtype.mk;simp only [go_sem,seval,f140];rfl).1
theorem e140 : dU Tryz.prog lab 140=some ⟨c140,[.tmp 2],25⟩:=by kernel_rfl
def c141 : aA:=(show {c // CH f141 []=c} by apply Subtype.mk;simp only [go_sem,seval,f141];rfl).1
theorem e141 : dU Tryz.prog lab 141=some ⟨c141,[],10⟩:=by kernel_rfl
def c142 : aA:=(show {c // CH f142 []=c} by apply Subtype.mk;simp only [go_sem,seval,f142];rfl).1
theorem e142 : dU Tryz.prog lab 142=some ⟨c142,[.tmp 6],50⟩:=by kernel_rfl
def c143 : aA:=(show {c // CH f143 []=c} by apply Subtype.mk;simp only [go_sem,seval,f143];rfl).1
theorem e143 : dU Tryz.prog lab 143=some ⟨c143,[],20⟩:=by kernel_rfl
def c144 : aA:=(show {c // CH f144 []=c} by apply Subtype.mk;simp only [go_sem,seval,f144];rfl).1
theorem e144 : dU Tryz.prog lab 144=some ⟨c144,[.tmp 2],11⟩:=by kernel_rfl
def c169 : aA:=(show {c // CH f169 []=c} by apply Subtype.mk;simp only [go_sem,seval,f169];rfl).1
theorem e169 : dU Tryz.prog lab 169=some ⟨c169,[.cell 2 45],9⟩:=by kernel_rfl
def c170 : aA:=(show {c // CH f170 [[⟨0,false,[],false⟩,⟨1,false,[],false⟩,⟨2,false,[],false⟩,⟨3,false,[],false⟩,⟨4,false,[],false⟩,⟨5,false,[],false⟩,⟨6,false,[],false⟩,⟨7,false,[],false⟩,⟨8,false,[],false⟩,⟨9,false,[],false⟩],[⟨0,false,[],false⟩,⟨1,false,[],false⟩,⟨2,false,[],false⟩,⟨3,false,[],false⟩,⟨4,false,[],false⟩,⟨5,false,[],false⟩,⟨6,false,[],false⟩,⟨7,false,[],false⟩,⟨8,false,[],false⟩,⟨9,false,[],false⟩]]=c} by apply Subtype.mk;simp only [go_sem,seval,f170];rfl).1
theorem e170 : dU Tryz.prog lab 170=some ⟨c170,[.tmp 4],45⟩:=by kernel_rfl
def c171 : aA:=(show {c // CH f171 []=c} by apply Subtype.mk;simp only [go_sem,seval,f171];rfl).1
theorem e171 : dU Tryz.prog lab 171=some ⟨c171,[.tmp 2],11⟩:=by kernel_rfl
def c172 : aA:=(show {c // CH f172 []=c} by apply Subtype.mk;simp only [go_sem,seval,f172];rfl).1
theorem e172 : dU Tryz.prog lab 172=some ⟨c172,[.tmp 4],17⟩:=by kernel_rfl
def c173 : aA:=(show {c // CH f173 [[⟨0,false,[],false⟩,⟨1,false,[],false⟩,⟨2,false,[],false⟩,⟨3,false,[],false⟩,⟨4,false,[],false⟩,⟨5,false,[],false⟩,⟨6,true,[],false⟩,⟨7,false,[],false⟩,⟨8,false,[],false⟩,⟨9,false,[],false⟩,⟨10,false,[],false⟩,⟨11,false,[],false⟩],[⟨0,false,[],false⟩,⟨1,false,[],false⟩,⟨2,false,[],false⟩,⟨3,false,[],false⟩,⟨4,false,[],false⟩,⟨5,false,[],false⟩,⟨9,false,[],false⟩,⟨6,true,[],false⟩,⟨7,false,[],false⟩,⟨8,true,[],false⟩,⟨10,false,[],false⟩,⟨11,false,[],false⟩]]=c} by apply Subtype.mk;simp only [go_sem,seval,f173];rfl).1
theorem e173 : dU Tryz.prog lab 173=some ⟨c173,[.tmp 8,.tmp 9],122⟩:=by kernel_rfl
def c174 : aA:=(show {c // CH f174 [[⟨0,false,[],true⟩,⟨1,false,[],false⟩,⟨2,false,[],false⟩,⟨3,true,[0],false⟩,⟨4,true,[],false⟩,⟨5,false,[],false⟩]]=c} by apply Subtype.mk;simp only [go_sem,seval,f174];rfl).1
theorem e174 : dU Tryz.prog lab 174=some ⟨c174,[.tmp 4],26⟩:=by kernel_rfl
def c176 : aA:=(show {c // CH f176 []=c} by apply Subtype.mk;simp only [go_sem,seval,f176];rfl).1
theorem e176 : dU Tryz.prog lab 176=some ⟨c176,[.tmp 4],13⟩:=by kernel_rfl
def c177 : aA:=(show {c // CH f177 []=c} by apply Subtype.mk;simp only [go_sem,seval,f177];rfl).1
theorem e177 : dU Tryz.prog lab 177=some ⟨c177,[],9⟩:=by kernel_rfl
def c178 : aA:=(show {c // CH f178 []=c} by apply Subtype.mk;simp only [go_sem,seval,f178];rfl).1
theorem e178 : dU Tryz.prog lab 178=some ⟨c178,[.tmp 4],16⟩:=by kernel_rfl
def c179 : aA:=(show {c // CH f179 []=c} by apply Subtype.mk;simp only [go_sem,seval,f179];rfl).1
theorem e179 : dU Tryz.prog lab 179=some ⟨c179,[.tmp 4],25⟩:=by kernel_rfl
def c180 : aA:=(show {c // CH f180 []=c} by apply Subtype.mk;simp only [go_sem,seval,f180];rfl).1
theorem e180 : dU Tryz.prog lab 180=some ⟨c180,[.tmp 4],20⟩:=by kernel_rfl
def c181 : aA:=(show {c // CH f181 []=c} by apply Subtype.mk;simp only [go_sem,seval,f181];rfl).1
theorem e181 : dU Tryz.prog lab 181=some ⟨c181,[.tmp 4],13⟩:=by kernel_rfl
def c182 : aA:=(show {c // CH f182 []=c} by apply Subtype.mk;simp only [go_sem,seval,f182];rfl).1
theorem e182 : dU Tryz.prog lab 182=some ⟨c182,[.tmp 6,.tmp 7],49⟩:=by kernel_rfl
def c183 : aA:=(show {c // CH f183 []=c} by apply Subtype.mk;simp only [go_sem,seval,f183];rfl).1
theorem e183 : dU Tryz.prog lab 183=some ⟨c183,[.tmp 4],9⟩:=by kernel_rfl
def c184 : aA:=(show {c // CH f184 []=c} by apply Subtype.mk;simp only [go_sem,seval,f184];rfl).1
theorem e184 : dU Tryz.prog lab 184=some ⟨c184,[],41⟩:=by kernel_rfl
def c185 : aA:=(show {c // CH f185 []=c} by apply Subtype.mk;simp only [go_sem,seval,f185];rfl).1
theorem e185 : dU Tryz.prog lab 185=some ⟨c185,[],7⟩:=by kernel_rfl
def c186 : aA:=(show {c // CH f186 []=c} by apply Subtype.mk;simp only [go_sem,seval,f186];rfl).1
theorem e186 : dU Tryz.prog lab 186=some ⟨c186,[],14⟩:=by kernel_rfl
end Go.V
