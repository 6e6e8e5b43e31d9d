/- Texts V3. -/
import Derived.Test.YtgmhpemjlbgfcaaGreatDoorG01
set_option linter.unusedVariables false
set_option linter.unusedSimpArgs false
namespace Go.V
def rP : Value→VV
 | .bool b=>.bool b
 | .int k n=>.int k n
 | .string s=>.str s.data.toList
 | .pointer none=>.nilp
 | .slice none 0 0=>.nils
 | .nilFunc=>.nilf
 | .nilIface=>.nili
 | _=>.undef
def WT : Value→VV
 | .agg a=>.agg (a.toList.map rP)
 | .iface t v=>.ifc t (rP v)
 | v=>rP v
structure aS where
 pre : Prop
 val : VV
 st : Store
def okV (v : VV) (σ : Store) : Option aS:=some ⟨True,v,σ⟩
def VV.cells : VV→List VV
 | .agg cs=>cs
 | v=>[v]
def VV.aC : VV→Bool
 | .agg _ | .tup _ | .undef=>false
 | _=>true
def aQ (xs : List VV) : Bool:=xs.all VV.aC
section
variable (P : Program)
def eH (t : TypeId) : Option Nat:=(P.info? t).map (·.size)
def Yr (t : TypeId) : Option Nat:=(P.info? t).map (·.bytes)
def iI (t : TypeId) : Option Bool:=(P.underlying t).map fun | .struct _ | .array _ _=>true | _=>false
def bG (t : TypeId) : Option (List VV):=(P.info? t).bind fun i=>i.zero.map fun v=>v.cells.toList.map rP
def iF (t : TypeId) : Option TypeId:=match P.underlying t with | some (.slice e)=>some e | _=>none
def sG (t : TypeId) : Option (Nat × TypeId):=match P.underlying t with | some (.array n e)=>some (n,e) | _=>none
def ji (t : TypeId) : Bool:=match P.underlying t with | some .string=>true | _=>false
def tint (t : TypeId) : Option IntKind:=match P.underlying t with | some (.int k)=>some k | _=>none
def Kz (t : TypeId) : Option Bool:=(P.underlying t).map fun | .interface _=>true | _=>false
def gU (s : TypeId) (f : Nat) : Option Nat:=match P.underlying s with
 | some (.struct fs)=>match fs[f]? with
  | some f=>match eH P f.type with
   | some (_+1)=>some f.offset
   | _=>none
  | none=>none
 | _=>none
def IX (s : TypeId) (f : Nat) : Option (TypeId × Nat):=match P.underlying s with
 | some (.struct fs)=>(fs[f]?).map fun f=>(f.type,f.offset)
 | _=>none
def bH (t : TypeId) (i : Nat) : Option (Nat × Nat):=match P.underlying t with
 | some (.struct fs)=>(fs[i]?).bind fun f=>(eH P f.type).map fun n=>(f.offset,n)
 | some (.array _ e)=>(eH P e).map fun n=>(i*n,n)
 | _=>none
def jK (t : TypeId) : Option Bool:=match P.underlying t with
 | some (.struct fs)=>some (fs.toList.all fun f=>(eH P f.type).isSome)
 | some (.array _ e)=>some (eH P e).isSome
 | _=>none
def Xq (t : TypeId) : Option (List (TypeId × Nat)):=match P.underlying t with
 | some (.struct fs)=>if P.stoodInHeld t then none else some ((fs.toList.filter fun f=>f.name ≠ "_").map fun f=>(f.type,f.offset))
 | _=>none
def WU (t : TypeId) : Bool:=((P.info? t).map (·.comparable)).getD false
end
section
variable (P : Program) (G : Nat→Option (List VV))
def ev (ρ : Env) : Operand→VV
 | .tmp t=>ρ.get t
 | .const v=>WT v
 | .global g=>match G g with | some cells=>.ptr cells 0 | none=>.undef
 | .func f=>.fn (.func f) [] []
def jY (t : TypeId) (cells : List VV) (off : Nat) (σ : Store) : Option aS :=
 match iI P t,eH P t with
 | some true,some n=>some ⟨off+n≤cells.length,.agg ((cells.drop off).take n),σ⟩
 | some false,_=>some ⟨off < cells.length,cells.getD off .undef,σ⟩
 | _,_=>none
def nC (t : TypeId) (cells : List VV) (off : Nat) (σ : Store) : Option aS :=
 match iI P t,eH P t with
 | some true,some n=>some ⟨off+n≤cells.length,.agg ((cells.drop off).take n),σ⟩
 | some false,_=>some ⟨off < cells.length,cells.getD off .undef,σ⟩
 | _,_=>none
def VV.uD : VV→Bool
 | .undef=>true
 | _=>false
def splice (old : List VV) (off : Nat) (xs : List VV) : List VV:=old.take off++(xs++old.drop (off+xs.length))
def dY (σ : Store) (id : Nat) : Option (List VV) :=
 match σ[id]? with
 | some (.own cells) | some (.kH cells)=>some cells
 | _=>none
def qo (place : Nat→Option (Nat × Nat)) (cells : List VV) : List (Nat × VV)→Option (List VV)
 | []=>some cells
 | (i,v)::rest =>
  match place i with
  | none=>none
  | some (off,size)=>if v.cells.length≠size∨off+v.cells.length > cells.length∨v.uD then none else qo place (splice cells off v.cells) rest
def jq (s : TypeId) (x : VV) (f : Nat) (σ : Store) : Option aS :=
 match gU P s f,x with
 | some o,.ptr cells off=>okV (.ptr cells (off+o)) σ
 | some o,.mptr id off=>okV (.mptr id (off+o)) σ
 | _,_=>none
def dI (t : TypeId) (x ix : VV) (σ : Store) : Option aS :=
 match ix with
 | .int _ i =>
  match iF P t,x with
  | some e,.sl n cells _=>(eH P e).map fun k=>⟨0≤i∧i < n,.ptr cells (i.toNat*k),σ⟩
  | some e,.bZ id off n sz=>if eH P e=some sz then some ⟨0≤i∧i < n,.mptr id (off+i.toNat*sz),σ⟩ else none
  | _,.ptr cells off=>match sG P t with
   | some (n,e)=>(eH P e).map fun k=>⟨0≤i∧i < n,.ptr cells (off+i.toNat*k),σ⟩
   | none=>none
  | _,.mptr id off=>match sG P t with
   | some (n,e)=>(eH P e).map fun k=>⟨0≤i∧i < n,.mptr id (off+i.toNat*k),σ⟩
   | none=>none
  | _,_=>none
 | _=>none
def jc (t : TypeId) (x ix : VV) (σ : Store) : Option aS :=
 match ix,x with
 | .int _ i,.str s=>if ji P t then some ⟨0≤i∧i < s.length,.int .u8 (s.getD i.toNat 0).toNat,σ⟩ else none
 | .int _ i,.agg cells=>match sG P t with
  | some (n,e)=>match eH P e with
   | some k=>match nC P e cells (i.toNat*k) σ with
    | some o=>some ⟨(0≤i∧i < n)∧o.pre,o.val,σ⟩
    | none=>none
   | none=>none
  | none=>none
 | _,_=>none
def zh (op : BinOp) (k : IntKind) (a b : Int) : Option (Prop × VV) :=
 match op with
 | .add=>some (True,.int k (k.wrap (a+b)))
 | .sub=>some (True,.int k (k.wrap (a-b)))
 | .mul=>some (True,.int k (k.wrap (a*b)))
 | .quo=>some (b≠0,.int k (k.wrap (a.tdiv b)))
 | .rem=>some (b≠0,.int k (a.tmod b))
 | .and=>some (True,.int k (k.wrap (BitVec.ofInt k.bits a &&& BitVec.ofInt k.bits b).toNat))
 | .or=>some (True,.int k (k.wrap (BitVec.ofInt k.bits a ||| BitVec.ofInt k.bits b).toNat))
 | .xor=>some (True,.int k (k.wrap (BitVec.ofInt k.bits a ^^^ BitVec.ofInt k.bits b).toNat))
 | .andNot=>some (True,.int k (k.wrap (BitVec.ofInt k.bits a &&& ~~~BitVec.ofInt k.bits b).toNat))
 | .eql=>some (True,.bool (a == b))
 | .neq=>some (True,.bool (a != b))
 | .lss=>some (True,.bool (decide (a < b)))
 | .leq=>some (True,.bool (decide (a≤b)))
 | .gtr=>some (True,.bool (decide (a > b)))
 | .geq=>some (True,.bool (decide (a≥b)))
 | _=>none
def He (op : BinOp) (k : IntKind) (a b : Int) : Option (Prop × VV) :=
 match op with
 | .shl=>some (0≤b,.int k (k.wrap (a*2 ^ (min b.toNat k.bits))))
 | .shr=>some (0≤b,.int k (a.fdiv (2 ^ (min b.toNat k.bits))))
 | _=>none
def Fp (op : BinOp) (a b : List UInt8) : Option (Prop × VV) :=
 match op with
 | .add=>some ((a.length+b.length : Int)≤9223372036854775807,.str (a++b))
 | .eql=>some (True,.bool (a == b))
 | .neq=>some (True,.bool (!(a == b)))
 | .lss=>some (True,.bool (Op.bytesLess a b))
 | .leq=>some (True,.bool (Op.bytesLess a b || a == b))
 | .gtr=>some (True,.bool (!(Op.bytesLess a b || a == b)))
 | .geq=>some (True,.bool (!(Op.bytesLess a b)))
 | _=>none
def VV.gK : VV→Bool
 | .nili=>true
 | _=>false
def VV.tZ : VV→Bool
 | .undef | .int .. | .str _ | .tup _=>false
 | _=>true
def partOf (t : TypeId) (cells : List VV) (off : Nat) : Option VV :=
 match iI P t,eH P t with
 | some true,some n=>if off+n≤cells.length then some (.agg ((cells.drop off).take n)) else none
 | some false,_=>cells[off]?
 | _,_=>none
def Ci : Nat→TypeId→VV→VV→Option Bool
 | 0,_,_,_=>none
 | d+1,t,x,y =>
  match P.underlying t,x,y with
  | some .bool,.bool a,.bool b=>some (a == b)
  | some (.int _),.int k a,.int k' b=>if k=k' then some (a == b) else none
  | some .string,.str a,.str b=>some (a == b)
  | some (.pointer _),.nilp,.nilp=>some true
  | some (.pointer _),.nilp,.ptr .. | some (.pointer _),.nilp,.mptr .. | some (.pointer _),.ptr ..,.nilp | some (.pointer _),.mptr ..,.nilp=>some false
  | some (.slice _),.nils,.nils=>some true
  | some (.slice _),.nils,.sl .. | some (.slice _),.nils,.bZ .. | some (.slice _),.sl ..,.nils | some (.slice _),.bZ ..,.nils=>some false
  | some (.interface _),.nili,.nili=>some true
  | some (.interface _),.nili,.ifc .. | some (.interface _),.ifc ..,.nili=>some false
  | some (.interface _),.ifc tx vx,.ifc ty vy=>if tx≠ty then some false else if WU P tx then Ci d tx vx vy else none
  | some (.func ..),.nilf,.nilf=>some true
  | some (.func ..),.nilf,.fn .. | some (.func ..),.fn ..,.nilf=>some false
  | some (.struct _),.agg xs,.agg ys =>
   match Xq P t with
   | some fs=>fs.foldr (fun (f : TypeId × Nat) acc=>match partOf P f.1 xs f.2,partOf P f.1 ys f.2 with
     | some a,some b=>match Ci d f.1 a b,acc with
      | some r,some r'=>some (r && r')
      | _,_=>none
     | _,_=>none) (some true)
   | none=>none
  | _,_,_=>none
def vK : Operand→Bool
 | .const _=>true
 | _=>false
def VV.isAgg : VV→Bool
 | .agg _=>true
 | _=>false
def lV (op : BinOp) (t : TypeId) (x y : Operand) (a b : VV) (σ : Store) : Option aS :=
 if !(a.tZ && b.tZ) then none else
 if a.gK && b.gK && !(vK x || vK y) then none else
 if a.isAgg && b.isAgg && P.eqGuardType P.depth t then none else
 match op with
 | .eql=>(Ci P 9 t a b).map fun r=>⟨True,.bool r,σ⟩
 | .neq=>(Ci P 9 t a b).map fun r=>⟨True,.bool (!r),σ⟩
 | _=>none
def mV (op : BinOp) (t : TypeId) (x y : Operand) (a b : VV) (σ : Store) : Option aS :=
 match a,b with
 | .int k m,.int k' n =>
  match op with
  | .shl | .shr=>(He op k m n).map fun r=>⟨r.1,r.2,σ⟩
  | _=>if k=k' then (zh op k m n).map fun r=>⟨r.1,r.2,σ⟩ else none
 | .str m,.str n=>(Fp op m n).map fun r=>⟨r.1,r.2,σ⟩
 | a,b=>lV P op t x y a b σ
def zT (op : UnOp) (x : VV) (σ : Store) : Option aS :=
 match op,x with
 | .neg,.int k n=>okV (.int k (k.wrap (0-n))) σ
 | .not,.bool b=>okV (.bool !b) σ
 | _,_=>none
def bytesOf (cells : List VV) : Option (List UInt8):=cells.mapM fun | .int .u8 n=>some (UInt8.ofNat n.toNat) | _=>none
def aU (b : UInt8) : VV:=.int .u8 b.toNat
def eG (σ : Store) (size : Nat) : VV→Option (List VV)
 | .nils=>some []
 | .sl n cells _=>if cells.length=n*size then some cells else none
 | .bZ id off n sz=>match dY σ id with
  | some cells=>if sz=size∧off+n*sz≤cells.length then some ((cells.drop off).take (n*sz)) else none
  | none=>none
 | _=>none
def kK : VV→Option Nat
 | .nils=>some 0
 | .sl n _ _=>some n
 | .bZ _ _ n _=>some n
 | .str s=>some s.length
 | _=>none
def eY (src dst : TypeId) (x : VV) (σ : Store) : Option aS :=
 match x with
 | .int _ n=>match tint P dst,(P.underlying src).isSome with
  | some k,true=>okV (.int k (k.wrap n)) σ
  | _,_=>none
 | .str s=>if ji P src && ji P dst then okV (.str s) σ else none
 | .nils | .sl .. | .bZ ..=>match iF P src with
  | some e=>if tint P e=some .u8∧ji P dst=true∧eH P e=some 1 then
    match eG σ 1 x with
    | some cells=>(bytesOf cells).map fun s=>⟨True,.str s,σ⟩
    | none=>none
   else none
  | none=>none
 | _=>none
def jy (ρ : Env) : Option Operand→Option (Option Int)
 | none=>some none
 | some o=>match ev G ρ o with
  | .int _ n=>some (some n)
  | _=>none
def bounds (n : Nat) (lo hi : Option Int) : Prop × Nat × Nat :=
 let h:=(hi.getD n).toNat
 let l:=(lo.getD 0).toNat
 ((0≤lo.getD 0∧lo.getD 0≤hi.getD n)∧hi.getD n≤n,l,h)
def dX (t : TypeId) (x : VV) (lo hi mx : Option Int) (σ : Store) : Option aS :=
 match x with
 | .str s=>match ji P t,mx with
  | true,none=>let b:=bounds s.length lo hi;some ⟨b.1,.str ((s.drop b.2.1).take (b.2.2-b.2.1)),σ⟩
  | _,_=>none
 | .nils=>match iF P t with
  | some e=>match eH P e with
   | some _=>let b:=bounds 0 lo hi;some ⟨b.1∧mx=none,.nils,σ⟩
   | none=>none
  | none=>none
 | .sl n cells tight=>match iF P t with
  | some e=>match eH P e with
   | some k =>
    let b:=bounds n lo hi
    some ⟨b.1∧(mx=none∨(mx=some (b.2.2 : Int)∧mx=hi))∧cells.length=n*k,.sl (b.2.2-b.2.1) ((cells.drop (b.2.1*k)).take ((b.2.2-b.2.1)*k)) (mx.isSome || (tight && decide (b.2.2=n))),σ⟩
   | none=>none
  | none=>none
 | .bZ id off n sz=>match iF P t with
  | some e=>if eH P e=some sz∧mx=none then
    let b:=bounds n lo hi
    some ⟨b.1∧0 < sz,if b.2.1=b.2.2∧0 < b.2.1 then .sl 0 [] false else .bZ id (off+b.2.1*sz) (b.2.2-b.2.1) sz,σ⟩
   else none
  | none=>none
 | .mptr id off=>match sG P t with
  | some (n,e)=>match eH P e,mx,dY σ id with
   | some k,none,some cells =>
    let b:=bounds n lo hi
    some ⟨b.1∧b.2.1 < b.2.2∧0 < k∧off+n*k≤cells.length,.bZ id (off+b.2.1*k) (b.2.2-b.2.1) k,σ⟩
   | _,_,_=>none
  | none=>none
 | _=>none
def aT (t : TypeId) (x : VV) (σ : Store) : Option aS :=
 match P.underlying t,x with
 | some .string,.str s=>okV (.int .i64 s.length) σ
 | some (.array n _),_=>okV (.int .i64 n) σ
 | some (.slice _),x=>match x with
  | .nils=>okV (.int .i64 0) σ
  | .sl n _ _=>okV (.int .i64 n) σ
  | .bZ _ _ n _=>okV (.int .i64 n) σ
  | _=>none
 | some (.map _ _),.mmap id=>match σ[id]? with
  | some (.mp es)=>okV (.int .i64 es.length) σ
  | _=>none
 | _,_=>none
def aJ (σ : Store) (size : Nat) (tx : TypeId) (x : VV) : Option (Nat × List VV) :=
 match x with
 | .str s=>if ji P tx∧size=1 then some (s.length,s.map aU) else none
 | x=>match iF P tx,kK x,eG σ size x with
  | some _,some n,some cells=>some (n,cells)
  | _,_,_=>none
def bF (t tx : TypeId) (s x : VV) (σ : Store) : Option aS :=
 match iF P t with
 | none=>none
 | some e=>match eH P e,Yr P e,bG P e with
  | some k,some by_,some z=>match aJ P σ k tx x with
   | none=>none
   | some (m,news) =>
    let fits (n : Nat) : Prop:=n+m≤1099511627776∧(n+m)*by_≤140737488355328∧news.length=m*k∧0 < k∧aQ news=true∧z.length=k
    match s with
    | .nils=>if m=0 then okV .nils σ else some ⟨fits 0,.bZ σ.length 0 m k,σ++[.own news]⟩
    | .sl n cells tight =>
     if m=0 then okV (.sl n cells tight) σ
     else if tight then some ⟨fits n∧cells.length=n*k∧aQ cells=true,.bZ σ.length 0 (n+m) k,σ++[.own (cells++news)]⟩
     else none
    | .bZ id off n sz=>match σ[id]? with
     | some (.own cells)=>if sz=k then some ⟨fits n∧off+n*k≤cells.length∧aQ ((cells.drop off).take (n*k))=true,.bZ σ.length 0 (n+m) k,σ.set id .dead++[.own ((cells.drop off).take (n*k)++news)]⟩ else none
     | _=>none
    | _=>none
  | _,_,_=>none
def jw (t tx : TypeId) (d x : VV) (σ : Store) : Option aS :=
 match iF P t with
 | none=>none
 | some e=>match eH P e with
  | none=>none
  | some k=>match aJ P σ k tx x,d with
   | some (m,news),.bZ id off n sz=>match σ[id]? with
    | some (.own cells)=>if sz=k then
      some ⟨news.length=m*k∧off+n*k≤cells.length∧aQ news=true∧0 < k,.int .i64 (Nat.min m n),σ.set id (.own (splice cells off (news.take (Nat.min m n*k))))⟩ else none
    | _=>none
   | some (m,news),.nils=>some ⟨news.length=m*k,.int .i64 0,σ⟩
   | some (m,news),.sl 0 _ _=>some ⟨news.length=m*k,.int .i64 0,σ⟩
   | _,_=>none
def rep (z : List VV) : Nat→List VV
 | 0=>[]
 | n+1=>z++rep z n
def gy (t : TypeId) (l c : VV) (σ : Store) : Option aS :=
 match iF P t with
 | none=>none
 | some e=>match eH P e,Yr P e,bG P e,l,c with
  | some k,some by_,some z,.int _ l,.int _ c =>
   some ⟨0≤l∧l≤c∧c≤1099511627776∧(by_ : Int)*c≤281474976710656∧z.length=k∧0 < k,.bZ σ.length 0 l.toNat k,σ++[.own (rep z l.toNat)]⟩
  | _,_,_,_,_=>none
def iP (x : VV) (at_ : TypeId) (commaOk : Bool) (σ : Store) : Option aS :=
 match Kz P at_,x with
 | some false,.ifc t v=>if t=at_ then okV (if commaOk then .tup [v,.bool true] else v) σ
   else if commaOk && (bG P at_).isSome then okV (.tup [.undef,.bool false]) σ else none
 | some false,.nili=>if commaOk && (bG P at_).isSome then okV (.tup [.undef,.bool false]) σ else none
 | _,_=>none
def yH (t : TypeId) : Option VV:=match (P.info? t).bind (·.zero) with
 | some (.agg _)=>none
 | some v=>some (rP v)
 | none=>none
def pU (mx : Bool) : VV→VV→Option VV
 | .int k x,.int _ y=>some (.int k (if mx then (if y > x then y else x) else (if y < x then y else x)))
 | _,_=>none
def ig : List (List UInt8 × VV)→List UInt8→Option VV
 | [],_=>none
 | (k,v)::r,s=>if s == k then some v else ig r s
def iL : List (List UInt8 × VV)→List UInt8→VV→List (List UInt8 × VV)
 | [],s,v=>[(s,v)]
 | (k,u)::r,s,v=>if s == k then (k,v)::r else (k,u)::iL r s v
def uV (t : TypeId) : Option TypeId:=match P.underlying t with
 | some (.map k e)=>if ji P k then some e else none
 | _=>none
def je (b : Builtin) (ts : Array TypeId) (xs : List VV) (σ : Store) : Option aS :=
 match b,xs with
 | .len,[x]=>match ts[0]? with
  | some t=>aT P t x σ
  | none=>none
 | .append,[s,x]=>match ts[0]?,ts[1]? with
  | some t,some tx=>bF P t tx s x σ
  | _,_=>none
 | .copy,[d,x]=>match ts[0]?,ts[1]? with
  | some t,some tx=>jw P t tx d x σ
  | _,_=>none
 | .max,[x,y]=>(pU true x y).map fun v=>⟨True,v,σ⟩
 | .min,[x,y]=>(pU false x y).map fun v=>⟨True,v,σ⟩
 | _,_=>none
def dZ (ρ : Env) (σ : Store) (o : Oper) : Option aS :=
 match o.op with
 | .move x | .assign x=>okV (ev G ρ x) σ
 | .pick c a b=>match ev G ρ c with
  | .bool t=>okV (if t then ev G ρ a else ev G ρ b) σ
  | _=>none
 | .alloc t=>match bG P t with
  | some z=>if aQ z then okV (.mptr σ.length 0) (σ++[.own z]) else none
  | none=>none
 | .box _ x=>some ⟨aQ (ev G ρ x).cells=true,.mptr σ.length 0,σ++[.own (ev G ρ x).cells]⟩
 | .build t parts=>match bG P t,jK P t with
  | some z,some true=>(qo (bH P t) z (parts.toList.map fun p=>(p.1,ev G ρ p.2))).map fun cs=>⟨True,.agg cs,σ⟩
  | _,_=>none
 | .buildSlice t n parts=>match iF P t with
  | some e=>match eH P e,bG P e with
   | some k,some z=>if n*k > 16777216∨z.length≠k∨k=0 then none else
    (qo (fun i=>some (i*k,k)) (rep z n) (parts.toList.map fun p=>(p.1,ev G ρ p.2))).map fun cs=>⟨True,.sl n cs true,σ⟩
   | _,_=>none
  | none=>none
 | .load t a=>match ev G ρ a with
  | .ptr cells off=>jY P t cells off σ
  | .mptr id off=>match dY σ id with
   | some cells=>jY P t cells off σ
   | none=>none
  | _=>none
 | .store t a x=>match ev G ρ a with
  | .mptr id off=>match σ[id]? with
   | some (.own cells) =>
    let xs:=(ev G ρ x).cells
    some ⟨eH P t=some xs.length∧off+xs.length≤cells.length∧aQ xs=true,.undef,σ.set id (.own (splice cells off xs))⟩
   | _=>none
  | _=>none
 | .nilCheck x=>match ev G ρ x with
  | .ptr cells off=>okV (.ptr cells off) σ
  | .mptr id off=>okV (.mptr id off) σ
  | _=>none
 | .binOp op t x y _=>mV P op t x y (ev G ρ x) (ev G ρ y) σ
 | .unOp op _ x=>zT op (ev G ρ x) σ
 | .convert s d x=>eY P s d (ev G ρ x) σ
 | .makeInterface t x=>match Kz P t with
  | some false=>okV (.ifc t (ev G ρ x)) σ
  | _=>none
 | .makeFunc f first caps=>match f with
  | .yield _=>none
  | f=>okV (.fn f (first.toList.map (ev G ρ)) (caps.toList.map (ev G ρ))) σ
 | .makeMap _ none=>okV (.mmap σ.length) (σ++[.mp []])
 | .makeSlice t l c=>gy P t (ev G ρ l) (ev G ρ c) σ
 | .slice t x lo hi mx=>match jy G ρ lo,jy G ρ hi,jy G ρ mx with
  | some lo,some hi,some mx=>dX P t (ev G ρ x) lo hi mx σ
  | _,_,_=>none
 | .fieldAddr s x f=>jq P s (ev G ρ x) f σ
 | .field s x f=>match IX P s f,ev G ρ x with
  | some (t,off),.agg cells=>nC P t cells off σ
  | _,_=>none
 | .indexAddr t x ix=>dI P t (ev G ρ x) (ev G ρ ix) σ
 | .index t x ix=>jc P t (ev G ρ x) (ev G ρ ix) σ
 | .lookup t m k commaOk=>match uV P t,ev G ρ m,ev G ρ k with
  | some e,.mmap id,.str s=>match σ[id]?,yH P e with
   | some (.mp es),some z=>okV (if commaOk then .tup [(ig es s).getD z,.bool (ig es s).isSome] else (ig es s).getD z) σ
   | _,_=>none
  | _,_,_=>none
 | .mapUpdate t m k x=>match uV P t,ev G ρ m,ev G ρ k with
  | some _,.mmap id,.str s=>match σ[id]? with
   | some (.mp es)=>okV .undef (σ.set id (.mp (iL es s (ev G ρ x))))
   | _=>none
  | _,_,_=>none
 | .typeAssert x _ a c=>iP P (ev G ρ x) a c σ
 | .extract x i=>match ev G ρ x with
  | .tup vs=>match vs[i]? with
   | some v=>okV v σ
   | none=>none
  | _=>none
 | .call c=>match c.callee with
  | .builtin b=>je P b c.argTypes (c.args.toList.map (ev G ρ)) σ
  | _=>none
 | _=>none
end
end Go.V
