/- Texts W1 W2. -/
import Derived.Test.YtgmhpemjlbgfcaaGreatDoorG12
set_option linter.unusedVariables false
set_option linter.unusedSimpArgs false
namespace Go.V
noncomputable section
variable (P : Program) (G : Nat→Option (List VV))
def Qy (ρ : Env) : Nat→VV:=List.rec (fun _=>.undef) (fun kv _ ih t=>match Nat.beq kv.1 t with
 | true=>kv.2
 | false=>ih t) ρ
def fQ (ρ : Env) : Operand→VV
 | .tmp t=>Qy ρ t
 | .const v=>WT v
 | .global g=>match G g with | some cells=>.ptr cells 0 | none=>.undef
 | .func f=>.fn (.func f) [] []
def mF (t : TypeId) (cells : List VV) (off : Nat) : Bool:=match iI P t,eH P t with
 | some true,some n=>Nat.ble (off+n) cells.length
 | some false,_=>Nat.blt off cells.length
 | _,_=>false
def inB (i : Int) (n : Nat) : Bool:=decide (0≤i) && decide (i < n)
def yO (op : BinOp) : VV→VV→Bool
 | .int _ _,.int _ n=>match op with
  | .quo | .rem=>decide (n≠0)
  | .shl | .shr=>decide (0≤n)
  | _=>true
 | .str m,.str n=>match op with
  | .add=>decide ((m.length+n.length : Int)≤9223372036854775807)
  | _=>true
 | _,_=>true
def RS (t : TypeId) (x ix : VV) : Bool:=match ix with
 | .int _ i =>
  match iF P t,x with
  | some _,.sl n _ _=>inB i n
  | some _,.bZ _ _ n _=>inB i n
  | _,.ptr _ _=>match sG P t with
   | some (n,_)=>inB i n
   | none=>false
  | _,.mptr _ _=>match sG P t with
   | some (n,_)=>inB i n
   | none=>false
  | _,_=>false
 | _=>false
def P5 (t : TypeId) (x ix : VV) : Bool:=match ix,x with
 | .int _ i,.str s=>inB i s.length
 | .int _ i,.agg cells=>match sG P t with
  | some (n,e)=>match eH P e with
   | some k=>inB i n && mF P e cells (i.toNat*k)
   | none=>false
  | none=>false
 | _,_=>false
def Hl (n : Nat) (lo hi : Option Int) : Bool:=decide (0≤lo.getD 0) && decide (lo.getD 0≤hi.getD n) && decide (hi.getD n≤n)
def RZ (t : TypeId) (x : VV) (lo hi mx : Option Int) (σ : Store) : Bool:=match x with
 | .str s=>Hl s.length lo hi
 | .nils=>Hl 0 lo hi && mx.isNone
 | .sl n cells _=>match iF P t with
  | some e=>match eH P e with
   | some k=>Hl n lo hi && (mx.isNone || (decide (mx=some ((bounds n lo hi).2.2 : Int)) && decide (mx=hi))) && Nat.beq cells.length (n*k)
   | none=>false
  | none=>false
 | .bZ _ _ n sz=>Hl n lo hi && Nat.blt 0 sz
 | .mptr id off=>match sG P t with
  | some (n,e)=>match eH P e,dY σ id with
   | some k,some cells=>Hl n lo hi && Nat.blt (bounds n lo hi).2.1 (bounds n lo hi).2.2 && Nat.blt 0 k && Nat.ble (off+n*k) cells.length
   | _,_=>false
  | none=>false
 | _=>false
def yw (m k by_ zl : Nat) (news : List VV) (n : Nat) : Bool:=decide (n+m≤1099511627776) && decide ((n+m)*by_≤140737488355328) && Nat.beq news.length (m*k) && Nat.blt 0 k && aQ news && Nat.beq zl k
def Je (t tx : TypeId) (s x : VV) (σ : Store) : Bool:=match iF P t with
 | none=>false
 | some e=>match eH P e,Yr P e,bG P e with
  | some k,some by_,some z=>match aJ P σ k tx x with
   | none=>false
   | some (m,news)=>match s with
    | .nils=>m == 0 || yw m k by_ z.length news 0
    | .sl n cells _=>m == 0 || (yw m k by_ z.length news n && Nat.beq cells.length (n*k) && aQ cells)
    | .bZ id off n _=>match σ[id]? with
     | some (.own cells)=>yw m k by_ z.length news n && Nat.ble (off+n*k) cells.length && aQ ((cells.drop off).take (n*k))
     | _=>false
    | _=>false
  | _,_,_=>false
def CS (t tx : TypeId) (d x : VV) (σ : Store) : Bool:=match iF P t with
 | none=>false
 | some e=>match eH P e with
  | none=>false
  | some k=>match aJ P σ k tx x,d with
   | some (m,news),.bZ id off n _=>match σ[id]? with
    | some (.own cells)=>Nat.beq news.length (m*k) && Nat.ble (off+n*k) cells.length && aQ news && Nat.blt 0 k
    | _=>false
   | some (m,news),.nils=>Nat.beq news.length (m*k)
   | some (m,news),.sl 0 _ _=>Nat.beq news.length (m*k)
   | _,_=>false
def F7 (t : TypeId) (l c : VV) : Bool:=match iF P t with
 | none=>false
 | some e=>match eH P e,Yr P e,bG P e,l,c with
  | some k,some by_,some z,.int _ l,.int _ c=>decide (0≤l) && decide (l≤c) && decide (c≤1099511627776) && decide ((by_ : Int)*c≤281474976710656) && Nat.beq z.length k && Nat.blt 0 k
  | _,_,_,_,_=>false
def yI (ρ : Env) : Option Operand→Option (Option Int)
 | none=>some none
 | some o=>match fQ G ρ o with
  | .int _ n=>some (some n)
  | _=>none
def VQ (op : Op) (ρ : Env) (σ : Store) : Option aS:=match op with
 | .move x | .assign x=>okV (fQ G ρ x) σ
 | .pick c a b=>IC (fQ G ρ c) (fQ G ρ a) (fQ G ρ b) σ
 | .alloc t=>Xf P t σ
 | .box _ x=>Rt (fQ G ρ x) σ
 | .build t ps=>GV P t (ps.toList.map fun p=>(p.1,fQ G ρ p.2)) σ
 | .buildSlice t n ps=>TP P t n (ps.toList.map fun p=>(p.1,fQ G ρ p.2)) σ
 | .load t a=>Xe P t (fQ G ρ a) σ
 | .store t a x=>Xd P t (fQ G ρ a) (fQ G ρ x) σ
 | .nilCheck a=>Rl (fQ G ρ a) σ
 | .binOp op t x y _=>mV P op t x y (fQ G ρ x) (fQ G ρ y) σ
 | .unOp op _ x=>zT op (fQ G ρ x) σ
 | .convert s d x=>eY P s d (fQ G ρ x) σ
 | .makeInterface t x=>Us P t (fQ G ρ x) σ
 | .makeFunc (.func f) first caps=>okV (.fn (.func f) (first.toList.map (fQ G ρ)) (caps.toList.map (fQ G ρ))) σ
 | .makeMap _ none=>okV (.mmap σ.length) (σ++[.mp []])
 | .makeSlice t l c=>gy P t (fQ G ρ l) (fQ G ρ c) σ
 | .slice t x lo hi mx=>QL P t (fQ G ρ x) (yI G ρ lo) (yI G ρ hi) (yI G ρ mx) σ
 | .fieldAddr s x f=>jq P s (fQ G ρ x) f σ
 | .field s x f=>Vb P s (fQ G ρ x) f σ
 | .indexAddr t x i=>dI P t (fQ G ρ x) (fQ G ρ i) σ
 | .index t x i=>jc P t (fQ G ρ x) (fQ G ρ i) σ
 | .typeAssert x _ a c=>iP P (fQ G ρ x) a c σ
 | .extract x i=>QZ (fQ G ρ x) i σ
 | .call ⟨.builtin b,args,ts⟩=>je P b ts (args.toList.map (fQ G ρ)) σ
 | op=>dZ P G ρ σ ⟨none,op,0, "",#[],none⟩
def Oo (ρ : Env) (σ : Store) (op : Op) : Bool:=match op with
 | .box _ x=>aQ (fQ G ρ x).cells
 | .load t a=>match fQ G ρ a with
  | .ptr cells off=>mF P t cells off
  | .mptr id off=>match dY σ id with
   | some cells=>mF P t cells off
   | none=>false
  | _=>false
 | .store t a x=>match fQ G ρ a with
  | .mptr id off=>match σ[id]? with
   | some (.own cells)=>match eH P t with
    | some n=>Nat.beq n (fQ G ρ x).cells.length && Nat.ble (off+(fQ G ρ x).cells.length) cells.length && aQ (fQ G ρ x).cells
    | none=>false
   | _=>false
  | _=>false
 | .binOp op _ x y _=>yO op (fQ G ρ x) (fQ G ρ y)
 | .makeSlice t l c=>F7 P t (fQ G ρ l) (fQ G ρ c)
 | .slice t x lo hi mx=>match yI G ρ lo,yI G ρ hi,yI G ρ mx with
  | some lo,some hi,some mx=>RZ P t (fQ G ρ x) lo hi mx σ
  | _,_,_=>false
 | .field s x f=>match IX P s f,fQ G ρ x with
  | some (t,off),.agg cells=>mF P t cells off
  | _,_=>false
 | .indexAddr t x ix=>RS P t (fQ G ρ x) (fQ G ρ ix)
 | .index t x ix=>P5 P t (fQ G ρ x) (fQ G ρ ix)
 | .call c=>match c.callee with
  | .builtin b=>match b,c.args.toList.map (fQ G ρ) with
   | .append,[s,x]=>match c.argTypes[0]?,c.argTypes[1]? with
    | some t,some tx=>Je P t tx s x σ
    | _,_=>false
   | .copy,[d,x]=>match c.argTypes[0]?,c.argTypes[1]? with
    | some t,some tx=>CS P t tx d x σ
    | _,_=>false
   | _,_=>true
  | _=>true
 | _=>true
end
variable {P : Program} {G : Nat→Option (List VV)}
theorem CY : ∀ (ρ : Env) (t : Nat),Qy ρ t=ρ.get t
 | [],_=>rfl
 | (k,v)::r,t=>by
  show (match Nat.beq k t with | true=>v | false=>Qy r t)=Env.get ((k,v)::r) t
  unfold Env.get
  cases h : Nat.beq k t with
  | true=>rw [if_pos (Nat.eq_of_beq_eq_true h)]
  | false=>rw [if_neg (Nat.ne_of_beq_eq_false h)];exact CY r t
theorem dF (ρ : Env) : fQ G ρ=ev G ρ:=by
 funext x
 cases x with
 | tmp t=>exact CY ρ t
 | _=>rfl
theorem IJ (ρ : Env) : yI G ρ=jy G ρ:=by
 funext x
 cases x with
 | none=>rfl
 | some o=>simp only [yI,jy,dF];rfl
theorem NU {op : Op} {ty : TypeId} {ρ : Env} {σ : Store} : VQ P G op ρ σ=dZ P G ρ σ ⟨none,op,ty, "",#[],none⟩:=by
 unfold VQ
 split<;>(try simp only [dF,IJ])<;>rfl
theorem sU {a b : Nat} (h : Nat.blt a b=true) : a < b:=Nat.le_of_ble_eq_true h
theorem qO {i : Int} {n : Nat} (h : inB i n=true) : 0≤i∧i < n:=by simpa [inB] using h
theorem qE {n : Nat} {lo hi : Option Int} (h : Hl n lo hi=true) : (bounds n lo hi).1:=by simpa [Hl,bounds] using h
theorem qF {v : VV} {σ : Store} {out : aS} (h : okV v σ=some out) : out.pre:=by cases h;trivial
theorem lZ {t : TypeId} {cells : List VV} {off : Nat} {σ : Store} {out : aS} (hc : mF P t cells off=true) (h : jY P t cells off σ=some out) : out.pre:=by
 unfold mF at hc;unfold jY at h
 split at h<;>simp_all
 ·cases h;trivial
 ·cases h;trivial
theorem wS {t : TypeId} {cells : List VV} {off : Nat} {σ : Store} {out : aS} (hc : mF P t cells off=true) (h : nC P t cells off σ=some out) : out.pre:=lZ (σ:=σ) hc h
theorem Pj {op : BinOp} {t : TypeId} {x y : Operand} {a b : VV} {σ : Store} {out : aS} (hc : yO op a b=true) (h : mV P op t x y a b σ=some out) : out.pre:=by
 unfold mV at h
 split at h
 ·rename_i k m k' n
  split at h
  ·simp only [yO,decide_eq_true_eq] at hc
   simp only [He,Option.map_some,Option.some.injEq] at h
   subst h;exact hc
  ·simp only [yO,decide_eq_true_eq] at hc
   simp only [He,Option.map_some,Option.some.injEq] at h
   subst h;exact hc
  ·rename_i n1 n2
   split at h
   ·unfold zh at h
    unfold yO at hc
    cases op<;>simp at h hc<;>first | (subst h;exact hc) | (subst h;trivial) | cases h
   ·cases h
 ·unfold Fp at h
  unfold yO at hc
  cases op<;>simp at h hc<;>first | (subst h;exact hc) | (subst h;trivial) | cases h
 ·unfold lV at h
  repeat' split at h
  all_goals first
   | cases h;done
   | (rw [Option.map_eq_some_iff] at h;obtain ⟨_,_,rfl⟩:=h;trivial)
theorem Ql {t : TypeId} {x ix : VV} {σ : Store} {out : aS} (hc : RS P t x ix=true) (h : dI P t x ix σ=some out) : out.pre:=by
 unfold dI at h
 unfold RS at hc
 split at h
 ·rename_i kk i
  simp only at hc
  split at h
  ·rename_i h1;simp only [h1] at hc
   rw [Option.map_eq_some_iff] at h;obtain ⟨_,_,rfl⟩:=h;exact qO hc
  ·rename_i h1;simp only [h1] at hc
   split at h
   ·cases h;exact qO hc
   ·cases h
  ·rename_i h1
   split at h
   ·rename_i h2
    rw [Option.map_eq_some_iff] at h;obtain ⟨_,_,rfl⟩:=h
    cases ht : iF P t<;>simp only [ht,h2] at hc<;>exact qO hc
   ·cases h
  ·split at h
   ·rename_i h2
    rw [Option.map_eq_some_iff] at h;obtain ⟨_,_,rfl⟩:=h
    cases ht : iF P t<;>simp only [ht,h2] at hc<;>exact qO hc
   ·cases h
  ·cases h
 ·cases h
theorem Ri {t : TypeId} {x ix : VV} {σ : Store} {out : aS} (hc : P5 P t x ix=true) (h : jc P t x ix σ=some out) : out.pre:=by
 unfold jc at h
 unfold P5 at hc
 split at h
 ·simp only at hc
  split at h
  ·cases h;exact qO hc
  ·cases h
 ·simp only at hc
  split at h
  ·rename_i h1;simp only [h1] at hc
   split at h
   ·rename_i h2;simp only [h2,Bool.and_eq_true] at hc
    split at h
    ·rename_i h3;cases h;exact ⟨qO hc.1,wS hc.2 h3⟩
    ·cases h
   ·cases h
  ·cases h
 ·cases h
theorem Rj {t : TypeId} {x : VV} {lo hi mx : Option Int} {σ : Store} {out : aS} (hc : RZ P t x lo hi mx σ=true) (h : dX P t x lo hi mx σ=some out) : out.pre:=by
 unfold dX at h
 unfold RZ at hc
 split at h
 ·split at h
  ·cases h;exact qE hc
  ·cases h
 ·simp only [Bool.and_eq_true,Option.isNone_iff_eq_none] at hc
  repeat' split at h
  all_goals first
   | cases h;done
   | (cases h;exact ⟨qE hc.1,hc.2⟩)
 ·split at h
  ·rename_i h1;simp only [h1] at hc
   split at h
   ·rename_i h2;simp only [h2,Bool.and_eq_true,Bool.or_eq_true,decide_eq_true_eq,Option.isNone_iff_eq_none] at hc
    cases h;exact ⟨qE hc.1.1,hc.1.2,Nat.eq_of_beq_eq_true hc.2⟩
   ·cases h
  ·cases h
 ·simp only [Bool.and_eq_true] at hc
  split at h
  ·split at h
   ·cases h;exact ⟨qE hc.1,sU hc.2⟩
   ·cases h
  ·cases h
 ·split at h
  ·rename_i h1;simp only [h1] at hc
   split at h
   ·rename_i h2 h3;simp only [h2,h3,Bool.and_eq_true] at hc
    cases h;exact ⟨qE hc.1.1.1,sU hc.1.1.2,sU hc.1.2,Nat.le_of_ble_eq_true hc.2⟩
   ·cases h
  ·cases h
 ·cases h
theorem wL {m k by_ zl n : Nat} {news : List VV} (h : yw m k by_ zl news n=true) : n+m≤1099511627776∧(n+m)*by_≤140737488355328∧news.length=m*k∧0 < k∧aQ news=true∧zl=k:=by
 simp only [yw,Bool.and_eq_true,decide_eq_true_eq] at h
 obtain ⟨⟨⟨⟨⟨a,b⟩,c⟩,d⟩,e⟩,f⟩:=h
 exact ⟨a,b,Nat.eq_of_beq_eq_true c,sU d,e,Nat.eq_of_beq_eq_true f⟩
theorem MO {t tx : TypeId} {s x : VV} {σ : Store} {out : aS} (hc : Je P t tx s x σ=true) (h : bF P t tx s x σ=some out) : out.pre:=by
 unfold bF at h
 unfold Je at hc
 split at h
 ·cases h
 ·rename_i e h1;simp only [h1] at hc
  split at h
  ·rename_i k by_ z h2 h3 h4;simp only [h2,h3,h4] at hc
   split at h
   ·cases h
   ·rename_i m news h5;simp only [h5] at hc
    split at h
    ·simp only [Bool.or_eq_true,beq_iff_eq] at hc
     split at h
     ·exact qF h
     ·rename_i hm;cases h;exact wL (hc.resolve_left hm)
    ·simp only [Bool.or_eq_true,beq_iff_eq,Bool.and_eq_true] at hc
     split at h
     ·exact qF h
     ·rename_i hm
      split at h
      ·cases h
       obtain ⟨⟨a,b⟩,c⟩:=hc.resolve_left hm
       exact ⟨wL a,Nat.eq_of_beq_eq_true b,c⟩
      ·cases h
    ·split at h
     ·rename_i h6;simp only [h6,Bool.and_eq_true] at hc
      split at h
      ·cases h;exact ⟨wL hc.1.1,Nat.le_of_ble_eq_true hc.1.2,hc.2⟩
      ·cases h
     ·cases h
    ·cases h
  ·cases h
theorem Lp {t tx : TypeId} {d x : VV} {σ : Store} {out : aS} (hc : CS P t tx d x σ=true) (h : jw P t tx d x σ=some out) : out.pre:=by
 unfold jw at h
 unfold CS at hc
 split at h
 ·cases h
 ·rename_i e h1;simp only [h1] at hc
  split at h
  ·cases h
  ·rename_i k h2;simp only [h2] at hc
   split at h
   ·rename_i h3;simp only [h3] at hc
    split at h
    ·rename_i h4;simp only [h4,Bool.and_eq_true] at hc
     split at h
     ·cases h;exact ⟨Nat.eq_of_beq_eq_true hc.1.1.1,Nat.le_of_ble_eq_true hc.1.1.2,hc.1.2,sU hc.2⟩
     ·cases h
    ·cases h
   ·rename_i h3;simp only [h3] at hc;cases h;exact Nat.eq_of_beq_eq_true hc
   ·rename_i h3;simp only [h3] at hc;cases h;exact Nat.eq_of_beq_eq_true hc
   ·cases h
theorem JB {t : TypeId} {l c : VV} {σ : Store} {out : aS} (hc : F7 P t l c=true) (h : gy P t l c σ=some out) : out.pre:=by
 unfold gy at h
 unfold F7 at hc
 split at h
 ·cases h
 ·rename_i e h1;simp only [h1] at hc
  split at h
  ·rename_i h2 h3 h4;simp only [h2,h3,h4,Bool.and_eq_true,decide_eq_true_eq] at hc
   cases h
   obtain ⟨⟨⟨⟨⟨a,b⟩,c⟩,d⟩,e⟩,f⟩:=hc
   exact ⟨a,b,c,d,Nat.eq_of_beq_eq_true e,sU f⟩
  ·cases h
theorem QN {ρ : Env} {σ : Store} {op : Op} {ty : TypeId} {out : aS} (hc : Oo P G ρ σ op=true) (h : dZ P G ρ σ ⟨none,op,ty, "",#[],none⟩=some out) : out.pre:=by
 unfold Oo at hc
 simp only [dF,IJ] at hc
 cases op with
 | box t x=>simp only [dZ,Option.some.injEq] at h;subst h;exact hc
 | load t a =>
  simp only [dZ] at h
  simp only at hc
  split at h
  ·rename_i h1;simp only [h1] at hc;exact lZ hc h
  ·rename_i h1;simp only [h1] at hc
   split at h
   ·rename_i h2;simp only [h2] at hc;exact lZ hc h
   ·cases h
  ·cases h
 | store t a x =>
  simp only [dZ] at h
  simp only at hc
  split at h
  ·rename_i h1;simp only [h1] at hc
   split at h
   ·rename_i h2;simp only [h2] at hc
    split at hc
    ·rename_i h3
     simp only [Bool.and_eq_true] at hc
     cases h
     exact ⟨by rw [h3,Nat.eq_of_beq_eq_true hc.1.1],Nat.le_of_ble_eq_true hc.1.2,hc.2⟩
    ·cases hc
   ·cases h
  ·cases h
 | binOp op t x y u=>exact Pj hc h
 | makeSlice t l c=>exact JB hc h
 | slice t x lo hi mx =>
  simp only [dZ] at h
  simp only at hc
  split at h
  ·rename_i h1 h2 h3;simp only [h1,h2,h3] at hc;exact Rj hc h
  ·cases h
 | field s x f =>
  simp only [dZ] at h
  simp only at hc
  split at h
  ·rename_i h1 h2;simp only [h1,h2] at hc;exact wS hc h
  ·cases h
 | indexAddr t x ix=>exact Ql hc h
 | index t x ix=>exact Ri hc h
 | call c =>
  obtain ⟨callee,args,ts⟩:=c
  cases callee with
  | builtin b =>
   simp only [dZ,je] at h
   simp only at hc
   split at h
   ·split at h
    ·rename_i x h1 t h2
     unfold aT at h
     repeat' split at h
     all_goals first
      | exact qF h
      | cases h
    ·cases h
   ·rename_i h1;simp only [h1] at hc
    split at h
    ·rename_i h2 h3;simp only [h2,h3] at hc;exact MO hc h
    ·cases h
   ·rename_i h1;simp only [h1] at hc
    split at h
    ·rename_i h2 h3;simp only [h2,h3] at hc;exact Lp hc h
    ·cases h
   ·rw [Option.map_eq_some_iff] at h;obtain ⟨_,_,rfl⟩:=h;trivial
   ·rw [Option.map_eq_some_iff] at h;obtain ⟨_,_,rfl⟩:=h;trivial
   ·cases h
  | _=>simp [dZ] at h
 | build t ps =>
  simp only [dZ] at h
  split at h
  ·rw [Option.map_eq_some_iff] at h;obtain ⟨_,_,rfl⟩:=h;trivial
  ·cases h
 | buildSlice t n ps =>
  simp only [dZ] at h
  repeat' split at h
  all_goals first
   | cases h;done
   | (rw [Option.map_eq_some_iff] at h;obtain ⟨_,_,rfl⟩:=h;trivial)
 | makeMap t r =>
  cases r with
  | none=>exact qF h
  | some _=>simp [dZ] at h
 | makeFunc f as bs=>cases f<;>first | exact qF h | (simp [dZ] at h;done)
 | _ =>
  simp only [dZ,zT,eY,jq,iP] at h
  repeat' split at h
  all_goals first
   | exact qF h
   | cases h;done
   | (rw [Option.map_eq_some_iff] at h;obtain ⟨_,_,rfl⟩:=h;trivial)
def stay : Op→Bool
 | .alloc _ | .box .. | .store .. | .makeMap .. | .makeSlice .. | .mapUpdate ..=>false
 | .call ⟨.builtin b,_,_⟩=>match b with
  | .append | .copy=>false
  | _=>true
 | _=>true
theorem H7 {v : VV} {σ : Store} {out : aS} (h : okV v σ=some out) : out.st=σ:=by cases h;rfl
theorem En {t : TypeId} {cells : List VV} {off : Nat} {σ : Store} {out : aS} (h : jY P t cells off σ=some out) : out.st=σ:=by
 unfold jY at h
 repeat' split at h
 all_goals (cases h;try rfl)
theorem Jt {ρ : Env} {σ : Store} {op : Op} {ty : TypeId} {out : aS} (hs : stay op=true) (h : dZ P G ρ σ ⟨none,op,ty, "",#[],none⟩=some out) : out.st=σ:=by
 cases op with
 | load t a =>
  simp only [dZ] at h
  repeat' split at h
  all_goals first
   | exact En h
   | cases h
 | field s x f =>
  simp only [dZ] at h
  split at h
  ·exact En (P:=P) h
  ·cases h
 | binOp op t x y u =>
  simp only [dZ,mV,lV] at h
  repeat' split at h
  all_goals first
   | cases h;done
   | (rw [Option.map_eq_some_iff] at h;obtain ⟨_,_,rfl⟩:=h;rfl)
 | slice t x lo hi mx =>
  simp only [dZ,dX] at h
  repeat' split at h
  all_goals first
   | (cases h;done)
   | (cases h;rfl)
 | indexAddr t x ix =>
  simp only [dZ,dI] at h
  repeat' split at h
  all_goals first
   | cases h;done
   | (cases h;rfl)
   | (rw [Option.map_eq_some_iff] at h;obtain ⟨_,_,rfl⟩:=h;rfl)
 | index t x ix =>
  simp only [dZ,jc] at h
  repeat' split at h
  all_goals first
   | cases h;done
   | (cases h;rfl)
 | call c =>
  obtain ⟨callee,args,ts⟩:=c
  cases callee with
  | builtin b =>
   simp only [dZ,je] at h
   split at h
   ·split at h
    ·unfold aT at h
     repeat' split at h
     all_goals first
      | exact H7 h
      | cases h
    ·cases h
   ·simp [stay] at hs
   ·simp [stay] at hs
   ·rw [Option.map_eq_some_iff] at h;obtain ⟨_,_,rfl⟩:=h;rfl
   ·rw [Option.map_eq_some_iff] at h;obtain ⟨_,_,rfl⟩:=h;rfl
   ·cases h
  | _=>simp [dZ] at h
 | build t ps =>
  simp only [dZ] at h
  split at h
  ·rw [Option.map_eq_some_iff] at h;obtain ⟨_,_,rfl⟩:=h;rfl
  ·cases h
 | buildSlice t n ps =>
  simp only [dZ] at h
  repeat' split at h
  all_goals first
   | cases h;done
   | (rw [Option.map_eq_some_iff] at h;obtain ⟨_,_,rfl⟩:=h;rfl)
 | alloc=>simp [stay] at hs
 | box=>simp [stay] at hs
 | store=>simp [stay] at hs
 | makeMap=>simp [stay] at hs
 | makeSlice=>simp [stay] at hs
 | mapUpdate=>simp [stay] at hs
 | makeFunc f as bs=>cases f<;>first | exact H7 h | (simp [dZ] at h;done)
 | _ =>
  simp only [dZ,zT,eY,jq,iP] at h
  repeat' split at h
  all_goals first
   | exact H7 h
   | cases h;done
   | (rw [Option.map_eq_some_iff] at h;obtain ⟨_,_,rfl⟩:=h;rfl)
mutual
def VV.beq : VV→VV→Bool
 | .undef,.undef=>true
 | .bool a,.bool b=>a == b
 | .int k a,.int k' b=>decide (k=k') && decide (a=b)
 | .str a,.str b=>a == b
 | .nilp,.nilp | .nils,.nils | .nilf,.nilf | .nili,.nili=>true
 | .ptr xs o,.ptr ys p=>VV.YR xs ys && o == p
 | .sl n xs t,.sl m ys u=>n == m && VV.YR xs ys && t == u
 | .mptr i o,.mptr j p=>i == j && o == p
 | .bZ i o n z,.bZ j p m y=>i == j && o == p && n == m && z == y
 | .mmap i,.mmap j=>i == j
 | .fn f as bs,.fn g cs ds=>decide (f=g) && VV.YR as cs && VV.YR bs ds
 | .yield i,.yield j=>i == j
 | .ifc t x,.ifc u y=>t == u && VV.beq x y
 | .agg xs,.agg ys=>VV.YR xs ys
 | .tup xs,.tup ys=>VV.YR xs ys
 | _,_=>false
def VV.YR : List VV→List VV→Bool
 | [],[]=>true
 | x::xs,y::ys=>VV.beq x y && VV.YR xs ys
 | _,_=>false
end
mutual
theorem VV.beq_eq : ∀ (x y : VV),VV.beq x y=true→x=y:=by
 intro x y h
 cases x<;>cases y<;>simp [VV.beq] at h<;>first
  | rfl
  | simp [h];done
  | (obtain ⟨h1,h2⟩:=h;have:=VV.qH _ _ h1;simp_all;done)
  | (obtain ⟨⟨h1,h2⟩,h3⟩:=h;have:=VV.qH _ _ h2;simp_all;done)
  | (obtain ⟨⟨h1,h2⟩,h3⟩:=h;have:=VV.qH _ _ h2;have:=VV.qH _ _ h3;simp_all;done)
  | (obtain ⟨h1,h2⟩:=h;have:=VV.beq_eq _ _ h2;simp_all;done)
  | (have:=VV.qH _ _ h;simp_all;done)
  | omega
theorem VV.qH : ∀ (xs ys : List VV),VV.YR xs ys=true→xs=ys
 | [],[],_=>rfl
 | x::xs,y::ys,h=>by
  simp only [VV.YR,Bool.and_eq_true] at h
  rw [VV.beq_eq x y h.1,VV.qH xs ys h.2]
 | [],_::_,h=>by simp [VV.YR] at h
 | _::_,[],h=>by simp [VV.YR] at h
end
end Go.V
namespace Go.V
inductive RT where
 | ops (l : List VO) (ρ : Env) (σ : Store)
 | code (c : aA) (ρ : Env) (σ : Store)
 | draw (l : List DO) (pd : List (Nat × Op × TypeId × Env × VV)) (ρ : Env) (σ : Store)
 | call (f : FuncId) (xs : List VV) (σ : Store)
 | body (f : FuncId) (xs : List VV) (σ : Store)
 | yield (id : Nat) (xs : List VV) (σ : Store)
inductive RR where
 | out (o : Out) (ρ : Env) (σ : Store)
 | fin (r : gY) (σ : Store)
 | pan (x : VV) (σ : Store)
inductive OK where
 | call (f : Operand) (args : List Operand)
 | panic (x : Operand)
 | other
def qp : Op→OK
 | .call ⟨.value f,args,_⟩=>.call f args.toList
 | .panic x=>.panic x
 | _=>.other
noncomputable section
variable (P : Program) (G : Nat→Option (List VV)) (lab : FuncId→Bool) (orc : FuncId→List VV→Option VV) (pur : FuncId→Bool)
def FK : List ResultVar→Env→Store→Option (List VV)
 | [],_,_=>some []
 | .tmp t::r,ρ,σ=>(FK r ρ σ).map (ρ.get t::·)
 | .cell a t::r,ρ,σ=>match ρ.get a with
  | .mptr id off=>match dY σ id with
   | some cells=>match mF P t cells off,jY P t cells off σ with
    | true,some out=>(FK r ρ σ).map (out.val::·)
    | _,_=>none
   | none=>none
  | _=>none
def Jk (ρ : Env) : Option (Nat × Bool)→Option Bool
 | none=>some true
 | some (t,b)=>match Qy ρ t with
  | .bool c=>some (c == b)
  | .tup []=>some false
  | _=>none
def WV (σ : Store) : List VV→Option (List VV)
 | []=>some []
 | x::xs=>match fz 20 σ x with
  | some y=>match WV σ xs with
   | some ys=>some (y::ys)
   | none=>none
  | none=>none
def Sj (op : Op) (ty : TypeId) (ρ : Env) (σ : Store) : Option (VV × Store):=match Oo P G ρ σ op with
 | true=>match VQ P G op ρ σ with
  | some out=>some (out.val,out.st)
  | none=>none
 | false=>none
def pB (x : VV) : Bool:=VV.rec (motive_1:=fun _=>Bool) (motive_2:=fun _=>Bool) false (fun _=>true) (fun _ _=>true) (fun _=>true) true true true true (fun _ _ i=>i) (fun _ _ _ i=>i) (fun _ _=>false) (fun _ _ _ _=>false) (fun _=>false) (fun _ _ _ i j=>i && j) (fun _=>false) (fun _ _ i=>i) (fun _ i=>i) (fun _ i=>i) (fun _=>true) true (fun _ _ i j=>i && j) x
def Vk (xs : List VV) : Bool:=List.rec (motive:=fun _=>Bool) true (fun x _ i=>pB x && i) xs
inductive OC where
 | val (v : VV) (σ : Store)
 | call (f : Operand) (args : List Operand)
 | panic (x : Operand)
 | no
def Bg : Option aS→Bool→OC
 | some out,true=>.val out.val out.st
 | _,_=>.no
def XJ (t : TypeId) (v : VV) (σ : Store) : Bool:=match v with
 | .ptr cells off=>mF P t cells off
 | .mptr id off=>match dY σ id with
  | some cells=>mF P t cells off
  | none=>false
 | _=>false
def XB (t : TypeId) (a x : VV) (σ : Store) : Bool:=match a with
 | .mptr id off=>match σ[id]? with
  | some (.own cells)=>match eH P t with
   | some n=>Nat.beq n x.cells.length && Nat.ble (off+x.cells.length) cells.length && aQ x.cells
   | none=>false
  | _=>false
 | _=>false
def Ya (b : Builtin) (ts : Array TypeId) (xs : List VV) (σ : Store) : OC:=Bg (je P b ts xs σ) (match b,xs with
 | .append,[s,x]=>match ts[0]?,ts[1]? with
  | some t,some tx=>Je P t tx s x σ
  | _,_=>false
 | .copy,[d,x]=>match ts[0]?,ts[1]? with
  | some t,some tx=>CS P t tx d x σ
  | _,_=>false
 | _,_=>true)
def X9 (t : TypeId) (x : VV) (lo hi mx : Option (Option Int)) (σ : Store) : OC:=Bg (QL P t x lo hi mx σ) (match lo,hi,mx with
 | some lo,some hi,some mx=>RZ P t x lo hi mx σ
 | _,_,_=>false)
def Xz (op : Op) (ρ : Env) (σ : Store) : OC:=Bg (VQ P G op ρ σ) (Oo P G ρ σ op)
def Oe (op : Op) (ρ : Env) (σ : Store) : OC:=match op with
 | .move x=>.val (fQ G ρ x) σ
 | .assign x=>.val (fQ G ρ x) σ
 | .load t a=>Bg (Xe P t (fQ G ρ a) σ) (XJ P t (fQ G ρ a) σ)
 | .store t a x=>Bg (Xd P t (fQ G ρ a) (fQ G ρ x) σ) (XB P t (fQ G ρ a) (fQ G ρ x) σ)
 | .binOp b t x y _=>Bg (mV P b t x y (fQ G ρ x) (fQ G ρ y) σ) (yO b (fQ G ρ x) (fQ G ρ y))
 | .fieldAddr t x f=>Bg (jq P t (fQ G ρ x) f σ) true
 | .pick c a b=>Bg (IC (fQ G ρ c) (fQ G ρ a) (fQ G ρ b) σ) true
 | .extract x i=>Bg (QZ (fQ G ρ x) i σ) true
 | .nilCheck x=>Bg (Rl (fQ G ρ x) σ) true
 | .indexAddr t x i=>Bg (dI P t (fQ G ρ x) (fQ G ρ i) σ) (RS P t (fQ G ρ x) (fQ G ρ i))
 | .index t x i=>Bg (jc P t (fQ G ρ x) (fQ G ρ i) σ) (P5 P t (fQ G ρ x) (fQ G ρ i))
 | .alloc t=>Bg (Xf P t σ) true
 | .box _ x=>Bg (Rt (fQ G ρ x) σ) (aQ (fQ G ρ x).cells)
 | .slice t x lo hi mx=>X9 P t (fQ G ρ x) (yI G ρ lo) (yI G ρ hi) (yI G ρ mx) σ
 | .call ⟨.value f,args,_⟩=>.call f args.toList
 | .call ⟨.builtin b,args,ts⟩=>Ya P b ts (args.toList.map (fQ G ρ)) σ
 | .panic x=>.panic x
 | op=>Xz P G op ρ σ
def Si (chk : List Nat) (pd : List (Nat × Op × TypeId × Env × VV)) (σ : Store) : Bool:=pd.all fun p=>!(chk.contains p.1) || (match qp p.2.1 with
 | .other=>stay p.2.1 && (match Sj P G p.2.1 p.2.2.1 p.2.2.2.1 σ with
  | some (v,_)=>VV.beq v p.2.2.2.2
  | none=>false)
 | _=>false)
def wY : Nat→Store→VV→List Nat
 | 0,_,_=>[]
 | n+1,σ,x=>match x.isPure with
  | true=>[]
  | false=>match x with
   | .mptr id _ | .bZ id _ _ _=>id::(match dY σ id with
    | some cells=>cells.flatMap (wY n σ)
    | none=>[])
   | .ptr cells _ | .sl _ cells _ | .agg cells | .tup cells=>cells.flatMap (wY n σ)
   | .ifc _ y=>wY n σ y
   | .fn _ as bs=>as.flatMap (wY n σ)++bs.flatMap (wY n σ)
   | _=>[]
def pq : List Nat→Store→Store
 | [],σ=>σ
 | id::r,σ=>match σ[id]? with
  | some (.own cells)=>pq r (σ.set id (.kH cells))
  | _=>pq r σ
def Hq : Out→Option (Option VV)
 | .normal | .ret=>some none
 | .panic x=>some (some x)
 | _=>none
def Tz : Option Code→Option Out
 | none=>some .normal
 | some .ret=>some .ret
 | some (.exit i)=>some (.exit i)
 | _=>none
def keeps : aA→Bool
 | .skip=>true
 | .reg ops=>ops.all fun o=>match qp o.op with
  | .other=>true
  | _=>false
 | .seq a b=>keeps a && keeps b
 | _=>false
def Yf (f : FuncId) : Bool:=match P.funcs[f]? with
 | some fn=>match fn.body with
  | some (.seq _ (.seq _ (.seq (.region _ ops false) _)))=>(Gy ops.toList).isSome
  | _=>false
 | none=>false
def dQ (ih : RT→Option RR) (f : Operand) (args : List Operand) (d : Option Nat) (r : List VO) (ρ : Env) (σ : Store) : Option RR:=match fQ G ρ f with
 | .fn (.func g) first caps=>match ay P g with
  | true=>match ih (.call g (first++args.map (fQ G ρ)++caps) σ) with
   | some (.fin (.ret x) σ')=>ih (.ops r (dB ρ d x) σ')
   | some (.fin (.panic x) σ')=>some (.out (.panic x) ρ σ')
   | _=>none
  | false=>none
 | .yield id=>match ih (.yield id (args.map (fQ G ρ)) σ) with
  | some (.fin (.ret x) σ')=>ih (.ops r (dB ρ d x) σ')
  | some (.fin (.panic x) σ')=>some (.out (.panic x) ρ σ')
  | _=>none
 | _=>none
def gI (x : VV) (ρ : Env) (σ : Store) : Option RR:=match x with
 | .ifc t v=>some (.out (.panic (.ifc t v)) ρ σ)
 | _=>none
def stOp (ih : RT→Option RR) (o : VO) (r : List VO) (ρ : Env) (σ : Store) : Option RR:=match Oe P G o.op ρ σ with
 | .val v σ'=>ih (.ops r (dB ρ o.dst v) σ')
 | .no=>none
 | .panic x=>gI (fQ G ρ x) ρ σ
 | .call f args=>dQ P G ih f args o.dst r ρ σ
def gQ (ih : RT→Option RR) (l : List VO) (ρ : Env) (σ : Store) : Option RR:=match l with
 | []=>some (.out .normal ρ σ)
 | o::r=>match Jk ρ o.g with
  | none=>none
  | some false=>ih (.ops r (dB ρ o.dst (.tup [])) σ)
  | some true=>stOp P G ih o r ρ σ
def bT (ih : RT→Option RR) (g : Operand) (ps : List Nat) (m : Nat) (x y : Code) (ρ : Env) (σ : Store) : Option RR:=match fQ G ρ g with
 | .fn (.func f) first caps=>match ay P f with
  | true=>match ih (.call f (first++[.yield σ.length]++caps) (σ++[.loop ⟨m,ρ,ps,x,y,.ready,none⟩])) with
   | some (.fin (.ret _) σ')=>match σ'[σ.length]? with
    | some (.loop l)=>match l.state,Tz l.pending with
     | .busy,_=>none
     | _,some o=>some (.out o ρ (σ'.set σ.length .dead))
     | _,none=>none
    | _=>none
   | some (.fin (.panic x) σ')=>some (.out (.panic x) ρ σ')
   | _=>none
  | false=>none
 | _=>none
def dP (ih : RT→Option RR) (c : aA) (ρ : Env) (σ : Store) : Option RR:=match c with
 | .skip=>some (.out .normal ρ σ)
 | .exit id=>some (.out (.exit id) ρ σ)
 | .goto l=>some (.out (.goto l) ρ σ)
 | .ret=>some (.out .ret ρ σ)
 | .seq a b=>match ih (.code a ρ σ) with
  | some (.out .normal ρ' σ')=>ih (.code b ρ' σ')
  | r=>r
 | .cond x a b=>match fQ G ρ x with
  | .bool true=>ih (.code a ρ σ)
  | .bool false=>ih (.code b ρ σ)
  | _=>none
 | .block id b=>match ih (.code b ρ σ) with
  | some (.out (.exit j) ρ' σ')=>some (.out (if j=id then .normal else .exit j) ρ' σ')
  | r=>r
 | .scope b=>match ih (.code b ρ σ) with
  | some (.out (.goto _) _ _)=>none
  | r=>r
 | .loop b=>match ih (.code b ρ σ) with
  | some (.out .normal ρ' σ')=>ih (.code (.loop b) ρ' σ')
  | r=>r
 | .reg ops=>ih (.ops ops ρ σ)
 | .draw ds=>ih (.draw ds [] ρ σ)
 | .rangeF g ps m _ _ x y=>bT P G ih g ps m x y ρ σ
def bQ (ih : RT→Option RR) (f : Operand) (args : List Operand) (o : DO) (r : List DO) (pd : List (Nat × Op × TypeId × Env × VV)) (ρ : Env) (σ : Store) : Option RR:=match fQ G ρ f with
 | .fn (.func g) first caps=>match ay P g with
  | true=>match ih (.call g (first++args.map (fQ G ρ)++caps) σ) with
   | some (.fin (.ret x) σ')=>match Si P G o.chk pd σ' with
    | true=>ih (.draw r pd (dB ρ o.dst x) σ')
    | false=>none
   | some (.fin (.panic x) σ')=>some (.pan x σ')
   | _=>none
  | false=>none
 | .yield id=>match ih (.yield id (args.map (fQ G ρ)) σ) with
  | some (.fin (.ret x) σ')=>match Si P G o.chk pd σ' with
   | true=>ih (.draw r pd (dB ρ o.dst x) σ')
   | false=>none
  | some (.fin (.panic x) σ')=>some (.pan x σ')
  | _=>none
 | _=>none
def bV (ih : RT→Option RR) (f : Operand) (args : List Operand) (o : DO) (r : List DO) (pd : List (Nat × Op × TypeId × Env × VV)) (ρ : Env) (σ : Store) : Option RR:=match fQ G ρ f with
 | .fn (.func g) first caps=>match ay P g,Vk (first++args.map (fQ G ρ)++caps) with
  | true,true=>match ih (.call g (first++args.map (fQ G ρ)++caps) []) with
   | some (.fin (.ret y) σ')=>match fz 20 (σ'.map Obj.fr) y with
    | some x=>match x.isPure with
     | true=>ih (.draw r (if o.save then (o.ix,o.op,o.ty,ρ,x)::pd else pd) (dB ρ o.dst x) σ)
     | false=>none
    | none=>none
   | _=>none
  | _,_=>none
 | _=>none
def dR (ih : RT→Option RR) (l : List DO) (pd : List (Nat × Op × TypeId × Env × VV)) (ρ : Env) (σ : Store) : Option RR:=match l with
 | []=>some (.out .normal ρ σ)
 | o::r=>match Jk ρ o.g with
  | none=>none
  | some false=>ih (.draw r pd (dB ρ o.dst (.tup [])) σ)
  | some true=>match o.eff with
   | true=>match Oe P G o.op ρ σ with
    | .val v σ'=>match Si P G o.chk pd σ' with
     | true=>ih (.draw r pd (dB ρ o.dst v) σ')
     | false=>none
    | .no=>none
    | .panic _=>none
    | .call f args=>bQ P G ih f args o r pd ρ σ
   | false=>match Oe P G o.op ρ σ with
    | .val v _=>match stay o.op with
     | true=>ih (.draw r (if o.save then (o.ix,o.op,o.ty,ρ,v)::pd else pd) (dB ρ o.dst v) σ)
     | false=>none
    | .no=>none
    | .panic _=>none
    | .call f args=>bV P G ih f args o r pd ρ σ
def dK (ih : RT→Option RR) (f : FuncId) (xs ys : List VV) (σ σ2 : Store) : Option RR:=match ih (.body f ys []) with
 | some (.fin (.ret y) σ')=>match pB y with
  | true=>some (.fin (.ret y) σ2)
  | false=>match fz 20 (σ'.map Obj.fr) y with
   | some x=>match pB x with
    | true=>some (.fin (.ret x) σ2)
    | false=>none
   | none=>none
 | some (.fin (.panic _) _)=>ih (.body f xs σ)
 | _=>none
def fZ (ih : RT→Option RR) (f : FuncId) (xs : List VV) (σ : Store) : Option RR:=match WV (pq (xs.flatMap (wY 20 σ)) σ) xs with
 | none=>ih (.body f xs σ)
 | some ys=>match Vk ys with
  | true=>dK ih f xs ys σ (pq (xs.flatMap (wY 20 σ)) σ)
  | false=>none
def bU (ih : RT→Option RR) (f : FuncId) (xs : List VV) (σ : Store) : Option RR:=match orc f xs with
 | some y=>some (.fin (.ret y) σ)
 | none=>match pur f with
  | false=>ih (.body f xs σ)
  | true=>match Vk xs with
   | true=>dK ih f xs xs σ σ
   | false=>fZ ih f xs σ
def bW (ih : RT→Option RR) (f : FuncId) (xs : List VV) (σ : Store) : Option RR:=match U3 P lab f with
 | none=>none
 | some D=>match Nat.ble xs.length D.n with
  | false=>none
  | true=>match ih (.code D.va (dH 0 xs) σ) with
   | some (.out .normal ρ1 σ1)=>match ih (.code D.vb ρ1 σ1) with
    | some (.out .normal ρ2 σ2)=>match ih (.ops [D.o] ρ2 σ2) with
     | some (.out .normal ρ3 σ3)=>match ρ3.get D.t with
      | .fn (.func g) [] caps=>match ay P g,Uc P lab g with
       | true,some E=>match Nat.ble caps.length E.n with
        | true=>match ih (.code D.vc ρ3 σ3) with
         | some (.out o4 ρ4 σ4)=>match Hq o4 with
          | some X=>match ih (.code E.code ((E.t2,X.getD .nili)::(E.t1,X.getD .nili)::dH 0 caps) σ4) with
           | some (.out o5 ρ5 σ5)=>match Hq o5,FK P E.res ρ5 σ5,FK P D.res ρ4 σ5 with
            | some none,some _,some ys=>some (.fin (.ret (lI ys)) σ5)
            | _,_,_=>none
           | _=>none
          | none=>none
         | _=>none
        | false=>none
       | _,_=>none
      | _=>none
     | _=>none
    | _=>none
   | _=>none
def dN (ih : RT→Option RR) (f : FuncId) (xs : List VV) (σ : Store) : Option RR:=match Yf P f with
 | false=>match dU P lab f with
  | none=>none
  | some F=>match Nat.ble xs.length F.n with
   | true=>match ih (.code F.code (dH 0 xs) σ) with
    | some (.out o ρ' σ')=>match Hq o with
     | some none=>match FK P F.res ρ' σ' with
      | some ys=>some (.fin (.ret (lI ys)) σ')
      | none=>none
     | some (some x)=>some (.fin (.panic x) σ')
     | none=>none
    | some (.pan x σ')=>some (.fin (.panic x) σ')
    | _=>none
   | false=>none
 | true=>bW P lab ih f xs σ
def bY (ih : RT→Option RR) (id : Nat) (xs : List VV) (σ : Store) : Option RR:=match σ[id]? with
 | some (.loop l)=>match l.state,l.pending,comp lab l.n l.assign,comp lab l.n l.body with
  | .ready,none,some va,some vb=>match va.flat && vb.flat && keeps va && Nat.beq l.params.length xs.length && l.params.all (fun p=>Nat.blt p l.n) with
   | true=>match ih (.code va (oK l.params xs l.tmps) σ) with
    | some (.out .normal ρ1 σ1)=>match ih (.code vb ρ1 (σ1.set id (.loop { l with state:=.busy }))) with
     | some (.out .normal _ σ2)=>some (.fin (.ret (.bool true)) (σ2.set id (.loop l)))
     | some (.out .ret _ σ2)=>some (.fin (.ret (.bool false)) (σ2.set id (.loop { l with state:=.done,pending:=some .ret })))
     | some (.out (.exit i) _ σ2)=>some (.fin (.ret (.bool false)) (σ2.set id (.loop { l with state:=.done,pending:=some (.exit i) })))
     | _=>none
    | _=>none
   | false=>none
  | _,_,_,_=>none
 | _=>none
def step (ih : RT→Option RR) : RT→Option RR
 | .ops l ρ σ=>gQ P G ih l ρ σ
 | .code c ρ σ=>dP P G ih c ρ σ
 | .draw l pd ρ σ=>dR P G ih l pd ρ σ
 | .call f xs σ=>bU orc pur ih f xs σ
 | .body f xs σ=>dN P lab ih f xs σ
 | .yield id xs σ=>bY lab ih id xs σ
def run (n : Nat) : RT→Option RR:=Nat.rec (fun _=>none) (fun _ ih=>step P G lab orc pur ih) n
def OI : RT→RR→Prop
 | .ops l ρ σ,.out o ρ' σ'=>∀ Q : Out→Env→Store→Prop,Q o ρ' σ'→bM P G l Q ρ σ
 | .ops l ρ σ,.pan x σ'=>∀ Q : Out→Env→Store→Prop,(∀ ρ',Q (.panic x) ρ' σ')→bM P G l Q ρ σ
 | .code c ρ σ,.pan x σ'=>∀ Q : Out→Env→Store→Prop,(∀ ρ',Q (.panic x) ρ' σ')→iO P G c Q ρ σ
 | .draw l pd ρ σ,.pan x σ'=>∀ Q : Out→Env→Store→Prop,(∀ ρ',Q (.panic x) ρ' σ')→aV P G l pd Q ρ σ
 | .code c ρ σ,.out o ρ' σ'=>∀ Q : Out→Env→Store→Prop,Q o ρ' σ'→iO P G c Q ρ σ
 | .draw l pd ρ σ,.out o ρ' σ'=>∀ Q : Out→Env→Store→Prop,Q o ρ' σ'→aV P G l pd Q ρ σ
 | .call f xs σ,.fin r σ'=>CV P G f xs σ fun r' σ''=>r'=r∧σ''=σ'
 | .body f xs σ,.fin r σ'=>CV P G f xs σ fun r' σ''=>r'=r∧σ''=σ'
 | .yield id xs σ,.fin r σ'=>YV P G id xs σ fun r' σ''=>r'=r∧σ''=σ'
 | _,_=>False
end
end Go.V
