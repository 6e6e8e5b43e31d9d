/- Texts J21. -/
import Derived.Carry
import Derived.ChangeMaps5
import Derived.JoinedOf
import Derived.LaidHandle
import Derived.RowKit
import Derived.SevenTiedAt
import Derived.Test.YtgmhpemjlbgfcaaGreatDoorCards
import Derived.Test.YtgmhpemjlbgfcaaGreatDoorG34
import Derived.Test.YtgmhpemjlbgfcaaGreatDoorG42
import Derived.Test.YtgmhpemjlbgfcaaGreatDoorG43
set_option linter.unusedVariables false
set_option linter.unusedSimpArgs false
namespace Go.V
open Go.Proofs Go.Proofs.YtgmhpemjlbgfcaaGreatDoor
open Go.ChangeShapes Go.WideShapes Go.ChangeAt Go.RowKit
set_option maxRecDepth 100000
theorem sJ : Tryz.prog.underlying 3=some (.int .i64):=by kernel_rfl
theorem UD : Tryz.prog.underlying 4=some .bool:=by kernel_rfl
theorem SQ : Tryz.prog.cellsOf 24=2:=by kernel_rfl
theorem SX : Tryz.prog.cellsOf 22=1:=by kernel_rfl
theorem Qx : Tryz.prog.cellsOf 3=1:=by kernel_rfl
def Oz : Field:={ name := "Seed",type:=22,offset:=0,embedded:=false,tag := "",pkgPath := "",byteOffset:=0 }
def MS : Field:={ name := "Bits",type:=3,offset:=1,embedded:=false,tag := "",pkgPath := "",byteOffset:=8 }
theorem N8 : Tryz.prog.underlying 24=some (.struct #[Oz,MS]):=by kernel_rfl
theorem TA : Tryz.prog.underlying 22=some (.int .u64):=by kernel_rfl
theorem Kr {H : Type} {enc : TypeId × Value→H} {w : World} {base : Nat} {sp : Nat→Bool} {held : Bool} {r : Reach} {b0 : Nat} {v : Value} {d : DataW H} {ps : List MemPlace} (hval : Value.okWide Tryz.prog w r b0 24 v) (hd : DataW.Trod enc Tryz.prog w base sp held 24 v d ps) :
  ∃ a b : Int,v=.agg #[.int .u64 a,.int .i64 b]∧ps=[]∧d=.agg [.lit (.int .u64 a),.lit (.int .i64 b)]∧(Lit.int .u64 a).wf=true∧(Lit.int .i64 b).wf=true:=by
 obtain ⟨cs,rfl,hsz⟩:=okWide_struct N8 hval
 obtain ⟨fuel,hf⟩:=hd
 obtain ⟨y0,y1,n,hxy,hl,h0,h1⟩:=trod_struct2 N8 hf
 obtain ⟨a,ha,ha',wa⟩:=DataW.trod_int TA h0
 obtain ⟨b,hb,hb',wb⟩:=DataW.trod_int sJ h1
 rw [SQ] at hl
 simp only [Oz,MS,SX,Qx,Value.cells,List.drop_zero] at ha hb hl
 match cs,hl with
 | ⟨[x,y]⟩,_ =>
  simp at ha hb
  subst ha hb
  refine ⟨a,b,rfl, ?_, ?_,wa,wb⟩
  ·have:=congrArg Prod.snd hxy
   simpa [ha',hb'] using this
  ·have:=congrArg Prod.fst hxy
   simpa [ha',hb'] using this
theorem Kv {H : Type} {enc : TypeId × Value→H} {w : World} {base : Nat} {sp : Nat→Bool} {held : Bool} {a b : Int} (wa : (Lit.int .u64 a).wf=true) (wb : (Lit.int .i64 b).wf=true) : DataW.Trod enc Tryz.prog w base sp held 24 (.agg #[.int .u64 a,.int .i64 b]) (.agg [.lit (.int .u64 a),.lit (.int .i64 b)]) []:=by
 refine ⟨2, ?_⟩
 have:=trod_struct2_mk (enc:=enc) (w:=w) (base:=base) (spare:=sp) (held:=held) (n:=1) (cs:=[.int .u64 a,.int .i64 b]) N8 (by rw [SQ];rfl) (by rw [show Oz.type=22 from rfl,SX];exact trod_int_mk 0 TA wa) (by rw [show MS.type=3 from rfl,Qx];exact trod_int_mk 0 sJ wb)
 exact this
theorem RH {σ : Store} : ∀ {n : Nat} {y : VV} {b : Bool},fz n σ y=some (.bool b)→y=.bool b:=by
 intro n y b h
 cases n with
 | zero=>unfold fz at h;split at h<;>cases h;rfl
 | succ n =>
  unfold fz at h
  split at h
  ·cases h;rfl
  ·exfalso
   repeat' split at h
   all_goals first
    | cases h;done
    | (simp only [Option.map_eq_some_iff] at h;obtain ⟨_,_,h⟩:=h;cases h;done)
    | (simp only [Option.bind_eq_bind,Option.bind_eq_some_iff] at h;obtain ⟨_,_,_,_,h⟩:=h;cases h;done)
theorem EM {f : FuncId} {xs : List VV} {x : VV} (h : PV Tryz.prog G0 f xs x) {W : World} {vs : Array Value} (hL : laidMetH Tryz.prog YO W) (hv : bI W (OO (fun _=>False) [] []) [] xs vs.toList) :
  Calls Tryz.prog f vs W fun e W'=>∃ r σ' μ',(∃ y n,r=gY.ret y∧fz n (σ'.map Obj.fr) y=some x)∧Frame W [] [] W' σ' μ'∧SR (fun _=>False) W' σ' μ'∧nG W' (OO (fun _=>False) σ' μ') μ' r e :=
 (h.2.2.2 (fun _=>False) W [] vs ⟨rfl,by simp,by simp,by simp,by simp⟩ (GZ hL) hv).calls fun _=>by simp [Fence.room,Fence.wide]
theorem GY {f : FuncId} {xs : List VV} (h : PV Tryz.prog G0 f xs (.bool true)) {W : World} {vs : Array Value} (hL : laidMetH Tryz.prog YO W) (hv : bI W (OO (fun _=>False) [] []) [] xs vs.toList) :
  Calls Tryz.prog f vs W fun e W'=>e=.returned (.bool true)∧Below W.heap.size W W':=by
 refine (EM h hL hv).mono fun e W' ⟨r,σ',μ',⟨y,n,hr,hy⟩,hF,hS,hE⟩=>?_
 subst hr
 have:=RH hy
 subst this
 constructor
 ·cases e with
  | returned v=>simp only [nG,VR] at hE;rw [hE]
  | panicked c=>exact hE.elim
  | outgrown=>exact hE.elim
 ·exact ⟨hF.os,hF.tape,hF.output,hF.size,fun k hk=>hF.heap k hk (by rintro ⟨id,L,o,h,_⟩;simp at h)⟩
noncomputable def laidWorld (os : Os) : World :=
 let w0:=World.laidAll Tryz.prog os [("math/bits.deBruijn32tab",Rows.laid_math_bits_deBruijn32tab),("placket/lex.signs",Rows.laid_placket_lex_signs),("placket/pred.signs",Rows.laid_placket_pred_signs),("placket/pred.names",Rows.laid_placket_pred_names)]
 { w0 with heap:=w0.heap.modify 2 fun
   | .cells _ t frozen=>.cells #[.iface 282 (.agg #[.pointer (some ⟨5,34,none⟩)])] t frozen
   | o=>o }
theorem laidWorld_met (os : Os) (args : Array Value) : laidMetH Tryz.prog YO ((laidWorld os).forCall (fun _ _=>0) ⟨#[],args,[]⟩).memory :=
 laidMetH_of_parts (laidMet_of_run' 8 (by kernel_rfl) (by kernel_rfl)) (by kernel_rfl)
def fJ (n : String) (t o b : Nat) : Field:={ name:=n,type:=t,offset:=o,embedded:=false,tag := "",pkgPath := "",byteOffset:=b }
theorem SV : Tryz.prog.underlying 29=some (.struct #[fJ "Kind" 3 0 0,fJ "Int" 2 1 8,fJ "Text" 9 2 16,fJ "Keys" 26 3 32,fJ "Items" 27 4 56]):=by kernel_rfl
theorem WO : Tryz.prog.underlying 26=some (.slice 9):=by kernel_rfl
theorem WC : Tryz.prog.underlying 27=some (.slice 29):=by kernel_rfl
theorem Xx : Tryz.prog.underlying 2=some (.int .i64):=by kernel_rfl
theorem Tt : Tryz.prog.cellsOf 29=5:=by kernel_rfl
theorem Wx : Tryz.prog.cellsOf 26=1:=by kernel_rfl
theorem WQ : Tryz.prog.cellsOf 27=1:=by kernel_rfl
theorem XG : Tryz.prog.cellsOf 2=1:=by kernel_rfl
section
variable {H : Type} {enc : TypeId × Value→H} {w : World} {base : Nat} {sp : Nat→Bool} {held : Bool}
theorem Dx {t e k fuel : Nat} {cs : List Value} {x : DataW H × List MemPlace} (ht : Tryz.prog.underlying t=some (.slice e)) (hk : Tryz.prog.cellsOf e=k) (hk0 : 0 < k) (hsp : ∀ b,sp b=true) (h : DataW.trod enc Tryz.prog w base sp held fuel t cs=some x) :
  cs=[.slice none 0 0]∨(∃ a,cs=[.slice (some a) 0 0])∨∃ b o len cap n,fuel=n+1∧cs=[.slice (some ⟨b,o,none⟩) len cap]∧len≤cap∧cap≤maxLen ∧
   ∀ i,i < len→∃ cs' y,cs'.length=k∧(∀ j,j < k→w.cell? ⟨b,o+i*k+j,none⟩=cs'[j]?)∧DataW.trod enc Tryz.prog w base sp held n e cs'=some y:=by
 rcases DataW.trod_slice ht h with ⟨h0,_⟩ | ⟨a,len,cap,elems,rest,n,hf,rfl,_,hb,hl,hm,hlen,hel,hrest,_⟩
 ·exact .inl h0
 right
 rw [hk] at hel hrest
 have one : ∀ i,i < cap→∃ cs' y,w.cells? base (a.add (i*k)) k=some cs'∧DataW.trod enc Tryz.prog w base sp held n e cs'=some y:=by
  intro i hi
  by_cases h1 : i < len
  ·have:=hel i h1
   rw [List.getElem?_eq_getElem (by omega)] at this
   obtain ⟨cs',h2,h3⟩:=Option.bind_eq_some_iff.1 this
   exact ⟨cs',_,h2,h3⟩
  ·obtain ⟨r1,r2⟩:=hrest (hsp _)
   have:=r2 (i-len) (by omega)
   rw [List.getElem?_eq_getElem (by omega),show len+(i-len)=i by omega] at this
   obtain ⟨cs',h2,h3⟩:=Option.bind_eq_some_iff.1 this
   exact ⟨cs',_,h2,h3⟩
 by_cases hc : cap=0
 ·obtain rfl : len=0:=by omega
  subst hc
  exact .inl ⟨a,rfl⟩
 right
 have hspot : a.spot=none:=by
  obtain ⟨cs',y,h2,_⟩:=one 0 (by omega)
  obtain ⟨_,h4,h5⟩:=World.cells?_some h2
  have:=h5 0 hk0
  rw [List.getElem?_eq_getElem (by omega)] at this
  simp only [Nat.zero_mul,Addr.add,if_true] at this
  unfold World.cell? at this
  split at this
  ·split at this
   ·cases this
   ·rename_i hs;simpa using hs
  ·cases this
 obtain ⟨b,o,s⟩:=a
 simp only at hspot
 subst hspot
 refine ⟨b,o,len,cap,n,hf,rfl,hl,hm,fun i hi=>?_⟩
 obtain ⟨cs',y,h2,h3⟩:=one i (by omega)
 obtain ⟨_,h4,h5⟩:=World.cells?_some h2
 refine ⟨cs',y,h4,fun j hj=>?_,h3⟩
 rw [← h5 j hj]
 congr 1
 unfold Addr.add
 split<;>split<;>simp_all [Nat.add_assoc]
theorem qj {α : Type} {n : Nat} {p : Nat→α→Prop} (h : ∀ i,i < n→∃ x,p i x) : ∃ l : List α,l.length=n∧∀ (i : Nat) (hi : i < l.length),p i l[i]:=by
 induction n with
 | zero=>exact ⟨[],rfl,fun i hi=>absurd hi (Nat.not_lt_zero _)⟩
 | succ n ih =>
  obtain ⟨l,hl,hp⟩:=ih fun i hi=>h i (by omega)
  obtain ⟨x,hx⟩:=h n (by omega)
  refine ⟨l++[x],by simp [hl],fun i hi=>?_⟩
  by_cases h1 : i < l.length
  ·rw [List.getElem_append_left h1];exact hp i h1
  ·have : i=n:=by simp at hi;omega
   subst this
   subst hl
   simpa using hx
theorem yh {O : Nat→Prop} {μ : List Loc} {b k : Nat} : ∀ (l : List (List VV)) (o : Nat),(∀ i (hi : i < l.length),l[i].length=k∧∀ j x,l[i][j]?=some x→∃ v,w.cell? ⟨b,o+i*k+j,none⟩=some v∧VR w O μ x v)→VC w O μ l.flatten b o
 | [],_,_=>by simp [VC]
 | c::l,o,h=>by
  have h0:=h 0 (by simp)
  simp only [List.getElem_cons_zero,Nat.zero_mul,Nat.add_zero] at h0
  rw [List.flatten_cons]
  refine VC.append (iU.2 h0.2) ?_
  rw [h0.1]
  refine yh (k:=k) l (o+k) fun i hi=>?_
  have:=h (i+1) (by simpa using hi)
  simp only [List.getElem_cons_succ] at this
  rwa [show o+(i+1)*k=o+k+i*k by rw [Nat.succ_mul];omega] at this
def Xj (O : Nat→Prop) : Prop:=∀ b,¬ O b
theorem open_strs {O : Nat→Prop} (hO : Xj O) {fuel : Nat} {cs : List Value} {x : DataW H × List MemPlace} (hsp : ∀ b,sp b=true) (h : DataW.trod enc Tryz.prog w base sp held fuel 26 cs=some x) :
  ∃ (keys : List Bs) (kv : VV) (v : Value),cs=[v]∧VR w O [] kv v∧dG 1 kv (keys.map fun b=>[VV.str b])∧keys.length≤9223372036854775807:=by
 rcases Dx WO QH (by decide) hsp h with rfl | ⟨a,rfl⟩ | ⟨b,o,len,cap,n,_,rfl,hl,hm,hel⟩
 ·exact ⟨[],.nils,_,rfl,by simp only [VR],.nil,by simp⟩
 ·exact ⟨[],.sl 0 [] false,_,rfl,by simp only [VR];exact .inr ⟨trivial,trivial,a,rfl⟩,dG.of .nil rfl rfl,by simp⟩
 ·obtain ⟨keys,hkl,hk⟩:=qj (p:=fun i (s : Bs)=>w.cell? ⟨b,o+i*1+0,none⟩=some (.string ⟨s.toArray⟩)) (n:=len) (fun i hi=>by
   obtain ⟨cs',y,c1,c2,c3⟩:=hel i hi
   obtain ⟨s,rfl,_,_⟩:=DataW.trod_string BO c3
   exact ⟨s.data.toList,by rw [c2 0 (by decide)];simp⟩)
  have hB : dh 1 (keys.map fun b=>[VV.str b]):=⟨by simp,by simp [VV.ak,VV.isPure],by simp [aQ,VV.aC]⟩
  refine ⟨keys,.sl len (keys.map fun b=>[VV.str b]).flatten false,_,rfl, ?_,dG.of hB (by simp [hkl]) rfl,by rw [hkl];have : maxLen=9223372036854775807:=rfl;omega⟩
  simp only [VR]
  refine .inl ⟨b,o,cap,rfl,hl,by simp,.inr (hO b),yh (k:=1) _ _ fun i hi=>⟨by simp,fun j x hx=>?_⟩⟩
  simp only [List.length_map] at hi
  simp only [List.getElem_map] at hx
  match j,hx with
  | 0,hx =>
   simp only [List.getElem?_cons_zero,Option.some.injEq] at hx
   subst hx
   exact ⟨_,hk i hi,by simp only [VR]⟩
theorem Js : ∀ (l : List (Tr × List VV)),(∀ p ∈ l,kV p.1 p.2)→jl (l.map (·.1)) (l.map (·.2))
 | [],_=>.nil
 | p::l,h=>.cons (h p (by simp)) (Js l fun q hq=>h q (by simp [hq]))
theorem open_tree {O : Nat→Prop} (hO : Xj O) (hsp : ∀ b,sp b=true) : ∀ (fuel : Nat) (cs : List Value) (x : DataW H × List MemPlace),DataW.trod enc Tryz.prog w base sp held fuel 29 cs=some x →
  ∃ (t : Tr) (c : List VV),kV t c∧jk t∧bI w O [] c cs:=by
 intro fuel
 induction fuel using Nat.strongRecOn with
 | ind fuel ih =>
 intro cs x h
 obtain ⟨xs,n,rfl,_,hcl,hxl,hf⟩:=DataW.trod_struct SV h
 rw [Tt] at hcl
 match cs,hcl with
 | [v0,v1,v2,v3,v4],_ =>
  have g : ∀ {i : Nat} {f : Field},i < 5→#[fJ "Kind" 3 0 0,fJ "Int" 2 1 8,fJ "Text" 9 2 16,fJ "Keys" 26 3 32,fJ "Items" 27 4 56][i]?=some f→∃ y,DataW.trod enc Tryz.prog w base sp held n f.type (([v0,v1,v2,v3,v4].drop f.offset).take (Tryz.prog.cellsOf f.type))=some y:=by
   intro i f hi hfi
   have:=hf i f hfi
   rw [List.getElem?_eq_getElem (by rw [hxl];exact hi)] at this
   exact ⟨_,this⟩
  obtain ⟨y0,g0⟩:=g (i:=0) (f:=fJ "Kind" 3 0 0) (by decide) rfl
  obtain ⟨y1,g1⟩:=g (i:=1) (f:=fJ "Int" 2 1 8) (by decide) rfl
  obtain ⟨y2,g2⟩:=g (i:=2) (f:=fJ "Text" 9 2 16) (by decide) rfl
  obtain ⟨y3,g3⟩:=g (i:=3) (f:=fJ "Keys" 26 3 32) (by decide) rfl
  obtain ⟨y4,g4⟩:=g (i:=4) (f:=fJ "Items" 27 4 56) (by decide) rfl
  simp only [fJ,Qx,XG,QH,Wx,WQ,List.drop_zero,List.drop_succ_cons,List.take_succ_cons,List.take_zero] at g0 g1 g2 g3 g4
  obtain ⟨k,e0,_,w0⟩:=DataW.trod_int sJ g0
  obtain ⟨i,e1,_,w1⟩:=DataW.trod_int Xx g1
  obtain ⟨s,e2,_,_⟩:=DataW.trod_string BO g2
  obtain ⟨keys,kv,u3,e3,hkv,hks,hkl⟩:=open_strs hO hsp g3
  simp only [List.cons.injEq,and_true] at e0 e1 e2 e3
  subst e0 e1 e2 e3
  have wk : -9223372036854775808≤k∧k≤9223372036854775807:=by simpa [Lit.wf,IntKind.min,IntKind.max,IntKind.signed,IntKind.bits] using w0
  have wi : -9223372036854775808≤i∧i≤9223372036854775807:=by simpa [Lit.wf,IntKind.min,IntKind.max,IntKind.signed,IntKind.bits] using w1
  have fin' : ∀ (items : List Tr) (iv : VV) (ics : List (List VV)),jl items ics→dG 5 iv ics→items.length≤9223372036854775807→(∀ x ∈ items,jk x)→VR w O [] iv v4 →
    ∃ (t : Tr) (c : List VV),kV t c∧jk t∧bI w O [] c [.int .i64 k,.int .i64 i,.string s,v3,v4]:=by
   intro items iv ics h1 h2 h3 h4 h5
   refine ⟨.node k i s.data.toList keys items,_,.node hks h1 h2 hkl h3 wk.1 wk.2 wi.1 wi.2,.node wi.1 wi.2 h4, ?_⟩
   simp only [bI,VR]
   exact ⟨_,_,rfl,rfl,_,_,rfl,rfl,_,_,rfl,rfl,_,_,rfl,hkv,_,_,rfl,h5,rfl⟩
  rcases Dx WC Tt (by decide) hsp g4 with e4 | ⟨a,e4⟩ | ⟨b,o,len,cap,m,rfl,e4,hl,hm,hel⟩
  ·simp only [List.cons.injEq,and_true] at e4
   subst e4
   exact fin' [] .nils [] .nil .nil (by simp) (by simp) (by simp only [VR])
  ·simp only [List.cons.injEq,and_true] at e4
   subst e4
   exact fin' [] (.sl 0 [] false) [] .nil (dG.of .nil rfl rfl) (by simp) (by simp) (by simp only [VR];exact .inr ⟨trivial,trivial,a,rfl⟩)
  ·simp only [List.cons.injEq,and_true] at e4
   subst e4
   obtain ⟨l,hll,hlp⟩:=qj (p:=fun i (p : Tr × List VV)=>kV p.1 p.2∧jk p.1∧∃ cs',cs'.length=5∧(∀ j,j < 5→w.cell? ⟨b,o+i*5+j,none⟩=cs'[j]?)∧bI w O [] p.2 cs') (n:=len) (fun i hi=>by
    obtain ⟨cs',y,c1,c2,c3⟩:=hel i hi
    obtain ⟨t,c,t1,t2,t3⟩:=ih m (by omega) cs' y c3
    exact ⟨(t,c),t1,t2,cs',c1,c2,t3⟩)
   have hmem : ∀ p ∈ l,kV p.1 p.2∧jk p.1:=fun p hp=>by
    obtain ⟨i,hi,rfl⟩:=List.getElem_of_mem hp
    exact ⟨(hlp i hi).1,(hlp i hi).2.1⟩
   have hB : dh 5 (l.map (·.2)):=⟨fun c hc=>by
     obtain ⟨p,hp,rfl⟩:=List.mem_map.1 hc;exact (hmem p hp).1.cells.1,fun c hc=>by
     obtain ⟨p,hp,rfl⟩:=List.mem_map.1 hc;exact (hmem p hp).1.cells.2.1,fun c hc=>by
     obtain ⟨p,hp,rfl⟩:=List.mem_map.1 hc;exact (hmem p hp).1.cells.2.2⟩
   refine fin' (l.map (·.1)) (.sl len (l.map (·.2)).flatten false) (l.map (·.2)) (Js l fun p hp=>(hmem p hp).1) (dG.of hB (by simp [hll]) rfl) (by rw [List.length_map,hll];have : maxLen=9223372036854775807:=rfl;omega) (fun x hx=>by
    obtain ⟨p,hp,rfl⟩:=List.mem_map.1 hx;exact (hmem p hp).2) ?_
   simp only [VR]
   refine .inl ⟨b,o,cap,rfl,hl,by simp,.inr (hO b),yh (k:=5) _ _ fun i hi=>?_⟩
   simp only [List.length_map] at hi
   obtain ⟨t1,_,cs',c1,c2,c3⟩:=hlp i hi
   simp only [List.getElem_map]
   refine ⟨t1.cells.1,fun j x hx=>?_⟩
   obtain ⟨v,hv,hxv⟩:=c3.get hx
   have hj : j < 5:=by have:=(List.getElem?_eq_some_iff.1 hx).1;rw [t1.cells.1] at this;exact this
   exact ⟨v,by rw [c2 j hj];exact hv,hxv⟩
end
theorem Hy {H : Type} {enc : TypeId × Value→H} {W : World} {base : Nat} {held : Bool} {r : Reach} {b0 : Nat} {v : Value} {d : DataW H} {ps : List MemPlace} (hval : Value.okWide Tryz.prog W r b0 29 v) (hd : DataW.Trod enc Tryz.prog W base (fun _=>true) held 29 v d ps) :
  ∃ (t : Tr) (c : List VV),kV t c∧jk t∧VR W (OO (fun _=>False) [] []) [] (.agg c) v:=by
 obtain ⟨cs,rfl,hsz⟩:=okWide_struct SV hval
 obtain ⟨fuel,hf⟩:=hd
 obtain ⟨t,c,h1,h2,h3⟩:=open_tree (O:=OO (fun _=>False) [] []) (by rintro b (h | ⟨id,L,o,h,_⟩);exact h;simp at h) (fun _=>rfl) fuel _ _ hf
 exact ⟨t,c,h1,h2,by simp only [VR];exact ⟨cs,rfl,h3⟩⟩
theorem Fj : laidOutB Tryz.prog=true:=by kernel_rfl
theorem UJ : Tryz.prog.underlying 99=some (.struct #[fJ "Kind" 3 0 0,fJ "Int" 3 1 8,fJ "Lo" 3 2 16,fJ "Hi" 3 3 24,fJ "Text" 9 4 32]):=by kernel_rfl
theorem OM : Tryz.prog.cellsOf 99=5:=by kernel_rfl
theorem Jb : Tryz.prog.underlying 51=some (.slice 99):=by kernel_rfl
section
variable {H : Type} {enc : TypeId × Value→H} {w : World} {base : Nat} {sp : Nat→Bool} {held : Bool}
theorem MP {fuel : Nat} {cs : List Value} {x : DataW H × List MemPlace} (h : DataW.trod enc Tryz.prog w base sp held fuel 99 cs=some x) :
  ∃ (s : Sg) (t : ByteArray),s.in∧t.data.toList=s.t∧cs=[.int .i64 s.k,.int .i64 s.i,.int .i64 s.lo,.int .i64 s.hi,.string t]:=by
 obtain ⟨xs,n,rfl,_,hcl,hxl,hf⟩:=DataW.trod_struct UJ h
 rw [OM] at hcl
 match cs,hcl with
 | [v0,v1,v2,v3,v4],_ =>
  have g : ∀ {i : Nat} {f : Field},i < 5→#[fJ "Kind" 3 0 0,fJ "Int" 3 1 8,fJ "Lo" 3 2 16,fJ "Hi" 3 3 24,fJ "Text" 9 4 32][i]?=some f→∃ y,DataW.trod enc Tryz.prog w base sp held n f.type (([v0,v1,v2,v3,v4].drop f.offset).take (Tryz.prog.cellsOf f.type))=some y:=by
   intro i f hi hfi
   have:=hf i f hfi
   rw [List.getElem?_eq_getElem (by rw [hxl];exact hi)] at this
   exact ⟨_,this⟩
  obtain ⟨y0,g0⟩:=g (i:=0) (f:=fJ "Kind" 3 0 0) (by decide) rfl
  obtain ⟨y1,g1⟩:=g (i:=1) (f:=fJ "Int" 3 1 8) (by decide) rfl
  obtain ⟨y2,g2⟩:=g (i:=2) (f:=fJ "Lo" 3 2 16) (by decide) rfl
  obtain ⟨y3,g3⟩:=g (i:=3) (f:=fJ "Hi" 3 3 24) (by decide) rfl
  obtain ⟨y4,g4⟩:=g (i:=4) (f:=fJ "Text" 9 4 32) (by decide) rfl
  simp only [fJ,Qx,QH,List.drop_zero,List.drop_succ_cons,List.take_succ_cons,List.take_zero] at g0 g1 g2 g3 g4
  obtain ⟨a0,e0,_,w0⟩:=DataW.trod_int sJ g0
  obtain ⟨a1,e1,_,w1⟩:=DataW.trod_int sJ g1
  obtain ⟨a2,e2,_,w2⟩:=DataW.trod_int sJ g2
  obtain ⟨a3,e3,_,w3⟩:=DataW.trod_int sJ g3
  obtain ⟨t,e4,_,_⟩:=DataW.trod_string BO g4
  simp only [List.cons.injEq,and_true] at e0 e1 e2 e3 e4
  subst e0 e1 e2 e3 e4
  exact ⟨⟨a0,a1,a2,a3,t.data.toList⟩,t,by simpa [Sg.in,Lit.wf,IntKind.min,IntKind.max,IntKind.signed,IntKind.bits] using w1,rfl,rfl⟩
theorem JD {O : Nat→Prop} (hO : Xj O) {fuel : Nat} {cs : List Value} {x : DataW H × List MemPlace} (hsp : ∀ b,sp b=true) (h : DataW.trod enc Tryz.prog w base sp held fuel 51 cs=some x) :
  ∃ (l : List Sg) (pv : VV) (v : Value),cs=[v]∧VR w O [] pv v∧dG 5 pv (l.map Sg.cells)∧(∀ s ∈ l,s.in)∧l.length≤9223372036854775807:=by
 rcases Dx Jb OM (by decide) hsp h with rfl | ⟨a,rfl⟩ | ⟨b,o,len,cap,n,_,rfl,hl,hm,hel⟩
 ·exact ⟨[],.nils,_,rfl,by simp only [VR],.nil,by simp,by simp⟩
 ·exact ⟨[],.sl 0 [] false,_,rfl,by simp only [VR];exact .inr ⟨trivial,trivial,a,rfl⟩,dG.of .nil rfl rfl,by simp,by simp⟩
 ·obtain ⟨l,hkl,hk⟩:=qj (p:=fun i (s : Sg)=>s.in∧∀ j,j < 5→∃ v,w.cell? ⟨b,o+i*5+j,none⟩=some v∧VR w O [] (s.cells.getD j .undef) v) (n:=len) (fun i hi=>by
   obtain ⟨cs',y,c1,c2,c3⟩:=hel i hi
   obtain ⟨s,t,hs,ht,rfl⟩:=MP c3
   refine ⟨s,hs,fun j hj=>?_⟩
   rw [c2 j hj]
   match j,hj with
   | 0,_=>exact ⟨_,rfl,by simp [Sg.cells,VR]⟩
   | 1,_=>exact ⟨_,rfl,by simp [Sg.cells,VR]⟩
   | 2,_=>exact ⟨_,rfl,by simp [Sg.cells,VR]⟩
   | 3,_=>exact ⟨_,rfl,by simp [Sg.cells,VR]⟩
   | 4,_=>exact ⟨_,rfl,by simp [Sg.cells,VR,← ht]⟩)
  refine ⟨l,.sl len (l.map Sg.cells).flatten false,_,rfl, ?_,dG.of (Sg.blk l) (by simp [hkl]) rfl,fun s hs=>?_,by rw [hkl];have : maxLen=9223372036854775807:=rfl;omega⟩
  ·simp only [VR]
   refine .inl ⟨b,o,cap,rfl,hl,by simp,.inr (hO b),yh (k:=5) _ _ fun i hi=>?_⟩
   simp only [List.length_map] at hi
   simp only [List.getElem_map]
   refine ⟨rfl,fun j x hx=>?_⟩
   have hj : j < 5:=(List.getElem?_eq_some_iff.1 hx).1
   obtain ⟨v,h1,h2⟩:=(hk i hi).2 j hj
   rw [List.getD_eq_getElem?_getD,hx] at h2
   exact ⟨v,h1,h2⟩
  ·obtain ⟨i,hi,rfl⟩:=List.getElem_of_mem hs
   exact (hk i hi).1
end
end Go.V
