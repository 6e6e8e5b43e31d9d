/- Texts F26 F27 F28 F29. -/
import Derived.Test.YthhjefemijhamaaGreatDoorG20
set_option linter.unusedVariables false
set_option linter.unusedSimpArgs false
namespace Go.V
open Go.Proofs
set_option maxRecDepth 100000
def IsR (sign : Bs) (id : Nat) (seed bits : Int) (s : Bs) (a : Int) (n : Nat) (σ : Store) (r : dX) (σ' : Store) : Prop :=
 (∃ c p,aT s a=.err c p∧r=.panic (wR c p)∧Ch (fun _=>False) σ σ')∨(∃ x e i,aT s a=.tok 1 x e i sign∧r=.ret (.bool true)∧Gone id seed bits s n e σ σ') ∨
   (∃ k x e i t,aT s a=.tok k x e i t∧¬ (k=1∧t=sign)∧r=.ret (.bool false)∧Ch (fun _=>False) σ σ')
theorem Y4 (sign : Bs) (id : Nat) (seed bits : Int) (s : Bs) (a : Int) (n : Nat) (σ : Store) (hσ : σ[id]?=some (RD seed bits s a n)) (ha : -9223372036854775808≤a∧a≤9223372036854775807) (hs : s.length≤10000000) :
  CV Tryz.prog G0 176 [.mptr id 0,.str sign] σ (IsR sign id seed bits s a n σ):=by
 refine cv e176 (by simp) ?_
 have hid:=(List.getElem?_eq_some_iff.1 hσ).1
 simp only [go_sem,seval,c176,SS]
 refine CV.mono (Fb id seed bits s a n _ hσ ha hs) ?_
 rintro _ σ1 ⟨rfl,hC⟩
 have hlen:=hC.len
 have hσ1 : σ1[id]?=some (RD seed bits s a n):=by rw [hC.same id hid (by simp)];exact hσ
 cases hL : aT s a with
 | err c p =>
  simp only [go_sem,seval,vP,aO]
  exact .inl ⟨c,p,hL,rfl,hC⟩
 | tok k x e i t =>
  obtain ⟨σ2,h2⟩ : ∃ σ2,σ2=σ1++[Obj.own [.int .i64 k,.int .i64 x,.int .i64 e,.int .i64 i,.str t]]:=⟨_,rfl⟩
  have g0 : σ2.length=σ1.length+1:=by rw [h2];simp
  have g1 : σ2[id]?=some (RD seed bits s a n):=by rw [h2,List.getElem?_append_left (by omega)];exact hσ1
  have g3 : σ2[σ1.length]?=some (.own [.int .i64 k,.int .i64 x,.int .i64 e,.int .i64 i,.str t]):=by rw [h2];simp
  have g4 : ∀ j,j < σ.length→σ2[j]?=σ[j]?:=fun j hj=>by rw [h2,List.getElem?_append_left (by omega),hC.same j hj (by simp)]
  unfold RD at g1
  simp only [go_sem,seval,vP,aO,dW,SS,← h2,g1,g3]
  by_cases hk : k=1∧t=sign
  ·obtain ⟨rfl,rfl⟩:=hk
   have b1 : (((1 : Nat) : Int) != 1)=false:=by decide
   have b2 : (t == t)=true:=by simp
   simp only [go_sem,seval,b1,b2,g1,g3,Bool.not_false,Bool.not_true]
   refine .inr (.inl ⟨x,e,i,hL,rfl,⟨by simp;omega,fun j hj hne=>by rw [List.getElem?_set_ne (by omega)];exact g4 j hj⟩,by rw [List.getElem?_set_self (by omega)];rfl⟩)
  ·have hfin : IsR sign id seed bits s a n σ (.ret (.bool false)) σ2:=.inr (.inr ⟨k,x,e,i,t,hL,hk,rfl,⟨by omega,fun j hj _=>g4 j hj⟩⟩)
   by_cases hk1 : k=1
   ·subst hk1
    have b1 : (((1 : Nat) : Int) != 1)=false:=by decide
    have b2 : (t == sign)=false:=by simpa using hk
    simp only [go_sem,seval,b1,b2,g1,g3,Bool.not_false,Bool.not_true]
    exact hfin
   ·have b1 : ((k : Int) != 1)=true:=by simp;omega
    simp only [go_sem,seval,b1,g1,g3,Bool.not_false,Bool.not_true]
    exact hfin
theorem QW (sign : Bs) (id : Nat) (seed bits : Int) (s : Bs) (a : Int) (n : Nat) (σ : Store) (hσ : σ[id]?=some (RD seed bits s a n)) (ha : -9223372036854775808≤a∧a≤9223372036854775807) (hs : s.length≤10000000) :
  CV Tryz.prog G0 142 [.mptr id 0,.str sign] σ fun r σ'=>(∃ c p,aT s a=.err c p∧r=.panic (wR c p)∧Ch (fun _=>False) σ σ')∨(∃ x e i,aT s a=.tok 1 x e i sign∧r=.ret (.tup [])∧Gone id seed bits s n e σ σ') ∨
   (∃ k x e i t,aT s a=.tok k x e i t∧¬ (k=1∧t=sign)∧r=.panic (wR 2 x)∧Ch (fun _=>False) σ σ'):=by
 refine cv e142 (by simp) ?_
 have hid:=(List.getElem?_eq_some_iff.1 hσ).1
 simp only [go_sem,seval,c142]
 refine CV.mono (Y4 sign id seed bits s a n _ hσ ha hs) ?_
 rintro _ σ1 (⟨c,p,hL,rfl,hC⟩ | ⟨x,e,i,hL,rfl,hG⟩ | ⟨k,x,e,i,t,hL,hn,rfl,hC⟩)
 ·simp only [go_sem,seval,aO]
  exact .inl ⟨c,p,hL,rfl,hC⟩
 ·simp only [go_sem,seval,aO,Bool.not_true]
  exact .inr (.inl ⟨x,e,i,hL,hG⟩)
 ·have hσ1 : σ1[id]?=some (RD seed bits s a n):=by rw [hC.same id hid (by simp)];exact hσ
  simp only [go_sem,seval,aO,Bool.not_false]
  refine CV.mono (Fb id seed bits s a n _ hσ1 ha hs) ?_
  rintro _ σ2 ⟨rfl,hC2⟩
  rw [hL]
  simp only [go_sem,seval,vP,aO,dW]
  refine CV.mono (jo 2 x _) ?_
  rintro _ σ' ⟨rfl,rfl⟩
  simp only [go_sem,seval,aO]
  exact .inr (.inr ⟨k,x,e,i,t,rfl,hn,rfl,hC.trans hC2⟩)
def bI (k : Nat) (i : Int) (t : Bs) : Option (Int × Int × Bs × Int) :=
 if k=3 then some (2,i,[],0) else if k=4 then some (3,0,t,0)
 else if k=1 then (if t=[91] then some (0,0,[],4) else if t=[123] then some (0,0,[],5) else if t=[60] then some (0,0,[],6) else none)
 else if k=2 then (if t=[116,114,117,101] then some (1,1,[],0) else if t=[102,97,108,115,101] then some (1,0,[],0) else if t=[110,117,108,108] then some (0,0,[],0) else none)
 else none
def LK (a : Nat) : Option (Int × Int × Bs × Int)→dX
 | some (sk,si,st,q)=>.ret (.tup [.agg [.int .i64 sk,.int .i64 si,.str st],.int .i64 q])
 | none=>.panic (wR 2 a)
theorem TU (k a e : Nat) (i : Int) (t : Bs) (σ : Store) : CV Tryz.prog G0 95 [dW k a e i t] σ fun r σ'=>r=LK a (bI k i t)∧Ch (fun _=>False) σ σ':=by
 refine cv e95 (by simp) ?_
 by_cases h3 : k=3
 ·subst h3
  have b1 : (((3 : Nat) : Int) == 3)=true:=by decide
  simp only [go_sem,seval,c95,dW,b1,SS]
  exact ⟨rfl,.snoc _ _ _⟩
 have b3 : ((k : Int) == 3)=false:=by simp;omega
 by_cases h4 : k=4
 ·subst h4
  have b1 : (((4 : Nat) : Int) == 4)=true:=by decide
  simp only [go_sem,seval,c95,dW,b3,b1,SS]
  exact ⟨rfl,.snoc _ _ _⟩
 have b4 : ((k : Int) == 4)=false:=by simp;omega
 by_cases h1 : k=1
 ·subst h1
  have b1 : (((1 : Nat) : Int) == 1)=true:=by decide
  by_cases t0 : t=[91]
  ·subst t0
   have p0 : (([91] : Bs) == [91])=true:=by decide
   simp only [go_sem,seval,c95,dW,b3,b4,b1,p0,SS]
   exact ⟨rfl,.snoc _ _ _⟩
  have n0 : (t == [91])=false:=by simpa using t0
  by_cases t1 : t=[123]
  ·subst t1
   have n0 : (([123] : Bs) == [91])=false:=by decide
   have p1 : (([123] : Bs) == [123])=true:=by decide
   simp only [go_sem,seval,c95,dW,b3,b4,b1,n0,p1,SS]
   exact ⟨rfl,.snoc _ _ _⟩
  have n1 : (t == [123])=false:=by simpa using t1
  by_cases t2 : t=[60]
  ·subst t2
   have n0 : (([60] : Bs) == [91])=false:=by decide
   have n1 : (([60] : Bs) == [123])=false:=by decide
   have p2 : (([60] : Bs) == [60])=true:=by decide
   simp only [go_sem,seval,c95,dW,b3,b4,b1,n0,n1,p2,SS]
   exact ⟨rfl,.snoc _ _ _⟩
  have n2 : (t == [60])=false:=by simpa using t2
  have hb : bI 1 i t=none:=by unfold bI;rw [if_neg (by decide),if_neg (by decide),if_pos rfl,if_neg t0,if_neg t1,if_neg t2]
  simp only [go_sem,seval,c95,dW,b3,b4,b1,n0,n1,n2,SS]
  refine CV.mono (jo 2 a _) ?_
  rintro _ σ' ⟨rfl,rfl⟩
  simp only [go_sem,seval,aO]
  refine ⟨?_,.snoc _ _ _⟩
  rw [hb];rfl
 have b1 : ((k : Int) == 1)=false:=by simp;omega
 by_cases h2 : k=2
 ·subst h2
  have b2 : (((2 : Nat) : Int) == 2)=true:=by decide
  by_cases t0 : t=[116,114,117,101]
  ·subst t0
   have p0 : (([116,114,117,101] : Bs) == [116,114,117,101])=true:=by decide
   simp only [go_sem,seval,c95,dW,b3,b4,b1,b2,p0,SS]
   exact ⟨rfl,.snoc _ _ _⟩
  have n0 : (t == [116,114,117,101])=false:=by simpa using t0
  by_cases t1 : t=[102,97,108,115,101]
  ·subst t1
   have n0 : (([102,97,108,115,101] : Bs) == [116,114,117,101])=false:=by decide
   have p1 : (([102,97,108,115,101] : Bs) == [102,97,108,115,101])=true:=by decide
   simp only [go_sem,seval,c95,dW,b3,b4,b1,b2,n0,p1,SS]
   exact ⟨rfl,.snoc _ _ _⟩
  have n1 : (t == [102,97,108,115,101])=false:=by simpa using t1
  by_cases t2 : t=[110,117,108,108]
  ·subst t2
   have n0 : (([110,117,108,108] : Bs) == [116,114,117,101])=false:=by decide
   have n1 : (([110,117,108,108] : Bs) == [102,97,108,115,101])=false:=by decide
   have p2 : (([110,117,108,108] : Bs) == [110,117,108,108])=true:=by decide
   simp only [go_sem,seval,c95,dW,b3,b4,b1,b2,n0,n1,p2,SS]
   exact ⟨rfl,.snoc _ _ _⟩
  have n2 : (t == [110,117,108,108])=false:=by simpa using t2
  have hb : bI 2 i t=none:=by unfold bI;rw [if_neg (by decide),if_neg (by decide),if_neg (by decide),if_pos rfl,if_neg t0,if_neg t1,if_neg t2]
  simp only [go_sem,seval,c95,dW,b3,b4,b1,b2,n0,n1,n2,SS]
  refine CV.mono (jo 2 a _) ?_
  rintro _ σ' ⟨rfl,rfl⟩
  simp only [go_sem,seval,aO]
  refine ⟨?_,.snoc _ _ _⟩
  rw [hb];rfl
 have b2 : ((k : Int) == 2)=false:=by simp;omega
 have hb : bI k i t=none:=by unfold bI;rw [if_neg h3,if_neg h4,if_neg h1,if_neg h2]
 rw [hb]
 simp only [go_sem,seval,c95,dW,b3,b4,b1,b2,SS]
 refine CV.mono (jo 2 a _) ?_
 rintro _ σ' ⟨rfl,rfl⟩
 simp only [go_sem,seval,aO]
 exact ⟨rfl,.snoc _ _ _⟩
end Go.V
namespace Go.V
open Go.Proofs
set_option maxRecDepth 100000
def maxD (l : List Vl) : Nat:=l.foldl (fun m x=>max m (x.below+1)) 0
def eG (l : List Vl) : Nat:=l.foldl (fun m x=>m+(x.more+1)) 0
theorem yM (l : List Vl) (x : Vl) : maxD (l++[x])=max (maxD l) (x.below+1):=by simp [maxD]
theorem yP (l : List Vl) (x : Vl) : eG (l++[x])=eG l+(x.more+1):=by simp [eG]
theorem kN (l : List Vl) (i : Nat) (h : i < l.length) : eG (l.take (i+1))=eG (l.take i)+(l[i].more+1):=by rw [List.take_succ_eq_append_getElem h,yP]
theorem kM (l : List Vl) (i : Nat) (h : i < l.length) : maxD (l.take (i+1))=max (maxD (l.take i)) (l[i].below+1):=by rw [List.take_succ_eq_append_getElem h,yM]
theorem Iu (l m : List Vl) : eG (l++m)=eG l+eG m:=by
 have key : ∀ (m : List Vl) (a : Nat),m.foldl (fun m x=>m+(x.more+1)) a=a+m.foldl (fun m x=>m+(x.more+1)) 0:=by
  intro m
  induction m with
  | nil=>intro a;rfl
  | cons x m ih=>intro a;rw [List.foldl_cons,List.foldl_cons,ih,ih (0+_)];omega
 unfold eG
 rw [List.foldl_append,key]
theorem mV (l : List Vl) (i : Nat) : eG (l.take i)≤eG l:=by
 conv=>rhs;rw [← List.take_append_drop i l,Iu]
 omega
theorem mX (l : List Vl) (i : Nat) : maxD (l.take i)≤maxD l:=by
 have key : ∀ (m : List Vl) (a : Nat),a≤m.foldl (fun m x=>max m (x.below+1)) a:=by
  intro m
  induction m with
  | nil=>intro a;exact Nat.le_refl _
  | cons x m ih=>intro a;exact Nat.le_trans (Nat.le_max_left _ _) (ih _)
 conv=>rhs;rw [← List.take_append_drop i l]
 unfold maxD
 rw [List.foldl_append]
 exact key _ _
section
variable {σ τ : Store} {id : Nat} {o o' a b c : Obj}
theorem AO (h : id < σ.length) : (σ++τ).set id o=σ.set id o++τ:=by rw [List.set_append];simp [h]
theorem Di (h : id < σ.length) : (σ.set id o++τ)[id]?=some o:=by rw [List.getElem?_append_left (by simpa using h)];simp [h]
theorem zM (h : id < σ.length) : (σ.set id o++τ).set id o'=σ.set id o'++τ:=by rw [List.set_append];simp [h]
theorem zO : (σ.set id o++a::τ)[σ.length]?=some a:=by rw [List.getElem?_append_right (by simp)];simp
theorem Af : (σ.set id o++a::b::τ)[σ.length+1]?=some b:=by rw [List.getElem?_append_right (by simp)];simp
end
theorem BJ (id : Nat) (x y : Vl) (hx : x.ok) (hy : y.ok) (hm : x.more+y.more+1≤1000000) (hb : y.below+1≤1000000) (kd i : Int) (t : Bs) (σ : Store) (hσ : σ[id]?=some (.own x.cells)) :
  CV Tryz.prog G0 154 [.agg [.int .i64 kd,.int .i64 i,.str t],y.vv,.mptr id 0] σ fun c σ'=>c=.ret (.tup [])∧σ'[id]?=some (.own ({ x with below:=max x.below (y.below+1),more:=x.more+(y.more+1) } : Vl).cells)∧High (·=id) σ σ':=by
 have hlt:=(List.getElem?_eq_some_iff.1 hσ).1
 have h1:=hx.rc
 have h2:=hx.hc
 have h3:=hy.rc
 have h4:=hy.hc
 simp only [go_sem,seval] at h1
 simp only [go_sem,seval] at h2
 simp only [go_sem,seval] at h3
 simp only [go_sem,seval] at h4
 have hσ' : ∀ τ,(σ++τ)[id]?=some (.own x.cells):=fun τ=>by rw [List.getElem?_append_left hlt];exact hσ
 unfold Vl.cells at hσ'
 refine cv e154 (by simp) ?_
 have e0 : (if ((y.below+1 : Nat) : Int) > (x.below : Int) then ((y.below+1 : Nat) : Int) else (x.below : Int))=((max x.below (y.below+1) : Nat) : Int):=by split<;>omega
 have e2 : rZ true (.int .i64 x.below) (.int .i64 (y.below+1 : Nat))=some (.int .i64 (max x.below (y.below+1) : Nat)):=by
  simp only [rZ,if_true,e0]
 have e3 : IntKind.i64.wrap ((x.more : Int)+(y.more+1 : Nat))=((x.more+(y.more+1) : Nat) : Int):=by rw [iw (by omega)];omega
 simp only [go_sem,seval,c154,Vl.vv,Vl.cells,h1,h2,h3,h4,hσ',SS]
 refine aC (Fv y hy) (by simp only [go_sem,seval,h1,h2,h3,h4,hσ',e2,AO hlt,Di hlt,zM hlt,zO,Af,List.length_set,SS]) ?_<;>simp only [go_sem,seval,h1,h2,h3,h4,hσ',e2,AO hlt,Di hlt,zM hlt,zO,Af,List.length_set,SS]
 refine aC (Gy y hy) (by simp only [go_sem,seval,h1,h2,h3,h4,hσ',e3,AO hlt,Di hlt,zM hlt,zO,Af,List.length_set,SS]) ?_<;>simp only [go_sem,seval,h1,h2,h3,h4,hσ',e3,AO hlt,Di hlt,zM hlt,zO,Af,List.length_set,SS]
 exact ⟨by simp,fun j h1 h2=>by rw [List.getElem?_append_left (by simpa using h1),List.getElem?_set_ne (by omega)]⟩
theorem Dy (x : Vl) (hx : x.ok) (hk : x.k=4) (items : List Vl) (hi : ∀ y ∈ items,y.ok) (hR : RP x.root (items.map (·.cells))) (hl : items.length≤1000000) (hs : eG items≤1000000) (hd : maxD items≤1000000) :
  PV Tryz.prog G0 113 [x.vv] ({ x with below:=maxD items,more:=eG items } : Vl).vv:=by
 have hok : ({ x with below:=maxD items,more:=eG items } : Vl).ok:=⟨hx.rp,hx.rc,hx.hp,hx.hc,hd,hs⟩
 refine pv e113 (by simp) (by simp [VV.ak,VV.isPure,Vl.vv,hx.pure]) (by simp only [VV.isPure,Vl.vv];exact hok.pure) ?_
 have h1:=hx.rc
 have h2:=hx.hc
 simp only [go_sem,seval] at h1
 simp only [go_sem,seval] at h2
 simp only [go_sem,seval,c113,Vl.vv,Vl.cells,hk,h1,h2]
 have hlen : (items.map (·.cells)).length=items.length:=by simp
 refine CV.mono (qL x.sk x.si x.st x.root (items.map (·.cells)) hR x.seed x.bits x.n x.hr hx.hc 0 0 154 uo [.mptr 0 0]
  (fun i D σ'=>(∀ id,D id↔id=0)∧σ'[0]?=some (.own ({ x with below:=maxD (items.take i),more:=eG (items.take i) } : Vl).cells)) (·=0) _ (by rw [hlen];exact hl) ⟨?_, ?_, ?_⟩ ⟨fun _=>.rfl,by simp [Vl.cells,maxD,eG,hk]⟩) ?_
 ·rintro i D σ ⟨hD,h⟩ id hid
  obtain rfl:=(hD id).1 hid
  exact (List.getElem?_eq_some_iff.1 h).1
 ·rintro i D σ σ' ⟨hD,h⟩ hlow
  exact ⟨hD,by rw [hlow.same 0 ((hD 0).2 rfl)];exact h⟩
 ·rintro i D σ args _ hi' hst ⟨hD,h⟩
  rw [hlen] at hi'
  have hc:=BJ 0 { x with below:=maxD (items.take i),more:=eG (items.take i) } items[i] ⟨hx.rp,hx.rc,hx.hp,hx.hc, ?_, ?_⟩ (hi _ (List.getElem_mem _)) ?_ ?_ 0 i [] σ h
  ·refine ⟨uo, ?_⟩
   have : args=[.agg [.int .i64 0,.int .i64 i,.str []],items[i].vv]:=by unfold qg at hst;rw [hst];simp [List.getD_eq_getElem?_getD,hi',Vl.vv]
   rw [this]
   refine CV.mono hc ?_
   rintro _ σ' ⟨rfl,a,b⟩
   refine ⟨rfl,D,⟨hD, ?_⟩,.refl _ _,⟨b.len,fun id h1 h2=>b.same id h1 (fun e=>h2 ((hD id).2 e))⟩⟩
   rw [a,kM _ _ hi',kN _ _ hi']
  ·have:=mX items i;simp only;omega
  ·have:=mV items i;simp only;omega
  ·have h1:=mV items (i+1)
   rw [kN _ _ hi'] at h1
   simp only;omega
  ·have h1:=mX items (i+1)
   rw [kM _ _ hi'] at h1
   omega
 ·rintro _ σ' ⟨rfl,D',⟨hD,h3⟩,hG,hH⟩
  rw [hlen,List.take_length] at h3
  have h4 : σ'[1]?=some (.own [.int .i64 0,.int .i64 0,.str [],.int .i64 0,.nilp,.int .u64 0,.int .i64 0,.int .i64 0,.nilp,.int .i64 0,.int .i64 0]):=by
   rw [hH.same 1 (by simp) (by simp)];simp
  have h5:=(List.getElem?_eq_some_iff.1 h4).1
  unfold Vl.cells at h3
  simp only [go_sem,seval,aO,h1,h2,h3,h4,List.getElem?_set_self h5,hk]
  have:=hok.pure
  simp only [Vl.cells,hk] at this
  refine fin (by simp only [VV.isPure];exact this) rfl
end Go.V
namespace Go.V
open Go.Proofs
set_option maxRecDepth 100000
theorem Jq {σ : Store} {n m : Int} (e : n=m) : ∃ z k,dX.ret (.int .i64 n)=dX.ret z∧fz k σ z=some (.int .i64 m):=by subst e;exact fin (by rfl) rfl
def dh (k i : Int) (t : Bs) : Int :=
 if k=3 then (if i=0 then 0 else 1)
 else if k=1 then (if t=[] then (if i=0∨i=1 then 0 else 4) else 1)
 else if k=2 then (if t=[] then 0 else 1)
 else if k=0 then (if i=0∧t=[] then 0 else 1)
 else 3
theorem ZL (k i k' i' : Int) (t t' : Bs) : CO Tryz.prog 9 34 (.agg [.int .i64 k,.int .i64 i,.str t]) (.agg [.int .i64 k',.int .i64 i',.str t'])=some (k == k' && (i == i' && t == t')):=by
 rw [CO.eq_def]
 simp only [Tn,Qb,List.foldr,partOf,Rf,RS,Qy,List.getElem?_cons_zero,List.getElem?_cons_succ]
 rw [CO.eq_def,CO.eq_def,CO.eq_def]
 simp [W9,VN,Vp]
theorem uY (x y : Operand) (k i k' i' : Int) (t t' : Bs) (σ : Store) : kU Tryz.prog .neq 34 x y (.agg [.int .i64 k,.int .i64 i,.str t]) (.agg [.int .i64 k',.int .i64 i',.str t']) σ=okV (.bool (!(k == k' && (i == i' && t == t')))) σ:=by
 simp only [kU,VV.ql,VV.fC,VV.isAgg,Td,ZL,Option.map_some,okV]
 rfl
theorem IZ (k i : Int) (t : Bs) : PV Tryz.prog G0 112 [.agg [.int .i64 k,.int .i64 i,.str t]] (.int .i64 (dh k i t)):=by
 refine pv e112 (by simp) rfl rfl ?_
 by_cases h3 : k=3
 ·subst h3
  by_cases hi : i=0
  ·subst hi
   have hE : (!((3 : Int) == 3 && ((0 : Int) == 0 && t == t)))=false:=by simp
   simp only [go_sem,seval,c112,uY,hE]
   exact fin (by rfl) rfl
  ·have hE : (!((3 : Int) == 3 && ((0 : Int) == i && t == t)))=true:=by simp;exact fun h=>hi h.symm
   simp only [go_sem,seval] at hE
   simp only [go_sem,seval,c112,uY,hE]
   refine Jq ?_
   simp [dh,hi]
 have b3 : (k == 3)=false:=by simpa using h3
 by_cases h1 : k=1
 ·subst h1
  by_cases ht : t=[]
  ·subst ht
   have hE : (!((1 : Int) == 1 && (i == i && ([] : Bs) == [])))=false:=by simp
   by_cases hn : i < 0
   ·have hn' : decide (i < 0)=true:=by simpa using hn
    simp only [go_sem,seval,c112,uY,hE,hn']
    refine Jq ?_
    have : ¬ (i=0∨i=1):=by omega
    simp [dh,this]
   ·have hn' : decide (i < 0)=false:=by simpa using hn
    by_cases hm : 1 < i
    ·have hm' : decide (1 < i)=true:=by simpa using hm
     simp only [go_sem,seval,c112,uY,hE,hn',hm']
     refine Jq ?_
     have : ¬ (i=0∨i=1):=by omega
     simp [dh,this]
    ·have hm' : decide (1 < i)=false:=by simpa using hm
     simp only [go_sem,seval,c112,uY,hE,hn',hm']
     refine Jq ?_
     have : i=0∨i=1:=by omega
     simp [dh,this]
  ·have hE : (!((1 : Int) == 1 && (i == i && ([] : Bs) == t)))=true:=by simp;exact ht
   simp only [go_sem,seval] at hE
   simp only [go_sem,seval,c112,uY,hE]
   refine Jq ?_
   simp [dh,ht]
 have b1 : (k == 1)=false:=by simpa using h1
 by_cases h2 : k=2
 ·subst h2
  by_cases ht : t=[]
  ·subst ht
   have hE : (!((2 : Int) == 2 && (i == i && ([] : Bs) == [])))=false:=by simp
   simp only [go_sem,seval,c112,uY,hE]
   exact fin (by rfl) rfl
  ·have hE : (!((2 : Int) == 2 && (i == i && ([] : Bs) == t)))=true:=by simp;exact ht
   simp only [go_sem,seval] at hE
   simp only [go_sem,seval,c112,uY,hE]
   refine Jq ?_
   simp [dh,ht]
 have b2 : (k == 2)=false:=by simpa using h2
 by_cases h0 : k=0
 ·subst h0
  by_cases hh : i=0∧t=[]
  ·obtain ⟨rfl,rfl⟩:=hh
   have hE : (!((0 : Int) == 0 && ((0 : Int) == 0 && ([] : Bs) == [])))=false:=by simp
   simp only [go_sem,seval,c112,uY,hE]
   exact fin (by rfl) rfl
  ·have hE : (!((0 : Int) == 0 && ((0 : Int) == i && ([] : Bs) == t)))=true:=by
    cases hi : ((0 : Int) == i)<;>cases ht : (([] : Bs) == t)<;>simp_all
   simp only [go_sem,seval] at hE
   simp only [go_sem,seval,c112,uY,hE]
   refine Jq ?_
   simp [dh,hh]
 have b0 : (k == 0)=false:=by simpa using h0
 simp only [go_sem,seval,c112,b3,b1,b2,b0]
 refine Jq ?_
 simp [dh,h3,h1,h2,h0]
def zQ (k i : Int) (t : Bs) : Vl:=⟨k,i,t,k,.nilp,0,0,0,.nilp,0,0⟩
theorem Lc (k i : Int) (t : Bs) : (zQ k i t).ok:=⟨rfl,rfl,rfl,rfl,by simp [zQ],by simp [zQ]⟩
theorem Wx (k i : Int) (t : Bs) : PV Tryz.prog G0 64 [.agg [.int .i64 k,.int .i64 i,.str t]] (zQ k i t).vv:=by
 refine pv e64 (by simp) rfl rfl ?_
 simp only [go_sem,seval,c64]
 exact fin (by rfl) rfl
theorem WZ (k i : Int) (t : Bs) : PV Tryz.prog G0 101 [.agg [.int .i64 k,.int .i64 i,.str t]] (if dh k i t=0 then .tup [(zQ k i t).vv,.int .i64 0] else .tup [Vl.zero.vv,.int .i64 (dh k i t)]):=by
 have hp : (if dh k i t=0 then VV.tup [(zQ k i t).vv,.int .i64 0] else .tup [Vl.zero.vv,.int .i64 (dh k i t)]).isPure=true:=by split<;>rfl
 refine pv e101 (by simp) rfl hp ?_
 simp only [go_sem,seval,c101]
 refine ah (IZ k i t) ?_<;>simp only [go_sem,seval]
 by_cases hc : dh k i t=0
 ·rw [if_pos hc] at hp ⊢
  have hb : (dh k i t != 0)=false:=by simpa using hc
  simp only [go_sem,seval,hb]
  refine ah (Wx k i t) ?_<;>simp only [go_sem,seval,Vl.vv,Vl.cells,zQ]
  exact fin hp rfl
 ·rw [if_neg hc] at hp ⊢
  have hb : (dh k i t != 0)=true:=by simpa using hc
  simp only [go_sem,seval,hb]
  exact fin hp rfl
theorem vO (x : Vl) (hx : x.ok) (e : Int) (σ : Store) : CV Tryz.prog G0 100 [x.vv,.int .i64 e] σ fun r σ'=>r=(if e=0 then .ret x.vv else .panic (wR e 0))∧Ch (fun _=>False) σ σ':=by
 have h1:=hx.rc
 have h2:=hx.hc
 simp only [go_sem,seval] at h1
 simp only [go_sem,seval] at h2
 refine cv e100 (by simp) ?_
 by_cases he : e=0
 ·subst he
  simp only [go_sem,seval,c100,Vl.vv,Vl.cells,h1,h2,SS]
  exact .snoc _ _ _
 ·have hb : (e != 0)=true:=by simpa using he
  rw [if_neg he]
  simp only [go_sem,seval,c100,Vl.vv,Vl.cells,h1,h2,hb,SS]
  refine CV.mono (jo e 0 _) ?_
  rintro _ σ' ⟨rfl,rfl⟩
  simp only [go_sem,seval,aO]
  exact .snoc _ _ _
theorem TB (root : VV) (items : List Vl) (hi : ∀ y ∈ items,y.ok) (hR : RP root (items.map (·.cells))) (hl : items.length≤1000000) (hs : eG items≤1000000) (hd : maxD items≤1000000) :
  PV Tryz.prog G0 65 [.agg [root]] (⟨0,0,[],4,root,0,0,0,.nilp,maxD items,eG items⟩ : Vl).vv:=by
 have hok : (⟨0,0,[],4,root,0,0,0,.nilp,0,0⟩ : Vl).ok:=⟨hR.pure,hR.cell,rfl,rfl,by simp,by simp⟩
 have hok2 : (⟨0,0,[],4,root,0,0,0,.nilp,maxD items,eG items⟩ : Vl).ok:=⟨hR.pure,hR.cell,rfl,rfl,hd,hs⟩
 have hP:=Dy ⟨0,0,[],4,root,0,0,0,.nilp,0,0⟩ hok rfl items hi hR hl hs hd
 have h1:=hR.cell
 have h2:=eH h1
 have h3:=cellC h1
 simp only [go_sem,seval] at h1
 simp only [go_sem,seval] at h2
 simp only [go_sem,seval] at h3
 have hpu:=hok2.pure
 refine pv e65 (by simp) (by simp [VV.ak,VV.isPure,hR.pure]) (by simp only [VV.isPure,Vl.vv];exact hpu) ?_
 simp only [go_sem,seval,c65,h1,h2,h3]
 refine ah (hP) ?_<;>simp only [go_sem,seval,Vl.vv,Vl.cells,h1,h2,h3]
 exact fin (by simp only [VV.isPure];exact hpu) rfl
theorem ZT : PV Tryz.prog G0 66 [.nils] (.agg [.nilp]):=by
 refine pv e66 (by simp) rfl rfl ?_
 simp only [go_sem,seval,c66]
 refine dI ?_
 simp only [go_sem,seval]
 exact fin (by rfl) rfl
end Go.V
namespace Go.V
open Go.Proofs
set_option maxRecDepth 100000
theorem Pn : PV Tryz.prog G0 63 [.agg [.int .i64 4,.int .i64 0,.str [],.nils,.nils]] (.int .i64 0):=by
 refine pv e63 (by simp) rfl rfl ?_
 simp only [go_sem,seval,c63]
 exact fin (by rfl) rfl
def zK : Vl:=⟨0,0,[],4,.nilp,0,0,0,.nilp,0,0⟩
theorem Vf : zK.ok:=⟨rfl,rfl,rfl,rfl,by simp [zK],by simp [zK]⟩
theorem Oc : PV Tryz.prog G0 65 [.agg [.nilp]] zK.vv:=TB .nilp [] (by simp) (.inl ⟨rfl,rfl⟩) (by simp) (by simp [eG]) (by simp [maxD])
theorem KC (seed bits : Int) (A B C : Obj) : CV Tryz.prog G0 41 [.mptr 3 0,.agg [.int .u64 seed,.int .i64 bits],.agg [.int .i64 4,.int .i64 0,.str [],.nils,.nils],.int .i64 1] [A,B,C,.own [.int .i64 0]] fun r σ'=>r=.ret (.tup [zK.vv,.int .i64 0])∧σ'[2]?=some C:=by
 refine cv e41 (by simp) ?_
 simp only [go_sem,seval,c41]
 refine ah (Pn) ?_<;>simp only [go_sem,seval]
 refine dI ?_
 simp only [go_sem,seval]
 refine ah (ZT) ?_<;>simp only [go_sem,seval]
 refine ah (Oc) ?_<;>simp only [go_sem,seval,zK,Vl.vv,Vl.cells]
theorem OH (seed bits : Int) : PV Tryz.prog G0 16 [.agg [.int .u64 seed,.int .i64 bits],.agg [.int .i64 4,.int .i64 0,.str [],.nils,.nils]] (.tup [zK.vv,.int .i64 0]):=by
 refine pv e16 (by simp) rfl rfl ?_
 simp only [go_sem,seval,c16]
 refine CV.mono (KC seed bits _ _ _) ?_
 rintro _ σ' ⟨rfl,h⟩
 have h5:=(List.getElem?_eq_some_iff.1 h).1
 simp only [go_sem,seval,aO,zK,Vl.vv,Vl.cells,h,List.getElem?_set_self h5]
 exact fin (by rfl) rfl
end Go.V
