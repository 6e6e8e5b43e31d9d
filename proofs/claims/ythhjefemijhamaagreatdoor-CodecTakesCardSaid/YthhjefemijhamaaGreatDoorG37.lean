/- Texts F65 F66 F67. -/
import Derived.Test.YthhjefemijhamaaGreatDoorG12
import Derived.Test.YthhjefemijhamaaGreatDoorG36
set_option linter.unusedVariables false
set_option linter.unusedSimpArgs false
namespace Go.V
open Go.Proofs
set_option maxRecDepth 100000
def vH (f : Nat) (s : Bs) (e n q : Nat) (m : Md) : Option Rs:=match aT s e with
 | .err c p=>some (.er c p)
 | .tok k' _ e' _ t'=>if k'=1∧t'=m.cl then some (.ok m.fin e' n) else rd f s e n q m
def MnQ (id tid : Nat) (seed bits : Int) (s : Bs) (σ : Store) (X : Vl) : Rs→dX→Store→Prop
 | .er c p,r,σ'=>r=.panic (wR c p)∧Ch (fun j=>j=id∨j=tid) σ σ'
 | .ok _ e n',r,σ'=>r=.ret (.tup [])∧σ'[tid]?=some (.own X.cells)∧σ'[id]?=some (RD seed bits s e n')∧Ch (fun j=>j=id∨j=tid) σ σ'
theorem Ku (f : Nat) (hI : qB f) (seed bits : Int) (s : Bs) (e n q : Nat) (R : Rs) (m : Md) (x0 : Vl) (he : e≤s.length) (hs : s.length≤10000000)
  (hA : rG seed bits m x0) (hb : x0.below=0) (hm : x0.more=0) (hq1 : 1≤q) (hq : q≤64) (hn1 : 1≤n) (hn : n≤16384) (hR : vH f s e n q m=some R) :
  ∃ X,PG s q (n-1) R X∧∀ (id tid rid did : Nat) (σ : Store),σ[id]?=some (RD seed bits s e n)→tid≠id→rid≠id→did≠id→rid≠tid→did≠tid→σ[rid]?=some (.own [.mptr id 0])→σ[did]?=some (.own [.int .i64 q])→σ[tid]?=some (.own x0.cells) →
   CV Tryz.prog G0 138 [.mptr id 0,.str m.cl,clo tid rid did m] σ (MnQ id tid seed bits s σ X R):=by
 have hec : lY (e : Int):=iL (by omega)
 unfold vH at hR
 have hX : ∃ X,PG s q (n-1) R X∧(∀ x1 e1 i1,aT s e=.tok 1 x1 e1 i1 m.cl→X=x0)∧(∀ k x1 e1 i1 t,aT s e=.tok k x1 e1 i1 t→¬ (k=1∧t=m.cl)→ItW X f seed bits s e n q R m x0):=by
  cases hL : aT s e with
  | err c p=>rw [hL] at hR;cases hR;exact ⟨x0,trivial,(fun _ _ _ h=>by cases h),(fun _ _ _ _ _ h=>by cases h)⟩
  | tok k x1 e1 i1 t =>
   have hle:=wE hL
   rw [hL] at hR
   simp only at hR
   by_cases hc : k=1∧t=m.cl
   ·rw [if_pos hc] at hR
    cases hR
    exact ⟨x0,⟨hA.rvl,hA.ok (by omega) (by omega),by omega,by omega,hn,hle⟩,(fun _ _ _ _=>rfl),(fun _ _ _ _ _ h hn=>by cases h;exact absurd hc hn)⟩
   ·rw [if_neg hc] at hR
    obtain ⟨X,h1,h2⟩:=hI seed bits s e n (n-1) q R m x0 hec hs hA (by omega) hq1 (by omega) hn hR
    exact ⟨X,h1,(fun _ _ _ h=>by cases h;exact absurd ⟨rfl,rfl⟩ hc),(fun _ _ _ _ _ _ _=>h2)⟩
 obtain ⟨X,hXv,hX1,hX2⟩:=hX
 refine ⟨X,hXv,fun id tid rid did σ hσ n1 n2 n3 n4 n5 hr hd ht=>?_⟩
 refine cv e138 (by simp) ?_
 have hid:=(List.getElem?_eq_some_iff.1 hσ).1
 have htd:=(List.getElem?_eq_some_iff.1 ht).1
 have hrd:=(List.getElem?_eq_some_iff.1 hr).1
 have hdd:=(List.getElem?_eq_some_iff.1 hd).1
 simp only [go_sem,seval,c138]
 refine CV.mono (Y4 m.cl id seed bits s e n σ hσ hec hs) ?_
 rintro _ σ1 (⟨c,p,hL,rfl,hCe⟩ | ⟨x1,e1,i1,hL,rfl,hG⟩ | ⟨k,x1,e1,i1,t,hL,hne,rfl,hC⟩)
 ·rw [hL] at hR
  simp only [Option.some.injEq] at hR
  subst hR
  simp only [go_sem,seval,aO]
  exact ⟨rfl,hCe.mono fun _ h=>h.elim⟩
 ·have hXe:=hX1 _ _ _ hL
  rw [hL] at hR
  simp only [and_self,if_true,Option.some.injEq] at hR
  subst hR hXe
  simp only [go_sem,seval,aO]
  exact ⟨rfl,by rw [hG.1.same tid htd n1];exact ht,hG.2,hG.1.mono fun j h=>.inl h⟩
 ·have hXw:=hX2 _ _ _ _ _ hL hne
  simp only [go_sem,seval,aO]
  refine hXw id tid rid did σ σ1 _ _ (by rw [hC.same id hid (by simp)];exact hσ) n1 n2 n3 n4 n5 (by rw [hC.same rid hrd (by simp)];exact hr) (by rw [hC.same did hdd (by simp)];exact hd) (by rw [hC.same tid htd (by simp)];exact ht) (hC.mono fun _ h=>h.elim) hid htd hrd hdd rfl rfl rfl ?_
  cases R with
  | er c p =>
   intro ρ σ' hCe
   simp only [go_sem,seval]
   exact ⟨rfl,hCe⟩
  | ok v e' n' =>
   intro ρ σ' a7 a8 a9
   simp only [go_sem,seval]
   exact ⟨rfl,a7,a8,a9⟩
theorem PW (id : Nat) (seed bits : Int) (s : Bs) (a : Int) (n : Nat) (σ : Store) (hσ : σ[id]?=some (RD seed bits s a n)) : CV Tryz.prog G0 137 [.mptr id 0,.int .i64 4] σ fun r σ'=>r=.ret zK.vv∧Ch (fun _=>False) σ σ':=by
 refine cv e137 (by simp) ?_
 have hlt:=(List.getElem?_eq_some_iff.1 hσ).1
 have hσ' : ∀ τ,(σ++τ)[id]?=some (RD seed bits s a n):=fun τ=>by rw [List.getElem?_append_left hlt];exact hσ
 unfold RD at hσ'
 simp only [go_sem,seval,c137,hσ',SS]
 refine ah (OH seed bits) ?_<;>simp only [go_sem,seval,SS]
 refine CV.mono (vO zK Vf 0 _) ?_
 rintro _ σ' ⟨rfl,hC⟩
 have h : σ'[σ.length]?=some (.own [.int .i64 0,.int .i64 0,.str [],.int .i64 0,.nilp,.int .u64 0,.int .i64 0,.int .i64 0,.nilp,.int .i64 0,.int .i64 0]):=by
  rw [hC.same _ (by simp) (by simp)];simp
 have h5:=(List.getElem?_eq_some_iff.1 h).1
 simp only [go_sem,seval,aO,zK,Vl.vv,Vl.cells,h,List.getElem?_set_self h5]
 exact ⟨by have:=hC.len;simp at this ⊢;omega,fun j hj hn=>by rw [List.getElem?_set_ne (by omega),hC.same j (by simp;omega) hn,List.getElem?_append_left hj]⟩
theorem QB (f : Nat) (hI : qB f) (seed bits : Int) (s : Bs) (e n q : Nat) (R : Rs) (he : e≤s.length) (hs : s.length≤10000000) (hq1 : 1≤q) (hq : q≤64) (hn1 : 1≤n) (hn : n≤16384)
  (hR : vH f s e n q (.vec [])=some R) : ∃ X,PG s q (n-1) R X∧∀ (id : Nat) (σ : Store),σ[id]?=some (RD seed bits s e n)→CV Tryz.prog G0 97 [.mptr id 0,.int .i64 q] σ (Pz id seed bits s σ X R):=by
 obtain ⟨x0,hx0⟩ : ∃ x0,x0=zK:=⟨_,rfl⟩
 have hA : rG seed bits (.vec []) x0:=by rw [hx0];exact ⟨[],rfl,⟨by simp,by simp,.nilp,.inl ⟨rfl,rfl⟩,rfl⟩⟩
 have hb0 : x0.below=0:=by rw [hx0];rfl
 have hm0 : x0.more=0:=by rw [hx0];rfl
 have hok0 : x0.ok:=hA.ok (by omega) (by omega)
 have v7 : x0.cells.length=11:=rfl
 have v8 : x0.cells.all VV.aF=true:=hok0.cell
 have v9 : x0.cells.take 11=x0.cells:=rfl
 have hE:=fun id σ hσ=>PW id seed bits s e n σ hσ
 rw [← hx0] at hE
 simp only [Vl.vv] at hE
 obtain ⟨X,hXv,hXw⟩:=Ku f hI seed bits s e n q R (.vec []) x0 he hs hA hb0 hm0 hq1 hq hn1 hn hR
 refine ⟨X,hXv,fun id σ hσ=>?_⟩
 have hid:=(List.getElem?_eq_some_iff.1 hσ).1
 refine cv e97 (by simp) ?_
 simp only [go_sem,seval,c97,SS]
 refine CV.mono (hE id _ (by rw [List.getElem?_append_left hid];exact hσ)) ?_
 rintro _ σ1 ⟨rfl,hC⟩
 have hlen:=hC.len
 simp only [List.length_append,List.length_cons,List.length_nil] at hlen
 have z0 : σ1[σ.length]?=some (.own [.mptr id 0]):=by rw [hC.same _ (by simp) (by simp)];simp
 have z1 : σ1[σ.length+1]?=some (.own [.int .i64 q]):=by rw [hC.same _ (by simp) (by simp)];simp
 have z2 : σ1[σ.length+(1+1)]?=some (.own [.int .i64 0,.int .i64 0,.str [],.int .i64 0,.nilp,.int .u64 0,.int .i64 0,.int .i64 0,.nilp,.int .i64 0,.int .i64 0]):=by rw [hC.same _ (by simp) (by simp)];simp
 have z3 : ∀ j,j < σ.length→σ1[j]?=σ[j]?:=fun j hj=>by rw [hC.same j (by simp;omega) (by simp),List.getElem?_append_left hj]
 obtain ⟨σ2,h2⟩ : ∃ σ2,σ2=σ1++[Obj.own x0.cells]:=⟨_,rfl⟩
 have g0 : σ2.length=σ1.length+1:=by rw [h2];simp
 have g1 : σ2[σ.length]?=some (.own [.mptr id 0]):=by rw [h2,List.getElem?_append_left (by omega)];exact z0
 have g2 : σ2[σ.length+1]?=some (.own [.int .i64 q]):=by rw [h2,List.getElem?_append_left (by omega)];exact z1
 have g3 : σ2[σ.length+(1+1)]?=some (.own [.int .i64 0,.int .i64 0,.str [],.int .i64 0,.nilp,.int .u64 0,.int .i64 0,.int .i64 0,.nilp,.int .i64 0,.int .i64 0]):=by rw [h2,List.getElem?_append_left (by omega)];exact z2
 have g4 : σ2[σ1.length]?=some (.own x0.cells):=by rw [h2];simp
 have g5 : ∀ j,j < σ.length→σ2[j]?=σ[j]?:=fun j hj=>by rw [h2,List.getElem?_append_left (by omega)];exact z3 j hj
 simp only [go_sem,seval,aO,v7,v8,v9,SS,← h2,g1]
 refine CV.mono (hXw id σ1.length σ.length (σ.length+1) σ2 (by rw [g5 id hid];exact hσ) (by omega) (by omega) (by omega) (by omega) (by omega) g1 g2 g4) ?_
 rintro r σ3 hM
 cases R with
 | er c p =>
  obtain ⟨rfl,hCe⟩:=hM
  have hCel:=hCe.len
  simp only [go_sem,seval,aO]
  exact ⟨rfl,⟨by omega,fun j hj hne=>by rw [hCe.same j (by omega) (by omega)];exact g5 j hj⟩⟩
 | ok v e' n' =>
  obtain ⟨rfl,ht,hσ3,hC3⟩:=hM
  obtain ⟨hv,hxo,_⟩:=hXv
  have hC3l:=hC3.len
  have g6 : σ3[σ.length+(1+1)]?=some (.own [.int .i64 0,.int .i64 0,.str [],.int .i64 0,.nilp,.int .u64 0,.int .i64 0,.int .i64 0,.nilp,.int .i64 0,.int .i64 0]):=by rw [hC3.same _ (by omega) (by omega)];exact g3
  have g7:=(List.getElem?_eq_some_iff.1 g6).1
  have g8 : σ3[σ.length+2]?=some (.own [.int .i64 0,.int .i64 0,.str [],.int .i64 0,.nilp,.int .u64 0,.int .i64 0,.int .i64 0,.nilp,.int .i64 0,.int .i64 0]):=g6
  have g9 : σ.length+2 < σ3.length:=g7
  have w7 : X.cells.length=11:=rfl
  have w8 : X.cells.all VV.aF=true:=hxo.cell
  have w9 : X.cells.take 11=X.cells:=rfl
  simp only [go_sem,seval,aO,ht,w7,w8,w9,g8,List.getElem?_set_self g9]
  refine ⟨rfl,⟨by simp;omega,fun j hj hne=>?_⟩, ?_⟩
  ·rw [List.getElem?_set_ne (by omega),hC3.same j (by omega) (by omega)];exact g5 j hj
  ·rw [List.getElem?_set_ne (by omega)];exact hσ3
theorem Wu (f : Nat) (hI : qB f) (seed bits : Int) (s : Bs) (e n q : Nat) (R : Rs) (he : e≤s.length) (hs : s.length≤10000000) (hq1 : 1≤q) (hq : q≤64) (hn1 : 1≤n) (hn : n≤16384)
  (hR : vH f s e n q (.map [])=some R) : ∃ X,PG s q (n-1) R X∧∀ (id : Nat) (σ : Store),σ[id]?=some (RD seed bits s e n)→CV Tryz.prog G0 98 [.mptr id 0,.int .i64 q] σ (Pz id seed bits s σ X R):=by
 obtain ⟨x0,hx0⟩ : ∃ x0,x0=Pg 5 seed bits:=⟨_,rfl⟩
 have hA : rG seed bits (.map []) x0:=by rw [hx0];exact ⟨[],rfl,⟨.nil,by simp,by simp,.nilp,[],.refl _,.inl ⟨rfl,rfl⟩,rfl⟩⟩
 have hb0 : x0.below=0:=by rw [hx0];rfl
 have hm0 : x0.more=0:=by rw [hx0];rfl
 have hok0 : x0.ok:=hA.ok (by omega) (by omega)
 have v7 : x0.cells.length=11:=rfl
 have v8 : x0.cells.all VV.aF=true:=hok0.cell
 have v9 : x0.cells.take 11=x0.cells:=rfl
 have hE:=fun id σ hσ=>BR 5 (.inl rfl) id seed bits s e n σ hσ
 rw [← hx0] at hE
 simp only [Vl.vv] at hE
 obtain ⟨X,hXv,hXw⟩:=Ku f hI seed bits s e n q R (.map []) x0 he hs hA hb0 hm0 hq1 hq hn1 hn hR
 refine ⟨X,hXv,fun id σ hσ=>?_⟩
 have hid:=(List.getElem?_eq_some_iff.1 hσ).1
 refine cv e98 (by simp) ?_
 simp only [go_sem,seval,c98,SS]
 refine CV.mono (hE id _ (by rw [List.getElem?_append_left hid];exact hσ)) ?_
 rintro _ σ1 ⟨rfl,hC⟩
 have hlen:=hC.len
 simp only [List.length_append,List.length_cons,List.length_nil] at hlen
 have z0 : σ1[σ.length]?=some (.own [.mptr id 0]):=by rw [hC.same _ (by simp) (by simp)];simp
 have z1 : σ1[σ.length+1]?=some (.own [.int .i64 q]):=by rw [hC.same _ (by simp) (by simp)];simp
 have z2 : σ1[σ.length+(1+1)]?=some (.own [.int .i64 0,.int .i64 0,.str [],.int .i64 0,.nilp,.int .u64 0,.int .i64 0,.int .i64 0,.nilp,.int .i64 0,.int .i64 0]):=by rw [hC.same _ (by simp) (by simp)];simp
 have z3 : ∀ j,j < σ.length→σ1[j]?=σ[j]?:=fun j hj=>by rw [hC.same j (by simp;omega) (by simp),List.getElem?_append_left hj]
 obtain ⟨σ2,h2⟩ : ∃ σ2,σ2=σ1++[Obj.own x0.cells]:=⟨_,rfl⟩
 have g0 : σ2.length=σ1.length+1:=by rw [h2];simp
 have g1 : σ2[σ.length]?=some (.own [.mptr id 0]):=by rw [h2,List.getElem?_append_left (by omega)];exact z0
 have g2 : σ2[σ.length+1]?=some (.own [.int .i64 q]):=by rw [h2,List.getElem?_append_left (by omega)];exact z1
 have g3 : σ2[σ.length+(1+1)]?=some (.own [.int .i64 0,.int .i64 0,.str [],.int .i64 0,.nilp,.int .u64 0,.int .i64 0,.int .i64 0,.nilp,.int .i64 0,.int .i64 0]):=by rw [h2,List.getElem?_append_left (by omega)];exact z2
 have g4 : σ2[σ1.length]?=some (.own x0.cells):=by rw [h2];simp
 have g5 : ∀ j,j < σ.length→σ2[j]?=σ[j]?:=fun j hj=>by rw [h2,List.getElem?_append_left (by omega)];exact z3 j hj
 simp only [go_sem,seval,aO,v7,v8,v9,SS,← h2,g1]
 refine CV.mono (hXw id σ1.length σ.length (σ.length+1) σ2 (by rw [g5 id hid];exact hσ) (by omega) (by omega) (by omega) (by omega) (by omega) g1 g2 g4) ?_
 rintro r σ3 hM
 cases R with
 | er c p =>
  obtain ⟨rfl,hCe⟩:=hM
  have hCel:=hCe.len
  simp only [go_sem,seval,aO]
  exact ⟨rfl,⟨by omega,fun j hj hne=>by rw [hCe.same j (by omega) (by omega)];exact g5 j hj⟩⟩
 | ok v e' n' =>
  obtain ⟨rfl,ht,hσ3,hC3⟩:=hM
  obtain ⟨hv,hxo,_⟩:=hXv
  have hC3l:=hC3.len
  have g6 : σ3[σ.length+(1+1)]?=some (.own [.int .i64 0,.int .i64 0,.str [],.int .i64 0,.nilp,.int .u64 0,.int .i64 0,.int .i64 0,.nilp,.int .i64 0,.int .i64 0]):=by rw [hC3.same _ (by omega) (by omega)];exact g3
  have g7:=(List.getElem?_eq_some_iff.1 g6).1
  have g8 : σ3[σ.length+2]?=some (.own [.int .i64 0,.int .i64 0,.str [],.int .i64 0,.nilp,.int .u64 0,.int .i64 0,.int .i64 0,.nilp,.int .i64 0,.int .i64 0]):=g6
  have g9 : σ.length+2 < σ3.length:=g7
  have w7 : X.cells.length=11:=rfl
  have w8 : X.cells.all VV.aF=true:=hxo.cell
  have w9 : X.cells.take 11=X.cells:=rfl
  simp only [go_sem,seval,aO,ht,w7,w8,w9,g8,List.getElem?_set_self g9]
  refine ⟨rfl,⟨by simp;omega,fun j hj hne=>?_⟩, ?_⟩
  ·rw [List.getElem?_set_ne (by omega),hC3.same j (by omega) (by omega)];exact g5 j hj
  ·rw [List.getElem?_set_ne (by omega)];exact hσ3
theorem ZU (f : Nat) (hI : qB f) (seed bits : Int) (s : Bs) (e n q : Nat) (R : Rs) (he : e≤s.length) (hs : s.length≤10000000) (hq1 : 1≤q) (hq : q≤64) (hn1 : 1≤n) (hn : n≤16384)
  (hR : vH f s e n q (.set [])=some R) : ∃ X,PG s q (n-1) R X∧∀ (id : Nat) (σ : Store),σ[id]?=some (RD seed bits s e n)→CV Tryz.prog G0 99 [.mptr id 0,.int .i64 q] σ (Pz id seed bits s σ X R):=by
 obtain ⟨x0,hx0⟩ : ∃ x0,x0=Pg 6 seed bits:=⟨_,rfl⟩
 have hA : rG seed bits (.set []) x0:=by rw [hx0];exact ⟨[],rfl,⟨.nil,by simp,by simp,.nilp,[],.refl _,.inl ⟨rfl,rfl⟩,rfl⟩,by simp⟩
 have hb0 : x0.below=0:=by rw [hx0];rfl
 have hm0 : x0.more=0:=by rw [hx0];rfl
 have hok0 : x0.ok:=hA.ok (by omega) (by omega)
 have v7 : x0.cells.length=11:=rfl
 have v8 : x0.cells.all VV.aF=true:=hok0.cell
 have v9 : x0.cells.take 11=x0.cells:=rfl
 have hE:=fun id σ hσ=>BR 6 (.inr rfl) id seed bits s e n σ hσ
 rw [← hx0] at hE
 simp only [Vl.vv] at hE
 obtain ⟨X,hXv,hXw⟩:=Ku f hI seed bits s e n q R (.set []) x0 he hs hA hb0 hm0 hq1 hq hn1 hn hR
 refine ⟨X,hXv,fun id σ hσ=>?_⟩
 have hid:=(List.getElem?_eq_some_iff.1 hσ).1
 refine cv e99 (by simp) ?_
 simp only [go_sem,seval,c99,SS]
 refine CV.mono (hE id _ (by rw [List.getElem?_append_left hid];exact hσ)) ?_
 rintro _ σ1 ⟨rfl,hC⟩
 have hlen:=hC.len
 simp only [List.length_append,List.length_cons,List.length_nil] at hlen
 have z0 : σ1[σ.length]?=some (.own [.mptr id 0]):=by rw [hC.same _ (by simp) (by simp)];simp
 have z1 : σ1[σ.length+1]?=some (.own [.int .i64 q]):=by rw [hC.same _ (by simp) (by simp)];simp
 have z2 : σ1[σ.length+(1+1)]?=some (.own [.int .i64 0,.int .i64 0,.str [],.int .i64 0,.nilp,.int .u64 0,.int .i64 0,.int .i64 0,.nilp,.int .i64 0,.int .i64 0]):=by rw [hC.same _ (by simp) (by simp)];simp
 have z3 : ∀ j,j < σ.length→σ1[j]?=σ[j]?:=fun j hj=>by rw [hC.same j (by simp;omega) (by simp),List.getElem?_append_left hj]
 obtain ⟨σ2,h2⟩ : ∃ σ2,σ2=σ1++[Obj.own x0.cells]:=⟨_,rfl⟩
 have g0 : σ2.length=σ1.length+1:=by rw [h2];simp
 have g1 : σ2[σ.length]?=some (.own [.mptr id 0]):=by rw [h2,List.getElem?_append_left (by omega)];exact z0
 have g2 : σ2[σ.length+1]?=some (.own [.int .i64 q]):=by rw [h2,List.getElem?_append_left (by omega)];exact z1
 have g3 : σ2[σ.length+(1+1)]?=some (.own [.int .i64 0,.int .i64 0,.str [],.int .i64 0,.nilp,.int .u64 0,.int .i64 0,.int .i64 0,.nilp,.int .i64 0,.int .i64 0]):=by rw [h2,List.getElem?_append_left (by omega)];exact z2
 have g4 : σ2[σ1.length]?=some (.own x0.cells):=by rw [h2];simp
 have g5 : ∀ j,j < σ.length→σ2[j]?=σ[j]?:=fun j hj=>by rw [h2,List.getElem?_append_left (by omega)];exact z3 j hj
 simp only [go_sem,seval,aO,v7,v8,v9,SS,← h2,g1]
 refine CV.mono (hXw id σ1.length σ.length (σ.length+1) σ2 (by rw [g5 id hid];exact hσ) (by omega) (by omega) (by omega) (by omega) (by omega) g1 g2 g4) ?_
 rintro r σ3 hM
 cases R with
 | er c p =>
  obtain ⟨rfl,hCe⟩:=hM
  have hCel:=hCe.len
  simp only [go_sem,seval,aO]
  exact ⟨rfl,⟨by omega,fun j hj hne=>by rw [hCe.same j (by omega) (by omega)];exact g5 j hj⟩⟩
 | ok v e' n' =>
  obtain ⟨rfl,ht,hσ3,hC3⟩:=hM
  obtain ⟨hv,hxo,_⟩:=hXv
  have hC3l:=hC3.len
  have g6 : σ3[σ.length+(1+1)]?=some (.own [.int .i64 0,.int .i64 0,.str [],.int .i64 0,.nilp,.int .u64 0,.int .i64 0,.int .i64 0,.nilp,.int .i64 0,.int .i64 0]):=by rw [hC3.same _ (by omega) (by omega)];exact g3
  have g7:=(List.getElem?_eq_some_iff.1 g6).1
  have g8 : σ3[σ.length+2]?=some (.own [.int .i64 0,.int .i64 0,.str [],.int .i64 0,.nilp,.int .u64 0,.int .i64 0,.int .i64 0,.nilp,.int .i64 0,.int .i64 0]):=g6
  have g9 : σ.length+2 < σ3.length:=g7
  have w7 : X.cells.length=11:=rfl
  have w8 : X.cells.all VV.aF=true:=hxo.cell
  have w9 : X.cells.take 11=X.cells:=rfl
  simp only [go_sem,seval,aO,ht,w7,w8,w9,g8,List.getElem?_set_self g9]
  refine ⟨rfl,⟨by simp;omega,fun j hj hne=>?_⟩, ?_⟩
  ·rw [List.getElem?_set_ne (by omega),hC3.same j (by omega) (by omega)];exact g5 j hj
  ·rw [List.getElem?_set_ne (by omega)];exact hσ3
end Go.V
namespace Go.V
open Go.Proofs
set_option maxRecDepth 100000
theorem Dq {k : Nat} {i : Int} {t : Bs} {sk si : Int} {st : Bs} {kd : Int} (h : bI k i t=some (sk,si,st,kd)) : st.length≤t.length:=by
 unfold bI at h
 repeat' split at h
 all_goals first
  | cases h;done
  | (simp only [Option.some.injEq,Prod.mk.injEq] at h;obtain ⟨rfl,rfl,rfl,rfl⟩:=h;simp)
theorem sU {k : Nat} {i : Int} {t : Bs} {sk si : Int} {st : Bs} {kd : Int} (h : bI k i t=some (sk,si,st,kd)) : (kd=0∧dh sk si st=0)∨kd=4∨kd=5∨kd=6:=by
 unfold bI at h
 repeat' split at h
 all_goals first
  | cases h;done
  | (simp only [Option.some.injEq,Prod.mk.injEq] at h;obtain ⟨rfl,rfl,rfl,rfl⟩:=h;simp [dh])
theorem UQ (f : Nat) (hI : qB f) : Ih (f+1):=by
 intro seed bits s a n q R ha hs hq1 hq hn hrd
 rw [rd] at hrd
 simp only [Md.isVal,if_true] at hrd
 have hX : ∃ X : Vl,PG s q n R X∧∀ (k x e : Nat) (i : Int) (t : Bs) (sk si : Int) (st : Bs) (kd : Int),aT s a=.tok k x e i t→bI k i t=some (sk,si,st,kd)→¬ 64 < q→¬ 16384 < n+1→e≤s.length ∧
   (kd=0→X=zQ sk si st)∧(kd=4→∀ (id : Nat) (σ : Store),σ[id]?=some (RD seed bits s e (n+1))→CV Tryz.prog G0 97 [.mptr id 0,.int .i64 q] σ (Pz id seed bits s σ X R)) ∧
   (kd=5→∀ (id : Nat) (σ : Store),σ[id]?=some (RD seed bits s e (n+1))→CV Tryz.prog G0 98 [.mptr id 0,.int .i64 q] σ (Pz id seed bits s σ X R)) ∧
   (kd=6→∀ (id : Nat) (σ : Store),σ[id]?=some (RD seed bits s e (n+1))→CV Tryz.prog G0 99 [.mptr id 0,.int .i64 q] σ (Pz id seed bits s σ X R)):=by
  cases hL : aT s a with
  | err c p=>rw [hL] at hrd;cases hrd;exact ⟨Vl.zero,trivial,fun _ _ _ _ _ _ _ _ _ h=>by cases h⟩
  | tok k x e i t =>
   have hle:=wE hL
   rw [hL] at hrd
   simp only at hrd
   cases hB : bI k i t with
   | none=>rw [hB] at hrd;cases hrd;exact ⟨Vl.zero,trivial,fun _ _ _ _ _ _ _ _ _ h h2=>by cases h;rw [hB] at h2;cases h2⟩
   | some b =>
    obtain ⟨sk,si,st,kd⟩:=b
    rw [hB] at hrd
    simp only at hrd
    by_cases hq' : 64 < q
    ·rw [if_pos hq'] at hrd;cases hrd;exact ⟨Vl.zero,trivial,fun _ _ _ _ _ _ _ _ _ _ _ h=>absurd hq' h⟩
    rw [if_neg hq'] at hrd
    by_cases hn' : 16384 < n+1
    ·rw [if_pos hn'] at hrd;cases hrd;exact ⟨Vl.zero,trivial,fun _ _ _ _ _ _ _ _ _ _ _ _ h=>absurd hn' h⟩
    rw [if_neg hn'] at hrd
    by_cases h0 : kd=0
    ·subst h0
     rw [if_pos rfl,Option.some.injEq] at hrd
     subst hrd
     have hck : dh sk si st=0:=by rcases sU hB with ⟨_,h⟩ | h | h | h<;>first | exact h | (exact absurd h (by decide))
     have hst : st.length≤10000000:=by
      have h1:=Dq hB
      have h2:=(aW hL).2.2.2.2.2.2
      omega
     refine ⟨zQ sk si st,⟨.sc _ _ _ hck hst (Ah hB (tu hL)),Lc _ _ _,by simp [zQ];omega,by simp [zQ],by omega,hle⟩,fun _ _ _ _ _ _ _ _ _ h h2 _ _=>?_⟩
     cases h;rw [hB] at h2;cases h2
     exact ⟨hle,fun _=>rfl,fun h=>absurd h (by decide),fun h=>absurd h (by decide),fun h=>absurd h (by decide)⟩
    ·rw [if_neg h0] at hrd
     have hopen : vH f s e (n+1) q (dZ kd)=some R:=hrd
     have hk : kd=4∨kd=5∨kd=6:=by rcases sU hB with ⟨h,_⟩ | h | h | h<;>omega
     rcases hk with rfl | rfl | rfl
     ·obtain ⟨X,h1,h2⟩:=QB f hI seed bits s e (n+1) q R hle hs hq1 (by omega) (by omega) (by omega) hopen
      refine ⟨X,h1,fun _ _ _ _ _ _ _ _ _ h hh2 _ _=>?_⟩
      cases h;rw [hB] at hh2;cases hh2
      exact ⟨hle,fun h=>absurd h (by decide),fun _=>h2,fun h=>absurd h (by decide),fun h=>absurd h (by decide)⟩
     ·obtain ⟨X,h1,h2⟩:=Wu f hI seed bits s e (n+1) q R hle hs hq1 (by omega) (by omega) (by omega) hopen
      refine ⟨X,h1,fun _ _ _ _ _ _ _ _ _ h hh2 _ _=>?_⟩
      cases h;rw [hB] at hh2;cases hh2
      exact ⟨hle,fun h=>absurd h (by decide),fun h=>absurd h (by decide),fun _=>h2,fun h=>absurd h (by decide)⟩
     ·obtain ⟨X,h1,h2⟩:=ZU f hI seed bits s e (n+1) q R hle hs hq1 (by omega) (by omega) (by omega) hopen
      refine ⟨X,h1,fun _ _ _ _ _ _ _ _ _ h hh2 _ _=>?_⟩
      cases h;rw [hB] at hh2;cases hh2
      exact ⟨hle,fun h=>absurd h (by decide),fun h=>absurd h (by decide),fun h=>absurd h (by decide),fun _=>h2⟩
 obtain ⟨X,hXv,hX⟩:=hX
 refine ⟨X,hXv,fun id σ hσ=>?_⟩
 have hid:=(List.getElem?_eq_some_iff.1 hσ).1
 refine cv e57 (by simp) ?_
 simp only [go_sem,seval,c57,SS]
 refine CV.mono (QJ id seed bits s a n _ (by rw [List.getElem?_append_left hid];exact hσ) ha hs) ?_
 rintro _ σ1 ⟨rfl,hCn,hG⟩
 cases hL : aT s a with
 | err c p =>
  rw [hL] at hrd
  simp only [Option.some.injEq] at hrd
  subst hrd
  simp only [go_sem,seval,vP,aO]
  exact ⟨rfl,hCn.app⟩
 | tok k x e i t =>
  have hG:=hG _ _ _ _ _ hL
  have hle:=wE hL
  rw [hL] at hrd
  simp only at hrd
  simp only [go_sem,seval,vP,aO,dW,SS]
  refine CV.mono (TU k x e i t _) ?_
  rintro _ σ2 ⟨rfl,hC2⟩
  cases hB : bI k i t with
  | none =>
   rw [hB] at hrd
   simp only [Option.some.injEq] at hrd
   subst hrd
   simp only [go_sem,seval,LK,aO]
   exact ⟨rfl,hCn.app.trans ((hC2.app).mono fun _ h=>h.elim)⟩
  | some b =>
   obtain ⟨sk,si,st,kd⟩:=b
   rw [hB] at hrd
   simp only at hrd
   have hl1:=hG.1.len
   have hl2:=hC2.len
   simp only [List.length_append,List.length_cons,List.length_nil] at hl1 hl2
   obtain ⟨τ,hτ⟩ : ∃ τ,τ=σ2++[Obj.own [.int .i64 sk,.int .i64 si,.str st]]:=⟨_,rfl⟩
   have g0 : τ.length=σ2.length+1:=by rw [hτ];simp
   have k1 : ∀ j,j < σ.length→j≠id→τ[j]?=σ[j]?:=fun j hj hne=>by
    rw [hτ,List.getElem?_append_left (by omega),hC2.same j (by simp;omega) (by simp),List.getElem?_append_left (by omega),hG.1.same j (by simp;omega) hne,List.getElem?_append_left hj]
   have k2 : τ[id]?=some (RD seed bits s e n):=by
    rw [hτ,List.getElem?_append_left (by omega),hC2.same id (by simp;omega) (by simp),List.getElem?_append_left (by omega)];exact hG.2
   have k3 : τ[σ.length]?=some (.own [.int .i64 0,.int .i64 0,.str [],.int .i64 0,.nilp,.int .u64 0,.int .i64 0,.int .i64 0,.nilp,.int .i64 0,.int .i64 0]):=by
    rw [hτ,List.getElem?_append_left (by omega),hC2.same _ (by simp;omega) (by simp),List.getElem?_append_left (by omega),hG.1.same _ (by simp) (by omega)];simp
   have k4 : τ[σ1.length]?=some (.own [.int .i64 k,.int .i64 x,.int .i64 e,.int .i64 i,.str t]):=by
    rw [hτ,List.getElem?_append_left (by omega),hC2.same _ (by simp) (by simp)];simp
   have k5 : τ[σ2.length]?=some (.own [.int .i64 sk,.int .i64 si,.str st]):=by rw [hτ];simp
   simp only [go_sem,seval,LK,aO,SS,← hτ]
   refine aj (fun hc=>?_) (fun hc=>?_)
   ·have hc' : 64 < q:=by simp at hc;omega
    rw [if_pos hc',Option.some.injEq] at hrd
    subst hrd
    simp only [go_sem,seval,k4]
    refine CV.mono (jo 7 x _) ?_
    rintro _ σ' ⟨rfl,rfl⟩
    simp only [go_sem,seval,aO]
    exact ⟨rfl,⟨by omega,fun j hj hne=>k1 j hj hne⟩⟩
   ·have hc' : ¬ 64 < q:=by simp at hc;omega
    rw [if_neg hc'] at hrd
    have e1 : IntKind.i64.wrap ((n : Int)+1)=((n+1 : Nat) : Int):=by rw [iw (by omega)];omega
    have k2':=k2
    unfold RD at k2'
    simp only [go_sem,seval,k2',e1]
    obtain ⟨τ1,hτ1⟩ : ∃ τ1,τ1=τ.set id (RD seed bits s e (n+1)):=⟨_,rfl⟩
    have m0 : τ1.length=σ2.length+1:=by rw [hτ1];simp [g0]
    have m1 : ∀ j,j < σ.length→j≠id→τ1[j]?=σ[j]?:=fun j hj hne=>by rw [hτ1,List.getElem?_set_ne (by omega)];exact k1 j hj hne
    have m2 : τ1[id]?=some (RD seed bits s e (n+1)):=by rw [hτ1,List.getElem?_set_self (by omega)]
    have m3 : τ1[σ.length]?=some (.own [.int .i64 0,.int .i64 0,.str [],.int .i64 0,.nilp,.int .u64 0,.int .i64 0,.int .i64 0,.nilp,.int .i64 0,.int .i64 0]):=by rw [hτ1,List.getElem?_set_ne (by omega)];exact k3
    have m4 : τ1[σ1.length]?=some (.own [.int .i64 k,.int .i64 x,.int .i64 e,.int .i64 i,.str t]):=by rw [hτ1,List.getElem?_set_ne (by omega)];exact k4
    have m5 : τ1[σ2.length]?=some (.own [.int .i64 sk,.int .i64 si,.str st]):=by rw [hτ1,List.getElem?_set_ne (by omega)];exact k5
    have m2':=m2
    unfold RD at hτ1 m2'
    simp only [go_sem,seval,← hτ1,m2']
    refine aj (fun hd=>?_) (fun hd=>?_)
    ·have hd' : 16384 < n+1:=by simp at hd;omega
     rw [if_pos hd',Option.some.injEq] at hrd
     subst hrd
     simp only [go_sem,seval,m4]
     refine CV.mono (jo 8 x _) ?_
     rintro _ σ' ⟨rfl,rfl⟩
     simp only [go_sem,seval,aO]
     exact ⟨rfl,⟨by omega,fun j hj hne=>m1 j hj hne⟩⟩
    ·have hd' : ¬ 16384 < n+1:=by simp at hd;omega
     rw [if_neg hd'] at hrd
     have m6:=(List.getElem?_eq_some_iff.1 m3).1
     obtain ⟨_,hX0,hX4,hX5,hX6⟩:=hX k x e i t sk si st kd hL hB hc' hd'
     have hch : Ch (·=id) σ τ1:=⟨by omega,fun j hj hne=>m1 j hj hne⟩
     by_cases h0 : kd=0
     ·subst h0
      rw [if_pos rfl,Option.some.injEq] at hrd
      subst hrd
      have hck : dh sk si st=0:=by rcases sU hB with ⟨_,h⟩ | h | h | h<;>first | exact h | (exact absurd h (by decide))
      have hst : st.length≤10000000:=by
       have h1:=Dq hB
       have h2:=(aW hL).2.2.2.2.2.2
       omega
      have hP:=WZ sk si st
      rw [if_pos hck] at hP
      simp only [go_sem,seval,m5]
      refine ah (hP) ?_<;>simp only [go_sem,seval]
      refine CV.mono (vO (zQ sk si st) (Lc sk si st) 0 _) ?_
      rintro _ σ3 ⟨rfl,hC3⟩
      have hl3:=hC3.len
      have z : σ3[σ.length]?=some (.own [.int .i64 0,.int .i64 0,.str [],.int .i64 0,.nilp,.int .u64 0,.int .i64 0,.int .i64 0,.nilp,.int .i64 0,.int .i64 0]):=by rw [hC3.same _ m6 (by simp)];exact m3
      have z5:=(List.getElem?_eq_some_iff.1 z).1
      simp only [go_sem,seval,aO,zQ,Vl.vv,Vl.cells,z,List.getElem?_set_self z5]
      refine ⟨by rw [hX0 rfl];rfl,⟨by simp;omega,fun j hj hne=>?_⟩, ?_⟩
      ·rw [List.getElem?_set_ne (by omega),hC3.same j (by omega) (by simp)];exact m1 j hj hne
      ·rw [List.getElem?_set_ne (by omega),hC3.same id (by omega) (by simp)];exact m2
     ·rw [if_neg h0] at hrd
      have hopen : vH f s e (n+1) q (dZ kd)=some R:=hrd
      have hk : kd=4∨kd=5∨kd=6:=by rcases sU hB with ⟨h,_⟩ | h | h | h<;>omega
      have key : ∀ (r : dX) (σ3 : Store),Pz id seed bits s τ1 X R r σ3→(∃ c p,R=.er c p∧r=.panic (wR c p)∧Pz id seed bits s σ X R (.panic (wR c p)) σ3)∨(r=.ret X.vv∧X.ok∧σ3[σ.length]?=some (.own [.int .i64 0,.int .i64 0,.str [],.int .i64 0,.nilp,.int .u64 0,.int .i64 0,.int .i64 0,.nilp,.int .i64 0,.int .i64 0])∧Pz id seed bits s σ X R (.ret X.vv) (σ3.set σ.length (.own X.cells))):=by
       intro r σ3 hQ
       cases R with
       | er c p =>
        obtain ⟨rfl,hCe⟩:=hQ
        have hCel:=hCe.len
        exact .inl ⟨c,p,rfl,rfl,rfl,⟨by omega,fun j hj hne=>by rw [hCe.same j (by omega) hne];exact m1 j hj hne⟩⟩
       | ok v e' n' =>
        obtain ⟨rfl,hC3,hσ3⟩:=hQ
        have hl3:=hC3.len
        have z : σ3[σ.length]?=some (.own [.int .i64 0,.int .i64 0,.str [],.int .i64 0,.nilp,.int .u64 0,.int .i64 0,.int .i64 0,.nilp,.int .i64 0,.int .i64 0]):=by rw [hC3.same _ m6 (by omega)];exact m3
        refine .inr ⟨rfl,hXv.2.1,z,rfl,⟨by simp;omega,fun j hj hne=>?_⟩, ?_⟩
        ·rw [List.getElem?_set_ne (by omega),hC3.same j (by omega) hne];exact m1 j hj hne
        ·rw [List.getElem?_set_ne (by omega)];exact hσ3
      rcases hk with rfl | rfl | rfl
      ·simp only [go_sem,seval]
       refine CV.mono (hX4 rfl id τ1 m2) ?_
       rintro r σ3 hQ
       rcases key r σ3 hQ with ⟨c,p,rfl,rfl,hfin⟩ | ⟨rfl,hyo,z,hfin⟩
       ·simp only [go_sem,seval,aO]
        exact hfin
       ·have z5:=(List.getElem?_eq_some_iff.1 z).1
        have w7 : X.cells.length=11:=rfl
        have w8 : X.cells.all VV.aF=true:=hyo.cell
        have w9 : X.cells.take 11=X.cells:=rfl
        simp only [go_sem,seval,aO,Vl.vv,z,List.getElem?_set_self z5,w7,w8,w9]
        exact hfin
      ·simp only [go_sem,seval]
       refine CV.mono (hX5 rfl id τ1 m2) ?_
       rintro r σ3 hQ
       rcases key r σ3 hQ with ⟨c,p,rfl,rfl,hfin⟩ | ⟨rfl,hyo,z,hfin⟩
       ·simp only [go_sem,seval,aO]
        exact hfin
       ·have z5:=(List.getElem?_eq_some_iff.1 z).1
        have w7 : X.cells.length=11:=rfl
        have w8 : X.cells.all VV.aF=true:=hyo.cell
        have w9 : X.cells.take 11=X.cells:=rfl
        simp only [go_sem,seval,aO,Vl.vv,z,List.getElem?_set_self z5,w7,w8,w9]
        exact hfin
      ·simp only [go_sem,seval]
       refine CV.mono (hX6 rfl id τ1 m2) ?_
       rintro r σ3 hQ
       rcases key r σ3 hQ with ⟨c,p,rfl,rfl,hfin⟩ | ⟨rfl,hyo,z,hfin⟩
       ·simp only [go_sem,seval,aO]
        exact hfin
       ·have z5:=(List.getElem?_eq_some_iff.1 z).1
        have w7 : X.cells.length=11:=rfl
        have w8 : X.cells.all VV.aF=true:=hyo.cell
        have w9 : X.cells.take 11=X.cells:=rfl
        simp only [go_sem,seval,aO,Vl.vv,z,List.getElem?_set_self z5,w7,w8,w9]
        exact hfin
theorem IC : qB 0:=by
 intro seed bits s a n ns q R m x _ _ _ _ _ _ _ h
 simp [rd] at h
theorem NT : Ih 0:=by
 intro seed bits s a n q R _ _ _ _ _ h
 simp [rd] at h
theorem reads : ∀ f,Ih f∧qB f
 | 0=>⟨NT,IC⟩
 | f+1=>⟨UQ f (reads f).2,UM f (reads f).1 (reads f).2⟩
end Go.V
namespace Go.V
open Go.Proofs
set_option maxRecDepth 100000
@[go_sem] theorem Xm : jg Tryz.prog 107=some true:=by kernel_rfl
@[go_sem] theorem U4 : eY Tryz.prog 109 0=some 0:=by kernel_rfl
@[go_sem] theorem TM : bG Tryz.prog 107 0=some (0,2):=by kernel_rfl
@[go_sem] theorem Ro : bG Tryz.prog 107 1=some (2,1):=by kernel_rfl
@[go_sem] theorem Tv : bG Tryz.prog 107 2=some (3,1):=by kernel_rfl
@[go_sem] theorem Zv : fV Tryz.prog 109=some 1:=by kernel_rfl
@[go_sem] theorem Xr : bU Tryz.prog 105=some [.nilp]:=by kernel_rfl
@[go_sem] theorem Xk : bU Tryz.prog 107=some [.int .u64 0,.int .i64 0,.str [],.int .i64 0,.int .i64 0]:=by kernel_rfl
@[go_sem] theorem YM : bU Tryz.prog 50=some [.nili]:=by kernel_rfl
@[go_sem] theorem aaf : Tryz.prog.underlying 20=some (.interface #[]):=by kernel_rfl
def d56 : DFn:=⟨.seq (.reg [⟨some 8,.move (.tmp 4),20,none⟩,⟨some 9,.binOp .neq 20 (.tmp 8) (.const .nilIface) 20,4,none⟩]) (.cond (.tmp 9) (.seq (.reg [⟨some 11,.move (.tmp 4),20,none⟩,⟨some 12,.typeAssert (.tmp 11) 20 109 true,110,none⟩,⟨some 10,.move (.tmp 12),110,none⟩,⟨some 13,.extract (.tmp 10) 0,109,none⟩,⟨some 14,.extract (.tmp 10) 1,4,none⟩,⟨some 5,.alloc 109,0,none⟩,⟨none,.store 109 (.tmp 5) (.tmp 13),0,none⟩,⟨some 6,.assign (.tmp 14),4,none⟩]) (.seq (.seq (.reg [⟨some 15,.move (.tmp 6),4,none⟩,⟨some 16,.unOp .not 4 (.tmp 15),4,none⟩]) (.cond (.tmp 16) (.reg [⟨some 17,.load 105 (.tmp 0),105,none⟩,⟨some 18,.nilCheck (.tmp 17),0,none⟩,⟨some 19,.fieldAddr 107 (.tmp 18) 2,0,none⟩,⟨some 20,.load 3 (.tmp 19),3,none⟩,⟨some 21,.call ⟨.value (.func 47),#[.const (.int .i64 18),.tmp 20],#[31,3]⟩,50,none⟩,⟨some 22,.fieldAddr 109 (.tmp 5) 0,0,none⟩,⟨none,.store 50 (.tmp 22) (.tmp 21),0,none⟩]) (.skip))) (.draw [⟨0,some 23,.build 42 #[],42,none,false,[],false⟩,⟨1,some 24,.fieldAddr 109 (.tmp 5) 0,0,none,false,[],false⟩,⟨2,some 25,.load 50 (.tmp 24),50,none,false,[],true⟩,⟨3,none,.store 42 (.tmp 1) (.tmp 23),0,none,true,[2],false⟩,⟨4,none,.store 3 (.tmp 2) (.const (.int .i64 0)),0,none,true,[2],false⟩,⟨5,none,.store 50 (.tmp 3) (.tmp 25),0,none,true,[],false⟩]))) (.skip)),[],26,7,4⟩
theorem ZF : X3 Tryz.prog lab 56=some d56:=by kernel_rfl
def t34 : TFn:=⟨.reg [⟨some 3,.box 24 (.tmp 0),0,none⟩,⟨some 6,.alloc 42,0,none⟩,⟨some 7,.alloc 3,0,none⟩,⟨some 8,.alloc 50,0,none⟩],.reg [⟨some 10,.load 24 (.tmp 3),24,none⟩,⟨some 11,.move (.tmp 1),9,none⟩,⟨some 12,.move (.tmp 2),3,none⟩,⟨some 13,.build 107 #[(0,.tmp 10),(1,.tmp 11),(2,.tmp 12)],107,none⟩,⟨some 14,.box 107 (.tmp 13),105,none⟩,⟨some 9,.alloc 105,0,none⟩,⟨none,.store 105 (.tmp 9) (.tmp 14),0,none⟩],⟨some 15,.makeFunc (.func 56) #[] #[.tmp 9,.tmp 6,.tmp 7,.tmp 8],1,none⟩,15,.seq (.reg [⟨some 16,.load 105 (.tmp 9),105,none⟩,⟨some 17,.call ⟨.value (.func 57),#[.tmp 16,.const (.int .i64 1)],#[105,3]⟩,42,none⟩,⟨none,.store 42 (.tmp 6) (.tmp 17),0,none⟩]) (.seq (.draw [⟨0,some 18,.load 42 (.tmp 6),42,none,false,[],false⟩,⟨1,some 19,.load 105 (.tmp 9),105,none,false,[],true⟩,⟨2,some 20,.nilCheck (.tmp 19),0,none,false,[],false⟩,⟨3,some 21,.fieldAddr 107 (.tmp 20) 2,0,none,false,[],false⟩,⟨4,some 22,.load 3 (.tmp 21),3,none,false,[],true⟩,⟨5,none,.store 42 (.tmp 6) (.tmp 18),0,none,true,[1,4],false⟩,⟨6,none,.store 3 (.tmp 7) (.tmp 22),0,none,true,[],false⟩,⟨7,none,.store 50 (.tmp 8) (.const .nilIface),0,none,true,[],false⟩]) (.ret)),[.cell 6 42,.cell 7 3,.cell 8 50],23⟩
theorem abh : X6 Tryz.prog lab 34=some t34:=by kernel_rfl
theorem GI (caps : List VV) (hc : caps.length=4) (σ : Store) (R : Store→Prop) (h : R σ) : CD Tryz.prog G0 56 caps σ none R:=by
 refine Xp mix ZF (by rw [hc];decide) ?_
 simp only [go_sem,seval,d56,Option.getD_none,leaveD,resV]
 exact h
theorem Gg (e : VV) (rid vid nid eid : Nat) (σ : Store) (R : Store→Prop) (he : e.aF=true) (h1 : σ[vid]?=some (.own Vl.zero.cells)) (h2 : σ[nid]?=some (.own [.int .i64 0])) (h3 : σ[eid]?=some (.own [.nili])) (n1 : vid≠nid) (n2 : vid≠eid) (n3 : nid≠eid)
  (h : ∀ σ',σ'[vid]?=some (.own Vl.zero.cells)→σ'[nid]?=some (.own [.int .i64 0])→σ'[eid]?=some (.own [e])→Ch (fun j=>j=vid∨j=nid∨j=eid) σ σ'→R σ') :
  CD Tryz.prog G0 56 [.mptr rid 0,.mptr vid 0,.mptr nid 0,.mptr eid 0] σ (some (.ifc 109 (.agg [e]))) R:=by
 refine Xp mix ZF (by simp [d56]) ?_
 have c1:=eH he
 have c2:=cellC he
 have c3:=he
 simp only [go_sem,seval] at c1
 simp only [go_sem,seval] at c2
 simp only [go_sem,seval] at c3
 have l1:=(List.getElem?_eq_some_iff.1 h1).1
 have l2:=(List.getElem?_eq_some_iff.1 h2).1
 have l3:=(List.getElem?_eq_some_iff.1 h3).1
 have a1 : ∀ τ,(σ++τ)[vid]?=some (.own Vl.zero.cells):=fun τ=>by rw [List.getElem?_append_left l1];exact h1
 have a2 : ∀ τ,(σ++τ)[nid]?=some (.own [.int .i64 0]):=fun τ=>by rw [List.getElem?_append_left l2];exact h2
 have a3 : ∀ τ,(σ++τ)[eid]?=some (.own [.nili]):=fun τ=>by rw [List.getElem?_append_left l3];exact h3
 have same : ∀ (τ : Store) (i : Nat) (o : Obj),τ[i]?=some o→τ.set i o=τ:=fun τ i o h=>by
  have hl:=(List.getElem?_eq_some_iff.1 h).1
  refine List.ext_getElem? fun j=>?_
  by_cases hj : i=j
  ·subst hj;rw [List.getElem?_set_self hl,h]
  ·rw [List.getElem?_set_ne hj]
 have b1 : ∀ τ,(σ++τ).set vid (.own Vl.zero.cells)=σ++τ:=fun τ=>same _ _ _ (a1 τ)
 have b2 : ∀ τ,(σ++τ).set nid (.own [.int .i64 0])=σ++τ:=fun τ=>same _ _ _ (a2 τ)
 have z : Vl.zero.cells=[.int .i64 0,.int .i64 0,.str [],.int .i64 0,.nilp,.int .u64 0,.int .i64 0,.int .i64 0,.nilp,.int .i64 0,.int .i64 0]:=rfl
 rw [z] at a1 b1
 simp only [go_sem,seval,d56,Option.getD_some,c1,c2,c3,a1,a2,a3,b1,b2,leaveD,resV,SS]
 refine h _ ?_ ?_ ?_ ⟨by simp,fun j hj hn=>?_⟩
 ·rw [List.getElem?_set_ne (by omega)];exact a1 _
 ·rw [List.getElem?_set_ne (by omega)];exact a2 _
 ·rw [List.getElem?_set_self (by simp;omega)]
 ·rw [List.getElem?_set_ne (by omega),List.getElem?_append_left hj]
def TkQ (σ : Store) (X : Vl) : Rs→dX→Store→Prop
 | .er c p,r,σ'=>r=.ret (.tup [Vl.zero.vv,.int .i64 0,dL c p])∧Ch (fun _=>False) σ σ'
 | .ok _ e _,r,σ'=>r=.ret (.tup [X.vv,.int .i64 e,.nili])∧Ch (fun _=>False) σ σ'
theorem QE (f : Nat) (seed bits : Int) (s : Bs) (a : Int) (R : Rs) (ha : lY a) (hs : s.length≤10000000) (hrd : rd f s a 0 1 .val=some R) :
  ∃ X,PG s 1 0 R X∧∀ σ : Store,CV Tryz.prog G0 34 [.agg [.int .u64 seed,.int .i64 bits],.str s,.int .i64 a] σ (TkQ σ X R):=by
 obtain ⟨X,hXv,hXw⟩:=(reads f).1 seed bits s a 0 1 R ha hs (by omega) (by omega) (by omega) hrd
 refine ⟨X,hXv,fun σ=>?_⟩
 refine PU mix abh (by simp [t34]) ?_
 obtain ⟨τ,hτ⟩ : ∃ τ,τ=σ++[Obj.own [.int .u64 seed,.int .i64 bits],.own [.int .i64 0,.int .i64 0,.str [],.int .i64 0,.nilp,.int .u64 0,.int .i64 0,.int .i64 0,.nilp,.int .i64 0,.int .i64 0],.own [.int .i64 0],.own [.nili],.own [.int .u64 seed,.int .i64 bits,.str s,.int .i64 a,.int .i64 0],.own [.nilp]]:=⟨_,rfl⟩
 have g0 : τ.length=σ.length+6:=by rw [hτ];simp
 have g1 : τ[σ.length+1]?=some (.own Vl.zero.cells):=by rw [hτ];simp;rfl
 have g2 : τ[σ.length+2]?=some (.own [.int .i64 0]):=by rw [hτ];simp
 have g3 : τ[σ.length+3]?=some (.own [.nili]):=by rw [hτ];simp
 have g4 : τ[σ.length+4]?=some (RD seed bits s a 0):=by rw [hτ];simp;rfl
 have g5 : τ[σ.length+5]?=some (.own [.nilp]):=by rw [hτ];simp
 have g6 : ∀ j,j < σ.length→τ[j]?=σ[j]?:=fun j hj=>by rw [hτ,List.getElem?_append_left hj]
 simp only [go_sem,seval,t34,SS,← hτ,g5]
 obtain ⟨τ1,hτ1⟩ : ∃ τ1,τ1=τ.set (σ.length+5) (.own [.mptr (σ.length+4) 0]):=⟨_,rfl⟩
 have k0 : τ1.length=σ.length+6:=by rw [hτ1];simp [g0]
 have k1 : τ1[σ.length+1]?=some (.own Vl.zero.cells):=by rw [hτ1,List.getElem?_set_ne (by omega)];exact g1
 have k2 : τ1[σ.length+2]?=some (.own [.int .i64 0]):=by rw [hτ1,List.getElem?_set_ne (by omega)];exact g2
 have k3 : τ1[σ.length+3]?=some (.own [.nili]):=by rw [hτ1,List.getElem?_set_ne (by omega)];exact g3
 have k4 : τ1[σ.length+4]?=some (RD seed bits s a 0):=by rw [hτ1,List.getElem?_set_ne (by omega)];exact g4
 have k5 : τ1[σ.length+5]?=some (.own [.mptr (σ.length+4) 0]):=by rw [hτ1,List.getElem?_set_self (by omega)]
 have k6 : ∀ j,j < σ.length→τ1[j]?=σ[j]?:=fun j hj=>by rw [hτ1,List.getElem?_set_ne (by omega)];exact g6 j hj
 simp only [go_sem,seval,← hτ1]
 refine ⟨_,_,_,rfl,rfl,Uh, ?_⟩
 simp only [go_sem,seval,k5]
 refine CV.mono (hXw (σ.length+4) τ1 k4) ?_
 rintro r τ2 hQ
 have hz : Vl.zero.cells=[.int .i64 0,.int .i64 0,.str [],.int .i64 0,.nilp,.int .u64 0,.int .i64 0,.int .i64 0,.nilp,.int .i64 0,.int .i64 0]:=rfl
 cases R with
 | er c p =>
  obtain ⟨rfl,hCe⟩:=hQ
  have hl:=hCe.len
  have m1 : τ2[σ.length+1]?=some (.own Vl.zero.cells):=by rw [hCe.same _ (by omega) (by omega)];exact k1
  have m2 : τ2[σ.length+2]?=some (.own [.int .i64 0]):=by rw [hCe.same _ (by omega) (by omega)];exact k2
  have m3 : τ2[σ.length+3]?=some (.own [.nili]):=by rw [hCe.same _ (by omega) (by omega)];exact k3
  have m6 : ∀ j,j < σ.length→τ2[j]?=σ[j]?:=fun j hj=>by rw [hCe.same _ (by omega) (by omega)];exact k6 j hj
  simp only [go_sem,seval,aO]
  refine Gg (dL c p) (σ.length+5) (σ.length+1) (σ.length+2) (σ.length+3) τ2 _ (kE _ _) m1 m2 m3 (by omega) (by omega) (by omega) ?_
  intro σ' n1 n2 n3 hC
  rw [hz] at n1
  have hl2:=hC.len
  simp only [go_sem,seval,resV,n1,n2,n3,lD]
  exact ⟨rfl,⟨by omega,fun j hj _=>by rw [hC.same j (by omega) (by omega)];exact m6 j hj⟩⟩
 | ok v e n' =>
  obtain ⟨rfl,hC,hrdr⟩:=hQ
  obtain ⟨hv,hxo,_⟩:=hXv
  have hl:=hC.len
  have m1 : τ2[σ.length+1]?=some (.own Vl.zero.cells):=by rw [hC.same _ (by omega) (by omega)];exact k1
  have m2 : τ2[σ.length+2]?=some (.own [.int .i64 0]):=by rw [hC.same _ (by omega) (by omega)];exact k2
  have m3 : τ2[σ.length+3]?=some (.own [.nili]):=by rw [hC.same _ (by omega) (by omega)];exact k3
  have m4:=hrdr
  have m5 : τ2[σ.length+5]?=some (.own [.mptr (σ.length+4) 0]):=by rw [hC.same _ (by omega) (by omega)];exact k5
  have m6 : ∀ j,j < σ.length→τ2[j]?=σ[j]?:=fun j hj=>by rw [hC.same _ (by omega) (by omega)];exact k6 j hj
  have h1:=hxo.rc
  have h2:=hxo.hc
  simp only [go_sem,seval] at h1
  simp only [go_sem,seval] at h2
  rw [hz] at m1
  have same : ∀ (τ : Store) (i : Nat) (o : Obj),τ[i]?=some o→τ.set i o=τ:=fun τ i o h=>by
   have hl:=(List.getElem?_eq_some_iff.1 h).1
   refine List.ext_getElem? fun j=>?_
   by_cases hj : i=j
   ·subst hj;rw [List.getElem?_set_self hl,h]
   ·rw [List.getElem?_set_ne hj]
  obtain ⟨τ3,hτ3⟩ : ∃ τ3,τ3=τ2.set (σ.length+1) (.own X.cells):=⟨_,rfl⟩
  have q0 : τ3.length=τ2.length:=by rw [hτ3];simp
  have q1 : τ3[σ.length+1]?=some (.own X.cells):=by rw [hτ3,List.getElem?_set_self (by omega)]
  have q2 : τ3[σ.length+2]?=some (.own [.int .i64 0]):=by rw [hτ3,List.getElem?_set_ne (by omega)];exact m2
  have q3 : τ3[σ.length+3]?=some (.own [.nili]):=by rw [hτ3,List.getElem?_set_ne (by omega)];exact m3
  have q4 : τ3[σ.length+4]?=some (RD seed bits s e n'):=by rw [hτ3,List.getElem?_set_ne (by omega)];exact m4
  have q5 : τ3[σ.length+5]?=some (.own [.mptr (σ.length+4) 0]):=by rw [hτ3,List.getElem?_set_ne (by omega)];exact m5
  have q6 : ∀ j,j < σ.length→τ3[j]?=σ[j]?:=fun j hj=>by rw [hτ3,List.getElem?_set_ne (by omega)];exact m6 j hj
  have b1:=same _ _ _ q1
  obtain ⟨τ4,hτ4⟩ : ∃ τ4,τ4=τ3.set (σ.length+2) (.own [.int .i64 e]):=⟨_,rfl⟩
  have r0 : τ4.length=τ2.length:=by rw [hτ4];simp [q0]
  have r1 : τ4[σ.length+1]?=some (.own X.cells):=by rw [hτ4,List.getElem?_set_ne (by omega)];exact q1
  have r2 : τ4[σ.length+2]?=some (.own [.int .i64 e]):=by rw [hτ4,List.getElem?_set_self (by omega)]
  have r3 : τ4[σ.length+3]?=some (.own [.nili]):=by rw [hτ4,List.getElem?_set_ne (by omega)];exact q3
  have r6 : ∀ j,j < σ.length→τ4[j]?=σ[j]?:=fun j hj=>by rw [hτ4,List.getElem?_set_ne (by omega)];exact q6 j hj
  have b3:=same _ _ _ r3
  unfold Vl.cells at hτ3 q1 b1 r1
  unfold RD at q4
  simp only [go_sem,seval,aO,Vl.vv,Vl.cells,m1,h1,h2,← hτ3,q1,q2,q3,q4,q5,b1,← hτ4,r1,r2,r3,b3]
  refine GI _ rfl τ4 _ ?_
  simp only [go_sem,seval,resV,r1,r2,r3,lD]
  exact ⟨rfl,⟨by omega,fun j hj _=>r6 j hj⟩⟩
end Go.V
