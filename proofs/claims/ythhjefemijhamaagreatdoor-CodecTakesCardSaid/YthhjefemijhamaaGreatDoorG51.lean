/- Texts F108. -/
import Derived.Test.YthhjefemijhamaaGreatDoorG50
set_option linter.unusedVariables false
set_option linter.unusedSimpArgs false
namespace Go.V
open Go.Proofs
set_option maxRecDepth 100000
def AfA (id : Nat) (s : Bs) (n : Int) (σ : Store) (en : Bs) : Lx→dX→Store→Prop
 | .tok k x e _ t,r,σ'=>((k=1∧t=[44])∧r=.ret (.bool true)∧σ'[id]?=some (.own (gZ s e n 0 0))∧Ch (·=id) σ σ')∨(¬ (k=1∧t=[44])∧(k=1∧t=en)∧r=.ret (.bool false)∧σ'[id]?=some (.own (gZ s e n 0 0))∧Ch (·=id) σ σ') ∨
   (¬ (k=1∧t=[44])∧¬ (k=1∧t=en)∧r=.ret (.bool false)∧∃ a,σ'[id]?=some (.own (gZ s a n x 2))∧Ch (·=id) σ σ')
 | .err c p,r,σ'=>r=.ret (.bool false)∧∃ a,σ'[id]?=some (.own (gZ s a n p c))∧Ch (·=id) σ σ'
theorem JJ (id : Nat) (s : Bs) (a n : Int) (w c : Nat) (hw : c=0→w=0) (ha : c=0→lY a) (hs : s.length≤10000000) (σ : Store) (h : σ[id]?=some (.own (gZ s a n w c))) (en : Bs) : CV Tryz.prog G0 147 [.mptr id 0,.str en] σ (AfA id s n σ en (zT s a w c)):=by
 unfold zT
 by_cases hc : c=0
 ·subst hc
  rw [if_pos rfl]
  obtain rfl:=hw rfl
  refine CV.mono (U3 id s a n (ha rfl) hs σ h en) ?_
  intro r σ' hX
  cases hx : aT s a with
  | err c p =>
   rw [hx] at hX
   obtain ⟨h1,a',τ,e⟩:=hX
   obtain ⟨e1,e2⟩:=Aw h e
   exact ⟨h1,a',e1,e2⟩
  | tok k x e i t =>
   rw [hx] at hX
   rcases hX with ⟨h1,h2,h3,τ,e⟩ | ⟨h0,h1,h2,h3,τ,e⟩ | ⟨h0,h1,h3,a',τ,e⟩<;>obtain ⟨e1,e2⟩:=Aw h e
   ·exact .inl ⟨⟨h1,h2⟩,h3,e1,e2⟩
   ·exact .inr (.inl ⟨h0,⟨h1,h2⟩,h3,e1,e2⟩)
   ·exact .inr (.inr ⟨h0,h1,h3,a',e1,e2⟩)
 ·rw [if_neg hc]
  refine CV.mono (JH id s a n w c (by omega) σ h en) ?_
  rintro r σ' ⟨rfl,τ,e⟩
  exact ⟨rfl,a,by rw [e,List.getElem?_append_left (List.getElem?_eq_some_iff.1 h).1];exact h,PN e⟩
def EmA (id : Nat) (s : Bs) (a n : Int) (σ : Store) (en : Bs) : Lx→dX→Store→Prop
 | .tok k _ e _ t,r,σ'=>((k=1∧t=en)∧r=.ret (.bool true)∧σ'[id]?=some (.own (gZ s e n 0 0))∧Ch (·=id) σ σ')∨(¬ (k=1∧t=en)∧r=.ret (.bool false)∧σ'[id]?=some (.own (gZ s a n 0 0))∧Ch (·=id) σ σ')
 | .err c p,r,σ'=>r=.ret (.bool false)∧∃ a,σ'[id]?=some (.own (gZ s a n p c))∧Ch (·=id) σ σ'
theorem Sz (id : Nat) (s : Bs) (a n : Int) (ha : lY a) (hs : s.length≤10000000) (σ : Store) (h : σ[id]?=some (.own (gZ s a n 0 0))) (en : Bs) : CV Tryz.prog G0 146 [.mptr id 0,.str en] σ (EmA id s a n σ en (aT s a)):=by
 refine CV.mono (WY id s a n ha hs σ h en) ?_
 intro r σ' hX
 cases hx : aT s a with
 | err c p =>
  rw [hx] at hX
  obtain ⟨h1,a',τ,e⟩:=hX
  obtain ⟨e1,e2⟩:=Aw h e
  exact ⟨h1,a',e1,e2⟩
 | tok k x e i t =>
  rw [hx] at hX
  rcases hX with ⟨h1,h2,h3,τ,e⟩ | ⟨h1,h3,τ,e⟩<;>obtain ⟨e1,e2⟩:=Aw h e
  ·exact .inl ⟨⟨h1,h2⟩,h3,e1,e2⟩
  ·exact .inr ⟨h1,h3,e1,e2⟩
structure QF (id k8 k9 : Nat) (kd : Int) (q : Nat) (cl : Bs) (sv : VV) (ρ : Env) : Prop where
 q0 : ρ.get 0=.mptr id 0
 q1 : ρ.get 1=.int .i64 kd
 q2 : ρ.get 2=.int .i64 q
 q3 : ρ.get 3=.str cl
 q8 : ρ.get 8=.mptr k8 0
 q9 : ρ.get 9=.mptr k9 0
 q10 : ρ.get 10=sv
def NZ (id : Nat) (s : Bs) (n q : Nat) (kd : Int) (ks seen : List Bs) (Xs : List Tr) (υ : Store) : Rs→Prop
 | .ok v e n'=>υ[id]?=some (.own (gZ s e n' 0 0))∧∃ vs md,Rw q (n+1) n' ks Xs seen vs md∧md.kd=kd∧v=md.fin
 | .er c p=>c≠0∧∃ a' n' : Int,υ[id]?=some (.own (gZ s a' n' p c))
structure LS (f m : Nat) (id : Nat) (s : Bs) (n q k8 k9 : Nat) (kd : Int) (R : Rs) (σ : Store) (ρ : Env) (υ : Store) (ks seen : List Bs) (Xs : List Tr) (cs : List (List VV)) (kv sv iv : VV) (more : Bool) : Prop where
 qf : QF id k8 k9 kd q (dZ kd).cl sv ρ
 q11 : ρ.get 11=.bool more
 ps : PS id k8 k9 kd ks seen cs kv sv iv σ υ
 tr : jq Xs cs
 lc : cs.length≤4001
 lk : ks.length≤4001
 ls : seen.length≤4001
 st : (∃ (a' n' : Int) (w c : Nat),υ[id]?=some (.own (gZ s a' n' w c))∧c≠0∧R=.er c w)∨(more=false∧NZ id s n q kd ks seen Xs υ R) ∨
  (more=true∧m≤f∧∃ (a n' : Nat) (vs : List T) (md : Md),υ[id]?=some (.own (gZ s a n' 0 0))∧Rw q (n+1) n' ks Xs seen vs md∧md.kd=kd∧md.isVal=false∧rd m s a n' q md=some R∧cs.length≤a∧ks.length≤a∧seen.length≤a∧a≤s.length∧n'≤16384)
theorem NZ.of {id : Nat} {s : Bs} {n q : Nat} {kd : Int} {ks seen : List Bs} {Xs : List Tr} {υ υ' : Store} {R : Rs} (h : NZ id s n q kd ks seen Xs υ R) (e : υ'[id]?=υ[id]?) : NZ id s n q kd ks seen Xs υ' R:=by
 cases R with
 | ok v e' n'=>exact ⟨e.trans h.1,h.2⟩
 | er c p=>obtain ⟨hc,a',n',h⟩:=h;exact ⟨hc,a',n',e.trans h⟩
def NX (g : Nat) (s : Bs) (n q : Nat) (kd : Int) (R : Rs) (ks seen : List Bs) (Xs : List Tr) (ws : List T) (a1 : Int) (X : Tr) (v : T) (e n'' : Nat) : Prop :=
 (kd≠6→∃ md,Rw q (n+1) n'' ks (Xs++[X]) seen (ws++[v]) md∧md.kd=kd∧md.isVal=false∧YJ g s e n'' q md=some R) ∧
 (kd=6→∃ p : Nat,Yh s a1=p∧(seen.contains v.key=true→R=.er 6 p)∧(seen.contains v.key=false→∃ md,Rw q (n+1) n'' ks (Xs++[X]) (seen++[v.key]) (ws++[v]) md∧md.kd=kd∧md.isVal=false∧YJ g s e n'' q md=some R))
def C1 (g id : Nat) (s : Bs) (n q k8 k9 : Nat) (kd : Int) (R : Rs) (σ : Store) (Xs : List Tr) (cs : List (List VV)) (iv : VV) (ws : List T) (n' : Nat) (ρ : Env) (υ : Store) : Prop :=
 ∃ (ks seen : List Bs) (kv sv : VV) (a1 : Int) (w1 c1 : Nat) (Rv : Rs),QF id k8 k9 kd q (dZ kd).cl sv ρ∧PS id k8 k9 kd ks seen cs kv sv iv σ υ∧ks.length≤4001∧seen.length≤4001∧υ[id]?=some (.own (gZ s a1 n' w1 c1))∧(c1=0→w1=0)∧(c1=0→∃ aN : Nat,a1=aN∧aN≤s.length∧ks.length≤aN∧seen.length≤aN∧cs.length≤aN) ∧
  MW g s a1 n' (q+1) w1 c1=some Rv∧(∀ c p,Rv=.er c p→R=.er c p)∧∀ X v e n'',Rv=.ok v e n''→X.mk (q+1) n'=(n'',.ok v)→oV X→nS 4000 X→NX g s n q kd R ks seen Xs ws a1 X v e n''
def C3 (g id : Nat) (s : Bs) (n q k8 k9 : Nat) (kd : Int) (R : Rs) (σ : Store) (ρ : Env) (υ : Store) : Prop :=
 ∃ (ks seen : List Bs) (Xs : List Tr) (cs : List (List VV)) (kv sv iv : VV),QF id k8 k9 kd q (dZ kd).cl sv ρ∧PS id k8 k9 kd ks seen cs kv sv iv σ υ∧jq Xs cs∧cs.length≤4001∧ks.length≤4001∧seen.length≤4001 ∧
  ((∃ (a' n' : Int) (w c : Nat),υ[id]?=some (.own (gZ s a' n' w c))∧c≠0∧R=.er c w) ∨
   ∃ (e n'' : Nat) (ws : List T) (md : Md),υ[id]?=some (.own (gZ s e n'' 0 0))∧Rw q (n+1) n'' ks Xs seen ws md∧md.kd=kd∧md.isVal=false∧YJ g s e n'' q md=some R∧cs.length≤e∧ks.length≤e∧seen.length≤e∧e≤s.length∧n''≤16384)
theorem Xl {md : Md} (h : md.isVal=false) : md.cl=(dZ md.kd).cl:=by
 cases md with
 | val=>cases h
 | _=>rfl
theorem Xe (f : Nat) (hV : ∀ g,g < f→VQ g) : PQ f:=by
 intro id s a n q kd R σ hkd ha hs h1 hq hn h hR
 have hl:=(List.getElem?_eq_some_iff.1 h).1
 refine RI (R0:=fun r υ=>∃ (ks seen : List Bs) (Xs : List Tr) (cs : List (List VV)) (kv iv : VV),r=.ret (.agg [.int .i64 kd,.int .i64 0,.str [],kv,iv])∧jI 1 υ kv (strs ks)∧jI 5 υ iv cs∧(ks=[]→kv=.nils)∧(cs=[]→iv=.nils)∧(∀ i,ny kv=some i→ny iv≠some i∧σ.length≤i)∧(∀ i,ny iv=some i→σ.length≤i)∧Ch (·=id) σ υ∧jq Xs cs∧cs.length≤4001∧ks.length≤4001∧NZ id s n q kd ks seen Xs υ R) ?_ ?_
 rotate_left
 ·rintro r υ ⟨ks,seen,Xs,cs,kv,iv,rfl,gk,gi,nk,ni,d1,d2,ch,hT,lc,lk,hE⟩
  refine ⟨kd,ks,cs,kv,iv,rfl,gk,gi,nk,ni,fun i e=>(d1 i e).1,fun υ' hlen hsame=>?_⟩
  have hid : υ'[id]?=υ[id]?:=hsame id (fun e=>by have:=(d1 _ e).2;omega) (fun e=>by have:=d2 _ e;omega)
  have hch : Ch (·=id) σ υ':=⟨by rw [hlen];exact ch.len,fun j hj hn=>(hsame j (fun e=>by have:=(d1 _ e).2;omega) (fun e=>by have:=d2 _ e;omega)).trans (ch.same j hj hn)⟩
  have hTV : rJ (.node kd 0 [] ks Xs) [.int .i64 kd,.int .i64 0,.str [],kL (strs ks),kL cs]:=.node (jV (wX ks)) hT (jV gi.blk) (by omega) (by have:=hT.len;omega) (by omega) (by omega) (by omega) (by omega)
  cases R with
  | er c p =>
   obtain ⟨hc,a',n',e⟩:=hE
   exact ⟨hc,⟨_,_,hTV,rfl⟩,a',n',hid.trans e,hch⟩
  | ok v e n' =>
   obtain ⟨e,vs,md,hW,rfl,rfl⟩:=hE
   exact ⟨_,_,hTV,.node (by omega) (by omega) fun x hx=>(hW.ok x hx).1,.node (by simp) hW.kl (by omega) (by have:=hT.len;omega) fun x hx=>(hW.ok x hx).2,hW.fin hq hn,rfl,hid.trans e,hch⟩
 refine cv e104 (by simp) ?_
 simp only [go_sem,seval,c104,SS]
 have hS0 : PS id σ.length (σ.length+1) kd [] [] [] .nils .nils .nils σ (σ++[.own z5,.own [.int .i64 kd,.int .i64 0,.str [],.nils,.nils]]):=⟨by simp,by simp [List.getElem?_append_right],.nil,.nil,.nil,fun _=>rfl,fun _=>rfl,Nat.le_refl _,Nat.lt_succ_self _,(fun i e=>nomatch e),(fun i e=>nomatch e),(fun i e=>nomatch e),Ch.snoc _ _ _⟩
 refine CV.mono (Sz id s a (n+1 : Nat) (iL (by omega)) (by omega) _ (by rw [List.getElem?_append_left hl];exact h) (dZ kd).cl) ?_
 intro r τ hX
 obtain ⟨b,a1,w1,c1,rfl,hid,hch,hst⟩ : ∃ (b : Bool) (a1 : Int) (w1 c1 : Nat),r=.ret (.bool b)∧τ[id]?=some (.own (gZ s a1 (n+1 : Nat) w1 c1))∧Ch (·=id) (σ++[.own z5,.own [.int .i64 kd,.int .i64 0,.str [],.nils,.nils]]) τ∧((b=true∧∃ e : Nat,a1=e∧w1=0∧c1=0∧R=.ok (dZ kd).fin e (n+1))∨(b=false∧((c1≠0∧R=.er c1 w1)∨(c1=0∧w1=0∧a1=a∧rd f s a (n+1) q (dZ kd)=some R)))):=by
  unfold rdA at hR
  cases hx : aT s a with
  | err c p =>
   rw [hx] at hX hR
   obtain ⟨rfl,a',e1,e2⟩:=hX
   cases hR
   exact ⟨false,a',p,c,rfl,e1,e2,.inr ⟨rfl,.inl ⟨gX hx,rfl⟩⟩⟩
  | tok k x e i t =>
   rw [hx] at hX hR
   simp only at hR
   rcases hX with ⟨h3,rfl,e1,e2⟩ | ⟨h3,rfl,e1,e2⟩
   ·rw [if_pos h3] at hR
    cases hR
    exact ⟨true,e,0,0,rfl,e1,e2,.inl ⟨rfl,e,rfl,rfl,rfl,rfl⟩⟩
   ·rw [if_neg h3] at hR
    exact ⟨false,a,0,0,rfl,e1,e2,.inr ⟨rfl,.inr ⟨rfl,rfl,rfl,hR⟩⟩⟩
 clear hX
 have hS:=hS0.next hl hch
 have t8:=hS.t8
 have t9:=hS.t9
 have l8:=(List.getElem?_eq_some_iff.1 t8).1
 cases b with
 | true =>
  obtain ⟨_,e,rfl,rfl,rfl,rfl⟩:=hst.resolve_right fun h=>by cases h.1
  simp only [go_sem,seval,aO,t8,t9,List.getElem?_set_self l8,SS]
  exact ⟨[],[],[],[],.nils,.nils,rfl,.nil,.nil,fun _=>rfl,fun _=>rfl,(fun i e=>nomatch e),(fun i e=>nomatch e),hS.ch.rW (Nat.le_refl _),.nil,by simp,by simp,by rw [List.getElem?_set_ne (by omega)];exact hid,[],_,Rw.begin kd,JE hkd,rfl⟩
 | false =>
 simp only [go_sem,seval,aO,SS]
 refine bY (M:=fun ρ υ=>∃ (ks seen : List Bs) (Xs : List Tr) (cs : List (List VV)) (kv sv iv : VV),ρ.get 8=.mptr σ.length 0∧ρ.get 9=.mptr (σ.length+1) 0∧PS id σ.length (σ.length+1) kd ks seen cs kv sv iv σ υ∧jq Xs cs∧cs.length≤4001∧ks.length≤4001∧NZ id s n q kd ks seen Xs υ R) ?_ ?_
 ·clear hS t8 t9 l8 hid
  rintro ρ υ ⟨ks,seen,Xs,cs,kv,sv,iv,q8,q9,hS,hT,lc,lk,hE⟩
  have t8:=hS.t8
  have t9:=hS.t9
  have l8:=(List.getElem?_eq_some_iff.1 t8).1
  have ck:=hS.gk.cell
  have ci:=hS.gi.cell
  have ck2:=eH ck
  have ci2:=eH ci
  simp only [go_sem,seval] at ck
  simp only [go_sem,seval] at ci
  simp only [go_sem,seval] at ck2
  simp only [go_sem,seval] at ci2
  simp only [go_sem,seval,q8,q9,t8,t9,ck,ci,ck2,ci2,List.getElem?_set_self l8,SS]
  refine ⟨ks,seen,Xs,cs,kv,iv,rfl,hS.gk.at fun i e=>List.getElem?_set_ne (by have:=(hS.dk i e).1;omega),hS.gi.at fun i e=>List.getElem?_set_ne (by have:=hS.di i e;omega),hS.nk,hS.ni,fun i e=>⟨(hS.dk i e).2.2,by have:=(hS.dk i e).1;omega⟩,fun i e=>by have:=hS.di i e;omega,hS.ch.rW (Nat.le_refl _),hT,lc,lk,hE.of (List.getElem?_set_ne (by omega))⟩
 refine aG (fun m ρ υ=>∃ (ks seen : List Bs) (Xs : List Tr) (cs : List (List VV)) (kv sv iv : VV) (more : Bool),LS f m id s n q σ.length (σ.length+1) kd R σ ρ υ ks seen Xs cs kv sv iv more) (n:=f) ?_ ⟨[],[],[],[],.nils,.nils,.nils,true,⟨⟨rfl,rfl,rfl,rfl,rfl,rfl,rfl⟩,rfl,hS,.nil,by simp,by simp,by simp, ?_⟩⟩
 rotate_left
 ·rcases (hst.resolve_left fun h=>by cases h.1).2 with ⟨hc,hR'⟩ | ⟨rfl,rfl,rfl,hR'⟩
  ·exact .inl ⟨a1,_,w1,c1,hid,hc,hR'⟩
  ·exact .inr (.inr ⟨rfl,Nat.le_refl _,a,n+1,[],dZ kd,hid,Rw.begin kd,JE hkd,(Jr kd hq).2.2,hR',by simp,by simp,by simp,ha,hn⟩)
 clear hst hid hch hS t8 t9 l8 hS0
 rintro m ρ υ ⟨ks,seen,Xs,cs,kv,sv,iv,more,hI⟩
 have hQ:=hI.qf
 have hS:=hI.ps
 cases more with
 | false =>
  simp only [go_sem,seval,hI.q11,hQ.q8,hQ.q9,SS]
  exact ⟨ks,seen,Xs,cs,kv,sv,iv,hS,hI.tr,hI.lc,hI.lk,by
   rcases hI.st with ⟨a',n',w,c,e,hc,rfl⟩ | ⟨_,hE⟩ | ⟨h,_⟩
   ·exact ⟨hc,a',n',e⟩
   ·exact hE
   ·cases h⟩
 | true =>
 rcases hI.st with ⟨a',n',w,c,hid,hc,hRe⟩ | ⟨h,_⟩ | ⟨_,hmf,aN,n',ws,md,hid,hW,hmd,hmv,hrd,la,lb,lc,hle,hn'⟩
 ·have hid':=hid
  unfold gZ at hid'
  have b : ((c : Int) == 0)=false:=by simpa using hc
  simp only [go_sem,seval,hI.q11,hQ.q0,hQ.q8,hQ.q9,hid',b,SS]
  exact ⟨ks,seen,Xs,cs,kv,sv,iv,hS,hI.tr,hI.lc,hI.lk,by subst hRe;exact ⟨hc,a',n',hid⟩⟩
 ·cases h
 cases m with
 | zero=>simp [rd] at hrd
 | succ g =>
 have hid':=hid
 unfold gZ at hid'
 simp only [go_sem,seval,hI.q11,hQ.q0,hQ.q1,hid',beq_self_eq_true,SS]
 refine jY (yB (M:=C1 g id s n q σ.length (σ.length+1) kd R σ Xs cs iv ws n') ?_) ?_
 rotate_left
 ·by_cases k5 : kd=5
  rotate_left
  ·have b5 : (kd == 5)=false:=by simpa using k5
   simp only [go_sem,seval,b5,SS]
   cases md with
   | val=>cases hmv
   | map acc=>exact absurd hmd.symm k5
   | vec acc =>
    obtain ⟨Rv,r1,r2,r3⟩:=YH hrd
    exact ⟨ks,seen,kv,sv,aN,0,0,Rv,⟨hQ.q0,hQ.q1,hQ.q2,hQ.q3,hQ.q8,hQ.q9,hQ.q10⟩,hS,hI.lk,hI.ls,hid,fun _=>rfl,fun _=>⟨aN,rfl,hle,lb,lc,la⟩,r1,r2,fun X v e n'' he hm ho hs=>⟨fun _=>⟨_,hW.vec hm ho hs,hmd,rfl,r3 v e n'' he⟩,fun h6=>absurd (hmd.trans h6) (by simp [Md.kd])⟩⟩
   | set acc =>
    obtain ⟨Rv,r1,r2,r3⟩:=Yq hrd
    exact ⟨ks,seen,kv,sv,aN,0,0,Rv,⟨hQ.q0,hQ.q1,hQ.q2,hQ.q3,hQ.q8,hQ.q9,hQ.q10⟩,hS,hI.lk,hI.ls,hid,fun _=>rfl,fun _=>⟨aN,rfl,hle,lb,lc,la⟩,r1,r2,fun X v e n'' he hm ho hs=>⟨fun h6=>absurd hmd.symm h6,fun _=>by
     obtain ⟨p,e1,e2,e3⟩:=r3 v e n'' he
     exact ⟨p,e1,fun h=>e2 (by rw [hW.lks];exact h),fun h=>⟨_,hW.set h hm ho hs,hmd,rfl,e3 (by rw [hW.lks];exact h)⟩⟩⟩⟩
  subst k5
  obtain ⟨acc,rfl⟩ : ∃ acc,md=.map acc:=by
   cases md with
   | map acc=>exact ⟨acc,rfl⟩
   | val=>cases hmv
   | vec acc=>simp [Md.kd] at hmd
   | set acc=>simp [Md.kd] at hmd
  have hM:=YD hrd
  have hcl : cs.length≤4000:=by omega
  have hkl : ks.length≤4000:=by omega
  have hsl : seen.length≤4000:=by omega
  simp only [go_sem,seval,hQ.q0,SS]
  refine CV.mono (FM id s aN n' 0 0 (fun _=>rfl) (fun _=>iL (by omega)) (by omega) υ hid) ?_
  intro r τ hX
  obtain ⟨k,x,e,i,t,a1,w1,c1,rfl,hτ,hch,hw1,hL⟩ : ∃ (k : Nat) (x e i : Int) (t : Bs) (a1 : Int) (w1 c1 : Nat),r=.ret (dW k x e i t)∧τ[id]?=some (.own (gZ s a1 n' w1 c1))∧Ch (·=id) υ τ∧(c1=0→w1=0)∧((∃ xN eN : Nat,x=xN∧c1=0∧a1=eN∧aT s aN=.tok k xN eN i t)∨(R=.er c1 w1∧c1≠0∧k=0)):=by
   rw [show zT s aN 0 0=aT s aN from if_pos rfl] at hX
   cases hx : aT s aN with
   | err c' p =>
    rw [hx] at hX hM
    obtain ⟨⟨x,e,i,t,rfl⟩,a',e1,e2⟩:=hX
    exact ⟨0,x,e,i,t,a',p,c',rfl,e1,e2,fun h=>absurd h (gX hx),.inr ⟨hM,gX hx,rfl⟩⟩
   | tok k x e i t =>
    rw [hx] at hX
    obtain ⟨rfl,e1,e2⟩:=hX
    exact ⟨k,x,e,i,t,e,0,0,rfl,e1,e2,fun _=>rfl,.inl ⟨x,e,rfl,rfl,rfl,rfl⟩⟩
  clear hX
  have hS1:=(hS.next hl hch).snoc hl [.own [.int .i64 k,.int .i64 x,.int .i64 e,.int .i64 i,.str t]]
  have hlt : id < τ.length:=(List.getElem?_eq_some_iff.1 hτ).1
  have hid1 : (τ++[Obj.own [.int .i64 k,.int .i64 x,.int .i64 e,.int .i64 i,.str t]])[id]?=some (.own (gZ s a1 n' w1 c1)):=by rw [List.getElem?_append_left hlt];exact hτ
  have h13 : (τ++[Obj.own [.int .i64 k,.int .i64 x,.int .i64 e,.int .i64 i,.str t]])[τ.length]?=some (Obj.own [.int .i64 k,.int .i64 x,.int .i64 e,.int .i64 i,.str t]):=by simp
  simp only [go_sem,seval,aO,dW,SS]
  obtain ⟨υ1,hυ1⟩ : ∃ υ1,υ1=τ++[Obj.own [.int .i64 k,.int .i64 x,.int .i64 e,.int .i64 i,.str t]]:=⟨_,rfl⟩
  obtain ⟨k13,hk13⟩ : ∃ k13,k13=τ.length:=⟨_,rfl⟩
  rw [← hυ1] at hS1 hid1 h13 ⊢
  rw [← hk13] at h13 ⊢
  have hn13 : k13≠id:=by omega
  refine jY (yB (M:=fun ρ υ=>QF id σ.length (σ.length+1) 5 q (dZ 5).cl sv ρ∧ρ.get 12=.str t∧ρ.get 13=.mptr k13 0∧PS id σ.length (σ.length+1) 5 ks seen cs kv sv iv σ υ∧υ[k13]?=some (Obj.own [.int .i64 k,.int .i64 x,.int .i64 e,.int .i64 i,.str t])∧∃ w2 c2 : Nat,υ[id]?=some (.own (gZ s a1 n' w2 c2))∧(c2≠0→R=.er c2 w2)∧(c2=0→w2=0∧c1=0∧k=4)) ?_) ?_
  rotate_left
  ·by_cases k4 : k=4
   ·have b4 : ((k : Int) != 4)=false:=by simp [k4]
    simp only [go_sem,seval,b4,SS]
    have hc1 : c1=0:=Classical.byContradiction fun h=>by have:=(hL.resolve_left fun ⟨_,_,_,h',_⟩=>h h').2.2;omega
    exact ⟨⟨hQ.q0,hQ.q1,hQ.q2,hQ.q3,hQ.q8,hQ.q9,hQ.q10⟩,hS1,h13,w1,c1,hid1,fun h=>absurd hc1 h,fun h=>⟨hw1 h,h,k4⟩⟩
   ·have b4 : ((k : Int) != 4)=true:=by simp;omega
    simp only [go_sem,seval,b4,hQ.q0,h13,SS]
    refine CV.mono (qY id s a1 n' w1 c1 x 2 υ1 hid1) ?_
    rintro _ υ' ⟨rfl,e1,e2⟩
    simp only [go_sem,seval,aO,SS]
    refine ⟨⟨hQ.q0,hQ.q1,hQ.q2,hQ.q3,hQ.q8,hQ.q9,hQ.q10⟩,hS1.next hl e2,e2.get h13 hn13, ?_⟩
    by_cases hc1 : c1=0
    ·obtain ⟨xN,eN,rfl,_,rfl,hx⟩:=hL.resolve_right fun h=>h.2.1 hc1
     rw [hx] at hM
     exact ⟨xN,2,by simpa [hc1] using e1,fun _=>hM.1 k4,fun h=>by omega⟩
    ·exact ⟨w1,c1,by simpa [hc1] using e1,fun _=>(hL.resolve_left fun ⟨_,_,_,h',_⟩=>hc1 h').1,fun h=>absurd h hc1⟩
  clear hS hid hid' hS1 hid1 h13 hυ1 hQ hk13 hI
  rintro ρ υ ⟨hQ,q12,q13,hS,h13,w2,c2,hid,hc2,hc2'⟩
  simp only [go_sem,seval,hQ.q10,q12,SS]
  refine CV.mono (Xz hS.gs (by omega) t) ?_
  rintro _ τ2 ⟨rfl,rfl⟩
  simp only [go_sem,seval,aO,SS]
  refine jY (yB (M:=fun ρ υ=>QF id σ.length (σ.length+1) 5 q (dZ 5).cl sv ρ∧ρ.get 12=.str t∧PS id σ.length (σ.length+1) 5 ks seen cs kv sv iv σ υ∧∃ w3 c3 : Nat,υ[id]?=some (.own (gZ s a1 n' w3 c3))∧(c3≠0→R=.er c3 w3)∧(c3=0→w3=0∧c1=0∧k=4∧seen.contains t=false)) ?_) ?_
  rotate_left
  ·by_cases hcon : seen.contains t=true
   ·simp only [go_sem,seval,hcon,hQ.q0,q13,h13,SS]
    refine CV.mono (qY id s a1 n' w2 c2 x 6 _ hid) ?_
    rintro _ υ' ⟨rfl,e1,e2⟩
    simp only [go_sem,seval,aO,SS]
    refine ⟨⟨hQ.q0,hQ.q1,hQ.q2,hQ.q3,hQ.q8,hQ.q9,hQ.q10⟩,q12,hS.next hl e2, ?_⟩
    by_cases hc : c2=0
    ·obtain ⟨_,hc1,k4⟩:=hc2' hc
     obtain ⟨xN,eN,rfl,_,rfl,hx⟩:=hL.resolve_right fun h=>h.2.1 hc1
     rw [hx] at hM
     exact ⟨xN,6,by simpa [hc] using e1,fun _=>(hM.2 k4).1 (by rw [hW.lkm];exact hcon),fun h=>by omega⟩
    ·exact ⟨w2,c2,by simpa [hc] using e1,hc2,fun h=>absurd h hc⟩
   ·have hcf : seen.contains t=false:=by simpa using hcon
    simp only [go_sem,seval,hcf,SS]
    exact ⟨⟨hQ.q0,hQ.q1,hQ.q2,hQ.q3,hQ.q8,hQ.q9,hQ.q10⟩,q12,hS,w2,c2,hid,hc2,fun h=>⟨(hc2' h).1,(hc2' h).2.1,(hc2' h).2.2⟩⟩
  clear hS hid hQ q12 h13 hc2 hc2'
  rintro ρ υ ⟨hQ,q12,hS,w3,c3,hid,hc3,hc3'⟩
  have hBs : dS 1 [[VV.str t]]:=⟨by simp,by simp [VV.isPure,VV.ak],fun x hx=>by simp at hx;subst hx;rfl⟩
  have cs0:=hS.gs.cell
  have cs1:=eH cs0
  have cs2:=cellC cs0
  simp only [go_sem,seval] at cs0
  simp only [go_sem,seval] at cs1
  simp only [go_sem,seval] at cs2
  simp only [go_sem,seval,hQ.q10,q12,cs0,cs1,cs2,SS]
  refine hS.gs.step (ys:=[[VV.str t]]) dM lM oJ kD rfl (by decide) (by decide) hBs (by simp [strs];omega) ((fH.sl [[VV.str t]] true hBs).src dM) fun v1 υ1 g1 K1 N1=>?_
  have hS1:=hS.YQ g1 K1 N1
  have hid1:=(K1.at (List.getElem?_eq_some_iff.1 hid).1 fun e=>by have:=(hS.ds _ e).1;omega).trans hid
  have t9:=hS1.t9
  have ck0:=hS1.gk.cell
  have ck1:=eH ck0
  have ck2:=cellC ck0
  have ci0:=hS1.gi.cell
  simp only [go_sem,seval] at ck0
  simp only [go_sem,seval] at ck1
  simp only [go_sem,seval] at ck2
  simp only [go_sem,seval] at ci0
  simp only [go_sem,seval,hQ.q9,q12,t9,ck0,ck1,ck2,ci0,SS]
  refine hS1.gk.step (ys:=[[VV.str t]]) dM lM oJ kD rfl (by decide) (by decide) hBs (by simp [strs];omega) ((fH.sl [[VV.str t]] true hBs).src dM) fun v2 υ2 g2 K2 N2=>?_
  have hS2:=hS1.uJ g2 K2 N2
  have l9:=(List.getElem?_eq_some_iff.1 t9).1
  have t9':=(K2.at l9 fun e=>by have:=(hS1.dk _ e).1;omega).trans t9
  have hid2:=(K2.at (List.getElem?_eq_some_iff.1 hid1).1 fun e=>by have:=(hS1.dk _ e).1;omega).trans hid1
  have cv0:=g2.cell
  have cv1:=eH cv0
  have cv2:=cellC cv0
  simp only [go_sem,seval] at cv0
  simp only [go_sem,seval] at cv1
  simp only [go_sem,seval] at cv2
  simp only [go_sem,seval,hQ.q0,hQ.q9,t9',cv0,cv1,cv2,ck0,ci0,SS]
  have hid3 : (υ2.set (σ.length+1) (.own [.int .i64 5,.int .i64 0,.str [],v2,iv]))[id]?=some (.own (gZ s a1 n' w3 c3)):=by rw [List.getElem?_set_ne (by omega)];exact hid2
  refine CV.mono (FM id s a1 n' w3 c3 (fun h=>(hc3' h).1) (fun h=>by obtain ⟨_,eN,rfl,_,rfl,hx⟩:=hL.resolve_right fun h'=>h'.2.1 (hc3' h).2.1;have:=aW hx;exact iL (by omega)) (by omega) _ hid3) ?_
  intro r τ3 hX
  obtain ⟨k2,x2,e2,i2,t2,a2,w4,c4,rfl,hτ3,hch3,hw4,hL2⟩ : ∃ (k2 : Nat) (x2 e2 i2 : Int) (t2 : Bs) (a2 : Int) (w4 c4 : Nat),r=.ret (dW k2 x2 e2 i2 t2)∧τ3[id]?=some (.own (gZ s a2 n' w4 c4))∧Ch (·=id) (υ2.set (σ.length+1) (.own [.int .i64 5,.int .i64 0,.str [],v2,iv])) τ3∧(c4=0→w4=0)∧((∃ x2N e2N : Nat,x2=x2N∧c4=0∧c3=0∧a2=e2N∧aT s a1=.tok k2 x2N e2N i2 t2)∨(R=.er c4 w4∧c4≠0∧k2=0)):=by
   cases hx : zT s a1 w3 c3 with
   | err c' p =>
    rw [hx] at hX
    obtain ⟨⟨x2,e2,i2,t2,rfl⟩,a',f1,f2⟩:=hX
    refine ⟨0,x2,e2,i2,t2,a',p,c',rfl,f1,f2,fun h=>absurd h (Ae hx),.inr ⟨?_,Ae hx,rfl⟩⟩
    by_cases hc : c3=0
    ·obtain ⟨_,h5,h6,h7⟩:=hc3' hc
     obtain ⟨xN,eN,rfl,_,rfl,hy⟩:=hL.resolve_right fun h=>h.2.1 h5
     rw [hy] at hM
     have hM2:=(hM.2 h6).2 (by rw [hW.lkm];exact h7)
     unfold zT at hx
     rw [if_pos hc] at hx
     rw [hx] at hM2
     exact hM2
    ·unfold zT at hx
     rw [if_neg hc] at hx
     cases hx
     exact hc3 hc
   | tok k2 x2 e2 i2 t2 =>
    rw [hx] at hX
    obtain ⟨rfl,f1,f2⟩:=hX
    obtain ⟨hc,hp⟩:=zV hx
    exact ⟨k2,x2,e2,i2,t2,e2,0,0,rfl,f1,f2,fun _=>rfl,.inl ⟨x2,e2,rfl,rfl,hc,rfl,hp⟩⟩
  clear hX
  have hS3:=(hS2.next hl hch3).snoc hl [.own [.int .i64 k2,.int .i64 x2,.int .i64 e2,.int .i64 i2,.str t2]]
  have hlt3 : id < τ3.length:=(List.getElem?_eq_some_iff.1 hτ3).1
  have hid4 : (τ3++[Obj.own [.int .i64 k2,.int .i64 x2,.int .i64 e2,.int .i64 i2,.str t2]])[id]?=some (.own (gZ s a2 n' w4 c4)):=by rw [List.getElem?_append_left hlt3];exact hτ3
  have hTk:=nC k2 x2 e2 i2 t2 [58]
  have erC : ∀ (ρ : Env) (υ : Store) (a5 : Int) (w5 c5 : Nat),QF id σ.length (σ.length+1) 5 q (dZ 5).cl v1 ρ→PS id σ.length (σ.length+1) 5 (ks++[t]) (seen++[t]) cs v2 v1 iv σ υ→υ[id]?=some (.own (gZ s a5 n' w5 c5))→c5≠0→R=.er c5 w5→C1 g id s n q σ.length (σ.length+1) 5 R σ Xs cs iv ws n' ρ υ:=fun ρ υ a5 w5 c5 h1 h2 h3 h4 h5 =>
   ⟨ks++[t],seen++[t],v2,v1,a5,w5,c5,.er c5 w5,h1,h2,by simp;omega,by simp;omega,h3,fun h=>absurd h h4,fun h=>absurd h h4,by simp [MW,zT,h4],fun c p h=>by cases h;exact h5,fun X v e n'' h=>by cases h⟩
  by_cases hsg : k2=1∧t2=[58]
  ·have b : (decide ((k2 : Int)=1) && t2 == [58])=true:=by simp [hsg.1,hsg.2]
   rw [b] at hTk
   simp only [go_sem,seval,aO,dW,SS]
   refine ah (hTk) ?_<;>simp only [go_sem,seval,Bool.not_true,SS]
   by_cases hc : c4=0
   ·obtain ⟨x2N,e2N,rfl,_,h3,rfl,hp2⟩:=hL2.resolve_right fun h=>h.2.1 hc
    obtain ⟨_,h5,h6,h7⟩:=hc3' h3
    obtain ⟨xN,eN,rfl,_,rfl,hy⟩:=hL.resolve_right fun h=>h.2.1 h5
    rw [hy] at hM
    have hM2:=(hM.2 h6).2 (by rw [hW.lkm];exact h7)
    rw [hp2] at hM2
    obtain ⟨Rv,r1,r2,r3⟩:=hM2.2 hsg
    have u1:=aW hy
    have u2:=aW hp2
    obtain rfl:=hw4 hc
    subst hc
    exact ⟨ks++[t],seen++[t],v2,v1,e2N,0,0,Rv,⟨hQ.q0,hQ.q1,hQ.q2,hQ.q3,hQ.q8,hQ.q9,rfl⟩,hS3,by simp;omega,by simp;omega,hid4,fun _=>rfl,fun _=>⟨e2N,rfl,by omega,by simp;omega,by simp;omega,by omega⟩,r1,r2,fun X v e n'' he hm ho hs=>⟨fun _=>⟨_,hW.map t h7 (by omega) hm ho hs,rfl,rfl,r3 v e n'' he⟩,fun h=>absurd h (by decide)⟩⟩
   ·exact erC _ _ a2 w4 c4 ⟨hQ.q0,hQ.q1,hQ.q2,hQ.q3,hQ.q8,hQ.q9,rfl⟩ hS3 hid4 hc (hL2.resolve_left fun ⟨_,_,_,h',_⟩=>hc h').1
  ·have b : (decide ((k2 : Int)=1) && t2 == [58])=false:=by
    rw [Bool.eq_false_iff];intro h;simp at h;exact hsg ⟨by omega,h.2⟩
   rw [b] at hTk
   simp only [go_sem,seval,aO,dW,SS]
   refine ah (hTk) ?_<;>simp only [go_sem,seval,Bool.not_false,hQ.q0,SS]
   refine CV.mono (qY id s a2 n' w4 c4 x2 2 _ hid4) ?_
   rintro _ υ' ⟨rfl,f1,f2⟩
   simp only [go_sem,seval,aO,SS]
   by_cases hc : c4=0
   ·obtain ⟨x2N,e2N,rfl,_,h3,rfl,hp2⟩:=hL2.resolve_right fun h=>h.2.1 hc
    obtain ⟨_,h5,h6,h7⟩:=hc3' h3
    obtain ⟨xN,eN,rfl,_,rfl,hy⟩:=hL.resolve_right fun h=>h.2.1 h5
    rw [hy] at hM
    have hM2:=(hM.2 h6).2 (by rw [hW.lkm];exact h7)
    rw [hp2] at hM2
    exact erC _ _ e2N x2N 2 ⟨hQ.q0,hQ.q1,hQ.q2,hQ.q3,hQ.q8,hQ.q9,rfl⟩ (hS3.next hl f2) (by simpa [hc] using f1) (by decide) (hM2.1 hsg)
   ·exact erC _ _ a2 w4 c4 ⟨hQ.q0,hQ.q1,hQ.q2,hQ.q3,hQ.q8,hQ.q9,rfl⟩ (hS3.next hl f2) (by simpa [hc] using f1) hc (hL2.resolve_left fun ⟨_,_,_,h',_⟩=>hc h').1
 have hcl : cs.length≤4000:=by omega
 have hT:=hI.tr
 clear hid hid' hS hQ hI hrd hW la lb lc
 rintro ρ υ ⟨ks,seen,kv,sv,a1,w1,c1,Rv,hQ,hS,lk,ls,hid,hw,ha1,hRv,hRe,hNX⟩
 refine bY (M:=C3 g id s n q σ.length (σ.length+1) kd R σ) ?_ ?_
 ·rintro ρ υ ⟨ks,seen,Xs,cs,kv,sv,iv,hQ,hS,hT,lc,lk,ls,hst⟩
  simp only [go_sem,seval,hQ.q0,hQ.q3,SS]
  rcases hst with ⟨a',n',w,c,hid,hc,rfl⟩ | ⟨e,n'',ws,md,hid,hW,hmd,hmv,hA,k1,k2,k3,hle,hn'⟩
  ·refine CV.mono (JJ id s a' n' w c (fun h=>absurd h hc) (fun h=>absurd h hc) (by omega) υ hid _) ?_
   intro r τ hX
   rw [show zT s a' w c=.err c w by unfold zT;rw [if_neg hc]] at hX
   obtain ⟨rfl,a2,e1,e2⟩:=hX
   simp only [go_sem,seval,aO,SS]
   exact ⟨0,by omega,ks,seen,Xs,cs,kv,sv,iv,false,⟨⟨hQ.q0,hQ.q1,hQ.q2,hQ.q3,hQ.q8,hQ.q9,hQ.q10⟩,rfl,hS.next hl e2,hT,lc,lk,ls,.inl ⟨a2,n',w,c,e1,hc,rfl⟩⟩⟩
  ·refine CV.mono (JJ id s e n'' 0 0 (fun _=>rfl) (fun _=>iL (by omega)) (by omega) υ hid _) ?_
   intro r τ hX
   rw [show zT s e 0 0=aT s e from if_pos rfl] at hX
   unfold YJ at hA
   cases hp : aT s e with
   | err c p =>
    rw [hp] at hX hA
    obtain ⟨rfl,a2,e1,e2⟩:=hX
    cases hA
    simp only [go_sem,seval,aO,SS]
    exact ⟨0,by omega,ks,seen,Xs,cs,kv,sv,iv,false,⟨⟨hQ.q0,hQ.q1,hQ.q2,hQ.q3,hQ.q8,hQ.q9,hQ.q10⟩,rfl,hS.next hl e2,hT,lc,lk,ls,.inl ⟨a2,n'',p,c,e1,gX hp,rfl⟩⟩⟩
   | tok k x e' i t =>
    rw [hp] at hX hA
    have htk:=aW hp
    simp only at hA
    rcases hX with ⟨c1,rfl,e1,e2⟩ | ⟨c0,c1,rfl,e1,e2⟩ | ⟨c0,c1,rfl,a2,e1,e2⟩
    ·rw [if_pos c1] at hA
     simp only [go_sem,seval,aO,SS]
     exact ⟨g,Nat.lt_succ_self g,ks,seen,Xs,cs,kv,sv,iv,true,⟨⟨hQ.q0,hQ.q1,hQ.q2,hQ.q3,hQ.q8,hQ.q9,hQ.q10⟩,rfl,hS.next hl e2,hT,lc,lk,ls,.inr (.inr ⟨rfl,by omega,e',n'',ws,md,e1,hW,hmd,hmv,hA,by omega,by omega,by omega,by omega,hn'⟩)⟩⟩
    ·rw [if_neg c0,if_pos (by rw [Xl hmv,hmd];exact c1)] at hA
     cases hA
     simp only [go_sem,seval,aO,SS]
     exact ⟨0,by omega,ks,seen,Xs,cs,kv,sv,iv,false,⟨⟨hQ.q0,hQ.q1,hQ.q2,hQ.q3,hQ.q8,hQ.q9,hQ.q10⟩,rfl,hS.next hl e2,hT,lc,lk,ls,.inr (.inl ⟨rfl,e1,ws,md,hW,hmd,rfl⟩)⟩⟩
    ·rw [if_neg c0,if_neg (by rw [Xl hmv,hmd];exact c1)] at hA
     cases hA
     simp only [go_sem,seval,aO,SS]
     exact ⟨0,by omega,ks,seen,Xs,cs,kv,sv,iv,false,⟨⟨hQ.q0,hQ.q1,hQ.q2,hQ.q3,hQ.q8,hQ.q9,hQ.q10⟩,rfl,hS.next hl e2,hT,lc,lk,ls,.inl ⟨a2,n'',x,2,e1,by decide,rfl⟩⟩⟩
 have wq : IntKind.i64.wrap ((q : Int)+1)=((q+1 : Nat) : Int):=by rw [iw (by omega)];omega
 simp only [go_sem,seval,hQ.q0,hQ.q2,wq,SS]
 refine CV.mono (hV g (by omega) id s a1 n' (q+1) w1 c1 Rv υ (fun h=>by obtain ⟨aN,rfl,h',_⟩:=ha1 h;exact iL (by omega)) hs (by omega) (by omega) hn' hw hid hRv) ?_
 intro r τ hX
 obtain ⟨X,cx,y,hTX,rfl,hch,hres⟩ : ∃ (X : Tr) (cx : List VV) (y : Int),rJ X cx∧r=.ret (.tup [.agg cx,.int .i64 y])∧Ch (·=id) υ τ∧((∃ v e n'',Rv=.ok v e n''∧oV X∧nS 4000 X∧X.mk (q+1) n'=(n'',.ok v)∧y=Yh s a1∧τ[id]?=some (.own (gZ s e n'' 0 0)))∨(∃ c p,R=.er c p∧c≠0∧∃ a' n2 : Int,τ[id]?=some (.own (gZ s a' n2 p c)))):=by
  cases Rv with
  | ok v e n'' =>
   obtain ⟨X,cx,hT,hO,hL,hm,rfl,e1,e2⟩:=hX
   exact ⟨X,cx,_,hT,rfl,e2,.inl ⟨v,e,n'',rfl,hO,hL,hm,rfl,e1⟩⟩
  | er c p =>
   obtain ⟨hc,⟨X,cx,y,hT,rfl⟩,a',n2,e1,e2⟩:=hX
   exact ⟨X,cx,y,hT,rfl,e2,.inr ⟨c,p,hRe c p rfl,hc,a',n2,e1⟩⟩
 clear hX
 obtain ⟨x1,x2,x3⟩:=hTX.cells
 have x4 : cx.take 5=cx:=List.take_of_length_le (by omega)
 have hB1 : dS 5 [cx]:=⟨by simpa using x1,by simpa using x2,fun z hz=>by simp at hz;subst hz;exact x3⟩
 have hS1:=(hS.next hl hch).snoc hl [.own cx]
 have t9:=hS1.t9
 have ci:=hS1.gi.cell
 have ci2:=eH ci
 have ci3:=cellC ci
 simp only [go_sem,seval] at ci
 simp only [go_sem,seval] at ci2
 simp only [go_sem,seval] at ci3
 simp only [go_sem,seval,aO,hQ.q9,t9,x1,x3,x4,ci,ci2,ci3,SS]
 refine hS1.gi.step (ys:=[cx]) dY lV pR lF rfl (by decide) (by decide) hB1 (by simp;omega) (by have:=(fH.sl [cx] true hB1).src (P:=Tryz.prog) (σ:=τ++[.own cx]) dY;simpa using this) fun v1 υ1 g1 K1 N1=>?_
 have hS2:=hS1.aa4 g1 K1 N1
 have l9 : σ.length+1 < (τ++[Obj.own cx]).length:=(List.getElem?_eq_some_iff.1 t9).1
 have t9' : υ1[σ.length+1]?=some (.own [.int .i64 kd,.int .i64 0,.str [],kv,iv]):=(K1.at l9 fun e=>by have:=hS1.di _ e;omega).trans t9
 have cv:=g1.cell
 have cv2:=eH cv
 have cv3:=cellC cv
 simp only [go_sem,seval] at cv
 simp only [go_sem,seval] at cv2
 simp only [go_sem,seval] at cv3
 have ck:=hS1.gk.cell
 simp only [go_sem,seval] at ck
 simp only [go_sem,seval,hQ.q1,hQ.q9,t9',cv,cv2,cv3,ck,SS]
 have hid2 : (υ1.set (σ.length+1) (.own [.int .i64 kd,.int .i64 0,.str [],kv,v1]))[id]?=τ[id]?:=by
  have hl2 : id < τ.length:=by have:=hch.len;have:=hS.ch.len;omega
  rw [List.getElem?_set_ne (by omega),K1.at (by simp;omega) (fun e=>by have:=hS1.di _ e;omega),List.getElem?_append_left hl2]
 have h15 : (υ1.set (σ.length+1) (.own [.int .i64 kd,.int .i64 0,.str [],kv,v1]))[τ.length]?=some (.own cx):=by
  have hST:=hS.next hl hch
  have hl2:=(List.getElem?_eq_some_iff.1 hST.t9).1
  rw [List.getElem?_set_ne (by omega),K1.at (by simp) (fun e=>by have:=hST.gi.lt e;omega)]
  simp
 obtain ⟨υ2,hυ2⟩ : ∃ υ2,υ2=υ1.set (σ.length+1) (.own [.int .i64 kd,.int .i64 0,.str [],kv,v1]):=⟨_,rfl⟩
 rw [← hυ2] at hS2 hid2 h15 ⊢
 have hT2:=hT.app hTX
 have hpos : ∀ v e n'',Rv=.ok v e n''→∃ aN : Nat,a1=aN∧aN < e∧e≤s.length∧ks.length≤aN∧seen.length≤aN∧cs.length≤aN:=by
  rintro v e n'' rfl
  unfold MW at hRv
  split at hRv
  ·cases hRv
  ·rename_i hx
   obtain ⟨aN,rfl,h2,h3,h4,h5⟩:=ha1 (zV hx).1
   have:=sH g hRv
   exact ⟨aN,rfl,by omega,this.2,h3,h4,h5⟩
 by_cases k6 : kd=6
 rotate_left
 ·have b6 : (kd == 6)=false:=by simpa using k6
  simp only [go_sem,seval,b6,SS]
  refine ⟨ks,seen,_,_,kv,sv,v1,⟨hQ.q0,hQ.q1,hQ.q2,hQ.q3,hQ.q8,hQ.q9,hQ.q10⟩,hS2,hT2,by simp;omega,lk,ls, ?_⟩
  rcases hres with ⟨v,e,n'',rfl,hO,hL,hm,rfl,e1⟩ | ⟨c,p,hR',hc,a',n2,e1⟩
  ·obtain ⟨md',hW',m1,m2,hA⟩:=(hNX X v e n'' rfl hm hO hL).1 k6
   obtain ⟨aN,rfl,p1,p2,p3,p4,p5⟩:=hpos v e n'' rfl
   exact .inr ⟨e,n'',_,md',hid2.trans e1,hW',m1,m2,hA,by simp;omega,by omega,by omega,p2,(zX _ _ _ _ _ hO hm).2.2⟩
  ·exact .inl ⟨a',n2,p,c,hid2.trans e1,hc,hR'⟩
 have b6 : (kd == 6)=true:=by simpa using k6
 rcases hres with ⟨v,e,n'',rfl,hO,hL,hm,rfl,e1⟩ | ⟨c,p,hR',hc,a',n2,e1⟩
 rotate_left
 ·have hid':=hid2.trans e1
  unfold gZ at hid'
  have b : ((c : Int) == 0)=false:=by simpa using hc
  simp only [go_sem,seval,b6,hQ.q0,hid',b,SS]
  exact ⟨ks,seen,_,_,kv,sv,v1,⟨hQ.q0,hQ.q1,hQ.q2,hQ.q3,hQ.q8,hQ.q9,hQ.q10⟩,hS2,hT2,by simp;omega,lk,ls,.inl ⟨a',n2,p,c,hid2.trans e1,hc,hR'⟩⟩
 have hid':=hid2.trans e1
 unfold gZ at hid'
 simp only [go_sem,seval,b6,hQ.q0,hid',h15,x1,x3,x4,beq_self_eq_true,SS]
 obtain ⟨aN,rfl,p1,p2,p3,p4,p5⟩:=hpos v e n'' rfl
 obtain ⟨w1,w2,w3⟩:=zX _ _ _ _ _ hO hm
 obtain ⟨cc,hTc,hCan⟩:=LQ X cx hTX hO hL _ _ _ _ hm
 have hKey:=Fa v cc _ hTc (Qj _ _ _ _ _ hO hL hm) w1 (by omega)
 obtain ⟨y1,y2,y3⟩:=hTc.cells
 have y4 : cc.take 5=cc:=List.take_of_length_le (by omega)
 obtain ⟨pN,e2,e3,e4⟩:=(hNX X v e n'' rfl hm hO hL).2 k6
 refine ah (hCan) ?_<;>simp only [go_sem,seval,y1,y3,y4,SS]
 refine ah (hKey) ?_<;>simp only [go_sem,seval,hQ.q10,SS]
 refine CV.mono (Xz hS2.gs (by omega) v.key) ?_
 rintro _ τ2 ⟨rfl,rfl⟩
 have hBs : dS 1 [[VV.str v.key]]:=⟨by simp,by simp [VV.isPure,VV.ak],fun x hx=>by simp at hx;subst hx;rfl⟩
 by_cases hcon : seen.contains v.key=true
 ·rw [hcon]
  simp only [go_sem,seval,aO,hQ.q0,e2,SS]
  refine CV.mono (qY id s _ _ 0 0 pN 6 _ (hid2.trans e1)) ?_
  rintro _ τ2 ⟨rfl,f1,f2⟩
  have hS3:=hS2.next hl f2
  have cs0:=hS3.gs.cell
  have cs1:=eH cs0
  have cs2:=cellC cs0
  simp only [go_sem,seval] at cs0
  simp only [go_sem,seval] at cs1
  simp only [go_sem,seval] at cs2
  simp only [go_sem,seval,aO,hQ.q10,cs0,cs1,cs2,SS]
  refine hS3.gs.step (ys:=[[VV.str v.key]]) dM lM oJ kD rfl (by decide) (by decide) hBs (by simp [strs];omega) ((fH.sl [[VV.str v.key]] true hBs).src dM) fun v2 υ3 g2 K2 N2=>?_
  have hS4:=hS3.YQ g2 K2 N2
  simp only [go_sem,seval,SS]
  have hl3:=(List.getElem?_eq_some_iff.1 f1).1
  refine ⟨ks,_,_,_,kv,v2,v1,⟨hQ.q0,hQ.q1,hQ.q2,hQ.q3,hQ.q8,hQ.q9,rfl⟩,hS4,hT2,by simp;omega,lk,by simp;omega,.inl ⟨_,_,pN,6,(K2.at hl3 fun e=>by have:=(hS3.ds _ e).1;omega).trans f1,by decide,e3 hcon⟩⟩
 ·have hcf : seen.contains v.key=false:=by simpa using hcon
  rw [hcf]
  have cs0:=hS2.gs.cell
  have cs1:=eH cs0
  have cs2:=cellC cs0
  simp only [go_sem,seval] at cs0
  simp only [go_sem,seval] at cs1
  simp only [go_sem,seval] at cs2
  simp only [go_sem,seval,aO,hQ.q0,hQ.q10,cs0,cs1,cs2,SS]
  refine hS2.gs.step (ys:=[[VV.str v.key]]) dM lM oJ kD rfl (by decide) (by decide) hBs (by simp [strs];omega) ((fH.sl [[VV.str v.key]] true hBs).src dM) fun v2 υ3 g2 K2 N2=>?_
  have hS4:=hS2.YQ g2 K2 N2
  simp only [go_sem,seval,SS]
  obtain ⟨md',hW',m1,m2,hA⟩:=e4 hcf
  have hid3:=hid2.trans e1
  have hl3:=(List.getElem?_eq_some_iff.1 hid3).1
  exact ⟨ks,_,_,_,kv,v2,v1,⟨hQ.q0,hQ.q1,hQ.q2,hQ.q3,hQ.q8,hQ.q9,rfl⟩,hS4,hT2,by simp;omega,lk,by simp;omega,.inr ⟨e,n'',_,md',(K2.at hl3 fun e=>by have:=(hS2.ds _ e).1;omega).trans hid3,hW',m1,m2,hA,by simp;omega,by omega,by simp;omega,p2,w3⟩⟩
end Go.V
