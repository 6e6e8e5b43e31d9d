/- Texts F106 F107. -/
import Derived.Test.YthhjefemijhamaaGreatDoorG45
import Derived.Test.YthhjefemijhamaaGreatDoorG49
set_option linter.unusedVariables false
set_option linter.unusedSimpArgs false
namespace Go.V
open Go.Proofs
set_option maxRecDepth 100000
theorem Ch.get {S : Nat→Prop} {σ σ' : Store} (h : Ch S σ σ') {k : Nat} {o : Obj} (hk : σ[k]?=some o) (hn : ¬ S k) : σ'[k]?=some o:=(h.same k (List.getElem?_eq_some_iff.1 hk).1 hn).trans hk
theorem Ch.rW {S : Nat→Prop} {σ υ : Store} (h : Ch S σ υ) {k : Nat} {o : Obj} (hk : σ.length≤k) : Ch S σ (υ.set k o) :=
 ⟨by simpa using h.len,fun j hj hn=>by rw [List.getElem?_set_ne (by omega)];exact h.same j hj hn⟩
theorem Aw {σ σ' : Store} {id : Nat} {x y : Obj} {τ : List Obj} (h : σ[id]?=some x) (e : σ'=σ.set id y++τ) : σ'[id]?=some y∧Ch (·=id) σ σ':=by
 subst e
 refine ⟨Az h,by simp,fun j hj hn=>?_⟩
 rw [List.getElem?_append_left (by simpa using hj),List.getElem?_set_ne (fun e=>hn e.symm)]
theorem PN {S : Nat→Prop} {σ σ' : Store} {τ : List Obj} (e : σ'=σ++τ) : Ch S σ σ':=e ▸ Ch.snoc S σ τ
theorem qY (id : Nat) (s : Bs) (a n w0 c0 w c : Int) (σ : Store) (h : σ[id]?=some (.own (gZ s a n w0 c0))) :
  CV Tryz.prog G0 103 [.mptr id 0,.int .i64 w,.int .i64 c] σ fun r σ'=>r=.ret (.tup [])∧σ'[id]?=some (.own (gZ s a n (if c0=0 then w else w0) (if c0=0 then c else c0)))∧Ch (·=id) σ σ':=by
 refine CV.mono (yJ id s a n w0 c0 w c σ h) ?_
 rintro r σ' ⟨rfl,e⟩
 by_cases h0 : c0=0
 ·rw [if_pos h0] at e
  obtain ⟨e1,e2⟩:=Aw (τ:=[]) h (e.trans (List.append_nil _).symm)
  exact ⟨rfl,by simpa [h0] using e1,e2⟩
 ·rw [if_neg h0] at e
  subst e
  exact ⟨rfl,by simpa [h0] using h,Ch.refl _ _⟩
def NxA (id : Nat) (s : Bs) (n : Int) (σ : Store) : Lx→dX→Store→Prop
 | .tok k x e i t,r,σ'=>r=.ret (dW k x e i t)∧σ'[id]?=some (.own (gZ s e n 0 0))∧Ch (·=id) σ σ'
 | .err c p,r,σ'=>(∃ (x e i : Int) (t : Bs),r=.ret (dW 0 x e i t))∧∃ a,σ'[id]?=some (.own (gZ s a n p c))∧Ch (·=id) σ σ'
theorem FM (id : Nat) (s : Bs) (a n : Int) (w c : Nat) (hw : c=0→w=0) (ha : c=0→lY a) (hs : s.length≤10000000) (σ : Store) (h : σ[id]?=some (.own (gZ s a n w c))) : CV Tryz.prog G0 102 [.mptr id 0] σ (NxA id s n σ (zT s a w c)):=by
 unfold zT
 by_cases hc : c=0
 ·subst hc
  rw [if_pos rfl]
  obtain rfl:=hw rfl
  refine CV.mono (EU id s a n (ha rfl) hs σ h) ?_
  intro r σ' hX
  cases hx : aT s a with
  | err c p =>
   rw [hx] at hX
   obtain ⟨h1,a',τ,e⟩:=hX
   obtain ⟨e1,e2⟩:=Aw h e
   exact ⟨h1,a',e1,e2⟩
  | tok k x e i t =>
   rw [hx] at hX
   obtain ⟨h1,τ,e⟩:=hX
   obtain ⟨e1,e2⟩:=Aw h e
   exact ⟨h1,e1,e2⟩
 ·rw [if_neg hc]
  refine CV.mono (zF id s a n w c (by omega) σ h) ?_
  rintro r σ' ⟨rfl,τ,e⟩
  exact ⟨⟨0,0,0,[],rfl⟩,a,by rw [e,List.getElem?_append_left (List.getElem?_eq_some_iff.1 h).1];exact h,PN e⟩
theorem Lm {P : Program} {G : Nat→Option (List VV)} {v : VV} {c d : aA} {id : Nat} {K M : Env→Store→Prop} {Q : Out→Env→Store→Prop} {ρ : Env} {σ : Store} (hm : ∀ ρ σ,M ρ σ→K ρ σ) (h : pV P G v c d (gY id (eX M Q)) ρ σ) : pV P G v c d (gY id (eX K Q)) ρ σ :=
 jY (oQ (yB hm)) h
def VlQ (id : Nat) (s : Bs) (a : Int) (n q : Nat) (σ : Store) : Rs→dX→Store→Prop
 | .ok v e n',r,σ'=>∃ X cs,rJ X cs∧oV X∧nS 4000 X∧X.mk q n=(n',.ok v)∧r=.ret (.tup [.agg cs,.int .i64 (Yh s a)])∧σ'[id]?=some (.own (gZ s e n' 0 0))∧Ch (·=id) σ σ'
 | .er c p,r,σ'=>c≠0∧(∃ X cs,∃ y : Int,rJ X cs∧r=.ret (.tup [.agg cs,.int .i64 y]))∧∃ a' n' : Int,σ'[id]?=some (.own (gZ s a' n' p c))∧Ch (·=id) σ σ'
def VQ (f : Nat) : Prop:=∀ (id : Nat) (s : Bs) (a : Int) (n q w c : Nat) (R : Rs) (σ : Store),(c=0→lY a)→s.length≤4000→1≤q→q≤65→n≤16384→(c=0→w=0)→σ[id]?=some (.own (gZ s a n w c)) →
 MW f s a n q w c=some R→CV Tryz.prog G0 58 [.mptr id 0,.int .i64 q] σ (VlQ id s a n q σ R)
def PaQ (id : Nat) (s : Bs) (n q : Nat) (σ : Store) : Rs→dX→Store→Prop
 | .ok v e n',r,σ'=>∃ X cs,rJ X cs∧oV X∧nS 4000 X∧X.mk q n=(n',.ok v)∧r=.ret (.agg cs)∧σ'[id]?=some (.own (gZ s e n' 0 0))∧Ch (·=id) σ σ'
 | .er c p,r,σ'=>c≠0∧(∃ X cs,rJ X cs∧r=.ret (.agg cs))∧∃ a' n' : Int,σ'[id]?=some (.own (gZ s a' n' p c))∧Ch (·=id) σ σ'
def PQ (f : Nat) : Prop:=∀ (id : Nat) (s : Bs) (a n q : Nat) (kd : Int) (R : Rs) (σ : Store),(kd=4∨kd=5∨kd=6)→a≤s.length→s.length≤4000→1≤q→q≤64→n+1≤16384→σ[id]?=some (.own (gZ s a (n+1 : Nat) 0 0)) →
 rdA f s a (n+1) q kd=some R→CV Tryz.prog G0 104 [.mptr id 0,.int .i64 kd,.int .i64 q,.str (dZ kd).cl] σ (PaQ id s n q σ R)
def mD : Option (Int × Int × Bs × Int)→Int→Bs→Int→Bs→Prop
 | none,kd,_,_,_=>kd=-1
 | some (sk,si,st,kd'),kd,en,xi,xt=>kd=(if kd'=0 then sk else kd')∧en=(if kd'=0 then [] else (dZ kd').cl)∧xi=si∧xt=st
structure RF (id k4 k6 k9 : Nat) (q kd : Int) (en : Bs) (ρ : Env) : Prop where
 q0 : ρ.get 0=.mptr id 0
 q1 : ρ.get 1=.int .i64 q
 q4 : ρ.get 4=.mptr k4 0
 q6 : ρ.get 6=.mptr k6 0
 q7 : ρ.get 7=.int .i64 kd
 q8 : ρ.get 8=.str en
 q9 : ρ.get 9=.mptr k9 0
abbrev z5 : List VV:=[.int .i64 0,.int .i64 0,.str [],.nils,.nils]
structure SF (id k4 k6 k9 : Nat) (tk : List VV) (xi : Int) (xt : Bs) (σ τ : Store) : Prop where
 t4 : τ[k4]?=some (.own z5)
 t6 : τ[k6]?=some (.own tk)
 t9 : τ[k9]?=some (.own [.int .i64 0,.int .i64 xi,.str xt,.nils,.nils])
 n4 : σ.length≤k4
 n6 : σ.length≤k6
 n9 : σ.length≤k9
 d46 : k4≠k6
 d49 : k4≠k9
 d69 : k6≠k9
 ch : Ch (·=id) σ τ
theorem SF.next {id k4 k6 k9 : Nat} {tk : List VV} {xi : Int} {xt : Bs} {σ τ τ' : Store} (h : SF id k4 k6 k9 tk xi xt σ τ) (hl : id < σ.length) (hc : Ch (·=id) τ τ') : SF id k4 k6 k9 tk xi xt σ τ' :=
 ⟨hc.get h.t4 (by have:=h.n4;omega),hc.get h.t6 (by have:=h.n6;omega),hc.get h.t9 (by have:=h.n9;omega),h.n4,h.n6,h.n9,h.d46,h.d49,h.d69,h.ch.trans hc⟩
theorem SF.of {id : Nat} {tk : List VV} {xi : Int} {xt : Bs} {σ τ : Store} (hc : Ch (·=id) (σ++[.own z5]) τ) (hl : id < σ.length) : SF id σ.length τ.length (τ.length+1) tk xi xt σ (τ++[.own tk,.own [.int .i64 0,.int .i64 xi,.str xt,.nils,.nils]]):=by
 have h4:=hc.get (k:=σ.length) (o:=.own z5) (by simp) (by omega)
 have hlen:=hc.len
 simp only [List.length_append,List.length_cons,List.length_nil] at hlen
 exact ⟨by rw [List.getElem?_append_left (by omega)];exact h4,by simp,by simp [List.getElem?_append_right],by omega,by omega,by omega,by omega,by omega,by omega,hc.app.trans (Ch.snoc _ _ _)⟩
theorem Gl : rJ (.node 0 0 [] [] []) z5:=.node .nil .nil .nil (by simp) (by simp) (by omega) (by omega) (by omega) (by omega)
theorem Me {f : Nat} {s : Bs} {a : Int} {n q w c c1 w1 : Nat} {R : Rs} (h : MW f s a n q w c=some R) (hx : zT s a w c=.err c1 w1) : R=.er c1 w1:=by
 simp only [MW,hx,Option.some.injEq] at h;exact h.symm
theorem qm {f : Nat} {s : Bs} {a : Int} {n q w c k x e : Nat} {i : Int} {t : Bs} {R : Rs} (h : MW f s a n q w c=some R) (hx : zT s a w c=.tok k x e i t) :
  ∃ g,f=g+1∧(bI k i t=none→R=.er 2 x)∧∀ sk si st kd,bI k i t=some (sk,si,st,kd)→(64 < q→R=.er 7 x)∧(q≤64→16384 < n+1→R=.er 8 x)∧(q≤64→n+1≤16384→(kd=0→R=.ok (.sc sk si st) e (n+1))∧(kd≠0→rdA g s e (n+1) q kd=some R)):=by
 obtain ⟨hc,hp⟩:=zV hx
 simp only [MW,hx] at h
 cases f with
 | zero=>simp [rd] at h
 | succ g =>
  simp only [rd,Md.isVal,if_true,hp] at h
  refine ⟨g,rfl,fun hb=>?_,fun sk si st kd hb=>?_⟩
  ·simp only [hb,Option.some.injEq] at h;exact h.symm
  ·simp only [hb] at h
   refine ⟨fun h1=>?_,fun h1 h2=>?_,fun h1 h2=>⟨fun h3=>?_,fun h3=>?_⟩⟩
   ·rw [if_pos h1] at h;cases h;rfl
   ·rw [if_neg (by omega),if_pos h2] at h;cases h;rfl
   ·rw [if_neg (by omega),if_neg (by omega),if_pos h3] at h;cases h;rfl
   ·rw [if_neg (by omega),if_neg (by omega),if_neg h3] at h;exact h
theorem IU {k : Nat} {i : Int} {t : Bs} {sk si kd : Int} {st : Bs} (h : bI k i t=some (sk,si,st,kd)) : (kd=0∧0≤sk∧sk≤3∧(st=[]∨st=t))∨((kd=4∨kd=5∨kd=6)∧sk=0∧si=0∧st=[]):=by
 unfold bI at h
 repeat' split at h
 all_goals first
  | cases h;done
  | (simp only [Option.some.injEq,Prod.mk.injEq] at h;obtain ⟨rfl,rfl,rfl,rfl⟩:=h;simp)
theorem aak {k : Nat} {i : Int} {t : Bs} {sk si : Int} {st : Bs} {q n : Nat} (h : bI k i t=some (sk,si,st,0)) (hq : q≤64) (hn : n+1≤16384) : (Tr.node sk si st [] []).mk q n=(n+1,.ok (.sc sk si st)):=by
 unfold bI at h
 unfold Tr.mk
 rw [if_neg (by omega),if_neg (by omega)]
 repeat' split at h
 all_goals first
  | (cases h;done)
  | (simp only [Option.some.injEq,Prod.mk.injEq] at h;obtain ⟨rfl,rfl,rfl,h4⟩:=h;first | omega | simp [wo,dh])
theorem UN (f : Nat) (hP : ∀ g,f=g+1→PQ g) : VQ f:=by
 intro id s a n q w c R σ ha hs h1 hq hn hw h hR
 have hl:=(List.getElem?_eq_some_iff.1 h).1
 refine cv e58 (by simp) ?_
 simp only [go_sem,seval,c58]
 refine CV.mono (FM id s a n w c hw ha (by omega) _ (by rw [List.getElem?_append_left hl];exact h)) ?_
 intro r τ hX
 obtain ⟨k,x,e,i,t,a1,w1,c1,rfl,hτ,hch,hw1,hL⟩ : ∃ (k : Nat) (x e i : Int) (t : Bs) (a1 : Int) (w1 c1 : Nat),r=.ret (dW k x e i t)∧τ[id]?=some (.own (gZ s a1 n w1 c1))∧Ch (·=id) (σ++[.own z5]) τ∧(c1=0→w1=0)∧((∃ xN eN : Nat,x=xN∧c1=0∧a1=eN∧zT s a w c=.tok k xN eN i t)∨(zT s a w c=.err c1 w1∧c1≠0∧k=0)):=by
  cases hx : zT s a w c with
  | err c' p =>
   rw [hx] at hX
   obtain ⟨⟨x,e,i,t,rfl⟩,a',e1,e2⟩:=hX
   exact ⟨0,x,e,i,t,a',p,c',rfl,e1,e2,fun h=>absurd h (Ae hx),.inr ⟨rfl,Ae hx,rfl⟩⟩
  | tok k x e i t =>
   rw [hx] at hX
   obtain ⟨rfl,e1,e2⟩:=hX
   exact ⟨k,x,e,i,t,e,0,0,rfl,e1,e2,fun _=>rfl,.inl ⟨x,e,rfl,rfl,rfl,rfl⟩⟩
 clear hX
 have hlen : id < τ.length:=(List.getElem?_eq_some_iff.1 hτ).1
 have hS0:=fun xi xt=>SF.of (tk:=[.int .i64 k,.int .i64 x,.int .i64 e,.int .i64 i,.str t]) (xi:=xi) (xt:=xt) hch hl
 have hid0 : ∀ υ,(τ++υ)[id]?=some (.own (gZ s a1 n w1 c1)):=fun υ=>by rw [List.getElem?_append_left hlen];exact hτ
 simp only [go_sem,seval,aO,dW,SS]
 refine Lm (M:=fun ρ υ=>∃ kd en xi xt,mD (bI k i t) kd en xi xt∧RF id σ.length τ.length (τ.length+1) q kd en ρ∧SF id σ.length τ.length (τ.length+1) [.int .i64 k,.int .i64 x,.int .i64 e,.int .i64 i,.str t] xi xt σ υ∧υ[id]?=some (.own (gZ s a1 n w1 c1))) ?_ ?_
 rotate_left
 ·have fin' : ∀ (kd : Int) (en : Bs) (yi : Int) (yt : Bs) (ρ : Env),mD (bI k i t) kd en yi yt→RF id σ.length τ.length (τ.length+1) q kd en ρ→∃ kd en xi xt,mD (bI k i t) kd en xi xt∧RF id σ.length τ.length (τ.length+1) q kd en ρ∧SF id σ.length τ.length (τ.length+1) [.int .i64 k,.int .i64 x,.int .i64 e,.int .i64 i,.str t] xi xt σ (τ++[.own [.int .i64 k,.int .i64 x,.int .i64 e,.int .i64 i,.str t],.own [.int .i64 0,.int .i64 yi,.str yt,.nils,.nils]])∧(τ++[.own [.int .i64 k,.int .i64 x,.int .i64 e,.int .i64 i,.str t],.own [.int .i64 0,.int .i64 yi,.str yt,.nils,.nils]])[id]?=some (.own (gZ s a1 n w1 c1)):=fun kd en yi yt ρ h1 h2=>⟨kd,en,yi,yt,h1,h2,hS0 yi yt,hid0 _⟩
  by_cases k3 : k=3
  ·subst k3
   simp only [go_sem,seval,SS]
   refine fin' 2 [] i [] _ (by simp [mD,bI]) ?_
   exact ⟨rfl,rfl,rfl,rfl,rfl,rfl,rfl⟩
  by_cases k4 : k=4
  ·subst k4
   simp only [go_sem,seval,SS]
   refine fin' 3 [] 0 t _ (by simp [mD,bI]) ?_
   exact ⟨rfl,rfl,rfl,rfl,rfl,rfl,rfl⟩
  have b3 : ((k : Int) == 3)=false:=by simp;omega
  have b4 : ((k : Int) == 4)=false:=by simp;omega
  by_cases k2 : k=2
  ·subst k2
   simp only [go_sem,seval,b3,b4,SS]
   by_cases tn : t=[110,117,108,108]
   ·subst tn
    simp only [go_sem,seval]
    refine fin' 0 [] 0 [] _ (by simp [mD,bI]) ?_
    exact ⟨rfl,rfl,rfl,rfl,rfl,rfl,rfl⟩
   have bn : (t == [110,117,108,108])=false:=by simpa using tn
   by_cases tt : t=[116,114,117,101]
   ·subst tt
    simp only [go_sem,seval,bn,SS]
    refine fin' 1 [] 1 [] _ (by simp [mD,bI]) ?_
    exact ⟨rfl,rfl,rfl,rfl,rfl,rfl,rfl⟩
   have bt : (t == [116,114,117,101])=false:=by simpa using tt
   by_cases tf : t=[102,97,108,115,101]
   ·subst tf
    simp only [go_sem,seval,bn,bt,SS]
    refine fin' 1 [] 0 [] _ (by simp [mD,bI]) ?_
    exact ⟨rfl,rfl,rfl,rfl,rfl,rfl,rfl⟩
   have bf : (t == [102,97,108,115,101])=false:=by simpa using tf
   simp only [go_sem,seval,bn,bt,bf,SS]
   refine fin' (-1) [] 0 [] _ (by simp [mD,bI,tn,tt,tf]) ?_
   exact ⟨rfl,rfl,rfl,rfl,rfl,rfl,rfl⟩
  have b2 : ((k : Int) == 2)=false:=by simp;omega
  by_cases k1 : k=1
  ·subst k1
   simp only [go_sem,seval,b3,b4,b2,SS]
   by_cases tn : t=[91]
   ·subst tn
    simp only [go_sem,seval]
    refine fin' 4 [93] 0 [] _ (by simp [mD,bI,dZ,Md.cl]) ?_
    exact ⟨rfl,rfl,rfl,rfl,rfl,rfl,rfl⟩
   have bn : (t == [91])=false:=by simpa using tn
   by_cases tt : t=[123]
   ·subst tt
    simp only [go_sem,seval,bn,SS]
    refine fin' 5 [125] 0 [] _ (by simp [mD,bI,dZ,Md.cl]) ?_
    exact ⟨rfl,rfl,rfl,rfl,rfl,rfl,rfl⟩
   have bt : (t == [123])=false:=by simpa using tt
   by_cases tf : t=[60]
   ·subst tf
    simp only [go_sem,seval,bn,bt,SS]
    refine fin' 6 [62] 0 [] _ (by simp [mD,bI,dZ,Md.cl]) ?_
    exact ⟨rfl,rfl,rfl,rfl,rfl,rfl,rfl⟩
   have bf : (t == [60])=false:=by simpa using tf
   simp only [go_sem,seval,bn,bt,bf,SS]
   refine fin' (-1) [] 0 [] _ (by simp [mD,bI,tn,tt,tf]) ?_
   exact ⟨rfl,rfl,rfl,rfl,rfl,rfl,rfl⟩
  have b1 : ((k : Int) == 1)=false:=by simp;omega
  simp only [go_sem,seval,b3,b4,b2,b1,SS]
  refine fin' (-1) [] 0 [] _ (by simp [mD,bI,k1,k2,k3,k4]) ?_
  exact ⟨rfl,rfl,rfl,rfl,rfl,rfl,rfl⟩
 rintro ρ υ ⟨kd,en,xi,xt,hK,hF,hS,hid⟩
 have wrong : ∀ {c2 : Nat},(c1≠0→R=.er c1 w1):=fun h=>Me hR (hL.resolve_left fun ⟨_,_,_,h',_⟩=>h h').1
 have oU : c1≠0→bI k i t=none:=fun h=>by
  obtain ⟨_,_,rfl⟩:=hL.resolve_left fun ⟨_,_,_,h',_⟩=>h h'
  simp [bI]
 refine iD (M:=fun ρ υ=>RF id σ.length τ.length (τ.length+1) q kd en ρ∧SF id σ.length τ.length (τ.length+1) [.int .i64 k,.int .i64 x,.int .i64 e,.int .i64 i,.str t] xi xt σ υ∧∃ w2 c2 : Nat,υ[id]?=some (.own (gZ s a1 n w2 c2))∧(c2≠0→R=.er c2 w2)∧(c2=0→w2=0∧c1=0∧bI k i t≠none)) ?_ ?_
 ·cases hb : bI k i t with
  | none =>
   rw [hb] at hK
   simp only [mD] at hK
   subst hK
   simp only [go_sem,seval,hF.q0,hF.q6,hF.q7,hS.t6,SS]
   refine CV.mono (qY id s a1 n w1 c1 x 2 υ hid) ?_
   rintro _ υ' ⟨rfl,e1,e2⟩
   simp only [go_sem,seval,aO]
   refine ⟨⟨hF.q0,hF.q1,hF.q4,hF.q6,hF.q7,hF.q8,hF.q9⟩,hS.next hl e2, ?_⟩
   by_cases hc1 : c1=0
   ·obtain ⟨xN,eN,rfl,_,rfl,hx⟩:=hL.resolve_right fun h=>h.2.1 hc1
    obtain ⟨g,_,hg,_⟩:=qm hR hx
    exact ⟨xN,2,by simpa [hc1] using e1,fun _=>hg hb,fun h=>by omega⟩
   ·exact ⟨w1,c1,by simpa [hc1] using e1,fun _=>wrong (c2:=0) hc1,fun h=>absurd h hc1⟩
  | some B =>
   have hc1 : c1=0:=Classical.byContradiction fun h=>by rw [oU h] at hb;cases hb
   obtain ⟨sk,si,st,kd'⟩:=B
   have hbk:=IU hb
   rw [hb] at hK
   simp only [mD] at hK
   have b : decide (kd < 0)=false:=decide_eq_false (by rw [hK.1];split<;>omega)
   simp only [go_sem,seval,hF.q0,hF.q6,hF.q7,hS.t6,b,SS]
   exact ⟨⟨hF.q0,hF.q1,hF.q4,hF.q6,hF.q7,hF.q8,hF.q9⟩,hS,w1,c1,hid,fun h=>absurd hc1 h,fun h=>by simp [hw1 h,h]⟩
 clear hF hS hid ρ υ
 rintro ρ υ ⟨hF,hS,w2,c2,hid,hc2,hc2'⟩
 have wn : IntKind.i64.wrap ((n : Int)+1)=((n+1 : Nat) : Int):=by rw [iw (by omega)];omega
 refine iD (M:=fun ρ υ=>RF id σ.length τ.length (τ.length+1) q kd en ρ∧SF id σ.length τ.length (τ.length+1) [.int .i64 k,.int .i64 x,.int .i64 e,.int .i64 i,.str t] xi xt σ υ∧υ[id]?=some (.own (gZ s a1 (n+1 : Nat) w2 c2))) ?_ ?_
 ·have hid':=hid
  unfold gZ at hid'
  simp only [go_sem,seval,hF.q0,hid',wn,SS]
  exact ⟨⟨hF.q0,hF.q1,hF.q4,hF.q6,hF.q7,hF.q8,hF.q9⟩,hS.next hl (Ch.set rfl),List.getElem?_set_self (List.getElem?_eq_some_iff.1 hid).1⟩
 clear hF hS hid ρ υ
 rintro ρ υ ⟨hF,hS,hid⟩
 refine iD (M:=fun ρ υ=>RF id σ.length τ.length (τ.length+1) q kd en ρ∧SF id σ.length τ.length (τ.length+1) [.int .i64 k,.int .i64 x,.int .i64 e,.int .i64 i,.str t] xi xt σ υ∧∃ w3 c3 : Nat,υ[id]?=some (.own (gZ s a1 (n+1 : Nat) w3 c3))∧(c3≠0→R=.er c3 w3)∧(c3=0→w3=0∧c1=0∧bI k i t≠none∧q≤64)) ?_ ?_
 ·by_cases h64 : 64 < q
  ·have b : decide ((64 : Int) < (q : Int))=true:=decide_eq_true (by omega)
   simp only [go_sem,seval,hF.q0,hF.q1,hF.q6,hS.t6,b,SS]
   refine CV.mono (qY id s a1 _ w2 c2 x 7 υ hid) ?_
   rintro _ υ' ⟨rfl,e1,e2⟩
   simp only [go_sem,seval,aO]
   refine ⟨⟨hF.q0,hF.q1,hF.q4,hF.q6,hF.q7,hF.q8,hF.q9⟩,hS.next hl e2, ?_⟩
   by_cases hc : c2=0
   ·obtain ⟨_,hc1,hb⟩:=hc2' hc
    obtain ⟨xN,eN,rfl,_,rfl,hx⟩:=hL.resolve_right fun h=>h.2.1 hc1
    obtain ⟨g,_,_,hg⟩:=qm hR hx
    obtain ⟨⟨sk,si,st,kd'⟩,hb⟩:=Option.ne_none_iff_exists'.1 hb
    exact ⟨xN,7,by simpa [hc] using e1,fun _=>(hg _ _ _ _ hb).1 h64,fun h=>by omega⟩
   ·exact ⟨w2,c2,by simpa [hc] using e1,hc2,fun h=>absurd h hc⟩
  ·have b : decide ((64 : Int) < (q : Int))=false:=decide_eq_false (by omega)
   simp only [go_sem,seval,hF.q0,hF.q1,hF.q6,hS.t6,b,SS]
   exact ⟨⟨hF.q0,hF.q1,hF.q4,hF.q6,hF.q7,hF.q8,hF.q9⟩,hS,w2,c2,hid,hc2,fun h=>⟨(hc2' h).1,(hc2' h).2.1,(hc2' h).2.2,by omega⟩⟩
 clear hF hS hid ρ υ
 rintro ρ υ ⟨hF,hS,w3,c3,hid,hc3,hc3'⟩
 refine iD (M:=fun ρ υ=>RF id σ.length τ.length (τ.length+1) q kd en ρ∧SF id σ.length τ.length (τ.length+1) [.int .i64 k,.int .i64 x,.int .i64 e,.int .i64 i,.str t] xi xt σ υ∧∃ w4 c4 : Nat,υ[id]?=some (.own (gZ s a1 (n+1 : Nat) w4 c4))∧(c4≠0→R=.er c4 w4)∧(c4=0→w4=0∧c1=0∧bI k i t≠none∧q≤64∧n+1≤16384)) ?_ ?_
 ·have hid':=hid
  unfold gZ at hid'
  by_cases h64 : 16384 < n+1
  ·have b : decide ((16384 : Int) < ((n+1 : Nat) : Int))=true:=decide_eq_true (by omega)
   simp only [go_sem,seval,hF.q0,hF.q6,hS.t6,hid',b,SS]
   refine CV.mono (qY id s a1 _ w3 c3 x 8 υ hid) ?_
   rintro _ υ' ⟨rfl,e1,e2⟩
   simp only [go_sem,seval,aO]
   refine ⟨⟨hF.q0,hF.q1,hF.q4,hF.q6,hF.q7,hF.q8,hF.q9⟩,hS.next hl e2, ?_⟩
   by_cases hc : c3=0
   ·obtain ⟨_,hc1,hb,hq6⟩:=hc3' hc
    obtain ⟨xN,eN,rfl,_,rfl,hx⟩:=hL.resolve_right fun h=>h.2.1 hc1
    obtain ⟨g,_,_,hg⟩:=qm hR hx
    obtain ⟨⟨sk,si,st,kd'⟩,hb⟩:=Option.ne_none_iff_exists'.1 hb
    exact ⟨xN,8,by simpa [hc] using e1,fun _=>(hg _ _ _ _ hb).2.1 hq6 h64,fun h=>by omega⟩
   ·exact ⟨w3,c3,by simpa [hc] using e1,hc3,fun h=>absurd h hc⟩
  ·have b : decide ((16384 : Int) < ((n+1 : Nat) : Int))=false:=decide_eq_false (by omega)
   simp only [go_sem,seval,hF.q0,hF.q6,hS.t6,hid',b,SS]
   exact ⟨⟨hF.q0,hF.q1,hF.q4,hF.q6,hF.q7,hF.q8,hF.q9⟩,hS,w3,c3,rfl,hc3,fun h=>⟨(hc3' h).1,(hc3' h).2.1,(hc3' h).2.2.1,(hc3' h).2.2.2,by omega⟩⟩
 clear hF hS hid ρ υ
 rintro ρ υ ⟨hF,hS,w4,c4,hid,hc4,hc4'⟩
 refine iD (M:=fun ρ υ=>RF id σ.length τ.length (τ.length+1) q kd en ρ∧SF id σ.length τ.length (τ.length+1) [.int .i64 k,.int .i64 x,.int .i64 e,.int .i64 i,.str t] xi xt σ υ∧c4=0∧υ[id]?=some (.own (gZ s a1 (n+1 : Nat) 0 0))) ?_ ?_
 ·have hid':=hid
  unfold gZ at hid'
  by_cases hc : c4=0
  ·have b : ((c4 : Int) != 0)=false:=by simp [hc]
   simp only [go_sem,seval,hF.q0,hF.q4,hF.q6,hS.t6,hid',b,SS]
   refine ⟨⟨hF.q0,hF.q1,hF.q4,hF.q6,hF.q7,hF.q8,hF.q9⟩,hS,hc, ?_⟩
   rw [hc,(hc4' hc).1];rfl
  ·have b : ((c4 : Int) != 0)=true:=by simp [hc]
   have l4:=(List.getElem?_eq_some_iff.1 hS.t4).1
   have g4 : ∀ o,(υ.set σ.length o)[σ.length]?=some o:=fun o=>List.getElem?_set_self l4
   have g6 : ∀ o,(υ.set σ.length o)[τ.length]?=some (.own [.int .i64 k,.int .i64 x,.int .i64 e,.int .i64 i,.str t]):=fun o=>by rw [List.getElem?_set_ne hS.d46];exact hS.t6
   simp only [go_sem,seval,hF.q0,hF.q4,hF.q6,hS.t4,hS.t6,hid',b,g4,g6,SS]
   rw [hc4 hc]
   exact ⟨hc,⟨_,_,x,Gl,rfl⟩,a1,_,by rw [List.getElem?_set_ne (by omega)];exact hid,hS.ch.rW (Nat.le_refl _)⟩
 clear hF hS hid ρ υ
 rintro ρ υ ⟨hF,hS,hc,hid⟩
 obtain ⟨_,hc1,hb,hq6,hn6⟩:=hc4' hc
 obtain ⟨xN,eN,rfl,_,rfl,hx⟩:=hL.resolve_right fun h=>h.2.1 hc1
 obtain ⟨g,rfl,_,hg⟩:=qm hR hx
 obtain ⟨⟨sk,si,st,kd'⟩,hb⟩:=Option.ne_none_iff_exists'.1 hb
 have hbk:=IU hb
 obtain ⟨hR0,hR1⟩:=(hg _ _ _ _ hb).2.2 hq6 hn6
 rw [hb] at hK
 simp only [mD] at hK
 obtain ⟨rfl,rfl,rfl,rfl⟩:=hK
 obtain ⟨hc0,hp⟩:=zV hx
 have hat : Yh s a=xN:=by simp [Yh,hp]
 have htk:=aW hp
 have q4:=hF.q4
 have q6:=hF.q6
 have q9:=hF.q9
 have t4:=hS.t4
 have t6:=hS.t6
 have t9:=hS.t9
 have l4:=(List.getElem?_eq_some_iff.1 t4).1
 have l9:=(List.getElem?_eq_some_iff.1 t9).1
 have d49:=hS.d49
 have d46:=hS.d46
 have d69:=hS.d69
 have g9 : ∀ o,(υ.set (τ.length+1) o)[τ.length+1]?=some o:=fun o=>List.getElem?_set_self l9
 have g94 : ∀ o,(υ.set (τ.length+1) o)[σ.length]?=some (.own z5):=fun o=>by rw [List.getElem?_set_ne (Ne.symm d49)];exact t4
 have g96 : ∀ o,(υ.set (τ.length+1) o)[τ.length]?=some (.own [.int .i64 k,.int .i64 xN,.int .i64 e,.int .i64 i,.str t]):=fun o=>by rw [List.getElem?_set_ne (Ne.symm d69)];exact t6
 have hch1 : ∀ o,Ch (·=id) σ (υ.set (τ.length+1) o):=fun o=>hS.ch.rW (by have:=hS.n9;omega)
 have hid1 : ∀ o,(υ.set (τ.length+1) o)[id]?=some (.own (gZ s eN (n+1 : Nat) 0 0)):=fun o=>by rw [List.getElem?_set_ne (by have:=hS.n9;omega)];exact hid
 by_cases h0 : kd'=0
 ·obtain ⟨_,s1,s2,s3⟩:=hbk.resolve_right fun h=>by omega
  have q7 : ρ.get 7=.int .i64 sk:=by simpa [h0] using hF.q7
  have q8 : ρ.get 8=.str []:=by simpa [h0] using hF.q8
  have f4 : ∀ o p,((υ.set (τ.length+1) o).set σ.length p)[σ.length]?=some p:=fun o p=>List.getElem?_set_self (by simpa using l4)
  have f6 : ∀ o p,((υ.set (τ.length+1) o).set σ.length p)[τ.length]?=some (.own [.int .i64 k,.int .i64 xN,.int .i64 e,.int .i64 i,.str t]):=fun o p=>by rw [List.getElem?_set_ne d46];exact g96 o
  have f9 : ∀ o p,((υ.set (τ.length+1) o).set σ.length p)[τ.length+1]?=some o:=fun o p=>by rw [List.getElem?_set_ne d49];exact g9 o
  simp only [go_sem,seval,q4,q6,q7,q8,q9,t4,t6,t9,g9,g94,g96,f4,f6,f9,bne,beq_self_eq_true,Bool.not_true,SS]
  rw [hR0 h0]
  have hir:=Ah hb (tu hp)
  have hst : xt.length≤4000:=by
   rcases s3 with rfl | rfl
   ·simp
   ·omega
  exact ⟨.node sk xi xt [] [],_,.node .nil .nil .nil (by simp) (by simp) (by omega) (by omega) hir.1 hir.2,.node hir.1 hir.2 (by simp),.node hst (by simp) (by simp) (by simp) (by simp),aak (h0 ▸ hb) hq6 hn6,by rw [hat],by rw [List.getElem?_set_ne (by omega)];exact hid1 _,(hch1 _).rW (Nat.le_refl _)⟩
 obtain ⟨hkd,rfl,rfl,rfl⟩:=hbk.resolve_left fun h=>h0 h.1
 have q7 : ρ.get 7=.int .i64 kd':=by simpa [h0] using hF.q7
 have q8 : ρ.get 8=.str (dZ kd').cl:=by simpa [h0] using hF.q8
 have b8 : ((dZ kd').cl == [])=false:=by rcases hkd with rfl | rfl | rfl<;>rfl
 simp only [go_sem,seval,hF.q0,hF.q1,q4,q6,q7,q8,q9,t4,t6,t9,g9,g94,g96,b8,bne,Bool.not_false,SS]
 refine CV.mono (hP g rfl id s eN n q kd' R _ hkd (by omega) hs h1 hq6 hn6 (hid1 _) (hR1 h0)) ?_
 intro r τ' hX
 obtain ⟨X,cs,hT,rfl,hc2,hfin⟩ : ∃ X cs,rJ X cs∧r=.ret (.agg cs)∧Ch (·=id) (υ.set (τ.length+1) (.own [.int .i64 kd',.int .i64 0,.str [],.nils,.nils])) τ'∧∀ τ'',τ''[id]?=τ'[id]?→Ch (·=id) σ τ''→VlQ id s a n q σ R (.ret (.tup [.agg cs,.int .i64 xN])) τ'':=by
  cases R with
  | ok v e' n' =>
   obtain ⟨X,cs,hT,hO,hL,hm,rfl,e1,e2⟩:=hX
   exact ⟨X,cs,hT,rfl,e2,fun τ'' h1 h2=>⟨X,cs,hT,hO,hL,hm,by rw [hat],h1.trans e1,h2⟩⟩
  | er c p =>
   obtain ⟨hc,⟨X,cs,hT,rfl⟩,a',n',e1,e2⟩:=hX
   exact ⟨X,cs,hT,rfl,e2,fun τ'' h1 h2=>⟨hc,⟨X,cs,xN,hT,rfl⟩,a',n',h1.trans e1,h2⟩⟩
 obtain ⟨x1,x2,x3⟩:=hT.cells
 have x4 : cs.take 5=cs:=List.take_of_length_le (by omega)
 have u9:=hc2.get (g9 _) (by have:=hS.n9;omega)
 have u4:=hc2.get (g94 _) (by omega)
 have u6:=hc2.get (g96 _) (by omega)
 have m9:=(List.getElem?_eq_some_iff.1 u9).1
 have m4:=(List.getElem?_eq_some_iff.1 u4).1
 have v9 : ∀ o,(τ'.set (τ.length+1) o)[τ.length+1]?=some o:=fun o=>List.getElem?_set_self m9
 have v4 : ∀ o,(τ'.set (τ.length+1) o)[σ.length]?=some (.own z5):=fun o=>by rw [List.getElem?_set_ne (Ne.symm d49)];exact u4
 have v6 : ∀ o,(τ'.set (τ.length+1) o)[τ.length]?=some (.own [.int .i64 k,.int .i64 xN,.int .i64 e,.int .i64 i,.str t]):=fun o=>by rw [List.getElem?_set_ne (Ne.symm d69)];exact u6
 have f4 : ∀ o p,((τ'.set (τ.length+1) o).set σ.length p)[σ.length]?=some p:=fun o p=>List.getElem?_set_self (by simpa using m4)
 have f6 : ∀ o p,((τ'.set (τ.length+1) o).set σ.length p)[τ.length]?=some (.own [.int .i64 k,.int .i64 xN,.int .i64 e,.int .i64 i,.str t]):=fun o p=>by rw [List.getElem?_set_ne d46];exact v6 o
 have f9 : ∀ o p,((τ'.set (τ.length+1) o).set σ.length p)[τ.length+1]?=some o:=fun o p=>by rw [List.getElem?_set_ne d49];exact v9 o
 simp only [go_sem,seval,aO,q4,q6,q9,u4,u6,u9,x1,x3,x4,v9,v4,v6,f4,f6,f9,SS]
 exact hfin _ (by rw [List.getElem?_set_ne (by omega),List.getElem?_set_ne (by have:=hS.n9;omega)]) (((hch1 _).trans hc2).rW (by have:=hS.n9;omega) |>.rW (Nat.le_refl _))
end Go.V
namespace Go.V
open Go.Proofs
set_option maxRecDepth 100000
def ny : VV→Option Nat
 | .dP id _ _ _=>some id
 | _=>none
theorem jI.at {k : Nat} {σ σ' : Store} {v : VV} {xs : List (List VV)} (h : jI k σ v xs) (hs : ∀ i,ny v=some i→σ'[i]?=σ[i]?) : jI k σ' v xs:=h.keep fun id o n z e=>hs id (by rw [e];rfl)
theorem jI.lt {k : Nat} {σ : Store} {v : VV} {xs : List (List VV)} (h : jI k σ v xs) {i : Nat} (e : ny v=some i) : i < σ.length:=by
 cases v<;>simp [ny] at e
 subst e;exact h.dom rfl
theorem Kept.at {σ σ' : Store} {w : VV} (h : Kept σ w σ') {j : Nat} (hj : j < σ.length) (hn : ny w≠some j) : σ'[j]?=σ[j]?:=h.2 j hj fun o n z e=>hn (by rw [e];rfl)
theorem uN.le {σ : Store} {v : VV} (h : uN σ v) {i : Nat} (e : ny v=some i) : σ.length≤i:=by
 cases v<;>simp [ny] at e
 subst e;exact h _ _ _ _ rfl
structure PS (id k8 k9 : Nat) (kd : Int) (ks seen : List Bs) (cs : List (List VV)) (kv sv iv : VV) (σ υ : Store) : Prop where
 t8 : υ[k8]?=some (.own z5)
 t9 : υ[k9]?=some (.own [.int .i64 kd,.int .i64 0,.str [],kv,iv])
 gk : jI 1 υ kv (strs ks)
 gs : jI 1 υ sv (strs seen)
 gi : jI 5 υ iv cs
 nk : ks=[]→kv=.nils
 ni : cs=[]→iv=.nils
 n8 : σ.length≤k8
 n9 : k8 < k9
 dk : ∀ i,ny kv=some i→k9 < i∧ny sv≠some i∧ny iv≠some i
 ds : ∀ i,ny sv=some i→k9 < i∧ny iv≠some i
 di : ∀ i,ny iv=some i→k9 < i
 ch : Ch (·=id) σ υ
section
variable {id k8 k9 : Nat} {kd : Int} {ks seen : List Bs} {cs : List (List VV)} {kv sv iv : VV} {σ υ : Store}
theorem PS.next (h : PS id k8 k9 kd ks seen cs kv sv iv σ υ) (hl : id < σ.length) {υ' : Store} (hc : Ch (·=id) υ υ') : PS id k8 k9 kd ks seen cs kv sv iv σ υ':=by
 have h8:=h.n8
 have h9:=h.n9
 exact ⟨hc.get h.t8 (by omega),hc.get h.t9 (by omega),h.gk.at fun i e=>hc.same i (h.gk.lt e) (by have:=(h.dk i e).1;omega),h.gs.at fun i e=>hc.same i (h.gs.lt e) (by have:=(h.ds i e).1;omega),h.gi.at fun i e=>hc.same i (h.gi.lt e) (by have:=h.di i e;omega),h.nk,h.ni,h8,h9,h.dk,h.ds,h.di,h.ch.trans hc⟩
theorem PS.snoc (h : PS id k8 k9 kd ks seen cs kv sv iv σ υ) (hl : id < σ.length) (τ : Store) : PS id k8 k9 kd ks seen cs kv sv iv σ (υ++τ):=h.next hl (Ch.snoc _ _ _)
theorem PS.YQ (h : PS id k8 k9 kd ks seen cs kv sv iv σ υ) {υ' : Store} {v' : VV} {k : Bs} (g : jI 1 υ' v' (strs seen++[[.str k]])) (K : Kept υ sv υ') (N : uN υ v') : PS id k8 k9 kd ks (seen++[k]) cs kv v' iv σ υ':=by
 have l8:=(List.getElem?_eq_some_iff.1 h.t8).1
 have l9:=(List.getElem?_eq_some_iff.1 h.t9).1
 have h8:=h.n8
 have h9:=h.n9
 refine ⟨(K.at l8 fun e=>?_).trans h.t8,(K.at l9 fun e=>?_).trans h.t9,h.gk.at fun i e=>K.at (h.gk.lt e) (h.dk i e).2.1,by simpa [strs] using g,h.gi.at fun i e=>K.at (h.gi.lt e) (fun e'=>(h.ds i e').2 e),h.nk,h.ni,h8,h9,fun i e=>⟨(h.dk i e).1,fun e'=>?_,(h.dk i e).2.2⟩,fun i e=>⟨?_,fun e'=>?_⟩,h.di,⟨Nat.le_trans h.ch.len K.1,fun j hj hn=>?_⟩⟩
 ·have:=(h.ds _ e).1;omega
 ·have:=(h.ds _ e).1;omega
 ·have:=h.gk.lt e;have:=N.le e';omega
 ·have:=N.le e;omega
 ·have:=h.gi.lt e';have:=N.le e;omega
 ·have:=h.ch.len
  exact (K.at (by omega) (fun e=>by have:=(h.ds _ e).1;omega)).trans (h.ch.same j hj hn)
theorem PS.uJ (h : PS id k8 k9 kd ks seen cs kv sv iv σ υ) {υ' : Store} {v' : VV} {k : Bs} (g : jI 1 υ' v' (strs ks++[[.str k]])) (K : Kept υ kv υ') (N : uN υ v') : PS id k8 k9 kd (ks++[k]) seen cs v' sv iv σ (υ'.set k9 (.own [.int .i64 kd,.int .i64 0,.str [],v',iv])):=by
 have l8:=(List.getElem?_eq_some_iff.1 h.t8).1
 have l9:=(List.getElem?_eq_some_iff.1 h.t9).1
 have h8:=h.n8
 have h9:=h.n9
 have hk:=K.1
 have st : ∀ j,j≠k9→(υ'.set k9 (.own [.int .i64 kd,.int .i64 0,.str [],v',iv]))[j]?=υ'[j]?:=fun j hj=>List.getElem?_set_ne (Ne.symm hj)
 refine ⟨((st _ (by omega)).trans (K.at l8 fun e=>?_)).trans h.t8,List.getElem?_set_self (by omega),(show jI 1 υ' v' (strs (ks++[k])) by simpa [strs] using g).at fun i e=>st i (by have:=N.le e;omega),h.gs.at fun i e=>(st i (by have:=(h.ds i e).1;omega)).trans (K.at (h.gs.lt e) fun e'=>(h.dk i e').2.1 e),h.gi.at fun i e=>(st i (by have:=h.di i e;omega)).trans (K.at (h.gi.lt e) fun e'=>(h.dk i e').2.2 e),by simp,h.ni,h8,h9,fun i e=>⟨?_,fun e'=>?_,fun e'=>?_⟩,h.ds,h.di,⟨by have:=h.ch.len;simp;omega,fun j hj hn=>?_⟩⟩
 ·have:=(h.dk _ e).1;omega
 ·have:=N.le e;omega
 ·have:=h.gs.lt e';have:=N.le e;omega
 ·have:=h.gi.lt e';have:=N.le e;omega
 ·have:=h.ch.len
  exact ((st j (by omega)).trans (K.at (by omega) (fun e=>by have:=(h.dk _ e).1;omega))).trans (h.ch.same j hj hn)
theorem PS.aa4 (h : PS id k8 k9 kd ks seen cs kv sv iv σ υ) {υ' : Store} {v' : VV} {c : List VV} (g : jI 5 υ' v' (cs++[c])) (K : Kept υ iv υ') (N : uN υ v') : PS id k8 k9 kd ks seen (cs++[c]) kv sv v' σ (υ'.set k9 (.own [.int .i64 kd,.int .i64 0,.str [],kv,v'])):=by
 have l8:=(List.getElem?_eq_some_iff.1 h.t8).1
 have l9:=(List.getElem?_eq_some_iff.1 h.t9).1
 have h8:=h.n8
 have h9:=h.n9
 have hk:=K.1
 have st : ∀ j,j≠k9→(υ'.set k9 (.own [.int .i64 kd,.int .i64 0,.str [],kv,v']))[j]?=υ'[j]?:=fun j hj=>List.getElem?_set_ne (Ne.symm hj)
 refine ⟨((st _ (by omega)).trans (K.at l8 fun e=>?_)).trans h.t8,List.getElem?_set_self (by omega),h.gk.at fun i e=>(st i (by have:=(h.dk i e).1;omega)).trans (K.at (h.gk.lt e) (h.dk i e).2.2),h.gs.at fun i e=>(st i (by have:=(h.ds i e).1;omega)).trans (K.at (h.gs.lt e) (h.ds i e).2),g.at fun i e=>st i (by have:=N.le e;omega),h.nk,by simp,h8,h9,fun i e=>⟨(h.dk i e).1,(h.dk i e).2.1,fun e'=>?_⟩,fun i e=>⟨(h.ds i e).1,fun e'=>?_⟩,fun i e=>?_,⟨by have:=h.ch.len;simp;omega,fun j hj hn=>?_⟩⟩
 ·have:=h.di _ e;omega
 ·have:=h.gk.lt e;have:=N.le e';omega
 ·have:=h.gs.lt e;have:=N.le e';omega
 ·have:=N.le e;omega
 ·have:=h.ch.len
  exact ((st j (by omega)).trans (K.at (by omega) (fun e=>by have:=h.di _ e;omega))).trans (h.ch.same j hj hn)
end
theorem jq.app {x : Tr} {c : List VV} (hx : rJ x c) : ∀ {l : List Tr} {cs : List (List VV)},jq l cs→jq (l++[x]) (cs++[c])
 | [],_,.nil=>.cons hx .nil
 | _::_,_::_,.cons h1 h2=>.cons h1 (jq.app hx h2)
theorem PY {υ : Store} {k id : Nat} {xs : List (List VV)} (hB : dS k xs) (h : υ[id]?=some (.kL xs.flatten)) (hne : xs≠[]) (m : Nat) : fz (m+1) υ (.dP id 0 xs.length k)=some (kL xs):=by
 unfold kL
 rw [if_neg hne]
 exact qj h hB rfl
theorem Qi {k : Nat} {υ : Store} {v : VV} {xs : List (List VV)} (h : jI k υ v xs) (hn : xs=[]→v=.nils) : (v=.nils∧xs=[])∨∃ id,v=.dP id 0 xs.length k∧xs≠[]∧dS k xs∧υ[id]?=some (.own xs.flatten):=by
 cases h with
 | nil=>exact .inl ⟨rfl,rfl⟩
 | emp=>cases hn rfl
 | own hB hid=>exact .inr ⟨_,rfl,fun e=>(by subst e;cases hn rfl),hB,hid⟩
theorem RI {f : FuncId} {xs : List VV} {σ : Store} {R0 R' : dX→Store→Prop} (h : CV Tryz.prog G0 f xs σ R0)
  (hr : ∀ r υ,R0 r υ→∃ (kd : Int) (ks : List Bs) (cs : List (List VV)) (kv iv : VV),r=.ret (.agg [.int .i64 kd,.int .i64 0,.str [],kv,iv])∧jI 1 υ kv (strs ks)∧jI 5 υ iv cs∧(ks=[]→kv=.nils)∧(cs=[]→iv=.nils)∧(∀ i,ny kv=some i→ny iv≠some i) ∧
   ∀ υ',υ'.length=υ.length→(∀ j,ny kv≠some j→ny iv≠some j→υ'[j]?=υ[j]?)→R' (.ret (.agg [.int .i64 kd,.int .i64 0,.str [],kL (strs ks),kL cs])) υ') : CV Tryz.prog G0 f xs σ R':=by
 have s1:=xW (R':=fun r υ=>∃ (kd : Int) (x : VV) (cs : List (List VV)) (kv iv : VV),r=.ret (.agg [.int .i64 kd,.int .i64 0,.str [],kv,iv])∧(∀ υ',(∀ j,ny kv=some j→υ'[j]?=υ[j]?)→fz 1 υ' kv=some x)∧jI 5 υ iv cs∧(cs=[]→iv=.nils)∧(∀ i,ny kv=some i→ny iv≠some i) ∧
   ∀ υ',υ'.length=υ.length→(∀ j,ny kv≠some j→ny iv≠some j→υ'[j]?=υ[j]?)→R' (.ret (.agg [.int .i64 kd,.int .i64 0,.str [],x,kL cs])) υ') h fun r υ hR=>by
  obtain ⟨kd,ks,cs,kv,iv,rfl,gk,gi,nk,ni,d,hk⟩:=hr r υ hR
  rcases Qi gk (fun e=>nk (by simpa [strs] using e)) with ⟨rfl,e⟩ | ⟨i,rfl,hne,hB,hid⟩
  ·exact .inl ⟨kd,_,cs,_,iv,rfl,fun υ' _=>by rw [kP (by rfl)],gi,ni,d,by rw [e] at hk;exact hk⟩
  ·refine .inr ⟨i,_,hid,kd,_,cs,_,iv,rfl,fun υ' h'=>PY hB ?_ hne 0,gi.at fun j e=>?_,ni,d,fun υ' hl h'=>hk υ' (by simpa using hl) fun j h1 h2=>?_⟩
   ·rw [h' i rfl,List.getElem?_set_self (List.getElem?_eq_some_iff.1 hid).1]
   ·rw [List.getElem?_set_ne];rintro rfl;exact d _ rfl e
   ·rw [h' j h1 h2,List.getElem?_set_ne];rintro rfl;exact h1 rfl
 have s2:=xW (R':=fun r υ=>∃ (kd : Int) (x y kv iv : VV),r=.ret (.agg [.int .i64 kd,.int .i64 0,.str [],kv,iv])∧fz 1 υ kv=some x∧fz 1 υ iv=some y∧R' (.ret (.agg [.int .i64 kd,.int .i64 0,.str [],x,y])) υ) s1 fun r υ hR=>by
  obtain ⟨kd,x,cs,kv,iv,rfl,hx,gi,ni,d,hk⟩:=hR
  rcases Qi gi ni with ⟨rfl,e⟩ | ⟨i,rfl,hne,hB,hid⟩
  ·exact .inl ⟨kd,x,_,kv,_,rfl,hx υ fun _ _=>rfl,by rw [kP (by rfl)],by subst e;exact hk υ rfl fun _ _ _=>rfl⟩
  ·refine .inr ⟨i,_,hid,kd,x,_,kv,_,rfl,hx _ fun j e=>?_,PY hB ?_ hne 0,hk _ (by simp) fun j h1 h2=>?_⟩
   ·rw [List.getElem?_set_ne];rintro rfl;exact d _ e rfl
   ·rw [List.getElem?_set_self (List.getElem?_eq_some_iff.1 hid).1]
   ·rw [List.getElem?_set_ne];rintro rfl;exact h2 rfl
 refine Qd s2 fun r υ hR=>.inr ?_
 obtain ⟨kd,x,y,kv,iv,rfl,hx,hy,hk⟩:=hR
 refine ⟨_,_,2,rfl,KR ?_,hk⟩
 have e0 : ∀ z : VV,z.isPure=true→fz 1 υ z=some z:=fun z h=>kP h
 simp only [List.mapM_cons,List.mapM_nil,hx,hy,e0 (.int .i64 kd) rfl,e0 (.int .i64 0) rfl,e0 (.str []) rfl]
 rfl
end Go.V
