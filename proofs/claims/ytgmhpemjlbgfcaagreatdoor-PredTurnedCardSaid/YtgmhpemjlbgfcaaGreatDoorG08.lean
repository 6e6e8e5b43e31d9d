/- Texts V17 V18 V19. -/
import Derived.Test.YtgmhpemjlbgfcaaGreatDoorG07
set_option linter.unusedVariables false
set_option linter.unusedSimpArgs false
namespace Go.V
variable {P : Program} {G : Nat→Option (List VV)}
structure Inv (P : Program) (G : Nat→Option (List VV)) (ops : Array Oper) (ds : List DO) (Q : Out→Env→Store→Prop) (B : Nat→Prop) (N : Nat) (w₀ : World) (σ₀ : Store) (μ₀ : List Loc) (ρ₀ : Env) (ds₀ : List Deferred)
  (T : List (DO × VV)) (rest : List DO) (pend : List (Nat × Op × TypeId × Env × VV)) (σ : Store) (μ : List Loc) (ρS : Env) (listed : Array Bool) (a : Act) (w : World) : Prop where
 all : T.map Prod.fst++rest=ds
 size : listed.size=ops.size
 effs : ∀ r ∈ T,r.1.eff=true→listed.getD r.1.ix false=true
 un : ∀ d ∈ rest,listed.getD d.ix false=false
 closed : Closed ops.toList (fun i=>listed.getD i false=true)
 st : ST G B N w σ μ ρS a
 fr : Frame w₀ σ₀ μ₀ w σ μ
 df : a.defers=ds₀
 env1 : ∀ r ∈ T,listed.getD r.1.ix false=true→∀ t,r.1.dst=some t→ρS.get t=r.2
 env2 : ∀ t,(∀ r ∈ T,listed.getD r.1.ix false=true→r.1.dst≠some t)→ρS.get t=ρ₀.get t
 views : ∀ T₁ r T₂,T=T₁++r::T₂→listed.getD r.1.ix false=false→(gX (bg ρ₀ T₁) r.1.g=some false∧r.2=.tup [])∨(gX (bg ρ₀ T₁) r.1.g=some true∧fE P G r.1.op r.1.ty (bg ρ₀ T₁) σ (fun v=>v=r.2))
 pd : ∀ T₁ r T₂,T=T₁++r::T₂→listed.getD r.1.ix false=false→gX (bg ρ₀ T₁) r.1.g=some true→r.1.save=true→(r.1.ix,r.1.op,r.1.ty,bg ρ₀ T₁,r.2) ∈ pend
 res : aV P G rest pend Q (bg ρ₀ T) σ
theorem nY {α : Type} {T T₁ T₂ : List α} {x r : α} (h : T++[x]=T₁++r::T₂) : (T₂=[]∧T=T₁∧x=r)∨∃ T₂',T₂=T₂'++[x]∧T=T₁++r::T₂':=by
 rcases List.eq_nil_or_concat T₂ with rfl | ⟨T',y,rfl⟩
 ·have:=List.append_inj' (s₁:=T) (t₁:=[x]) (s₂:=T₁) (t₂:=[r]) (by simpa using h) rfl
  exact .inl ⟨rfl,this.1,by simpa using this.2⟩
 ·have h' : T++[x]=(T₁++r::T')++[y]:=by simpa using h
  have:=List.append_inj' h' rfl
  have e : x=y:=by simpa using this.2
  subst e
  exact .inr ⟨T',by simp,this.1⟩
variable {ops : Array Oper} {ds : List DO} {Q : Out→Env→Store→Prop} {B : Nat→Prop} {N : Nat} {w₀ : World} {σ₀ : Store} {μ₀ : List Loc} {ρ₀ : Env} {ds₀ : List Deferred}
theorem Inv.peel {T : List (DO × VV)} {d : DO} {rest : List DO} {pend : List (Nat × Op × TypeId × Env × VV)} {σ : Store} {μ : List Loc} {ρS : Env} {listed : Array Bool} {a : Act} {w : World}
  (h : Inv P G ops ds Q B N w₀ σ₀ μ₀ ρ₀ ds₀ T (d::rest) pend σ μ ρS listed a w) (hv : d.eff=false) :
  ∃ v pend',Inv P G ops ds Q B N w₀ σ₀ μ₀ ρ₀ ds₀ (T++[(d,v)]) rest pend' σ μ ρS listed a w:=by
 have hun:=h.un d (by simp)
 have hres:=h.res
 have mk : ∀ v pend',(∀ x,x ∈ pend→x ∈ pend') →
   ((gX (bg ρ₀ T) d.g=some false∧v=.tup [])∨(gX (bg ρ₀ T) d.g=some true∧fE P G d.op d.ty (bg ρ₀ T) σ (fun u=>u=v))) →
   (gX (bg ρ₀ T) d.g=some true→d.save=true→(d.ix,d.op,d.ty,bg ρ₀ T,v) ∈ pend')→aV P G rest pend' Q (dB (bg ρ₀ T) d.dst v) σ →
   Inv P G ops ds Q B N w₀ σ₀ μ₀ ρ₀ ds₀ (T++[(d,v)]) rest pend' σ μ ρS listed a w:=by
  intro v pend' hp hvw hpd hr
  refine ⟨by rw [← h.all];simp,h.size,fun r hr he=>?_,fun x hx=>h.un x (by simp [hx]),h.closed,h.st,h.fr,h.df,fun r hr hl=>?_,fun t ht=>h.env2 t fun r hr=>ht r (by simp [hr]),fun T₁ r T₂ e hl=>?_,fun T₁ r T₂ e hl hw hs=>?_, ?_⟩
  ·rcases List.mem_append.1 hr with hr | hr
   ·exact h.effs r hr he
   ·simp at hr;subst hr;simp [hv] at he
  ·rcases List.mem_append.1 hr with hr | hr
   ·exact h.env1 r hr hl
   ·simp at hr;subst hr;simp [hun] at hl
  ·rcases nY e with ⟨_,rfl,rfl⟩ | ⟨T₂',_,e⟩
   ·exact hvw
   ·exact h.views T₁ r T₂' e hl
  ·rcases nY e with ⟨_,rfl,rfl⟩ | ⟨T₂',_,e⟩
   ·exact hpd hw hs
   ·exact hp _ (h.pd T₁ r T₂' e hl hw hs)
  ·rw [jU];exact hr
 simp only [aV] at hres
 split at hres
 ·rename_i hw
  exact ⟨.tup [],pend,mk _ _ (fun _ h=>h) (.inl ⟨hw,rfl⟩) (fun h=>by simp [hw] at h) hres⟩
 ·exact hres.elim
 ·rename_i hw
  simp only [hv,Bool.false_eq_true,if_false] at hres
  obtain ⟨v,hr,hvk⟩:=ND hres
  exact ⟨v,_,mk v _ (fun x hx=>by split<;>simp [hx]) (.inr ⟨hw,hvk⟩) (fun _ hs=>by simp [hs]) hr⟩
theorem bJ {l : Array Bool} {i : Nat} : l.getD i true=false↔i < l.size∧l.getD i false=false:=by
 rw [Array.getD_eq_getD_getElem?,Array.getD_eq_getD_getElem?]
 by_cases h : i < l.size<;>simp [h]
theorem aZ {l : Array Bool} {i j : Nat} (hi : i < l.size) : (l.setIfInBounds i true).getD j false=if i=j then true else l.getD j false:=by
 rw [Array.getD_eq_getD_getElem?,Array.getD_eq_getD_getElem?,Array.getElem?_setIfInBounds]
 by_cases h : i=j
 ·subst h;simp [hi]
 ·simp [h]
structure Plan (ops : Array Oper) (N : Nat) (ds : List DO) : Prop where
 fits : ∀ d ∈ ds,Fits ops d
 rel : pw (ahead (oq ops.toList [])) ds=true
 cover : ∀ i,i < ops.size→∃ d ∈ ds,d.ix=i
 lt : ∀ d ∈ ds,d.ix < ops.size
 dst : ∀ d ∈ ds,∀ t,d.dst=some t→t < N
 grd : ∀ d ∈ ds,∀ t b,d.g=some (t,b)→t < N
 edge : ∀ (i : Nat) (o : Oper),ops[i]?=some o→∀ e ∈ o.after.toList,Region.binds .any e=true→e.on < ops.size∧e.on≠i
 len : ds.length≤ops.size
theorem Plan.jM {N : Nat} (h : Plan ops N ds) {l₁ : List DO} {p : DO} {l₂ : List DO} {q : DO} {l₃ : List DO} (e : ds=l₁++p::l₂++q::l₃) : ahead (oq ops.toList []) p q=true:=Em (e ▸ h.rel)
theorem oO {S : Nat→Prop} (hc : Closed ops.toList S) {i j : Nat} (hi : S i) (hb : ((oq ops.toList []).getD i 0).testBit j=true) : S j :=
 wQ ops.toList [] [] (by simpa using hc) rfl (fun i j _ h=>by simp at h) i j hi hb
theorem kZ {listed : Array Bool} (hc : Closed ops.toList (fun i=>listed.getD i false=true)) {i j : Nat} (hr : i ∈ Region.ready .any ops listed) (hb : ((oq ops.toList []).getD i 0).testBit j=true) (hij : j≠i) : listed.getD j false=true:=by
 obtain ⟨hun,o,ho,hall⟩:=mem_ready.1 hr
 have hi : i < listed.size:=(bJ.1 hun).1
 have hc' : Closed ops.toList (fun k=>(listed.setIfInBounds i true).getD k false=true):=by
  intro k o' ho' hk e he hbi
  simp only [aZ hi] at hk ⊢
  split
  ·rfl
  ·split at hk
   ·rename_i hik;subst hik
    rw [Array.getElem?_toList] at ho'
    rw [ho] at ho';cases ho'
    exact hall e (by simpa using he) hbi
   ·exact hc k o' ho' hk e he hbi
 have:=oO (S:=fun k=>(listed.setIfInBounds i true).getD k false=true) hc' (by simp [aZ hi]) hb
 simp only [aZ hi] at this
 rw [if_neg (Ne.symm hij)] at this
 exact this
theorem Inv.agree {T₁ : List (DO × VV)} {d : DO} {T₂ : List (DO × VV)} {rest : List DO} {T : List (DO × VV)} {pend : List (Nat × Op × TypeId × Env × VV)} {σ : Store} {μ : List Loc} {ρS : Env} {listed : Array Bool} {a : Act} {w : World}
  (h : Inv P G ops ds Q B N w₀ σ₀ μ₀ ρ₀ ds₀ T rest pend σ μ ρS listed a w) (hp : Plan ops N ds) {tl : List DO} (hds : ds=T₁.map Prod.fst++d::(T₂.map Prod.fst++tl)) (hT : ∀ r,r ∈ T↔(r ∈ T₁∨r ∈ T₂∨(r ∈ T∧r.1=d)))
  (hT₁ : ∀ r ∈ T₁,r ∈ T)
  (hr : d.ix ∈ Region.ready .any ops listed) {t : Nat} (ht : t ∈ d.looks) : ρS.get t=(bg ρ₀ T₁).get t:=by
 have hun : listed.getD d.ix false=false:=(bJ.1 (mem_ready.1 hr).1).2
 have rel1 : ∀ r ∈ T₁,ahead (oq ops.toList []) r.1 d=true:=by
  intro r hr
  obtain ⟨A,C,rfl⟩:=List.append_of_mem hr
  exact hp.jM (l₁:=A.map Prod.fst) (l₂:=C.map Prod.fst) (l₃:=T₂.map Prod.fst++tl) (by rw [hds];simp)
 have rel2 : ∀ r ∈ T₂,ahead (oq ops.toList []) d r.1=true:=by
  intro r hr
  obtain ⟨A,C,rfl⟩:=List.append_of_mem hr
  exact hp.jM (l₁:=T₁.map Prod.fst) (l₂:=A.map Prod.fst) (l₃:=C.map Prod.fst++tl) (by rw [hds];simp)
 have rel11 : ∀ A r C,T₁=A++r::C→∀ r' ∈ C,ahead (oq ops.toList []) r.1 r'.1=true:=by
  intro A r C e r' hr'
  obtain ⟨C₁,C₂,rfl⟩:=List.append_of_mem hr'
  exact hp.jM (l₁:=A.map Prod.fst) (l₂:=C₁.map Prod.fst) (l₃:=C₂.map Prod.fst++d::(T₂.map Prod.fst++tl)) (by rw [hds,e];simp)
 by_cases hex : ∃ r ∈ T₁,r.1.dst=some t
 ·obtain ⟨r,hrT,hdst⟩:=hex
  have hl : listed.getD r.1.ix false=true:=by
   have:=rel1 r hrT
   simp only [ahead,Bool.and_eq_true,bne_iff_ne,hdst,Bool.or_eq_true,Bool.not_eq_true'] at this
   have h6:=this.1.2.2
   rcases h6 with h6 | h6
   ·simp [ht] at h6
   ·exact kZ h.closed hr h6 this.1.1.1.1.1
  rw [h.env1 r (hT₁ r hrT) hl t hdst]
  obtain ⟨A,C,e⟩:=List.append_of_mem hrT
  rw [e,rX hdst]
  intro r' hr' hd'
  have:=rel11 A r C e r' hr'
  simp only [ahead,Bool.and_eq_true,hdst,hd'] at this
  simp at this
 ·have hno : ∀ r ∈ T₁,r.1.dst≠some t:=fun r hr e=>hex ⟨r,hr,e⟩
  rw [jS hno]
  refine h.env2 t fun r hrT hl hdst=>?_
  rcases (hT r).1 hrT with h1 | h1 | ⟨_,h1⟩
  ·exact hno r h1 hdst
  ·have:=rel2 r h1
   simp only [ahead,Bool.and_eq_true,hdst,Bool.or_eq_true,Bool.not_eq_true'] at this
   rcases this.2 with h6 | h6
   ·simp [ht] at h6
   ·have:=oO h.closed (S:=fun i=>listed.getD i false=true) hl h6
    rw [hun] at this;cases this
  ·rw [h1] at hl;rw [hun] at hl;cases hl
theorem yt {ρ ρ' : Env} {d : DO} (h : ∀ t ∈ d.looks,ρ.get t=ρ'.get t) : Same G ρ ρ' d.op∧gX ρ d.g=gX ρ' d.g:=by
 constructor
 ·intro x hx
  cases x with
  | tmp t =>
   refine h t ?_
   simp only [DO.looks,Ox,List.mem_append,List.mem_filterMap]
   exact .inl ⟨.tmp t,by simpa using hx,rfl⟩
  | _=>rfl
 ·unfold gX
  split
  ·rfl
  ·rename_i t b hg
   rw [h t (by simp [DO.looks,hg])]
theorem pX {N : Nat} {d : DO} {o : Oper} (hgt : nI ops o.guard=some d.g) (hlt : ∀ t b,d.g=some (t,b)→t < N) :
  (o.guard.map fun (j,b)=>(((ops[j]?).bind (·.dst)).getD N,b))=d.g∧∀ j b,o.guard=some (j,b)→∃ t,(ops[j]?).bind (·.dst)=some t∧t < N:=by
 cases hg : o.guard with
 | none=>rw [hg] at hgt;simp [nI] at hgt;exact ⟨by rw [← hgt];rfl,fun j b h=>by cases h⟩
 | some jb =>
  obtain ⟨j,b⟩:=jb
  rw [hg] at hgt
  simp only [nI,Option.map_eq_some_iff] at hgt
  obtain ⟨t,ht,hgt⟩:=hgt
  refine ⟨by simp [ht,hgt],fun j' b' h=>?_⟩
  cases h
  exact ⟨t,ht,hlt t b hgt.symm⟩
theorem zJ {listed : Array Bool} {i : Nat} (hc : Closed ops.toList (fun i=>listed.getD i false=true)) (hr : i ∈ Region.ready .any ops listed) :
  Closed ops.toList (fun k=>(listed.setIfInBounds i true).getD k false=true):=by
 obtain ⟨hun,o,ho,hall⟩:=mem_ready.1 hr
 have hi : i < listed.size:=(bJ.1 hun).1
 intro k o' ho' hk e he hbi
 simp only [aZ hi] at hk ⊢
 split
 ·rfl
 ·split at hk
  ·rename_i hik;subst hik
   rw [Array.getElem?_toList] at ho'
   rw [ho] at ho';cases ho'
   exact hall e (by simpa using he) hbi
  ·exact hc k o' ho' hk e he hbi
theorem ST.next {w : World} {σ : Store} {μ : List Loc} {ρ : Env} {a : Act} (h : ST G B N w σ μ ρ a) {w' : World} {σ' : Store} {μ' : List Loc} (hF : Frame w σ μ w' σ' μ') (hS : SR B w' σ' μ') {x : VV} {v : Value}
  (hx : VR w' (OO B σ' μ') μ' x v) {d : Option Nat} (hd : ∀ t,d=some t→t < N) : ST G B N w' σ' μ' (dB ρ d x) (a.put d v):=by
 refine ⟨hS,h.gl.ext hF.ext,(h.env.ext hF.ext).put hx d (fun t ht=>by rw [h.size];exact hd t ht), ?_⟩
 cases d with
 | none=>exact h.size
 | some d=>simp [Act.put,h.size]
theorem put_defers {a : Act} {d : Option Nat} {v : Value} : (a.put d v).defers=a.defers:=by cases d<;>rfl
end Go.V
namespace Go.V
variable {fl : Bool}
variable {P : Program} {G : Nat→Option (List VV)}
variable {ops : Array Oper} {ds : List DO} {Q : Out→Env→Store→Prop} {B : Nat→Prop} {N : Nat} {w₀ : World} {σ₀ : Store} {μ₀ : List Loc} {ρ₀ : Env} {ds₀ : List Deferred}
theorem kF {bm : List Nat} {p q : DO} (h : ahead bm p q=true) : p.ix≠q.ix:=by
 simp only [ahead,Bool.and_eq_true,bne_iff_ne] at h
 exact h.1.1.1.1.1
theorem rE {bm : List Nat} {p q : DO} (h : ahead bm p q=true) {t : Nat} (hp : p.dst=some t) : q.dst≠some t:=by
 simp only [ahead,Bool.and_eq_true,hp,bne_iff_ne] at h
 exact h.1.2.1
theorem Inv.done {T₁ T₂ : List (DO × VV)} {d : DO} {v : VV} {rest : List DO} {pend : List (Nat × Op × TypeId × Env × VV)} {σ : Store} {μ : List Loc} {ρS : Env} {listed : Array Bool} {a : Act} {w : World}
  (h : Inv P G ops ds Q B N w₀ σ₀ μ₀ ρ₀ ds₀ (T₁++(d,v)::T₂) rest pend σ μ ρS listed a w) (hp : Plan ops N ds) (hr : d.ix ∈ Region.ready .any ops listed)
  {w' : World} {μ' : List Loc} {a' : Act} (hF : Frame w σ μ w' σ μ') (hS : ST G B N w' σ μ' (dB ρS d.dst v) a') (hdf : a'.defers=a.defers) :
  Inv P G ops ds Q B N w₀ σ₀ μ₀ ρ₀ ds₀ (T₁++(d,v)::T₂) rest pend σ μ' (dB ρS d.dst v) (listed.setIfInBounds d.ix true) a' w':=by
 have hi : d.ix < listed.size:=(bJ.1 (mem_ready.1 hr).1).1
 have hun : listed.getD d.ix false=false:=(bJ.1 (mem_ready.1 hr).1).2
 have hall:=h.all
 simp only [List.map_append,List.map_cons] at hall
 have rest_ne : ∀ q ∈ rest,d.ix≠q.ix:=by
  intro q hq
  obtain ⟨A,C,rfl⟩:=List.append_of_mem hq
  exact kF (hp.jM (l₁:=T₁.map Prod.fst) (l₂:=T₂.map Prod.fst++A) (l₃:=C) (by rw [← hall];simp))
 have T_ne : ∀ r ∈ T₁++(d,v)::T₂,r=(d,v)∨(d.ix≠r.1.ix∧(∀ t,d.dst=some t→r.1.dst≠some t)):=by
  intro r hr
  rcases List.mem_append.1 hr with hr | hr
  ·obtain ⟨A,C,rfl⟩:=List.append_of_mem hr
   have:=hp.jM (l₁:=A.map Prod.fst) (p:=r.1) (l₂:=C.map Prod.fst) (q:=d) (l₃:=T₂.map Prod.fst++rest) (by rw [← hall];simp)
   exact .inr ⟨(kF this).symm,fun t ht hrt=>rE this hrt ht⟩
  ·rcases List.mem_cons.1 hr with hr | hr
   ·exact .inl hr
   ·obtain ⟨A,C,rfl⟩:=List.append_of_mem hr
    have:=hp.jM (l₁:=T₁.map Prod.fst) (p:=d) (l₂:=A.map Prod.fst) (q:=r.1) (l₃:=C.map Prod.fst++rest) (by rw [← hall];simp)
    exact .inr ⟨kF this,fun t ht=>rE this ht⟩
 refine ⟨h.all,by simp [h.size],fun r hrT he=>?_,fun q hq=>?_,zJ h.closed hr,hS,h.fr.trans hF,hdf.trans h.df,fun r hrT hl t ht=>?_,fun t ht=>?_,fun A r C e hl=>?_,fun A r C e hl=>?_,h.res⟩
 ·rw [aZ hi];split
  ·rfl
  ·exact h.effs r hrT he
 ·rw [aZ hi,if_neg (rest_ne q hq)];exact h.un q hq
 ·rcases T_ne r hrT with rfl | ⟨h1,h2⟩
  ·simp only at ht;rw [ht,ou]
  ·rw [aZ hi,if_neg h1] at hl
   rw [lg (fun e=>h2 t e ht)]
   exact h.env1 r hrT hl t ht
 ·have hdt : d.dst≠some t:=ht (d,v) (by simp) (by rw [aZ hi];simp)
  rw [lg hdt]
  refine h.env2 t fun r hrT hl=>ht r hrT ?_
  rw [aZ hi];split
  ·rfl
  ·exact hl
 ·rw [aZ hi] at hl
  split at hl
  ·cases hl
  ·exact h.views A r C e hl
 ·rw [aZ hi] at hl
  split at hl
  ·cases hl
  ·exact h.pd A r C e hl
theorem Inv.Jc {T : List (DO × VV)} {d : DO} {rest : List DO} {pend : List (Nat × Op × TypeId × Env × VV)} {σ : Store} {μ : List Loc} {ρS : Env} {listed : Array Bool} {a : Act} {w : World}
  (h : Inv P G ops ds Q B N w₀ σ₀ μ₀ ρ₀ ds₀ T (d::rest) pend σ μ ρS listed a w) (hp : Plan ops N ds) (hr : d.ix ∈ Region.ready .any ops listed)
  {w' : World} {σ' : Store} {μ' : List Loc} {a' : Act} {x : VV} (hF : Frame w σ μ w' σ' μ') (hS : ST G B N w' σ' μ' (dB ρS d.dst x) a') (hdf : a'.defers=a.defers)
  (hv : ∀ T₁ r T₂,T=T₁++r::T₂→listed.getD r.1.ix false=false→gX (bg ρ₀ T₁) r.1.g=some true→fE P G r.1.op r.1.ty (bg ρ₀ T₁) σ' (fun v=>v=r.2))
  (hres : aV P G rest pend Q (dB (bg ρ₀ T) d.dst x) σ') :
  Inv P G ops ds Q B N w₀ σ₀ μ₀ ρ₀ ds₀ (T++[(d,x)]) rest pend σ' μ' (dB ρS d.dst x) (listed.setIfInBounds d.ix true) a' w':=by
 have hi : d.ix < listed.size:=(bJ.1 (mem_ready.1 hr).1).1
 have hall:=h.all
 have rest_ne : ∀ q ∈ rest,d.ix≠q.ix:=by
  intro q hq
  obtain ⟨A,C,rfl⟩:=List.append_of_mem hq
  exact kF (hp.jM (l₁:=T.map Prod.fst) (l₂:=A) (l₃:=C) (by rw [← hall];simp))
 have T_ne : ∀ r ∈ T,(d.ix≠r.1.ix∧(∀ t,d.dst=some t→r.1.dst≠some t)):=by
  intro r hr
  obtain ⟨A,C,rfl⟩:=List.append_of_mem hr
  have:=hp.jM (l₁:=A.map Prod.fst) (p:=r.1) (l₂:=C.map Prod.fst) (q:=d) (l₃:=rest) (by rw [← hall];simp)
  exact ⟨(kF this).symm,fun t ht hrt=>rE this hrt ht⟩
 refine ⟨by rw [← h.all];simp,by simp [h.size],fun r hrT he=>?_,fun q hq=>?_,zJ h.closed hr,hS,h.fr.trans hF,hdf.trans h.df,fun r hrT hl t ht=>?_,fun t ht=>?_,fun A r C e hl=>?_,fun A r C e hl hw hs=>?_,by rw [jU];exact hres⟩
 ·rw [aZ hi];split
  ·rfl
  ·rename_i hne
   rcases List.mem_append.1 hrT with hrT | hrT
   ·exact h.effs r hrT he
   ·simp at hrT;subst hrT;exact absurd rfl hne
 ·rw [aZ hi,if_neg (rest_ne q hq)];exact h.un q (by simp [hq])
 ·rcases List.mem_append.1 hrT with hrT | hrT
  ·obtain ⟨h1,h2⟩:=T_ne r hrT
   rw [aZ hi,if_neg h1] at hl
   rw [lg (fun e=>h2 t e ht)]
   exact h.env1 r hrT hl t ht
  ·simp at hrT;subst hrT;simp only at ht;rw [ht,ou]
 ·have hdt : d.dst≠some t:=ht (d,x) (by simp) (by rw [aZ hi];simp)
  rw [lg hdt]
  refine h.env2 t fun r hrT hl=>ht r (by simp [hrT]) ?_
  rw [aZ hi];split
  ·rfl
  ·exact hl
 ·rw [aZ hi] at hl
  split at hl
  ·cases hl
  ·rename_i hne
   rcases nY e with ⟨_,rfl,rfl⟩ | ⟨T₂',_,e⟩
   ·exact absurd rfl hne
   ·rcases h.views A r T₂' e hl with h1 | ⟨h1,_⟩
    ·exact .inl h1
    ·exact .inr ⟨h1,hv A r T₂' e hl h1⟩
 ·rw [aZ hi] at hl
  split at hl
  ·cases hl
  ·rename_i hne
   rcases nY e with ⟨_,rfl,rfl⟩ | ⟨T₂',_,e⟩
   ·exact absurd rfl hne
   ·exact h.pd A r T₂' e hl hw hs
theorem Inv.step {T : List (DO × VV)} {rest : List DO} {pend : List (Nat × Op × TypeId × Env × VV)} {σ : Store} {μ : List Loc} {ρS : Env} {listed : Array Bool} {a : Act} {w : World} {ro : Option Nat}
  (h : Inv P G ops ds Q B N w₀ σ₀ μ₀ ρ₀ ds₀ T rest pend σ μ ρS listed a w) (hp : Plan ops N ds) {i : Nat} (hr : i ∈ Region.ready .any ops listed) {K : Act→World→Prop}
  (hK : ∀ T rest pend σ μ ρS a w,Inv P G ops ds Q B N w₀ σ₀ μ₀ ρ₀ ds₀ T rest pend σ μ ρS (listed.setIfInBounds i true) a w→K a w) :
  wpOpIn (Fr ro) 0 P ops (Post fl B N w₀ σ₀ μ₀ ds₀ Q) i K a w:=by
 have split : ∃ T rest pend,Inv P G ops ds Q B N w₀ σ₀ μ₀ ρ₀ ds₀ T rest pend σ μ ρS listed a w ∧
   ((∃ T₁ d v T₂,T=T₁++(d,v)::T₂∧d.ix=i)∨(∃ d r,rest=d::r∧d.ix=i∧d.eff=true)):=by
  have hi : i < ops.size:=by have:=(bJ.1 (mem_ready.1 hr).1).1;rw [h.size] at this;exact this
  obtain ⟨d,hd,hdi⟩:=hp.cover i hi
  have hun : listed.getD i false=false:=(bJ.1 (mem_ready.1 hr).1).2
  have key : ∀ (rest : List DO) (T : List (DO × VV)) (pend : List (Nat × Op × TypeId × Env × VV)),Inv P G ops ds Q B N w₀ σ₀ μ₀ ρ₀ ds₀ T rest pend σ μ ρS listed a w→d ∈ rest →
    ∃ T rest pend,Inv P G ops ds Q B N w₀ σ₀ μ₀ ρ₀ ds₀ T rest pend σ μ ρS listed a w∧((∃ T₁ d v T₂,T=T₁++(d,v)::T₂∧d.ix=i)∨(∃ d r,rest=d::r∧d.ix=i∧d.eff=true)):=by
   intro rest
   induction rest with
   | nil=>intro T pend h hd;cases hd
   | cons x rest ih =>
    intro T pend h hd
    cases hx : x.eff with
    | false =>
     obtain ⟨v,pend',h'⟩:=h.peel hx
     rcases List.mem_cons.1 hd with rfl | hd
     ·exact ⟨_,_,_,h',.inl ⟨T,d,v,[],rfl,hdi⟩⟩
     ·exact ih _ _ h' hd
    | true =>
     rcases List.mem_cons.1 hd with rfl | hd
     ·exact ⟨_,_,_,h,.inr ⟨d,rest,rfl,hdi,hx⟩⟩
     ·exfalso
      obtain ⟨A,C,rfl⟩:=List.append_of_mem hd
      have:=hp.jM (l₁:=T.map Prod.fst) (p:=x) (l₂:=A) (q:=d) (l₃:=C) (by rw [← h.all];simp)
      have hne:=kF this
      simp only [ahead,hx,Bool.and_eq_true,Bool.not_true,Bool.false_or] at this
      have hl:=kZ h.closed hr (hdi ▸ this.1.1.1.2) (hdi ▸ hne)
      rw [h.un x (by simp)] at hl;cases hl
  have hmem : d ∈ T.map Prod.fst∨d ∈ rest:=by rw [← List.mem_append,h.all];exact hd
  rcases hmem with hm | hm
  ·obtain ⟨⟨d',v⟩,hr',rfl⟩:=List.mem_map.1 hm
   obtain ⟨A,C,rfl⟩:=List.append_of_mem hr'
   exact ⟨_,_,_,h,.inl ⟨A,d',v,C,rfl,hdi⟩⟩
  ·exact key rest T pend h hm
 obtain ⟨T,rest,pend,h,hsp⟩:=split
 have hun : listed.getD i false=false:=(bJ.1 (mem_ready.1 hr).1).2
 rcases hsp with ⟨T₁,d,v,T₂,rfl,rfl⟩ | ⟨d,r,rfl,rfl,he⟩
 ·
  have hds : ds=T₁.map Prod.fst++d::(T₂.map Prod.fst++rest):=by rw [← h.all];simp
  have hdm : d ∈ ds:=by rw [hds];simp
  obtain ⟨o,ho,hd1,hd2,hd3,hd4⟩:=(hp.fits d hdm).ex
  obtain ⟨hg1,hg2⟩:=pX hd4 (hp.grd d hdm)
  have hag:=yt (G:=G) (d:=d) fun t ht=>h.agree hp hds (by intro r;simp;grind) (by intro r hr;simp [hr]) hr ht
  unfold wpOpIn
  simp only [ho]
  have hst:=h.st
  rcases h.views T₁ (d,v) T₂ rfl hun with ⟨hw,hv⟩ | ⟨hw,hv⟩
  ·rw [← hag.2] at hw
   have hwant:=jh (a:=a) (ops:=ops) hst.env (by rw [hst.size];exact hg1) (by rw [hst.size];exact hg2) hw
   simp only at hv
   rw [if_neg (by simp [hwant])]
   refine ⟨fun f _=>trivial, ?_⟩
   subst hv
   have hF : Frame w σ μ w σ μ:=.refl _ _ _
   have:=h.done hp hr hF (hst.next hF hst.sr (v:=undef) (x:=.tup []) (by simp only [VR,bI];exact ⟨#[],rfl,rfl⟩) (hp.dst d hdm)) (put_defers)
   rw [hd1] at this
   exact hK _ _ _ _ _ _ _ _ (by rw [← hd1] at this;rw [← hd1];exact this)
  ·rw [← hag.2] at hw
   have hwant:=jh (a:=a) (ops:=ops) hst.env (by rw [hst.size];exact hg1) (by rw [hst.size];exact hg2) hw
   rw [if_pos hwant]
   simp only at hv
   rw [← Ez hag.1] at hv
   have hop:=KZ hv
   rw [hd2,hd3] at hop
   refine mY hst hop (fun x u w' σ' μ' hx hF hS hV=>?_) (fun x u w' σ' μ' hx=>hx.elim)
   obtain ⟨rfl,rfl⟩:=hx
   refine hK _ _ _ _ _ _ _ _ (h.done hp hr hF ?_ put_defers)
   rw [← hd1]
   exact hst.next hF hS hV (hp.dst d hdm)
 ·
  have hds : ds=T.map Prod.fst++d::(([] : List (DO × VV)).map Prod.fst++r):=by rw [← h.all];simp
  have hdm : d ∈ ds:=by rw [hds];simp
  obtain ⟨o,ho,hd1,hd2,hd3,hd4⟩:=(hp.fits d hdm).ex
  obtain ⟨hg1,hg2⟩:=pX hd4 (hp.grd d hdm)
  have hnd : ∀ r ∈ T,r.1≠d:=by
   intro q hq e
   obtain ⟨A,C,rfl⟩:=List.append_of_mem hq
   have:=hp.jM (l₁:=A.map Prod.fst) (p:=q.1) (l₂:=C.map Prod.fst) (q:=d) (l₃:=r) (by rw [hds];simp)
   exact kF this (by rw [e])
  have hag:=yt (G:=G) (d:=d) fun t ht=>h.agree hp hds (by intro r;simp;exact fun a b=>a) (by intro r hr;exact hr) hr ht
  have hst:=h.st
  have hres:=h.res
  simp only [aV,he,if_true] at hres
  unfold wpOpIn
  simp only [ho]
  have hst' : ∀ {w' : World} {σ' : Store} {μ' : List Loc} {x : VV} {v : Value},Frame w σ μ w' σ' μ'→SR B w' σ' μ'→VR w' (OO B σ' μ') μ' x v→ST G B N w' σ' μ' (dB ρS d.dst x) (a.put o.dst v):=by
   intro w' σ' μ' x v hF hS hV
   rw [← hd1]
   exact hst.next hF hS hV (hp.dst d hdm)
  split at hres
  ·rename_i hw
   rw [← hag.2] at hw
   have hwant:=jh (a:=a) (ops:=ops) hst.env (by rw [hst.size];exact hg1) (by rw [hst.size];exact hg2) hw
   rw [if_neg (by simp [hwant])]
   refine ⟨fun f _=>trivial, ?_⟩
   have hF : Frame w σ μ w σ μ:=.refl _ _ _
   exact hK _ _ _ _ _ _ _ _ (h.Jc hp hr hF (hst' hF hst.sr (by simp only [VR,bI];exact ⟨#[],rfl,rfl⟩)) put_defers
    (fun T₁ r T₂ e hl hw=>(h.views T₁ r T₂ e hl).elim (fun h=>by rw [h.1] at hw;cases hw) (fun h=>h.2)) hres)
  ·exact hres.elim
  ·rename_i hw
   rw [← hag.2] at hw
   have hwant:=jh (a:=a) (ops:=ops) hst.env (by rw [hst.size];exact hg1) (by rw [hst.size];exact hg2) hw
   rw [if_pos hwant]
   rw [← La hag.1,hd2,hd3] at hres
   refine mY hst hres (fun x u w' σ' μ' hx hF hS hV=>?_) (fun x u w' σ' μ' hx hF hS hV=>?_)
   ·obtain ⟨hpd,hx⟩:=hx
    refine hK _ _ _ _ _ _ _ _ (h.Jc hp hr hF (hst' hF hS hV) put_defers (fun T₁ q T₂ e hl hw=>?_) hx)
    subst e
    have hrel:=hp.jM (l₁:=T₁.map Prod.fst) (p:=q.1) (l₂:=T₂.map Prod.fst) (q:=d) (l₃:=r) (by rw [hds];simp)
    have hqe : q.1.eff=false:=by
     cases hqe : q.1.eff with
     | false=>rfl
     | true=>have:=h.effs q (by simp) hqe;rw [hl] at this;cases this
    have hne:=kF hrel
    simp only [ahead,hqe,he,Bool.and_eq_true,Bool.not_true,Bool.false_or,Bool.or_eq_true] at hrel
    rcases hrel.1.1.2 with (hb | hpu) | ⟨hs,hc⟩
    ·have:=kZ h.closed hr hb hne
     rw [hl] at this;cases this
    ·rcases h.views T₁ q T₂ rfl hl with ⟨h1,_⟩ | ⟨_,h1⟩
     ·rw [h1] at hw;cases hw
     ·exact Iw hpu h1
    ·have hmem:=h.pd T₁ q T₂ rfl hl hw hs
     exact hpd _ hmem (by simpa using hc)
   ·exact ⟨.panic x,ρS,σ',μ',hx ρS,⟨u,rfl,hV⟩,h.fr.trans hF,hS,hst.env.ext hF.ext,hst.size,.refl h.df⟩
theorem xE {acc : List Nat} {e : Edge} (hb : Region.binds .any e=true) : ∀ {es : List Edge},e ∈ es→(nU acc es).testBit e.on=true
 | x::es,h=>by
  simp only [nU]
  rcases List.mem_cons.1 h with rfl | h
  ·rw [if_pos hb];simp [Nat.testBit_or,Nat.testBit_two_pow]
  ·have:=xE (acc:=acc) hb h
   split
   ·simp [Nat.testBit_or,this]
   ·exact this
theorem FH : ∀ (ops : List Oper) (acc : List Nat) (i : Nat),i < acc.length→(oq ops acc).getD i 0=acc.getD i 0
 | [],_,_,_=>rfl
 | o::ops,acc,i,h=>by
  simp only [oq]
  rw [FH ops _ i (by simp;omega),List.getD_eq_getElem?_getD,List.getElem?_append_left h,List.getD_eq_getElem?_getD]
theorem BA {e : Edge} (hb : Region.binds .any e=true) : ∀ (ops : List Oper) (acc : List Nat) (k : Nat) (o : Oper),ops[k]?=some o→e ∈ o.after.toList→((oq ops acc).getD (acc.length+k) 0).testBit e.on=true
 | o::ops,acc,0,o',h,he=>by
  simp only [List.getElem?_cons_zero,Option.some.injEq] at h
  subst h
  simp only [oq,Nat.add_zero]
  rw [FH ops _ _ (by simp),List.getD_eq_getElem?_getD,List.getElem?_append_right (Nat.le_refl _)]
  simpa using xE hb he
 | o::ops,acc,k+1,o',h,he=>by
  simp only [oq]
  have:=BA hb ops (acc++[nU acc o.after.toList]) k o' (by simpa using h) he
  simpa [Nat.add_assoc,Nat.add_comm 1 k] using this
 | [],_,_,_,h,_=>by simp at h
theorem Bq {α : Type} {p q : α→Bool} : ∀ {l : List α},(∀ x ∈ l,q x=true→p x=true)→(∃ x ∈ l,p x=true∧q x=false)→l.countP q < l.countP p
 | [],_,h=>by obtain ⟨x,hx,_⟩:=h;cases hx
 | y::l,h,h'=>by
  have hle : l.countP q≤l.countP p:=List.countP_mono_left fun x hx=>h x (by simp [hx])
  obtain ⟨x,hx,hpx,hqx⟩:=h'
  rcases List.mem_cons.1 hx with rfl | hx
  ·rw [List.countP_cons_of_pos hpx,List.countP_cons_of_neg (by simp [hqx])];omega
  ·have ih:=Bq (l:=l) (fun x hx=>h x (by simp [hx])) ⟨x,hx,hpx,hqx⟩
   by_cases hq : q y=true
   ·rw [List.countP_cons_of_pos hq,List.countP_cons_of_pos (h y (by simp) hq)];omega
   ·rw [List.countP_cons_of_neg hq]
    by_cases hpy : p y=true
    ·rw [List.countP_cons_of_pos hpy];omega
    ·rw [List.countP_cons_of_neg hpy];omega
theorem Inv.fin {T : List (DO × VV)} {rest : List DO} {pend : List (Nat × Op × TypeId × Env × VV)} {σ : Store} {μ : List Loc} {ρS : Env} {listed : Array Bool} {a : Act} {w : World}
  (h : Inv P G ops ds Q B N w₀ σ₀ μ₀ ρ₀ ds₀ T rest pend σ μ ρS listed a w) (hp : Plan ops N ds) (hall : ∀ d ∈ ds,listed.getD d.ix false=true) : Post fl B N w₀ σ₀ μ₀ ds₀ Q .normal a w:=by
 have hrest : rest=[]:=by
  cases rest with
  | nil=>rfl
  | cons d r =>
   have h1:=hall d (by rw [← h.all];simp)
   rw [h.un d (by simp)] at h1;cases h1
 subst hrest
 have hds : T.map Prod.fst=ds:=by have:=h.all;simpa using this
 have hT : ∀ r ∈ T,listed.getD r.1.ix false=true:=fun r hr=>hall r.1 (by rw [← hds];exact List.mem_map_of_mem hr)
 have hres:=h.res
 simp only [aV] at hres
 refine ⟨.normal,bg ρ₀ T,σ,μ,hres,trivial,h.fr,h.st.sr,fun t=>?_,h.st.size,.refl h.df⟩
 have e : (bg ρ₀ T).get t=ρS.get t:=by
  by_cases hex : ∃ r ∈ T,r.1.dst=some t
  ·obtain ⟨r,hr,hd⟩:=hex
   rw [h.env1 r hr (hT r hr) t hd]
   obtain ⟨A,C,rfl⟩:=List.append_of_mem hr
   rw [rX hd]
   intro q hq hqd
   obtain ⟨C₁,C₂,rfl⟩:=List.append_of_mem hq
   have:=hp.jM (l₁:=A.map Prod.fst) (p:=r.1) (l₂:=C₁.map Prod.fst) (q:=q.1) (l₃:=C₂.map Prod.fst) (by rw [← hds];simp)
   exact rE this hd hqd
  ·have hno : ∀ r ∈ T,r.1.dst≠some t:=fun r hr e=>hex ⟨r,hr,e⟩
   rw [jS hno,h.env2 t fun r hr _=>hno r hr]
 rw [e]
 exact h.st.env t
theorem Bh {ro : Option Nat} (hp : Plan ops N ds) : ∀ (fuel : Nat) (T : List (DO × VV)) (rest : List DO) (pend : List (Nat × Op × TypeId × Env × VV)) (σ : Store) (μ : List Loc) (ρS : Env) (listed : Array Bool) (a : Act) (w : World),
  Inv P G ops ds Q B N w₀ σ₀ μ₀ ρ₀ ds₀ T rest pend σ μ ρS listed a w→ds.countP (fun d=>!listed.getD d.ix false)≤fuel→wpAnyIn (Fr ro) 0 P .any ops (Post fl B N w₀ σ₀ μ₀ ds₀ Q) fuel listed a w:=by
 have fin : ∀ {T : List (DO × VV)} {rest : List DO} {pend : List (Nat × Op × TypeId × Env × VV)} {σ : Store} {μ : List Loc} {ρS : Env} {listed : Array Bool} {a : Act} {w : World},
   Inv P G ops ds Q B N w₀ σ₀ μ₀ ρ₀ ds₀ T rest pend σ μ ρS listed a w→Region.ready .any ops listed=[]→∀ d ∈ ds,listed.getD d.ix false=true:=by
  intro T rest pend σ μ ρS listed a w h hr
  have key : ∀ (l₂ l₁ : List DO),ds=l₁++l₂→(∀ d ∈ l₁,listed.getD d.ix false=true)→∀ d ∈ ds,listed.getD d.ix false=true:=by
   intro l₂
   induction l₂ with
   | nil=>intro l₁ e hl d hd;exact hl d (by rw [e] at hd;simpa using hd)
   | cons x l₂ ih =>
    intro l₁ e hl
    refine ih (l₁++[x]) (by rw [e];simp) fun d hd=>?_
    rcases List.mem_append.1 hd with hd | hd
    ·exact hl d hd
    ·simp at hd;subst hd
     have hdm : d ∈ ds:=by rw [e];simp
     cases hun : listed.getD d.ix false with
     | true=>rfl
     | false =>
      exfalso
      obtain ⟨o,ho,_⟩:=(hp.fits d hdm).ex
      have : d.ix ∈ Region.ready .any ops listed:=by
       refine mem_ready.2 ⟨bJ.2 ⟨by rw [h.size];exact hp.lt d hdm,hun⟩,o,ho,fun ed hed hb=>?_⟩
       obtain ⟨hlt,hself⟩:=hp.edge d.ix o ho ed (by simpa using hed) hb
       obtain ⟨q,hq,hqi⟩:=hp.cover _ hlt
       have hbit : ((oq ops.toList []).getD d.ix 0).testBit q.ix=true:=by
        rw [hqi]
        have:=BA hb ops.toList [] d.ix o (by rw [Array.getElem?_toList];exact ho) (by simpa using hed)
        simpa using this
       rw [e] at hq
       rcases List.mem_append.1 hq with hq | hq
       ·rw [← hqi];exact hl q hq
       ·exfalso
        rcases List.mem_cons.1 hq with rfl | hq
        ·exact hself hqi.symm
        ·obtain ⟨A,C,rfl⟩:=List.append_of_mem hq
         have:=hp.jM (l₁:=l₁) (p:=d) (l₂:=A) (q:=q) (l₃:=C) (by rw [e];simp)
         simp only [ahead,Bool.and_eq_true,Bool.not_eq_true',hbit] at this
         exact absurd this.1.1.1.1.2 (by simp)
      rw [hr] at this;cases this
  exact key ds [] rfl (by simp)
 intro fuel
 induction fuel with
 | zero =>
  intro T rest pend σ μ ρS listed a w h hc
  have hall : ∀ d ∈ ds,listed.getD d.ix false=true:=by
   intro d hd
   cases hl : listed.getD d.ix false with
   | true=>rfl
   | false =>
    have : 0 < ds.countP (fun d=>!listed.getD d.ix false):=List.countP_pos_iff.2 ⟨d,hd,by simp [hl]⟩
    omega
  refine ⟨?_,h.fin hp hall⟩
  rw [List.eq_nil_iff_forall_not_mem]
  intro i hi
  have hlt : i < ops.size:=by have:=(bJ.1 (mem_ready.1 hi).1).1;rw [h.size] at this;exact this
  obtain ⟨d,hd,rfl⟩:=hp.cover i hlt
  have:=(bJ.1 (mem_ready.1 hi).1).2
  rw [hall d hd] at this;cases this
 | succ fuel ih =>
  intro T rest pend σ μ ρS listed a w h hc
  refine ⟨fun hr=>h.fin hp (fin h hr),fun i hi=>h.step hp hi fun T rest pend σ μ ρS a w h'=>ih _ _ _ _ _ _ _ _ _ h' ?_⟩
  have hi':=(bJ.1 (mem_ready.1 hi).1)
  have hlt : i < ops.size:=by rw [← h.size];exact hi'.1
  obtain ⟨d,hd,rfl⟩:=hp.cover i hlt
  have:=Bq (l:=ds) (p:=fun d=>!listed.getD d.ix false) (q:=fun q=>!(listed.setIfInBounds d.ix true).getD q.ix false) (fun q hq hh=>by
   simp only [aZ hi'.1] at hh
   split at hh
   ·simp at hh
   ·exact hh) ⟨d,hd,by simp [hi'.2],by simp [aZ hi'.1]⟩
  omega
end Go.V
namespace Go.V
variable {P : Program} {G : Nat→Option (List VV)}
def SY (lab : FuncId→Bool) : Op→Bool
 | .call ⟨.value (.func f),_,_⟩=>!lab f
 | .call ⟨.builtin .len,_,_⟩ | .call ⟨.builtin .max,_,_⟩ | .call ⟨.builtin .min,_,_⟩=>false
 | .call _ | .panic _ | .alloc _ | .box .. | .makeSlice .. | .makeMap .. | .mapUpdate .. | .store ..=>true
 | _=>false
def BG (lab : FuncId→Bool) (ops : Array Oper) : Nat→List Nat→List Nat
 | 0,acc=>acc.reverse
 | fuel+1,acc =>
  let ready:=(List.range ops.size).filter fun i=>!acc.contains i && ((ops[i]?).map fun o=>o.after.toList.all fun e=>!Region.binds .any e || acc.contains e.on).getD false
  let isE:=fun i=>((ops[i]?).map fun o=>SY lab o.op).getD true
  match ready.find? (fun i=>!isE i) with
  | some i=>BG lab ops fuel (i::acc)
  | none=>match ready with
   | i::_=>BG lab ops fuel (i::acc)
   | []=>acc.reverse
def GH (lab : FuncId→Bool) (ops : Array Oper) : List PL :=
 let ord:=BG lab ops ops.size []
 let bm:=oq ops.toList []
 let isE:=fun i=>((ops[i]?).map fun o=>SY lab o.op).getD true
 let ZR:=fun i=>((ops[i]?).map fun o=>yx o.op).getD true
 let chkOf:=fun j=>if isE j then (ord.takeWhile (· != j)).filter fun i=>!isE i && !ZR i && !(bm.getD j 0).testBit i else []
 ord.map fun i=>⟨i,isE i,chkOf i,!isE i && ord.any fun j=>(chkOf j).contains i⟩
theorem yG {ops : Array Oper} {N : Nat} {ps : List PL} {ds : List DO} (hm : ps.mapM (KR ops)=some ds) (h : zC ops N ds=true) : Plan ops N ds:=by
 simp only [zC,Bool.and_eq_true] at h
 obtain ⟨⟨⟨⟨h1,h2⟩,h3⟩,h4⟩,h5⟩:=h
 refine ⟨fun d hd=>?_,h1,fun i hi=>?_,fun d hd=>?_,fun d hd t ht=>?_,fun d hd t b ht=>?_,fun i o ho e he hb=>?_,by simpa using h5⟩
 ·obtain ⟨k,hk⟩:=List.getElem?_of_mem hd
  obtain ⟨p,_,hp⟩:=(lu hm).2 k d hk
  exact KI hp
 ·have:=List.all_eq_true.1 h2 i (by simpa using hi)
  obtain ⟨d,hd,he⟩:=List.any_eq_true.1 this
  exact ⟨d,hd,by simpa using he⟩
 ·have:=List.all_eq_true.1 h3 d hd
  simp only [Bool.and_eq_true,decide_eq_true_eq] at this
  exact this.1.1
 ·have:=List.all_eq_true.1 h3 d hd
  simp only [Bool.and_eq_true,ht,decide_eq_true_eq] at this
  exact this.1.2
 ·have:=List.all_eq_true.1 h3 d hd
  simp only [Bool.and_eq_true,ht,decide_eq_true_eq] at this
  exact this.2
 ·have hi : i < ops.size:=(Array.getElem?_eq_some_iff.1 ho).1
  have h5:=List.all_eq_true.1 h4 i (by simpa using hi)
  simp only [ho] at h5
  have h6:=List.all_eq_true.1 h5 e he
  simp only [hb,Bool.not_true,Bool.false_or,Bool.and_eq_true,decide_eq_true_eq,bne_iff_ne] at h6
  exact h6
theorem Ii {fl : Bool} {ro : Option Nat} {N id : Nat} {ops : Array Oper} {ds : List DO} {Q : Out→Env→Store→Prop} {ρ : Env} {σ : Store} (hmix : P.follows .mixedOrders=true) (hp : Plan ops N ds) (h : aV P G ds [] Q ρ σ) :
  VW fl P G ro N (.region id ops true) Q ρ σ:=by
 intro B w μ a hS
 refine wpIn_region_any hmix ?_
 have hh : ∀ b,b < w.heap.size→({ w with drawn:=w.drawn+1 } : World).heap[b]?=w.heap[b]?:=fun _ _=>rfl
 have hF : Frame w σ μ { w with drawn:=w.drawn+1 } σ μ:=.still (Nat.le_refl _) hh rfl rfl rfl
 have hf : ∀ i,(Array.replicate ops.size false).getD i false=false:=by
  intro i
  rw [Array.getD_eq_getD_getElem?,Array.getElem?_replicate]
  split<;>rfl
 refine Bh (G:=G) (ρ₀:=ρ) hp ops.size [] ds [] σ μ ρ (Array.replicate ops.size false) a _ ?_ (Nat.le_trans List.countP_le_length hp.len)
 exact {
  all:=by simp
  size:=by simp
  effs:=fun r hr=>by cases hr
  un:=fun d _=>hf _
  closed:=fun i o _ hi=>by simp only [hf] at hi;cases hi
  st:=⟨hS.sr.still hh (Nat.le_refl _),hS.gl.ext hF.ext,hS.env.ext hF.ext,hS.size⟩
  fr:=hF
  df:=rfl
  env1:=fun r hr=>by cases hr
  env2:=fun t _=>rfl
  views:=fun T₁ r T₂ e=>by simp at e
  pd:=fun T₁ r T₂ e=>by simp at e
  res:=h }
end Go.V
