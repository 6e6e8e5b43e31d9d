/- Texts V21 V22 V23. -/
import Derived.Laws.Sem
import Derived.Test.YtgmhpemjlbgfcaaGreatDoorG09
set_option linter.unusedVariables false
set_option linter.unusedSimpArgs false
namespace Go.V
variable {P : Program} {G : Nat→Option (List VV)}
def dH : Nat→List VV→Env
 | _,[]=>[]
 | i,x::xs=>(i,x)::dH (i+1) xs
def resV (P : Program) : List ResultVar→Env→Store→(List VV→Prop)→Prop
 | [],_,_,K=>K []
 | .tmp t::r,ρ,σ,K=>resV P r ρ σ fun xs=>K (ρ.get t::xs)
 | .cell a t::r,ρ,σ,K=>match ρ.get a with
  | .mptr id off=>match dY σ id with
   | some cells=>∃ out,jY P t cells off σ=some out∧out.pre∧resV P r ρ σ fun xs=>K (out.val::xs)
   | none=>False
  | _=>False
def lI : List VV→VV
 | [x]=>x
 | xs=>.tup xs
def rO (P : Program) (rs : List ResultVar) (R : gY→Store→Prop) : Out→Env→Store→Prop
 | .normal,ρ,σ | .ret,ρ,σ=>resV P rs ρ σ fun xs=>R (.ret (lI xs)) σ
 | .panic x,_,σ=>R (.panic x) σ
 | _,_,_=>False
structure VG where
 code : aA
 res : List ResultVar
 n : Nat
def dU (P : Program) (lab : FuncId→Bool) (f : FuncId) : Option VG:=match P.funcs[f]? with
 | some fn=>match fn.body with
  | some c=>(comp lab fn.ntmps c).map fun vc=>⟨vc,fn.results.toList,fn.ntmps⟩
  | none=>none
 | none=>none
theorem uK : ∀ (xs : List VV) (i t : Nat),(dH i xs).get t=if t < i then .undef else xs.getD (t-i) .undef
 | [],i,t=>by simp [dH,Env.get]
 | x::xs,i,t=>by
  simp only [dH,Env.get]
  by_cases h : i=t
  ·subst h;simp
  ·rw [if_neg h,uK xs (i+1) t]
   by_cases h2 : t < i
   ·rw [if_pos (by omega),if_pos h2]
   ·rw [if_neg (by omega),if_neg h2]
    rw [show t-i=t-(i+1)+1 by omega]
    simp
theorem nT {w : World} {O : Nat→Prop} {μ : List Loc} {xs : List VV} {vs : Array Value} {k : Nat} (h : bI w O μ xs vs.toList) : jg w O μ (dH 0 xs) (vs++Array.replicate k undef):=by
 intro t
 rw [uK,if_neg (by omega),Nat.sub_zero]
 cases hx : xs[t]? with
 | none=>rw [List.getD_eq_getElem?_getD,hx];simp [VR]
 | some x =>
  rw [List.getD_eq_getElem?_getD,hx]
  obtain ⟨v,hv,hr⟩:=h.get hx
  rw [Array.getElem?_toList] at hv
  have hlt:=(Array.getElem?_eq_some_iff.1 hv).1
  have : (vs++Array.replicate k undef).getD t undef=v:=by
   rw [Array.getD_eq_getD_getElem?,Array.getElem?_append_left hlt,hv];rfl
  rw [this];exact hr
def kS (tmps : Array Value) : ResultVar→Sem Value
 | .tmp t=>pure (tmps.getD t undef)
 | .cell a t=>do loadVar t (← asAddr (tmps.getD a undef))
theorem qg {B : Nat→Prop} {w : World} {σ : Store} {μ : List Loc} {ρ : Env} {tmps : Array Value} (hS : SR B w σ μ) (hE : jg w (OO B σ μ) μ ρ tmps) : ∀ (rs : List ResultVar) (K : List VV→Prop),resV P rs ρ σ K →
  ∃ xs vs,K xs∧bI w (OO B σ μ) μ xs vs∧(rs.mapM (kS tmps)).run P w=.ok vs w
 | [],K,h=>⟨[],[],h,by simp [bI],by simp⟩
 | .tmp t::r,K,h=>by
  simp only [resV] at h
  obtain ⟨xs,vs,h1,h2,h3⟩:=qg hS hE r _ h
  refine ⟨_,tmps.getD t undef::vs,h1,by simp only [bI];exact ⟨_,_,rfl,hE t,h2⟩, ?_⟩
  simp only [List.mapM_cons,Sem.run_bind,kS,Sem.run_pure,Result.andThen,h3]
 | .cell a t::r,K,h=>by
  simp only [resV] at h
  split at h
  ·rename_i id off ha
   split at h
   ·rename_i cells hc
    obtain ⟨out,ho,hp,h⟩:=h
    obtain ⟨xs,vs,h1,h2,h3⟩:=qg hS hE r _ h
    have hv:=hE a
    rw [ha] at hv
    have hl:=zU (P:=P) (t:=t) hS hv (out:=out) (by simp only [hc];exact ho) hp
    obtain ⟨w',μ',u,k1,k2,k3,k4⟩:=hl
    simp only [VR] at hv
    obtain ⟨L,hL,hv⟩:=hv
    obtain ⟨e1,u',e2,e3⟩:=tV (jV hS hc hL).1 ho hp
    have hld : (loadVar t ⟨L.block,L.base+off,none⟩).run P w=.ok u' w:=by
     have e4 : (Instr.loadAt t (.pointer (some ⟨L.block,L.base+off,none⟩))).run P w=.ok u' w:=e2
     simpa [Instr.loadAt,Instr.sureAddr,Sem.run_bind] using e4
    refine ⟨_,u'::vs,h1,by simp only [bI];exact ⟨_,_,rfl,e3,h2⟩, ?_⟩
    simp only [List.mapM_cons,Sem.run_bind,kS,hv,asAddr,Sem.run_pure,Result.andThen,hld,h3]
   ·exact h.elim
  ·exact h.elim
theorem iQ {F : Fence} {n : Nat} {B : Nat→Prop} {w : World} {σ σ' : Store} {μ μ' : List Loc} {ρ' : Env} {fn : Func} {tmps : Array Value} {R : Ending→World→Prop} {u : FrameMode} (hu : u≠.run) :
  ∀ (Ds : List Nat) (w' : World),Ds.Nodup→(∀ D ∈ Ds,w.heap.size≤D∧w'.heap[D]?=some (.deferred (some []))∧¬ eP σ' μ' D)→Frame w σ μ w' σ' μ'→SR B w' σ' μ'→jg w' (OO B σ' μ') μ' ρ' tmps →
   (∀ w'',Frame w σ μ w'' σ' μ'→SR B w'' σ' μ'→jg w'' (OO B σ' μ') μ' ρ' tmps→Ext w' (OO B σ' μ') μ' w'' (OO B σ' μ') μ'→LeavesIn F n P fn tmps R [] u w'') →
   LeavesInM F n P fn tmps R (Ds.map (fun D=>({ target:=.collected D,args:=#[] } : Deferred))) u w'
 | [],w',_,_,hF,hS,hE,h=>h w' hF hS hE (.refl _ _ _)
 | D::Ds,w',hn,hD,hF,hS,hE,h=>by
  obtain ⟨h1,h2,h3⟩:=hD D (by simp)
  have hlt : D < w'.heap.size:=(Array.getElem?_eq_some_iff.1 h2).1
  obtain ⟨W,hW⟩ : ∃ W,W=w'.putObj D (.deferred none):=⟨_,rfl⟩
  have hsz : W.heap.size=w'.heap.size:=by rw [hW];simp
  have hne : ∀ b,b≠D→W.heap[b]?=w'.heap[b]?:=fun b hb=>by rw [hW];exact World.putObj_heap_other hb
  have hX : Ext w' (OO B σ' μ') μ' W (OO B σ' μ') μ':=by
   refine ⟨fun b o v _ hv=>?_,fun _ h=>.inl h,List.prefix_refl _⟩
   have : b≠D:=by
    rintro rfl
    unfold World.cell? at hv
    rw [h2] at hv
    cases hv
   rw [cell_of_heap (hne b this)];exact hv
  have hF1 : Frame w σ μ W σ' μ':=by
   refine ⟨by rw [hsz];exact hF.size,fun b hb hnb=>?_,hF.own,hF.pre,by rw [hW];exact hF.os,by rw [hW];exact hF.tape,by rw [hW];exact hF.output⟩
   rw [hne b (by omega)];exact hF.heap b hb hnb
  have hS1 : SR B W σ' μ':=by
   refine ⟨hS.len,fun id o L ho hL=>(hS.obj id o L ho hL).ext hX (fun how=>?_),hS.apart,hS.out,fun b hb=>by rw [hsz];exact hS.low b hb⟩
   exact hne _ (fun e=>h3 ⟨id,L,o,hL,e,ho,how⟩)
  have hn':=List.nodup_cons.1 hn
  refine ⟨hu,.inl ⟨D,W,rfl,by rw [hW];exact run_takeDeferred h2, ?_⟩⟩
  refine iQ hu Ds W hn'.2 (fun E hE'=>?_) hF1 hS1 (hE.ext hX) (fun w'' k1 k2 k3 k4=>h w'' k1 k2 k3 ⟨fun b o v hb hv=>k4.cell b o v hb (hX.cell b o v hb hv),fun _ h=>.inl h,List.prefix_refl _⟩)
  obtain ⟨m1,m2,m3⟩:=hD E (by simp [hE'])
  exact ⟨m1,(hne E (fun e=>hn'.1 (e ▸ hE'))).trans m2,m3⟩
theorem Ef {lab : FuncId→Bool} {f : FuncId} {F : VG} {xs : List VV} {σ : Store} {R : gY→Store→Prop} (hmix : P.follows .mixedOrders=true) (hf : dU P lab f=some F) (hn : xs.length≤F.n)
  (h : iO P G F.code (rO P F.res R) (dH 0 xs) σ) : CV P G f xs σ R:=by
 unfold dU at hf
 split at hf
 ·rename_i fn hfn
  split at hf
  ·rename_i c hc
   simp only [Option.map_eq_some_iff] at hf
   obtain ⟨vc,hvc,rfl⟩:=hf
   intro B w μ vs hS hG hv
   simp only at h hn
   have hlen : vs.size=xs.length:=by have:=hv.length;simpa using this
   refine callsIn_of_wp_marks hfn hc trivial ?_
   refine wpIn_mono (iG (fl:=false) (ro:=none) hmix c vc hvc (.inl ⟨rfl,rfl⟩) _ _ σ h B w μ _ ⟨hS,hG,nT hv,by simp;omega⟩) ?_
   rintro e a' w' ⟨o,ρ',σ',μ',hq,hx,hF,hSR,hE,hz,Ds,-,hd1,hd2,hd3⟩
   simp only [List.append_nil] at hd1
   have fin : ∀ w',Frame w σ μ w' σ' μ'→SR B w' σ' μ'→jg w' (OO B σ' μ') μ' ρ' a'.tmps→(resV P fn.results.toList ρ' σ' fun xs=>R (.ret (lI xs)) σ')→∃ v,(results fn a'.tmps).run P w'=.ok v w'∧∃ r σ'' μ'',R r σ''∧Frame w σ μ w' σ'' μ''∧SR B w' σ'' μ''∧nG w' (OO B σ'' μ'') μ'' r (.returned v):=by
    intro w' hF hSR hE hr
    obtain ⟨ys,us,k1,k2,k3⟩:=qg hSR hE _ _ hr
    refine ⟨if h : us.toArray.size=1 then us.toArray[0] else .tuple us.toArray, ?_,.ret (lI ys),σ',μ',k1,hF,hSR, ?_⟩
    ·have e : (fn.results.mapM (kS a'.tmps)).run P w'=.ok us.toArray w':=by
      rw [Array.mapM_eq_mapM_toList]
      simp [k3]
     have e' : results fn a'.tmps=(do let vs ← fn.results.mapM (kS a'.tmps);pure (if h : vs.size=1 then vs[0] else .tuple vs)):=by
      unfold results
      congr 1
     rw [e',Sem.run_bind,e]
     rfl
    ·simp only [nG]
     have hl:=k2.length
     split
     ·rename_i h1
      simp only [List.size_toArray] at h1
      match us,ys,h1,hl with
      | [u],[y],_,_ =>
       simp only [bI] at k2
       obtain ⟨y',l,e,k2,rfl⟩:=k2
       cases e
       exact k2
     ·rename_i h1
      simp only [List.size_toArray] at h1
      have : lI ys=.tup ys:=by
       unfold lI
       split
       ·simp at hl;omega
       ·rfl
      rw [this]
      simp only [VR]
      exact ⟨_,rfl,by simpa using k2⟩
   cases o<;>cases e<;>simp only [jm] at hx<;>simp only [rO] at hq
   ·show LeavesInM _ _ _ _ _ _ _ _ _
    rw [hd1]
    exact iQ (by simp) Ds w' hd2 hd3 hF hSR hE fun w'' k1 k2 k3 _=>fin w'' k1 k2 k3 hq
   ·show LeavesInM _ _ _ _ _ _ _ _ _
    rw [hd1]
    exact iQ (by simp) Ds w' hd2 hd3 hF hSR hE fun w'' k1 k2 k3 _=>fin w'' k1 k2 k3 hq
   ·obtain ⟨v,rfl,hv⟩:=hx
    show LeavesInM _ _ _ _ _ _ _ _ _
    rw [hd1]
    exact iQ (by simp) Ds w' hd2 hd3 hF hSR hE fun w'' k1 k2 k3 k4=>⟨_,σ',μ',hq,k1,k2,v,rfl,VR.ext k4 _ _ hv⟩
  ·cases hf
 ·cases hf
def oK : List Nat→List VV→Env→Env
 | p::ps,x::xs,ρ=>oK ps xs ((p,x)::ρ)
 | _,_,ρ=>ρ
theorem I4 {w : World} {O : Nat→Prop} {μ : List Loc} : ∀ (ps : List Nat) (xs : List VV) (vs : List Value) (ρ : Env) (tmps : Array Value),(∀ p ∈ ps,p < tmps.size)→bI w O μ xs vs→jg w O μ ρ tmps →
  jg w O μ (oK ps xs ρ) ((ps.zip vs).foldl (fun t (p,v)=>t.setIfInBounds p v) tmps)∧((ps.zip vs).foldl (fun t (p,v)=>t.setIfInBounds p v) tmps).size=tmps.size
 | [],xs,vs,ρ,tmps,_,_,hE=>by simpa [oK] using hE
 | p::ps,[],vs,ρ,tmps,_,hv,hE=>by
  simp only [bI] at hv;subst hv
  simpa [oK] using hE
 | p::ps,x::xs,vs,ρ,tmps,hp,hv,hE=>by
  simp only [bI] at hv
  obtain ⟨y,ys,rfl,h1,h2⟩:=hv
  have hE' : jg w O μ ((p,x)::ρ) (tmps.setIfInBounds p y):=by
   have:=jg.put (a:={ tmps:=tmps,defers:=[] }) hE h1 (some p) (fun t ht=>by cases ht;exact hp p (by simp))
   simpa [dB,Act.put] using this
  have:=I4 ps xs ys _ (tmps.setIfInBounds p y) (fun q hq=>by simpa using hp q (by simp [hq])) h2 hE'
  simpa [oK] using this
def pI (id : Nat) (l : kG) (R : gY→Store→Prop) : Out→Env→Store→Prop
 | .normal,_,σ=>σ[id]?=some (.loop { l with state:=.busy })∧R (.ret (.bool true)) (σ.set id (.loop l))
 | .ret,_,σ=>σ[id]?=some (.loop { l with state:=.busy })∧R (.ret (.bool false)) (σ.set id (.loop { l with state:=.done,pending:=some .ret }))
 | .exit i,_,σ=>σ[id]?=some (.loop { l with state:=.busy })∧R (.ret (.bool false)) (σ.set id (.loop { l with state:=.done,pending:=some (.exit i) }))
 | _,_,_=>False
theorem Ak {B : Nat→Prop} {w : World} {σ : Store} {μ : List Loc} {id : Nat} {l l' : kG} {L : Loc} {r r' : Loop} (hS : SR B w σ μ) (hl : σ[id]?=some (.loop l)) (hL : μ[id]?=some L) (hr : w.heap[L.block]?=some (.loop r))
  (hLR : Nr w (OO B σ μ) μ l r→Nr w (OO B σ μ) μ l' r') : SR B (w.putObj L.block (.loop r')) (σ.set id (.loop l')) μ∧Frame w σ μ (w.putObj L.block (.loop r')) (σ.set id (.loop l')) μ:=by
 obtain ⟨r0,h0,h1⟩:=hS.obj _ _ _ hl hL
 rw [hr] at h0
 cases h0
 have hlt : L.block < w.heap.size:=(Array.getElem?_eq_some_iff.1 hr).1
 have hne : ∀ b,b≠L.block→(w.putObj L.block (.loop r')).heap[b]?=w.heap[b]?:=fun b hb=>World.putObj_heap_other hb
 have hown : ∀ b,eP (σ.set id (.loop l')) μ b↔eP σ μ b:=by
  have hi : id < σ.length:=(List.getElem?_eq_some_iff.1 hl).1
  intro b
  constructor
  ·rintro ⟨i,L',o,k1,k2,k3,k4⟩
   rw [List.getElem?_set] at k3
   split at k3
   ·rename_i e;subst e
    exact ⟨id,L',.loop l,k1,k2,hl,rfl⟩
   ·exact ⟨i,L',o,k1,k2,k3,k4⟩
  ·rintro ⟨i,L',o,k1,k2,k3,k4⟩
   by_cases e : id=i
   ·subst e
    exact ⟨id,L',.loop l',k1,k2,by simp [hi],rfl⟩
   ·exact ⟨i,L',o,k1,k2,by rw [List.getElem?_set_ne e];exact k3,k4⟩
 have hOO : OO B (σ.set id (.loop l')) μ=OO B σ μ:=by funext b;simp only [OO,hown]
 have hX : Ext w (OO B σ μ) μ (w.putObj L.block (.loop r')) (OO B σ μ) μ:=by
  refine ⟨fun b o v _ hv=>?_,fun _ h=>.inl h,List.prefix_refl _⟩
  have : b≠L.block:=by
   rintro rfl
   unfold World.cell? at hv
   rw [hr] at hv
   cases hv
  rw [cell_of_heap (hne b this)];exact hv
 refine ⟨⟨by simpa using hS.len,fun i o L' ho hL'=>?_,fun i j oi oj Li Lj hi hj wi wj hLi hLj he=>?_,fun b hb=>hS.out b ((hown b).1 hb),fun b hb=>by simpa using hS.low b hb⟩,
  ⟨by simp,fun b hb hn=>hne b (fun e=>hn ⟨id,L,_,hL,e.symm,hl,rfl⟩),fun b hb=>.inl ((hown b).1 hb),List.prefix_refl _,rfl,rfl,rfl⟩⟩
 ·rw [hOO]
  by_cases e : id=i
  ·subst e
   rw [hL] at hL';cases hL'
   have hi : id < σ.length:=(List.getElem?_eq_some_iff.1 hl).1
   rw [List.getElem?_set_self hi] at ho
   cases ho
   refine ⟨r',World.putObj_heap_same hlt, ?_⟩
   obtain ⟨k1,k2,k3,k4,k5,k6,k7⟩:=hLR h1
   exact ⟨k1,k2,k3,k4,k5,k6,k7.ext hX⟩
  ·rw [List.getElem?_set_ne e] at ho
   refine (hS.obj i o L' ho hL').ext hX (fun how=>hne _ (fun e'=>e ?_))
   exact hS.apart _ _ _ _ _ _ hl ho rfl how hL hL' e'.symm
 ·have fix : ∀ {i : Nat} {o : Obj},(σ.set id (.loop l'))[i]?=some o→o.owns=true→∃ o',σ[i]?=some o'∧o'.owns=true:=by
   intro i o h1 h2
   rw [List.getElem?_set] at h1
   split at h1
   ·rename_i e;subst e;exact ⟨_,hl,rfl⟩
   ·exact ⟨o,h1,h2⟩
  obtain ⟨oi',a1,a2⟩:=fix hi wi
  obtain ⟨oj',b1,b2⟩:=fix hj wj
  exact hS.apart _ _ _ _ _ _ a1 b1 a2 b2 hLi hLj he
theorem DV {id : Nat} {xs : List VV} {σ : Store} {R : gY→Store→Prop} {l : kG} {ρ : Env} {ps : List Nat} {n : Nat} {va vb : aA} {x y : Code} (hmix : P.follows .mixedOrders=true) (hl : σ[id]?=some (.loop l)) (hL : sZ l ρ ps n va vb x y) (hps : ps.length=xs.length) (hpn : ps.all (decide <| · < n)=true)
  (h : iO P G va (dD (fun ρ σ=>σ[id]?=some (.loop l)∧iO P G vb (pI id l R) ρ (σ.set id (.loop { l with state:=.busy }))) (fun _ _ _=>False)) (oK ps xs ρ) σ) : YV P G id xs σ R:=by
 intro B w μ vs hS hG hv
 have hi : id < σ.length:=(List.getElem?_eq_some_iff.1 hl).1
 obtain ⟨L,hLoc⟩ : ∃ L,μ[id]?=some L:=⟨_,List.getElem?_eq_getElem (by rw [hS.len];exact hi)⟩
 obtain ⟨r,hr,hLR⟩:=hS.obj _ _ _ hl hLoc
 obtain ⟨k1,k2,k3,k4,k5,k6,k7⟩:=hLR
 have hvl : vs.size=xs.length:=by have:=hv.length;simpa using this
 obtain ⟨lab,hca,hcb⟩:=hL.ca
 have hsz : vs.size=r.params.size:=by rw [k4,hL.ps];simp [hvl,hps]
 have hy:=run_yield (P:=P) (args:=vs) hr hsz
 refine ⟨L,hLoc,_,_,_,_,hy, ?_⟩
 have hfold : (r.params.zip vs).foldl (fun tmps (t,a)=>tmps.setIfInBounds t a) r.tmps=(ps.zip vs.toList).foldl (fun t (p,v)=>t.setIfInBounds p v) r.tmps:=by
  rw [← Array.foldl_toList,Array.toList_zip,k4,hL.ps]
 have hE0:=I4 ps xs vs.toList ρ r.tmps (fun p hp=>by rw [k1,hL.n];simpa using List.all_eq_true.1 hpn p hp) hv (hL.tmps ▸ k7)
 refine roundIn_of_wpIn trivial ?_
 rw [k5,k6]
 have hST : ST G B n w σ μ (oK ps xs ρ) { tmps:=(r.params.zip vs).foldl (fun tmps (t,a)=>tmps.setIfInBounds t a) r.tmps,defers:=[] } :=
  ⟨hS,hG,by rw [hfold];exact hE0.1,by show Array.size _=_;rw [hfold,hE0.2,k1,hL.n]⟩
 refine wpIn_mono (iG (fl:=false) (ro:=some L.block) hmix _ _ hca (.inr hL.flat.1) _ _ σ h B w μ _ hST) ?_
 rintro e a₁ w₁ ⟨o,ρ₁,σ₁,μ₁,hq,hx,hF,hSR,hE,hz,-⟩
 cases o<;>cases e<;>simp only [jm] at hx<;>simp only [dD] at hq
 case normal.normal =>
  obtain ⟨hl1,hq⟩:=hq
  have hLoc1:=fG hF.pre hLoc
  obtain ⟨r1,hr1,hLR1⟩:=hSR.obj _ _ _ hl1 hLoc1
  have hrdy : r1.state=.ready:=by rw [hLR1.2.1];exact hL.st
  obtain ⟨hS2,hF2⟩:=Ak (l':={ l with state:=.busy }) (r':={ r1 with state:=.busy }) hSR hl1 hLoc1 hr1 (fun ⟨m1,m2,m3,m4,m5,m6,m7⟩=>⟨m1,rfl,m3,m4,m5,m6,m7⟩)
  refine ⟨_,run_beginRound hr1 hrdy, ?_⟩
  have hF12:=hF.trans hF2
  refine wpIn_mono (iG (fl:=false) (ro:=some L.block) hmix _ _ hcb (.inr hL.flat.2) _ _ _ hq B _ _ _ ⟨hS2,hG.ext hF12.ext,hE.ext hF2.ext,hz⟩) ?_
  rintro e a₂ w₂ ⟨o,ρ₂,σ₂,μ₂,hq,hx,hF3,hSR3,hE3,hz3,-⟩
  have hF123:=hF12.trans hF3
  have key : ∀ (jump : Option Code) (l' : kG) (b : Bool),l'={ l with state:=if jump.isNone then .ready else .done,pending:=jump }→b=jump.isNone→σ₂[id]?=some (.loop { l with state:=.busy })→R (.ret (.bool b)) (σ₂.set id (.loop l')) →
    ∃ v w',(Instr.endRound L.block jump).run P w₂=.ok v w'∧(∃ rr σ' μ',R rr σ'∧Frame w σ μ w' σ' μ'∧SR B w' σ' μ'∧nG w' (OO B σ' μ') μ' rr (.returned v)):=by
   intro jump l' b he hb hl2 hR
   have hLoc2:=fG hF3.pre hLoc1
   obtain ⟨r2,hr2,hLR2⟩:=hSR3.obj _ _ _ hl2 hLoc2
   obtain ⟨hS4,hF4⟩:=Ak (l':=l') (r':={ r2 with state:=if jump.isNone then .ready else .done,pending:=jump }) hSR3 hl2 hLoc2 hr2 (fun ⟨m1,m2,m3,m4,m5,m6,m7⟩=>by subst he;exact ⟨m1,rfl,rfl,m4,m5,m6,m7⟩)
   refine ⟨_,_,run_endRound jump hr2,_,_,_,hR,hF123.trans hF4,hS4, ?_⟩
   subst hb
   simp [nG,VR]
  have hrd : ({ l with state:=.ready,pending:=none } : kG)=l:=by
   have h1:=hL.st;have h2:=hL.pe
   cases l
   simp only at h1 h2
   subst h1 h2
   rfl
  cases o<;>cases e<;>simp only [jm] at hx<;>simp only [pI] at hq
  ·exact key none l true (by simp only [Option.isNone_none,if_true];exact hrd.symm) rfl hq.1 hq.2
  ·subst hx
   exact key (some (.exit _)) _ false rfl rfl hq.1 hq.2
  ·exact key (some .ret) _ false rfl rfl hq.1 hq.2
end Go.V
namespace Go.V
variable {P : Program} {G : Nat→Option (List VV)}
theorem qY {n : Nat} {σ : Store} {x : VV} (h : x.isPure=true) : fz n σ x=some x:=by
 cases n<;>simp [fz,h]
theorem Wp {lab : FuncId→Bool} {f : FuncId} {F : VG} {ys : List VV} {x : VV} (hG : Jw G) (hmix : P.follows .mixedOrders=true) (hf : dU P lab f=some F) (hn : ys.length≤F.n) (hp : VV.ak ys=true) (hx : x.isPure=true)
  (h : iO P G F.code (rO P F.res fun r σ=>∃ y n,r=.ret y∧fz n (σ.map Obj.fr) y=some x) (dH 0 ys) []) : PV P G f ys x :=
 ⟨hG,hp,hx,Ef hmix hf hn h⟩
def Xe (P : Program) (t : TypeId) (v : VV) (σ : Store) : Option aS:=match v with
 | .ptr cells off=>jY P t cells off σ
 | .mptr id off=>match dY σ id with
  | some cells=>jY P t cells off σ
  | none=>none
 | _=>none
def Xd (P : Program) (t : TypeId) (a x : VV) (σ : Store) : Option aS:=match a with
 | .mptr id off=>match σ[id]? with
  | some (.own cells)=>some ⟨eH P t=some x.cells.length∧off+x.cells.length≤cells.length∧aQ x.cells=true,.undef,σ.set id (.own (splice cells off x.cells))⟩
  | _=>none
 | _=>none
def IC (c a b : VV) (σ : Store) : Option aS:=match c with
 | .bool t=>okV (if t then a else b) σ
 | _=>none
def Xf (P : Program) (t : TypeId) (σ : Store) : Option aS:=match bG P t with
 | some z=>if aQ z then okV (.mptr σ.length 0) (σ++[.own z]) else none
 | none=>none
def Rt (x : VV) (σ : Store) : Option aS:=some ⟨aQ x.cells=true,.mptr σ.length 0,σ++[.own x.cells]⟩
def GV (P : Program) (t : TypeId) (ps : List (Nat × VV)) (σ : Store) : Option aS:=match bG P t,jK P t with
 | some z,some true=>(qo (bH P t) z ps).map fun cs=>⟨True,.agg cs,σ⟩
 | _,_=>none
def TP (P : Program) (t : TypeId) (n : Nat) (ps : List (Nat × VV)) (σ : Store) : Option aS:=match iF P t with
 | some e=>match eH P e,bG P e with
  | some k,some z=>if n*k > 16777216∨z.length≠k∨k=0 then none else (qo (fun i=>some (i*k,k)) (rep z n) ps).map fun cs=>⟨True,.sl n cs true,σ⟩
  | _,_=>none
 | none=>none
def Rl (v : VV) (σ : Store) : Option aS:=match v with
 | .ptr cells off=>okV (.ptr cells off) σ
 | .mptr id off=>okV (.mptr id off) σ
 | _=>none
def Us (P : Program) (t : TypeId) (v : VV) (σ : Store) : Option aS:=match Kz P t with
 | some false=>okV (.ifc t v) σ
 | _=>none
def QZ (v : VV) (i : Nat) (σ : Store) : Option aS:=match v with
 | .tup vs=>match vs[i]? with
  | some v=>okV v σ
  | none=>none
 | _=>none
def Vb (P : Program) (s : TypeId) (v : VV) (f : Nat) (σ : Store) : Option aS:=match IX P s f,v with
 | some (t,off),.agg cells=>nC P t cells off σ
 | _,_=>none
def QL (P : Program) (t : TypeId) (x : VV) (lo hi mx : Option (Option Int)) (σ : Store) : Option aS:=match lo,hi,mx with
 | some lo,some hi,some mx=>dX P t x lo hi mx σ
 | _,_,_=>none
def oo (P : Program) (G : Nat→Option (List VV)) (op : Op) (ty : TypeId) (ρ : Env) (σ : Store) : Option aS:=dZ P G ρ σ ⟨none,op,ty, "",#[],none⟩
section
variable {ρ : Env} {σ : Store} {ty : TypeId}
theorem Qb {x : Operand} : oo P G (.move x) ty ρ σ=okV (ev G ρ x) σ:=rfl
theorem JE {x : Operand} : oo P G (.assign x) ty ρ σ=okV (ev G ρ x) σ:=rfl
theorem Ru {c a b : Operand} : oo P G (.pick c a b) ty ρ σ=IC (ev G ρ c) (ev G ρ a) (ev G ρ b) σ:=rfl
theorem Oi {t : TypeId} : oo P G (.alloc t) ty ρ σ=Xf P t σ:=rfl
theorem U2 {t : TypeId} {x : Operand} : oo P G (.box t x) ty ρ σ=Rt (ev G ρ x) σ:=rfl
theorem O8 {t : TypeId} {ps : Array (Nat × Operand)} : oo P G (.build t ps) ty ρ σ=GV P t (ps.toList.map fun p=>(p.1,ev G ρ p.2)) σ:=rfl
theorem UO {t : TypeId} {n : Nat} {ps : Array (Nat × Operand)} : oo P G (.buildSlice t n ps) ty ρ σ=TP P t n (ps.toList.map fun p=>(p.1,ev G ρ p.2)) σ:=rfl
theorem Qp {t : TypeId} {a : Operand} : oo P G (.load t a) ty ρ σ=Xe P t (ev G ρ a) σ:=rfl
theorem NH {t : TypeId} {a x : Operand} : oo P G (.store t a x) ty ρ σ=Xd P t (ev G ρ a) (ev G ρ x) σ:=rfl
theorem Ug {a : Operand} : oo P G (.nilCheck a) ty ρ σ=Rl (ev G ρ a) σ:=rfl
theorem U5 {op : BinOp} {t u : TypeId} {x y : Operand} : oo P G (.binOp op t x y u) ty ρ σ=mV P op t x y (ev G ρ x) (ev G ρ y) σ:=rfl
theorem WW {op : UnOp} {t : TypeId} {x : Operand} : oo P G (.unOp op t x) ty ρ σ=zT op (ev G ρ x) σ:=rfl
theorem RV {s d : TypeId} {x : Operand} : oo P G (.convert s d x) ty ρ σ=eY P s d (ev G ρ x) σ:=rfl
theorem Ue {t : TypeId} {x : Operand} : oo P G (.makeInterface t x) ty ρ σ=Us P t (ev G ρ x) σ:=rfl
theorem WH {f : FuncId} {first caps : Array Operand} : oo P G (.makeFunc (.func f) first caps) ty ρ σ=okV (.fn (.func f) (first.toList.map (ev G ρ)) (caps.toList.map (ev G ρ))) σ:=rfl
theorem Vd {t : TypeId} : oo P G (.makeMap t none) ty ρ σ=okV (.mmap σ.length) (σ++[.mp []]):=rfl
theorem UC {t : TypeId} {l c : Operand} : oo P G (.makeSlice t l c) ty ρ σ=gy P t (ev G ρ l) (ev G ρ c) σ:=rfl
theorem NS {t : TypeId} {x : Operand} {lo hi mx : Option Operand} : oo P G (.slice t x lo hi mx) ty ρ σ=QL P t (ev G ρ x) (jy G ρ lo) (jy G ρ hi) (jy G ρ mx) σ:=rfl
theorem BI {s : TypeId} {x : Operand} {f : Nat} : oo P G (.fieldAddr s x f) ty ρ σ=jq P s (ev G ρ x) f σ:=rfl
theorem Oa {s : TypeId} {x : Operand} {f : Nat} : oo P G (.field s x f) ty ρ σ=Vb P s (ev G ρ x) f σ:=rfl
theorem Di {t : TypeId} {x i : Operand} : oo P G (.indexAddr t x i) ty ρ σ=dI P t (ev G ρ x) (ev G ρ i) σ:=rfl
theorem Pm {t : TypeId} {x i : Operand} : oo P G (.index t x i) ty ρ σ=jc P t (ev G ρ x) (ev G ρ i) σ:=rfl
theorem JR {x : Operand} {t a : TypeId} {c : Bool} : oo P G (.typeAssert x t a c) ty ρ σ=iP P (ev G ρ x) a c σ:=rfl
theorem Gn {x : Operand} {i : Nat} : oo P G (.extract x i) ty ρ σ=QZ (ev G ρ x) i σ:=rfl
theorem Iq {b : Builtin} {args : Array Operand} {ts : Array TypeId} : oo P G (.call ⟨.builtin b,args,ts⟩) ty ρ σ=je P b ts (args.toList.map (ev G ρ)) σ:=rfl
end
def eF (P : Program) (G : Nat→Option (List VV)) (o : Option aS) (d : Option Nat) (r : List VO) (Q : Out→Env→Store→Prop) (ρ : Env) : Prop:=match o with
 | some o=>o.pre∧bM P G r Q (dB ρ d o.val) o.st
 | none=>False
def NW (P : Program) (G : Nat→Option (List VV)) (f : FuncId) (xs : List VV) (d : Option Nat) (r : List VO) (Q : Out→Env→Store→Prop) (ρ : Env) (σ : Store) : Prop :=
 CV P G f xs σ (gZ (fun x σ'=>bM P G r Q (dB ρ d x) σ') (fun x σ'=>Q (.panic x) ρ σ'))
def Uj (P : Program) (G : Nat→Option (List VV)) (id : Nat) (xs : List VV) (d : Option Nat) (r : List VO) (Q : Out→Env→Store→Prop) (ρ : Env) (σ : Store) : Prop :=
 YV P G id xs σ (gZ (fun x σ'=>bM P G r Q (dB ρ d x) σ') (fun x σ'=>Q (.panic x) ρ σ'))
def Iu (P : Program) (G : Nat→Option (List VV)) (g : VV) (ps : List Nat) (n : Nat) (va vb : aA) (x y : Code) (Q : Out→Env→Store→Prop) (ρ : Env) (σ : Store) : Prop:=match g with
 | .fn (.func f) first caps=>ay P f=true∧∀ l,sZ l ρ ps n va vb x y→CV P G f (first++[.yield σ.length]++caps) (σ++[.loop l]) (Ih σ.length Q ρ)
 | _=>False
def EN (P : Program) (G : Nat→Option (List VV)) (fv : VV) (xs : List VV) (d : Option Nat) (r : List VO) (Q : Out→Env→Store→Prop) (ρ : Env) (σ : Store) : Prop:=match fv with
 | .fn (.func g) first caps=>ay P g=true∧NW P G g (first++xs++caps) d r Q ρ σ
 | .yield id=>Uj P G id xs d r Q ρ σ
 | _=>False
def yF (P : Program) (G : Nat→Option (List VV)) (v : VV) (a b : aA) (Q : Out→Env→Store→Prop) (ρ : Env) (σ : Store) : Prop:=match v with
 | .bool t=>if t=true then iO P G a Q ρ σ else iO P G b Q ρ σ
 | _=>False
def Fq (P : Program) (G : Nat→Option (List VV)) (g : Option Bool) (op : Op) (ty : TypeId) (d : Option Nat) (r : List VO) (Q : Out→Env→Store→Prop) (ρ : Env) (σ : Store) : Prop:=match g with
 | some true=>bM P G (⟨d,op,ty,none⟩::r) Q ρ σ
 | some false=>bM P G r Q (dB ρ d (.tup [])) σ
 | none=>False
section
variable {Q : Out→Env→Store→Prop} {ρ : Env} {σ : Store}
theorem GU {p : Prop} {v : VV} {s : Store} {d : Nat} {r : List VO} : eF P G (some ⟨p,v,s⟩) (some d) r Q ρ=(p∧bM P G r Q ((d,v)::ρ) s):=_root_.id rfl
theorem Hr {p : Prop} {v : VV} {s : Store} {r : List VO} : eF P G (some ⟨p,v,s⟩) none r Q ρ=(p∧bM P G r Q ρ s):=_root_.id rfl
theorem Nh {g : FuncId} {first caps xs : List VV} {d : Option Nat} {r : List VO} (h : ay P g=true) : EN P G (.fn (.func g) first caps) xs d r Q ρ σ=NW P G g (first++xs++caps) d r Q ρ σ:=by simp [EN,h]
theorem JO {f : FuncId} {first caps : List VV} {ps : List Nat} {n : Nat} {va vb : aA} {x y : Code} (h : ay P f=true) : Iu P G (.fn (.func f) first caps) ps n va vb x y Q ρ σ=(∀ l,sZ l ρ ps n va vb x y→CV P G f (first++[.yield σ.length]++caps) (σ++[.loop l]) (Ih σ.length Q ρ)):=by simp [Iu,h]
theorem Gp {g : Operand} {ps : List Nat} {n : Nat} {va vb : aA} {x y : Code} : iO P G (.rangeF g ps n va vb x y) Q ρ σ=Iu P G (ev G ρ g) ps n va vb x y Q ρ σ:=_root_.id rfl
theorem Gi {a b : aA} : yF P G (.bool true) a b Q ρ σ=iO P G a Q ρ σ:=by simp [yF]
theorem Ec {a b : aA} : yF P G (.bool false) a b Q ρ σ=iO P G b Q ρ σ:=by simp [yF]
theorem aG {t : Bool} {a b : aA} (h1 : t=true→iO P G a Q ρ σ) (h2 : t=false→iO P G b Q ρ σ) : yF P G (.bool t) a b Q ρ σ:=by cases t<;>simp_all [yF]
theorem Il {op : Op} {ty : TypeId} {d : Option Nat} {r : List VO} : Fq P G (some true) op ty d r Q ρ σ=bM P G (⟨d,op,ty,none⟩::r) Q ρ σ:=_root_.id rfl
theorem EC {op : Op} {ty : TypeId} {d : Option Nat} {r : List VO} : Fq P G (some false) op ty d r Q ρ σ=bM P G r Q (dB ρ d (.tup [])) σ:=_root_.id rfl
theorem wZ {t : Bool} {op : Op} {ty : TypeId} {d : Option Nat} {r : List VO} (h1 : t=true→bM P G (⟨d,op,ty,none⟩::r) Q ρ σ) (h2 : t=false→bM P G r Q (dB ρ d (.tup [])) σ) : Fq P G (some t) op ty d r Q ρ σ:=by
 cases t
 ·exact h2 rfl
 ·exact h1 rfl
theorem OG : iO P G .skip Q ρ σ=Q .normal ρ σ:=_root_.id rfl
theorem OJ {id : Nat} : iO P G (.exit id) Q ρ σ=Q (.exit id) ρ σ:=_root_.id rfl
theorem QS : iO P G .ret Q ρ σ=Q .ret ρ σ:=_root_.id rfl
theorem QF {a b : aA} : iO P G (.seq a b) Q ρ σ=iO P G a (dD (iO P G b Q) Q) ρ σ:=_root_.id rfl
theorem O6 {c : Operand} {a b : aA} : iO P G (.cond c a b) Q ρ σ=yF P G (ev G ρ c) a b Q ρ σ:=_root_.id rfl
theorem JZ {id : Nat} {b : aA} : iO P G (.block id b) Q ρ σ=iO P G b (fD id Q) ρ σ:=_root_.id rfl
theorem Qj {ops : List VO} : iO P G (.reg ops) Q ρ σ=bM P G ops Q ρ σ:=_root_.id rfl
theorem CJ {K : Env→Store→Prop} : dD K Q .normal ρ σ=K ρ σ:=_root_.id rfl
theorem Gz {K : Env→Store→Prop} {i : Nat} : dD K Q (.exit i) ρ σ=Q (.exit i) ρ σ:=_root_.id rfl
theorem KW {K : Env→Store→Prop} : dD K Q .ret ρ σ=Q .ret ρ σ:=_root_.id rfl
theorem xH {id : Nat} : fD id Q .normal ρ σ=Q .normal ρ σ:=_root_.id rfl
theorem Dk {id : Nat} : fD id Q .ret ρ σ=Q .ret ρ σ:=_root_.id rfl
theorem su {id j : Nat} : fD id Q (.exit j) ρ σ=if j=id then Q .normal ρ σ else Q (.exit j) ρ σ:=by
 simp only [fD]
 split<;>rfl
theorem Oh {rs : List ResultVar} {R : gY→Store→Prop} : rO P rs R .ret ρ σ=resV P rs ρ σ (fun xs=>R (.ret (lI xs)) σ):=_root_.id rfl
theorem Fb {rs : List ResultVar} {R : gY→Store→Prop} : rO P rs R .normal ρ σ=resV P rs ρ σ (fun xs=>R (.ret (lI xs)) σ):=_root_.id rfl
theorem Og : bM P G [] Q ρ σ=Q .normal ρ σ:=_root_.id rfl
theorem aX {op : Op} {ty : TypeId} {d : Option Nat} {r : List VO} (h1 : ∀ f as ts,op≠.call ⟨.value f,as,ts⟩) (h2 : ∀ x,op≠.panic x) : bM P G (⟨d,op,ty,none⟩::r) Q ρ σ=eF P G (oo P G op ty ρ σ) d r Q ρ:=by
 have : ∀ (K KP : VV→Store→Prop),rY P G op ty ρ σ K KP=UL P G op ty ρ σ K:=by
  intro K KP
  unfold rY
  split
  ·exact absurd rfl (h1 _ _ _)
  ·exact absurd rfl (h2 _)
  ·rfl
 simp only [bM,gX,this,UL,eF,oo]
 cases dZ P G ρ σ ⟨none,op,ty, "",#[],none⟩ with
 | none=>simp
 | some o=>simp
theorem KY {f : Operand} {args : Array Operand} {ts : Array TypeId} {ty : TypeId} {d : Option Nat} {r : List VO} : bM P G (⟨d,.call ⟨.value f,args,ts⟩,ty,none⟩::r) Q ρ σ=EN P G (ev G ρ f) (args.toList.map (ev G ρ)) d r Q ρ σ:=_root_.id rfl
theorem Ku {d : Option Nat} {op : Op} {ty : TypeId} {r : List VO} {t : Nat} {b : Bool} : bM P G (⟨d,op,ty,some (t,b)⟩::r) Q ρ σ=Fq P G (gX ρ (some (t,b))) op ty d r Q ρ σ:=by
 simp only [bM,Fq]
 cases gX ρ (some (t,b)) with
 | none=>rfl
 | some t=>cases t<;>rfl
end
end Go.V
namespace Go.V
variable {P : Program} {G : Nat→Option (List VV)}
section
variable {Q : Out→Env→Store→Prop} {ρ : Env} {σ : Store} {ty : TypeId} {d : Option Nat} {r : List VO}
@[go_sem] theorem Vs {x₀ : Operand} : bM P G (⟨d,.move x₀,ty,none⟩::r) Q ρ σ=eF P G (oo P G (.move x₀) ty ρ σ) d r Q ρ:=aX (by simp) (by simp)
@[go_sem] theorem SK {x₀ : Operand} : bM P G (⟨d,.assign x₀,ty,none⟩::r) Q ρ σ=eF P G (oo P G (.assign x₀) ty ρ σ) d r Q ρ:=aX (by simp) (by simp)
@[go_sem] theorem Vm {c₀ : Operand} {a₀ : Operand} {b₀ : Operand} : bM P G (⟨d,.pick c₀ a₀ b₀,ty,none⟩::r) Q ρ σ=eF P G (oo P G (.pick c₀ a₀ b₀) ty ρ σ) d r Q ρ:=aX (by simp) (by simp)
@[go_sem] theorem Va {t₀ : TypeId} : bM P G (⟨d,.alloc t₀,ty,none⟩::r) Q ρ σ=eF P G (oo P G (.alloc t₀) ty ρ σ) d r Q ρ:=aX (by simp) (by simp)
@[go_sem] theorem VL {t₀ : TypeId} {x₀ : Operand} : bM P G (⟨d,.box t₀ x₀,ty,none⟩::r) Q ρ σ=eF P G (oo P G (.box t₀ x₀) ty ρ σ) d r Q ρ:=aX (by simp) (by simp)
@[go_sem] theorem Vh {t₀ : TypeId} {ps₀ : Array (Nat × Operand)} : bM P G (⟨d,.build t₀ ps₀,ty,none⟩::r) Q ρ σ=eF P G (oo P G (.build t₀ ps₀) ty ρ σ) d r Q ρ:=aX (by simp) (by simp)
@[go_sem] theorem LC {t₀ : TypeId} {n₀ : Nat} {ps₀ : Array (Nat × Operand)} : bM P G (⟨d,.buildSlice t₀ n₀ ps₀,ty,none⟩::r) Q ρ σ=eF P G (oo P G (.buildSlice t₀ n₀ ps₀) ty ρ σ) d r Q ρ:=aX (by simp) (by simp)
@[go_sem] theorem Vw {t₀ : TypeId} {a₀ : Operand} : bM P G (⟨d,.load t₀ a₀,ty,none⟩::r) Q ρ σ=eF P G (oo P G (.load t₀ a₀) ty ρ σ) d r Q ρ:=aX (by simp) (by simp)
@[go_sem] theorem Ud {t₀ : TypeId} {a₀ : Operand} {x₀ : Operand} : bM P G (⟨d,.store t₀ a₀ x₀,ty,none⟩::r) Q ρ σ=eF P G (oo P G (.store t₀ a₀ x₀) ty ρ σ) d r Q ρ:=aX (by simp) (by simp)
@[go_sem] theorem PY {a₀ : Operand} : bM P G (⟨d,.nilCheck a₀,ty,none⟩::r) Q ρ σ=eF P G (oo P G (.nilCheck a₀) ty ρ σ) d r Q ρ:=aX (by simp) (by simp)
@[go_sem] theorem U1 {op₀ : BinOp} {t₀ : TypeId} {x₀ : Operand} {y₀ : Operand} {u₀ : TypeId} : bM P G (⟨d,.binOp op₀ t₀ x₀ y₀ u₀,ty,none⟩::r) Q ρ σ=eF P G (oo P G (.binOp op₀ t₀ x₀ y₀ u₀) ty ρ σ) d r Q ρ:=aX (by simp) (by simp)
@[go_sem] theorem Vt {op₀ : UnOp} {t₀ : TypeId} {x₀ : Operand} : bM P G (⟨d,.unOp op₀ t₀ x₀,ty,none⟩::r) Q ρ σ=eF P G (oo P G (.unOp op₀ t₀ x₀) ty ρ σ) d r Q ρ:=aX (by simp) (by simp)
@[go_sem] theorem RU {s₀ : TypeId} {t₀ : TypeId} {x₀ : Operand} : bM P G (⟨d,.convert s₀ t₀ x₀,ty,none⟩::r) Q ρ σ=eF P G (oo P G (.convert s₀ t₀ x₀) ty ρ σ) d r Q ρ:=aX (by simp) (by simp)
@[go_sem] theorem ZG {t₀ : TypeId} {x₀ : Operand} : bM P G (⟨d,.makeInterface t₀ x₀,ty,none⟩::r) Q ρ σ=eF P G (oo P G (.makeInterface t₀ x₀) ty ρ σ) d r Q ρ:=aX (by simp) (by simp)
@[go_sem] theorem PO {f₀ : Fn} {as₀ : Array Operand} {bs₀ : Array Operand} : bM P G (⟨d,.makeFunc f₀ as₀ bs₀,ty,none⟩::r) Q ρ σ=eF P G (oo P G (.makeFunc f₀ as₀ bs₀) ty ρ σ) d r Q ρ:=aX (by simp) (by simp)
@[go_sem] theorem QU {t₀ : TypeId} {m₀ : Option Operand} : bM P G (⟨d,.makeMap t₀ m₀,ty,none⟩::r) Q ρ σ=eF P G (oo P G (.makeMap t₀ m₀) ty ρ σ) d r Q ρ:=aX (by simp) (by simp)
@[go_sem] theorem OA {t₀ : TypeId} {l₀ : Operand} {c₀ : Operand} : bM P G (⟨d,.makeSlice t₀ l₀ c₀,ty,none⟩::r) Q ρ σ=eF P G (oo P G (.makeSlice t₀ l₀ c₀) ty ρ σ) d r Q ρ:=aX (by simp) (by simp)
@[go_sem] theorem TQ {t₀ : TypeId} {x₀ : Operand} {l₀ : Option Operand} {h₀ : Option Operand} {m₀ : Option Operand} : bM P G (⟨d,.slice t₀ x₀ l₀ h₀ m₀,ty,none⟩::r) Q ρ σ=eF P G (oo P G (.slice t₀ x₀ l₀ h₀ m₀) ty ρ σ) d r Q ρ:=aX (by simp) (by simp)
@[go_sem] theorem OW {t₀ : TypeId} {x₀ : Operand} {f₀ : Nat} : bM P G (⟨d,.fieldAddr t₀ x₀ f₀,ty,none⟩::r) Q ρ σ=eF P G (oo P G (.fieldAddr t₀ x₀ f₀) ty ρ σ) d r Q ρ:=aX (by simp) (by simp)
@[go_sem] theorem aaB {t₀ : TypeId} {x₀ : Operand} {f₀ : Nat} : bM P G (⟨d,.field t₀ x₀ f₀,ty,none⟩::r) Q ρ σ=eF P G (oo P G (.field t₀ x₀ f₀) ty ρ σ) d r Q ρ:=aX (by simp) (by simp)
@[go_sem] theorem OE {t₀ : TypeId} {x₀ : Operand} {i₀ : Operand} : bM P G (⟨d,.indexAddr t₀ x₀ i₀,ty,none⟩::r) Q ρ σ=eF P G (oo P G (.indexAddr t₀ x₀ i₀) ty ρ σ) d r Q ρ:=aX (by simp) (by simp)
@[go_sem] theorem TF {t₀ : TypeId} {x₀ : Operand} {i₀ : Operand} : bM P G (⟨d,.index t₀ x₀ i₀,ty,none⟩::r) Q ρ σ=eF P G (oo P G (.index t₀ x₀ i₀) ty ρ σ) d r Q ρ:=aX (by simp) (by simp)
@[go_sem] theorem QD {x₀ : Operand} {i₀ : Nat} : bM P G (⟨d,.extract x₀ i₀,ty,none⟩::r) Q ρ σ=eF P G (oo P G (.extract x₀ i₀) ty ρ σ) d r Q ρ:=aX (by simp) (by simp)
@[go_sem] theorem TD {t₀ : TypeId} {m₀ : Operand} {k₀ : Operand} {c₀ : Bool} : bM P G (⟨d,.lookup t₀ m₀ k₀ c₀,ty,none⟩::r) Q ρ σ=eF P G (oo P G (.lookup t₀ m₀ k₀ c₀) ty ρ σ) d r Q ρ:=aX (by simp) (by simp)
@[go_sem] theorem ML {t₀ : TypeId} {m₀ : Operand} {k₀ : Operand} {x₀ : Operand} : bM P G (⟨d,.mapUpdate t₀ m₀ k₀ x₀,ty,none⟩::r) Q ρ σ=eF P G (oo P G (.mapUpdate t₀ m₀ k₀ x₀) ty ρ σ) d r Q ρ:=aX (by simp) (by simp)
@[go_sem] theorem Sv {b : Builtin} {args : Array Operand} {ts : Array TypeId} : bM P G (⟨d,.call ⟨.builtin b,args,ts⟩,ty,none⟩::r) Q ρ σ=eF P G (oo P G (.call ⟨.builtin b,args,ts⟩) ty ρ σ) d r Q ρ:=aX (by simp) (by simp)
end
theorem ah {f : FuncId} {xs : List VV} {d : Option Nat} {r : List VO} {Q : Out→Env→Store→Prop} {ρ : Env} {σ : Store} {x : VV} (h : PV P G f xs x) (hk : bM P G r Q (dB ρ d x) σ) : NW P G f xs d r Q ρ σ:=nN h hk
attribute [go_sem] OG OJ QS QF O6 JZ Qj CJ Gz KW xH Dk su Oh Fb Og KY Ku GU Hr Nh JO Gp Gi Ec Il EC
attribute [go_sem] Qb JE Ru Oi U2 O8 UO Qp NH Ug U5 WW RV Ue WH Vd UC NS BI Oa Di Pm JR Gn Iq
attribute [go_sem] Xe Xd IC Xf Rt GV TP Rl Us QZ Vb QL okV mV zT gy jq dI jc iP je jY nC dY zh Fp He jy ev Env.get gX dB dH resV lI VV.cells splice WT rP
section
variable {σ : Store} {t tx s d : TypeId}
@[go_sem] theorem PS {k : IntKind} {n : Int} : eY P s d (.int k n) σ=match tint P d,(P.underlying s).isSome with | some k,true=>okV (.int k (k.wrap n)) σ | _,_=>none:=rfl
@[go_sem] theorem PX {b : List UInt8} : eY P s d (.str b) σ=if (ji P s && ji P d)=true then okV (.str b) σ else none:=rfl
@[go_sem] theorem MF : eY P s d .nils σ=match iF P s with
  | some e=>if tint P e=some .u8∧ji P d=true∧eH P e=some 1 then match eG σ 1 .nils with | some cells=>(bytesOf cells).map fun s=>⟨True,.str s,σ⟩ | none=>none else none
  | none=>none:=rfl
@[go_sem] theorem RJ {n : Nat} {c : List VV} {g : Bool} : eY P s d (.sl n c g) σ=match iF P s with
  | some e=>if tint P e=some .u8∧ji P d=true∧eH P e=some 1 then match eG σ 1 (.sl n c g) with | some cells=>(bytesOf cells).map fun s=>⟨True,.str s,σ⟩ | none=>none else none
  | none=>none:=rfl
@[go_sem] theorem PG {i o n z : Nat} : eY P s d (.bZ i o n z) σ=match iF P s with
  | some e=>if tint P e=some .u8∧ji P d=true∧eH P e=some 1 then match eG σ 1 (.bZ i o n z) with | some cells=>(bytesOf cells).map fun s=>⟨True,.str s,σ⟩ | none=>none else none
  | none=>none:=rfl
@[go_sem] theorem Vp {b : List UInt8} (h : P.underlying t=some .string) : aT P t (.str b) σ=okV (.int .i64 b.length) σ:=by simp [aT,h]
@[go_sem] theorem Ti {b : List UInt8} {lo hi mx : Option Int} : dX P t (.str b) lo hi mx σ=match ji P t,mx with
  | true,none=>some ⟨(bounds b.length lo hi).1,.str ((b.drop (bounds b.length lo hi).2.1).take ((bounds b.length lo hi).2.2-(bounds b.length lo hi).2.1)),σ⟩
  | _,_=>none:=rfl
@[go_sem] theorem RF {lo hi mx : Option Int} : dX P t .nils lo hi mx σ=match iF P t with
  | some e=>match eH P e with
   | some _=>some ⟨(bounds 0 lo hi).1∧mx=none,.nils,σ⟩
   | none=>none
  | none=>none:=rfl
@[go_sem] theorem Ui {n : Nat} {cells : List VV} {tight : Bool} {lo hi mx : Option Int} : dX P t (.sl n cells tight) lo hi mx σ=match iF P t with
  | some e=>match eH P e with
   | some k=>some ⟨(bounds n lo hi).1∧(mx=none∨(mx=some ((bounds n lo hi).2.2 : Int)∧mx=hi))∧cells.length=n*k,.sl ((bounds n lo hi).2.2-(bounds n lo hi).2.1) ((cells.drop ((bounds n lo hi).2.1*k)).take (((bounds n lo hi).2.2-(bounds n lo hi).2.1)*k)) (mx.isSome || (tight && decide ((bounds n lo hi).2.2=n))),σ⟩
   | none=>none
  | none=>none:=rfl
@[go_sem] theorem SG {id off n sz : Nat} {lo hi mx : Option Int} : dX P t (.bZ id off n sz) lo hi mx σ=match iF P t with
  | some e=>if eH P e=some sz∧mx=none then some ⟨(bounds n lo hi).1∧0 < sz,if (bounds n lo hi).2.1=(bounds n lo hi).2.2∧0 < (bounds n lo hi).2.1 then .sl 0 [] false else .bZ id (off+(bounds n lo hi).2.1*sz) ((bounds n lo hi).2.2-(bounds n lo hi).2.1) sz,σ⟩ else none
  | none=>none:=rfl
@[go_sem] theorem Qo {id off : Nat} {lo hi mx : Option Int} : dX P t (.mptr id off) lo hi mx σ=match sG P t with
  | some (n,e)=>match eH P e,mx,dY σ id with
   | some k,none,some cells=>some ⟨(bounds n lo hi).1∧(bounds n lo hi).2.1 < (bounds n lo hi).2.2∧0 < k∧off+n*k≤cells.length,.bZ id (off+(bounds n lo hi).2.1*k) ((bounds n lo hi).2.2-(bounds n lo hi).2.1) k,σ⟩
   | _,_,_=>none
  | none=>none:=rfl
@[go_sem] theorem Rk {z : Nat} : eG σ z .nils=some []:=rfl
@[go_sem] theorem Uz {z n : Nat} {cells : List VV} {g : Bool} : eG σ z (.sl n cells g)=if cells.length=n*z then some cells else none:=rfl
@[go_sem] theorem Tj {z id off n sz : Nat} : eG σ z (.bZ id off n sz)=match dY σ id with
  | some cells=>if sz=z∧off+n*sz≤cells.length then some ((cells.drop off).take (n*sz)) else none
  | none=>none:=rfl
end
attribute [go_sem] Option.map_some Option.map_none Option.bind_some true_and and_true List.map_cons List.map_nil List.cons_append List.nil_append List.append_nil List.length_cons List.length_nil List.getElem?_cons_zero List.getElem?_cons_succ List.getElem?_nil List.set_cons_zero List.set_cons_succ List.drop_zero List.drop_succ_cons List.take_zero List.take_succ_cons List.getD_cons_zero List.getD_cons_succ Bool.not_true Bool.not_false Bool.and_true Bool.true_and Bool.and_false Bool.false_and Bool.or_true Bool.true_or Bool.or_false Bool.false_or beq_self_eq_true if_true if_false reduceCtorEq aQ VV.aC List.all_cons List.all_nil qo VV.uD List.getD_nil Bool.false_eq_true beq_true beq_false
end Go.V
