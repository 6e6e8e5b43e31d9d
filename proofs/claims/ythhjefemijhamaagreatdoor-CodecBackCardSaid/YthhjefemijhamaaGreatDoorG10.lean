/- Texts V21 V22. -/
import Derived.Laws.Sem
import Derived.Test.YthhjefemijhamaaGreatDoorG09
set_option linter.unusedVariables false
set_option linter.unusedSimpArgs false
namespace Go.V
variable {P : Program} {G : Nat→Option (List VV)}
def paramEnv : Nat→List VV→Env
 | _,[]=>[]
 | i,x::xs=>(i,x)::paramEnv (i+1) xs
def resV (P : Program) : List ResultVar→Env→Store→(List VV→Prop)→Prop
 | [],_,_,K=>K []
 | .tmp t::r,ρ,σ,K=>resV P r ρ σ fun xs=>K (ρ.get t::xs)
 | .cell a t::r,ρ,σ,K=>match ρ.get a with
  | .mptr id off=>match objCells σ id with
   | some cells=>∃ out,loadV P t cells off σ=some out∧out.pre∧resV P r ρ σ fun xs=>K (out.val::xs)
   | none=>False
  | _=>False
def tupV : List VV→VV
 | [x]=>x
 | xs=>.tup xs
def retW (P : Program) (rs : List ResultVar) (R : CRes→Store→Prop) : Out→Env→Store→Prop
 | .normal,ρ,σ | .ret,ρ,σ=>resV P rs ρ σ fun xs=>R (.ret (tupV xs)) σ
 | .panic x,_,σ=>R (.panic x) σ
 | _,_,_=>False
structure FnV where
 code : VCode
 res : List ResultVar
 n : Nat
def fnV (P : Program) (lab : FuncId→Bool) (f : FuncId) : Option FnV:=match P.funcs[f]? with
 | some fn=>match fn.body with
  | some c=>(comp lab fn.ntmps c).map fun vc=>⟨vc,fn.results.toList,fn.ntmps⟩
  | none=>none
 | none=>none
theorem paramEnv_get : ∀ (xs : List VV) (i t : Nat),(paramEnv i xs).get t=if t < i then .undef else xs.getD (t-i) .undef
 | [],i,t=>by simp [paramEnv,Env.get]
 | x::xs,i,t=>by
  simp only [paramEnv,Env.get]
  by_cases h : i=t
  ·subst h;simp
  ·rw [if_neg h,paramEnv_get xs (i+1) t]
   by_cases h2 : t < i
   ·rw [if_pos (by omega),if_pos h2]
   ·rw [if_neg (by omega),if_neg h2]
    rw [show t-i=t-(i+1)+1 by omega]
    simp
theorem paramEnv_R {w : World} {O : Nat→Prop} {μ : List Loc} {xs : List VV} {vs : Array Value} {k : Nat} (h : VRs w O μ xs vs.toList) : EnvR w O μ (paramEnv 0 xs) (vs++Array.replicate k undef):=by
 intro t
 rw [paramEnv_get,if_neg (by omega),Nat.sub_zero]
 cases hx : xs[t]? with
 | none=>rw [List.getD_eq_getElem?_getD,hx];simp [VR]
 | some x =>
  rw [List.getD_eq_getElem?_getD,hx]
  obtain ⟨v,hv,hr⟩:=h.get hx
  rw [Array.getElem?_toList] at hv
  have hlt:=(Array.getElem?_eq_some_iff.1 hv).1
  have : (vs++Array.replicate k undef).getD t undef=v:=by
   rw [Array.getD_eq_getD_getElem?,Array.getElem?_append_left hlt,hv];rfl
  rw [this];exact hr
def resStep (tmps : Array Value) : ResultVar→Sem Value
 | .tmp t=>pure (tmps.getD t undef)
 | .cell a t=>do loadVar t (← asAddr (tmps.getD a undef))
theorem resV_run {B : Nat→Prop} {w : World} {σ : Store} {μ : List Loc} {ρ : Env} {tmps : Array Value} (hS : SR B w σ μ) (hE : EnvR w (OO B σ μ) μ ρ tmps) : ∀ (rs : List ResultVar) (K : List VV→Prop),resV P rs ρ σ K →
  ∃ xs vs,K xs∧VRs w (OO B σ μ) μ xs vs∧(rs.mapM (resStep tmps)).run P w=.ok vs w
 | [],K,h=>⟨[],[],h,by simp [VRs],by simp⟩
 | .tmp t::r,K,h=>by
  simp only [resV] at h
  obtain ⟨xs,vs,h1,h2,h3⟩:=resV_run hS hE r _ h
  refine ⟨_,tmps.getD t undef::vs,h1,by simp only [VRs];exact ⟨_,_,rfl,hE t,h2⟩, ?_⟩
  simp only [List.mapM_cons,Sem.run_bind,resStep,Sem.run_pure,Result.andThen,h3]
 | .cell a t::r,K,h=>by
  simp only [resV] at h
  split at h
  ·rename_i id off ha
   split at h
   ·rename_i cells hc
    obtain ⟨out,ho,hp,h⟩:=h
    obtain ⟨xs,vs,h1,h2,h3⟩:=resV_run hS hE r _ h
    have hv:=hE a
    rw [ha] at hv
    have hl:=load_good' (P:=P) (t:=t) hS hv (out:=out) (by simp only [hc];exact ho) hp
    obtain ⟨w',μ',u,k1,k2,k3,k4⟩:=hl
    simp only [VR] at hv
    obtain ⟨L,hL,hv⟩:=hv
    obtain ⟨e1,u',e2,e3⟩:=loadV_good (objCells_good hS hc hL).1 ho hp
    have hld : (loadVar t ⟨L.block,L.base+off,none⟩).run P w=.ok u' w:=by
     have e4 : (Instr.loadAt t (.pointer (some ⟨L.block,L.base+off,none⟩))).run P w=.ok u' w:=e2
     simpa [Instr.loadAt,Instr.sureAddr,Sem.run_bind] using e4
    refine ⟨_,u'::vs,h1,by simp only [VRs];exact ⟨_,_,rfl,e3,h2⟩, ?_⟩
    simp only [List.mapM_cons,Sem.run_bind,resStep,hv,asAddr,Sem.run_pure,Result.andThen,hld,h3]
   ·exact h.elim
  ·exact h.elim
theorem leave_marks {F : Fence} {n : Nat} {B : Nat→Prop} {w : World} {σ σ' : Store} {μ μ' : List Loc} {ρ' : Env} {fn : Func} {tmps : Array Value} {R : Ending→World→Prop} {u : FrameMode} (hu : u≠.run) :
  ∀ (Ds : List Nat) (w' : World),Ds.Nodup→(∀ D ∈ Ds,w.heap.size≤D∧w'.heap[D]?=some (.deferred (some []))∧¬ Owned σ' μ' D)→Frame w σ μ w' σ' μ'→SR B w' σ' μ'→EnvR w' (OO B σ' μ') μ' ρ' tmps →
   (∀ w'',Frame w σ μ w'' σ' μ'→SR B w'' σ' μ'→EnvR w'' (OO B σ' μ') μ' ρ' tmps→Ext w' (OO B σ' μ') μ' w'' (OO B σ' μ') μ'→LeavesIn F n P fn tmps R [] u w'') →
   LeavesInM F n P fn tmps R (Ds.map (fun D=>({ target:=.collected D,args:=#[] } : Deferred))) u w'
 | [],w',_,_,hF,hS,hE,h=>h w' hF hS hE (.refl _ _ _)
 | D::Ds,w',hn,hD,hF,hS,hE,h=>by
  obtain ⟨h1,h2,h3⟩:=hD D (by simp)
  have hlt : D < w'.heap.size:=(Array.getElem?_eq_some_iff.1 h2).1
  obtain ⟨W,hW⟩ : ∃ W,W=w'.putObj D (.deferred none):=⟨_,rfl⟩
  have hsz : W.heap.size=w'.heap.size:=by rw [hW];simp
  have hne : ∀ b,b≠D→W.heap[b]?=w'.heap[b]?:=fun b hb=>by rw [hW];exact World.putObj_heap_other hb
  have hX : Ext w' (OO B σ' μ') μ' W (OO B σ' μ') μ':=by
   refine ⟨fun b o v _ hv=>?_,fun _ h=>.inl h,List.prefix_refl _⟩
   have : b≠D:=by
    rintro rfl
    unfold World.cell? at hv
    rw [h2] at hv
    cases hv
   rw [cell_of_heap (hne b this)];exact hv
  have hF1 : Frame w σ μ W σ' μ':=by
   refine ⟨by rw [hsz];exact hF.size,fun b hb hnb=>?_,hF.own,hF.pre,by rw [hW];exact hF.os,by rw [hW];exact hF.tape,by rw [hW];exact hF.output⟩
   rw [hne b (by omega)];exact hF.heap b hb hnb
  have hS1 : SR B W σ' μ':=by
   refine ⟨hS.len,fun id o L ho hL=>(hS.obj id o L ho hL).ext hX (fun how=>?_),hS.apart,hS.out,fun b hb=>by rw [hsz];exact hS.low b hb⟩
   exact hne _ (fun e=>h3 ⟨id,L,o,hL,e,ho,how⟩)
  have hn':=List.nodup_cons.1 hn
  refine ⟨hu,.inl ⟨D,W,rfl,by rw [hW];exact run_takeDeferred h2, ?_⟩⟩
  refine leave_marks hu Ds W hn'.2 (fun E hE'=>?_) hF1 hS1 (hE.ext hX) (fun w'' k1 k2 k3 k4=>h w'' k1 k2 k3 ⟨fun b o v hb hv=>k4.cell b o v hb (hX.cell b o v hb hv),fun _ h=>.inl h,List.prefix_refl _⟩)
  obtain ⟨m1,m2,m3⟩:=hD E (by simp [hE'])
  exact ⟨m1,(hne E (fun e=>hn'.1 (e ▸ hE'))).trans m2,m3⟩
theorem CV_of {lab : FuncId→Bool} {f : FuncId} {F : FnV} {xs : List VV} {σ : Store} {R : CRes→Store→Prop} (hmix : P.follows .mixedOrders=true) (hf : fnV P lab f=some F) (hn : xs.length≤F.n)
  (h : wpV P G F.code (retW P F.res R) (paramEnv 0 xs) σ) : CV P G f xs σ R:=by
 unfold fnV at hf
 split at hf
 ·rename_i fn hfn
  split at hf
  ·rename_i c hc
   simp only [Option.map_eq_some_iff] at hf
   obtain ⟨vc,hvc,rfl⟩:=hf
   intro B w μ vs hS hG hv
   simp only at h hn
   have hlen : vs.size=xs.length:=by have:=hv.length;simpa using this
   refine callsIn_of_wp_marks hfn hc trivial ?_
   refine wpIn_mono (comp_sound (fl:=false) (ro:=none) hmix c vc hvc (.inl ⟨rfl,rfl⟩) _ _ σ h B w μ _ ⟨hS,hG,paramEnv_R hv,by simp;omega⟩) ?_
   rintro e a' w' ⟨o,ρ',σ',μ',hq,hx,hF,hSR,hE,hz,Ds,-,hd1,hd2,hd3⟩
   simp only [List.append_nil] at hd1
   have fin : ∀ w',Frame w σ μ w' σ' μ'→SR B w' σ' μ'→EnvR w' (OO B σ' μ') μ' ρ' a'.tmps→(resV P fn.results.toList ρ' σ' fun xs=>R (.ret (tupV xs)) σ')→∃ v,(results fn a'.tmps).run P w'=.ok v w'∧∃ r σ'' μ'',R r σ''∧Frame w σ μ w' σ'' μ''∧SR B w' σ'' μ''∧EndR w' (OO B σ'' μ'') μ'' r (.returned v):=by
    intro w' hF hSR hE hr
    obtain ⟨ys,us,k1,k2,k3⟩:=resV_run hSR hE _ _ hr
    refine ⟨if h : us.toArray.size=1 then us.toArray[0] else .tuple us.toArray, ?_,.ret (tupV ys),σ',μ',k1,hF,hSR, ?_⟩
    ·have e : (fn.results.mapM (resStep a'.tmps)).run P w'=.ok us.toArray w':=by
      rw [Array.mapM_eq_mapM_toList]
      simp [k3]
     have e' : results fn a'.tmps=(do let vs ← fn.results.mapM (resStep a'.tmps);pure (if h : vs.size=1 then vs[0] else .tuple vs)):=by
      unfold results
      congr 1
     rw [e',Sem.run_bind,e]
     rfl
    ·simp only [EndR]
     have hl:=k2.length
     split
     ·rename_i h1
      simp only [List.size_toArray] at h1
      match us,ys,h1,hl with
      | [u],[y],_,_ =>
       simp only [VRs] at k2
       obtain ⟨y',l,e,k2,rfl⟩:=k2
       cases e
       exact k2
     ·rename_i h1
      simp only [List.size_toArray] at h1
      have : tupV ys=.tup ys:=by
       unfold tupV
       split
       ·simp at hl;omega
       ·rfl
      rw [this]
      simp only [VR]
      exact ⟨_,rfl,by simpa using k2⟩
   cases o<;>cases e<;>simp only [ExitR] at hx<;>simp only [retW] at hq
   ·show LeavesInM _ _ _ _ _ _ _ _ _
    rw [hd1]
    exact leave_marks (by simp) Ds w' hd2 hd3 hF hSR hE fun w'' k1 k2 k3 _=>fin w'' k1 k2 k3 hq
   ·show LeavesInM _ _ _ _ _ _ _ _ _
    rw [hd1]
    exact leave_marks (by simp) Ds w' hd2 hd3 hF hSR hE fun w'' k1 k2 k3 _=>fin w'' k1 k2 k3 hq
   ·obtain ⟨v,rfl,hv⟩:=hx
    show LeavesInM _ _ _ _ _ _ _ _ _
    rw [hd1]
    exact leave_marks (by simp) Ds w' hd2 hd3 hF hSR hE fun w'' k1 k2 k3 k4=>⟨_,σ',μ',hq,k1,k2,v,rfl,VR.ext k4 _ _ hv⟩
  ·cases hf
 ·cases hf
def putPs : List Nat→List VV→Env→Env
 | p::ps,x::xs,ρ=>putPs ps xs ((p,x)::ρ)
 | _,_,ρ=>ρ
theorem putPs_R {w : World} {O : Nat→Prop} {μ : List Loc} : ∀ (ps : List Nat) (xs : List VV) (vs : List Value) (ρ : Env) (tmps : Array Value),(∀ p ∈ ps,p < tmps.size)→VRs w O μ xs vs→EnvR w O μ ρ tmps →
  EnvR w O μ (putPs ps xs ρ) ((ps.zip vs).foldl (fun t (p,v)=>t.setIfInBounds p v) tmps)∧((ps.zip vs).foldl (fun t (p,v)=>t.setIfInBounds p v) tmps).size=tmps.size
 | [],xs,vs,ρ,tmps,_,_,hE=>by simpa [putPs] using hE
 | p::ps,[],vs,ρ,tmps,_,hv,hE=>by
  simp only [VRs] at hv;subst hv
  simpa [putPs] using hE
 | p::ps,x::xs,vs,ρ,tmps,hp,hv,hE=>by
  simp only [VRs] at hv
  obtain ⟨y,ys,rfl,h1,h2⟩:=hv
  have hE' : EnvR w O μ ((p,x)::ρ) (tmps.setIfInBounds p y):=by
   have:=EnvR.put (a:={ tmps:=tmps,defers:=[] }) hE h1 (some p) (fun t ht=>by cases ht;exact hp p (by simp))
   simpa [putV,Act.put] using this
  have:=putPs_R ps xs ys _ (tmps.setIfInBounds p y) (fun q hq=>by simpa using hp q (by simp [hq])) h2 hE'
  simpa [putPs] using this
def roundQ (id : Nat) (l : LoopV) (R : CRes→Store→Prop) : Out→Env→Store→Prop
 | .normal,_,σ=>σ[id]?=some (.loop { l with state:=.busy })∧R (.ret (.bool true)) (σ.set id (.loop l))
 | .ret,_,σ=>σ[id]?=some (.loop { l with state:=.busy })∧R (.ret (.bool false)) (σ.set id (.loop { l with state:=.done,pending:=some .ret }))
 | .exit i,_,σ=>σ[id]?=some (.loop { l with state:=.busy })∧R (.ret (.bool false)) (σ.set id (.loop { l with state:=.done,pending:=some (.exit i) }))
 | _,_,_=>False
theorem loop_turn {B : Nat→Prop} {w : World} {σ : Store} {μ : List Loc} {id : Nat} {l l' : LoopV} {L : Loc} {r r' : Loop} (hS : SR B w σ μ) (hl : σ[id]?=some (.loop l)) (hL : μ[id]?=some L) (hr : w.heap[L.block]?=some (.loop r))
  (hLR : LoopR w (OO B σ μ) μ l r→LoopR w (OO B σ μ) μ l' r') : SR B (w.putObj L.block (.loop r')) (σ.set id (.loop l')) μ∧Frame w σ μ (w.putObj L.block (.loop r')) (σ.set id (.loop l')) μ:=by
 obtain ⟨r0,h0,h1⟩:=hS.obj _ _ _ hl hL
 rw [hr] at h0
 cases h0
 have hlt : L.block < w.heap.size:=(Array.getElem?_eq_some_iff.1 hr).1
 have hne : ∀ b,b≠L.block→(w.putObj L.block (.loop r')).heap[b]?=w.heap[b]?:=fun b hb=>World.putObj_heap_other hb
 have hown : ∀ b,Owned (σ.set id (.loop l')) μ b↔Owned σ μ b:=by
  have hi : id < σ.length:=(List.getElem?_eq_some_iff.1 hl).1
  intro b
  constructor
  ·rintro ⟨i,L',o,k1,k2,k3,k4⟩
   rw [List.getElem?_set] at k3
   split at k3
   ·rename_i e;subst e
    exact ⟨id,L',.loop l,k1,k2,hl,rfl⟩
   ·exact ⟨i,L',o,k1,k2,k3,k4⟩
  ·rintro ⟨i,L',o,k1,k2,k3,k4⟩
   by_cases e : id=i
   ·subst e
    exact ⟨id,L',.loop l',k1,k2,by simp [hi],rfl⟩
   ·exact ⟨i,L',o,k1,k2,by rw [List.getElem?_set_ne e];exact k3,k4⟩
 have hOO : OO B (σ.set id (.loop l')) μ=OO B σ μ:=by funext b;simp only [OO,hown]
 have hX : Ext w (OO B σ μ) μ (w.putObj L.block (.loop r')) (OO B σ μ) μ:=by
  refine ⟨fun b o v _ hv=>?_,fun _ h=>.inl h,List.prefix_refl _⟩
  have : b≠L.block:=by
   rintro rfl
   unfold World.cell? at hv
   rw [hr] at hv
   cases hv
  rw [cell_of_heap (hne b this)];exact hv
 refine ⟨⟨by simpa using hS.len,fun i o L' ho hL'=>?_,fun i j oi oj Li Lj hi hj wi wj hLi hLj he=>?_,fun b hb=>hS.out b ((hown b).1 hb),fun b hb=>by simpa using hS.low b hb⟩,
  ⟨by simp,fun b hb hn=>hne b (fun e=>hn ⟨id,L,_,hL,e.symm,hl,rfl⟩),fun b hb=>.inl ((hown b).1 hb),List.prefix_refl _,rfl,rfl,rfl⟩⟩
 ·rw [hOO]
  by_cases e : id=i
  ·subst e
   rw [hL] at hL';cases hL'
   have hi : id < σ.length:=(List.getElem?_eq_some_iff.1 hl).1
   rw [List.getElem?_set_self hi] at ho
   cases ho
   refine ⟨r',World.putObj_heap_same hlt, ?_⟩
   obtain ⟨k1,k2,k3,k4,k5,k6,k7⟩:=hLR h1
   exact ⟨k1,k2,k3,k4,k5,k6,k7.ext hX⟩
  ·rw [List.getElem?_set_ne e] at ho
   refine (hS.obj i o L' ho hL').ext hX (fun how=>hne _ (fun e'=>e ?_))
   exact hS.apart _ _ _ _ _ _ hl ho rfl how hL hL' e'.symm
 ·have fix : ∀ {i : Nat} {o : Obj},(σ.set id (.loop l'))[i]?=some o→o.owns=true→∃ o',σ[i]?=some o'∧o'.owns=true:=by
   intro i o h1 h2
   rw [List.getElem?_set] at h1
   split at h1
   ·rename_i e;subst e;exact ⟨_,hl,rfl⟩
   ·exact ⟨o,h1,h2⟩
  obtain ⟨oi',a1,a2⟩:=fix hi wi
  obtain ⟨oj',b1,b2⟩:=fix hj wj
  exact hS.apart _ _ _ _ _ _ a1 b1 a2 b2 hLi hLj he
theorem YV_of {id : Nat} {xs : List VV} {σ : Store} {R : CRes→Store→Prop} {l : LoopV} {ρ : Env} {ps : List Nat} {n : Nat} {va vb : VCode} (hmix : P.follows .mixedOrders=true) (hl : σ[id]?=some (.loop l)) (hL : LoopOf l ρ ps n va vb) (hps : ps.length=xs.length) (hpn : ps.all (decide <| · < n)=true)
  (h : wpV P G va (thenV (fun ρ σ=>σ[id]?=some (.loop l)∧wpV P G vb (roundQ id l R) ρ (σ.set id (.loop { l with state:=.busy }))) (fun _ _ _=>False)) (putPs ps xs ρ) σ) : YV P G id xs σ R:=by
 intro B w μ vs hS hG hv
 have hi : id < σ.length:=(List.getElem?_eq_some_iff.1 hl).1
 obtain ⟨L,hLoc⟩ : ∃ L,μ[id]?=some L:=⟨_,List.getElem?_eq_getElem (by rw [hS.len];exact hi)⟩
 obtain ⟨r,hr,hLR⟩:=hS.obj _ _ _ hl hLoc
 obtain ⟨k1,k2,k3,k4,k5,k6,k7⟩:=hLR
 have hvl : vs.size=xs.length:=by have:=hv.length;simpa using this
 obtain ⟨lab,hca,hcb⟩:=hL.ca
 have hsz : vs.size=r.params.size:=by rw [k4,hL.ps];simp [hvl,hps]
 have hy:=run_yield (P:=P) (args:=vs) hr hsz
 refine ⟨L,hLoc,_,_,_,_,hy, ?_⟩
 have hfold : (r.params.zip vs).foldl (fun tmps (t,a)=>tmps.setIfInBounds t a) r.tmps=(ps.zip vs.toList).foldl (fun t (p,v)=>t.setIfInBounds p v) r.tmps:=by
  rw [← Array.foldl_toList,Array.toList_zip,k4,hL.ps]
 have hE0:=putPs_R ps xs vs.toList ρ r.tmps (fun p hp=>by rw [k1,hL.n];simpa using List.all_eq_true.1 hpn p hp) hv (hL.tmps ▸ k7)
 refine roundIn_of_wpIn trivial ?_
 rw [k5,k6]
 have hST : ST G B n w σ μ (putPs ps xs ρ) { tmps:=(r.params.zip vs).foldl (fun tmps (t,a)=>tmps.setIfInBounds t a) r.tmps,defers:=[] } :=
  ⟨hS,hG,by rw [hfold];exact hE0.1,by show Array.size _=_;rw [hfold,hE0.2,k1,hL.n]⟩
 refine wpIn_mono (comp_sound (fl:=false) (ro:=some L.block) hmix _ _ hca (.inr hL.flat.1) _ _ σ h B w μ _ hST) ?_
 rintro e a₁ w₁ ⟨o,ρ₁,σ₁,μ₁,hq,hx,hF,hSR,hE,hz,-⟩
 cases o<;>cases e<;>simp only [ExitR] at hx<;>simp only [thenV] at hq
 case normal.normal =>
  obtain ⟨hl1,hq⟩:=hq
  have hLoc1:=getElem?_pre hF.pre hLoc
  obtain ⟨r1,hr1,hLR1⟩:=hSR.obj _ _ _ hl1 hLoc1
  have hrdy : r1.state=.ready:=by rw [hLR1.2.1];exact hL.st
  obtain ⟨hS2,hF2⟩:=loop_turn (l':={ l with state:=.busy }) (r':={ r1 with state:=.busy }) hSR hl1 hLoc1 hr1 (fun ⟨m1,m2,m3,m4,m5,m6,m7⟩=>⟨m1,rfl,m3,m4,m5,m6,m7⟩)
  refine ⟨_,run_beginRound hr1 hrdy, ?_⟩
  have hF12:=hF.trans hF2
  refine wpIn_mono (comp_sound (fl:=false) (ro:=some L.block) hmix _ _ hcb (.inr hL.flat.2) _ _ _ hq B _ _ _ ⟨hS2,hG.ext hF12.ext,hE.ext hF2.ext,hz⟩) ?_
  rintro e a₂ w₂ ⟨o,ρ₂,σ₂,μ₂,hq,hx,hF3,hSR3,hE3,hz3,-⟩
  have hF123:=hF12.trans hF3
  have key : ∀ (jump : Option Code) (l' : LoopV) (b : Bool),l'={ l with state:=if jump.isNone then .ready else .done,pending:=jump }→b=jump.isNone→σ₂[id]?=some (.loop { l with state:=.busy })→R (.ret (.bool b)) (σ₂.set id (.loop l')) →
    ∃ v w',(Instr.endRound L.block jump).run P w₂=.ok v w'∧(∃ rr σ' μ',R rr σ'∧Frame w σ μ w' σ' μ'∧SR B w' σ' μ'∧EndR w' (OO B σ' μ') μ' rr (.returned v)):=by
   intro jump l' b he hb hl2 hR
   have hLoc2:=getElem?_pre hF3.pre hLoc1
   obtain ⟨r2,hr2,hLR2⟩:=hSR3.obj _ _ _ hl2 hLoc2
   obtain ⟨hS4,hF4⟩:=loop_turn (l':=l') (r':={ r2 with state:=if jump.isNone then .ready else .done,pending:=jump }) hSR3 hl2 hLoc2 hr2 (fun ⟨m1,m2,m3,m4,m5,m6,m7⟩=>by subst he;exact ⟨m1,rfl,rfl,m4,m5,m6,m7⟩)
   refine ⟨_,_,run_endRound jump hr2,_,_,_,hR,hF123.trans hF4,hS4, ?_⟩
   subst hb
   simp [EndR,VR]
  have hrd : ({ l with state:=.ready,pending:=none } : LoopV)=l:=by
   have h1:=hL.st;have h2:=hL.pe
   cases l
   simp only at h1 h2
   subst h1 h2
   rfl
  cases o<;>cases e<;>simp only [ExitR] at hx<;>simp only [roundQ] at hq
  ·exact key none l true (by simp only [Option.isNone_none,if_true];exact hrd.symm) rfl hq.1 hq.2
  ·subst hx
   exact key (some (.exit _)) _ false rfl rfl hq.1 hq.2
  ·exact key (some .ret) _ false rfl rfl hq.1 hq.2
end Go.V
namespace Go.V
variable {P : Program} {G : Nat→Option (List VV)}
theorem fz_pure {n : Nat} {σ : Store} {x : VV} (h : x.isPure=true) : fz n σ x=some x:=by
 cases n<;>simp [fz,h]
theorem PV_of {lab : FuncId→Bool} {f : FuncId} {F : FnV} {ys : List VV} {x : VV} (hG : GPure G) (hmix : P.follows .mixedOrders=true) (hf : fnV P lab f=some F) (hn : ys.length≤F.n) (hp : VV.arePure ys=true) (hx : x.isPure=true)
  (h : wpV P G F.code (retW P F.res fun r σ=>∃ y n,r=.ret y∧fz n (σ.map Obj.fr) y=some x) (paramEnv 0 ys) []) : PV P G f ys x :=
 ⟨hG,hp,hx,CV_of hmix hf hn h⟩
def ldV (P : Program) (t : TypeId) (v : VV) (σ : Store) : Option OpOut:=match v with
 | .ptr cells off=>loadV P t cells off σ
 | .mptr id off=>match objCells σ id with
  | some cells=>loadV P t cells off σ
  | none=>none
 | _=>none
def stV (P : Program) (t : TypeId) (a x : VV) (σ : Store) : Option OpOut:=match a with
 | .mptr id off=>match σ[id]? with
  | some (.own cells)=>some ⟨tsz P t=some x.cells.length∧off+x.cells.length≤cells.length∧allCells x.cells=true,.undef,σ.set id (.own (splice cells off x.cells))⟩
  | _=>none
 | _=>none
def pickO (c a b : VV) (σ : Store) : Option OpOut:=match c with
 | .bool t=>okV (if t then a else b) σ
 | _=>none
def alV (P : Program) (t : TypeId) (σ : Store) : Option OpOut:=match tzero P t with
 | some z=>if allCells z then okV (.mptr σ.length 0) (σ++[.own z]) else none
 | none=>none
def boxV (x : VV) (σ : Store) : Option OpOut:=some ⟨allCells x.cells=true,.mptr σ.length 0,σ++[.own x.cells]⟩
def buildV (P : Program) (t : TypeId) (ps : List (Nat × VV)) (σ : Store) : Option OpOut:=match tzero P t,tcomp P t with
 | some z,some true=>(fillV (tplace P t) z ps).map fun cs=>⟨True,.agg cs,σ⟩
 | _,_=>none
def bslV (P : Program) (t : TypeId) (n : Nat) (ps : List (Nat × VV)) (σ : Store) : Option OpOut:=match tsl P t with
 | some e=>match tsz P e,tzero P e with
  | some k,some z=>if n*k > 16777216∨z.length≠k∨k=0 then none else (fillV (fun i=>some (i*k,k)) (rep z n) ps).map fun cs=>⟨True,.sl n cs true,σ⟩
  | _,_=>none
 | none=>none
def nilV (v : VV) (σ : Store) : Option OpOut:=match v with
 | .ptr cells off=>okV (.ptr cells off) σ
 | .mptr id off=>okV (.mptr id off) σ
 | _=>none
def ifcV (P : Program) (t : TypeId) (v : VV) (σ : Store) : Option OpOut:=match tifc P t with
 | some false=>okV (.ifc t v) σ
 | _=>none
def extV (v : VV) (i : Nat) (σ : Store) : Option OpOut:=match v with
 | .tup vs=>match vs[i]? with
  | some v=>okV v σ
  | none=>none
 | _=>none
def fldV (P : Program) (s : TypeId) (v : VV) (f : Nat) (σ : Store) : Option OpOut:=match tfld2 P s f,v with
 | some (t,off),.agg cells=>partV P t cells off σ
 | _,_=>none
def slcV (P : Program) (t : TypeId) (x : VV) (lo hi mx : Option (Option Int)) (σ : Store) : Option OpOut:=match lo,hi,mx with
 | some lo,some hi,some mx=>evSlice P t x lo hi mx σ
 | _,_,_=>none
def oo (P : Program) (G : Nat→Option (List VV)) (op : Op) (ty : TypeId) (ρ : Env) (σ : Store) : Option OpOut:=evOp P G ρ σ ⟨none,op,ty, "",#[],none⟩
section
variable {ρ : Env} {σ : Store} {ty : TypeId}
theorem oo_move {x : Operand} : oo P G (.move x) ty ρ σ=okV (ev G ρ x) σ:=rfl
theorem oo_assign {x : Operand} : oo P G (.assign x) ty ρ σ=okV (ev G ρ x) σ:=rfl
theorem oo_pick {c a b : Operand} : oo P G (.pick c a b) ty ρ σ=pickO (ev G ρ c) (ev G ρ a) (ev G ρ b) σ:=rfl
theorem oo_alloc {t : TypeId} : oo P G (.alloc t) ty ρ σ=alV P t σ:=rfl
theorem oo_box {t : TypeId} {x : Operand} : oo P G (.box t x) ty ρ σ=boxV (ev G ρ x) σ:=rfl
theorem oo_build {t : TypeId} {ps : Array (Nat × Operand)} : oo P G (.build t ps) ty ρ σ=buildV P t (ps.toList.map fun p=>(p.1,ev G ρ p.2)) σ:=rfl
theorem oo_bsl {t : TypeId} {n : Nat} {ps : Array (Nat × Operand)} : oo P G (.buildSlice t n ps) ty ρ σ=bslV P t n (ps.toList.map fun p=>(p.1,ev G ρ p.2)) σ:=rfl
theorem oo_load {t : TypeId} {a : Operand} : oo P G (.load t a) ty ρ σ=ldV P t (ev G ρ a) σ:=rfl
theorem oo_store {t : TypeId} {a x : Operand} : oo P G (.store t a x) ty ρ σ=stV P t (ev G ρ a) (ev G ρ x) σ:=rfl
theorem oo_nil {a : Operand} : oo P G (.nilCheck a) ty ρ σ=nilV (ev G ρ a) σ:=rfl
theorem oo_bin {op : BinOp} {t u : TypeId} {x y : Operand} : oo P G (.binOp op t x y u) ty ρ σ=evBin P op t x y (ev G ρ x) (ev G ρ y) σ:=rfl
theorem oo_un {op : UnOp} {t : TypeId} {x : Operand} : oo P G (.unOp op t x) ty ρ σ=evUn op (ev G ρ x) σ:=rfl
theorem oo_conv {s d : TypeId} {x : Operand} : oo P G (.convert s d x) ty ρ σ=evConvert P s d (ev G ρ x) σ:=rfl
theorem oo_ifc {t : TypeId} {x : Operand} : oo P G (.makeInterface t x) ty ρ σ=ifcV P t (ev G ρ x) σ:=rfl
theorem oo_fn {f : FuncId} {first caps : Array Operand} : oo P G (.makeFunc (.func f) first caps) ty ρ σ=okV (.fn (.func f) (first.toList.map (ev G ρ)) (caps.toList.map (ev G ρ))) σ:=rfl
theorem oo_map {t : TypeId} : oo P G (.makeMap t none) ty ρ σ=okV (.mmap σ.length) (σ++[.mp []]):=rfl
theorem oo_msl {t : TypeId} {l c : Operand} : oo P G (.makeSlice t l c) ty ρ σ=evMakeSlice P t (ev G ρ l) (ev G ρ c) σ:=rfl
theorem oo_slice {t : TypeId} {x : Operand} {lo hi mx : Option Operand} : oo P G (.slice t x lo hi mx) ty ρ σ=slcV P t (ev G ρ x) (optInt G ρ lo) (optInt G ρ hi) (optInt G ρ mx) σ:=rfl
theorem oo_fieldAddr {s : TypeId} {x : Operand} {f : Nat} : oo P G (.fieldAddr s x f) ty ρ σ=evField P s (ev G ρ x) f σ:=rfl
theorem oo_field {s : TypeId} {x : Operand} {f : Nat} : oo P G (.field s x f) ty ρ σ=fldV P s (ev G ρ x) f σ:=rfl
theorem oo_indexAddr {t : TypeId} {x i : Operand} : oo P G (.indexAddr t x i) ty ρ σ=evIndexAddr P t (ev G ρ x) (ev G ρ i) σ:=rfl
theorem oo_index {t : TypeId} {x i : Operand} : oo P G (.index t x i) ty ρ σ=evIndex P t (ev G ρ x) (ev G ρ i) σ:=rfl
theorem oo_assert {x : Operand} {t a : TypeId} {c : Bool} : oo P G (.typeAssert x t a c) ty ρ σ=evAssert P (ev G ρ x) a c σ:=rfl
theorem oo_extract {x : Operand} {i : Nat} : oo P G (.extract x i) ty ρ σ=extV (ev G ρ x) i σ:=rfl
theorem oo_builtin {b : Builtin} {args : Array Operand} {ts : Array TypeId} : oo P G (.call ⟨.builtin b,args,ts⟩) ty ρ σ=evBuiltin P b ts (args.toList.map (ev G ρ)) σ:=rfl
end
def stepO (P : Program) (G : Nat→Option (List VV)) (o : Option OpOut) (d : Option Nat) (r : List VO) (Q : Out→Env→Store→Prop) (ρ : Env) : Prop:=match o with
 | some o=>o.pre∧opsW P G r Q (putV ρ d o.val) o.st
 | none=>False
def callO (P : Program) (G : Nat→Option (List VV)) (f : FuncId) (xs : List VV) (d : Option Nat) (r : List VO) (Q : Out→Env→Store→Prop) (ρ : Env) (σ : Store) : Prop :=
 CV P G f xs σ (resK (fun x σ'=>opsW P G r Q (putV ρ d x) σ') (fun x σ'=>Q (.panic x) ρ σ'))
def yieldO (P : Program) (G : Nat→Option (List VV)) (id : Nat) (xs : List VV) (d : Option Nat) (r : List VO) (Q : Out→Env→Store→Prop) (ρ : Env) (σ : Store) : Prop :=
 YV P G id xs σ (resK (fun x σ'=>opsW P G r Q (putV ρ d x) σ') (fun x σ'=>Q (.panic x) ρ σ'))
def rangeO (P : Program) (G : Nat→Option (List VV)) (g : VV) (ps : List Nat) (n : Nat) (va vb : VCode) (Q : Out→Env→Store→Prop) (ρ : Env) (σ : Store) : Prop:=match g with
 | .fn (.func f) first caps=>bodied P f=true∧∀ l,LoopOf l ρ ps n va vb→CV P G f (first++[.yield σ.length]++caps) (σ++[.loop l]) (rangeR σ.length Q ρ)
 | _=>False
def callF (P : Program) (G : Nat→Option (List VV)) (fv : VV) (xs : List VV) (d : Option Nat) (r : List VO) (Q : Out→Env→Store→Prop) (ρ : Env) (σ : Store) : Prop:=match fv with
 | .fn (.func g) first caps=>bodied P g=true∧callO P G g (first++xs++caps) d r Q ρ σ
 | .yield id=>yieldO P G id xs d r Q ρ σ
 | _=>False
def panO (v : VV) (Q : Out→Env→Store→Prop) (ρ : Env) (σ : Store) : Prop:=match v with
 | .ifc t v=>Q (.panic (.ifc t v)) ρ σ
 | _=>False
def condO (P : Program) (G : Nat→Option (List VV)) (v : VV) (a b : VCode) (Q : Out→Env→Store→Prop) (ρ : Env) (σ : Store) : Prop:=match v with
 | .bool t=>if t=true then wpV P G a Q ρ σ else wpV P G b Q ρ σ
 | _=>False
def wantO (P : Program) (G : Nat→Option (List VV)) (g : Option Bool) (op : Op) (ty : TypeId) (d : Option Nat) (r : List VO) (Q : Out→Env→Store→Prop) (ρ : Env) (σ : Store) : Prop:=match g with
 | some true=>opsW P G (⟨d,op,ty,none⟩::r) Q ρ σ
 | some false=>opsW P G r Q (putV ρ d (.tup [])) σ
 | none=>False
section
variable {Q : Out→Env→Store→Prop} {ρ : Env} {σ : Store}
theorem stepO_some {p : Prop} {v : VV} {s : Store} {d : Nat} {r : List VO} : stepO P G (some ⟨p,v,s⟩) (some d) r Q ρ=(p∧opsW P G r Q ((d,v)::ρ) s):=_root_.id rfl
theorem stepO_none {p : Prop} {v : VV} {s : Store} {r : List VO} : stepO P G (some ⟨p,v,s⟩) none r Q ρ=(p∧opsW P G r Q ρ s):=_root_.id rfl
theorem callF_fn {g : FuncId} {first caps xs : List VV} {d : Option Nat} {r : List VO} (h : bodied P g=true) : callF P G (.fn (.func g) first caps) xs d r Q ρ σ=callO P G g (first++xs++caps) d r Q ρ σ:=by simp [callF,h]
theorem callF_yield {id : Nat} {xs : List VV} {d : Option Nat} {r : List VO} : callF P G (.yield id) xs d r Q ρ σ=yieldO P G id xs d r Q ρ σ:=_root_.id rfl
theorem rangeO_fn {f : FuncId} {first caps : List VV} {ps : List Nat} {n : Nat} {va vb : VCode} (h : bodied P f=true) : rangeO P G (.fn (.func f) first caps) ps n va vb Q ρ σ=(∀ l,LoopOf l ρ ps n va vb→CV P G f (first++[.yield σ.length]++caps) (σ++[.loop l]) (rangeR σ.length Q ρ)):=by simp [rangeO,h]
theorem wpV_rangeF {g : Operand} {ps : List Nat} {n : Nat} {va vb : VCode} : wpV P G (.rangeF g ps n va vb) Q ρ σ=rangeO P G (ev G ρ g) ps n va vb Q ρ σ:=_root_.id rfl
theorem panO_ifc {t : TypeId} {v : VV} : panO (.ifc t v) Q ρ σ=Q (.panic (.ifc t v)) ρ σ:=_root_.id rfl
theorem condO_true {a b : VCode} : condO P G (.bool true) a b Q ρ σ=wpV P G a Q ρ σ:=by simp [condO]
theorem condO_false {a b : VCode} : condO P G (.bool false) a b Q ρ σ=wpV P G b Q ρ σ:=by simp [condO]
theorem condO_split {t : Bool} {a b : VCode} (h1 : t=true→wpV P G a Q ρ σ) (h2 : t=false→wpV P G b Q ρ σ) : condO P G (.bool t) a b Q ρ σ:=by cases t<;>simp_all [condO]
theorem wantO_true {op : Op} {ty : TypeId} {d : Option Nat} {r : List VO} : wantO P G (some true) op ty d r Q ρ σ=opsW P G (⟨d,op,ty,none⟩::r) Q ρ σ:=_root_.id rfl
theorem wantO_false {op : Op} {ty : TypeId} {d : Option Nat} {r : List VO} : wantO P G (some false) op ty d r Q ρ σ=opsW P G r Q (putV ρ d (.tup [])) σ:=_root_.id rfl
theorem wantO_split {t : Bool} {op : Op} {ty : TypeId} {d : Option Nat} {r : List VO} (h1 : t=true→opsW P G (⟨d,op,ty,none⟩::r) Q ρ σ) (h2 : t=false→opsW P G r Q (putV ρ d (.tup [])) σ) : wantO P G (some t) op ty d r Q ρ σ:=by
 cases t
 ·exact h2 rfl
 ·exact h1 rfl
theorem wantO_split_not {t : Bool} {op : Op} {ty : TypeId} {d : Option Nat} {r : List VO} (h1 : t=false→opsW P G (⟨d,op,ty,none⟩::r) Q ρ σ) (h2 : t=true→opsW P G r Q (putV ρ d (.tup [])) σ) : wantO P G (some (!t)) op ty d r Q ρ σ:=by
 cases t
 ·exact h1 rfl
 ·exact h2 rfl
theorem condO_split_not {t : Bool} {a b : VCode} (h1 : t=false→wpV P G a Q ρ σ) (h2 : t=true→wpV P G b Q ρ σ) : condO P G (.bool (!t)) a b Q ρ σ:=by cases t<;>simp_all [condO]
theorem wpV_skip : wpV P G .skip Q ρ σ=Q .normal ρ σ:=_root_.id rfl
theorem wpV_exit {id : Nat} : wpV P G (.exit id) Q ρ σ=Q (.exit id) ρ σ:=_root_.id rfl
theorem wpV_ret : wpV P G .ret Q ρ σ=Q .ret ρ σ:=_root_.id rfl
theorem wpV_seq {a b : VCode} : wpV P G (.seq a b) Q ρ σ=wpV P G a (thenV (wpV P G b Q) Q) ρ σ:=_root_.id rfl
theorem wpV_cond {c : Operand} {a b : VCode} : wpV P G (.cond c a b) Q ρ σ=condO P G (ev G ρ c) a b Q ρ σ:=_root_.id rfl
theorem wpV_block {id : Nat} {b : VCode} : wpV P G (.block id b) Q ρ σ=wpV P G b (inBlockV id Q) ρ σ:=_root_.id rfl
theorem wpV_scope {b : VCode} : wpV P G (.scope b) Q ρ σ=wpV P G b (scopeV Q) ρ σ:=_root_.id rfl
theorem wpV_reg {ops : List VO} : wpV P G (.reg ops) Q ρ σ=opsW P G ops Q ρ σ:=_root_.id rfl
theorem thenV_normal {K : Env→Store→Prop} : thenV K Q .normal ρ σ=K ρ σ:=_root_.id rfl
theorem thenV_exit {K : Env→Store→Prop} {i : Nat} : thenV K Q (.exit i) ρ σ=Q (.exit i) ρ σ:=_root_.id rfl
theorem thenV_ret {K : Env→Store→Prop} : thenV K Q .ret ρ σ=Q .ret ρ σ:=_root_.id rfl
theorem thenV_panic {K : Env→Store→Prop} {x : VV} : thenV K Q (.panic x) ρ σ=Q (.panic x) ρ σ:=_root_.id rfl
theorem inBlockV_normal {id : Nat} : inBlockV id Q .normal ρ σ=Q .normal ρ σ:=_root_.id rfl
theorem inBlockV_ret {id : Nat} : inBlockV id Q .ret ρ σ=Q .ret ρ σ:=_root_.id rfl
theorem inBlockV_panic {id : Nat} {x : VV} : inBlockV id Q (.panic x) ρ σ=Q (.panic x) ρ σ:=_root_.id rfl
theorem inBlockV_exit {id j : Nat} : inBlockV id Q (.exit j) ρ σ=if j=id then Q .normal ρ σ else Q (.exit j) ρ σ:=by
 simp only [inBlockV]
 split<;>rfl
theorem scopeV_normal : scopeV Q .normal ρ σ=Q .normal ρ σ:=_root_.id rfl
theorem scopeV_ret : scopeV Q .ret ρ σ=Q .ret ρ σ:=_root_.id rfl
theorem scopeV_exit {i : Nat} : scopeV Q (.exit i) ρ σ=Q (.exit i) ρ σ:=_root_.id rfl
theorem scopeV_panic {x : VV} : scopeV Q (.panic x) ρ σ=Q (.panic x) ρ σ:=_root_.id rfl
theorem retW_ret {rs : List ResultVar} {R : CRes→Store→Prop} : retW P rs R .ret ρ σ=resV P rs ρ σ (fun xs=>R (.ret (tupV xs)) σ):=_root_.id rfl
theorem retW_normal {rs : List ResultVar} {R : CRes→Store→Prop} : retW P rs R .normal ρ σ=resV P rs ρ σ (fun xs=>R (.ret (tupV xs)) σ):=_root_.id rfl
theorem retW_panic {rs : List ResultVar} {R : CRes→Store→Prop} {x : VV} : retW P rs R (.panic x) ρ σ=R (.panic x) σ:=_root_.id rfl
theorem opsW_nil : opsW P G [] Q ρ σ=Q .normal ρ σ:=_root_.id rfl
theorem opsW_plain {op : Op} {ty : TypeId} {d : Option Nat} {r : List VO} (h1 : ∀ f as ts,op≠.call ⟨.value f,as,ts⟩) (h2 : ∀ x,op≠.panic x) : opsW P G (⟨d,op,ty,none⟩::r) Q ρ σ=stepO P G (oo P G op ty ρ σ) d r Q ρ:=by
 have : ∀ (K KP : VV→Store→Prop),opW P G op ty ρ σ K KP=evK P G op ty ρ σ K:=by
  intro K KP
  unfold opW
  split
  ·exact absurd rfl (h1 _ _ _)
  ·exact absurd rfl (h2 _)
  ·rfl
 simp only [opsW,wantV,this,evK,stepO,oo]
 cases evOp P G ρ σ ⟨none,op,ty, "",#[],none⟩ with
 | none=>simp
 | some o=>simp
theorem opsW_call {f : Operand} {args : Array Operand} {ts : Array TypeId} {ty : TypeId} {d : Option Nat} {r : List VO} : opsW P G (⟨d,.call ⟨.value f,args,ts⟩,ty,none⟩::r) Q ρ σ=callF P G (ev G ρ f) (args.toList.map (ev G ρ)) d r Q ρ σ:=_root_.id rfl
theorem opsW_panic {x : Operand} {ty : TypeId} {d : Option Nat} {r : List VO} : opsW P G (⟨d,.panic x,ty,none⟩::r) Q ρ σ=panO (ev G ρ x) Q ρ σ:=_root_.id rfl
theorem opsW_some {d : Option Nat} {op : Op} {ty : TypeId} {r : List VO} {t : Nat} {b : Bool} : opsW P G (⟨d,op,ty,some (t,b)⟩::r) Q ρ σ=wantO P G (wantV ρ (some (t,b))) op ty d r Q ρ σ:=by
 simp only [opsW,wantO]
 cases wantV ρ (some (t,b)) with
 | none=>rfl
 | some t=>cases t<;>rfl
end
end Go.V
