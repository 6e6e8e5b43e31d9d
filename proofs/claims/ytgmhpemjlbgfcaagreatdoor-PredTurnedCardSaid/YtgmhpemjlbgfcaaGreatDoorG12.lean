/- Texts V25 V26 V27. -/
import Derived.RecoverIn
import Derived.Test.YtgmhpemjlbgfcaaGreatDoorG11
set_option linter.unusedVariables false
set_option linter.unusedSimpArgs false
namespace Go.V
variable {P : Program} {G : Nat→Option (List VV)}
def LK (w : World) (O : Nat→Prop) (μ : List Loc) : Option VV→FrameMode→Prop
 | none,u=>u=.returning
 | some x,u=>∃ v,u=.panicking [{ v,recovered:=false }]∧VR w O μ x v
def CD (P : Program) (G : Nat→Option (List VV)) (g : FuncId) (caps : List VV) (σ : Store) (X : Option VV) (R : Store→Prop) : Prop :=
 ∀ (B : Nat→Prop) (w : World) (μ : List Loc) (vs : Array Value) (u : FrameMode),SR B w σ μ→Jm G w (OO B σ μ) μ→bI w (OO B σ μ) μ caps vs.toList→LK w (OO B σ μ) μ X u →
  CallsDIn Fence.wide 0 P g vs u w fun e u' w'=>(∃ v,e=.returned v)∧settle u'=.returning∧∃ σ' μ',R σ'∧Frame w σ μ w' σ' μ'∧SR B w' σ' μ'
structure X4 where
 code : aA
 res : List ResultVar
 n : Nat
 t1 : Nat
 t2 : Nat
def Oq : List Oper→Option (Nat × Nat)
 | [o1,o2]=>match o1.dst,o1.op,o1.guard,o2.dst,o2.op,o2.guard with
  | some t1,.call c,none,some t2,.assign (.tmp t),none=>match c.callee with
   | .builtin .recover=>if t1=t then some (t1,t2) else none
   | _=>none
  | _,_,_,_,_,_=>none
 | _=>none
def Uc (P : Program) (lab : FuncId→Bool) (g : FuncId) : Option X4:=match P.funcs[g]? with
 | some fn=>match fn.body with
  | some (.seq (.region _ ops false) r)=>match Oq ops.toList,comp lab fn.ntmps r with
   | some (t1,t2),some vc=>if vc.flat && decide (t1 < fn.ntmps) && decide (t2 < fn.ntmps) && decide (t1≠t2) then some ⟨vc,fn.results.toList,fn.ntmps,t1,t2⟩ else none
   | _,_=>none
  | _=>none
 | none=>none
def leaveD (P : Program) (rs : List ResultVar) (R : Store→Prop) : Out→Env→Store→Prop
 | .normal,ρ,σ | .ret,ρ,σ=>resV P rs ρ σ fun _=>R σ
 | _,_,_=>False
theorem qc {B : Nat→Prop} {w : World} {σ : Store} {μ : List Loc} {ρ : Env} {tmps : Array Value} {fn : Func} {K : List VV→Prop} (hS : SR B w σ μ) (hE : jg w (OO B σ μ) μ ρ tmps) (h : resV P fn.results.toList ρ σ K) :
  ∃ ys v,K ys∧(results fn tmps).run P w=.ok v w∧VR w (OO B σ μ) μ (lI ys) v:=by
 obtain ⟨ys,us,k1,k2,k3⟩:=qg hS hE _ _ h
 refine ⟨ys,if h : us.toArray.size=1 then us.toArray[0] else .tuple us.toArray,k1, ?_, ?_⟩
 ·have e : (fn.results.mapM (kS tmps)).run P w=.ok us.toArray w:=by
   rw [Array.mapM_eq_mapM_toList]
   simp [k3]
  have e' : results fn tmps=(do let vs ← fn.results.mapM (kS tmps);pure (if h : vs.size=1 then vs[0] else .tuple vs)):=by
   unfold results
   congr 1
  rw [e',Sem.run_bind,e]
  rfl
 ·have hl:=k2.length
  split
  ·rename_i h1
   simp only [List.size_toArray] at h1
   match us,ys,h1,hl with
   | [u],[y],_,_ =>
    simp only [bI] at k2
    obtain ⟨y',l,e,k2,rfl⟩:=k2
    cases e
    exact k2
  ·rename_i h1
   simp only [List.size_toArray] at h1
   have : lI ys=.tup ys:=by
    unfold lI
    split
    ·simp at hl;omega
    ·rfl
   rw [this]
   simp only [VR]
   exact ⟨_,rfl,by simpa using k2⟩
theorem VJ {lab : FuncId→Bool} {g : FuncId} {D : X4} {caps : List VV} {σ : Store} {X : Option VV} {R : Store→Prop} (hmix : P.follows .mixedOrders=true) (hf : Uc P lab g=some D) (hn : caps.length≤D.n)
  (h : iO P G D.code (leaveD P D.res R) ((D.t2,X.getD .nili)::(D.t1,X.getD .nili)::dH 0 caps) σ) : CD P G g caps σ X R:=by
 unfold Uc at hf
 split at hf
 rotate_left
 ·cases hf
 rename_i fn hfn
 split at hf
 rotate_left
 ·cases hf
 rename_i rid ops r hb
 split at hf
 rotate_left
 ·cases hf
 rename_i t1 t2 vc hops hvc
 split at hf
 rotate_left
 ·cases hf
 rename_i hfl
 cases hf
 simp only [Bool.and_eq_true,decide_eq_true_eq] at hfl
 obtain ⟨⟨⟨hfl,ht1⟩,ht2⟩,ht12⟩:=hfl
 simp only at h hn
 unfold Oq at hops
 split at hops
 rotate_left
 ·cases hops
 rename_i o1 o2 hlist
 split at hops
 rotate_left
 ·cases hops
 rename_i u1 cl u2 u1' hd1 ho1 hg1 hd2 ho2 hg2
 split at hops
 rotate_left
 ·cases hops
 rename_i hcl
 split at hops
 rotate_left
 ·cases hops
 rename_i hu
 cases hops
 subst hu
 intro B w μ vs u hS hG hv hm
 have hlen : vs.size=caps.length:=by have:=hv.length;simpa using this
 refine callsDIn_of_wpSIn hfn hb trivial fun c₀ cs hmode=>wpSIn_seq (wpSIn_region ?_)
 have hsz : ops.size=2:=by rw [← Array.length_toList,hlist];rfl
 have g0 : ops[0]?=some o1:=by rw [← Array.getElem?_toList,hlist];rfl
 have g1 : ops[1]?=some o2:=by rw [← Array.getElem?_toList,hlist];rfl
 rw [hsz]
 obtain ⟨a0,ha0⟩ : ∃ a0 : Act,a0={ tmps:=vs++Array.replicate (fn.ntmps-vs.size) undef,defers:=[] }:=⟨_,rfl⟩
 have hE0 : jg w (OO B σ μ) μ (dH 0 caps) a0.tmps:=by rw [ha0];exact nT hv
 have hz0 : a0.tmps.size=fn.ntmps:=by rw [ha0];simp;omega
 have hd0 : a0.defers=[]:=by rw [ha0]
 rw [← ha0]
 show wpOpsSIn _ _ _ _ _ [0,1] _ _ _
 have hwant : ∀ (o : Oper) (f : _),o.guard=none→Region.wanted o f=true:=fun o f ho=>by simp [Region.wanted,ho]
 have key : ∃ (v : Value) (u' : FrameMode),settle u'=.returning∧VR w (OO B σ μ) μ (X.getD .nili) v∧(match recoverD (c₀::cs) with
   | some (v',cs')=>v'=v∧cs'={ c₀ with mode:=u' }::cs
   | none=>v=.nilIface∧u'=u):=by
  cases X with
  | none =>
   simp only [LK] at hm
   refine ⟨.nilIface,u,by rw [hm];rfl,by simp [VR], ?_⟩
   simp [recoverD,hmode,hm]
  | some x =>
   obtain ⟨v,hu,hx⟩:=hm
   refine ⟨v,.panicking [{ v,recovered:=true }],rfl,hx, ?_⟩
   simp [recoverD,hmode,hu]
 obtain ⟨v,u',hset,hV,hrec⟩:=key
 have hcont : ∀ cs',cs'={ c₀ with mode:=u' }::cs→wpOpsSIn Fence.wide 0 P ops (Exit.thenS (r.wpSIn Fence.wide 0 P (bodyPostS P fn c₀ cs fun e u' w'=>(∃ v,e=.returned v)∧settle u'=.returning∧∃ σ' μ',R σ'∧Frame w σ μ w' σ' μ'∧SR B w' σ' μ')) (bodyPostS P fn c₀ cs fun e u' w'=>(∃ v,e=.returned v)∧settle u'=.returning∧∃ σ' μ',R σ'∧Frame w σ μ w' σ' μ'∧SR B w' σ' μ')) [1] (a0.put (some t1) v) cs' w:=by
  intro cs' hcs
  have hE1 : jg w (OO B σ μ) μ ((t1,X.getD .nili)::dH 0 caps) (a0.put (some t1) v).tmps:=jg.put hE0 hV (some t1) (fun t ht=>by cases ht;rw [hz0];exact ht1)
  have hev : (a0.put (some t1) v).eval (.tmp t1)=v:=by simp [Act.eval,Act.put,hz0,ht1]
  simp only [wpOpsSIn,g1,hwant _ _ hg2,if_true]
  refine ⟨fun _ _=>trivial, ?_⟩
  have hrun : (execOp (a0.put (some t1) v).eval o2).run P w=.ok (.value v) w:=by
   simp [execOp,ho2,hev]
  rw [hrun]
  simp only [wpOpsSIn,hd2]
  have hE2 : jg w (OO B σ μ) μ ((t2,X.getD .nili)::(t1,X.getD .nili)::dH 0 caps) ((a0.put (some t1) v).put (some t2) v).tmps:=jg.put hE1 hV (some t2) (fun t ht=>by cases ht;simp [Act.put,hz0,ht2])
  show r.wpSIn Fence.wide 0 P _ _ _ _
  refine wpSIn_of_wpIn rfl (wpIn_mono (iG (fl:=true) (ro:=none) hmix r vc hvc (.inr hfl) _ _ σ h B w μ _ ⟨hS,hG,hE2,by simp [Act.put,hz0]⟩) ?_)
  rintro e a' w' ⟨o,ρ',σ',μ',hq,hx,hF,hSR,hE,hz,Ds,hD0,hD,-,-⟩
  have hdef : a'.defers=[]:=by rw [hD,hD0 rfl];simp [Act.put,hd0]
  cases o<;>cases e<;>simp only [jm] at hx<;>simp only [leaveD] at hq
  ·obtain ⟨ys,rv,hk,hr1,_⟩:=qc hSR hE hq
   exact ⟨hdef,u',hcs,rv,hr1,⟨rv,rfl⟩,hset,σ',μ',hk,hF,hSR⟩
  ·obtain ⟨ys,rv,hk,hr1,_⟩:=qc hSR hE hq
   exact ⟨hdef,u',hcs,rv,hr1,⟨rv,rfl⟩,hset,σ',μ',hk,hF,hSR⟩
 rw [wpOpsSIn]
 simp only [g0]
 refine ⟨fun _ _=>trivial, ?_⟩
 rw [if_pos (hwant _ _ hg1)]
 have hrun : (execOp a0.eval o1).run P w=.ok .recover w:=by
  simp [execOp,ho1,resolve,hcl,invoke,builtin,Deferred.ofValue]
 rw [hrun]
 simp only [hd1]
 cases hrc : recoverD (c₀::cs) with
 | none =>
  rw [hrc] at hrec
  obtain ⟨rfl,rfl⟩:=hrec
  exact hcont _ (by cases c₀;simp_all)
 | some p =>
  obtain ⟨v',cs'⟩:=p
  rw [hrc] at hrec
  obtain ⟨rfl,rfl⟩:=hrec
  exact hcont _ rfl
end Go.V
namespace Go.V
variable {P : Program} {G : Nat→Option (List VV)}
def Gy : List Oper→Option (VO × Nat)
 | [o1,o2]=>match o1.dst,o1.guard,o2.dst,o2.op,o2.guard with
  | some t1,none,none,.defer c,none=>match c.callee with
   | .value (.tmp t)=>if t1=t∧c.args.toList=[] then some (⟨some t1,o1.op,o1.type,none⟩,t1) else none
   | _=>none
  | _,_,_,_,_=>none
 | _=>none
structure X3 where
 va : aA
 vb : aA
 o : VO
 t : Nat
 vc : aA
 res : List ResultVar
 n : Nat
def U3 (P : Program) (lab : FuncId→Bool) (f : FuncId) : Option X3:=match P.funcs[f]? with
 | some fn=>match fn.body with
  | some (.seq a (.seq b (.seq (.region _ ops false) c)))=>match comp lab fn.ntmps a,comp lab fn.ntmps b,Gy ops.toList,comp lab fn.ntmps c with
   | some va,some vb,some (o,t),some vc=>if va.flat && vb.flat && vc.flat && decide (t < fn.ntmps) then some ⟨va,vb,o,t,vc,fn.results.toList,fn.ntmps⟩ else none
   | _,_,_,_=>none
  | _=>none
 | none=>none
def MI (P : Program) (G : Nat→Option (List VV)) (g : FuncId) (caps : List VV) (rs : List ResultVar) (R : gY→Store→Prop) : Out→Env→Store→Prop
 | .normal,ρ,σ | .ret,ρ,σ=>CD P G g caps σ none fun σ'=>resV P rs ρ σ' fun xs=>R (.ret (lI xs)) σ'
 | .panic x,ρ,σ=>CD P G g caps σ (some x) fun σ'=>resV P rs ρ σ' fun xs=>R (.ret (lI xs)) σ'
 | _,_,_=>False
theorem Nu {lab : FuncId→Bool} {f : FuncId} {D : X3} {xs : List VV} {σ : Store} {R : gY→Store→Prop} (hmix : P.follows .mixedOrders=true) (hf : U3 P lab f=some D) (hn : xs.length≤D.n)
  (h : iO P G D.va (dD (iO P G D.vb (dD (bM P G [D.o] (dD (fun ρ σ=>∃ g first caps,ρ.get D.t=.fn (.func g) first caps∧first=[]∧ay P g=true∧iO P G D.vc (MI P G g caps D.res R) ρ σ) (fun _ _ _=>False))) (fun _ _ _=>False))) (fun _ _ _=>False)) (dH 0 xs) σ) :
  CV P G f xs σ R:=by
 unfold U3 at hf
 split at hf
 rotate_left
 ·cases hf
 rename_i fn hfn
 split at hf
 rotate_left
 ·cases hf
 rename_i ca cb rid ops cc hb
 split at hf
 rotate_left
 ·cases hf
 rename_i va vb o t vc hva hvb hops hvc
 split at hf
 rotate_left
 ·cases hf
 rename_i hfl
 cases hf
 simp only [Bool.and_eq_true,decide_eq_true_eq] at hfl
 obtain ⟨⟨⟨hfa,hfb⟩,hfc⟩,htn⟩:=hfl
 simp only at h hn
 unfold Gy at hops
 split at hops
 rotate_left
 ·cases hops
 rename_i o1 o2 hlist
 split at hops
 rotate_left
 ·cases hops
 rename_i t1 c hd1 hg1 hd2 ho2 hg2
 split at hops
 rotate_left
 ·cases hops
 rename_i t' hcl
 split at hops
 rotate_left
 ·cases hops
 rename_i hcond
 obtain ⟨htt,hargs⟩:=hcond
 subst htt
 cases hops
 intro B w μ vs hS hG hv
 have hlen : vs.size=xs.length:=by have:=hv.length;simpa using this
 refine callsIn_of_wp_defers hfn hb trivial ?_
 have hsz : ops.size=2:=by rw [← Array.length_toList,hlist];rfl
 have g0 : ops[0]?=some o1:=by rw [← Array.getElem?_toList,hlist];rfl
 have g1 : ops[1]?=some o2:=by rw [← Array.getElem?_toList,hlist];rfl
 have hwant : ∀ (o : Oper) (f : _),o.guard=none→Region.wanted o f=true:=fun o f ho=>by simp [Region.wanted,ho]
 refine wpIn_seq (wpIn_mono (iG (fl:=true) (ro:=none) hmix ca va hva (.inr hfa) _ _ σ h B w μ _ ⟨hS,hG,nT hv,by simp;omega⟩) ?_)
 rintro e a1 w1 ⟨oo,ρ1,σ1,μ1,hq,hx,hF1,hS1,hE1,hz1,Ds1,k1,k2,-,-⟩
 cases oo<;>cases e<;>simp only [jm] at hx<;>simp only [dD] at hq
 have hdef1 : a1.defers=[]:=by rw [k2,k1 rfl];rfl
 have hG1:=hG.ext hF1.ext
 refine wpIn_seq (wpIn_mono (iG (fl:=true) (ro:=none) hmix cb vb hvb (.inr hfb) _ _ σ1 hq B w1 μ1 _ ⟨hS1,hG1,hE1,hz1⟩) ?_)
 rintro e a2 w2 ⟨oo,ρ2,σ2,μ2,hq,hx,hF2,hS2,hE2,hz2,Ds2,k1,k2,-,-⟩
 cases oo<;>cases e<;>simp only [jm] at hx<;>simp only [dD] at hq
 have hdef2 : a2.defers=[]:=by rw [k2,k1 rfl,hdef1];rfl
 have hG2:=hG1.ext hF2.ext
 refine wpIn_seq (wpIn_region ?_)
 rw [hsz]
 show wpOpsIn _ _ _ _ _ [0,1] _ _
 simp only [wpOpsIn,g0]
 rw [if_pos (hwant _ _ hg1)]
 simp only [bM,gX] at hq
 refine mY (ro:=none) (o:=o1) ⟨hS2,hG2,hE2,hz2⟩ hq (fun x u w3 σ3 μ3 hk hF3 hS3 hV=>?_) (fun x u w3 σ3 μ3 hk=>by simp only [dD] at hk)
 simp only [dD] at hk
 obtain ⟨g,first,caps,hget,rfl,hbod,hwp⟩:=hk
 have hE3 : jg w3 (OO B σ3 μ3) μ3 (dB ρ2 (some t) x) (a2.put (some t) u).tmps:=jg.put (hE2.ext hF3.ext) hV (some t) (fun t' ht=>by cases ht;rw [hz2];exact htn)
 rw [hd1]
 have hvd:=hE3 t
 rw [hget] at hvd
 simp only [VR,bI] at hvd
 obtain ⟨av,cv,hvd,_,hav,hcv⟩:=hvd
 have hav' : av=#[]:=by simpa using hav
 subst hav'
 rw [g1]
 simp only
 rw [if_pos (hwant _ _ hg2)]
 have hz3 : (a2.put (some t) u).tmps.size=fn.ntmps:=by simp [Act.put,hz2]
 have hev : (a2.put (some t) u).eval (.tmp t)=.func (.func g) #[] cv:=hvd
 have hcargs : c.args=#[]:=by rw [← Array.toArray_toList (xs:=c.args),hargs]
 refine ⟨fun _ _=>trivial, ?_⟩
 have hrun : (o2.semAt Fence.wide.round (a2.put (some t) u).eval).run P w3=.ok (.defer { target:=.fn (.func g) cv,args:=#[] }) w3:=by
  rw [show Fence.wide.round=none from rfl,Oper.semAt_none]
  simp [execOp,ho2,resolve,hcl,hev,Deferred.ofValue,hcargs]
 rw [hrun,Oper.uponIn_defer,hd2]
 show Code.wpIn _ _ _ _ _ _ _
 have hG3:=hG2.ext hF3.ext
 refine wpIn_mono (iG (fl:=true) (ro:=none) hmix cc vc hvc (.inr hfc) _ _ σ3 hwp B w3 μ3 { (a2.put (some t) u) with defers:={ target:=.fn (.func g) cv,args:=#[] }::(a2.put (some t) u).defers } ⟨hS3,hG3,hE3,hz3⟩) ?_
 rintro e a4 w4 ⟨oo,ρ4,σ4,μ4,hq,hx,hF4,hS4,hE4,hz4,Ds4,k1,k2,-,-⟩
 have hdef4 : a4.defers=[{ target:=.fn (.func g) cv,args:=#[] }]:=by
  rw [k2,k1 rfl]
  simp [Act.put,hdef2]
 have hFw : Frame w σ μ w4 σ4 μ4:=((hF1.trans hF2).trans hF3).trans hF4
 have hG4:=hG3.ext hF4.ext
 have hinv : (invoke (.fn (.func g) cv) #[]).run P w4=.ok (.enter g cv) w4:=by
  unfold ay at hbod
  split at hbod
  ·rename_i fn' hfn'
   simp only [Bool.and_eq_true,Bool.not_eq_true',Option.isSome_iff_exists] at hbod
   obtain ⟨hn',body,hbody⟩:=hbod
   have hn'' : ¬ (fn'.name = "runtime.NumGoroutine"):=by simpa using hn'
   simp [invoke,callFunc,hfn',hn'',hbody,Option.isNone]
  ·cases hbod
 have hcv4 : bI w4 (OO B σ4 μ4) μ4 caps cv.toList:=bI.ext hF4.ext _ _ hcv
 have fin : ∀ (X : Option VV) (u : FrameMode),u≠.run→LK w4 (OO B σ4 μ4) μ4 X u→CD P G g caps σ4 X (fun σ'=>resV P fn.results.toList ρ4 σ' fun xs=>R (.ret (lI xs)) σ') →
   LeavesIn Fence.wide 0 P fn a4.tmps (fun e w'=>∃ r σ' μ',R r σ'∧Frame w σ μ w' σ' μ'∧SR B w' σ' μ'∧nG w' (OO B σ' μ') μ' r e) a4.defers u w4:=by
  intro X u hu hm hcd
  rw [hdef4]
  refine leavesIn_cons hu (by simp [Fence.wide]) hinv (fun _ _=>trivial) ?_
  refine (hcd B w4 μ4 cv u hS4 hG4 hcv4 hm).mono ?_
  rintro e u' w5 ⟨⟨v,rfl⟩,hset,σ5,μ5,hr,hF5,hS5⟩
  show LeavesIn _ _ _ _ _ _ [] (settle u') w5
  rw [hset]
  obtain ⟨ys,rv,hk,hr1,hV⟩:=qc hS5 (hE4.ext hF5.ext) hr
  exact ⟨rv,hr1,.ret (lI ys),σ5,μ5,hk,hFw.trans hF5,hS5,hV⟩
 cases oo<;>cases e<;>simp only [jm] at hx<;>simp only [MI] at hq
 ·exact fin none .returning (by simp) rfl hq
 ·exact fin none .returning (by simp) rfl hq
 ·obtain ⟨v,rfl,hv⟩:=hx
  exact fin (some _) _ (by simp) ⟨v,rfl,hv⟩ hq
end Go.V
namespace Go.V
section
variable (P : Program) (G : Nat→Option (List VV))
def CG (ops : Array Oper) : Nat→Array Bool→(Out→Env→Store→Prop)→Env→Store→Prop
 | 0,l,Q,ρ,σ=>Region.ready .any ops l=[]∧Q .normal ρ σ
 | f+1,l,Q,ρ,σ=>(Region.ready .any ops l=[]→Q .normal ρ σ)∧∀ i ∈ Region.ready .any ops l,∃ o,ops[i]?=some o∧o.guard=none∧rY P G o.op o.type ρ σ (fun x σ'=>CG ops f (l.setIfInBounds i true) Q (dB ρ o.dst x) σ') (fun x σ'=>Q (.panic x) ρ σ')
end
variable {P : Program} {G : Nat→Option (List VV)}
theorem zx {fl : Bool} {ro : Option Nat} {ops : Array Oper} {N : Nat} {Q : Out→Env→Store→Prop} {B : Nat→Prop} {w₀ : World} {σ₀ : Store} {μ₀ : List Loc} {ds₀ : List Deferred} (hd : ∀ (i : Nat) (o : Oper),ops[i]?=some o→∀ t,o.dst=some t→t < N) :
  ∀ (f : Nat) (l : Array Bool) (w : World) (σ : Store) (μ : List Loc) (ρ : Env) (a : Act),ST G B N w σ μ ρ a→Frame w₀ σ₀ μ₀ w σ μ→DF fl w₀ w σ μ ds₀ a.defers→CG P G ops f l Q ρ σ→wpAnyIn (Fr ro) 0 P .any ops (Post fl B N w₀ σ₀ μ₀ ds₀ Q) f l a w
 | 0,l,w,σ,μ,ρ,a,hS,hF,hD,h=>⟨h.1,.normal,ρ,σ,μ,h.2,trivial,hF,hS.sr,hS.env,hS.size,hD⟩
 | f+1,l,w,σ,μ,ρ,a,hS,hF,hD,h=>by
  refine ⟨fun hr=>⟨.normal,ρ,σ,μ,h.1 hr,trivial,hF,hS.sr,hS.env,hS.size,hD⟩,fun i hi=>?_⟩
  obtain ⟨o,ho,hg,h⟩:=h.2 i hi
  unfold wpOpIn
  rw [ho]
  have hw : Region.wanted o (yielded ops a.tmps)=true:=by simp [Region.wanted,hg]
  simp only [hw,if_true]
  refine mY hS h (fun x u w' σ' μ' hx hF' hS' hV=>?_) (fun x u w' σ' μ' hx hF' hS' hV=>?_)
  ·exact zx hd f _ w' σ' μ' _ _ (hS.next hF' hS' hV (hd i o ho)) (hF.trans hF') (by rw [put_defers];exact hD.keep hF') hx
  ·exact ⟨.panic x,ρ,σ',μ',hx,⟨u,rfl,hV⟩,hF.trans hF',hS',hS.env.ext hF'.ext,hS.size,hD.keep hF'⟩
section
variable {F : Fence} {n : Nat} {ops ops1 : Array Oper} {Q Q1 : Exit→Act→World→Prop} {m : Nat}
theorem BP {f : Nat} {l : Array Bool} {a : Act} {w : World} (d : Nat) (h : wpAnyIn F n P .any ops Q f l a w) : wpAnyIn F n P .any ops Q (f+d) l a w:=by
 induction f generalizing l a w with
 | zero =>
  cases d with
  | zero=>exact h
  | succ d =>
   rw [Nat.zero_add]
   exact ⟨fun _=>h.2,fun i hi=>by rw [h.1] at hi;cases hi⟩
 | succ f ih =>
  rw [show f+1+d=f+d+1 by omega]
  exact ⟨h.1,fun i hi=>wpOpIn_mono (fun a w h=>ih h) (h.2 i hi)⟩
def parts (k : Nat) (l : Array Bool) : Array Bool:=l++Array.replicate k false
theorem wz {k : Nat} {l : Array Bool} {j : Nat} {b : Bool} : (parts k l).getD j b=if j < l.size then l.getD j b else if j < l.size+k then false else b:=by
 unfold parts
 rw [Array.getD_eq_getD_getElem?,Array.getElem?_append]
 by_cases h : j < l.size
 ·rw [if_pos h,if_pos h,Array.getD_eq_getD_getElem?]
 ·rw [if_neg h,if_neg h,Array.getElem?_replicate]
  by_cases h2 : j < l.size+k
  ·rw [if_pos (by omega),if_pos h2];rfl
  ·rw [if_neg (by omega),if_neg h2];rfl
theorem JC {k : Nat} {l : Array Bool} {j : Nat} (h : j < l.size) : parts k (l.setIfInBounds j true)=(parts k l).setIfInBounds j true:=by
 unfold parts
 apply Array.ext_getElem?
 intro i
 rw [Array.getElem?_append,Array.getElem?_setIfInBounds,Array.getElem?_setIfInBounds,Array.getElem?_append,Array.size_setIfInBounds]
 by_cases hi : i < l.size
 ·by_cases hj : j=i
  ·subst hj;simp [hi];omega
  ·simp [hi,hj]
 ·have hj : j≠i:=by omega
  simp [hi,hj]
theorem G5 {o : Oper} {a : Act} {w : World} {K K' : Act→World→Prop} {Q Q' : Exit→Act→World→Prop} (h : ∀ a w,K a w→K' a w) (hq : ∀ e a w,e≠.normal→Q e a w→Q' e a w) (hl : LetsOut Q→LetsOut Q')
  (hh : o.wpIn F n P a w K Q) : o.wpIn F n P a w K' Q':=by
 unfold Oper.wpIn at *
 refine ⟨hh.1, ?_⟩
 have hh:=hh.2
 generalize (o.semAt F.round a.eval).run P w=r at *
 cases r with
 | ok x w' =>
  cases x<;>simp only [Oper.uponIn] at hh ⊢ <;>
   first
    | exact h _ _ hh
    | exact ⟨hh.1,CallsIn.mono hh.2 (fun e w'' he=>by cases e<;>first | exact h _ _ he | exact hq _ _ _ (by simp) he | exact hl he)⟩
    | exact ⟨hh.1,RowsIn.mono hh.2 (fun _ _ he=>h _ _ he)⟩
    | exact ⟨hh.1,RoundIn.mono hh.2 (fun e w'' he=>by cases e<;>first | exact h _ _ he | exact hq _ _ _ (by simp) he | exact hl he)⟩
 | halt x w'=>cases x<;>simp only [Oper.uponIn] at hh ⊢<;>first | exact hh | exact hq _ _ _ (by simp) hh
theorem KJ (hm : ops1.size=m) (hk : m≤ops.size) (heq : ∀ i,i < m→ops1[i]?=ops[i]?) (acyc : ∀ i o,i < m→ops[i]?=some o→∀ e ∈ o.after.toList,Region.binds .any e=true→e.on < i)
  (hcut : ∀ i o,m≤i→ops[i]?=some o→∀ j,j < m→∃ e ∈ o.after.toList,Region.binds .any e=true∧e.on=j)
  (f2 : Nat) (hgu : ∀ i o,i < m→ops[i]?=some o→o.guard=none) (hQ : ∀ e a w,e≠.normal→Q1 e a w→Q e a w) (hLO : LetsOut Q1→LetsOut Q) (hn : ∀ a w (l : Array Bool),l.size=m→(∀ j,j < m→l.getD j false=true)→Q1 .normal a w→wpAnyIn F n P .any ops Q f2 (parts (ops.size-m) l) a w) :
  ∀ (f1 : Nat) (l : Array Bool) (a : Act) (w : World),l.size=m→wpAnyIn F n P .any ops1 Q1 f1 l a w→wpAnyIn F n P .any ops Q (f1+f2) (parts (ops.size-m) l) a w:=by
 have hops : ops.size=m+(ops.size-m):=by omega
 have inR : ∀ (l : Array Bool),l.size=m→∀ i,i ∈ Region.ready .any ops1 l↔(i < m∧l.getD i true=false∧∀ o,ops[i]?=some o→∀ e ∈ o.after.toList,Region.binds .any e=true→l.getD e.on false=true):=by
  intro l hl i
  unfold Region.ready
  simp only [List.mem_filter,List.mem_range,hm,Bool.and_eq_true,Bool.not_eq_true']
  constructor
  ·rintro ⟨h1,h2,h3⟩
   refine ⟨h1,h2,fun o ho e he hb=>?_⟩
   rw [heq i h1,ho] at h3
   simp only [Option.map_some,Option.getD_some,Array.all_eq_true'] at h3
   have:=h3 e (by simpa using he)
   simpa [hb] using this
  ·rintro ⟨h1,h2,h3⟩
   refine ⟨h1,h2, ?_⟩
   rw [heq i h1]
   have hi : i < ops.size:=by omega
   rw [Array.getElem?_eq_getElem hi] at h3 ⊢
   simp only [Option.map_some,Option.getD_some,Array.all_eq_true']
   intro e he
   cases hb : Region.binds .any e with
   | false=>rfl
   | true=>simpa using h3 _ rfl e (by simpa using he) hb
 have inR2 : ∀ (l : Array Bool),l.size=m→(∃ j,j < m∧l.getD j false=false)→Region.ready .any ops (parts (ops.size-m) l)=Region.ready .any ops1 l:=by
  intro l hl ⟨j,hj,hjf⟩
  unfold Region.ready
  rw [hm]
  have hrange : List.range ops.size=List.range m++(List.range (ops.size-m)).map (m+·):=by
   rw [← List.range_add];congr 1
  have e2 : ((List.range (ops.size-m)).map fun x=>m+x).filter (fun i=>!(parts (ops.size-m) l).getD i true && ((ops[i]?).map (·.after.all fun e=>!Region.binds .any e || (parts (ops.size-m) l).getD e.on false)).getD false)=[]:=by
   rw [List.filter_eq_nil_iff]
   intro i hi
   obtain ⟨x,hx,rfl⟩:=List.mem_map.1 hi
   have hx' : m+x < ops.size:=by have:=List.mem_range.1 hx;omega
   obtain ⟨e,he,hb,hej⟩:=hcut (m+x) _ (by omega) (Array.getElem?_eq_getElem hx') j hj
   intro hc
   rw [Array.getElem?_eq_getElem hx'] at hc
   simp only [Option.map_some,Option.getD_some,Bool.and_eq_true,Array.all_eq_true'] at hc
   have:=hc.2 e (by simpa using he)
   rw [hb,hej,wz,if_pos (by omega),hjf] at this
   cases this
  rw [hrange,List.filter_append,e2,List.append_nil]
  apply List.filter_congr
  intro i hi
  have hi' : i < m:=List.mem_range.1 hi
  rw [wz,if_pos (by omega),heq i hi']
  congr 1
  have hio : i < ops.size:=by omega
  rw [Array.getElem?_eq_getElem hio]
  simp only [Option.map_some,Option.getD_some]
  rw [Bool.eq_iff_iff]
  simp only [Array.all_eq_true']
  have key : ∀ e ∈ ops[i].after,(!Region.binds .any e || (parts (ops.size-m) l).getD e.on false)=(!Region.binds .any e || l.getD e.on false):=by
   intro e he
   cases hb : Region.binds .any e with
   | false=>rfl
   | true =>
    have:=acyc i _ hi' (Array.getElem?_eq_getElem hio) e (by simpa using he) hb
    rw [wz,if_pos (by omega)]
  constructor
  ·intro h e he;rw [← key e he];exact h e he
  ·intro h e he;rw [key e he];exact h e he
 have allOf : ∀ (l : Array Bool),l.size=m→Region.ready .any ops1 l=[]→∀ j,j < m→l.getD j false=true:=by
  intro l hl hr j
  induction j using Nat.strongRecOn with
  | ind j ih =>
   intro hj
   cases hb : l.getD j false with
   | true=>rfl
   | false =>
    exfalso
    have : j ∈ Region.ready .any ops1 l:=(inR l hl j).2 ⟨hj,bJ.2 ⟨by omega,hb⟩,fun o ho e he hbi=>by
     have:=acyc j o hj ho e he hbi
     exact ih e.on this (by omega)⟩
    rw [hr] at this
    cases this
 intro f1
 induction f1 with
 | zero =>
  intro l a w hl h
  rw [Nat.zero_add]
  exact hn a w l hl (allOf l hl h.1) h.2
 | succ f1 ih =>
  intro l a w hl h
  by_cases hall : ∀ j,j < m→l.getD j false=true
  ·have hr : Region.ready .any ops1 l=[]:=by
    rw [List.eq_nil_iff_forall_not_mem]
    intro i hi
    obtain ⟨h1,h2,_⟩:=(inR l hl i).1 hi
    have:=(bJ.1 h2).2
    rw [hall i h1] at this;cases this
   have:=hn a w l hl hall (h.1 hr)
   rw [show f1+1+f2=f2+(f1+1) by omega]
   exact BP _ this
  ·have hex : ∃ j,j < m∧l.getD j false=false:=by
    refine Classical.byContradiction fun hno=>hall fun j hj=>?_
    cases hb : l.getD j false with
    | true=>rfl
    | false=>exact absurd ⟨j,hj,hb⟩ hno
   have e:=inR2 l hl hex
   rw [show f1+1+f2=f1+f2+1 by omega]
   refine ⟨fun hr=>?_,fun i hi=>?_⟩
   ·exfalso
    rw [e] at hr
    obtain ⟨j,hj,hb⟩:=hex
    rw [allOf l hl hr j hj] at hb;cases hb
   ·rw [e] at hi
    have him:=((inR l hl i).1 hi).1
    have:=h.2 i hi
    have hstep : ∀ {K K' : Act→World→Prop},(∀ a w,K a w→K' a w)→wpOpIn F n P ops1 Q1 i K a w→wpOpIn F n P ops Q i K' a w:=by
     intro K K' hK hh
     unfold wpOpIn at hh ⊢
     rw [heq i him] at hh
     have hio : i < ops.size:=by omega
     rw [Array.getElem?_eq_getElem hio] at hh ⊢
     have hw : ∀ y,Region.wanted ops[i] y=true:=fun y=>by simp [Region.wanted,hgu i _ him (Array.getElem?_eq_getElem hio)]
     simp only [hw,if_true] at hh ⊢
     exact G5 hK hQ hLO hh
    refine hstep (fun a w h=>?_) this
    rw [← JC (by omega)]
    exact ih _ a w (by simpa using hl) h
end
theorem UA {f : FuncId} {fn : Func} {c : Code} {xs : List VV} {σ : Store} {R : gY→Store→Prop} (hfn : P.funcs[f]?=some fn) (hc : fn.body=some c) (hn : xs.length≤fn.ntmps)
  (h : VW false P G none fn.ntmps c (rO P fn.results.toList R) (dH 0 xs) σ) : CV P G f xs σ R:=by
 intro B w μ vs hS hG hv
 have hlen : vs.size=xs.length:=by have:=hv.length;simpa using this
 refine callsIn_of_wp_marks hfn hc trivial ?_
 refine wpIn_mono (h B w μ _ ⟨hS,hG,nT hv,by simp;omega⟩) ?_
 rintro e a' w' ⟨o,ρ',σ',μ',hq,hx,hF,hSR,hE,hz,Ds,-,hd1,hd2,hd3⟩
 simp only [List.append_nil] at hd1
 have fin : ∀ w',Frame w σ μ w' σ' μ'→SR B w' σ' μ'→jg w' (OO B σ' μ') μ' ρ' a'.tmps→(resV P fn.results.toList ρ' σ' fun xs=>R (.ret (lI xs)) σ')→∃ v,(results fn a'.tmps).run P w'=.ok v w'∧∃ r σ'' μ'',R r σ''∧Frame w σ μ w' σ'' μ''∧SR B w' σ'' μ''∧nG w' (OO B σ'' μ'') μ'' r (.returned v):=by
  intro w' hF hSR hE hr
  obtain ⟨ys,us,k1,k2,k3⟩:=qg hSR hE _ _ hr
  refine ⟨if h : us.toArray.size=1 then us.toArray[0] else .tuple us.toArray, ?_,.ret (lI ys),σ',μ',k1,hF,hSR, ?_⟩
  ·have e : (fn.results.mapM (kS a'.tmps)).run P w'=.ok us.toArray w':=by
    rw [Array.mapM_eq_mapM_toList]
    simp [k3]
   have e' : results fn a'.tmps=(do let vs ← fn.results.mapM (kS a'.tmps);pure (if h : vs.size=1 then vs[0] else .tuple vs)):=by
    unfold results
    congr 1
   rw [e',Sem.run_bind,e]
   rfl
  ·simp only [nG]
   have hl:=k2.length
   split
   ·rename_i h1
    simp only [List.size_toArray] at h1
    match us,ys,h1,hl with
    | [u],[y],_,_ =>
     simp only [bI] at k2
     obtain ⟨y',l,e,k2,rfl⟩:=k2
     cases e
     exact k2
   ·rename_i h1
    simp only [List.size_toArray] at h1
    have : lI ys=.tup ys:=by
     unfold lI
     split
     ·simp at hl;omega
     ·rfl
    rw [this]
    simp only [VR]
    exact ⟨_,rfl,by simpa using k2⟩
 cases o<;>cases e<;>simp only [jm] at hx<;>simp only [rO] at hq
 ·show LeavesInM _ _ _ _ _ _ _ _ _
  rw [hd1]
  exact iQ (by simp) Ds w' hd2 hd3 hF hSR hE fun w'' k1 k2 k3 _=>fin w'' k1 k2 k3 hq
 ·show LeavesInM _ _ _ _ _ _ _ _ _
  rw [hd1]
  exact iQ (by simp) Ds w' hd2 hd3 hF hSR hE fun w'' k1 k2 k3 _=>fin w'' k1 k2 k3 hq
 ·obtain ⟨v,rfl,hv⟩:=hx
  show LeavesInM _ _ _ _ _ _ _ _ _
  rw [hd1]
  exact iQ (by simp) Ds w' hd2 hd3 hF hSR hE fun w'' k1 k2 k3 k4=>⟨_,σ',μ',hq,k1,k2,v,rfl,VR.ext k4 _ _ hv⟩
theorem MK {fl : Bool} {ro : Option Nat} {N : Nat} {x y : Code} {Q : Out→Env→Store→Prop} {K : Env→Store→Prop} {ρ : Env} {σ : Store} (hx : VW fl P G ro N x (dD K Q) ρ σ) (hy : ∀ ρ σ,K ρ σ→VW fl P G ro N y Q ρ σ) : VW fl P G ro N (.seq x y) Q ρ σ:=by
 intro B w μ a hS
 refine wpIn_seq (wpIn_mono (hx B w μ a hS) ?_)
 rintro e a₁ w₁ ⟨o,ρ₁,σ₁,μ₁,hq,hx,hF,hSR,hE,hz,hd⟩
 cases o<;>cases e<;>simp only [jm] at hx
 case normal.normal =>
  refine wpIn_mono (hy ρ₁ σ₁ hq B w₁ μ₁ a₁ (hS.later hF hSR hE hz)) ?_
  rintro e a₂ w₂ ⟨o₂,ρ₂,σ₂,μ₂,k1,k2,k3,k4,k5,k6,k7⟩
  exact ⟨o₂,ρ₂,σ₂,μ₂,k1,k2,hF.trans k3,k4,k5,k6,hd.trans hF.size k3 k7⟩
 all_goals first
  | exact ⟨_,ρ₁,σ₁,μ₁,hq,hx,hF,hSR,hE,hz,hd⟩
  | exact ⟨.ret,ρ₁,σ₁,μ₁,hq,trivial,hF,hSR,hE,hz,hd⟩
theorem U6 {fl : Bool} {ro : Option Nat} {N id m : Nat} {ops : Array Oper} {ds : List DO} {Q : Out→Env→Store→Prop} {ρ : Env} {σ : Store} (hmix : P.follows .mixedOrders=true) (hk : m≤ops.size) (hp : Plan (ops.extract 0 m) N ds)
  (acyc : ∀ i o,i < m→ops[i]?=some o→∀ e ∈ o.after.toList,Region.binds .any e=true→e.on < i)
  (hcut : ∀ i o,m≤i→ops[i]?=some o→∀ j,j < m→∃ e ∈ o.after.toList,Region.binds .any e=true∧e.on=j) (hgu : ∀ i o,i < m→ops[i]?=some o→o.guard=none) (hd : ∀ (i : Nat) (o : Oper),ops[i]?=some o→∀ t,o.dst=some t→t < N)
  (h : aV P G ds [] (dD (fun ρ σ=>CG P G ops (ops.size-m) (parts (ops.size-m) (Array.replicate m true)) Q ρ σ) Q) ρ σ) : VW fl P G ro N (.region id ops true) Q ρ σ:=by
 intro B w μ a hS
 refine wpIn_region_any hmix ?_
 have hh : ∀ b,b < w.heap.size→({ w with drawn:=w.drawn+1 } : World).heap[b]?=w.heap[b]?:=fun _ _=>rfl
 have hF : Frame w σ μ { w with drawn:=w.drawn+1 } σ μ:=.still (Nat.le_refl _) hh rfl rfl rfl
 have hf : ∀ i,(Array.replicate (ops.extract 0 m).size false).getD i false=false:=by
  intro i
  rw [Array.getD_eq_getD_getElem?,Array.getElem?_replicate]
  split<;>rfl
 have hsz : (ops.extract 0 m).size=m:=by simp;omega
 have first:=Bh (G:=G) (ρ₀:=ρ) (ro:=ro) (fl:=fl) (B:=B) (w₀:=w) (σ₀:=σ) (μ₀:=μ) (ds₀:=a.defers) hp (ops.extract 0 m).size [] ds [] σ μ ρ (Array.replicate (ops.extract 0 m).size false) a { w with drawn:=w.drawn+1 } {
  all:=by simp
  size:=by simp
  effs:=fun r hr=>by cases hr
  un:=fun d _=>hf _
  closed:=fun i o _ hi=>by simp only [hf] at hi;cases hi
  st:=⟨hS.sr.still hh (Nat.le_refl _),hS.gl.ext hF.ext,hS.env.ext hF.ext,hS.size⟩
  fr:=hF
  df:=rfl
  env1:=fun r hr=>by cases hr
  env2:=fun t _=>rfl
  views:=fun T₁ r T₂ e=>by simp at e
  pd:=fun T₁ r T₂ e=>by simp at e
  res:=h } (Nat.le_trans List.countP_le_length hp.len)
 rw [hsz] at first
 have two:=KJ (P:=P) (F:=Fr ro) (n:=0) (Q:=Post fl B N w σ μ a.defers Q) hsz hk (fun i hi=>by rw [Array.getElem?_extract];simp [hi];omega) acyc hcut (ops.size-m) hgu (fun e a' w' he hq=>by
  obtain ⟨o,ρ',σ',μ',hq,hx,h⟩:=hq
  cases o<;>first
   | exact ⟨_,ρ',σ',μ',hq,hx,h⟩
   | (cases e<;>simp only [jm] at hx;exact absurd rfl he)) (fun hl=>by
  obtain ⟨a',w',o,_,_,_,_,hx,_⟩:=hl
  cases o<;>simp only [jm] at hx) (fun a' w' l hl hall hq=>by
  obtain ⟨o,ρ',σ',μ',hq,hx,hF',hSR,hE,hz,hd'⟩:=hq
  have hlm : l=Array.replicate m true:=by
   apply Array.ext
   ·simp [hl]
   ·intro i h1 h2
    have:=hall i (by omega)
    rw [Array.getD_eq_getD_getElem?,Array.getElem?_eq_getElem h1] at this
    simpa using this
  subst hlm
  cases o<;>simp only [jm] at hx
  exact zx hd _ _ _ _ _ _ _ (hS.later hF' hSR hE hz) hF' hd' hq) m (Array.replicate m false) a _ (by simp) first
 have e : parts (ops.size-m) (Array.replicate m false)=Array.replicate ops.size false:=by
  unfold parts
  rw [Array.replicate_append_replicate]
  congr 1;omega
 rw [e] at two
 rw [show m+(ops.size-m)=ops.size by omega] at two
 exact two
def Td (ops : Array Oper) (m N : Nat) : Bool :=
 (List.range ops.size).all fun i=>match ops[i]? with
  | some o=>U8 N o.dst && (if i < m then o.guard.isNone && o.after.toList.all (fun e=>!Region.binds .any e || decide (e.on < i)) else (List.range m).all fun j=>o.after.toList.any fun e=>Region.binds .any e && e.on == j)
  | none=>true
theorem RY {fl : Bool} {ro : Option Nat} {lab : FuncId→Bool} {N id m : Nat} {ops : Array Oper} {ds : List DO} {Q : Out→Env→Store→Prop} {ρ : Env} {σ : Store} (hmix : P.follows .mixedOrders=true) (hk : m≤ops.size)
  (hp : (GH lab (ops.extract 0 m)).mapM (KR (ops.extract 0 m))=some ds) (hp2 : zC (ops.extract 0 m) N ds=true) (hok : Td ops m N=true)
  (h : aV P G ds [] (dD (fun ρ σ=>CG P G ops (ops.size-m) (parts (ops.size-m) (Array.replicate m true)) Q ρ σ) Q) ρ σ) : VW fl P G ro N (.region id ops true) Q ρ σ:=by
 have key : ∀ i o,ops[i]?=some o→(U8 N o.dst && (if i < m then o.guard.isNone && o.after.toList.all (fun e=>!Region.binds .any e || decide (e.on < i)) else (List.range m).all fun j=>o.after.toList.any fun e=>Region.binds .any e && e.on == j))=true:=by
  intro i o ho
  have hi : i < ops.size:=(Array.getElem?_eq_some_iff.1 ho).1
  have:=List.all_eq_true.1 hok i (List.mem_range.2 hi)
  rw [ho] at this
  exact this
 refine U6 hmix hk (yG hp hp2) (fun i o hi ho e he hb=>?_) (fun i o hi ho j hj=>?_) (fun i o hi ho=>?_) (fun i o ho t ht=>?_) h
 ·have:=key i o ho
  rw [if_pos hi,Bool.and_eq_true,Bool.and_eq_true] at this
  have:=List.all_eq_true.1 this.2.2 e he
  simpa [hb] using this
 ·have:=key i o ho
  rw [if_neg (by omega),Bool.and_eq_true] at this
  have:=List.all_eq_true.1 this.2 j (List.mem_range.2 hj)
  obtain ⟨e,he,h2⟩:=List.any_eq_true.1 this
  simp only [Bool.and_eq_true,beq_iff_eq] at h2
  exact ⟨e,he,h2.1,h2.2⟩
 ·have:=key i o ho
  rw [if_pos hi,Bool.and_eq_true,Bool.and_eq_true] at this
  simpa using this.2.1
 ·have:=key i o ho
  rw [Bool.and_eq_true] at this
  have:=this.1
  rw [ht] at this
  simpa [U8] using this
theorem fK {ops : Array Oper} {f : Nat} {l : Array Bool} {Q : Out→Env→Store→Prop} {ρ : Env} {σ : Store} {is : List Nat} (hr : Region.ready .any ops l=is) (hne : is≠[])
  (h : ∀ i ∈ is,∃ d op ty,(ops[i]?).map (fun o=>(o.dst,o.op,o.type,o.guard))=some (d,op,ty,none)∧bM P G [⟨d,op,ty,none⟩] (dD (fun ρ σ=>CG P G ops f (l.setIfInBounds i true) Q ρ σ) Q) ρ σ) : CG P G ops (f+1) l Q ρ σ:=by
 refine ⟨fun h0=>absurd (hr.symm.trans h0) hne,fun i hi=>?_⟩
 obtain ⟨d,op,ty,e,hw⟩:=h i (hr ▸ hi)
 simp only [Option.map_eq_some_iff] at e
 obtain ⟨o,ho,e⟩:=e
 simp only [Prod.mk.injEq] at e
 obtain ⟨rfl,rfl,rfl,e⟩:=e
 exact ⟨o,ho,e,hw⟩
theorem AX {ops : Array Oper} {Q Q' : Out→Env→Store→Prop} (hq : ∀ o ρ σ,Q o ρ σ→Q' o ρ σ) : ∀ (f : Nat) (l : Array Bool) (ρ : Env) (σ : Store),CG P G ops f l Q ρ σ→CG P G ops f l Q' ρ σ
 | 0,l,ρ,σ,h=>⟨h.1,hq _ _ _ h.2⟩
 | f+1,l,ρ,σ,h=>⟨fun h0=>hq _ _ _ (h.1 h0),fun i hi=>by
  obtain ⟨o,ho,hg,hw⟩:=h.2 i hi
  exact ⟨o,ho,hg,zX (fun x σ' h=>AX hq f _ _ _ h) (fun x σ' h=>hq _ _ _ h) hw⟩⟩
end Go.V
