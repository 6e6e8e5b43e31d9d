/- Texts V25 V26. -/
import Derived.RecoverIn
import Derived.Test.YthhjefemijhamaaGreatDoorG11
set_option linter.unusedVariables false
set_option linter.unusedSimpArgs false
namespace Go.V
variable {P : Program} {G : Nat→Option (List VV)}
def PX (w : World) (O : Nat→Prop) (μ : List Loc) : Option VV→FrameMode→Prop
 | none,u=>u=.returning
 | some x,u=>∃ v,u=.panicking [{ v,recovered:=false }]∧VR w O μ x v
def CD (P : Program) (G : Nat→Option (List VV)) (g : FuncId) (caps : List VV) (σ : Store) (X : Option VV) (R : Store→Prop) : Prop :=
 ∀ (B : Nat→Prop) (w : World) (μ : List Loc) (vs : Array Value) (u : FrameMode),SR B w σ μ→MC G w (OO B σ μ) μ→dF w (OO B σ μ) μ caps vs.toList→PX w (OO B σ μ) μ X u →
  CallsDIn Fence.wide 0 P g vs u w fun e u' w'=>(∃ v,e=.returned v)∧settle u'=.returning∧∃ σ' μ',R σ'∧Frame w σ μ w' σ' μ'∧SR B w' σ' μ'
structure DFn where
 code : aA
 res : List ResultVar
 n : Nat
 t1 : Nat
 t2 : Nat
def Ry : List Oper→Option (Nat × Nat)
 | [o1,o2]=>match o1.dst,o1.op,o1.guard,o2.dst,o2.op,o2.guard with
  | some t1,.call c,none,some t2,.assign (.tmp t),none=>match c.callee with
   | .builtin .recover=>if t1=t then some (t1,t2) else none
   | _=>none
  | _,_,_,_,_,_=>none
 | _=>none
def X3 (P : Program) (lab : FuncId→Bool) (g : FuncId) : Option DFn:=match P.funcs[g]? with
 | some fn=>match fn.body with
  | some (.seq (.region _ ops false) r)=>match Ry ops.toList,comp lab fn.ntmps r with
   | some (t1,t2),some vc=>if vc.flat && decide (t1 < fn.ntmps) && decide (t2 < fn.ntmps) && decide (t1≠t2) then some ⟨vc,fn.results.toList,fn.ntmps,t1,t2⟩ else none
   | _,_=>none
  | _=>none
 | none=>none
def leaveD (P : Program) (rs : List ResultVar) (R : Store→Prop) : Out→Env→Store→Prop
 | .normal,ρ,σ | .ret,ρ,σ=>resV P rs ρ σ fun _=>R σ
 | _,_,_=>False
theorem rM {B : Nat→Prop} {w : World} {σ : Store} {μ : List Loc} {ρ : Env} {tmps : Array Value} {fn : Func} {K : List VV→Prop} (hS : SR B w σ μ) (hE : jF w (OO B σ μ) μ ρ tmps) (h : resV P fn.results.toList ρ σ K) :
  ∃ ys v,K ys∧(results fn tmps).run P w=.ok v w∧VR w (OO B σ μ) μ (lD ys) v:=by
 obtain ⟨ys,us,k1,k2,k3⟩:=rO hS hE _ _ h
 refine ⟨ys,if h : us.toArray.size=1 then us.toArray[0] else .tuple us.toArray,k1, ?_, ?_⟩
 ·have e : (fn.results.mapM (ng tmps)).run P w=.ok us.toArray w:=by
   rw [Array.mapM_eq_mapM_toList]
   simp [k3]
  have e' : results fn tmps=(do let vs ← fn.results.mapM (ng tmps);pure (if h : vs.size=1 then vs[0] else .tuple vs)):=by
   unfold results
   congr 1
  rw [e',Sem.run_bind,e]
  rfl
 ·have hl:=k2.length
  split
  ·rename_i h1
   simp only [List.size_toArray] at h1
   match us,ys,h1,hl with
   | [u],[y],_,_ =>
    simp only [dF] at k2
    obtain ⟨y',l,e,k2,rfl⟩:=k2
    cases e
    exact k2
  ·rename_i h1
   simp only [List.size_toArray] at h1
   have : lD ys=.tup ys:=by
    unfold lD
    split
    ·simp at hl;omega
    ·rfl
   rw [this]
   simp only [VR]
   exact ⟨_,rfl,by simpa using k2⟩
theorem Xp {lab : FuncId→Bool} {g : FuncId} {D : DFn} {caps : List VV} {σ : Store} {X : Option VV} {R : Store→Prop} (hmix : P.follows .mixedOrders=true) (hf : X3 P lab g=some D) (hn : caps.length≤D.n)
  (h : jQ P G D.code (leaveD P D.res R) ((D.t2,X.getD .nili)::(D.t1,X.getD .nili)::fP 0 caps) σ) : CD P G g caps σ X R:=by
 unfold X3 at hf
 split at hf
 rotate_left
 ·cases hf
 rename_i fn hfn
 split at hf
 rotate_left
 ·cases hf
 rename_i rid ops r hb
 split at hf
 rotate_left
 ·cases hf
 rename_i t1 t2 vc hops hvc
 split at hf
 rotate_left
 ·cases hf
 rename_i hfl
 cases hf
 simp only [Bool.and_eq_true,decide_eq_true_eq] at hfl
 obtain ⟨⟨⟨hfl,ht1⟩,ht2⟩,ht12⟩:=hfl
 simp only at h hn
 unfold Ry at hops
 split at hops
 rotate_left
 ·cases hops
 rename_i o1 o2 hlist
 split at hops
 rotate_left
 ·cases hops
 rename_i u1 cl u2 u1' hd1 ho1 hg1 hd2 ho2 hg2
 split at hops
 rotate_left
 ·cases hops
 rename_i hcl
 split at hops
 rotate_left
 ·cases hops
 rename_i hu
 cases hops
 subst hu
 intro B w μ vs u hS hG hv hm
 have hlen : vs.size=caps.length:=by have:=hv.length;simpa using this
 refine callsDIn_of_wpSIn hfn hb trivial fun c₀ cs hmode=>wpSIn_seq (wpSIn_region ?_)
 have hsz : ops.size=2:=by rw [← Array.length_toList,hlist];rfl
 have g0 : ops[0]?=some o1:=by rw [← Array.getElem?_toList,hlist];rfl
 have g1 : ops[1]?=some o2:=by rw [← Array.getElem?_toList,hlist];rfl
 rw [hsz]
 obtain ⟨a0,ha0⟩ : ∃ a0 : Act,a0={ tmps:=vs++Array.replicate (fn.ntmps-vs.size) undef,defers:=[] }:=⟨_,rfl⟩
 have hE0 : jF w (OO B σ μ) μ (fP 0 caps) a0.tmps:=by rw [ha0];exact qy hv
 have hz0 : a0.tmps.size=fn.ntmps:=by rw [ha0];simp;omega
 have hd0 : a0.defers=[]:=by rw [ha0]
 rw [← ha0]
 show wpOpsSIn _ _ _ _ _ [0,1] _ _ _
 have hwant : ∀ (o : Oper) (f : _),o.guard=none→Region.wanted o f=true:=fun o f ho=>by simp [Region.wanted,ho]
 have key : ∃ (v : Value) (u' : FrameMode),settle u'=.returning∧VR w (OO B σ μ) μ (X.getD .nili) v∧(match recoverD (c₀::cs) with
   | some (v',cs')=>v'=v∧cs'={ c₀ with mode:=u' }::cs
   | none=>v=.nilIface∧u'=u):=by
  cases X with
  | none =>
   simp only [PX] at hm
   refine ⟨.nilIface,u,by rw [hm];rfl,by simp [VR], ?_⟩
   simp [recoverD,hmode,hm]
  | some x =>
   obtain ⟨v,hu,hx⟩:=hm
   refine ⟨v,.panicking [{ v,recovered:=true }],rfl,hx, ?_⟩
   simp [recoverD,hmode,hu]
 obtain ⟨v,u',hset,hV,hrec⟩:=key
 have hcont : ∀ cs',cs'={ c₀ with mode:=u' }::cs→wpOpsSIn Fence.wide 0 P ops (Exit.thenS (r.wpSIn Fence.wide 0 P (bodyPostS P fn c₀ cs fun e u' w'=>(∃ v,e=.returned v)∧settle u'=.returning∧∃ σ' μ',R σ'∧Frame w σ μ w' σ' μ'∧SR B w' σ' μ')) (bodyPostS P fn c₀ cs fun e u' w'=>(∃ v,e=.returned v)∧settle u'=.returning∧∃ σ' μ',R σ'∧Frame w σ μ w' σ' μ'∧SR B w' σ' μ')) [1] (a0.put (some t1) v) cs' w:=by
  intro cs' hcs
  have hE1 : jF w (OO B σ μ) μ ((t1,X.getD .nili)::fP 0 caps) (a0.put (some t1) v).tmps:=jF.put hE0 hV (some t1) (fun t ht=>by cases ht;rw [hz0];exact ht1)
  have hev : (a0.put (some t1) v).eval (.tmp t1)=v:=by simp [Act.eval,Act.put,hz0,ht1]
  simp only [wpOpsSIn,g1,hwant _ _ hg2,if_true]
  refine ⟨fun _ _=>trivial, ?_⟩
  have hrun : (execOp (a0.put (some t1) v).eval o2).run P w=.ok (.value v) w:=by
   simp [execOp,ho2,hev]
  rw [hrun]
  simp only [wpOpsSIn,hd2]
  have hE2 : jF w (OO B σ μ) μ ((t2,X.getD .nili)::(t1,X.getD .nili)::fP 0 caps) ((a0.put (some t1) v).put (some t2) v).tmps:=jF.put hE1 hV (some t2) (fun t ht=>by cases ht;simp [Act.put,hz0,ht2])
  show r.wpSIn Fence.wide 0 P _ _ _ _
  refine wpSIn_of_wpIn rfl (wpIn_mono (iY (fl:=true) (ro:=none) hmix r vc hvc (.inr hfl) _ _ σ h B w μ _ ⟨hS,hG,hE2,by simp [Act.put,hz0]⟩) ?_)
  rintro e a' w' ⟨o,ρ',σ',μ',hq,hx,hF,hSR,hE,hz,Ds,hD0,hD,-,-⟩
  have hdef : a'.defers=[]:=by rw [hD,hD0 rfl];simp [Act.put,hd0]
  cases o<;>cases e<;>simp only [jL] at hx<;>simp only [leaveD] at hq
  ·obtain ⟨ys,rv,hk,hr1,_⟩:=rM hSR hE hq
   exact ⟨hdef,u',hcs,rv,hr1,⟨rv,rfl⟩,hset,σ',μ',hk,hF,hSR⟩
  ·obtain ⟨ys,rv,hk,hr1,_⟩:=rM hSR hE hq
   exact ⟨hdef,u',hcs,rv,hr1,⟨rv,rfl⟩,hset,σ',μ',hk,hF,hSR⟩
 rw [wpOpsSIn]
 simp only [g0]
 refine ⟨fun _ _=>trivial, ?_⟩
 rw [if_pos (hwant _ _ hg1)]
 have hrun : (execOp a0.eval o1).run P w=.ok .recover w:=by
  simp [execOp,ho1,resolve,hcl,invoke,builtin,Deferred.ofValue]
 rw [hrun]
 simp only [hd1]
 cases hrc : recoverD (c₀::cs) with
 | none =>
  rw [hrc] at hrec
  obtain ⟨rfl,rfl⟩:=hrec
  exact hcont _ (by cases c₀;simp_all)
 | some p =>
  obtain ⟨v',cs'⟩:=p
  rw [hrc] at hrec
  obtain ⟨rfl,rfl⟩:=hrec
  exact hcont _ rfl
end Go.V
namespace Go.V
variable {P : Program} {G : Nat→Option (List VV)}
def RH : List Oper→Option (VO × Nat)
 | [o1,o2]=>match o1.dst,o1.guard,o2.dst,o2.op,o2.guard with
  | some t1,none,none,.defer c,none=>match c.callee with
   | .value (.tmp t)=>if t1=t∧c.args.toList=[] then some (⟨some t1,o1.op,o1.type,none⟩,t1) else none
   | _=>none
  | _,_,_,_,_=>none
 | _=>none
structure TFn where
 va : aA
 vb : aA
 o : VO
 t : Nat
 vc : aA
 res : List ResultVar
 n : Nat
def X6 (P : Program) (lab : FuncId→Bool) (f : FuncId) : Option TFn:=match P.funcs[f]? with
 | some fn=>match fn.body with
  | some (.seq a (.seq b (.seq (.region _ ops false) c)))=>match comp lab fn.ntmps a,comp lab fn.ntmps b,RH ops.toList,comp lab fn.ntmps c with
   | some va,some vb,some (o,t),some vc=>if va.flat && vb.flat && vc.flat && decide (t < fn.ntmps) then some ⟨va,vb,o,t,vc,fn.results.toList,fn.ntmps⟩ else none
   | _,_,_,_=>none
  | _=>none
 | none=>none
def PO (P : Program) (G : Nat→Option (List VV)) (g : FuncId) (caps : List VV) (rs : List ResultVar) (R : dX→Store→Prop) : Out→Env→Store→Prop
 | .normal,ρ,σ | .ret,ρ,σ=>CD P G g caps σ none fun σ'=>resV P rs ρ σ' fun xs=>R (.ret (lD xs)) σ'
 | .panic x,ρ,σ=>CD P G g caps σ (some x) fun σ'=>resV P rs ρ σ' fun xs=>R (.ret (lD xs)) σ'
 | _,_,_=>False
theorem PU {lab : FuncId→Bool} {f : FuncId} {D : TFn} {xs : List VV} {σ : Store} {R : dX→Store→Prop} (hmix : P.follows .mixedOrders=true) (hf : X6 P lab f=some D) (hn : xs.length≤D.n)
  (h : jQ P G D.va (eX (jQ P G D.vb (eX (dQ P G [D.o] (eX (fun ρ σ=>∃ g first caps,ρ.get D.t=.fn (.func g) first caps∧first=[]∧au P g=true∧jQ P G D.vc (PO P G g caps D.res R) ρ σ) (fun _ _ _=>False))) (fun _ _ _=>False))) (fun _ _ _=>False)) (fP 0 xs) σ) :
  CV P G f xs σ R:=by
 unfold X6 at hf
 split at hf
 rotate_left
 ·cases hf
 rename_i fn hfn
 split at hf
 rotate_left
 ·cases hf
 rename_i ca cb rid ops cc hb
 split at hf
 rotate_left
 ·cases hf
 rename_i va vb o t vc hva hvb hops hvc
 split at hf
 rotate_left
 ·cases hf
 rename_i hfl
 cases hf
 simp only [Bool.and_eq_true,decide_eq_true_eq] at hfl
 obtain ⟨⟨⟨hfa,hfb⟩,hfc⟩,htn⟩:=hfl
 simp only at h hn
 unfold RH at hops
 split at hops
 rotate_left
 ·cases hops
 rename_i o1 o2 hlist
 split at hops
 rotate_left
 ·cases hops
 rename_i t1 c hd1 hg1 hd2 ho2 hg2
 split at hops
 rotate_left
 ·cases hops
 rename_i t' hcl
 split at hops
 rotate_left
 ·cases hops
 rename_i hcond
 obtain ⟨htt,hargs⟩:=hcond
 subst htt
 cases hops
 intro B w μ vs hS hG hv
 have hlen : vs.size=xs.length:=by have:=hv.length;simpa using this
 refine callsIn_of_wp_defers hfn hb trivial ?_
 have hsz : ops.size=2:=by rw [← Array.length_toList,hlist];rfl
 have g0 : ops[0]?=some o1:=by rw [← Array.getElem?_toList,hlist];rfl
 have g1 : ops[1]?=some o2:=by rw [← Array.getElem?_toList,hlist];rfl
 have hwant : ∀ (o : Oper) (f : _),o.guard=none→Region.wanted o f=true:=fun o f ho=>by simp [Region.wanted,ho]
 refine wpIn_seq (wpIn_mono (iY (fl:=true) (ro:=none) hmix ca va hva (.inr hfa) _ _ σ h B w μ _ ⟨hS,hG,qy hv,by simp;omega⟩) ?_)
 rintro e a1 w1 ⟨oo,ρ1,σ1,μ1,hq,hx,hF1,hS1,hE1,hz1,Ds1,k1,k2,-,-⟩
 cases oo<;>cases e<;>simp only [jL] at hx<;>simp only [eX] at hq
 have hdef1 : a1.defers=[]:=by rw [k2,k1 rfl];rfl
 have hG1:=hG.ext hF1.ext
 refine wpIn_seq (wpIn_mono (iY (fl:=true) (ro:=none) hmix cb vb hvb (.inr hfb) _ _ σ1 hq B w1 μ1 _ ⟨hS1,hG1,hE1,hz1⟩) ?_)
 rintro e a2 w2 ⟨oo,ρ2,σ2,μ2,hq,hx,hF2,hS2,hE2,hz2,Ds2,k1,k2,-,-⟩
 cases oo<;>cases e<;>simp only [jL] at hx<;>simp only [eX] at hq
 have hdef2 : a2.defers=[]:=by rw [k2,k1 rfl,hdef1];rfl
 have hG2:=hG1.ext hF2.ext
 refine wpIn_seq (wpIn_region ?_)
 rw [hsz]
 show wpOpsIn _ _ _ _ _ [0,1] _ _
 simp only [wpOpsIn,g0]
 rw [if_pos (hwant _ _ hg1)]
 simp only [dQ,iT] at hq
 refine pU (ro:=none) (o:=o1) ⟨hS2,hG2,hE2,hz2⟩ hq (fun x u w3 σ3 μ3 hk hF3 hS3 hV=>?_) (fun x u w3 σ3 μ3 hk=>by simp only [eX] at hk)
 simp only [eX] at hk
 obtain ⟨g,first,caps,hget,rfl,hbod,hwp⟩:=hk
 have hE3 : jF w3 (OO B σ3 μ3) μ3 (eP ρ2 (some t) x) (a2.put (some t) u).tmps:=jF.put (hE2.ext hF3.ext) hV (some t) (fun t' ht=>by cases ht;rw [hz2];exact htn)
 rw [hd1]
 have hvd:=hE3 t
 rw [hget] at hvd
 simp only [VR,dF] at hvd
 obtain ⟨av,cv,hvd,_,hav,hcv⟩:=hvd
 have hav' : av=#[]:=by simpa using hav
 subst hav'
 rw [g1]
 simp only
 rw [if_pos (hwant _ _ hg2)]
 have hz3 : (a2.put (some t) u).tmps.size=fn.ntmps:=by simp [Act.put,hz2]
 have hev : (a2.put (some t) u).eval (.tmp t)=.func (.func g) #[] cv:=hvd
 have hcargs : c.args=#[]:=by rw [← Array.toArray_toList (xs:=c.args),hargs]
 refine ⟨fun _ _=>trivial, ?_⟩
 have hrun : (o2.semAt Fence.wide.round (a2.put (some t) u).eval).run P w3=.ok (.defer { target:=.fn (.func g) cv,args:=#[] }) w3:=by
  rw [show Fence.wide.round=none from rfl,Oper.semAt_none]
  simp [execOp,ho2,resolve,hcl,hev,Deferred.ofValue,hcargs]
 rw [hrun,Oper.uponIn_defer,hd2]
 show Code.wpIn _ _ _ _ _ _ _
 have hG3:=hG2.ext hF3.ext
 refine wpIn_mono (iY (fl:=true) (ro:=none) hmix cc vc hvc (.inr hfc) _ _ σ3 hwp B w3 μ3 { (a2.put (some t) u) with defers:={ target:=.fn (.func g) cv,args:=#[] }::(a2.put (some t) u).defers } ⟨hS3,hG3,hE3,hz3⟩) ?_
 rintro e a4 w4 ⟨oo,ρ4,σ4,μ4,hq,hx,hF4,hS4,hE4,hz4,Ds4,k1,k2,-,-⟩
 have hdef4 : a4.defers=[{ target:=.fn (.func g) cv,args:=#[] }]:=by
  rw [k2,k1 rfl]
  simp [Act.put,hdef2]
 have hFw : Frame w σ μ w4 σ4 μ4:=((hF1.trans hF2).trans hF3).trans hF4
 have hG4:=hG3.ext hF4.ext
 have hinv : (invoke (.fn (.func g) cv) #[]).run P w4=.ok (.enter g cv) w4:=by
  unfold au at hbod
  split at hbod
  ·rename_i fn' hfn'
   simp only [Bool.and_eq_true,Bool.not_eq_true',Option.isSome_iff_exists] at hbod
   obtain ⟨hn',body,hbody⟩:=hbod
   have hn'' : ¬ (fn'.name = "runtime.NumGoroutine"):=by simpa using hn'
   simp [invoke,callFunc,hfn',hn'',hbody,Option.isNone]
  ·cases hbod
 have hcv4 : dF w4 (OO B σ4 μ4) μ4 caps cv.toList:=dF.ext hF4.ext _ _ hcv
 have fin : ∀ (X : Option VV) (u : FrameMode),u≠.run→PX w4 (OO B σ4 μ4) μ4 X u→CD P G g caps σ4 X (fun σ'=>resV P fn.results.toList ρ4 σ' fun xs=>R (.ret (lD xs)) σ') →
   LeavesIn Fence.wide 0 P fn a4.tmps (fun e w'=>∃ r σ' μ',R r σ'∧Frame w σ μ w' σ' μ'∧SR B w' σ' μ'∧lu w' (OO B σ' μ') μ' r e) a4.defers u w4:=by
  intro X u hu hm hcd
  rw [hdef4]
  refine leavesIn_cons hu (by simp [Fence.wide]) hinv (fun _ _=>trivial) ?_
  refine (hcd B w4 μ4 cv u hS4 hG4 hcv4 hm).mono ?_
  rintro e u' w5 ⟨⟨v,rfl⟩,hset,σ5,μ5,hr,hF5,hS5⟩
  show LeavesIn _ _ _ _ _ _ [] (settle u') w5
  rw [hset]
  obtain ⟨ys,rv,hk,hr1,hV⟩:=rM hS5 (hE4.ext hF5.ext) hr
  exact ⟨rv,hr1,.ret (lD ys),σ5,μ5,hk,hFw.trans hF5,hS5,hV⟩
 cases oo<;>cases e<;>simp only [jL] at hx<;>simp only [PO] at hq
 ·exact fin none .returning (by simp) rfl hq
 ·exact fin none .returning (by simp) rfl hq
 ·obtain ⟨v,rfl,hv⟩:=hx
  exact fin (some _) _ (by simp) ⟨v,rfl,hv⟩ hq
end Go.V
