/- Texts V27 V28. -/
import Derived.Test.YthhjefemijhamaaGreatDoorG12
set_option linter.unusedVariables false
set_option linter.unusedSimpArgs false
namespace Go.V
section
variable (P : Program) (G : Nat→Option (List VV))
def Fh (ops : Array Oper) : Nat→Array Bool→(Out→Env→Store→Prop)→Env→Store→Prop
 | 0,l,Q,ρ,σ=>Region.ready .any ops l=[]∧Q .normal ρ σ
 | f+1,l,Q,ρ,σ=>(Region.ready .any ops l=[]→Q .normal ρ σ)∧∀ i ∈ Region.ready .any ops l,∃ o,ops[i]?=some o∧o.guard=none∧Jk P G o.op o.type ρ σ (fun x σ'=>Fh ops f (l.setIfInBounds i true) Q (eP ρ o.dst x) σ') (fun x σ'=>Q (.panic x) ρ σ')
end
variable {P : Program} {G : Nat→Option (List VV)}
theorem Cc {fl : Bool} {ro : Option Nat} {ops : Array Oper} {N : Nat} {Q : Out→Env→Store→Prop} {B : Nat→Prop} {w₀ : World} {σ₀ : Store} {μ₀ : List Loc} {ds₀ : List Deferred} (hd : ∀ (i : Nat) (o : Oper),ops[i]?=some o→∀ t,o.dst=some t→t < N) :
  ∀ (f : Nat) (l : Array Bool) (w : World) (σ : Store) (μ : List Loc) (ρ : Env) (a : Act),ST G B N w σ μ ρ a→Frame w₀ σ₀ μ₀ w σ μ→DF fl w₀ w σ μ ds₀ a.defers→Fh P G ops f l Q ρ σ→wpAnyIn (Fr ro) 0 P .any ops (Post fl B N w₀ σ₀ μ₀ ds₀ Q) f l a w
 | 0,l,w,σ,μ,ρ,a,hS,hF,hD,h=>⟨h.1,.normal,ρ,σ,μ,h.2,trivial,hF,hS.sr,hS.env,hS.size,hD⟩
 | f+1,l,w,σ,μ,ρ,a,hS,hF,hD,h=>by
  refine ⟨fun hr=>⟨.normal,ρ,σ,μ,h.1 hr,trivial,hF,hS.sr,hS.env,hS.size,hD⟩,fun i hi=>?_⟩
  obtain ⟨o,ho,hg,h⟩:=h.2 i hi
  unfold wpOpIn
  rw [ho]
  have hw : Region.wanted o (yielded ops a.tmps)=true:=by simp [Region.wanted,hg]
  simp only [hw,if_true]
  refine pU hS h (fun x u w' σ' μ' hx hF' hS' hV=>?_) (fun x u w' σ' μ' hx hF' hS' hV=>?_)
  ·exact Cc hd f _ w' σ' μ' _ _ (hS.next hF' hS' hV (hd i o ho)) (hF.trans hF') (by rw [put_defers];exact hD.keep hF') hx
  ·exact ⟨.panic x,ρ,σ',μ',hx,⟨u,rfl,hV⟩,hF.trans hF',hS',hS.env.ext hF'.ext,hS.size,hD.keep hF'⟩
section
variable {F : Fence} {n : Nat} {ops ops1 : Array Oper} {Q Q1 : Exit→Act→World→Prop} {m : Nat}
theorem Gf {f : Nat} {l : Array Bool} {a : Act} {w : World} (d : Nat) (h : wpAnyIn F n P .any ops Q f l a w) : wpAnyIn F n P .any ops Q (f+d) l a w:=by
 induction f generalizing l a w with
 | zero =>
  cases d with
  | zero=>exact h
  | succ d =>
   rw [Nat.zero_add]
   exact ⟨fun _=>h.2,fun i hi=>by rw [h.1] at hi;cases hi⟩
 | succ f ih =>
  rw [show f+1+d=f+d+1 by omega]
  exact ⟨h.1,fun i hi=>wpOpIn_mono (fun a w h=>ih h) (h.2 i hi)⟩
def parts (k : Nat) (l : Array Bool) : Array Bool:=l++Array.replicate k false
theorem yG {k : Nat} {l : Array Bool} {j : Nat} {b : Bool} : (parts k l).getD j b=if j < l.size then l.getD j b else if j < l.size+k then false else b:=by
 unfold parts
 rw [Array.getD_eq_getD_getElem?,Array.getElem?_append]
 by_cases h : j < l.size
 ·rw [if_pos h,if_pos h,Array.getD_eq_getD_getElem?]
 ·rw [if_neg h,if_neg h,Array.getElem?_replicate]
  by_cases h2 : j < l.size+k
  ·rw [if_pos (by omega),if_pos h2];rfl
  ·rw [if_neg (by omega),if_neg h2];rfl
theorem NS {k : Nat} {l : Array Bool} {j : Nat} (h : j < l.size) : parts k (l.setIfInBounds j true)=(parts k l).setIfInBounds j true:=by
 unfold parts
 apply Array.ext_getElem?
 intro i
 rw [Array.getElem?_append,Array.getElem?_setIfInBounds,Array.getElem?_setIfInBounds,Array.getElem?_append,Array.size_setIfInBounds]
 by_cases hi : i < l.size
 ·by_cases hj : j=i
  ·subst hj;simp [hi];omega
  ·simp [hi,hj]
 ·have hj : j≠i:=by omega
  simp [hi,hj]
theorem Le {o : Oper} {a : Act} {w : World} {K K' : Act→World→Prop} {Q Q' : Exit→Act→World→Prop} (h : ∀ a w,K a w→K' a w) (hq : ∀ e a w,e≠.normal→Q e a w→Q' e a w) (hl : LetsOut Q→LetsOut Q')
  (hh : o.wpIn F n P a w K Q) : o.wpIn F n P a w K' Q':=by
 unfold Oper.wpIn at *
 refine ⟨hh.1, ?_⟩
 have hh:=hh.2
 generalize (o.semAt F.round a.eval).run P w=r at *
 cases r with
 | ok x w' =>
  cases x<;>simp only [Oper.uponIn] at hh ⊢ <;>
   first
    | exact h _ _ hh
    | exact ⟨hh.1,CallsIn.mono hh.2 (fun e w'' he=>by cases e<;>first | exact h _ _ he | exact hq _ _ _ (by simp) he | exact hl he)⟩
    | exact ⟨hh.1,RowsIn.mono hh.2 (fun _ _ he=>h _ _ he)⟩
    | exact ⟨hh.1,RoundIn.mono hh.2 (fun e w'' he=>by cases e<;>first | exact h _ _ he | exact hq _ _ _ (by simp) he | exact hl he)⟩
 | halt x w'=>cases x<;>simp only [Oper.uponIn] at hh ⊢<;>first | exact hh | exact hq _ _ _ (by simp) hh
theorem Ob (hm : ops1.size=m) (hk : m≤ops.size) (heq : ∀ i,i < m→ops1[i]?=ops[i]?) (acyc : ∀ i o,i < m→ops[i]?=some o→∀ e ∈ o.after.toList,Region.binds .any e=true→e.on < i)
  (hcut : ∀ i o,m≤i→ops[i]?=some o→∀ j,j < m→∃ e ∈ o.after.toList,Region.binds .any e=true∧e.on=j)
  (f2 : Nat) (hgu : ∀ i o,i < m→ops[i]?=some o→o.guard=none) (hQ : ∀ e a w,e≠.normal→Q1 e a w→Q e a w) (hLO : LetsOut Q1→LetsOut Q) (hn : ∀ a w (l : Array Bool),l.size=m→(∀ j,j < m→l.getD j false=true)→Q1 .normal a w→wpAnyIn F n P .any ops Q f2 (parts (ops.size-m) l) a w) :
  ∀ (f1 : Nat) (l : Array Bool) (a : Act) (w : World),l.size=m→wpAnyIn F n P .any ops1 Q1 f1 l a w→wpAnyIn F n P .any ops Q (f1+f2) (parts (ops.size-m) l) a w:=by
 have hops : ops.size=m+(ops.size-m):=by omega
 have inR : ∀ (l : Array Bool),l.size=m→∀ i,i ∈ Region.ready .any ops1 l↔(i < m∧l.getD i true=false∧∀ o,ops[i]?=some o→∀ e ∈ o.after.toList,Region.binds .any e=true→l.getD e.on false=true):=by
  intro l hl i
  unfold Region.ready
  simp only [List.mem_filter,List.mem_range,hm,Bool.and_eq_true,Bool.not_eq_true']
  constructor
  ·rintro ⟨h1,h2,h3⟩
   refine ⟨h1,h2,fun o ho e he hb=>?_⟩
   rw [heq i h1,ho] at h3
   simp only [Option.map_some,Option.getD_some,Array.all_eq_true'] at h3
   have:=h3 e (by simpa using he)
   simpa [hb] using this
  ·rintro ⟨h1,h2,h3⟩
   refine ⟨h1,h2, ?_⟩
   rw [heq i h1]
   have hi : i < ops.size:=by omega
   rw [Array.getElem?_eq_getElem hi] at h3 ⊢
   simp only [Option.map_some,Option.getD_some,Array.all_eq_true']
   intro e he
   cases hb : Region.binds .any e with
   | false=>rfl
   | true=>simpa using h3 _ rfl e (by simpa using he) hb
 have inR2 : ∀ (l : Array Bool),l.size=m→(∃ j,j < m∧l.getD j false=false)→Region.ready .any ops (parts (ops.size-m) l)=Region.ready .any ops1 l:=by
  intro l hl ⟨j,hj,hjf⟩
  unfold Region.ready
  rw [hm]
  have hrange : List.range ops.size=List.range m++(List.range (ops.size-m)).map (m+·):=by
   rw [← List.range_add];congr 1
  have e2 : ((List.range (ops.size-m)).map fun x=>m+x).filter (fun i=>!(parts (ops.size-m) l).getD i true && ((ops[i]?).map (·.after.all fun e=>!Region.binds .any e || (parts (ops.size-m) l).getD e.on false)).getD false)=[]:=by
   rw [List.filter_eq_nil_iff]
   intro i hi
   obtain ⟨x,hx,rfl⟩:=List.mem_map.1 hi
   have hx' : m+x < ops.size:=by have:=List.mem_range.1 hx;omega
   obtain ⟨e,he,hb,hej⟩:=hcut (m+x) _ (by omega) (Array.getElem?_eq_getElem hx') j hj
   intro hc
   rw [Array.getElem?_eq_getElem hx'] at hc
   simp only [Option.map_some,Option.getD_some,Bool.and_eq_true,Array.all_eq_true'] at hc
   have:=hc.2 e (by simpa using he)
   rw [hb,hej,yG,if_pos (by omega),hjf] at this
   cases this
  rw [hrange,List.filter_append,e2,List.append_nil]
  apply List.filter_congr
  intro i hi
  have hi' : i < m:=List.mem_range.1 hi
  rw [yG,if_pos (by omega),heq i hi']
  congr 1
  have hio : i < ops.size:=by omega
  rw [Array.getElem?_eq_getElem hio]
  simp only [Option.map_some,Option.getD_some]
  rw [Bool.eq_iff_iff]
  simp only [Array.all_eq_true']
  have key : ∀ e ∈ ops[i].after,(!Region.binds .any e || (parts (ops.size-m) l).getD e.on false)=(!Region.binds .any e || l.getD e.on false):=by
   intro e he
   cases hb : Region.binds .any e with
   | false=>rfl
   | true =>
    have:=acyc i _ hi' (Array.getElem?_eq_getElem hio) e (by simpa using he) hb
    rw [yG,if_pos (by omega)]
  constructor
  ·intro h e he;rw [← key e he];exact h e he
  ·intro h e he;rw [key e he];exact h e he
 have allOf : ∀ (l : Array Bool),l.size=m→Region.ready .any ops1 l=[]→∀ j,j < m→l.getD j false=true:=by
  intro l hl hr j
  induction j using Nat.strongRecOn with
  | ind j ih =>
   intro hj
   cases hb : l.getD j false with
   | true=>rfl
   | false =>
    exfalso
    have : j ∈ Region.ready .any ops1 l:=(inR l hl j).2 ⟨hj,dG.2 ⟨by omega,hb⟩,fun o ho e he hbi=>by
     have:=acyc j o hj ho e he hbi
     exact ih e.on this (by omega)⟩
    rw [hr] at this
    cases this
 intro f1
 induction f1 with
 | zero =>
  intro l a w hl h
  rw [Nat.zero_add]
  exact hn a w l hl (allOf l hl h.1) h.2
 | succ f1 ih =>
  intro l a w hl h
  by_cases hall : ∀ j,j < m→l.getD j false=true
  ·have hr : Region.ready .any ops1 l=[]:=by
    rw [List.eq_nil_iff_forall_not_mem]
    intro i hi
    obtain ⟨h1,h2,_⟩:=(inR l hl i).1 hi
    have:=(dG.1 h2).2
    rw [hall i h1] at this;cases this
   have:=hn a w l hl hall (h.1 hr)
   rw [show f1+1+f2=f2+(f1+1) by omega]
   exact Gf _ this
  ·have hex : ∃ j,j < m∧l.getD j false=false:=by
    refine Classical.byContradiction fun hno=>hall fun j hj=>?_
    cases hb : l.getD j false with
    | true=>rfl
    | false=>exact absurd ⟨j,hj,hb⟩ hno
   have e:=inR2 l hl hex
   rw [show f1+1+f2=f1+f2+1 by omega]
   refine ⟨fun hr=>?_,fun i hi=>?_⟩
   ·exfalso
    rw [e] at hr
    obtain ⟨j,hj,hb⟩:=hex
    rw [allOf l hl hr j hj] at hb;cases hb
   ·rw [e] at hi
    have him:=((inR l hl i).1 hi).1
    have:=h.2 i hi
    have hstep : ∀ {K K' : Act→World→Prop},(∀ a w,K a w→K' a w)→wpOpIn F n P ops1 Q1 i K a w→wpOpIn F n P ops Q i K' a w:=by
     intro K K' hK hh
     unfold wpOpIn at hh ⊢
     rw [heq i him] at hh
     have hio : i < ops.size:=by omega
     rw [Array.getElem?_eq_getElem hio] at hh ⊢
     have hw : ∀ y,Region.wanted ops[i] y=true:=fun y=>by simp [Region.wanted,hgu i _ him (Array.getElem?_eq_getElem hio)]
     simp only [hw,if_true] at hh ⊢
     exact Le hK hQ hLO hh
    refine hstep (fun a w h=>?_) this
    rw [← NS (by omega)]
    exact ih _ a w (by simpa using hl) h
end
theorem Zj {f : FuncId} {fn : Func} {c : Code} {xs : List VV} {σ : Store} {R : dX→Store→Prop} (hfn : P.funcs[f]?=some fn) (hc : fn.body=some c) (hn : xs.length≤fn.ntmps)
  (h : VW false P G none fn.ntmps c (sJ P fn.results.toList R) (fP 0 xs) σ) : CV P G f xs σ R:=by
 intro B w μ vs hS hG hv
 have hlen : vs.size=xs.length:=by have:=hv.length;simpa using this
 refine callsIn_of_wp_marks hfn hc trivial ?_
 refine wpIn_mono (h B w μ _ ⟨hS,hG,qy hv,by simp;omega⟩) ?_
 rintro e a' w' ⟨o,ρ',σ',μ',hq,hx,hF,hSR,hE,hz,Ds,-,hd1,hd2,hd3⟩
 simp only [List.append_nil] at hd1
 have fin : ∀ w',Frame w σ μ w' σ' μ'→SR B w' σ' μ'→jF w' (OO B σ' μ') μ' ρ' a'.tmps→(resV P fn.results.toList ρ' σ' fun xs=>R (.ret (lD xs)) σ')→∃ v,(results fn a'.tmps).run P w'=.ok v w'∧∃ r σ'' μ'',R r σ''∧Frame w σ μ w' σ'' μ''∧SR B w' σ'' μ''∧lu w' (OO B σ'' μ'') μ'' r (.returned v):=by
  intro w' hF hSR hE hr
  obtain ⟨ys,us,k1,k2,k3⟩:=rO hSR hE _ _ hr
  refine ⟨if h : us.toArray.size=1 then us.toArray[0] else .tuple us.toArray, ?_,.ret (lD ys),σ',μ',k1,hF,hSR, ?_⟩
  ·have e : (fn.results.mapM (ng a'.tmps)).run P w'=.ok us.toArray w':=by
    rw [Array.mapM_eq_mapM_toList]
    simp [k3]
   have e' : results fn a'.tmps=(do let vs ← fn.results.mapM (ng a'.tmps);pure (if h : vs.size=1 then vs[0] else .tuple vs)):=by
    unfold results
    congr 1
   rw [e',Sem.run_bind,e]
   rfl
  ·simp only [lu]
   have hl:=k2.length
   split
   ·rename_i h1
    simp only [List.size_toArray] at h1
    match us,ys,h1,hl with
    | [u],[y],_,_ =>
     simp only [dF] at k2
     obtain ⟨y',l,e,k2,rfl⟩:=k2
     cases e
     exact k2
   ·rename_i h1
    simp only [List.size_toArray] at h1
    have : lD ys=.tup ys:=by
     unfold lD
     split
     ·simp at hl;omega
     ·rfl
    rw [this]
    simp only [VR]
    exact ⟨_,rfl,by simpa using k2⟩
 cases o<;>cases e<;>simp only [jL] at hx<;>simp only [sJ] at hq
 ·show LeavesInM _ _ _ _ _ _ _ _ _
  rw [hd1]
  exact jy (by simp) Ds w' hd2 hd3 hF hSR hE fun w'' k1 k2 k3 _=>fin w'' k1 k2 k3 hq
 ·show LeavesInM _ _ _ _ _ _ _ _ _
  rw [hd1]
  exact jy (by simp) Ds w' hd2 hd3 hF hSR hE fun w'' k1 k2 k3 _=>fin w'' k1 k2 k3 hq
 ·obtain ⟨v,rfl,hv⟩:=hx
  show LeavesInM _ _ _ _ _ _ _ _ _
  rw [hd1]
  exact jy (by simp) Ds w' hd2 hd3 hF hSR hE fun w'' k1 k2 k3 k4=>⟨_,σ',μ',hq,k1,k2,v,rfl,VR.ext k4 _ _ hv⟩
theorem QY {fl : Bool} {ro : Option Nat} {N : Nat} {x y : Code} {Q : Out→Env→Store→Prop} {K : Env→Store→Prop} {ρ : Env} {σ : Store} (hx : VW fl P G ro N x (eX K Q) ρ σ) (hy : ∀ ρ σ,K ρ σ→VW fl P G ro N y Q ρ σ) : VW fl P G ro N (.seq x y) Q ρ σ:=by
 intro B w μ a hS
 refine wpIn_seq (wpIn_mono (hx B w μ a hS) ?_)
 rintro e a₁ w₁ ⟨o,ρ₁,σ₁,μ₁,hq,hx,hF,hSR,hE,hz,hd⟩
 cases o<;>cases e<;>simp only [jL] at hx
 case normal.normal =>
  refine wpIn_mono (hy ρ₁ σ₁ hq B w₁ μ₁ a₁ (hS.later hF hSR hE hz)) ?_
  rintro e a₂ w₂ ⟨o₂,ρ₂,σ₂,μ₂,k1,k2,k3,k4,k5,k6,k7⟩
  exact ⟨o₂,ρ₂,σ₂,μ₂,k1,k2,hF.trans k3,k4,k5,k6,hd.trans hF.size k3 k7⟩
 all_goals first
  | exact ⟨_,ρ₁,σ₁,μ₁,hq,hx,hF,hSR,hE,hz,hd⟩
  | exact ⟨.ret,ρ₁,σ₁,μ₁,hq,trivial,hF,hSR,hE,hz,hd⟩
theorem Yt {fl : Bool} {ro : Option Nat} {N id m : Nat} {ops : Array Oper} {ds : List DO} {Q : Out→Env→Store→Prop} {ρ : Env} {σ : Store} (hmix : P.follows .mixedOrders=true) (hk : m≤ops.size) (hp : Plan (ops.extract 0 m) N ds)
  (acyc : ∀ i o,i < m→ops[i]?=some o→∀ e ∈ o.after.toList,Region.binds .any e=true→e.on < i)
  (hcut : ∀ i o,m≤i→ops[i]?=some o→∀ j,j < m→∃ e ∈ o.after.toList,Region.binds .any e=true∧e.on=j) (hgu : ∀ i o,i < m→ops[i]?=some o→o.guard=none) (hd : ∀ (i : Nat) (o : Oper),ops[i]?=some o→∀ t,o.dst=some t→t < N)
  (h : bH P G ds [] (eX (fun ρ σ=>Fh P G ops (ops.size-m) (parts (ops.size-m) (Array.replicate m true)) Q ρ σ) Q) ρ σ) : VW fl P G ro N (.region id ops true) Q ρ σ:=by
 intro B w μ a hS
 refine wpIn_region_any hmix ?_
 have hh : ∀ b,b < w.heap.size→({ w with drawn:=w.drawn+1 } : World).heap[b]?=w.heap[b]?:=fun _ _=>rfl
 have hF : Frame w σ μ { w with drawn:=w.drawn+1 } σ μ:=.still (Nat.le_refl _) hh rfl rfl rfl
 have hf : ∀ i,(Array.replicate (ops.extract 0 m).size false).getD i false=false:=by
  intro i
  rw [Array.getD_eq_getD_getElem?,Array.getElem?_replicate]
  split<;>rfl
 have hsz : (ops.extract 0 m).size=m:=by simp;omega
 have first:=Eb (G:=G) (ρ₀:=ρ) (ro:=ro) (fl:=fl) (B:=B) (w₀:=w) (σ₀:=σ) (μ₀:=μ) (ds₀:=a.defers) hp (ops.extract 0 m).size [] ds [] σ μ ρ (Array.replicate (ops.extract 0 m).size false) a { w with drawn:=w.drawn+1 } {
  all:=by simp
  size:=by simp
  effs:=fun r hr=>by cases hr
  un:=fun d _=>hf _
  closed:=fun i o _ hi=>by simp only [hf] at hi;cases hi
  st:=⟨hS.sr.still hh (Nat.le_refl _),hS.gl.ext hF.ext,hS.env.ext hF.ext,hS.size⟩
  fr:=hF
  df:=rfl
  env1:=fun r hr=>by cases hr
  env2:=fun t _=>rfl
  views:=fun T₁ r T₂ e=>by simp at e
  pd:=fun T₁ r T₂ e=>by simp at e
  res:=h } (Nat.le_trans List.countP_le_length hp.len)
 rw [hsz] at first
 have two:=Ob (P:=P) (F:=Fr ro) (n:=0) (Q:=Post fl B N w σ μ a.defers Q) hsz hk (fun i hi=>by rw [Array.getElem?_extract];simp [hi];omega) acyc hcut (ops.size-m) hgu (fun e a' w' he hq=>by
  obtain ⟨o,ρ',σ',μ',hq,hx,h⟩:=hq
  cases o<;>first
   | exact ⟨_,ρ',σ',μ',hq,hx,h⟩
   | (cases e<;>simp only [jL] at hx;exact absurd rfl he)) (fun hl=>by
  obtain ⟨a',w',o,_,_,_,_,hx,_⟩:=hl
  cases o<;>simp only [jL] at hx) (fun a' w' l hl hall hq=>by
  obtain ⟨o,ρ',σ',μ',hq,hx,hF',hSR,hE,hz,hd'⟩:=hq
  have hlm : l=Array.replicate m true:=by
   apply Array.ext
   ·simp [hl]
   ·intro i h1 h2
    have:=hall i (by omega)
    rw [Array.getD_eq_getD_getElem?,Array.getElem?_eq_getElem h1] at this
    simpa using this
  subst hlm
  cases o<;>simp only [jL] at hx
  exact Cc hd _ _ _ _ _ _ _ (hS.later hF' hSR hE hz) hF' hd' hq) m (Array.replicate m false) a _ (by simp) first
 have e : parts (ops.size-m) (Array.replicate m false)=Array.replicate ops.size false:=by
  unfold parts
  rw [Array.replicate_append_replicate]
  congr 1;omega
 rw [e] at two
 rw [show m+(ops.size-m)=ops.size by omega] at two
 exact two
def Xh (ops : Array Oper) (m N : Nat) : Bool :=
 (List.range ops.size).all fun i=>match ops[i]? with
  | some o=>Y2 N o.dst && (if i < m then o.guard.isNone && o.after.toList.all (fun e=>!Region.binds .any e || decide (e.on < i)) else (List.range m).all fun j=>o.after.toList.any fun e=>Region.binds .any e && e.on == j)
  | none=>true
theorem VI {fl : Bool} {ro : Option Nat} {lab : FuncId→Bool} {N id m : Nat} {ops : Array Oper} {ds : List DO} {Q : Out→Env→Store→Prop} {ρ : Env} {σ : Store} (hmix : P.follows .mixedOrders=true) (hk : m≤ops.size)
  (hp : (KN lab (ops.extract 0 m)).mapM (Oj (ops.extract 0 m))=some ds) (hp2 : Ak (ops.extract 0 m) N ds=true) (hok : Xh ops m N=true)
  (h : bH P G ds [] (eX (fun ρ σ=>Fh P G ops (ops.size-m) (parts (ops.size-m) (Array.replicate m true)) Q ρ σ) Q) ρ σ) : VW fl P G ro N (.region id ops true) Q ρ σ:=by
 have key : ∀ i o,ops[i]?=some o→(Y2 N o.dst && (if i < m then o.guard.isNone && o.after.toList.all (fun e=>!Region.binds .any e || decide (e.on < i)) else (List.range m).all fun j=>o.after.toList.any fun e=>Region.binds .any e && e.on == j))=true:=by
  intro i o ho
  have hi : i < ops.size:=(Array.getElem?_eq_some_iff.1 ho).1
  have:=List.all_eq_true.1 hok i (List.mem_range.2 hi)
  rw [ho] at this
  exact this
 refine Yt hmix hk (BM hp hp2) (fun i o hi ho e he hb=>?_) (fun i o hi ho j hj=>?_) (fun i o hi ho=>?_) (fun i o ho t ht=>?_) h
 ·have:=key i o ho
  rw [if_pos hi,Bool.and_eq_true,Bool.and_eq_true] at this
  have:=List.all_eq_true.1 this.2.2 e he
  simpa [hb] using this
 ·have:=key i o ho
  rw [if_neg (by omega),Bool.and_eq_true] at this
  have:=List.all_eq_true.1 this.2 j (List.mem_range.2 hj)
  obtain ⟨e,he,h2⟩:=List.any_eq_true.1 this
  simp only [Bool.and_eq_true,beq_iff_eq] at h2
  exact ⟨e,he,h2.1,h2.2⟩
 ·have:=key i o ho
  rw [if_pos hi,Bool.and_eq_true,Bool.and_eq_true] at this
  simpa using this.2.1
 ·have:=key i o ho
  rw [Bool.and_eq_true] at this
  have:=this.1
  rw [ht] at this
  simpa [Y2] using this
theorem gW {ops : Array Oper} {f : Nat} {l : Array Bool} {Q : Out→Env→Store→Prop} {ρ : Env} {σ : Store} {is : List Nat} (hr : Region.ready .any ops l=is) (hne : is≠[])
  (h : ∀ i ∈ is,∃ d op ty,(ops[i]?).map (fun o=>(o.dst,o.op,o.type,o.guard))=some (d,op,ty,none)∧dQ P G [⟨d,op,ty,none⟩] (eX (fun ρ σ=>Fh P G ops f (l.setIfInBounds i true) Q ρ σ) Q) ρ σ) : Fh P G ops (f+1) l Q ρ σ:=by
 refine ⟨fun h0=>absurd (hr.symm.trans h0) hne,fun i hi=>?_⟩
 obtain ⟨d,op,ty,e,hw⟩:=h i (hr ▸ hi)
 simp only [Option.map_eq_some_iff] at e
 obtain ⟨o,ho,e⟩:=e
 simp only [Prod.mk.injEq] at e
 obtain ⟨rfl,rfl,rfl,e⟩:=e
 exact ⟨o,ho,e,hw⟩
theorem DW {ops : Array Oper} {Q Q' : Out→Env→Store→Prop} (hq : ∀ o ρ σ,Q o ρ σ→Q' o ρ σ) : ∀ (f : Nat) (l : Array Bool) (ρ : Env) (σ : Store),Fh P G ops f l Q ρ σ→Fh P G ops f l Q' ρ σ
 | 0,l,ρ,σ,h=>⟨h.1,hq _ _ _ h.2⟩
 | f+1,l,ρ,σ,h=>⟨fun h0=>hq _ _ _ (h.1 h0),fun i hi=>by
  obtain ⟨o,ho,hg,hw⟩:=h.2 i hi
  exact ⟨o,ho,hg,AX (fun x σ' h=>DW hq f _ _ _ h) (fun x σ' h=>hq _ _ _ h) hw⟩⟩
end Go.V
namespace Go.V
variable {P : Program} {G : Nat→Option (List VV)}
theorem xW {f : FuncId} {xs : List VV} {σ : Store} {R R' : dX→Store→Prop} (h : CV P G f xs σ R) (hr : ∀ r σ',R r σ'→R' r σ'∨∃ id cells,σ'[id]?=some (.own cells)∧R' r (σ'.set id (.kL cells))) : CV P G f xs σ R':=by
 intro B w μ vs hS hG hv
 refine (h B w μ vs hS hG hv).mono ?_
 rintro e w' ⟨r,σ',μ',k1,k2,k3,k4⟩
 rcases hr r σ' k1 with hR | ⟨id,cells,hid,hR⟩
 ·exact ⟨r,σ',μ',hR,k2,k3,k4⟩
 obtain ⟨h1,h2⟩:=k3.freeze hid
 refine ⟨r,σ'.set id (.kL cells),μ',hR,k2.trans h2,h1, ?_⟩
 cases r<;>cases e<;>simp only [lu] at k4 ⊢
 ·exact VR.ext h2.ext _ _ k4
 ·obtain ⟨u,hu,hv⟩:=k4
  exact ⟨u,hu,VR.ext h2.ext _ _ hv⟩
theorem Qd {f : FuncId} {xs : List VV} {σ : Store} {R R' : dX→Store→Prop} (h : CV P G f xs σ R) (hr : ∀ r σ',R r σ'→R' r σ'∨∃ y x n,r=.ret y∧fz n σ' y=some x∧R' (.ret x) σ') : CV P G f xs σ R':=by
 intro B w μ vs hS hG hv
 refine (h B w μ vs hS hG hv).mono ?_
 rintro e w' ⟨r,σ',μ',k1,k2,k3,k4⟩
 rcases hr r σ' k1 with hR | ⟨y,x,n,rfl,hf,hR⟩
 ·exact ⟨r,σ',μ',hR,k2,k3,k4⟩
 ·refine ⟨.ret x,σ',μ',hR,k2,k3, ?_⟩
  cases e with
  | returned v =>
   simp only [lu] at k4 ⊢
   exact Ee (fun id cells L h h'=>k3.obj id _ L h h') n y x v hf k4
  | panicked chain=>simp [lu] at k4
  | outgrown=>simp [lu] at k4
end Go.V
