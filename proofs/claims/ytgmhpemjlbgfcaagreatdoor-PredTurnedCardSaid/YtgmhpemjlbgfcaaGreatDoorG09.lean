/- Texts V20. -/
import Derived.RangeFuncRecord
import Derived.Test.YtgmhpemjlbgfcaaGreatDoorG08
set_option linter.unusedVariables false
set_option linter.unusedSimpArgs false
namespace Go.V
inductive aA where
 | skip
 | exit (id : Nat)
 | goto (l : Nat)
 | ret
 | seq (a b : aA)
 | cond (c : Operand) (a b : aA)
 | block (id : Nat) (b : aA)
 | loop (b : aA)
 | scope (b : aA)
 | reg (ops : List VO)
 | draw (ds : List DO)
 | rangeF (g : Operand) (ps : List Nat) (n : Nat) (va vb : aA) (x y : Code)
def aA.flat : aA→Bool
 | .seq a b | .cond _ a b=>a.flat && b.flat
 | .block _ b | .loop b | .scope b=>b.flat
 | .rangeF ..=>false
 | _=>true
def U8 (N : Nat) : Option Nat→Bool
 | some t=>decide (t < N)
 | none=>true
def Pg (ops : Array Oper) (N : Nat) (o : Oper) : Option VO :=
 match nI ops o.guard with
 | some g =>
  if U8 N o.dst && U8 N (g.map (·.1)) then some ⟨o.dst,o.op,o.type,g⟩ else none
 | none=>none
def comp (lab : FuncId→Bool) (N : Nat) : Code→Option aA
 | .skip | .label _=>some .skip
 | .exit id=>some (.exit id)
 | .goto l=>some (.goto l)
 | .ret=>some .ret
 | .seq a b=>match comp lab N a,comp lab N b with
  | some a,some b=>some (.seq a b)
  | _,_=>none
 | .cond c a b=>match comp lab N a,comp lab N b with
  | some a,some b=>some (.cond c a b)
  | _,_=>none
 | .block id b=>(comp lab N b).map (.block id)
 | .loop b=>(comp lab N b).map .loop
 | .scope b=>(comp lab N b).map .scope
 | .region _ ops false=>(ops.toList.mapM (Pg ops N)).map .reg
 | .region _ ops true=>match (GH lab ops).mapM (KR ops) with
  | some ds=>if zC ops N ds then some (.draw ds) else none
  | none=>none
 | .rangeFunc g ps x y=>match comp lab N x,comp lab N y with
  | some va,some vb=>if va.flat && vb.flat then some (.rangeF g ps.toList N va vb x y) else none
  | _,_=>none
 | _=>none
structure sZ (l : kG) (ρ : Env) (ps : List Nat) (m : Nat) (va vb : aA) (x y : Code) : Prop where
 n : l.n=m
 tmps : l.tmps=ρ
 ps : l.params=ps
 st : l.state=.ready
 pe : l.pending=none
 ca : ∃ lab,comp lab m l.assign=some va∧comp lab m l.body=some vb
 flat : va.flat=true∧vb.flat=true
 as : l.assign=x
 bo : l.body=y
def xq (Q : Out→Env→Store→Prop) : Option Code→Env→Store→Prop
 | none=>Q .normal
 | some .ret=>Q .ret
 | some (.exit i)=>Q (.exit i)
 | _=>fun _ _=>False
def Ih (id : Nat) (Q : Out→Env→Store→Prop) (ρ : Env) : gY→Store→Prop
 | .ret _,σ=>∃ l,σ[id]?=some (.loop l)∧l.state≠.busy∧xq Q l.pending ρ (σ.set id .dead)
 | .panic x,σ=>Q (.panic x) ρ σ
def dD (K : Env→Store→Prop) (Q : Out→Env→Store→Prop) : Out→Env→Store→Prop
 | .normal=>K
 | o=>Q o
def fD (id : Nat) (Q : Out→Env→Store→Prop) : Out→Env→Store→Prop
 | .exit j=>if j=id then Q .normal else Q (.exit j)
 | o=>Q o
def FZ (Q : Out→Env→Store→Prop) : Out→Env→Store→Prop
 | .goto _=>fun _ _=>False
 | o=>Q o
section
variable (P : Program) (G : Nat→Option (List VV))
def iO : aA→(Out→Env→Store→Prop)→Env→Store→Prop
 | .skip,Q,ρ,σ=>Q .normal ρ σ
 | .exit id,Q,ρ,σ=>Q (.exit id) ρ σ
 | .goto l,Q,ρ,σ=>Q (.goto l) ρ σ
 | .ret,Q,ρ,σ=>Q .ret ρ σ
 | .seq a b,Q,ρ,σ=>iO a (dD (iO b Q) Q) ρ σ
 | .cond c a b,Q,ρ,σ=>match ev G ρ c with
  | .bool t=>if t=true then iO a Q ρ σ else iO b Q ρ σ
  | _=>False
 | .block id b,Q,ρ,σ=>iO b (fD id Q) ρ σ
 | .scope b,Q,ρ,σ=>iO b (FZ Q) ρ σ
 | .loop b,Q,ρ,σ=>∀ X : Env→Store→Prop,(∀ ρ σ,iO b (dD X Q) ρ σ→X ρ σ)→X ρ σ
 | .reg ops,Q,ρ,σ=>bM P G ops Q ρ σ
 | .draw ds,Q,ρ,σ=>aV P G ds [] Q ρ σ
 | .rangeF g ps n va vb x y,Q,ρ,σ=>match ev G ρ g with
  | .fn (.func f) first caps=>ay P f=true∧∀ l,sZ l ρ ps n va vb x y→CV P G f (first++[.yield σ.length]++caps) (σ++[.loop l]) (Ih σ.length Q ρ)
  | _=>False
end
variable {P : Program} {G : Nat→Option (List VV)}
theorem zX {op : Op} {ty : TypeId} {ρ : Env} {σ : Store} {K K' KP KP' : VV→Store→Prop} (hK : ∀ x σ,K x σ→K' x σ) (hP : ∀ x σ,KP x σ→KP' x σ) (h : rY P G op ty ρ σ K KP) : rY P G op ty ρ σ K' KP':=by
 unfold rY at h ⊢
 split at h
 ·split at h
  ·exact ⟨h.1,h.2.mono fun r σ hr=>by cases r<;>first | exact hK _ _ hr | exact hP _ _ hr⟩
  ·exact h.mono fun r σ hr=>by cases r<;>first | exact hK _ _ hr | exact hP _ _ hr
  ·exact h.elim
 ·split at h
  ·exact hP _ _ h
  ·exact h.elim
 ·obtain ⟨out,h1,h2,h3⟩:=h
  exact ⟨out,h1,h2,hK _ _ h3⟩
theorem Iy {op : Op} {ty : TypeId} {ρ : Env} {σ : Store} {K K' : VV→Prop} (hK : ∀ x,K x→K' x) (h : fE P G op ty ρ σ K) : fE P G op ty ρ σ K':=by
 unfold fE at h ⊢
 split at h
 ·split at h
  ·obtain ⟨h1,x,h2,h3⟩:=h;exact ⟨h1,x,h2,hK _ h3⟩
  ·exact h.elim
 ·exact h.elim
 ·obtain ⟨out,h1,h2,h3,h4⟩:=h
  exact ⟨out,h1,h2,h3,hK _ h4⟩
theorem vX {Q Q' : Out→Env→Store→Prop} (hq : ∀ o ρ σ,Q o ρ σ→Q' o ρ σ) : ∀ (l : List VO) (ρ : Env) (σ : Store),bM P G l Q ρ σ→bM P G l Q' ρ σ
 | [],ρ,σ,h=>hq _ _ _ h
 | o::r,ρ,σ,h=>by
  simp only [bM] at h ⊢
  split
  ·rename_i hw
   rw [hw] at h
   exact zX (fun x σ h=>vX hq r _ _ h) (fun x σ h=>hq _ _ _ h) h
  ·rename_i hw
   rw [hw] at h
   exact vX hq r _ _ h
  ·rename_i hw
   rw [hw] at h
   exact h
theorem oz {Q Q' : Out→Env→Store→Prop} (hq : ∀ o ρ σ,Q o ρ σ→Q' o ρ σ) : ∀ (l : List DO) (pend : List (Nat × Op × TypeId × Env × VV)) (ρ : Env) (σ : Store),aV P G l pend Q ρ σ→aV P G l pend Q' ρ σ
 | [],_,ρ,σ,h=>hq _ _ _ h
 | o::r,pend,ρ,σ,h=>by
  simp only [aV] at h ⊢
  split
  ·rename_i hw
   rw [hw] at h
   exact oz hq r _ _ _ h
  ·rename_i hw
   rw [hw] at h
   exact h
  ·rename_i hw
   rw [hw] at h
   simp only at h
   split
   ·rename_i he
    rw [if_pos he] at h
    exact zX (fun x σ h=>⟨h.1,oz hq r _ _ _ h.2⟩) (fun x σ h ρ'=>hq _ _ _ (h ρ')) h
   ·rename_i he
    rw [if_neg he] at h
    exact Iy (fun x h=>oz hq r _ _ _ h) h
theorem lS {K K' : Env→Store→Prop} {Q Q' : Out→Env→Store→Prop} (hk : ∀ ρ σ,K ρ σ→K' ρ σ) (hq : ∀ o ρ σ,Q o ρ σ→Q' o ρ σ) : ∀ o ρ σ,dD K Q o ρ σ→dD K' Q' o ρ σ:=by
 intro o ρ σ h
 cases o<;>first | exact hk _ _ h | exact hq _ _ _ h
theorem iT : ∀ (c : aA) {Q Q' : Out→Env→Store→Prop} (_ : ∀ o ρ σ,Q o ρ σ→Q' o ρ σ) (ρ : Env) (σ : Store),iO P G c Q ρ σ→iO P G c Q' ρ σ
 | .skip,_,_,hq,_,_,h | .exit _,_,_,hq,_,_,h | .goto _,_,_,hq,_,_,h | .ret,_,_,hq,_,_,h=>hq _ _ _ h
 | .seq a b,_,_,hq,ρ,σ,h=>iT a (lS (fun ρ σ h=>iT b hq ρ σ h) hq) ρ σ h
 | .cond c a b,_,_,hq,ρ,σ,h=>by
  simp only [iO] at h ⊢
  split
  ·rename_i t ht
   rw [ht] at h
   simp only at h
   split
   ·rename_i hh;rw [if_pos hh] at h;exact iT a hq _ _ h
   ·rename_i hh;rw [if_neg hh] at h;exact iT b hq _ _ h
  ·rename_i hne
   split at h
   ·rename_i t ht;exact (hne t ht).elim
   ·exact h
 | .block id b,_,_,hq,ρ,σ,h=>iT b (fun o ρ σ h=>by
   cases o<;>simp only [fD] at h ⊢<;>first | exact hq _ _ _ h | (split<;>(rename_i hh;simp only [hh,if_true,if_false] at h;exact hq _ _ _ h))) ρ σ h
 | .scope b,_,_,hq,ρ,σ,h=>iT b (fun o ρ σ h=>by cases o<;>first | exact hq _ _ _ h | exact h) ρ σ h
 | .loop b,_,_,hq,ρ,σ,h=>fun X hX=>h X fun ρ σ h'=>hX ρ σ (iT b (lS (fun _ _ h=>h) hq) ρ σ h')
 | .reg ops,_,_,hq,ρ,σ,h=>vX hq ops ρ σ h
 | .draw ds,_,_,hq,ρ,σ,h=>oz hq ds [] ρ σ h
 | .rangeF g ps n va vb x y,_,_,hq,ρ,σ,h=>by
  simp only [iO] at h ⊢
  split
  ·rename_i f first caps hf
   rw [hf] at h
   refine ⟨h.1,fun l hl=>(h.2 l hl).mono ?_⟩
   rintro (x | x) σ' hr
   ·obtain ⟨l',h1,h2,h3⟩:=hr
    refine ⟨l',h1,h2, ?_⟩
    generalize l'.pending=pe at h3 ⊢
    unfold xq at h3 ⊢
    cases pe with
    | none=>exact hq _ _ _ h3
    | some c=>cases c<;>first | exact hq _ _ _ h3 | exact h3
   ·exact hq _ _ _ hr
  ·rename_i hne
   split at h
   ·rename_i f first caps hf;exact (hne f first caps hf).elim
   ·exact h
theorem iH {b : aA} {Q : Out→Env→Store→Prop} {ρ : Env} {σ : Store} (h : iO P G b (dD (iO P G (.loop b) Q) Q) ρ σ) : iO P G (.loop b) Q ρ σ :=
 fun X hX=>hX ρ σ (iT b (lS (fun ρ σ h=>h X hX) (fun _ _ _ h=>h)) ρ σ h)
theorem aF {b : aA} {Q : Out→Env→Store→Prop} (I : Nat→Env→Store→Prop) (step : ∀ n ρ σ,I n ρ σ→iO P G b (dD (fun ρ σ=>∃ m,m < n∧I m ρ σ) Q) ρ σ) {n : Nat} {ρ : Env} {σ : Store} (h : I n ρ σ) :
  iO P G (.loop b) Q ρ σ:=by
 induction n using Nat.strongRecOn generalizing ρ σ with
 | _ n ih=>exact iH (iT b (lS (fun ρ σ ⟨m,hm,hI⟩=>ih m hm hI) (fun _ _ _ h=>h)) ρ σ (step n ρ σ h))
theorem vV {fl : Bool} {ro : Option Nat} {ops : Array Oper} {N : Nat} {Q : Out→Env→Store→Prop} {B : Nat→Prop} {w₀ : World} {σ₀ : Store} {μ₀ : List Loc} {ds₀ : List Deferred} :
  ∀ (os : List Oper) (is : List Nat) (vs : List VO),is.map (fun i=>ops[i]?)=os.map some→os.mapM (Pg ops N)=some vs→∀ (w : World) (σ : Store) (μ : List Loc) (ρ : Env) (a : Act),ST G B N w σ μ ρ a→Frame w₀ σ₀ μ₀ w σ μ→a.defers=ds₀ →
   bM P G vs Q ρ σ→wpOpsIn (Fr ro) 0 P ops (Post fl B N w₀ σ₀ μ₀ ds₀ Q) is a w
 | [],is,vs,hi,hm,w,σ,μ,ρ,a,hS,hF,hd,h=>by
  simp at hi hm
  subst hi
  subst hm
  exact ⟨.normal,ρ,σ,μ,h,trivial,hF,hS.sr,hS.env,hS.size,.refl hd⟩
 | o::os,is,vs,hi,hm,w,σ,μ,ρ,a,hS,hF,hd,h=>by
  cases is with
  | nil=>simp at hi
  | cons i is =>
   simp only [List.map_cons,List.cons.injEq] at hi
   simp only [List.mapM_cons,Option.bind_eq_bind,Option.bind_eq_some_iff,Option.pure_def,Option.some.injEq] at hm
   obtain ⟨v,hv,vs',hvs,rfl⟩:=hm
   unfold Pg at hv
   split at hv
   ·rename_i g hg
    split at hv
    ·rename_i hlt
     simp only [Bool.and_eq_true] at hlt
     cases hv
     have hdst : ∀ t,o.dst=some t→t < N:=fun t ht=>by have:=hlt.1;rw [ht] at this;simpa [U8] using this
     have hgl : ∀ t b,g=some (t,b)→t < N:=fun t b ht=>by have:=hlt.2;rw [ht] at this;simpa [U8] using this
     obtain ⟨hg1,hg2⟩:=pX (d:=⟨0,none,o.op,0,g,false,[],false⟩) hg hgl
     simp only [wpOpsIn,hi.1]
     simp only [bM] at h
     split at h
     ·rename_i hw
      have hwant:=jh (a:=a) (ops:=ops) hS.env (by rw [hS.size];exact hg1) (by rw [hS.size];exact hg2) hw
      rw [if_pos hwant]
      refine mY hS h (fun x u w' σ' μ' hx hF' hS' hV=>?_) (fun x u w' σ' μ' hx hF' hS' hV=>?_)
      ·exact vV os is vs' hi.2 hvs w' σ' μ' _ _ (hS.next hF' hS' hV hdst) (hF.trans hF') (by rw [put_defers];exact hd) hx
      ·exact ⟨.panic x,ρ,σ',μ',hx,⟨u,rfl,hV⟩,hF.trans hF',hS',hS.env.ext hF'.ext,hS.size,.refl hd⟩
     ·rename_i hw
      have hwant:=jh (a:=a) (ops:=ops) hS.env (by rw [hS.size];exact hg1) (by rw [hS.size];exact hg2) hw
      rw [if_neg (by simp [hwant])]
      refine ⟨fun f _=>trivial, ?_⟩
      have hF' : Frame w σ μ w σ μ:=.refl _ _ _
      exact vV os is vs' hi.2 hvs w σ μ _ _ (hS.next hF' hS.sr (by simp only [VR,bI];exact ⟨#[],rfl,rfl⟩) hdst) hF (by rw [put_defers];exact hd) h
     ·exact h.elim
    ·cases hv
   ·cases hv
theorem JY {ops : Array Oper} : (List.range ops.size).map (fun i=>ops[i]?)=ops.toList.map some:=by
 apply List.ext_getElem?
 intro i
 simp only [List.getElem?_map]
 by_cases h : i < ops.size
 ·simp [h]
 ·simp [h]
theorem ST.later {B : Nat→Prop} {N : Nat} {w w' : World} {σ σ' : Store} {μ μ' : List Loc} {ρ ρ' : Env} {a a' : Act} (h : ST G B N w σ μ ρ a) (hF : Frame w σ μ w' σ' μ') (hS : SR B w' σ' μ') (hE : jg w' (OO B σ' μ') μ' ρ' a'.tmps) (hz : a'.tmps.size=N) :
  ST G B N w' σ' μ' ρ' a':=⟨hS,h.gl.ext hF.ext,hE,hz⟩
def QO (Q : Exit→Act→World→Prop) : Exit→Act→World→Prop
 | .goto _=>fun _ _=>False
 | e=>Q e
theorem FQ {F : Fence} {n : Nat} {Q : Exit→Act→World→Prop} {a : Act} {w : World} {c : Code} (h : c.wpIn F n P (QO Q) a w) : (Code.scope c).wpIn F n P Q a w:=by
 intro b k cs hro hb hr
 have h0 : (lone (b.atR a (.code (.scope c)::k)) cs w).fenced P F:=fenced_calm hb hr rfl
 have s0 : step P (lone (b.atR a (.code (.scope c)::k)) cs w)=.next (lone (b.atR a (.code c::.inScope c::k)) cs w):=step_lone_go (by simp [stepG,stepG.exec,Frame.atR])
 have s1 : ∀ {a' : Act} {w' : World},step P (lone (b.atR a' (.inScope c::k)) cs w')=.next (lone (b.atR a' k) cs w'):=step_lone_go (by simp [stepG,stepG.exec,Frame.atR])
 obtain ⟨e,a₁,w₁,hq,harr⟩:=h b (.inScope c::k) cs hro hb hr
 cases e with
 | normal=>exact ⟨.normal,a₁,w₁,hq,.head h0 s0 (StepsIn.trans harr (.one (fenced_calm hb hr rfl) s1))⟩
 | exit id =>
  have hx : exitTo id (.inScope c::k)=exitTo id k:=by simp [exitTo]
  exact ⟨.exit id,a₁,w₁,hq,fun k' hk=>.head h0 s0 (harr.1 k' (by rw [hx];exact hk)),
   fun hr' hk=>let ⟨k₁,h1,h2⟩:=harr.2 hr' (by rw [hx];exact hk);⟨k₁,h1,.head h0 s0 h2⟩⟩
 | goto l=>exact hq.elim
 | ret=>exact ⟨_,a₁,w₁,hq,.of_steps (.one h0 s0) harr⟩
 | panic ch=>exact ⟨_,a₁,w₁,hq,.of_steps (.one h0 s0) harr⟩
 | outgrown=>exact ⟨_,a₁,w₁,hq,.of_steps (.one h0 s0) harr⟩
theorem Fz {lab : FuncId→Bool} {N : Nat} {g : Operand} {ps : Array Tmp} {x y : Code} {va vb : aA} (hva : comp lab N x=some va) (hvb : comp lab N y=some vb) (hfl : va.flat=true∧vb.flat=true)
  {Q : Out→Env→Store→Prop} {ρ : Env} {σ : Store} (h : iO P G (.rangeF g ps.toList N va vb x y) Q ρ σ) {B : Nat→Prop} {w : World} {μ : List Loc} {a : Act} (hS : ST G B N w σ μ ρ a) :
  (Code.rangeFunc g ps x y).wpIn (Fr none) 0 P (Post false B N w σ μ a.defers Q) a w:=by
 simp only [iO] at h
 split at h
 rotate_left
 ·exact h.elim
 rename_i f first caps hf
 obtain ⟨hb,h⟩:=h
 have hv:=yj hS.gl hS.env g
 rw [hf] at hv
 simp only [VR] at hv
 obtain ⟨av,cv,hv,_,hv1,hv2⟩:=hv
 refine wpIn_rangeFunc ?_
 intro fn _
 obtain ⟨D,hD⟩ : ∃ D,D=w.heap.size:=⟨_,rfl⟩
 obtain ⟨rec,hrec⟩ : ∃ rec : Loop,rec={ state:=.ready,pending:=none,fn,tmps:=a.tmps,params:=ps,assign:=x,body:=y,defers:=w.heap.size }:=⟨_,rfl⟩
 obtain ⟨W1,hW1⟩ : ∃ W1,(w.alloc (.deferred (some []))).alloc (.loop rec)=W1:=⟨_,rfl⟩
 have hsz : W1.heap.size=w.heap.size+2:=by rw [← hW1];simp
 have hh : ∀ b,b < w.heap.size→W1.heap[b]?=w.heap[b]?:=by
  intro b hb;rw [← hW1]
  rw [RowKit.Below.heap_alloc _ _ _ (by simp;omega),RowKit.Below.heap_alloc _ _ _ hb]
 have hL1 : W1.heap[w.heap.size+1]?=some (.loop rec):=by
  rw [← hW1];have:=World.alloc_heap_new (w.alloc (.deferred (some []))) (.loop rec);rwa [World.size_alloc] at this
 have hK1 : W1.heap[w.heap.size]?=some (.deferred (some [])):=by
  rw [← hW1];exact (RowKit.Below.heap_alloc _ _ _ (by simp)).trans (World.alloc_heap_new w _)
 have hF0 : Frame w σ μ W1 σ μ:=.still (by omega) hh (by rw [← hW1];rfl) (by rw [← hW1];rfl) (by rw [← hW1];rfl)
 obtain ⟨l₀,hl₀⟩ : ∃ l₀ : kG,l₀={ n:=N,tmps:=ρ,params:=ps.toList,assign:=x,body:=y,state:=.ready,pending:=none }:=⟨_,rfl⟩
 have hLO : sZ l₀ ρ ps.toList N va vb x y:=by subst hl₀;exact ⟨rfl,rfl,rfl,rfl,rfl,⟨lab,hva,hvb⟩,hfl,rfl,rfl⟩
 obtain ⟨hS1,hF1⟩:=hS.sr.snoc (w':=W1) hF0 hh (o:=.loop l₀) (L:=⟨w.heap.size+1,0,0⟩) (by simp) (by
  refine ⟨rec,hL1, ?_⟩
  have hFx : Frame w σ μ W1 (σ++[.loop l₀]) (μ++[⟨w.heap.size+1,0,0⟩]):=by
   refine ⟨hF0.size,hF0.heap, ?_,List.prefix_append _ _,hF0.os,hF0.tape,hF0.output⟩
   rintro b ⟨id,L',o',h1,rfl,h3,h4⟩
   rcases aP h1 with h1 | ⟨h1,rfl⟩
   ·rcases aP h3 with h3 | ⟨h3,rfl⟩
    ·exact .inl ⟨id,L',o',h1,rfl,h3,h4⟩
    ·have:=(List.getElem?_eq_some_iff.1 h1).1;rw [hS.sr.len] at this;omega
   ·exact .inr (by simp)
  subst hrec hl₀
  exact ⟨hS.size,rfl,rfl,by simp,rfl,rfl,hS.env.ext hFx.ext⟩)
 have hid : (μ++[({ block:=w.heap.size+1,base:=0,room:=0 } : Loc)])[σ.length]?=some ⟨w.heap.size+1,0,0⟩:=by rw [← hS.sr.len];simp
 refine ⟨w.heap.size+1,[{ target:=.collected w.heap.size,args:=#[] }],W1,{ target:=.fn (.func f) cv,args:=av++#[.func (.yield (w.heap.size+1)) #[] #[]] },W1,f,
  av++#[.func (.yield (w.heap.size+1)) #[] #[]]++cv,W1, ?_, ?_,fun _ _=>trivial, ?_,by simp [Fence.wide], ?_⟩
 ·rw [← hW1,hrec];exact run_enterLoop_outer _ _ _ _ _
 ·simp only [resolve,hv]
  simp [go_sem]
 ·unfold ay at hb
  split at hb
  ·rename_i fn hfn
   simp only [Bool.and_eq_true,Bool.not_eq_true',Option.isSome_iff_exists] at hb
   obtain ⟨hn,body,hbody⟩:=hb
   have hn' : ¬ (fn.name = "runtime.NumGoroutine"):=by simpa using hn
   simp [invoke,callFunc,hfn,hn',hbody,Option.isNone]
  ·cases hb
 ·have hargs : bI W1 (OO B (σ++[.loop l₀]) (μ++[⟨w.heap.size+1,0,0⟩])) (μ++[⟨w.heap.size+1,0,0⟩]) (first++[.yield σ.length]++caps) (av++#[Value.func (.yield (w.heap.size+1)) #[] #[]]++cv).toList:=by
   simp only [Array.toList_append]
   refine ((bI.ext hF1.ext _ _ hv1).append ?_).append (bI.ext hF1.ext _ _ hv2)
   simp only [bI,VR]
   exact ⟨Value.func (.yield (w.heap.size+1)) #[] #[],[],rfl,⟨_,hid,rfl⟩,rfl⟩
  refine (zL.2 (h l₀ hLO B W1 _ _ hS1 (hS.gl.ext hF1.ext) hargs)).mono ?_
  rintro e W2 ⟨r,σ',μ',hr,hF,hSR,hE⟩
  have hnD : ¬ eP (σ++[.loop l₀]) (μ++[⟨w.heap.size+1,0,0⟩]) w.heap.size:=by
   rintro ⟨id,L',o',h1,h2,h3,h4⟩
   rcases aP h1 with h1 | ⟨h1,rfl⟩
   ·rcases aP h3 with h3 | ⟨h3,rfl⟩
    ·have:=eP.lt hS.sr ⟨id,L',o',h1,h2,h3,h4⟩;omega
    ·have:=(List.getElem?_eq_some_iff.1 h1).1;rw [hS.sr.len] at this;omega
   ·simp at h2
  have hdf : DF false w W2 σ' μ' a.defers ({ target:=.collected w.heap.size,args:=#[] }::a.defers) :=
   DF.keep (w:=W1) (σ:=σ++[.loop l₀]) (μ:=μ++[⟨w.heap.size+1,0,0⟩]) ⟨[w.heap.size],by simp,rfl,by simp,by simp [hK1,hnD]⟩ hF
  have hFw : Frame w σ μ W2 σ' μ':=hF1.trans hF
  cases e<;>cases r<;>simp only [nG] at hE
  case returned.ret v rv =>
   obtain ⟨l',hl',hst,hj⟩:=hr
   have hL' : μ'[σ.length]?=some ⟨w.heap.size+1,0,0⟩:=fG hF.pre hid
   obtain ⟨r',hr',hLR⟩:=hSR.obj _ _ _ hl' hL'
   simp only at hr'
   have hend:=run_endLoop (P:=P) hr' (by rw [hLR.2.1];exact hst)
   have hbusy : r'.pending=l'.pending:=hLR.2.2.1
   have hnB : ¬ B (w.heap.size+1):=fun hB=>by have:=hS.sr.low _ hB;omega
   have hown1 : eP σ' μ' (w.heap.size+1):=⟨σ.length,_,_,hL',rfl,hl',rfl⟩
   obtain ⟨hS2,hF2⟩:=hSR.dead hl'
   have hnown : ¬ eP (σ'.set σ.length .dead) μ' (w.heap.size+1):=by
    rintro ⟨id,L',o',h1,h2,h3,h4⟩
    rw [List.getElem?_set] at h3
    split at h3
    ·rename_i he
     split at h3
     ·cases h3;cases h4
     ·cases h3
    ·rename_i hne
     exact hne (hSR.apart _ _ _ _ _ _ hl' h3 rfl h4 hL' h1 h2.symm)
   obtain ⟨W3,hW3⟩ : ∃ W3,W3=W2.putObj (w.heap.size+1) (.loop { r' with state:=.exhausted }):=⟨_,rfl⟩
   have hF3 : Frame W2 σ' μ' W3 (σ'.set σ.length .dead) μ':=by
    refine ⟨by rw [hW3];simp,fun b hb hn=>?_,hF2.own,List.prefix_refl _,by rw [hW3];rfl,by rw [hW3];rfl,by rw [hW3];rfl⟩
    rw [hW3]
    exact World.putObj_heap_other (fun e=>hn (e ▸ hown1))
   have hS3 : SR B W3 (σ'.set σ.length .dead) μ':=by
    have hE3 : Ext W2 (OO B (σ'.set σ.length .dead) μ') μ' W3 (OO B (σ'.set σ.length .dead) μ') μ':=by
     refine ⟨fun b o v _ hv=>?_,fun _ h=>.inl h,List.prefix_refl _⟩
     have hne : b≠w.heap.size+1:=by
      rintro rfl
      unfold World.cell? at hv
      rw [hr'] at hv
      cases hv
     have hh3 : W3.heap[b]?=W2.heap[b]?:=by rw [hW3];exact World.putObj_heap_other hne
     rw [cell_of_heap hh3];exact hv
    refine ⟨hS2.len,fun id o L ho hL=>(hS2.obj id o L ho hL).ext hE3 (fun how=>?_),hS2.apart,hS2.out,fun b hb=>by rw [hW3];simpa using hS2.low b hb⟩
    rw [hW3]
    refine World.putObj_heap_other (fun e=>hnown ⟨id,L,o,hL,e,ho,how⟩)
   have hFw3 : Frame w σ μ W3 (σ'.set σ.length .dead) μ':=hFw.trans hF3
   have hdf3:=hdf.keep hF3
   refine ⟨_,_,by rw [← hW3] at hend;exact hend, ?_⟩
   rw [hbusy]
   have hfin : ∀ {o : Out} {e : Exit},Q o ρ (σ'.set σ.length .dead)→jm W3 (OO B (σ'.set σ.length .dead) μ') μ' o e→Post false B N w σ μ a.defers Q e { a with defers:=[{ target:=.collected w.heap.size,args:=#[] }]++a.defers } W3 :=
    fun hq hx=>⟨_,ρ,_,μ',hq,hx,hFw3,hS3,hS.env.ext hFw3.ext,hS.size,hdf3⟩
   generalize l'.pending=pe at hj ⊢
   cases pe with
   | none=>exact hfin hj trivial
   | some c=>cases c<;>first
    | exact hj.elim
    | exact wpIn_ret (hfin hj trivial)
    | exact wpIn_exit (hfin hj rfl)
  case panicked.panic chain rv =>
   obtain ⟨v,rfl,hV⟩:=hE
   exact ⟨.panic rv,ρ,σ',μ',hr,⟨v,rfl,hV⟩,hFw,hSR,hS.env.ext hFw.ext,hS.size,hdf⟩
theorem iG {fl : Bool} {ro : Option Nat} {lab : FuncId→Bool} {N : Nat} (hmix : P.follows .mixedOrders=true) : ∀ (c : Code) (vc : aA),comp lab N c=some vc→((ro=none∧fl=false)∨vc.flat=true)→∀ (Q : Out→Env→Store→Prop) (ρ : Env) (σ : Store),iO P G vc Q ρ σ→VW fl P G ro N c Q ρ σ:=by
 intro c
 induction c with
 | skip =>
  intro vc hc hfl Q ρ σ h B w μ a hS
  cases hc
  exact wpIn_skip ⟨.normal,ρ,σ,μ,h,trivial,.refl _ _ _,hS.sr,hS.env,hS.size,.refl rfl⟩
 | label l =>
  intro vc hc hfl Q ρ σ h B w μ a hS
  cases hc
  exact wpIn_label ⟨.normal,ρ,σ,μ,h,trivial,.refl _ _ _,hS.sr,hS.env,hS.size,.refl rfl⟩
 | exit id =>
  intro vc hc hfl Q ρ σ h B w μ a hS
  cases hc
  exact wpIn_exit ⟨.exit id,ρ,σ,μ,h,rfl,.refl _ _ _,hS.sr,hS.env,hS.size,.refl rfl⟩
 | goto l =>
  intro vc hc hfl Q ρ σ h B w μ a hS
  cases hc
  exact wpIn_goto ⟨.goto l,ρ,σ,μ,h,rfl,.refl _ _ _,hS.sr,hS.env,hS.size,.refl rfl⟩
 | ret =>
  intro vc hc hfl Q ρ σ h B w μ a hS
  cases hc
  exact wpIn_ret ⟨.ret,ρ,σ,μ,h,trivial,.refl _ _ _,hS.sr,hS.env,hS.size,.refl rfl⟩
 | seq x y ihx ihy =>
  intro vc hc hfl Q ρ σ h B w μ a hS
  simp only [comp] at hc
  split at hc
  ·rename_i vx vy hx hy
   cases hc
   refine wpIn_seq (wpIn_mono (ihx vx hx (hfl.imp (fun e=>e) fun h=>by simp only [aA.flat,Bool.and_eq_true] at h;exact h.1) _ ρ σ h B w μ a hS) ?_)
   rintro e a₁ w₁ ⟨o,ρ₁,σ₁,μ₁,hq,hx,hF,hSR,hE,hz,hd⟩
   cases o<;>cases e<;>simp only [jm] at hx
   case normal.normal =>
    refine wpIn_mono (ihy vy hy (hfl.imp (fun e=>e) fun h=>by simp only [aA.flat,Bool.and_eq_true] at h;exact h.2) Q ρ₁ σ₁ hq B w₁ μ₁ a₁ (hS.later hF hSR hE hz)) ?_
    rintro e a₂ w₂ ⟨o₂,ρ₂,σ₂,μ₂,k1,k2,k3,k4,k5,k6,k7⟩
    exact ⟨o₂,ρ₂,σ₂,μ₂,k1,k2,hF.trans k3,k4,k5,k6,hd.trans hF.size k3 k7⟩
   all_goals first
    | exact ⟨_,ρ₁,σ₁,μ₁,hq,hx,hF,hSR,hE,hz,hd⟩
    | exact ⟨.ret,ρ₁,σ₁,μ₁,hq,trivial,hF,hSR,hE,hz,hd⟩
  ·cases hc
 | cond c x y ihx ihy =>
  intro vc hc hfl Q ρ σ h B w μ a hS
  simp only [comp] at hc
  split at hc
  ·rename_i vx vy hx hy
   cases hc
   simp only [iO] at h
   split at h
   ·rename_i t ht
    have hv:=yj hS.gl hS.env c
    rw [ht] at hv
    simp only [VR] at hv
    refine wpIn_cond hv ?_
    split
    ·rename_i htt;rw [if_pos htt] at h;exact ihx vx hx (hfl.imp (fun e=>e) fun h=>by simp only [aA.flat,Bool.and_eq_true] at h;exact h.1) Q ρ σ h B w μ a hS
    ·rename_i htt;rw [if_neg htt] at h;exact ihy vy hy (hfl.imp (fun e=>e) fun h=>by simp only [aA.flat,Bool.and_eq_true] at h;exact h.2) Q ρ σ h B w μ a hS
   ·exact h.elim
  ·cases hc
 | block id x ih =>
  intro vc hc hfl Q ρ σ h B w μ a hS
  simp only [comp,Option.map_eq_some_iff] at hc
  obtain ⟨vx,hx,rfl⟩:=hc
  refine wpIn_block (wpIn_mono (ih vx hx (hfl.imp (fun e=>e) fun h=>by simpa only [aA.flat] using h) _ ρ σ h B w μ a hS) ?_)
  rintro e a₁ w₁ ⟨o,ρ₁,σ₁,μ₁,hq,hx,hF,hSR,hE,hz,hd⟩
  cases o<;>cases e<;>simp only [jm] at hx
  case exit.exit i j =>
   subst hx
   simp only [fD,Exit.inBlock] at hq ⊢
   split
   ·rename_i hh;simp only [hh,if_true] at hq;exact ⟨.normal,ρ₁,σ₁,μ₁,hq,trivial,hF,hSR,hE,hz,hd⟩
   ·rename_i hh;simp only [hh,if_false] at hq;exact ⟨.exit i,ρ₁,σ₁,μ₁,hq,rfl,hF,hSR,hE,hz,hd⟩
  all_goals first
   | exact ⟨_,ρ₁,σ₁,μ₁,hq,hx,hF,hSR,hE,hz,hd⟩
   | exact ⟨.ret,ρ₁,σ₁,μ₁,hq,trivial,hF,hSR,hE,hz,hd⟩
   | exact ⟨.normal,ρ₁,σ₁,μ₁,hq,trivial,hF,hSR,hE,hz,hd⟩
 | loop x ih =>
  intro vc hc hfl Q ρ σ h B w μ a hS b k cs hro hb hr
  simp only [comp,Option.map_eq_some_iff] at hc
  obtain ⟨vx,hx,rfl⟩:=hc
  have key:=h (fun ρ' σ'=>∀ (w' : World) (μ' : List Loc) (a' : Act),ST G B N w' σ' μ' ρ' a'→Frame w σ μ w' σ' μ'→DF fl w w' σ' μ' a.defers a'.defers →
   ∃ e a'' w'',Post fl B N w σ μ a.defers Q e a'' w''∧ArrivesIn (Machine.fenced P (Fr ro)) P (lone (b.atR a' (.code x::.inLoop x::k)) cs w') b k cs e a'' w'') (by
    intro ρ' σ' hh w' μ' a' hS' hF' hd'
    obtain ⟨e,a₁,w₁,⟨o,ρ₁,σ₁,μ₁,hq,hx',hF,hSR,hE,hz,hd⟩,harr⟩:=ih vx hx (hfl.imp (fun e=>e) fun h=>by simpa only [aA.flat] using h) _ ρ' σ' hh B w' μ' a' hS' b (.inLoop x::k) cs hro hb hr
    cases o<;>cases e<;>simp only [jm] at hx'
    case normal.normal =>
     obtain ⟨e₂,a₂,w₂,hq₂,harr₂⟩:=hq w₁ μ₁ a₁ (hS'.later hF hSR hE hz) (hF'.trans hF) (hd'.trans hF'.size hF hd)
     exact ⟨e₂,a₂,w₂,hq₂,.of_steps (StepsIn.trans harr (.one (fenced_calm hb hr rfl) stepR_inLoop)) harr₂⟩
    case exit.exit =>
     exact ⟨_,a₁,w₁,⟨.exit _,ρ₁,σ₁,μ₁,hq,(by simpa [jm] using hx'),hF'.trans hF,hSR,hE,hz,hd'.trans hF'.size hF hd⟩,.pass (x:=.inLoop x) rfl (fun _ _=>.inl (by simp)) harr⟩
    case goto.goto =>
     exact ⟨_,a₁,w₁,⟨.goto _,ρ₁,σ₁,μ₁,hq,(by simpa [jm] using hx'),hF'.trans hF,hSR,hE,hz,hd'.trans hF'.size hF hd⟩,.pass (x:=.inLoop x) rfl (fun _ _=>.inl (by simp)) harr⟩
    case ret.ret =>
     exact ⟨.ret,a₁,w₁,⟨.ret,ρ₁,σ₁,μ₁,hq,trivial,hF'.trans hF,hSR,hE,hz,hd'.trans hF'.size hF hd⟩,.pass (x:=.inLoop x) rfl (fun _ _=>.inl (by simp)) harr⟩
    case panic.panic =>
     exact ⟨_,a₁,w₁,⟨.panic _,ρ₁,σ₁,μ₁,hq,(by simpa [jm] using hx'),hF'.trans hF,hSR,hE,hz,hd'.trans hF'.size hF hd⟩,.pass (x:=.inLoop x) rfl (fun _ _=>.inl (by simp)) harr⟩)
  obtain ⟨e,a',w',hq,harr⟩:=key w μ a hS (.refl _ _ _) (.refl rfl)
  exact ⟨e,a',w',hq,.of_steps (.one (fenced_calm hb hr rfl) stepR_loop) harr⟩
 | region id ops draw =>
  intro vc hc hfl Q ρ σ h
  cases draw with
  | false =>
   simp only [comp,Option.map_eq_some_iff] at hc
   obtain ⟨vs,hvs,rfl⟩:=hc
   intro B w μ a hS
   exact wpIn_region (vV ops.toList _ vs JY hvs w σ μ ρ a hS (.refl _ _ _) rfl h)
  | true =>
   simp only [comp] at hc
   split at hc
   ·rename_i ds hds
    split at hc
    ·rename_i hok
     cases hc
     exact Ii hmix (yG hds hok) h
    ·cases hc
   ·cases hc
 | rangeFunc g ps x y =>
  intro vc hc hfl Q ρ σ h B w μ a hS
  simp only [comp] at hc
  split at hc
  ·rename_i va vb hva hvb
   split at hc
   ·rename_i hvf
    cases hc
    obtain ⟨hro,hff⟩ : ro=none∧fl=false:=hfl.resolve_right (by simp [aA.flat])
    subst hro hff
    exact Fz hva hvb (by simpa using hvf) h hS
   ·cases hc
  ·cases hc
 | scope x ih =>
  intro vc hc hfl Q ρ σ h B w μ a hS
  simp only [comp,Option.map_eq_some_iff] at hc
  obtain ⟨vx,hx,rfl⟩:=hc
  refine FQ (wpIn_mono (ih vx hx (hfl.imp (fun e=>e) fun h=>by simpa only [aA.flat] using h) _ ρ σ h B w μ a hS) ?_)
  rintro e a₁ w₁ ⟨o,ρ₁,σ₁,μ₁,hq,hx,hF,hSR,hE,hz,hd⟩
  cases o<;>cases e<;>simp only [jm] at hx
  case goto.goto=>exact hq.elim
  all_goals first
   | exact ⟨_,ρ₁,σ₁,μ₁,hq,hx,hF,hSR,hE,hz,hd⟩
   | exact ⟨.ret,ρ₁,σ₁,μ₁,hq,trivial,hF,hSR,hE,hz,hd⟩
   | exact ⟨.normal,ρ₁,σ₁,μ₁,hq,trivial,hF,hSR,hE,hz,hd⟩
 | refuse=>intro vc hc;cases hc
end Go.V
