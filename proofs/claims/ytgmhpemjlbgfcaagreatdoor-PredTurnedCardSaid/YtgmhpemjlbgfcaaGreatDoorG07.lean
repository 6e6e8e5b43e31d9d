/- Texts V14 V15 V16. -/
import Derived.RangeFuncSeq
import Derived.Test.YtgmhpemjlbgfcaaGreatDoorG06
set_option linter.unusedVariables false
set_option linter.unusedSimpArgs false
namespace Go.V
inductive gY where
 | ret (x : VV)
 | panic (x : VV)
def nG (w : World) (O : Nat→Prop) (μ : List Loc) : gY→Ending→Prop
 | .ret x,.returned v=>VR w O μ x v
 | .panic x,.panicked chain=>∃ v,chain=[{ v,recovered:=false }]∧VR w O μ x v
 | _,_=>False
def CV (P : Program) (G : Nat→Option (List VV)) (f : FuncId) (xs : List VV) (σ : Store) (R : gY→Store→Prop) : Prop :=
 ∀ (B : Nat→Prop) (w : World) (μ : List Loc) (vs : Array Value),SR B w σ μ→Jm G w (OO B σ μ) μ→bI w (OO B σ μ) μ xs vs.toList →
  CallsIn Fence.wide 0 P f vs w fun e w'=>∃ r σ' μ',R r σ'∧Frame w σ μ w' σ' μ'∧SR B w' σ' μ'∧nG w' (OO B σ' μ') μ' r e
def YV (P : Program) (G : Nat→Option (List VV)) (id : Nat) (xs : List VV) (σ : Store) (R : gY→Store→Prop) : Prop :=
 ∀ (B : Nat→Prop) (w : World) (μ : List Loc) (vs : Array Value),SR B w σ μ→Jm G w (OO B σ μ) μ→bI w (OO B σ μ) μ xs vs.toList →
  ∃ L,μ[id]?=some L∧YieldAt Fence.wide 0 P L.block vs w fun e w'=>∃ r σ' μ',R r σ'∧Frame w σ μ w' σ' μ'∧SR B w' σ' μ'∧nG w' (OO B σ' μ') μ' r e
theorem YV.mono {P : Program} {G : Nat→Option (List VV)} {id : Nat} {xs : List VV} {σ : Store} {R R' : gY→Store→Prop} (h : YV P G id xs σ R) (hr : ∀ r σ,R r σ→R' r σ) : YV P G id xs σ R':=by
 intro B w μ vs h1 h2 h3
 obtain ⟨L,hL,fn,tmps,assign,body,hy,hr'⟩:=h B w μ vs h1 h2 h3
 exact ⟨L,hL,fn,tmps,assign,body,hy,hr'.mono fun _ _ ⟨r,σ',μ',a,b,c,d⟩=>⟨r,σ',μ',hr _ _ a,b,c,d⟩⟩
theorem CV.mono {P : Program} {G : Nat→Option (List VV)} {f : FuncId} {xs : List VV} {σ : Store} {R R' : gY→Store→Prop} (h : CV P G f xs σ R) (hr : ∀ r σ,R r σ→R' r σ) : CV P G f xs σ R' :=
 fun B w μ vs h1 h2 h3=>(h B w μ vs h1 h2 h3).mono fun _ _ ⟨r,σ',μ',a,b,c,d⟩=>⟨r,σ',μ',hr _ _ a,b,c,d⟩
theorem Jm.ext {G : Nat→Option (List VV)} {w w' : World} {O O' : Nat→Prop} {μ μ' : List Loc} (hE : Ext w O μ w' O' μ') (h : Jm G w O μ) : Jm G w' O' μ' :=
 fun g cells hg=>VR.ext hE _ _ (h g cells hg)
def ay (P : Program) (f : FuncId) : Bool:=match P.funcs[f]? with
 | some fn=>!(fn.name == "runtime.NumGoroutine") && fn.body.isSome
 | none=>false
section
variable (P : Program) (G : Nat→Option (List VV))
def UL (op : Op) (ty : TypeId) (ρ : Env) (σ : Store) (K : VV→Store→Prop) : Prop :=
 ∃ out,dZ P G ρ σ ⟨none,op,ty, "",#[],none⟩=some out∧out.pre∧K out.val out.st
def gZ (K KP : VV→Store→Prop) : gY→Store→Prop
 | .ret x,σ=>K x σ
 | .panic x,σ=>KP x σ
def rY (op : Op) (ty : TypeId) (ρ : Env) (σ : Store) (K KP : VV→Store→Prop) : Prop :=
 match op with
 | .call ⟨.value f,args,_⟩=>match ev G ρ f with
  | .fn (.func g) first caps=>ay P g=true∧CV P G g (first++args.toList.map (ev G ρ)++caps) σ (gZ K KP)
  | .yield id=>YV P G id (args.toList.map (ev G ρ)) σ (gZ K KP)
  | _=>False
 | .panic x=>match ev G ρ x with
  | .ifc t v=>KP (.ifc t v) σ
  | _=>False
 | _=>UL P G op ty ρ σ K
structure VO where
 dst : Option Nat
 op : Op
 ty : TypeId
 g : Option (Nat × Bool)
inductive Out where
 | normal
 | exit (id : Nat)
 | goto (l : Nat)
 | ret
 | panic (x : VV)
def gX (ρ : Env) : Option (Nat × Bool)→Option Bool
 | none=>some true
 | some (t,b)=>match ρ.get t with
  | .bool c=>some (c == b)
  | .tup []=>some false
  | _=>none
def dB (ρ : Env) : Option Nat→VV→Env
 | some d,x=>(d,x)::ρ
 | none,_=>ρ
def bM : List VO→(Out→Env→Store→Prop)→Env→Store→Prop
 | [],Q,ρ,σ=>Q .normal ρ σ
 | o::r,Q,ρ,σ=>match gX ρ o.g with
  | some true=>rY P G o.op o.ty ρ σ (fun x σ'=>bM r Q (dB ρ o.dst x) σ') (fun x σ'=>Q (.panic x) ρ σ')
  | some false=>bM r Q (dB ρ o.dst (.tup [])) σ
  | none=>False
end
def jm (w : World) (O : Nat→Prop) (μ : List Loc) : Out→Exit→Prop
 | .normal,.normal=>True
 | .exit i,.exit j=>i=j
 | .goto i,.goto j=>i=j
 | .ret,.ret=>True
 | .panic x,.panic chain=>∃ v,chain=[{ v,recovered:=false }]∧VR w O μ x v
 | _,_=>False
abbrev Fr (ro : Option Nat) : Fence:={ Fence.wide with round:=ro }
theorem zL {ro : Option Nat} {n : Nat} {P : Program} {f : FuncId} {args : Array Value} {w : World} {R : Ending→World→Prop} : CallsIn (Fr ro) n P f args w R↔CallsIn Fence.wide n P f args w R:=Iff.rfl
def DF (fl : Bool) (w₀ w : World) (σ : Store) (μ : List Loc) (ds ds' : List Deferred) : Prop :=
 ∃ Ds : List Nat,(fl=true→Ds=[])∧ds'=Ds.map (fun D=>({ target:=.collected D,args:=#[] } : Deferred))++ds∧Ds.Nodup∧∀ D ∈ Ds,w₀.heap.size≤D∧w.heap[D]?=some (.deferred (some []))∧¬ eP σ μ D
theorem DF.refl {fl : Bool} {w₀ w : World} {σ : Store} {μ : List Loc} {ds ds' : List Deferred} (h : ds'=ds) : DF fl w₀ w σ μ ds ds':=⟨[],fun _=>rfl,by simp [h],List.nodup_nil,by simp⟩
theorem DF.keep {fl : Bool} {w₀ w w' : World} {σ σ' : Store} {μ μ' : List Loc} {ds ds' : List Deferred} (h : DF fl w₀ w σ μ ds ds') (hF : Frame w σ μ w' σ' μ') : DF fl w₀ w' σ' μ' ds ds':=by
 obtain ⟨Ds,h0,h1,h2,h3⟩:=h
 refine ⟨Ds,h0,h1,h2,fun D hD=>?_⟩
 obtain ⟨k1,k2,k3⟩:=h3 D hD
 have hlt : D < w.heap.size:=(Array.getElem?_eq_some_iff.1 k2).1
 refine ⟨k1,(hF.heap D hlt k3).trans k2,fun ho=>?_⟩
 rcases hF.own D ho with h | h
 ·exact k3 h
 ·omega
theorem DF.trans {fl : Bool} {w₀ w₁ w₂ : World} {σ₁ σ₂ : Store} {μ₁ μ₂ : List Loc} {ds ds₁ ds₂ : List Deferred} (h : DF fl w₀ w₁ σ₁ μ₁ ds ds₁) (hs : w₀.heap.size≤w₁.heap.size) (hF : Frame w₁ σ₁ μ₁ w₂ σ₂ μ₂) (h' : DF fl w₁ w₂ σ₂ μ₂ ds₁ ds₂) : DF fl w₀ w₂ σ₂ μ₂ ds ds₂:=by
 have hlow : ∀ D,(∃ Ds : List Nat,D ∈ Ds∧∀ D ∈ Ds,w₀.heap.size≤D∧w₁.heap[D]?=some (.deferred (some []))∧¬ eP σ₁ μ₁ D)→D < w₁.heap.size:=by
  rintro D ⟨Ds,hD,h⟩
  exact (Array.getElem?_eq_some_iff.1 (h D hD).2.1).1
 obtain ⟨Ds,h0,h1,h2,h3⟩:=h
 obtain ⟨Es,k0,k1,k2,k3⟩:=h'
 obtain ⟨_,_,m1,_,m3⟩:=DF.keep (fl:=false) (w₀:=w₀) (ds:=ds) ⟨Ds,by simp,rfl,h2,h3⟩ hF
 have m1':=List.append_cancel_right m1
 have m4 : ∀ D ∈ Ds,w₂.heap[D]?=some (.deferred (some []))∧¬ eP σ₂ μ₂ D:=by
  intro D hD
  have : ({ target:=.collected D,args:=#[] } : Deferred) ∈ Ds.map (fun D=>({ target:=.collected D,args:=#[] } : Deferred)):=List.mem_map.2 ⟨D,hD,rfl⟩
  rw [m1'] at this
  obtain ⟨D',hD',he⟩:=List.mem_map.1 this
  simp only [Deferred.mk.injEq,Target.collected.injEq,and_true] at he
  subst he
  exact (m3 D' hD').2
 refine ⟨Es++Ds,fun hf=>by rw [k0 hf,h0 hf];rfl,by rw [k1,h1,List.map_append,List.append_assoc], ?_, ?_⟩
 ·rw [List.nodup_append]
  refine ⟨k2,h2,fun a ha b hb=>?_⟩
  have:=(k3 a ha).1
  have:=hlow b ⟨Ds,hb,h3⟩
  omega
 ·intro D hD
  rcases List.mem_append.1 hD with h | h
  ·exact ⟨Nat.le_trans hs (k3 D h).1,(k3 D h).2⟩
  ·exact ⟨(h3 D h).1,m4 D h⟩
theorem DF.low {fl : Bool} {w₀ w₁ w : World} {σ : Store} {μ : List Loc} {ds ds' : List Deferred} (hs : w₀.heap.size≤w₁.heap.size) (h : DF fl w₁ w σ μ ds ds') : DF fl w₀ w σ μ ds ds':=by
 obtain ⟨Ds,h0,h1,h2,h3⟩:=h
 exact ⟨Ds,h0,h1,h2,fun D hD=>⟨Nat.le_trans hs (h3 D hD).1,(h3 D hD).2⟩⟩
def Post (fl : Bool) (B : Nat→Prop) (N : Nat) (w : World) (σ : Store) (μ : List Loc) (ds : List Deferred) (Q : Out→Env→Store→Prop) (e : Exit) (a' : Act) (w' : World) : Prop :=
 ∃ o ρ' σ' μ',Q o ρ' σ'∧jm w' (OO B σ' μ') μ' o e∧Frame w σ μ w' σ' μ'∧SR B w' σ' μ'∧jg w' (OO B σ' μ') μ' ρ' a'.tmps∧a'.tmps.size=N∧DF fl w w' σ' μ' ds a'.defers
theorem Post.trans {fl : Bool} {B : Nat→Prop} {N : Nat} {w w₁ : World} {σ σ₁ : Store} {μ μ₁ : List Loc} {ds : List Deferred} {Q : Out→Env→Store→Prop} {e : Exit} {a' : Act} {w' : World} (hF : Frame w σ μ w₁ σ₁ μ₁)
  (h : Post fl B N w₁ σ₁ μ₁ ds Q e a' w') : Post fl B N w σ μ ds Q e a' w':=by
 obtain ⟨o,ρ',σ',μ',h1,h2,h3,h4,h5,h6,h7⟩:=h
 exact ⟨o,ρ',σ',μ',h1,h2,hF.trans h3,h4,h5,h6,h7.low hF.size⟩
structure ST (G : Nat→Option (List VV)) (B : Nat→Prop) (N : Nat) (w : World) (σ : Store) (μ : List Loc) (ρ : Env) (a : Act) : Prop where
 sr : SR B w σ μ
 gl : Jm G w (OO B σ μ) μ
 env : jg w (OO B σ μ) μ ρ a.tmps
 size : a.tmps.size=N
def VW (fl : Bool) (P : Program) (G : Nat→Option (List VV)) (ro : Option Nat) (N : Nat) (c : Code) (Q : Out→Env→Store→Prop) (ρ : Env) (σ : Store) : Prop :=
 ∀ (B : Nat→Prop) (w : World) (μ : List Loc) (a : Act),ST G B N w σ μ ρ a→c.wpIn (Fr ro) 0 P (Post fl B N w σ μ a.defers Q) a w
theorem jg.put {w : World} {O : Nat→Prop} {μ : List Loc} {ρ : Env} {a : Act} {x : VV} {v : Value} (h : jg w O μ ρ a.tmps) (hx : VR w O μ x v) (d : Option Nat) (hd : ∀ t,d=some t→t < a.tmps.size) :
  jg w O μ (dB ρ d x) (a.put d v).tmps:=by
 cases d with
 | none=>exact h
 | some d =>
  intro t
  simp only [dB,Env.get,Act.put]
  by_cases e : d=t
  ·subst e
   have:=hd d rfl
   simp [this,hx]
  ·simp only [if_neg e]
   have:=h t
   have e2 : (a.tmps.setIfInBounds d v).getD t undef=a.tmps.getD t undef:=by
    simp only [Array.getD_eq_getD_getElem?,Array.getElem?_setIfInBounds,if_neg e]
   rw [e2];exact this
variable {P : Program} {G : Nat→Option (List VV)}
theorem jh {w : World} {O : Nat→Prop} {μ : List Loc} {ρ : Env} {a : Act} {ops : Array Oper} {o : Oper} {g : Option (Nat × Bool)} {c : Bool} (hE : jg w O μ ρ a.tmps)
  (hg : (o.guard.map fun (j,b)=>(((ops[j]?).bind (·.dst)).getD a.tmps.size,b))=g) (hlt : ∀ j b,o.guard=some (j,b)→∃ t,(ops[j]?).bind (·.dst)=some t∧t < a.tmps.size)
  (h : gX ρ g=some c) : Region.wanted o (yielded ops a.tmps)=c:=by
 unfold Region.wanted
 cases ho : o.guard with
 | none=>rw [ho] at hg;subst hg;simp [gX] at h;simp [h]
 | some jb =>
  obtain ⟨j,b⟩:=jb
  obtain ⟨t,ht,hlt⟩:=hlt j b ho
  rw [ho] at hg
  simp only [Option.map_some,ht,Option.getD_some] at hg
  subst hg
  simp only [gX] at h
  have hv:=hE t
  have hv' : a.tmps[t]?=some (a.tmps.getD t undef):=by simp [hlt]
  simp only [yielded,ht,Option.bind_some,hv']
  split at h
  ·rename_i c' hc
   rw [hc] at hv
   simp only [VR] at hv
   rw [hv]
   simp at h
   simp [h]
  ·rename_i hc
   rw [hc] at hv
   simp only [VR,bI] at hv
   obtain ⟨arr,hv,_⟩:=hv
   rw [hv]
   simp at h
   simp [h]
  ·cases h
theorem mY {ro : Option Nat} {B : Nat→Prop} {N : Nat} {w : World} {σ : Store} {μ : List Loc} {ρ : Env} {a : Act} {o : Oper} {K KP : VV→Store→Prop} {next : Act→World→Prop} {Q : Exit→Act→World→Prop}
  (hS : ST G B N w σ μ ρ a) (h : rY P G o.op o.type ρ σ K KP)
  (hK : ∀ x v w' σ' μ',K x σ'→Frame w σ μ w' σ' μ'→SR B w' σ' μ'→VR w' (OO B σ' μ') μ' x v→next (a.put o.dst v) w')
  (hP : ∀ x v w' σ' μ',KP x σ'→Frame w σ μ w' σ' μ'→SR B w' σ' μ'→VR w' (OO B σ' μ') μ' x v→Q (.panic [{ v,recovered:=false }]) a w') : o.wpIn (Fr ro) 0 P a w next Q:=by
 refine ⟨fun f _=>trivial, ?_⟩
 have E:=fun x=>yj hS.gl hS.env x
 have plain : UL P G o.op o.type ρ σ K→(∀ c,o.op≠.defer c)→o.uponIn (Fr ro) 0 P a next Q ((o.semAt (Fr ro).round a.eval).run P w):=by
  rintro ⟨out,he,hp,hk⟩ hd
  rw [Oper.semAt_eq _ _ _ hd]
  obtain ⟨w',μ',h1,h2,h3⟩:=Hg (o:=o) hS.sr hS.gl hS.env he hp
  rcases h3 with ⟨v,h3,h4⟩ | ⟨h3,h4⟩
  ·rw [h3];exact hK _ v w' _ μ' hk h1 h2 h4
  ·rw [h3];rw [h4] at hk;exact hK _ undef w' _ μ' hk h1 h2 (by simp [VR])
 unfold rY at h
 split at h
 ·rename_i f args ts ho
  rw [Oper.semAt_eq _ _ _ (by rw [ho];simp)]
  split at h
  ·rename_i g first caps hf
   obtain ⟨hb,hc⟩:=h
   have hv:=E f
   rw [hf] at hv
   simp only [VR] at hv
   obtain ⟨av,cv,hv,_,h1,h2⟩:=hv
   have hrun : (execOp a.eval o).run P w=.ok (.enter g (av++args.map a.eval++cv)) w:=by
    unfold ay at hb
    split at hb
    ·rename_i fn hfn
     simp only [Bool.and_eq_true,Bool.not_eq_true',Option.isSome_iff_exists] at hb
     obtain ⟨hn,body,hbody⟩:=hb
     have hn' : ¬ (fn.name = "runtime.NumGoroutine"):=by simpa using hn
     simp [execOp,ho,resolve,hv,Deferred.ofValue,invoke,callFunc,hfn,hn',hbody,Option.isNone]
    ·cases hb
   rw [hrun]
   refine ⟨by simp [Fence.wide], ?_⟩
   have hargs : bI w (OO B σ μ) μ (first++args.toList.map (ev G ρ)++caps) (av++args.map a.eval++cv).toList:=by
    simp only [Array.toList_append,Array.toList_map]
    exact (h1.append (wO hS.gl hS.env _)).append h2
   refine CallsIn.mono (zL.2 (hc B w μ _ hS.sr hS.gl hargs)) ?_
   rintro e w' ⟨r,σ',μ',k1,k2,k3,k4⟩
   cases e<;>cases r<;>simp only [nG] at k4
   ·exact hK _ _ _ _ _ k1 k2 k3 k4
   ·obtain ⟨v,rfl,k4⟩:=k4;exact hP _ _ _ _ _ k1 k2 k3 k4
  ·rename_i id hf
   have hv:=E f
   rw [hf] at hv
   have hargs : bI w (OO B σ μ) μ (args.toList.map (ev G ρ)) (args.map a.eval).toList:=by
    simp only [Array.toList_map]
    exact wO hS.gl hS.env _
   obtain ⟨L,hL,fn,tmps,assign,body,hy,hr⟩:=h B w μ _ hS.sr hS.gl hargs
   simp only [VR] at hv
   obtain ⟨L',hL',hv⟩:=hv
   rw [hL] at hL'
   cases hL'
   have hrun : (execOp a.eval o).run P w=.ok (.round L.block fn tmps assign body) w:=by
    simp [execOp,ho,resolve,hv,Deferred.ofValue,invoke,hy]
   rw [hrun]
   refine ⟨by simp [Fence.wide], ?_⟩
   refine RoundIn.mono hr ?_
   rintro e w' ⟨r,σ',μ',k1,k2,k3,k4⟩
   cases e<;>cases r<;>simp only [nG] at k4
   ·exact hK _ _ _ _ _ k1 k2 k3 k4
   ·obtain ⟨v,rfl,k4⟩:=k4;exact hP _ _ _ _ _ k1 k2 k3 k4
  ·exact h.elim
 ·rename_i x ho
  rw [Oper.semAt_eq _ _ _ (by rw [ho];simp)]
  split at h
  ·rename_i t v hx
   have hv:=E x
   rw [hx] at hv
   have hv':=hv
   simp only [VR] at hv
   obtain ⟨y,hy,_⟩:=hv
   have hrun : (execOp a.eval o).run P w=.halt (.panic (a.eval x)) w:=by
    simp [execOp,ho,hy,Instr.panic,goPanic,Sem.run]
   rw [hrun]
   exact hP _ _ _ _ _ h (.refl _ _ _) hS.sr hv'
  ·exact h.elim
 ·rename_i h1 h2
  refine plain h (fun c hc=>?_)
  obtain ⟨out,he,_⟩:=h
  rw [hc] at he
  simp [dZ] at he
end Go.V
namespace Go.V
variable {P : Program} {G : Nat→Option (List VV)}
def Same (G : Nat→Option (List VV)) (ρ ρ' : Env) (op : Op) : Prop:=∀ x ∈ op.operands,ev G ρ x=ev G ρ' x
theorem oh {ρ ρ' : Env} {l : Option Operand} (h : ∀ x ∈ l,ev G ρ x=ev G ρ' x) : jy G ρ l=jy G ρ' l:=by
 cases l with
 | none=>rfl
 | some x=>simp only [jy,h x (by simp)]
set_option maxHeartbeats 1000000 in
theorem yR {ρ ρ' : Env} {σ : Store} {op : Op} {ty : TypeId} (h : Same G ρ ρ' op) : dZ P G ρ σ ⟨none,op,ty, "",#[],none⟩=dZ P G ρ' σ ⟨none,op,ty, "",#[],none⟩:=by
 have pairs : ∀ ps : Array (Nat × Operand),(∀ x ∈ ps.map (·.2),ev G ρ x=ev G ρ' x)→(ps.toList.map fun p=>(p.1,ev G ρ p.2))=(ps.toList.map fun p=>(p.1,ev G ρ' p.2)):=fun ps hp =>
  List.map_congr_left fun p hm=>by rw [hp p.2 (Array.mem_map.2 ⟨p,by simpa using hm,rfl⟩)]
 have lists : ∀ ps : Array Operand,(∀ x ∈ ps,ev G ρ x=ev G ρ' x)→ps.toList.map (ev G ρ)=ps.toList.map (ev G ρ'):=fun ps hp =>
  List.map_congr_left fun x hm=>hp x (by simpa using hm)
 cases op<;>simp only [Same,Op.operands] at h<;>simp only [dZ]
 case build t ps=>rw [pairs ps fun x hx=>h x (by simpa using hx)]
 case buildSlice t n ps=>rw [pairs ps fun x hx=>h x (by simpa using hx)]
 case makeFunc fn first captured =>
  rw [lists first fun x hx=>h x (by simp [hx]),lists captured fun x hx=>h x (by simp [hx])]
 case slice t x lo hi mx =>
  rw [h x (by simp),oh fun y hy=>h y (by simp at hy;simp [hy]),oh fun y hy=>h y (by simp at hy;simp [hy]),oh fun y hy=>h y (by simp at hy;simp [hy])]
 case call c =>
  rw [lists c.args fun x hx=>h x (by simp [Call.operands,hx])]
 case makeMap t r=>cases r<;>rfl
 case binOp op t x y u=>rw [h x (by simp),h y (by simp)]
 all_goals first
  | (rfl;done)
  | (rename_i x y z;rw [h x (by simp),h y (by simp),h z (by simp)];done)
  | (rename_i x y;rw [h x (by simp),h y (by simp)];done)
  | (rename_i x y _;rw [h x (by simp),h y (by simp)];done)
  | (rename_i x;rw [h x (by simp)];done)
  | (rename_i x _;rw [h x (by simp)];done)
  | (rename_i x _ _;rw [h x (by simp)];done)
  | (rename_i x _ _ _;rw [h x (by simp)];done)
theorem La {ρ ρ' : Env} {σ : Store} {op : Op} {ty : TypeId} {K KP : VV→Store→Prop} (h : Same G ρ ρ' op) : rY P G op ty ρ σ K KP=rY P G op ty ρ' σ K KP:=by
 unfold rY UL
 split
 ·rename_i f args ts
  rw [h f (by simp [Op.operands,Call.operands]),List.map_congr_left (g:=ev G ρ') fun x hx=>h x (by simp [Op.operands,Call.operands];simp at hx;simp [hx])]
 ·rename_i x
  rw [h x (by simp [Op.operands])]
 ·rw [yR h]
def Obj.fr : Obj→Obj
 | .own cells=>.kH cells
 | o=>o
def Jw (G : Nat→Option (List VV)) : Prop:=∀ g cells,G g=some cells→VV.ak cells=true
def PV (P : Program) (G : Nat→Option (List VV)) (f : FuncId) (ys : List VV) (x : VV) : Prop :=
 Jw G∧VV.ak ys=true∧x.isPure=true∧CV P G f ys [] fun r σ'=>∃ y n,r=.ret y∧fz n (σ'.map Obj.fr) y=some x
theorem MJ (B : Nat→Prop) : OO B [] []=B:=by
 funext b
 apply propext
 constructor
 ·rintro (h | ⟨id,L,o,h,_⟩)
  ·exact h
  ·simp at h
 ·exact .inl
theorem SR.all {B : Nat→Prop} {w : World} {μ : List Loc} : ∀ (σ₂ σ₁ : Store),SR B w (σ₁++σ₂) μ→SR B w (σ₁++σ₂.map Obj.fr) μ
 | [],σ₁,h=>by simpa using h
 | o::σ₂,σ₁,h=>by
  have h1 : SR B w (σ₁++o.fr::σ₂) μ:=by
   cases o with
   | own cells =>
    have:=(h.freeze (id:=σ₁.length) (cells:=cells) (by simp)).1
    simpa [Obj.fr] using this
   | _=>exact h
  have:=SR.all σ₂ (σ₁++[o.fr]) (by simpa using h1)
  simpa using this
theorem nN {f : FuncId} {ys : List VV} {x : VV} {σ : Store} {R : gY→Store→Prop} (h : PV P G f ys x) (hR : R (.ret x) σ) : CV P G f ys σ R:=by
 intro B w μ vs hS hG hv
 obtain ⟨hGp,hp,hxp,hc⟩:=h
 have hS' : SR (OO B σ μ) w [] []:=⟨rfl,fun id o L h=>by simp at h,fun i j oi oj Li Lj h=>by simp at h,fun b ⟨id,L,o,h,_⟩=>by simp at h,
  fun b hb=>hb.elim (hS.low b) (fun ho=>eP.lt hS ho)⟩
 have hO : ∀ b,b < w.heap.size→OO (OO B σ μ) [] [] b→OO B σ μ b:=fun b _ hb=>by rw [MJ] at hb;exact hb
 have hG' : Jm G w (OO (OO B σ μ) [] []) []:=fun g cells hg=>VR.pure hO _ _ (by simp only [VV.isPure];exact hGp g cells hg) (hG g cells hg)
 refine (hc _ w [] vs hS' hG' (bI.pure hO ys _ hp hv)).mono ?_
 rintro e w' ⟨r,σ₁,μ₁,⟨y,n,rfl,hf⟩,hF,hS₁,hE⟩
 have hno : ∀ b,¬ eP [] [] b:=fun b ⟨id,L,o,h,_⟩=>by simp at h
 have hh : ∀ b,b < w.heap.size→w'.heap[b]?=w.heap[b]?:=fun b hb=>hF.heap b hb (hno b)
 refine ⟨.ret x,σ,μ,hR,.still hF.size hh hF.os hF.tape hF.output,hS.still hh hF.size, ?_⟩
 cases e with
 | returned v =>
  simp only [nG] at hE ⊢
  have hS₂ : SR (OO B σ μ) w' (σ₁.map Obj.fr) μ₁:=by simpa using SR.all σ₁ [] (by simpa using hS₁)
  have hfr : ∀ b,OO (OO B σ μ) (σ₁.map Obj.fr) μ₁ b→OO (OO B σ μ) σ₁ μ₁ b:=by
   rintro b (h | ⟨id,L,o,h1,h2,h3,h4⟩)
   ·exact .inl h
   ·refine .inr ⟨id,L,o,h1,h2, ?_,h4⟩
    rw [List.getElem?_map] at h3
    cases ho : σ₁[id]? with
    | none=>rw [ho] at h3;simp at h3
    | some u =>
     rw [ho] at h3
     simp only [Option.map_some,Option.some.injEq] at h3
     subst h3
     cases u<;>simp [Obj.fr,Obj.owns] at h4 ⊢
  have hE' : Ext w' (OO (OO B σ μ) σ₁ μ₁) μ₁ w' (OO (OO B σ μ) (σ₁.map Obj.fr) μ₁) μ₁ :=
   ⟨fun b o v _ hv=>hv,fun b hb=>.inl (hfr b hb),List.prefix_refl _⟩
  have h1:=ET (fun id cells L h h'=>hS₂.obj id _ L h h') n y x v hf (VR.ext hE' y v hE)
  exact VR.pure (fun b _ hb=>.inl hb) x v hxp h1
 | panicked chain=>simp [nG] at hE
 | outgrown=>simp [nG] at hE
theorem Na {f : FuncId} {xs ys : List VV} {x : VV} {σ : Store} {R : gY→Store→Prop} (n : Nat) (hx : xs.mapM (fz n σ)=some ys) (h : PV P G f ys x) (hR : R (.ret x) σ) : CV P G f xs σ R:=by
 intro B w μ vs hS hG hv
 refine nN h hR B w μ vs hS hG ?_
 rw [jf] at hv ⊢
 refine ⟨by rw [(lu hx).1];exact hv.1,fun i y u hy hu=>?_⟩
 obtain ⟨x,hx',hfx⟩:=(lu hx).2 i y hy
 exact ET (fun id cells L h h'=>hS.obj id _ L h h') n x y u hfx (hv.2 i x u hx' hu)
theorem wK {f : FuncId} {xs : List VV} {σ : Store} {R : gY→Store→Prop} {id : Nat} {cells : List VV} (hid : σ[id]?=some (.own cells)) (h : CV P G f xs (σ.set id (.kH cells)) R) : CV P G f xs σ R:=by
 intro B w μ vs hS hG hv
 obtain ⟨h1,h2⟩:=hS.freeze hid
 have hE : Ext w (OO B σ μ) μ w (OO B (σ.set id (.kH cells)) μ) μ:=h2.ext
 refine (h B w μ vs h1 (hG.ext hE) (bI.ext hE _ _ hv)).mono ?_
 rintro e w' ⟨r,σ',μ',k1,k2,k3,k4⟩
 exact ⟨r,σ',μ',k1,h2.trans k2,k3,k4⟩
end Go.V
namespace Go.V
structure DO where
 ix : Nat
 dst : Option Nat
 op : Op
 ty : TypeId
 g : Option (Nat × Bool)
 eff : Bool
 chk : List Nat
 save : Bool
section
variable (P : Program) (G : Nat→Option (List VV))
def fE (op : Op) (ty : TypeId) (ρ : Env) (σ : Store) (K : VV→Prop) : Prop :=
 match op with
 | .call ⟨.value f,args,_⟩=>match ev G ρ f with
  | .fn (.func g) first caps=>ay P g=true∧∃ x,PV P G g (first++args.toList.map (ev G ρ)++caps) x∧K x
  | _=>False
 | .panic _=>False
 | _=>∃ out,dZ P G ρ σ ⟨none,op,ty, "",#[],none⟩=some out∧out.pre∧out.st=σ∧K out.val
def aV : List DO→List (Nat × Op × TypeId × Env × VV)→(Out→Env→Store→Prop)→Env→Store→Prop
 | [],_,Q,ρ,σ=>Q .normal ρ σ
 | o::r,pend,Q,ρ,σ=>match gX ρ o.g with
  | some false=>aV r pend Q (dB ρ o.dst (.tup [])) σ
  | none=>False
  | some true =>
   if o.eff then rY P G o.op o.ty ρ σ (fun x σ'=>(∀ p ∈ pend,p.1 ∈ o.chk→fE P G p.2.1 p.2.2.1 p.2.2.2.1 σ' (fun v=>v=p.2.2.2.2))∧aV r pend Q (dB ρ o.dst x) σ') (fun x σ'=>∀ ρ',Q (.panic x) ρ' σ')
   else fE P G o.op o.ty ρ σ fun v=>aV r (if o.save then (o.ix,o.op,o.ty,ρ,v)::pend else pend) Q (dB ρ o.dst v) σ
end
variable {P : Program} {G : Nat→Option (List VV)}
theorem ND {op : Op} {ty : TypeId} {ρ : Env} {σ : Store} {K : VV→Prop} (h : fE P G op ty ρ σ K) : ∃ x,K x∧fE P G op ty ρ σ (fun v=>v=x):=by
 unfold fE at h ⊢
 split at h
 ·split at h
  ·obtain ⟨h1,x,h2,h3⟩:=h;exact ⟨x,h3,h1,x,h2,rfl⟩
  ·exact h.elim
 ·exact h.elim
 ·obtain ⟨out,h1,h2,h3,h4⟩:=h;exact ⟨_,h4,out,h1,h2,h3,rfl⟩
theorem Ez {ρ ρ' : Env} {σ : Store} {op : Op} {ty : TypeId} {K : VV→Prop} (h : Same G ρ ρ' op) : fE P G op ty ρ σ K=fE P G op ty ρ' σ K:=by
 unfold fE
 split
 ·rename_i f args ts
  rw [h f (by simp [Op.operands,Call.operands]),List.map_congr_left (g:=ev G ρ') fun x hx=>h x (by simp [Op.operands,Call.operands];simp at hx;simp [hx])]
 ·rfl
 ·rw [yR h]
theorem KZ {op : Op} {ty : TypeId} {ρ : Env} {σ : Store} {x : VV} (h : fE P G op ty ρ σ (fun v=>v=x)) : rY P G op ty ρ σ (fun v σ'=>v=x∧σ'=σ) (fun _ _=>False):=by
 unfold fE at h
 unfold rY
 split at h
 ·split at h
  ·rename_i g first caps hf
   obtain ⟨h1,y,h2,rfl⟩:=h
   simp only [hf]
   exact ⟨h1,nN h2 ⟨rfl,rfl⟩⟩
  ·exact h.elim
 ·exact h.elim
 ·rename_i n1 n2
  obtain ⟨out,h1,h2,h3,h4⟩:=h
  first
   | exact ⟨out,h1,h2,h4,h3⟩
   | (split<;>first | exact (n1 _ _ _ rfl).elim | exact (n2 _ rfl).elim | exact ⟨out,h1,h2,h4,h3⟩)
def aS.at (o : aS) (σ : Store) : aS:=⟨o.pre,o.val,σ⟩
def yx : Op→Bool
 | .move _ | .assign _ | .pick .. | .build .. | .buildSlice .. | .nilCheck _ | .binOp .. | .unOp .. | .makeInterface .. | .makeFunc .. | .fieldAddr .. | .field .. | .indexAddr .. | .index .. | .typeAssert .. | .extract ..=>true
 | .call ⟨.value _,_,_⟩=>true
 | _=>false
theorem yY (v : VV) (σ σ' : Store) : okV v σ'=(okV v σ).map (·.at σ'):=rfl
theorem DR (t : TypeId) (cells : List VV) (off : Nat) (σ σ' : Store) : nC P t cells off σ'=(nC P t cells off σ).map (·.at σ'):=by
 unfold nC;split<;>simp [aS.at]
theorem Qg (op : BinOp) (t : TypeId) (x y : Operand) (a b : VV) (σ σ' : Store) : lV P op t x y a b σ'=(lV P op t x y a b σ).map (·.at σ'):=by
 unfold lV
 split
 ·rfl
 split
 ·rfl
 split
 ·rfl
 split<;>simp [Option.map_map,Function.comp_def,aS.at]
theorem NG (op : BinOp) (t : TypeId) (x y : Operand) (a b : VV) (σ σ' : Store) : mV P op t x y a b σ'=(mV P op t x y a b σ).map (·.at σ'):=by
 unfold mV
 split
 ·split
  ·simp [Option.map_map,Function.comp_def,aS.at]
  ·simp [Option.map_map,Function.comp_def,aS.at]
  ·split<;>simp [Option.map_map,Function.comp_def,aS.at]
 ·simp [Option.map_map,Function.comp_def,aS.at]
 ·exact Qg ..
theorem Rx (op : UnOp) (a : VV) (σ σ' : Store) : zT op a σ'=(zT op a σ).map (·.at σ'):=by
 unfold zT;split<;>first | rfl | exact yY ..
theorem G9 (s : TypeId) (x : VV) (f : Nat) (σ σ' : Store) : jq P s x f σ'=(jq P s x f σ).map (·.at σ'):=by
 unfold jq;split<;>first | rfl | exact yY ..
theorem YC (t : TypeId) (x ix : VV) (σ σ' : Store) : dI P t x ix σ'=(dI P t x ix σ).map (·.at σ'):=by
 unfold dI
 split
 ·split
  ·simp [Option.map_map,Function.comp_def,aS.at]
  ·split<;>rfl
  ·split
   ·simp [Option.map_map,Function.comp_def,aS.at]
   ·rfl
  ·split
   ·simp [Option.map_map,Function.comp_def,aS.at]
   ·rfl
  ·rfl
 ·rfl
theorem ZA (t : TypeId) (x ix : VV) (σ σ' : Store) : jc P t x ix σ'=(jc P t x ix σ).map (·.at σ'):=by
 unfold jc
 split
 ·split<;>rfl
 ·split
  ·split
   ·rw [DR _ _ _ σ σ']
    cases nC P _ _ _ σ<;>rfl
   ·rfl
  ·rfl
 ·rfl
theorem D5 (x : VV) (t : TypeId) (c : Bool) (σ σ' : Store) : iP P x t c σ'=(iP P x t c σ).map (·.at σ'):=by
 unfold iP
 split
 ·split
  ·rfl
  ·split<;>rfl
 ·split<;>rfl
 ·rfl
theorem Sz {op : Op} (h : yx op=true) (ty : TypeId) (ρ : Env) (σ σ' : Store) : dZ P G ρ σ' ⟨none,op,ty, "",#[],none⟩=(dZ P G ρ σ ⟨none,op,ty, "",#[],none⟩).map (·.at σ'):=by
 cases op<;>simp [yx] at h<;>simp only [dZ]
 case call c =>
  obtain ⟨f,args,ts⟩:=c
  cases f<;>simp at h ⊢
 case binOp=>exact NG ..
 case unOp=>exact Rx ..
 case fieldAddr=>exact G9 ..
 case indexAddr=>exact YC ..
 case index=>exact ZA ..
 case typeAssert=>exact D5 ..
 case field=>split<;>first | exact DR .. | rfl
 case build=>split<;>simp [Option.map_map,Function.comp_def,aS.at]
 case buildSlice =>
  split
  ·split
   ·split
    ·rfl
    ·simp [Option.map_map,Function.comp_def,aS.at]
   ·rfl
  ·rfl
 all_goals first
  | exact yY ..
  | (split<;>first | rfl | exact yY .. | (split<;>first | rfl | exact yY ..))
theorem Iw {op : Op} (h : yx op=true) {ty : TypeId} {ρ : Env} {σ σ' : Store} {K : VV→Prop} (hv : fE P G op ty ρ σ K) : fE P G op ty ρ σ' K:=by
 unfold fE at hv ⊢
 split
 ·exact hv
 ·exact hv
 ·rename_i n1 n2
  split at hv
  ·exact (n1 _ _ _ rfl).elim
  ·exact hv.elim
  ·obtain ⟨out,h1,h2,h3,h4⟩:=hv
   refine ⟨out.at σ',by rw [Sz h ty ρ σ σ',h1];rfl,h2,rfl,h4⟩
def nU (acc : List Nat) : List Edge→Nat
 | []=>0
 | e::es=>if Region.binds .any e then nU acc es ||| 2 ^ e.on ||| acc.getD e.on 0 else nU acc es
def oq : List Oper→List Nat→List Nat
 | [],acc=>acc
 | o::r,acc=>oq r (acc++[nU acc o.after.toList])
theorem tY {acc : List Nat} {j : Nat} : ∀ {es : List Edge},(nU acc es).testBit j=true→∃ e ∈ es,Region.binds .any e=true∧(e.on=j∨(acc.getD e.on 0).testBit j=true)
 | [],h=>by simp [nU] at h
 | e::es,h=>by
  simp only [nU] at h
  split at h
  ·rename_i hb
   simp only [Nat.testBit_or,Bool.or_eq_true] at h
   rcases h with (h | h) | h
   ·obtain ⟨e',h1,h2⟩:=tY h;exact ⟨e',by simp [h1],h2⟩
   ·refine ⟨e,by simp,hb,.inl ?_⟩
    rw [Nat.testBit_two_pow] at h;simpa using h
   ·exact ⟨e,by simp,hb,.inr h⟩
  ·obtain ⟨e',h1,h2⟩:=tY h;exact ⟨e',by simp [h1],h2⟩
def Closed (ops : List Oper) (S : Nat→Prop) : Prop:=∀ i o,ops[i]?=some o→S i→∀ e ∈ o.after.toList,Region.binds .any e=true→S e.on
theorem wQ {S : Nat→Prop} : ∀ (ops pre : List Oper) (acc : List Nat),Closed (pre++ops) S→acc.length=pre.length→(∀ i j,S i→(acc.getD i 0).testBit j=true→S j) →
  ∀ i j,S i→((oq ops acc).getD i 0).testBit j=true→S j
 | [],pre,acc,_,_,h=>by simpa [oq] using h
 | o::ops,pre,acc,hc,hl,h=>by
  simp only [oq]
  refine wQ ops (pre++[o]) _ (by simpa using hc) (by simp [hl]) fun i j hi hb=>?_
  rw [List.getD_eq_getElem?_getD,List.getElem?_append] at hb
  split at hb
  ·exact h i j hi (by rw [List.getD_eq_getElem?_getD];exact hb)
  ·cases hd : i-acc.length with
   | zero =>
    rw [hd] at hb
    simp only [List.getElem?_cons_zero,Option.getD_some] at hb
    obtain ⟨e,he,hbi,hor⟩:=tY hb
    have hio : (pre++o::ops)[i]?=some o:=by
     have : i=pre.length:=by omega
     subst this;simp
    have hs:=hc i o hio hi e he hbi
    rcases hor with rfl | hor
    ·exact hs
    ·exact h _ _ hs hor
   | succ k=>rw [hd] at hb;simp at hb
def pw {α : Type} (R : α→α→Bool) : List α→Bool
 | []=>true
 | x::l=>l.all (R x) && pw R l
theorem Em {α : Type} {R : α→α→Bool} : ∀ {l₁ : List α} {x : α} {l₂ : List α} {y : α} {l₃ : List α},pw R (l₁++x::l₂++y::l₃)=true→R x y=true
 | [],x,l₂,y,l₃,h=>by
  simp only [pw,List.nil_append,List.cons_append,Bool.and_eq_true,List.all_eq_true] at h
  exact h.1 y (by simp)
 | z::l₁,x,l₂,y,l₃,h=>by
  simp only [pw,List.cons_append,Bool.and_eq_true] at h
  exact Em (l₁:=l₁) (l₂:=l₂) (l₃:=l₃) h.2
def Ox (op : Op) : List Nat:=op.operands.toList.filterMap fun | .tmp t=>some t | _=>none
def DO.looks (d : DO) : List Nat:=Ox d.op++(match d.g with | some (t,_)=>[t] | none=>[])
def ahead (bm : List Nat) (p q : DO) : Bool :=
 let r:=(bm.getD q.ix 0).testBit p.ix
 p.ix != q.ix && !(bm.getD p.ix 0).testBit q.ix &&
 (!p.eff || r) &&
 (p.eff || !q.eff || r || yx p.op || (p.save && q.chk.contains p.ix)) &&
 (match p.dst with | some t=>q.dst != some t && (!q.looks.contains t || r) | none=>true) &&
 (match q.dst with | some t=>!p.looks.contains t || r | none=>true)
structure PL where
 ix : Nat
 eff : Bool
 chk : List Nat
 save : Bool
def nI (ops : Array Oper) : Option (Nat × Bool)→Option (Option (Nat × Bool))
 | none=>some none
 | some (j,b)=>((ops[j]?).bind (·.dst)).map fun t=>some (t,b)
def KR (ops : Array Oper) (p : PL) : Option DO:=do
 let o ← ops[p.ix]?
 let g ← nI ops o.guard
 some ⟨p.ix,o.dst,o.op,o.type,g,p.eff,p.chk,p.save⟩
def zC (ops : Array Oper) (N : Nat) (ds : List DO) : Bool :=
 let bm:=oq ops.toList []
 pw (ahead bm) ds && (List.range ops.size).all (fun i=>ds.any fun d=>d.ix == i) &&
 ds.all (fun d=>d.ix < ops.size && (match d.dst with | some t=>t < N | none=>true) && (match d.g with | some (t,_)=>t < N | none=>true)) &&
 (List.range ops.size).all (fun i=>match ops[i]? with | some o=>o.after.toList.all (fun e=>!Region.binds .any e || (e.on < ops.size && e.on != i)) | none=>true) && ds.length≤ops.size
structure Fits (ops : Array Oper) (d : DO) : Prop where
 ex : ∃ o,ops[d.ix]?=some o∧d.dst=o.dst∧d.op=o.op∧d.ty=o.type∧nI ops o.guard=some d.g
theorem KI {ops : Array Oper} {p : PL} {d : DO} (h : KR ops p=some d) : Fits ops d:=by
 simp only [KR,Option.bind_eq_bind,Option.bind_eq_some_iff] at h
 obtain ⟨o,ho,g,hg,h⟩:=h
 simp only [Option.some.injEq] at h
 subst h
 exact ⟨o,ho,rfl,rfl,rfl,hg⟩
def bg (ρ : Env) : List (DO × VV)→Env
 | []=>ρ
 | r::T=>bg (dB ρ r.1.dst r.2) T
theorem jU (ρ : Env) : ∀ (T : List (DO × VV)) (r : DO × VV),bg ρ (T++[r])=dB (bg ρ T) r.1.dst r.2
 | [],r=>rfl
 | x::T,r=>by simp only [List.cons_append,bg];exact jU _ T r
theorem lg {ρ : Env} {d : Option Nat} {v : VV} {t : Nat} (h : d≠some t) : (dB ρ d v).get t=ρ.get t:=by
 cases d with
 | none=>rfl
 | some d=>simp only [dB,Env.get];rw [if_neg (fun e=>h (by rw [e]))]
theorem ou {ρ : Env} {v : VV} {t : Nat} : (dB ρ (some t) v).get t=v:=by simp [dB,Env.get]
theorem jS {t : Nat} : ∀ {ρ : Env} {T : List (DO × VV)},(∀ r ∈ T,r.1.dst≠some t)→(bg ρ T).get t=ρ.get t
 | ρ,[],_=>rfl
 | ρ,r::T,h=>by
  simp only [bg]
  rw [jS (fun r hr=>h r (by simp [hr])),lg (h r (by simp))]
theorem rX {t : Nat} {ρ : Env} {T₁ : List (DO × VV)} {r : DO × VV} {T₂ : List (DO × VV)} (hr : r.1.dst=some t) (h : ∀ r ∈ T₂,r.1.dst≠some t) : (bg ρ (T₁++r::T₂)).get t=r.2:=by
 rw [show T₁++r::T₂=(T₁++[r])++T₂ by simp]
 have : ∀ (A : List (DO × VV)) (ρ : Env),bg ρ (A++T₂)=bg (bg ρ A) T₂:=by
  intro A
  induction A with
  | nil=>intro ρ;rfl
  | cons x A ih=>intro ρ;simp only [List.cons_append,bg];exact ih _
 rw [this,jS h,jU,hr,ou]
end Go.V
