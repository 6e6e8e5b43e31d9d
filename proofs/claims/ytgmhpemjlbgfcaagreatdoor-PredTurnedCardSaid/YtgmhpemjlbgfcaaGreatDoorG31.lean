/- Texts F58. -/
import Derived.Test.YtgmhpemjlbgfcaaGreatDoorG25
import Derived.Test.YtgmhpemjlbgfcaaGreatDoorG30
set_option linter.unusedVariables false
set_option linter.unusedSimpArgs false
namespace Go.V
open Go.Proofs
set_option maxRecDepth 100000
theorem maxD_le {l : List Vl} {m : Nat} (h : ∀ x ∈ l,x.below+1≤m) : maxD l≤m:=by
 have key : ∀ (l : List Vl) (a : Nat),a≤m→(∀ x ∈ l,x.below+1≤m)→l.foldl (fun m x=>max m (x.below+1)) a≤m:=by
  intro l
  induction l with
  | nil=>intro a h _;exact h
  | cons x l ih=>intro a ha hl;exact ih _ (by have:=hl x (by simp);show max a (x.below+1)≤m;omega) (fun y hy=>hl y (by simp [hy]))
 exact key l 0 (Nat.zero_le _) h
theorem jF (l : List Vl) : l.length≤dw l:=by
 have key : ∀ (l : List Vl) (a : Nat),a+l.length≤l.foldl (fun m x=>m+(x.more+1)) a:=by
  intro l
  induction l with
  | nil=>intro a;simp
  | cons x l ih=>intro a;have:=ih (a+(x.more+1));rw [List.length_cons,List.foldl_cons];omega
 have:=key l 0
 unfold dw;omega
def New (σ : Store) (v v' : VV) : Prop:=∀ id o n z,v'=.bZ id o n z→σ.length≤id∨∃ o' n' z',v=.bZ id o' n' z'
theorem New.refl (σ : Store) (v : VV) : New σ v v:=fun _ _ _ _ h=>.inr ⟨_,_,_,h⟩
theorem New.trans {σ σ' : Store} {v v' v'' : VV} (h : New σ v v') (hl : σ.length≤σ'.length) (h' : New σ' v' v'') : New σ v v'':=by
 intro id o n z e
 rcases h' id o n z e with h1 | ⟨o',n',z',e'⟩
 ·exact .inl (Nat.le_trans hl h1)
 ·exact h id o' n' z' e'
theorem Kept.trans {σ σ' σ'' : Store} {v v' : VV} (h : Kept σ v σ') (hn : New σ v v') (h' : Kept σ' v' σ'') : Kept σ v σ'':=by
 refine ⟨Nat.le_trans h.1 h'.1,fun j hj hne=>?_⟩
 rw [h'.2 j (Nat.lt_of_lt_of_le hj h.1) (fun o n z e=>?_),h.2 j hj hne]
 rcases hn j o n z e with h1 | ⟨o',n',z',e'⟩
 ·omega
 ·exact hne _ _ _ e'
theorem uM {P : Program} {t tx : TypeId} {v x : VV} {σ : Store} {out : aS} (h : bF P t tx v x σ=some out) : New σ v out.val:=by
 unfold bF at h
 repeat' split at h
 all_goals first
  | cases h;done
  | (simp only [okV,Option.some.injEq] at h;subst h;intro id o n z e;first | cases e;done | (cases e;exact .inl (Nat.le_refl _)))
theorem lU.Jj {σ : Store} {v x : VV} {b c : Bs} {tx : TypeId} (hB : lU σ v b) (hx : aJ Tryz.prog σ 1 tx x=some (c.length,c.map aU)) (hl : b.length+c.length≤1000000000)
  {d : Option Nat} {r : List VO} {Q : Out→Env→Store→Prop} {ρ : Env} (h : ∀ v' σ',lU σ' v' (b++c)→Kept σ v σ'→New σ v v'→bM Tryz.prog G0 r Q (dB ρ d v') σ') : eF Tryz.prog G0 (bF Tryz.prog 173 tx v x σ) d r Q ρ:=by
 obtain ⟨out,h1,h2,h3,h4⟩:=hB.append hx hl
 have h5:=uM h1
 rw [h1]
 cases d with
 | none=>exact ⟨h2,h _ _ h3 h4 h5⟩
 | some d=>exact ⟨h2,h _ _ h3 h4 h5⟩
theorem lU.DZ {σ : Store} {v x : VV} {b c : Bs} {tx : TypeId} (hB : lU σ v b) (hx : aJ Tryz.prog σ 1 tx x=some (c.length,c.map aU)) (hl : b.length+c.length≤1000000000)
  {d : Option Nat} {chk : List Nat} {pd : sV} {r : List DO} {Q : Out→Env→Store→Prop} {ρ : Env} (h : ∀ v' σ',lU σ' v' (b++c)→Kept σ v σ'→New σ v v'→iM Tryz.prog G0 chk pd σ'∧aV Tryz.prog G0 r pd Q (dB ρ d v') σ') : oJ Tryz.prog G0 (bF Tryz.prog 173 tx v x σ) d chk r pd Q ρ:=by
 obtain ⟨out,h1,h2,h3,h4⟩:=hB.append hx hl
 have h5:=uM h1
 rw [h1]
 exact ⟨h2,h _ _ h3 h4 h5⟩
theorem lU.low {σ σ' : Store} {v : VV} {b : Bs} (h : lU σ v b) (hs : ∀ id o n z,v=.bZ id o n z→σ'[id]?=σ[id]?) : lU σ' v b:=by
 rcases h with h | h | ⟨id,h,hj⟩
 ·exact .inl h
 ·exact .inr (.inl h)
 ·exact .inr (.inr ⟨id,h,by rw [hs _ _ _ _ h];exact hj⟩)
theorem lU.dom {σ : Store} {v : VV} {b : Bs} (h : lU σ v b) {id o n z : Nat} (e : v=.bZ id o n z) : id < σ.length:=by
 rcases h with ⟨h,_⟩ | h | ⟨jd,h,hj⟩
 ·rw [h] at e;cases e
 ·rw [h] at e;cases e
 ·rw [h] at e;cases e;exact (List.getElem?_eq_some_iff.1 hj).1
theorem lU.snoc {σ : Store} {v : VV} {b : Bs} (h : lU σ v b) (τ : Store) : lU (σ++τ) v b:=h.low fun _ _ _ _ e=>List.getElem?_append_left (h.dom e)
theorem lU.cell {σ : Store} {v : VV} {b : Bs} (h : lU σ v b) : v.aC=true:=by
 rcases h with ⟨rfl,_⟩ | rfl | ⟨_,rfl,_⟩<;>rfl
theorem Kept.app {σ τ σ' : Store} {v : VV} (h : Kept (σ++τ) v σ') : Kept σ v σ':=by
 refine ⟨by have:=h.1;simp at this;omega,fun j hj hne=>?_⟩
 rw [h.2 j (by simp;omega) hne,List.getElem?_append_left hj]
theorem New.app {σ τ : Store} {v v' : VV} (h : New (σ++τ) v v') : New σ v v':=fun id o n z e=>(h id o n z e).imp (fun h=>by simp at h;omega) (fun h=>h)
theorem sN (x : Vl) : ∀ b : Bs,x.cells≠b.map aU:=by
 intro b e
 cases b with
 | nil=>cases e
 | cons c b=>simp [Vl.cells,aU] at e
theorem nV {v : VV} {σ : Store} {c : Bs} (h : lU σ v c) : ∀ b : Bs,[v]≠b.map aU:=by
 intro b e
 cases b with
 | nil=>cases e
 | cons d b =>
  simp only [List.map_cons,List.cons.injEq,aU] at e
  rcases h with ⟨h,_⟩ | h | ⟨_,h,_⟩<;>rw [h] at e<;>cases e.1
inductive oL : T→Vl→Prop
 | sc (k i : Int) (t : Bs) (h : qm k i t=0) (hb : t.length≤10000000) (hi : -9223372036854775808≤i∧i≤9223372036854775807) : oL (.sc k i t) (JH k i t)
 | vec (items : List (T × Vl)) (h : ∀ p ∈ items,oL p.1 p.2) (ho : ∀ p ∈ items,p.2.ok) (root : VV) (hR : RP root (items.map (·.2.cells))) : oL (.vec (items.map (·.1))) ⟨0,0,[],4,root,0,0,0,.nilp,maxD (items.map (·.2)),dw (items.map (·.2))⟩
 | map (items : List (Bs × (T × Vl))) (seed bits : Int) (hr : VV) (ps : List iE) (hi : iJ items) (hp : ps.Perm (items.map fun q=>(q.1,q.2.2))) (hM : lQ (lW seed bits) hr ps) (h : ∀ q ∈ items,oL q.2.1 q.2.2) (ho : ∀ q ∈ items,q.2.2.ok∧q.1.length≤10000000) :
   oL (.map (items.map fun q=>(q.1,q.2.1))) ⟨0,0,[],5,.nilp,seed,bits,items.length,hr,maxD (items.map (·.2.2)),dw (items.map (·.2.2))⟩
 | set (items : List (Bs × (T × Vl))) (seed bits : Int) (hr : VV) (ps : List iE) (hi : iJ items) (hp : ps.Perm (items.map fun q=>(q.1,q.2.2))) (hM : lQ (lW seed bits) hr ps) (h : ∀ q ∈ items,oL q.2.1 q.2.2) (ho : ∀ q ∈ items,q.2.2.ok∧q.1.length≤1000000000) (hk : ∀ q ∈ items,q.1=q.2.1.key) :
   oL (.set (items.map fun q=>q.2.1)) ⟨0,0,[],6,.nilp,seed,bits,items.length,hr,maxD (items.map (·.2.2)),dw (items.map (·.2.2))⟩
def Xb (k : Bs) (x : Vl) : Prop:=∀ (b : VV) (bytes : Bs) (σ : Store),lU σ b bytes→bytes.length+k.length≤1000000000 →
 CV Tryz.prog G0 174 [x.vv,b] σ fun r σ'=>∃ b',r=.ret b'∧lU σ' b' (bytes++k)∧Kept σ b σ'∧New σ b b'
theorem XH (k i : Int) (t : Bs) (h : qm k i t=0) (hb : t.length≤10000000) : Xb (lq k i t) (JH k i t):=by
 intro b bytes σ hB hl
 have hbc:=hB.cell
 have hbu:=iq hbc
 have hbl:=cellC hbc
 simp only [go_sem,seval] at hbc
 simp only [go_sem,seval] at hbu
 simp only [go_sem,seval] at hbl
 have hk : k < 4:=by
  unfold qm at h
  repeat' split at h
  all_goals omega
 have b1 : decide (k < 4)=true:=decide_eq_true hk
 refine cv e174 (by simp) ?_
 simp only [go_sem,seval,c174,JH,Vl.vv,Vl.cells,hbc,hbu,hbl,b1,SS]
 refine aj (Nz k i t hb) (by simp only [go_sem,seval,SS]) ?_<;>simp only [go_sem,seval,SS]
 refine (hB.snoc _).DZ (nX OZ) hl fun v' σ' hB' hK hN=>?_
 simp only [go_sem,seval]
 exact ⟨v',rfl,hB',hK.app,hN.app⟩
theorem O1 (kd : Int) (x y : Vl) (hx : x.ok) (hy : y.ok) (hk : x.k=kd) (t2 t3 : Nat) (sk ix : Int) (key k bytes : Bs) (bb : VV) (σ : Store) (h2 : σ[t2]?=some (.own x.cells)) (h3 : σ[t3]?=some (.own [bb])) (hne : t2≠t3) (hB : lU σ bb bytes) (hkl : kd=5→key.length≤10000000)
  (hl : bytes.length+((if kd=5 then lq 3 0 key else [])++k).length≤1000000000) (hw : Xb k y) :
  CV Tryz.prog G0 220 [.agg [.int .i64 sk,.int .i64 ix,.str key],y.vv,.mptr t2 0,.mptr t3 0] σ fun r σ'=>r=.ret (.tup [])∧∃ bb',σ'[t2]?=some (.own x.cells)∧σ'[t3]?=some (.own [bb'])∧lU σ' bb' (bytes++((if kd=5 then lq 3 0 key else [])++k))∧New σ bb bb'∧High (fun i=>i=t3∨∃ o n z,bb=.bZ i o n z) σ σ':=by
 have l2:=(List.getElem?_eq_some_iff.1 h2).1
 have l3:=(List.getElem?_eq_some_iff.1 h3).1
 have y1:=hy.rc
 have y2:=hy.hc
 have x1:=hx.rc
 have x2:=hx.hc
 simp only [go_sem,seval] at y1
 simp only [go_sem,seval] at y2
 have n2:=hB.not h2 (sN x)
 have n3:=hB.not h3 (nV hB)
 have d1 : y.cells.length=11:=rfl
 have d2 : y.cells.all VV.aC=true:=hy.cell
 have d3 : y.cells.take 11=y.cells:=rfl
 have dx : x.cells.getD 3 .undef=.int .i64 kd:=by rw [← hk];rfl
 have dl : x.cells.length=11:=rfl
 refine cv e220 (by simp) ?_
 have key2 : ∀ (τ : Store) (b2 : VV) (by2 : Bs) (ρ : Env),ρ.get 3=.mptr t3 0→ρ.get 5=.mptr (σ.length+1) 0→τ[t2]?=some (.own x.cells)→τ[t3]?=some (.own [b2])→τ[σ.length+1]?=some (.own y.cells)→lU τ b2 by2→by2.length+k.length≤1000000000→∀ R : gY→Store→Prop,(∀ bb' σ',σ'[t2]?=some (.own x.cells)→σ'[t3]?=some (.own [bb'])→lU σ' bb' (by2++k)→New τ b2 bb'→High (fun i=>i=t3∨∃ o n z,b2=.bZ i o n z) τ σ'→R (.ret (.tup [])) σ') →
   iO Tryz.prog G0 (.reg [⟨some 15,(Op.load 45 (Operand.tmp 5)),45,none⟩,⟨some 16,(Op.load 173 (Operand.tmp 3)),173,none⟩,⟨some 17,(Op.call { callee:=(Callee.value (Operand.func 174)),args:=#[(Operand.tmp 15),(Operand.tmp 16)],argTypes:=#[45,173] }),173,none⟩,⟨none,(Op.store 173 (Operand.tmp 3) (Operand.tmp 17)),0,none⟩])
    (rO Tryz.prog [] R) ρ τ:=by
  intro τ b2 by2 ρ q3 q5 s2 s3 s5 hB2 hl2 R hR
  have bc:=hB2.cell
  simp only [go_sem,seval] at bc
  simp only [go_sem,seval,q3,q5,s3,s5,d1,d2,d3,bc]
  refine CV.mono (hw b2 by2 τ hB2 hl2) ?_
  rintro _ σ' ⟨b',rfl,hB',hK',hN'⟩
  have bc':=hB'.cell
  have bu':=iq bc'
  have bl':=cellC bc'
  have m2:=hB2.not s2 (sN x)
  have m3:=hB2.not s3 (nV hB2)
  have e2 : σ'[t2]?=some (.own x.cells):=by rw [hK'.2 t2 (List.getElem?_eq_some_iff.1 s2).1 m2];exact s2
  have e3 : σ'[t3]?=some (.own [b2]):=by rw [hK'.2 t3 (List.getElem?_eq_some_iff.1 s3).1 m3];exact s3
  have l3':=(List.getElem?_eq_some_iff.1 e3).1
  have m3':=hB'.not e3 (nV hB2)
  simp only [go_sem,seval] at bu'
  simp only [go_sem,seval] at bl'
  simp only [go_sem,seval] at bc'
  simp only [go_sem,seval,gZ,q3,e3,bu',bl',bc']
  refine hR b' _ (by rw [List.getElem?_set_ne (by omega)];exact e2) (by rw [List.getElem?_set_self l3']) (hB'.low fun id o n z e=>List.getElem?_set_ne (fun h=>m3' o n z (by rw [h];exact e))) hN' ⟨by have:=hK'.1;simp;omega,fun j h1 hj=>?_⟩
  rw [List.getElem?_set_ne (fun e=>hj (.inl e.symm)),hK'.2 j h1 (fun o n z e=>hj (.inr ⟨o,n,z,e⟩))]
 obtain ⟨τ,hτ⟩ : ∃ τ,τ=σ++[Obj.own [.int .i64 sk,.int .i64 ix,.str key],.own y.cells]:=⟨_,rfl⟩
 have a2 : τ[t2]?=some (.own x.cells):=by rw [hτ,List.getElem?_append_left l2];exact h2
 have a3 : τ[t3]?=some (.own [bb]):=by rw [hτ,List.getElem?_append_left l3];exact h3
 have a4 : τ[σ.length]?=some (.own [.int .i64 sk,.int .i64 ix,.str key]):=by rw [hτ];simp
 have a5 : τ[σ.length+1]?=some (.own y.cells):=by rw [hτ];simp
 have aB : lU τ bb bytes:=by rw [hτ];exact hB.snoc _
 have aH : High (fun i=>i=t3∨∃ o n z,bb=.bZ i o n z) σ τ:=by rw [hτ];exact .snoc _ _ _
 have aN : ∀ b',New τ bb b'→New σ bb b':=fun b' h=>by rw [hτ] at h;exact h.app
 have atl : τ.length=σ.length+2:=by rw [hτ];simp
 have bc:=hB.cell
 simp only [go_sem,seval] at bc
 have hz:=hB.not h2 (sN x)
 have hz3:=hB.not h3 (nV hB)
 refine eU (M:=fun ρ τ'=>ρ.get 2=.mptr t2 0∧ρ.get 3=.mptr t3 0∧ρ.get 4=.mptr σ.length 0∧ρ.get 5=.mptr (σ.length+1) 0∧τ'=τ) ?_ ?_
 ·simp only [go_sem,seval,Vl.vv,d1,d2,d3,SS,← hτ]
 rintro ρ _ ⟨q2,q3,q4,q5,rfl⟩
 refine eU (M:=fun ρ τ'=>∃ b2,ρ.get 3=.mptr t3 0∧ρ.get 5=.mptr (σ.length+1) 0∧τ'[t2]?=some (.own x.cells)∧τ'[t3]?=some (.own [b2])∧τ'[σ.length+1]?=some (.own y.cells)∧lU τ' b2 (bytes++(if kd=5 then lq 3 0 key else []))∧New σ bb b2∧High (fun i=>i=t3∨∃ o n z,bb=.bZ i o n z) σ τ') ?_ ?_
 ·by_cases h5 : kd=5
  ·subst h5
   rw [if_pos rfl] at hl ⊢
   simp only [List.length_append] at hl
   simp only [go_sem,seval,q2,q3,q4,q5,a2,a3,a4,dx,dl,bc]
   refine aj (Nz 3 0 key (hkl rfl)) (by simp only [go_sem,seval,q2,q3,q4,q5,a2,a3,a4,bc]) ?_<;>simp only [go_sem,seval,q2,q3,q4,q5,a2,a3,a4,bc]
   refine aB.DZ (nX OZ) (by omega) fun v' σ' hB' hK hN=>?_
   have m2:=aB.not a2 (sN x)
   have m3:=aB.not a3 (nV aB)
   have e2 : σ'[t2]?=some (.own x.cells):=by rw [hK.2 t2 (List.getElem?_eq_some_iff.1 a2).1 m2];exact a2
   have e3 : σ'[t3]?=some (.own [bb]):=by rw [hK.2 t3 (List.getElem?_eq_some_iff.1 a3).1 m3];exact a3
   have e5 : σ'[σ.length+1]?=some (.own y.cells):=by rw [hK.2 _ (by omega) (aB.not a5 (sN y))];exact a5
   have l3':=(List.getElem?_eq_some_iff.1 e3).1
   have m3':=hB'.not e3 (nV aB)
   have bc':=hB'.cell
   have bu':=iq bc'
   have bl':=cellC bc'
   simp only [go_sem,seval] at bu'
   simp only [go_sem,seval] at bl'
   simp only [go_sem,seval] at bc'
   simp only [go_sem,seval,q3,q5,e3,bu',bl',bc']
   refine ⟨v',by rw [List.getElem?_set_ne (by omega)];exact e2,by rw [List.getElem?_set_self l3'],by rw [List.getElem?_set_ne (by omega)];exact e5,hB'.low fun id o n z e=>List.getElem?_set_ne (fun h=>m3' o n z (by rw [h];exact e)),aN _ hN,⟨by have:=hK.1;simp;omega,fun j h1 hj=>?_⟩⟩
   rw [List.getElem?_set_ne (fun e=>hj (.inl e.symm)),hK.2 j (by omega) (fun o n z e=>hj (.inr ⟨o,n,z,e⟩))]
   exact aH.same j h1 hj
  ·have b5 : (kd == 5)=false:=by simpa using h5
   rw [if_neg h5]
   simp only [go_sem,seval,q2,q3,q4,q5,a2,dx,dl,b5]
   exact ⟨bb,a3,a5,aB,New.refl _ _,aH⟩
 ·rintro ρ τ' ⟨b2,q3,q5,s2,s3,s5,hB2,hN2,hH2⟩
  refine key2 τ' b2 _ ρ q3 q5 s2 s3 s5 hB2 ?_ _ ?_
  ·simp only [List.length_append] at hl ⊢
   omega
  ·intro bb' σ' r2 r3 rB rN rH
   have hlen:=hH2.len
   refine ⟨rfl,bb',r2,r3,by simpa [List.append_assoc] using rB,hN2.trans hlen rN,⟨Nat.le_trans hlen rH.len,fun j h1 hj=>?_⟩⟩
   rw [rH.same j (by omega) ?_,hH2.same j h1 hj]
   rintro (h | ⟨o,n,z,e⟩)
   ·exact hj (.inl h)
   ·rcases hN2 j o n z e with h | ⟨o',n',z',e'⟩
    ·omega
    ·exact hj (.inr ⟨o',n',z',e'⟩)
def Yh (x : Vl) (t2 t3 : Nat) (pre : Nat→Bs) (i : Nat) (D : DS) (τ : Store) : Prop:=∃ bb,τ[t2]?=some (.own x.cells)∧τ[t3]?=some (.own [bb])∧lU τ bb (pre i)∧∀ id,D id↔(id=t2∨id=t3∨∃ o n z,bb=.bZ id o n z)
theorem LX (kd : Int) (h4 : 4≤kd) (h6 : kd≤6) (x : Vl) (hx : x.ok) (hk : x.k=kd) (m : Nat) (A : Nat→List VV→Prop) (pk : Nat→Bs) (hp0 : pk 0=[]) (hpl : ∀ i,i≤m→(pk i).length≤(pk m).length)
  (hE : ∀ (caps : List VV) (J : Nat→DS→Store→Prop) (D : DS) (σ : Store),Cls (.fn (.func 220) [] caps) J A 0 m (.tup [])→J 0 D σ→CV Tryz.prog G0 49 [x.vv,.fn (.func 220) [] caps] σ fun c σ'=>c=.ret (.tup [])∧Done J m D σ σ')
  (hA : ∀ i args,i < m→A i args→∃ (sk ix : Int) (key : Bs) (y : Vl) (k : Bs),args=[.agg [.int .i64 sk,.int .i64 ix,.str key],y.vv]∧y.ok∧(kd=5→key.length≤10000000)∧Xb k y∧pk (i+1)=pk i++((if kd=5 then lq 3 0 key else [])++k)) :
  Xb (UInt8.ofNat (kd+1).toNat::(pk m++[0])) x:=by
 intro b bytes σ hB hl
 simp only [List.length_cons,List.length_append,List.length_nil] at hl
 have hbc:=hB.cell
 have hbu:=iq hbc
 have hbl:=cellC hbc
 simp only [go_sem,seval] at hbc
 simp only [go_sem,seval] at hbu
 simp only [go_sem,seval] at hbl
 have b1 : decide (kd < 4)=false:=decide_eq_false (by omega)
 have d1 : x.cells.length=11:=rfl
 have d2 : x.cells.all VV.aC=true:=hx.cell
 have d3 : x.cells.take 11=x.cells:=rfl
 have dx : x.cells.getD 3 .undef=.int .i64 kd:=by rw [← hk];rfl
 have w1 : IntKind.i64.wrap (kd+1)=kd+1:=by rw [iw (by omega)]
 have w2 : IntKind.u8.wrap (kd+1)=((UInt8.ofNat (kd+1).toNat).toNat : Int):=by rw [Vr,UInt8.toNat_ofNat'];omega
 obtain ⟨t2,ht2⟩ : ∃ t2,t2=σ.length:=⟨_,rfl⟩
 refine cv e174 (by simp) ?_
 simp only [go_sem,seval,c174,Vl.vv,hbc,hbu,hbl,d1,d2,d3,dx,b1,w1,w2,SS]
 refine (hB.snoc _).Jj BQ (by simp;omega) fun v' σ1 hB1 hK1 hN1=>?_
 have e2 : σ1[t2]?=some (.own x.cells):=by
  rw [hK1.2 t2 (by simp;omega) (fun o n z e=>by have:=hB.dom e;omega),ht2];simp
 have e3 : σ1[t2+1]?=some (.own [b]):=by
  rw [hK1.2 (t2+1) (by simp;omega) (fun o n z e=>by have:=hB.dom e;omega),ht2];simp
 have l3:=(List.getElem?_eq_some_iff.1 e3).1
 have l1:=hK1.1
 simp only [List.length_append,List.length_cons,List.length_nil] at l1
 have bc1:=hB1.cell
 have bu1:=iq bc1
 have bl1:=cellC bc1
 have n2:=hB1.not e2 (sN x)
 have n3:=hB1.not e3 (nV hB)
 rw [← ht2]
 simp only [go_sem,seval] at bc1
 simp only [go_sem,seval] at bu1
 simp only [go_sem,seval] at bl1
 obtain ⟨σ2,hσ2⟩ : ∃ σ2,σ2=σ1.set (t2+1) (.own [v']):=⟨_,rfl⟩
 have f2 : σ2[t2]?=some (.own x.cells):=by rw [hσ2,List.getElem?_set_ne (by omega)];exact e2
 have f3 : σ2[t2+1]?=some (.own [v']):=by rw [hσ2,List.getElem?_set_self l3]
 have fB : lU σ2 v' (bytes++[UInt8.ofNat (kd+1).toNat]):=by rw [hσ2];exact hB1.low fun id o n z e=>List.getElem?_set_ne (fun h=>n3 o n z (by rw [h];exact e))
 have fl : σ2.length=σ1.length:=by rw [hσ2];simp
 have fs : ∀ j,j < σ.length→(∀ o n z,b≠.bZ j o n z)→σ2[j]?=σ[j]?:=fun j hj hne=>by
  rw [hσ2,List.getElem?_set_ne (by omega),hK1.2 j (by simp;omega) hne,List.getElem?_append_left hj]
 simp only [go_sem,seval,e3,bu1,bl1,bc1,← hσ2,f2,d1,d2,d3]
 have hcall:=hE [.mptr t2 0,.mptr (t2+1) 0] (Yh x t2 (t2+1) (fun i=>bytes++UInt8.ofNat (kd+1).toNat::pk i)) (fun id=>id=t2∨id=t2+1∨∃ o n z,v'=.bZ id o n z) σ2 ⟨?_, ?_, ?_⟩ ⟨v',f2,f3,by simp only [hp0];exact fB,fun _=>.rfl⟩
 ·refine CV.mono hcall ?_
  rintro _ σ3 ⟨rfl,D',⟨b3,g2,g3,gB,gD⟩,hG,hH⟩
  have bc3:=gB.cell
  simp only [go_sem,seval] at bc3
  simp only [go_sem,seval,gZ,g3,bc3]
  have hx0 : aJ Tryz.prog σ3 1 173 (.sl 1 [.int .u8 0] true)=some (([0] : Bs).length,([0] : Bs).map aU):=Dl (c:=[0])
  refine gB.Jj hx0 (by simp;omega) fun v4 σ4 hB4 hK4 hN4=>?_
  simp only [go_sem,seval]
  have hnew3 : ∀ id o n z,b3=.bZ id o n z→σ.length≤id∨∃ o' n' z',b=.bZ id o' n' z':=by
   intro id o n z e
   rcases hG id ((gD id).2 (.inr (.inr ⟨o,n,z,e⟩))) with h | h
   ·rcases h with h | h | ⟨o',n',z',e'⟩
    ·exact .inl (by omega)
    ·exact .inl (by omega)
    ·rcases hN1 id o' n' z' e' with h | h
     ·simp only [List.length_append] at h;exact .inl (by omega)
     ·exact .inr h
   ·exact .inl (by omega)
  refine ⟨v4,rfl,by simpa [List.append_assoc] using hB4,⟨by have:=hK4.1;have:=hH.len;omega,fun j hj hne=>?_⟩,fun id o n z e=>?_⟩
  ·have h3l:=hH.len
   rw [hK4.2 j (by omega) (fun o n z e=>?_),hH.same j (by omega) ?_,fs j hj hne]
   ·rintro (h | h | ⟨o,n,z,e⟩)
    ·omega
    ·omega
    ·rcases hN1 j o n z e with h | ⟨o',n',z',e'⟩
     ·simp at h;omega
     ·exact hne _ _ _ e'
   ·rcases hnew3 j o n z e with h | ⟨o',n',z',e'⟩
    ·omega
    ·exact hne _ _ _ e'
  ·have h3l:=hH.len
   rcases hN4 id o n z e with h | ⟨o',n',z',e'⟩
   ·exact .inl (by omega)
   ·exact hnew3 id o' n' z' e'
 ·rintro i D τ ⟨bb,h2,h3,hb,hD⟩ id hid
  rcases (hD id).1 hid with rfl | rfl | ⟨o,n,z,e⟩
  ·exact (List.getElem?_eq_some_iff.1 h2).1
  ·exact (List.getElem?_eq_some_iff.1 h3).1
  ·exact hb.dom e
 ·rintro i D τ τ' ⟨bb,h2,h3,hb,hD⟩ hlow
  exact ⟨bb,(hlow.same _ ((hD _).2 (.inl rfl))).trans h2,(hlow.same _ ((hD _).2 (.inr (.inl rfl)))).trans h3,hb.low fun id o n z e=>hlow.same id ((hD id).2 (.inr (.inr ⟨o,n,z,e⟩))),hD⟩
 ·rintro i D τ args _ hi ha ⟨bb,h2,h3,hb,hD⟩
  obtain ⟨sk,ix,key,y,k,rfl,hyo,hkl,hw,hpk⟩:=hA i args hi ha
  have hle:=hpl (i+1) (by omega)
  rw [hpk] at hle
  simp only [List.length_append] at hle
  refine ⟨qL, ?_⟩
  refine CV.mono (O1 kd x y hx hyo hk t2 (t2+1) sk ix key k _ bb τ h2 h3 (by omega) hb hkl (by simp only [List.length_append,List.length_cons];omega) hw) ?_
  rintro _ τ' ⟨rfl,b3,g2,g3,gB,gN,gH⟩
  refine ⟨rfl,fun id=>id=t2∨id=t2+1∨∃ o n z,b3=.bZ id o n z,⟨b3,g2,g3, ?_,fun _=>.rfl⟩,fun id hid=>?_,⟨gH.len,fun id h1 hd=>gH.same id h1 fun h=>hd ((hD id).2 (h.elim (fun h=>.inr (.inl h)) (fun h=>.inr (.inr h))))⟩⟩
  ·simp only [hpk];simpa [List.append_assoc] using gB
  ·rcases hid with h | h | ⟨o,n,z,e⟩
   ·exact .inl ((hD id).2 (.inl h))
   ·exact .inl ((hD id).2 (.inr (.inl h)))
   ·rcases gN id o n z e with h | h
    ·exact .inr h
    ·exact .inl ((hD id).2 (.inr (.inr h)))
theorem TV {l : List T} {i : Nat} (h : i < l.length) : T.keys (l.take (i+1))=T.keys (l.take i)++l[i].key:=by
 rw [List.take_succ_eq_append_getElem h,T.oV]
 simp [T.keys]
theorem yK {l : List (Bs × T)} {i : Nat} (h : i < l.length) : T.jJ (l.take (i+1))=T.jJ (l.take i)++(lq 3 0 l[i].1++l[i].2.key):=by
 rw [List.take_succ_eq_append_getElem h,T.oI]
 simp [T.jJ]
theorem kQ (l : List T) (i : Nat) : (T.keys (l.take i)).length≤(T.keys l).length:=by
 conv=>rhs;rw [← List.take_append_drop i l,T.oV]
 simp
theorem rW (l : List (Bs × T)) (i : Nat) : (T.jJ (l.take i)).length≤(T.jJ l).length:=by
 conv=>rhs;rw [← List.take_append_drop i l,T.oI]
 simp
theorem qQ {items : List (Bs × (T × Vl))} {ps : List iE} (hi : iJ items) (hp : ps.Perm (items.map fun q=>(q.1,q.2.2))) : kP ps=items.map fun q=>(q.1,q.2.2):=by
 refine I8 ?_ hp.symm
 unfold iJ
 rw [List.pairwise_map]
 exact hi
theorem P9 {v : T} {x : Vl} (h : oL v x) : x.ok→Xb v.key x:=by
 induction h with
 | sc k i t h hb hi=>exact fun _=>XH k i t h hb
 | vec items h ho root hR ih =>
  intro hx
  have hsl:=jF (items.map (·.2))
  have hil : items.length≤1000000:=by have:=hx.hm;simp at hsl this;omega
  have hlen : (items.map (·.2.cells)).length=items.length:=by simp
  have hw:=LX 4 (by decide) (by decide) _ hx rfl items.length (tN (items.map (·.2.cells))) (fun i=>T.keys ((items.map (·.1)).take i)) rfl
   (fun i hi=>by have h:=kQ (items.map (·.1)) i;rw [List.take_of_length_le (l:=items.map (·.1)) (i:=items.length) (by simp)];exact h)
   (fun caps J D σ hC hJ=>by
    have:=tu 0 0 [] root (items.map (·.2.cells)) hR 0 0 0 .nilp rfl (maxD (items.map (·.2)) : Nat) (dw (items.map (·.2)) : Nat) 220 qL caps J D σ (by rw [hlen];exact hil) (by rw [hlen];exact hC) hJ
    rw [hlen] at this;exact this)
   (fun i args hi ha=>by
    have hi' : i < items.length:=hi
    have ha' : args=[.agg [.int .i64 0,.int .i64 i,.str []],items[i].2.vv]:=by
     unfold tN at ha
     rw [ha]
     simp [List.getD_eq_getElem?_getD,hi',Vl.vv]
    have hm:=List.getElem_mem hi'
    refine ⟨0,i,[],items[i].2,items[i].1.key,ha',ho _ hm,by simp,ih _ hm (ho _ hm), ?_⟩
    rw [TV (by simpa using hi')]
    simp)
  have e : (items.map (·.1)).take items.length=items.map (·.1):=List.take_of_length_le (by simp)
  simp only [e] at hw
  exact hw
 | map items seed bits hr ps hi hp hM h ho ih =>
  intro hx
  have hsl:=jF (items.map (·.2.2))
  have hil : items.length≤1000000:=by have:=hx.hm;simp at hsl this;omega
  have hsrt:=qQ hi hp
  have hpl : ps.length=items.length:=by simpa using hp.length_eq
  have hpo : ∀ p ∈ ps,p.2.ok:=fun p hpm=>by
   obtain ⟨q,hq,rfl⟩:=List.mem_map.1 (hp.mem_iff.1 hpm)
   exact (ho q hq).1
  have hw:=LX 5 (by decide) (by decide) _ hx rfl items.length (mkArgs 5 (kP ps)) (fun i=>T.jJ ((items.map fun q=>(q.1,q.2.1)).take i)) rfl
   (fun i _=>by have h:=rW (items.map fun q=>(q.1,q.2.1)) i;rw [List.take_of_length_le (l:=items.map fun q=>(q.1,q.2.1)) (i:=items.length) (by simp)];exact h)
   (fun caps J D σ hC hJ=>by
    have:=lN 5 (.inl rfl) 0 0 [] .nilp rfl seed bits items.length hr ps hM hpo (by omega) (maxD (items.map (·.2.2)) : Nat) (dw (items.map (·.2.2)) : Nat) 220 qL caps J D σ (by rw [hpl];exact hC) hJ
    rw [hpl] at this;exact this)
   (fun i args hi2 ha=>by
    have hi' : i < items.length:=hi2
    have ha':=nD (k:=5) (qs:=kP ps) (by rw [hsrt];simpa using hi') ha
    have hm:=List.getElem_mem hi'
    simp only [hsrt,List.getElem_map] at ha'
    refine ⟨1,0,items[i].1,items[i].2.2,items[i].2.1.key,ha',(ho _ hm).1,fun _=>(ho _ hm).2,ih _ hm (ho _ hm).1, ?_⟩
    rw [yK (by simpa using hi')]
    simp)
  have e : (items.map fun q=>(q.1,q.2.1)).take items.length=items.map fun q=>(q.1,q.2.1):=List.take_of_length_le (by simp)
  simp only [e] at hw
  exact hw
 | set items seed bits hr ps hi hp hM h ho hk ih =>
  intro hx
  have hsl:=jF (items.map (·.2.2))
  have hil : items.length≤1000000:=by have:=hx.hm;simp at hsl this;omega
  have hsrt:=qQ hi hp
  have hpl : ps.length=items.length:=by simpa using hp.length_eq
  have hpo : ∀ p ∈ ps,p.2.ok:=fun p hpm=>by
   obtain ⟨q,hq,rfl⟩:=List.mem_map.1 (hp.mem_iff.1 hpm)
   exact (ho q hq).1
  have hw:=LX 6 (by decide) (by decide) _ hx rfl items.length (mkArgs 6 (kP ps)) (fun i=>T.keys ((items.map fun q=>q.2.1).take i)) rfl
   (fun i _=>by have h:=kQ (items.map fun q=>q.2.1) i;rw [List.take_of_length_le (l:=items.map fun q=>q.2.1) (i:=items.length) (by simp)];exact h)
   (fun caps J D σ hC hJ=>by
    have:=lN 6 (.inr rfl) 0 0 [] .nilp rfl seed bits items.length hr ps hM hpo (by omega) (maxD (items.map (·.2.2)) : Nat) (dw (items.map (·.2.2)) : Nat) 220 qL caps J D σ (by rw [hpl];exact hC) hJ
    rw [hpl] at this;exact this)
   (fun i args hi2 ha=>by
    have hi' : i < items.length:=hi2
    have ha':=nD (k:=6) (qs:=kP ps) (by rw [hsrt];simpa using hi') ha
    have hm:=List.getElem_mem hi'
    simp only [hsrt,List.getElem_map] at ha'
    refine ⟨2,0,items[i].1,items[i].2.2,items[i].2.1.key,ha',(ho _ hm).1,(fun h=>absurd h (by decide)),ih _ hm (ho _ hm).1, ?_⟩
    rw [TV (by simpa using hi')]
    simp)
  have e : (items.map fun q=>q.2.1).take items.length=items.map fun q=>q.2.1:=List.take_of_length_le (by simp)
  simp only [e] at hw
  exact hw
theorem Vj {v : T} {x : Vl} (h : oL v x) (hx : x.ok) (hl : v.key.length≤1000000000) : PV Tryz.prog G0 125 [x.vv] (.str v.key):=by
 refine pv e125 (by simp) (by simp [VV.ak,VV.isPure,Vl.vv,hx.pure]) rfl ?_
 have d1 : x.cells.length=11:=rfl
 have d2 : x.cells.all VV.aC=true:=hx.cell
 have d3 : x.cells.take 11=x.cells:=rfl
 simp only [go_sem,seval,c125,Vl.vv,d1,d2,d3]
 refine CV.mono (P9 h hx .nils [] _ (.inl ⟨rfl,rfl⟩) (by simpa using hl)) ?_
 rintro _ σ' ⟨b',rfl,hB,_,_⟩
 rw [List.nil_append] at hB
 simp only [go_sem,seval,gZ,hB.conv]
 exact fin (by rfl) rfl
end Go.V
