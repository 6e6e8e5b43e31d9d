/- Texts F59 F60 L3 F61 F62 F63 F68 F69 F70 F71 L5 F73 L6 F76. -/
import Derived.Test.YtgmhpemjlbgfcaaGreatDoorG12
import Derived.Test.YtgmhpemjlbgfcaaGreatDoorG29
import Derived.Test.YtgmhpemjlbgfcaaGreatDoorG31
set_option linter.unusedVariables false
set_option linter.unusedSimpArgs false
namespace Go.V
open Go.Proofs
set_option maxRecDepth 100000
abbrev lJ (sk ix : Int) (t : Bs) : VV:=.agg [.int .i64 sk,.int .i64 ix,.str t]
theorem NK (x : Vl) (hx : x.ok) (sk ix : Int) (t : Bs) (h : 0≤sk∧sk≤2) (hk : x.k=sk+4) : PV Tryz.prog G0 87 [x.vv,lJ sk ix t] (.int .i64 0):=by
 refine pv e87 (by simp) (by simp [VV.ak,VV.isPure,Vl.vv,hx.pure]) rfl ?_
 have d1 : x.cells.length=11:=rfl
 have d2 : x.cells.all VV.aC=true:=hx.cell
 have d3 : x.cells.take 11=x.cells:=rfl
 have dx : x.cells.getD 3 .undef=.int .i64 (sk+4):=by rw [← hk];rfl
 have b1 : decide (sk < 0)=false:=decide_eq_false (by omega)
 have b2 : decide (2 < sk)=false:=decide_eq_false (by omega)
 have e1 : IntKind.i64.wrap (sk+4)=sk+4:=iw (by omega)
 have b3 : (sk+4 != sk+4)=false:=by simp
 simp only [go_sem,seval,c87,Vl.vv,d1,d2,d3,dx,b1,b2,b3,e1,Bool.not_false]
 exact fin (by rfl) rfl
def IL : Option Vl→VV
 | some y=>.tup [y.vv,.int .i64 0]
 | none=>.tup [Vl.zero.vv,.int .i64 5]
theorem sQ {o : Option Vl} (h : ∀ x,o=some x→x.ok) : (IL o).isPure=true:=by
 cases o with
 | none=>rfl
 | some x=>simp [IL,VV.isPure,VV.ak,Vl.vv,(h x rfl).pure]
theorem Vf (x : Vl) (hx : x.ok) (ps : List iE) (hM : lQ (lW x.seed x.bits) x.hr ps) (hok : ∀ p ∈ ps,p.2.ok) (hl : ps.length≤1000000) (sk ix : Int) (t : Bs) (h : sk=1∨sk=2) (hk : x.k=sk+4) (ht : t.length≤1000000000) :
  PV Tryz.prog G0 44 [x.vv,lJ sk ix t] (IL (lk ps t)):=by
 have hlo : ∀ y,lk ps t=some y→y.ok:=fun y hy=>hok _ (vM hy)
 have hpu:=sQ hlo
 have hF:=NK x hx sk ix t (by omega) hk
 have hG:=Ol x.seed x.bits x.n x.hr ps hM hok hl t ht
 refine pv e44 (by simp) (by simp [VV.ak,VV.isPure,Vl.vv,hx.pure]) hpu ?_
 have d1 : x.cells.length=11:=rfl
 have d2 : x.cells.all VV.aC=true:=hx.cell
 have d3 : x.cells.take 11=x.cells:=rfl
 have dx : x.cells.getD 3 .undef=.int .i64 x.k:=rfl
 have dd : (List.drop 5 x.cells).take 4=[.int .u64 x.seed,.int .i64 x.bits,.int .i64 x.n,x.hr]:=rfl
 have b4 : (x.k == 4)=false:=by simp;omega
 simp only [go_sem,seval,c44,Vl.vv,d1,d2,d3]
 refine ah (hF) ?_<;>simp only [go_sem,seval,d1,d2,d3,Vl.vv,dx,dd]
 refine ah (hG) ?_<;>simp only [go_sem,seval,d1,d2,d3,Vl.vv,dx,dd,b4]
 cases hlk : lk ps t with
 | none =>
  simp only [go_sem,seval,Ic,Vl.zero,Vl.vv,Vl.cells,d1,d2,d3,dx,b4,Bool.not_false]
  exact fin (by rfl) rfl
 | some y =>
  have hy:=hlo y hlk
  have f1 : y.cells.length=11:=rfl
  have f2 : y.cells.all VV.aC=true:=hy.cell
  have f3 : y.cells.take 11=y.cells:=rfl
  simp only [go_sem,seval,Ic,Vl.vv,f1,f2,f3,d1,d2,d3,dx,b4,Bool.not_true]
  exact fin (sQ (o:=some y) (by rintro _ ⟨⟩;exact hy)) rfl
end Go.V
namespace Go.V
open Go.Proofs
set_option maxRecDepth 100000
theorem TK (seed bits : Int) : PV Tryz.prog G0 123 [.agg [.int .u64 seed,.int .i64 bits]] (.agg [.int .u64 seed,.int .i64 bits,.int .i64 0,.nilp]):=by
 refine pv e123 (by simp) rfl rfl ?_
 simp only [go_sem,seval,c123]
 exact fin (by rfl) rfl
theorem RG (kd : Int) (hk : kd=5∨kd=6) (seed bits : Int) (n : Nat) (hr : VV) (ps : List iE) (h : lQ (lW seed bits) hr ps) (hi : ∀ p ∈ ps,p.2.ok) (hl : ps.length≤1000000) (hs : dw (oM ps)≤1000000) (hd : maxD (oM ps)≤1000000) :
  PV Tryz.prog G0 126 [.int .i64 kd,.agg [.int .u64 seed,.int .i64 bits,.int .i64 n,hr]] (⟨0,0,[],kd,.nilp,seed,bits,n,hr,maxD (oM ps),dw (oM ps)⟩ : Vl).vv:=by
 have hok : (⟨0,0,[],kd,.nilp,seed,bits,n,hr,0,0⟩ : Vl).ok:=⟨rfl,rfl,h.pure,h.cell,by simp,by simp⟩
 have hok2 : (⟨0,0,[],kd,.nilp,seed,bits,n,hr,maxD (oM ps),dw (oM ps)⟩ : Vl).ok:=⟨rfl,rfl,h.pure,h.cell,hd,hs⟩
 have hP:=zY ⟨0,0,[],kd,.nilp,seed,bits,n,hr,0,0⟩ hok hk ps h hi hl hs hd
 have h1:=h.cell
 have h2:=iq h1
 have h3:=cellC h1
 simp only [go_sem,seval] at h1
 simp only [go_sem,seval] at h2
 simp only [go_sem,seval] at h3
 have hpu:=hok2.pure
 refine pv e126 (by simp) (by simp [VV.ak,VV.isPure,h.pure]) (by simp only [VV.isPure,Vl.vv];exact hpu) ?_
 simp only [go_sem,seval,c126,h1,h2,h3]
 refine ah (hP) ?_<;>simp only [go_sem,seval,Vl.vv,Vl.cells,h1,h2,h3]
 exact fin (by simp only [VV.isPure];exact hpu) rfl
end Go.V
namespace Go.V
inductive Md where
 | val
 | vec (acc : List T)
 | map (acc : List (Bs × T))
 | set (acc : List (Bs × T))
def Md.fin : Md→T
 | .val=>.vec []
 | .vec l=>.vec l
 | .map l=>.map l
 | .set l=>.set (l.map (·.2))
def Md.cl : Md→Bs
 | .val=>[]
 | .vec _=>[93]
 | .map _=>[125]
 | .set _=>[62]
inductive Rs where
 | ok (v : T) (e n : Nat)
 | er (c p : Nat)
inductive On where
 | ok (m : Md) (e n : Nat)
 | er (c p : Nat)
def one (rv : Int→Nat→Nat→Option Rs) (s : Bs) (a : Int) (n q : Nat) : Md→Option On
 | .val=>none
 | .vec acc=>match rv a n (q+1) with
  | none=>none
  | some (.er c p)=>some (.er c p)
  | some (.ok v e n')=>some (.ok (.vec (acc++[v])) e n')
 | .map acc=>match Nc s a with
  | .err c p=>some (.er c p)
  | .tok k x e _ t=>if k≠4 then some (.er 2 x) else if (lk acc t).isSome=true then some (.er 6 x) else match Nc s e with
   | .err c p=>some (.er c p)
   | .tok k2 x2 e2 _ t2=>if k2=1∧t2=[58] then (match rv e2 n (q+1) with
     | none=>none
     | some (.er c p)=>some (.er c p)
     | some (.ok v e' n')=>some (.ok (.map (cO t v acc)) e' n')) else some (.er 2 x2)
 | .set acc=>match Nc s a with
  | .err c p=>some (.er c p)
  | .tok _ x _ _ _=>match rv a n (q+1) with
   | none=>none
   | some (.er c p)=>some (.er c p)
   | some (.ok v e n')=>if (lk acc v.key).isSome=true then some (.er 6 x) else some (.ok (.set (cO v.key v acc)) e n')
end Go.V
namespace Go.V
open Go.Proofs
set_option maxRecDepth 100000
structure Xi (items : List (T × Vl)) (x : Vl) : Prop where
 rv : ∀ p ∈ items,oL p.1 p.2
 ok : ∀ p ∈ items,p.2.ok
 ex : ∃ root,RP root (items.map (·.2.cells))∧x=⟨0,0,[],4,root,0,0,0,.nilp,maxD (items.map (·.2)),dw (items.map (·.2))⟩
structure X7 (kd seed bits : Int) (lim : Nat) (items : List (Bs × (T × Vl))) (x : Vl) : Prop where
 ri : iJ items
 rv : ∀ q ∈ items,oL q.2.1 q.2.2
 ok : ∀ q ∈ items,q.2.2.ok∧q.1.length≤lim
 ex : ∃ hr ps,ps.Perm (items.map fun q=>(q.1,q.2.2))∧lQ (lW seed bits) hr ps∧x=⟨0,0,[],kd,.nilp,seed,bits,items.length,hr,maxD (items.map (·.2.2)),dw (items.map (·.2.2))⟩
def WB (seed bits : Int) : Md→Vl→Prop
 | .val,_=>False
 | .vec acc,x=>∃ items,acc=items.map (·.1)∧Xi items x
 | .map acc,x=>∃ items,acc=items.map (fun q=>(q.1,q.2.1))∧X7 5 seed bits 10000000 items x
 | .set acc,x=>∃ items,acc=items.map (fun q=>(q.1,q.2.1))∧X7 6 seed bits 1000000000 items x∧∀ q ∈ items,q.1=q.2.1.key
theorem WB.ok {seed bits : Int} {m : Md} {x : Vl} (h : WB seed bits m x) (hb : x.below≤1000000) (hm : x.more≤1000000) : x.ok:=by
 cases m with
 | val=>exact h.elim
 | vec acc =>
  obtain ⟨items,rfl,h1,h2,root,hR,rfl⟩:=h
  exact ⟨hR.pure,hR.cell,rfl,rfl,hb,hm⟩
 | map acc =>
  obtain ⟨items,rfl,h0,h1,h2,hr,ps,hp,hM,rfl⟩:=h
  exact ⟨rfl,rfl,hM.pure,hM.cell,hb,hm⟩
 | set acc =>
  obtain ⟨items,rfl,⟨h0,h1,h2,hr,ps,hp,hM,rfl⟩,hk⟩:=h
  exact ⟨rfl,rfl,hM.pure,hM.cell,hb,hm⟩
theorem uZ {τ : Store} {i : Nat} {o : Obj} (h : τ[i]?=some o) : τ.set i o=τ:=by
 have hl:=(List.getElem?_eq_some_iff.1 h).1
 refine List.ext_getElem? fun j=>?_
 by_cases hj : i=j
 ·subst hj;rw [List.getElem?_set_self hl,h]
 ·rw [List.getElem?_set_ne hj]
end Go.V
namespace Go.V
open Go.Proofs
set_option maxRecDepth 100000
theorem GN {α β : Type} (g : α→β) (k : Bs) : ∀ l : List (Bs × α),lk (l.map fun q=>(q.1,g q.2)) k=(lk l k).map g
 | []=>rfl
 | (k',x)::l=>by
  have ih:=GN g k l
  unfold lk at ih ⊢
  simp only [List.map_cons]
  by_cases h : k'=k
  ·subst h;simp
  ·rw [List.find?_cons_of_neg (by simpa using h),List.find?_cons_of_neg (by simpa using h)]
   exact ih
theorem zA {α β : Type} (g : α→β) (k : Bs) (x : α) : ∀ l : List (Bs × α),(cO k x l).map (fun q=>(q.1,g q.2))=cO k (g x) (l.map fun q=>(q.1,g q.2))
 | []=>rfl
 | (k',x')::l=>by
  have ih:=zA g k x l
  simp only [cO,List.map_cons]
  split
  ·rfl
  ·split
   ·rfl
   ·simp only [List.map_cons,ih]
end Go.V
namespace Go.V
open Go.Proofs
set_option maxRecDepth 100000
theorem Ip (x : Vl) (h : x.ok) (hr : x.root=.nilp) (n : Nat) (hn : x.n=n) (hl : n≤1000000) : PV Tryz.prog G0 43 [x.vv] (.int .i64 n):=by
 have:=O7 x h [] (.inl ⟨hr,rfl⟩) n hn (by simpa using hl)
 simpa using this
end Go.V
namespace Go.V
open Go.Proofs
set_option maxRecDepth 100000
inductive Pr where
 | ok (v : T) (n : Nat)
 | er (c p : Nat)
end Go.V
namespace Go.V
open Go.Proofs
set_option maxRecDepth 100000
structure St where
 k : Int
 i : Int
 t : Bs
def St.cells (s : St) : List VV:=[.int .i64 s.k,.int .i64 s.i,.str s.t]
theorem St.blk (s : St) : dh 3 [s.cells]:=⟨by simp [St.cells],by simp [St.cells,VV.ak,VV.isPure],by simp [St.cells,aQ,VV.aC]⟩
theorem St.blks (l : List St) : dh 3 (l.map St.cells):=by
 refine ⟨fun x hx=>?_,fun x hx=>?_,fun x hx=>?_⟩<;>obtain ⟨p,hp,rfl⟩:=List.mem_map.1 hx
 ·exact p.blk.len _ (by simp)
 ·exact p.blk.pure _ (by simp)
 ·exact p.blk.cell _ (by simp)
theorem WY {σ : Store} {y : List VV} {tg : Bool} (hC : dh 3 [y]) : aJ Tryz.prog σ 3 206 (.sl 1 y tg)=some ([y].length,[y].flatten):=by
 have:=(dG.sl [y] tg hC).src (P:=Tryz.prog) (σ:=σ) wH
 simpa using this
theorem MB (id : Nat) (v : VV) (p : St) (y : List VV) (done : List St) (σ : Store) (hy : dh 11 [y]) (hl : done.length+1≤1000000) (hσ : σ[id]?=some (.own [v])) (hv : (done=[]∧v=.nils)∨∃ jd,jd≠id∧v=.bZ jd 0 done.length 3∧σ[jd]?=some (.own (done.map St.cells).flatten)) :
  CV Tryz.prog G0 177 [.agg p.cells,.agg y,.mptr id 0] σ fun c σ'=>c=.ret (.tup [])∧∃ jd,σ.length≤jd∧σ'[id]?=some (.own [.bZ jd 0 (done.length+1) 3])∧σ'[jd]?=some (.own ((done++[p]).map St.cells).flatten)∧High (fun i=>i=id∨∃ n,v=.bZ i 0 n 3) σ σ':=by
 refine cv e177 (by simp) ?_
 have hlt:=(List.getElem?_eq_some_iff.1 hσ).1
 have hB:=St.blks done
 have hC:=p.blk
 have hσ' : ∀ τ,(σ++τ)[id]?=some (.own [v]):=fun τ=>by rw [List.getElem?_append_left hlt];exact hσ
 have d7 : p.cells.length=3:=rfl
 have d8 : p.cells.all VV.aC=true:=hC.cell _ (by simp)
 have d9 : p.cells.take 3=p.cells:=rfl
 have y7 : y.length=11:=hy.len _ (by simp)
 have y8 : y.all VV.aC=true:=hy.cell _ (by simp)
 rcases hv with ⟨rfl,rfl⟩ | ⟨jd,hj,rfl,hjd⟩
 ·simp only [go_sem,seval,c177,hσ',d7,d8,d9,y7,y8,SS]
  refine tq (ys:=[p.cells]) wH AP AV wW rfl (by decide) (by decide) hC (by simp) (by simp) (WY hC) ?_
  simp only [go_sem,seval,hσ',SS]
  refine ⟨σ.length+2,by omega, ?_, ?_,⟨by simp,fun i h1 h2=>?_⟩⟩
  ·rw [List.getElem?_set_self (by simp;omega)]
  ·rw [List.getElem?_set_ne (by omega)];simp
  ·rw [List.getElem?_set_ne (fun e=>h2 (.inl e.symm)),List.getElem?_append_left h1]
 ·have hjl:=(List.getElem?_eq_some_iff.1 hjd).1
  have hjd' : ∀ τ,(σ++τ)[jd]?=some (.own (done.map St.cells).flatten):=fun τ=>by rw [List.getElem?_append_left hjl];exact hjd
  simp only [go_sem,seval,c177,hσ',d7,d8,d9,y7,y8,SS]
  refine jC (xs:=done.map St.cells) (ys:=[p.cells]) wH AP AV wW rfl (by decide) (by decide) (hjd' _) hB hC (by simpa using hl) (by simp) (WY hC) ?_
  have hτ : (List.set (σ++[Obj.own p.cells,Obj.own y]) jd Obj.dead++[Obj.own (List.map St.cells done++[p.cells]).flatten])[id]?=some (.own [.bZ jd 0 done.length 3]):=by
   rw [List.getElem?_append_left (by simp;omega),List.getElem?_set_ne (by omega)];exact hσ' _
  simp only [go_sem,seval,hτ,SS]
  refine ⟨σ.length+2,by omega, ?_, ?_,⟨by simp;omega,fun i h1 h2=>?_⟩⟩
  ·rw [List.getElem?_set_self (by simp;omega)];simp
  ·rw [List.getElem?_set_ne (by omega),List.getElem?_append_right (by simp)];simp
  ·rw [List.getElem?_set_ne (fun e=>h2 (.inl e.symm)),List.getElem?_append_left (by simp;omega),List.getElem?_set_ne (fun e=>h2 (.inr ⟨_,by rw [e]⟩)),List.getElem?_append_left h1]
def OD (z : List VV) (ps : List St) (i : Nat) (D : DS) (τ : Store) : Prop:=∃ v,τ[1]?=some (.own [v])∧((i=0∧v=.nils∧∀ id,D id↔id=1)∨(0 < i∧∃ jd,jd≠1∧v=.bZ jd 0 i 3∧τ[jd]?=some (.own ((ps.take i).map St.cells).flatten)∧∀ id,D id↔id=1∨id=jd))
theorem OD.cls (z : List VV) (A : Nat→List VV→Prop) (ps : List St) (hl : ps.length≤1000000) (hA : ∀ i args,(h : i < ps.length)→A i args→∃ y,dh 11 [y]∧args=[.agg ps[i].cells,.agg y]) : Cls (.fn (.func 177) [] [.mptr 1 0]) (OD z ps) A 0 ps.length (.tup []):=by
 refine ⟨?_, ?_, ?_⟩
 ·rintro i D τ ⟨v,h1,⟨_,_,hD⟩ | ⟨_,jd,hj,_,h2,hD⟩⟩ id hid
  ·obtain rfl:=(hD id).1 hid
   exact (List.getElem?_eq_some_iff.1 h1).1
  ·rcases (hD id).1 hid with rfl | rfl
   ·exact (List.getElem?_eq_some_iff.1 h1).1
   ·exact (List.getElem?_eq_some_iff.1 h2).1
 ·rintro i D τ τ' ⟨v,h1,h⟩ hlow
  rcases h with ⟨a,b,hD⟩ | ⟨a,jd,hj,b,h2,hD⟩
  ·exact ⟨v,(hlow.same 1 ((hD 1).2 rfl)).trans h1,.inl ⟨a,b,hD⟩⟩
  ·exact ⟨v,(hlow.same 1 ((hD 1).2 (.inl rfl))).trans h1,.inr ⟨a,jd,hj,b,(hlow.same jd ((hD jd).2 (.inr rfl))).trans h2,hD⟩⟩
 ·rintro i D τ args _ hi' ha ⟨v,h1,h⟩
  obtain ⟨y,hy,rfl⟩:=hA i args hi' ha
  have hcl : (ps.take i).length=i:=by simp;omega
  refine ⟨J5, ?_⟩
  refine CV.mono (MB 1 v ps[i] y (ps.take i) τ hy (by omega) h1 ?_) ?_
  ·rcases h with ⟨rfl,b,_⟩ | ⟨a,jd,hj,b,h2,hD⟩
   ·exact .inl ⟨by simp,b⟩
   ·exact .inr ⟨jd,hj,by rw [hcl];exact b,h2⟩
  ·rintro _ τ' ⟨rfl,jd,hj,h3,h4,hH⟩
   rw [hcl] at h3
   have hl1:=(List.getElem?_eq_some_iff.1 h1).1
   refine ⟨rfl,fun id=>id=1∨id=jd,⟨_,h3,.inr ⟨by omega,jd,by omega,rfl, ?_,fun _=>.rfl⟩⟩,fun id hid=>?_,⟨hH.len,fun id a b=>hH.same id a fun hc=>?_⟩⟩
   ·rw [List.take_succ_eq_append_getElem hi'];exact h4
   ·rcases hid with rfl | rfl
    ·rcases h with ⟨_,_,hD⟩ | ⟨_,jd',_,_,_,hD⟩
     ·exact .inl ((hD 1).2 rfl)
     ·exact .inl ((hD 1).2 (.inl rfl))
    ·exact .inr hj
   ·rcases h with ⟨_,e,hD⟩ | ⟨_,jd',_,e,_,hD⟩
    ·rcases hc with rfl | ⟨n,hc⟩
     ·exact b ((hD _).2 rfl)
     ·rw [e] at hc;cases hc
    ·rcases hc with rfl | ⟨n,hc⟩
     ·exact b ((hD _).2 (.inl rfl))
     ·rw [e] at hc;cases hc;exact b ((hD _).2 (.inr rfl))
theorem YG (x : Vl) (hx : x.ok) (A : Nat→List VV→Prop) (ps : List St) (hl : ps.length≤1000000) (hA : ∀ i args,(h : i < ps.length)→A i args→∃ y,dh 11 [y]∧args=[.agg ps[i].cells,.agg y])
  (hE : ∀ (caps : List VV) (J : Nat→DS→Store→Prop) (D : DS) (σ : Store),Cls (.fn (.func 177) [] caps) J A 0 ps.length (.tup [])→J 0 D σ→CV Tryz.prog G0 49 [x.vv,.fn (.func 177) [] caps] σ fun c σ'=>c=.ret (.tup [])∧Done J ps.length D σ σ') :
  ∃ v : VV,dG 3 v (ps.map St.cells)∧PV Tryz.prog G0 129 [x.vv] v:=by
 have hE:=fun σ h=>hE [.mptr 1 0] (OD [] ps) (·=1) σ (OD.cls [] A ps hl hA) h
 have d1 : x.cells.length=11:=rfl
 have d2 : x.cells.all VV.aC=true:=hx.cell
 have d3 : x.cells.take 11=x.cells:=rfl
 simp only [Vl.vv] at hE
 have hB:=St.blks ps
 have hnul : ps=[]∨0 < ps.length:=by cases ps<;>simp
 rcases hnul with he | he
 ·subst he
  refine ⟨.nils,.nil, ?_⟩
  refine pv e129 (by simp) (by simp [VV.ak,VV.isPure,Vl.vv,hx.pure]) rfl ?_
  simp only [go_sem,seval,c129,Vl.vv,d1,d2,d3,SS]
  refine CV.mono (hE _ ⟨.nils,rfl,.inl ⟨rfl,rfl,fun _=>.rfl⟩⟩) ?_
  rintro _ τ ⟨rfl,D',⟨v,h1,⟨_,rfl,_⟩ | ⟨h,_⟩⟩,_,hH⟩
  ·simp only [go_sem,seval,gZ,h1]
   exact fin (by rfl) rfl
  ·simp at h
 ·refine ⟨.sl ps.length (ps.map St.cells).flatten false,dG.of hB (by simp) rfl, ?_⟩
  refine pv e129 (by simp) (by simp [VV.ak,VV.isPure,Vl.vv,hx.pure]) (by simp only [VV.isPure];exact hB.pW) ?_
  simp only [go_sem,seval,c129,Vl.vv,d1,d2,d3,SS]
  refine CV.mono (hE _ ⟨.nils,rfl,.inl ⟨rfl,rfl,fun _=>.rfl⟩⟩) ?_
  rintro _ τ ⟨rfl,D',⟨v,h1,⟨h,_⟩ | ⟨_,jd,hj,rfl,h2,_⟩⟩,_,hH⟩
  ·omega
  rw [List.take_length] at h2
  have hjl:=(List.getElem?_eq_some_iff.1 h2).1
  simp only [go_sem,seval,gZ,h1]
  refine ⟨_,1,rfl, ?_⟩
  have:=BU (σ:=List.map Obj.fr τ) (id:=jd) (n:=ps.length) (k:=3) (xs:=ps.map St.cells) (by rw [List.getElem?_map,h2];rfl) hB (by simp)
  rw [this];simp
end Go.V
namespace Go.V
open Go.Proofs
set_option maxRecDepth 100000
theorem LH (ks : List Kd) (i : Nat) (h : i < (aO ks).length) : ∃ J,∃ hJ : J < ks.length,(aO (ks.take J)).length≤i∧i < (aO (ks.take (J+1))).length:=by
 induction ks generalizing i with
 | nil=>simp [aO] at h
 | cons k ks ih =>
  by_cases hk : i < k.2.length
  ·exact ⟨0,by simp,by simp [aO],by simpa [aO] using hk⟩
  ·rw [gG,List.length_append] at h
   obtain ⟨J,hJ,h1,h2⟩:=ih (i-k.2.length) (by omega)
   refine ⟨J+1,by simpa using hJ, ?_, ?_⟩
   ·rw [List.take_succ_cons,gG,List.length_append];omega
   ·rw [List.take_succ_cons,gG,List.length_append];omega
theorem RQ (ks : List Kd) (J : Nat) (hJ : J < ks.length) (i : Nat) (h1 : (aO (ks.take J)).length≤i) (h2 : i < (aO (ks.take (J+1))).length) : (aO ks)[i]?=ks[J].2[i-(aO (ks.take J)).length]?:=by
 have e : aO ks=aO (ks.take J)++(ks[J].2++aO (ks.drop (J+1))):=by
  rw [← gG,← dL,← List.drop_eq_getElem_cons hJ,List.take_append_drop]
 have h3:=iy ks J hJ
 rw [e,List.getElem?_append_right h1,List.getElem?_append_left (by omega)]
theorem U7 (root : VV) (xs : List (List VV)) (h : RP root xs) (hl : xs.length≤1000000) (i : Nat) (hi : i < xs.length) : PV Tryz.prog G0 137 [.agg [root],.int .i64 i] (.bool true):=by
 have hL:=Bf root xs h
 have hc:=h.cell
 simp only [go_sem,seval] at hc
 rcases h with ⟨rfl,rfl⟩ | ⟨d,h⟩
 ·simp at hi
 have hp:=h.ne.2.1
 refine pv e137 (by simp) (by simp only [VV.ak,VV.isPure,hp];rfl) rfl ?_
 have c1 : decide ((0 : Int)≤(i : Int))=true:=decide_eq_true (by omega)
 have c2 : decide ((i : Int) < (xs.length : Int))=true:=decide_eq_true (by omega)
 simp only [go_sem,seval,c137,hc]
 simp only [go_sem,seval,c1]
 refine ah (hL) ?_<;>simp only [go_sem,seval]
 simp only [go_sem,seval,c2]
 exact fin (by rfl) rfl
theorem Lc (root : VV) (xs : List (List VV)) (h : RP root xs) (hl : xs.length≤1000000) (i : Nat) (hi : i < xs.length) : PV Tryz.prog G0 89 [.agg [root],.int .i64 i] (.tup [.agg xs[i],.bool true]):=by
 have hH:=U7 root xs h hl i hi
 rcases h with ⟨rfl,rfl⟩ | ⟨d,h⟩
 ·simp at hi
 have hB:=h.ne.2.2.1
 have hpx : VV.ak xs[i]=true:=hB.pure _ (List.getElem_mem _)
 have b7 : xs[i].length=11:=hB.len _ (List.getElem_mem _)
 have b8 : xs[i].all VV.aC=true:=hB.cell _ (List.getElem_mem _)
 have b9 : xs[i].take 11=xs[i]:=List.take_of_length_le (by omega)
 have hp:=h.ne.2.1
 obtain ⟨a,b,hr⟩:=h.cells
 obtain ⟨σ0,hσ0⟩ : ∃ σ0,σ0=[Obj.own [root],Obj.own Vl.zero.cells]:=⟨_,rfl⟩
 have g0 : σ0[0]?=some (.own [root]):=by rw [hσ0];rfl
 have g1 : σ0[1]?=some (.own Vl.zero.cells):=by rw [hσ0];rfl
 refine pv e89 (by simp) (by simp only [VV.ak,VV.isPure,hp];rfl) (by simp only [VV.ak,VV.isPure,hpx];rfl) ?_
 subst hr
 simp only [go_sem,seval,c89]
 refine ah (hH) ?_<;>simp only [go_sem,seval,Bool.not_true]
 have z : [Obj.own [.ptr [.int .i64 xs.length,.int .i64 d,a,b] 0],Obj.own [.int .i64 0,.int .i64 0,.str [],.int .i64 0,.nilp,.int .u64 0,.int .i64 0,.int .i64 0,.nilp,.int .i64 0,.int .i64 0]]=σ0:=by rw [hσ0];rfl
 simp only [go_sem,seval,z]
 refine bf (M:=fun ρ σ=>∃ (w : VV) (ys : List (List VV)) (j : Nat) (t : Bool),j < ys.length∧ys.length≤1000000∧dh 11 ys∧ys[j]?=some xs[i]∧ρ.get 1=.int .i64 j∧ρ.get 4=.mptr 1 0∧ρ.get 7=.ptr [.int .i64 ys.length,.int .i64 1,.nils,.sl ys.length ys.flatten t] 0∧σ0=σ) ?_ ?_
 rotate_left
 ·refine aF (fun m ρ σ=>∃ (v : VV) (ys : List (List VV)) (j : Nat),RN m v ys∧j < ys.length∧ys.length≤1000000∧ys[j]?=some xs[i]∧ρ.get 1=.int .i64 j∧ρ.get 4=.mptr 1 0∧ρ.get 7=v∧σ0=σ) (n:=d) ?_ ⟨_,xs,i,h,hi,hl,List.getElem?_eq_getElem hi,rfl,rfl,rfl,rfl⟩
  rintro m ρ σ ⟨v,ys,j,hR,hj,hyl,hg,q1,q4,q7,rfl⟩
  have hm1:=hR.ne.2.2.2
  rcases hR.inv with ⟨rfl,w,hw,rfl⟩ | ⟨e,w,ks,rfl,he,hk,hk2,rfl,rfl⟩
  ·obtain ⟨t,rfl⟩:=hw.fP hR.ne.1
   simp only [go_sem,seval,q1,q4,q7]
   refine ⟨.nils,ys,j,t,hj,hyl,hR.ne.2.2.1,hg, ?_⟩
   simp
  ·obtain ⟨t,rfl⟩:=hk.fP (by intro e;rw [e] at hk2;simp at hk2)
   have hkl:=KL.nK hk.rn
   have c0 : decide ((1 : Int) < ((e+1 : Nat) : Int))=true:=decide_eq_true (by omega)
   obtain ⟨J,hJ,hJ1,hJ2⟩:=LH ks j hj
   have hget:=RQ ks J hJ j hJ1 hJ2
   have hsJ:=iy ks J hJ
   have hgk : ∀ i (hi : i < ks.length),∃ a b,(ks.map (·.1)).getD i .undef=.ptr [.int .i64 ks[i].2.length,.int .i64 e,a,b] 0:=by
    intro i hi
    obtain ⟨a,b,hab⟩:=(hk.rn ks[i] (List.getElem_mem hi)).cells
    exact ⟨a,b,by rw [List.getD_eq_getElem?_getD,List.getElem?_map,List.getElem?_eq_getElem hi];exact hab⟩
   have hmono : ∀ a b,a≤b→(aO (ks.take a)).length≤(aO (ks.take b)).length:=by
    intro a b hab
    have:=iR (ks.take b) a
    rwa [List.take_take,Nat.min_eq_left hab] at this
   simp only [go_sem,seval,q1,q4,q7,c0]
   refine bf (M:=fun ρ σ=>ρ.get 1=.int .i64 (j-(aO (ks.take J)).length : Nat)∧ρ.get 4=.mptr 1 0∧ρ.get 7=.ptr [.int .i64 (aO ks).length,.int .i64 (e+1 : Nat),.sl ks.length (ks.map (·.1)) t,.nils] 0∧ρ.get 8=.int .i64 J∧σ0=σ) ?_ ?_
   rotate_left
   ·refine aF (fun m ρ σ=>∃ u : Nat,m=J-u∧u≤J∧ρ.get 1=.int .i64 (j-(aO (ks.take u)).length : Nat)∧ρ.get 4=.mptr 1 0∧ρ.get 7=.ptr [.int .i64 (aO ks).length,.int .i64 (e+1 : Nat),.sl ks.length (ks.map (·.1)) t,.nils] 0∧ρ.get 8=.int .i64 u∧σ0=σ) (n:=J) ?_ ⟨0,rfl,by omega,by simp [aO,Env.get,q1],by simp [Env.get,q4],by simp [Env.get,q7],rfl,rfl⟩
    rintro m ρ σ ⟨u,rfl,hu,q1,q4,q7,q8,rfl⟩
    have hul : u < ks.length:=by omega
    obtain ⟨ka,kb,gu⟩:=hgk u hul
    have hs1:=iy ks u hul
    have c1 : (0 : Int)≤(u : Int):=by omega
    have c2 : (u : Int) < (ks.length : Int):=by omega
    have c3 : u < (ks.map (·.1)).length:=by simpa using hul
    have c6 : IntKind.i64.wrap ((u : Int)+1)=((u+1 : Nat) : Int):=by rw [iw (by omega)];omega
    simp only [go_sem,seval,q1,q4,q7,q8,Int.toNat_natCast,Nat.mul_one,gu,c1,c2,c3]
    have hmu:=hmono u J hu
    refine aG (fun hc=>?_) (fun hc=>?_)
    ·have huJ : u < J:=by
      simp at hc
      rcases Nat.lt_or_ge u J with h | h
      ·exact h
      ·obtain rfl : u=J:=by omega
       omega
     have hm:=hmono (u+1) J huJ
     have c7 : IntKind.i64.wrap (((j-(aO (ks.take u)).length : Nat) : Int)-(ks[u].2.length : Int))=((j-(aO (ks.take (u+1))).length : Nat) : Int):=by rw [iw (by omega)];omega
     simp only [go_sem,seval,q1,q4,q7,q8,Int.toNat_natCast,Nat.mul_one,gu,c1,c2,c3,c6,c7]
     refine ⟨J-(u+1),by omega,u+1, ?_⟩
     and_intros
     all_goals first | rfl | omega | assumption
    ·have huJ : u=J:=by
      simp at hc
      rcases Nat.lt_or_ge u J with h | h
      ·have hm:=hmono (u+1) J h
       omega
      ·omega
     subst huJ
     simp only [go_sem,seval,q1,q4,q7,q8]
   ·rintro ρ σ ⟨q1,q4,q7,q8,rfl⟩
    obtain ⟨ka,kb,gJ⟩:=hgk J hJ
    have c1 : (0 : Int)≤(J : Int):=by omega
    have c2 : (J : Int) < (ks.length : Int):=by omega
    have c3 : J < (ks.map (·.1)).length:=by simpa using hJ
    simp only [go_sem,seval,q1,q4,q7,q8,Int.toNat_natCast,Nat.mul_one,gJ,c1,c2,c3]
    have hJR:=hk.rn ks[J] (List.getElem_mem hJ)
    refine ⟨e,by omega,ks[J].1,ks[J].2,j-(aO (ks.take J)).length,hJR,by omega, ?_,by rw [← hget];exact hg, ?_⟩
    ·have:=iR ks (J+1);omega
    ·rw [List.getD_eq_getElem?_getD,List.getElem?_map,List.getElem?_eq_getElem hJ] at gJ
     and_intros
     all_goals first | rfl | assumption | exact gJ.symm
 ·rintro ρ σ ⟨w,ys,j,t,hj,hyl,hBy,hg,q1,q4,q7,rfl⟩
  have c1 : (0 : Int)≤(j : Int):=by omega
  have c2 : (j : Int) < (ys.length : Int):=by omega
  have c3 : j*11+11≤ys.flatten.length:=by rw [hBy.flat];omega
  have c4 : (ys.flatten.drop (j*11)).take 11=xs[i]:=by rw [hBy.og hj];rw [List.getElem?_eq_getElem hj] at hg;exact Option.some.inj hg
  rw [show Vl.zero.cells=[.int .i64 0,.int .i64 0,.str [],.int .i64 0,.nilp,.int .u64 0,.int .i64 0,.int .i64 0,.nilp,.int .i64 0,.int .i64 0] from rfl] at g1
  have g2:=(List.getElem?_eq_some_iff.1 g1).1
  simp only [go_sem,seval,q1,q4,q7,Int.toNat_natCast,c1,c2,c3,c4,g1,b7,b8,b9,List.getElem?_set_self g2]
  exact fin (by simp only [VV.ak,VV.isPure,hpx];rfl) rfl
end Go.V
namespace Go.V
open Go.Proofs
set_option maxRecDepth 100000
theorem Gt (x y : Vl) (hx : x.ok) (hy : y.ok) (hk : x.k=4) (hr0 : x.hr=.nilp) (xs : List (List VV)) (hR : RP x.root xs) (hl : xs.length≤1000000) (i : Nat) (hi : i < xs.length) (hxy : xs[i]=y.cells) :
  PV Tryz.prog G0 44 [x.vv,lJ 0 i []] (IL (some y)):=by
 have hpu:=sQ (o:=some y) (by rintro _ ⟨⟩;exact hy)
 have hF:=NK x hx 0 i [] (by omega) hk
 have hG:=Ol x.seed x.bits x.n x.hr [] (.inl ⟨hr0,rfl⟩) (by simp) (by simp) [] (by simp)
 have hT:=Lc x.root xs hR hl i hi
 rw [hxy] at hT
 have h2:=hx.rc
 simp only [go_sem,seval] at h2
 refine pv e44 (by simp) (by simp [VV.ak,VV.isPure,Vl.vv,hx.pure]) hpu ?_
 have d1 : x.cells.length=11:=rfl
 have d2 : x.cells.all VV.aC=true:=hx.cell
 have d3 : x.cells.take 11=x.cells:=rfl
 have dx : x.cells.getD 3 .undef=.int .i64 4:=by rw [← hk];rfl
 have dd : (List.drop 5 x.cells).take 4=[.int .u64 x.seed,.int .i64 x.bits,.int .i64 x.n,x.hr]:=rfl
 have de : (List.drop 4 x.cells).take 1=[x.root]:=rfl
 have z4 : Vl.zero.cells.drop 11=[]:=rfl
 have z1 : Vl.zero.cells.length=11:=rfl
 have z2 : Vl.zero.cells.all VV.aC=true:=rfl
 have z3 : Vl.zero.cells.take 11=Vl.zero.cells:=rfl
 have f1 : y.cells.length=11:=rfl
 have f2 : y.cells.all VV.aC=true:=hy.cell
 have f3 : y.cells.take 11=y.cells:=rfl
 simp only [go_sem,seval,c44,Vl.vv,d1,d2,d3]
 refine ah (hF) ?_<;>simp only [go_sem,seval,d1,d2,d3,Vl.vv,dx,dd,de]
 refine ah (hG) ?_<;>simp only [go_sem,seval,d1,d2,d3,Vl.vv,dx,dd,de,Ic,lk,List.find?_nil,Option.map_none,z1,z2,z3]
 refine ah (hT) ?_<;>simp only [go_sem,seval,d1,d2,d3,Vl.vv,z1,z2,z3,z4,List.append_nil,dx,dd,de,f1,f2,f3,Bool.not_true]
 exact fin hpu rfl
end Go.V
namespace Go.V
def O4 (k i : Int) (t : Bs) : Bs:=if k=0 then [110,117,108,108] else if k=1 then (if i=0 then [102,97,108,115,101] else [116,114,117,101]) else if k=2 then TS i else BH t
mutual
def T.enc : T→Bs
 | .sc k i t=>O4 k i t
 | .vec l=>91::(T.encs false l++[93])
 | .map l=>123::(T.wU false l++[125])
 | .set l=>60::(T.encs false l++[62])
def T.encs : Bool→List T→Bs
 | _,[]=>[]
 | b,x::l=>(if b then [44] else [])++(x.enc++T.encs true l)
def T.wU : Bool→List (Bs × T)→Bs
 | _,[]=>[]
 | b,p::l=>(if b then [44] else [])++(BH p.1++58::(p.2.enc++T.wU true l))
end
end Go.V
namespace Go.V
open Go.Proofs
set_option maxRecDepth 100000
structure WJ (σ : Store) (b : VV) (A : Nat) (x : Vl) (σ' : Store) (bb : VV) (bytes : Bs) : Prop where
 hx : σ'[A]?=some (.own x.cells)
 hB : lU σ' bb bytes
 hK : Kept σ b σ'
 hN : New σ b bb
theorem WJ.app {σ : Store} {b : VV} {A : Nat} {x : Vl} {σ' σ'' : Store} {bb v : VV} {by1 by2 : Bs} (h : WJ σ b A x σ' bb by1) (h1 : lU σ'' v by2) (h2 : Kept σ' bb σ'') (h3 : New σ' bb v) : WJ σ b A x σ'' v by2 :=
 ⟨by rw [h2.2 A (List.getElem?_eq_some_iff.1 h.hx).1 (h.hB.not h.hx (sN x))];exact h.hx,h1,h.hK.trans h.hN h2,h.hN.trans h.hK.1 h3⟩
theorem Kept.snoc {σ σ' : Store} {b : VV} (h : Kept σ b σ') (τ : Store) : Kept σ b (σ'++τ):=by
 refine ⟨by have:=h.1;simp;omega,fun j hj hne=>?_⟩
 rw [List.getElem?_append_left (Nat.lt_of_lt_of_le hj h.1)]
 exact h.2 j hj hne
theorem WJ.snoc {σ : Store} {b : VV} {A : Nat} {x : Vl} {σ' : Store} {bb : VV} {by1 : Bs} (h : WJ σ b A x σ' bb by1) (τ : Store) : WJ σ b A x (σ'++τ) bb by1 :=
 ⟨by rw [List.getElem?_append_left (List.getElem?_eq_some_iff.1 h.hx).1];exact h.hx,h.hB.snoc _,h.hK.snoc _,h.hN⟩
theorem Ux (p : St) : ∀ b : Bs,p.cells≠b.map aU:=by
 intro b e
 cases b with
 | nil=>cases e
 | cons c b=>simp [St.cells,aU] at e
theorem WJ.keep {σ : Store} {b : VV} {A : Nat} {x : Vl} {σ' σ'' : Store} {bb : VV} {by1 : Bs} (h : WJ σ b A x σ' bb by1) {B : Nat} {p : St} (hp : σ'[B]?=some (.own p.cells)) (h2 : Kept σ' bb σ'') : σ''[B]?=some (.own p.cells):=by
 rw [h2.2 B (List.getElem?_eq_some_iff.1 hp).1 (h.hB.not hp (Ux p))];exact hp
end Go.V
namespace Go.V
theorem Gx (c : UInt8) : (BX c).length≤6:=by
 unfold BX
 repeat' split
 all_goals simp
theorem tJ (s : Bs) : (BH s).length≤6*s.length+2:=by
 have key : (s.flatMap BX).length≤6*s.length:=by
  induction s with
  | nil=>simp
  | cons c s ih=>have:=Gx c;simp only [List.flatMap_cons,List.length_append,List.length_cons];omega
 unfold BH
 simp only [List.length_cons,List.length_append,List.length_nil]
 omega
theorem Py (i : Int) (h : -9223372036854775808≤i∧i≤9223372036854775807) : (TS i).length≤20:=by
 have:=CU i.natAbs 18 (by omega)
 unfold TS
 split
 ·simp;omega
 ·omega
end Go.V
namespace Go.V
open Go.Proofs
set_option maxRecDepth 100000
def T.kd : T→Int
 | .sc k _ _=>k
 | .vec _=>4
 | .map _=>5
 | .set _=>6
theorem oL.kd {v : T} {x : Vl} (h : oL v x) : x.k=v.kd:=by cases h<;>rfl
end Go.V
