/- Texts F62 F63 F64. -/
import Derived.Test.YthhjefemijhamaaGreatDoorG35
set_option linter.unusedVariables false
set_option linter.unusedSimpArgs false
namespace Go.V
open Go.Proofs
set_option maxRecDepth 100000
theorem Kr {α β : Type} (g : α→β) (k : Bs) : ∀ l : List (Bs × α),lk (l.map fun q=>(q.1,g q.2)) k=(lk l k).map g
 | []=>rfl
 | (k',x)::l=>by
  have ih:=Kr g k l
  unfold lk at ih ⊢
  simp only [List.map_cons]
  by_cases h : k'=k
  ·subst h;simp
  ·rw [List.find?_cons_of_neg (by simpa using h),List.find?_cons_of_neg (by simpa using h)]
   exact ih
theorem JR {kd seed bits : Int} {lim : Nat} {items : List (Bs × (T × Vl))} {x : Vl} {hr : VV} {ps : List iP} (hri : jB items) (hp : ps.Perm (items.map fun q=>(q.1,q.2.2))) (hM : kT (kW seed bits) hr ps) (k : Bs) : (Go.V.lk ps k).isSome=(Go.V.lk (items.map fun q=>(q.1,q.2.1)) k).isSome:=by
 rw [Wi hM.nodup hp.symm,Kr (fun q=>q.2) k items,Kr (fun q=>q.1) k items]
 cases Go.V.lk items k<;>rfl
theorem wV {α β : Type} (g : α→β) (k : Bs) (x : α) : ∀ l : List (Bs × α),(bP k x l).map (fun q=>(q.1,g q.2))=bP k (g x) (l.map fun q=>(q.1,g q.2))
 | []=>rfl
 | (k',x')::l=>by
  have ih:=wV g k x l
  simp only [bP,List.map_cons]
  split
  ·rfl
  ·split
   ·rfl
   ·simp only [List.map_cons,ih]
theorem sN {α : Type} {l : List (Bs × α)} {k : Bs} (h : (lk l k).isSome=false) : lk l k=none:=by simpa using h
theorem ZA.ins {kd seed bits : Int} {lim : Nat} {items : List (Bs × (T × Vl))} {x y : Vl} {v : T} {k : Bs} (hri : jB items) (hrv : ∀ q ∈ items,zD q.2.1 q.2.2) (hok : ∀ q ∈ items,q.2.2.ok∧q.1.length≤lim) (hy : zD v y) (hyo : y.ok) (hk : k.length≤lim)
  (hno : lk (items.map fun q=>(q.1,q.2.1)) k=none) {ps qs : List iP} {hr' : VV} (hp : ps.Perm (items.map fun q=>(q.1,q.2.2))) (hq : qs.Perm ((k,y)::ps)) (hM : kT (kW seed bits) hr' qs) (hb : x.below=maxD (items.map (·.2.2))) (hm : x.more=eG (items.map (·.2.2)))
  (hx : x.sk=0∧x.si=0∧x.st=[]∧x.k=kd∧x.root=.nilp∧x.seed=seed∧x.bits=bits∧x.n=items.length) :
  ZA kd seed bits lim (bP k (v,y) items) { x with n:=x.n+1,hr:=hr',below:=max x.below (y.below+1),more:=x.more+(y.more+1) }:=by
 have hno' : ∀ q ∈ items,q.1≠k:=fun q hq e=>yV hno (q.1,q.2.1) (List.mem_map.2 ⟨q,hq,rfl⟩) e
 have hperm : (bP k (v,y) items).Perm ((k,(v,y))::items):=uh hno'
 have hmem : ∀ q ∈ bP k (v,y) items,q=(k,(v,y))∨q ∈ items:=fun q hq=>kQ hq
 refine ⟨jC hri,fun q hq=>?_,fun q hq=>?_,hr',qs, ?_,hM, ?_⟩
 ·rcases hmem q hq with rfl | h
  ·exact hy
  ·exact hrv q h
 ·rcases hmem q hq with rfl | h
  ·exact ⟨hyo,hk⟩
  ·exact hok q h
 ·refine (hq.trans (hp.cons _)).trans ?_
  exact (hperm.map fun q=>(q.1,q.2.2)).symm
 ·obtain ⟨a1,a2,a3,a4,a5,a6,a7,a8⟩:=hx
  have h1 : maxD ((bP k (v,y) items).map (·.2.2))=max x.below (y.below+1):=by
   have e1 : maxD ((bP k (v,y) items).map (·.2.2))=maxD ((items.map (·.2.2))++[y]):=EO ((hperm.map (·.2.2)).trans (by simpa using (List.perm_append_singleton y (items.map (·.2.2))).symm))
   rw [e1,yM,hb]
  have h2 : eG ((bP k (v,y) items).map (·.2.2))=x.more+(y.more+1):=by
   have e1 : eG ((bP k (v,y) items).map (·.2.2))=eG ((items.map (·.2.2))++[y]):=Ew ((hperm.map (·.2.2)).trans (by simpa using (List.perm_append_singleton y (items.map (·.2.2))).symm))
   rw [e1,yP,hm]
  have h3 : (bP k (v,y) items).length=items.length+1:=by simpa using hperm.length_eq
  rw [h1,h2,h3,← a6,← a7,← a4]
  cases x
  simp only at *
  subst a1 a2 a3 a5 a8
  simp
theorem Tc (f : Nat) (hV : Ih f) (seed bits : Int) (s : Bs) (a : Int) (n ns q : Nat) (R : On) (acc : List (Bs × T)) (x : Vl) (ha : lY a) (hs : s.length≤10000000)
  (hA : rG seed bits (.map acc) x) (hb : x.below+q≤64) (hq1 : 1≤q) (hn : ns+(x.more+1)=n) (hn2 : n≤16384) (hrd : one (fun a n q=>rd f s a n q .val) s a n q (.map acc)=some R) :
  ∃ X,Zy seed bits s q ns R X∧∀ (id tid rid did : Nat) (σ : Store),σ[id]?=some (RD seed bits s a n)→tid≠id→rid≠id→did≠id→σ[rid]?=some (.own [.mptr id 0])→σ[did]?=some (.own [.int .i64 q])→σ[tid]?=some (.own x.cells) →
   CV Tryz.prog G0 141 [.mptr rid 0,.mptr tid 0,.mptr did 0] σ (OnQ id tid seed bits s σ X R):=by
 have hxo : x.ok:=hA.ok (by omega) (by omega)
 obtain ⟨items,rfl,hri,hrv,hok,hr0,ps,hp,hM,hx⟩:=hA
 have hpl : ps.length=items.length:=by simpa using hp.length_eq
 have hsl:=jS (items.map (·.2.2))
 have hmx : x.more=eG (items.map (·.2.2)):=by subst hx;rfl
 have hbx : x.below=maxD (items.map (·.2.2)):=by subst hx;rfl
 have hM' : kT (kW x.seed x.bits) x.hr ps:=by subst hx;exact hM
 have hk5 : x.k=5:=by subst hx;rfl
 have hnx : x.n=items.length:=by subst hx;rfl
 have hpo : ∀ p ∈ ps,p.2.ok∧p.1.length≤1000000000:=fun p hpm=>by
  obtain ⟨q,hq,rfl⟩:=List.mem_map.1 (hp.mem_iff.1 hpm)
  exact ⟨(hok q hq).1,by have:=(hok q hq).2;simp only;omega⟩
 rw [← hmx] at hsl
 rw [List.length_map] at hsl
 have x7 : x.cells.length=11:=rfl
 have x8 : x.cells.all VV.aF=true:=hxo.cell
 have x9 : x.cells.take 11=x.cells:=rfl
 have xd : x.cells.drop 11=[]:=rfl
 have e1 : IntKind.i64.wrap ((q : Int)+1)=((q+1 : Nat) : Int):=by rw [iw (by omega)];omega
 simp only [one] at hrd
 have hX : ∃ X : Vl,Zy seed bits s q ns R X∧∀ (k xx e : Nat) (i : Int) (t : Bs) (x2 e2 : Nat) (i2 : Int) (v : T) (e' n' : Nat),aT s a=.tok k xx e i t→k=4→lk ps t=none→aT s e=.tok 1 x2 e2 i2 [58]→rd f s e2 n (q+1) .val=some (.ok v e' n') →
   ∃ y : Vl,y.ok∧(∀ (id : Nat) (σ : Store),σ[id]?=some (RD seed bits s e2 n)→CV Tryz.prog G0 57 [.mptr id 0,.int .i64 (q+1 : Nat)] σ (Pz id seed bits s σ y (.ok v e' n')))∧X.ok∧PV Tryz.prog G0 143 [x.vv,Un 1 0 t,y.vv] (.tup [X.vv,.int .i64 0]):=by
  cases hL : aT s a with
  | err c p=>rw [hL] at hrd;cases hrd;exact ⟨x,trivial,fun _ _ _ _ _ _ _ _ _ _ _ h=>by cases h⟩
  | tok k xx e i t =>
   obtain ⟨b0,b1,b2,b3,b4,b5,b6⟩:=aW hL
   rw [hL] at hrd
   simp only at hrd
   by_cases hk : k=4
   rotate_left
   ·rw [if_pos hk] at hrd;cases hrd;exact ⟨x,trivial,fun _ _ _ _ _ _ _ _ _ _ _ h h4=>by cases h;exact absurd h4 hk⟩
   rw [if_neg (by simpa using hk)] at hrd
   have hsame : (lk ps t).isSome=(lk (items.map fun q=>(q.1,q.2.1)) t).isSome:=JR (kd:=5) (lim:=0) (x:=x) hri hp hM t
   cases hlk : lk ps t with
   | some z =>
    rw [hlk] at hsame
    rw [if_pos (by rw [← hsame];rfl)] at hrd
    cases hrd
    exact ⟨x,trivial,fun _ _ _ _ _ _ _ _ _ _ _ h _ h5=>by cases h;rw [hlk] at h5;cases h5⟩
   | none =>
    rw [hlk] at hsame
    have hacc : lk (items.map fun q=>(q.1,q.2.1)) t=none:=sN hsame.symm
    rw [if_neg (by rw [← hsame];decide)] at hrd
    cases hL2 : aT s e with
    | err c p=>rw [hL2] at hrd;cases hrd;exact ⟨x,trivial,fun _ _ _ _ _ _ _ _ _ _ _ h _ _ h6=>by cases h;rw [hL2] at h6;cases h6⟩
    | tok k2 x2 e2 i2 t2 =>
     obtain ⟨d0,d1,d2,d3,d4,d5,d6⟩:=aW hL2
     rw [hL2] at hrd
     simp only at hrd
     by_cases h58 : k2=1∧t2=[58]
     rotate_left
     ·rw [if_neg h58] at hrd;cases hrd;exact ⟨x,trivial,fun _ _ _ _ _ _ _ _ _ _ _ h _ _ h6=>by cases h;rw [hL2] at h6;cases h6;exact absurd ⟨rfl,rfl⟩ h58⟩
     rw [if_pos h58] at hrd
     cases hrd1 : rd f s e2 n (q+1) .val with
     | none=>rw [hrd1] at hrd;cases hrd
     | some R1 =>
      rw [hrd1] at hrd
      cases R1 with
      | er c p=>cases hrd;exact ⟨x,trivial,fun _ _ _ _ _ _ _ _ _ _ _ h _ _ h6 h7=>by cases h;rw [hL2] at h6;cases h6;rw [hrd1] at h7;cases h7⟩
      | ok v e' n' =>
       cases hrd
       obtain ⟨y,⟨hy,hyo,hyb,hyn,hn',he⟩,ih⟩:=hV seed bits s e2 n (q+1) (.ok v e' n') (iL (by omega)) hs (by omega) (by omega) hn2 hrd1
       obtain ⟨hr',qs,hM2,hq2,hp2,hc2,hP⟩:=Yn x y hxo hyo hk5 ps hM' hpo (by rw [hnx,hpl]) (by omega) 0 t (by omega) hlk (by omega) (by omega)
       unfold oO at hP
       rw [if_neg (by omega),if_neg (by omega)] at hP
       obtain ⟨x',hx'⟩ : ∃ x' : Vl,x'={ x with n:=x.n+1,hr:=hr',below:=max x.below (y.below+1),more:=x.more+(y.more+1) }:=⟨_,rfl⟩
       rw [← hx'] at hP
       have hsx : x.seed=seed∧x.bits=bits:=by subst hx;exact ⟨rfl,rfl⟩
       rw [hsx.1,hsx.2] at hM2
       have hA' : rG seed bits (.map (bP t v (items.map fun q=>(q.1,q.2.1)))) x':=by
        refine ⟨bP t (v,y) items,(wV (fun q=>q.1) t (v,y) items).symm, ?_⟩
        rw [hx']
        exact ZA.ins hri hrv hok hy hyo (by omega) hacc hp hq2 hM2 hbx hmx (by subst hx;exact ⟨rfl,rfl,rfl,rfl,rfl,rfl,rfl,rfl⟩)
       have hb' : x'.below+q≤64:=by subst hx';simp only;omega
       have hm' : ns+(x'.more+1)=n':=by subst hx';simp only;omega
       have hxo' : x'.ok:=hA'.ok (by omega) (by omega)
       refine ⟨x',⟨hA',hb',hm',hn',he⟩,fun _ _ _ _ _ _ _ _ _ _ _ h _ _ h6 h7=>?_⟩
       cases h;rw [hL2] at h6;cases h6;rw [hrd1] at h7;cases h7
       exact ⟨y,hyo,ih,hxo',hP⟩
 obtain ⟨X,hXv,hX⟩:=hX
 refine ⟨X,hXv,fun id tid rid did σ hσ hne hne2 hne3 hr hd ht=>?_⟩
 have hid:=(List.getElem?_eq_some_iff.1 hσ).1
 have hrl:=(List.getElem?_eq_some_iff.1 hr).1
 have htl:=(List.getElem?_eq_some_iff.1 ht).1
 have hdl:=(List.getElem?_eq_some_iff.1 hd).1
 refine cv e141 (by simp) ?_
 simp only [go_sem,seval,c141,hr]
 refine CV.mono (QJ id seed bits s a n σ hσ ha hs) ?_
 rintro _ σ1 ⟨rfl,hCn,hG⟩
 cases hL : aT s a with
 | err c p =>
  rw [hL] at hrd
  simp only [Option.some.injEq] at hrd
  subst hrd
  simp only [go_sem,seval,vP,aO]
  exact ⟨rfl,hCn.mono fun _ h=>.inl h⟩
 | tok k xx e i t =>
  obtain ⟨b0,b1,b2,b3,b4,b5,b6⟩:=aW hL
  have hG:=hG _ _ _ _ _ hL
  rw [hL] at hrd
  simp only at hrd
  have l1:=hCn.len
  obtain ⟨σ2,h2⟩ : ∃ σ2,σ2=σ1++[Obj.own [.int .i64 k,.int .i64 xx,.int .i64 e,.int .i64 i,.str t]]:=⟨_,rfl⟩
  have g0 : σ2.length=σ1.length+1:=by rw [h2];simp
  have g1 : σ2[σ1.length]?=some (.own [.int .i64 k,.int .i64 xx,.int .i64 e,.int .i64 i,.str t]):=by rw [h2];simp
  have g2 : ∀ j,j < σ.length→j≠id→σ2[j]?=σ[j]?:=fun j hj hne=>by rw [h2,List.getElem?_append_left (by omega),hCn.same j hj hne]
  have g3 : σ2[id]?=some (RD seed bits s e n):=by rw [h2,List.getElem?_append_left (by omega)];exact hG.2
  simp only [go_sem,seval,vP,aO,dW,SS,← h2,g1]
  refine aj (fun hc=>?_) (fun hc=>?_)
  ·have hk : k≠4:=by intro h;subst h;simp at hc
   rw [if_pos hk,Option.some.injEq] at hrd
   subst hrd
   simp only [go_sem,seval,g1]
   refine CV.mono (jo 2 xx _) ?_
   rintro _ σ' ⟨rfl,rfl⟩
   simp only [go_sem,seval,aO]
   exact ⟨rfl,⟨by omega,fun j hj hn=>g2 j hj (by omega)⟩⟩
  ·have hk : k=4:=by simp at hc;omega
   rw [if_neg (by simpa using hk)] at hrd
   have hG1:=GK x hxo ps hM' (fun q hq=>(hpo q hq).1) (by omega) 1 0 t (.inl rfl) (by rw [hk5];rfl) (by omega)
   have hsame : (lk ps t).isSome=(lk (items.map fun q=>(q.1,q.2.1)) t).isSome:=JR (kd:=5) (lim:=0) (x:=x) hri hp hM t
   obtain ⟨σ3,h3⟩ : ∃ σ3,σ3=σ2++[Obj.own [.int .i64 1,.int .i64 0,.str t]]:=⟨_,rfl⟩
   have m0 : σ3.length=σ2.length+1:=by rw [h3];simp
   have m1 : σ3[σ1.length]?=some (.own [.int .i64 k,.int .i64 xx,.int .i64 e,.int .i64 i,.str t]):=by rw [h3,List.getElem?_append_left (by omega)];exact g1
   have m2 : ∀ j,j < σ.length→j≠id→σ3[j]?=σ[j]?:=fun j hj hne=>by rw [h3,List.getElem?_append_left (by omega)];exact g2 j hj hne
   have m3 : σ3[id]?=some (RD seed bits s e n):=by rw [h3,List.getElem?_append_left (by omega)];exact g3
   have m4 : σ3[σ2.length]?=some (.own [.int .i64 1,.int .i64 0,.str t]):=by rw [h3];simp
   have m5 : σ3[tid]?=some (.own x.cells):=by rw [m2 tid htl hne];exact ht
   simp only [Vl.vv] at hG1
   simp only [go_sem,seval,g1,SS,← h3,m4,m5,x7,x8,x9]
   refine ah (hG1) ?_<;>simp only [go_sem,seval,m4,m5,x7,x8,x9]
   cases hlk : lk ps t with
   | some z =>
    rw [hlk] at hsame
    rw [if_pos (by rw [← hsame];rfl),Option.some.injEq] at hrd
    subst hrd
    have hzo : z.ok:=(hpo _ (yF hlk)).1
    have z7 : z.cells.length=11:=rfl
    have z8 : z.cells.all VV.aF=true:=hzo.cell
    have z9 : z.cells.take 11=z.cells:=rfl
    have n1 : ∀ o,(σ3++[o])[σ1.length]?=some (.own [.int .i64 k,.int .i64 xx,.int .i64 e,.int .i64 i,.str t]):=fun o=>by rw [List.getElem?_append_left (by omega)];exact m1
    simp only [go_sem,seval,xM,Vl.vv,z7,z8,z9,SS,n1]
    refine CV.mono (jo 6 xx _) ?_
    rintro _ σ' ⟨rfl,rfl⟩
    simp only [go_sem,seval,aO]
    exact ⟨rfl,⟨by simp;omega,fun j hj hn=>by rw [List.getElem?_append_left (by omega)];exact m2 j hj (by omega)⟩⟩
   | none =>
    rw [hlk] at hsame
    have hacc : lk (items.map fun q=>(q.1,q.2.1)) t=none:=sN hsame.symm
    rw [if_neg (by rw [← hsame];decide)] at hrd
    obtain ⟨σ4,h4⟩ : ∃ σ4,σ4=σ3++[Obj.own [.int .i64 0,.int .i64 0,.str [],.int .i64 0,.nilp,.int .u64 0,.int .i64 0,.int .i64 0,.nilp,.int .i64 0,.int .i64 0]]:=⟨_,rfl⟩
    have n0 : σ4.length=σ3.length+1:=by rw [h4];simp
    have n2 : ∀ j,j < σ.length→j≠id→σ4[j]?=σ[j]?:=fun j hj hne=>by rw [h4,List.getElem?_append_left (by omega)];exact m2 j hj hne
    have n3 : σ4[id]?=some (RD seed bits s e n):=by rw [h4,List.getElem?_append_left (by omega)];exact m3
    have n4 : σ4[σ2.length]?=some (.own [.int .i64 1,.int .i64 0,.str t]):=by rw [h4,List.getElem?_append_left (by omega)];exact m4
    have n6 : σ4[rid]?=some (.own [.mptr id 0]):=by rw [n2 rid hrl hne2];exact hr
    have n7 : σ4[σ3.length]?=some (.own [.int .i64 0,.int .i64 0,.str [],.int .i64 0,.nilp,.int .u64 0,.int .i64 0,.int .i64 0,.nilp,.int .i64 0,.int .i64 0]):=by rw [h4];simp
    have n8:=xI n7
    simp only [go_sem,seval,xM,Vl.zero,Vl.vv,Vl.cells,SS,← h4,n6,n7,n8]
    refine CV.mono (QW [58] id seed bits s e n σ4 n3 (iL (by omega)) hs) ?_
    rintro _ σ5 (⟨c,p,hL2,rfl,hCe⟩ | ⟨x2,e2,i2,hL2,rfl,hG2⟩ | ⟨k2,x2,e2,i2,t2,hL2,hn2',rfl,hCe⟩)
    ·rw [hL2] at hrd
     simp only [Option.some.injEq] at hrd
     subst hrd
     simp only [go_sem,seval,aO]
     have:=hCe.len
     exact ⟨rfl,⟨by omega,fun j hj hn=>by rw [hCe.same j (by omega) (by simp)];exact n2 j hj (by omega)⟩⟩
    ·rw [hL2] at hrd
     simp only [and_self,if_true] at hrd
     obtain ⟨d0,d1,d2,d3,d4,d5,d6⟩:=aW hL2
     cases hrd1 : rd f s e2 n (q+1) .val with
     | none=>rw [hrd1] at hrd;cases hrd
     | some R1 =>
      rw [hrd1] at hrd
      have l5:=hG2.1.len
      have o2 : ∀ j,j < σ4.length→j≠id→σ5[j]?=σ4[j]?:=fun j hj hne=>hG2.1.same j hj hne
      have o3 : σ5[tid]?=some (.own x.cells):=by rw [o2 tid (by omega) hne,n2 tid htl hne];exact ht
      have o4 : σ5[σ2.length]?=some (.own [.int .i64 1,.int .i64 0,.str t]):=by rw [o2 _ (by omega) (by omega)];exact n4
      have o5 : σ5[rid]?=some (.own [.mptr id 0]):=by rw [o2 rid (by omega) hne2,n2 rid hrl hne2];exact hr
      have o6 : σ5[did]?=some (.own [.int .i64 q]):=by rw [o2 did (by omega) hne3,n2 did hdl hne3];exact hd
      cases R1 with
      | er c p =>
       simp only [Option.some.injEq] at hrd
       subst hrd
       obtain ⟨_,_,ih⟩:=hV seed bits s e2 n (q+1) (.er c p) (iL (by omega)) hs (by omega) (by omega) hn2 hrd1
       simp only [go_sem,seval,aO,o3,o4,o5,o6,x7,x8,x9,e1]
       refine CV.mono (ih id σ5 hG2.2) ?_
       rintro r σ6 ⟨rfl,hCe⟩
       have l6:=hCe.len
       simp only [go_sem,seval,aO]
       intro ρ'
       refine ⟨rfl,⟨by omega,fun j hj hn=>?_⟩⟩
       rw [hCe.same j (by omega) (by omega),o2 j (by omega) (by omega),n2 j hj (by omega)]
      | ok v e' n' =>
       simp only [Option.some.injEq] at hrd
       subst hrd
       obtain ⟨y,hyo,ih,hxo',hP⟩:=hX k xx e i t x2 e2 i2 v e' n' hL hk hlk hL2 hrd1
       simp only [go_sem,seval,aO,o3,o4,o5,o6,x7,x8,x9,e1]
       refine CV.mono (ih id σ5 hG2.2) ?_
       rintro r σ6 ⟨rfl,hC,hσ6⟩
       have l6:=hC.len
       have p3 : σ6[tid]?=some (.own x.cells):=by rw [hC.same tid (by omega) hne];exact o3
       have p4 : σ6[σ2.length]?=some (.own [.int .i64 1,.int .i64 0,.str t]):=by rw [hC.same _ (by omega) (by omega)];exact o4
       have hlt:=(List.getElem?_eq_some_iff.1 p3).1
       have y7 : y.cells.length=11:=rfl
       have y8 : y.cells.all VV.aF=true:=hyo.cell
       have y9 : y.cells.take 11=y.cells:=rfl
       have z7 : X.cells.length=11:=rfl
       have z8 : X.cells.all VV.aF=true:=hxo'.cell
       have z9 : X.cells.take 11=X.cells:=rfl
       simp only [Vl.vv] at hP
       simp only [go_sem,seval,aO,Vl.vv,p3,p4,x7,x8,x9,y7,y8,y9]
       refine aC (hP) (by simp only [go_sem,seval,p3,p4,x7,x8,x9,y7,y8,y9]) ?_<;>simp only [go_sem,seval,p3,p4,x7,x8,x9,y7,y8,y9]
       have hD:=vO _ hxo' 0 σ6
       simp only [Vl.vv] at hD
       refine CV.mono hD ?_
       rintro _ σ7 ⟨rfl,hC7⟩
       have l7:=hC7.len
       have r3 : σ7[tid]?=some (.own x.cells):=by rw [hC7.same tid hlt (by simp)];exact p3
       have hlt2:=(List.getElem?_eq_some_iff.1 r3).1
       have r4 : σ7[id]?=some (RD seed bits s e' n'):=by rw [hC7.same id (List.getElem?_eq_some_iff.1 hσ6).1 (by simp)];exact hσ6
       simp only [go_sem,seval,aO,r3,x7,xd,z7,z8,z9]
       refine ⟨rfl, ?_, ?_, ?_⟩
       ·rw [List.getElem?_set_self hlt2]
       ·rw [List.getElem?_set_ne hne];exact r4
       ·refine ⟨by simp;omega,fun j hj hn=>?_⟩
        rw [List.getElem?_set_ne (by omega),hC7.same j (by omega) (by simp),hC.same j (by omega) (by omega),o2 j (by omega) (by omega),n2 j hj (by omega)]
    ·rw [hL2] at hrd
     simp only [if_neg hn2',Option.some.injEq] at hrd
     subst hrd
     simp only [go_sem,seval,aO]
     have:=hCe.len
     exact ⟨rfl,⟨by omega,fun j hj hn=>by rw [hCe.same j (by omega) (by simp)];exact n2 j hj (by omega)⟩⟩
end Go.V
namespace Go.V
open Go.Proofs
set_option maxRecDepth 100000
theorem TJ (x : Vl) (h : x.ok) (hr : x.root=.nilp) (n : Nat) (hn : x.n=n) (hl : n≤1000000) : PV Tryz.prog G0 27 [x.vv] (.int .i64 n):=by
 have:=RJ x h [] (.inl ⟨hr,rfl⟩) n hn (by simpa using hl)
 simpa using this
theorem YW (f : Nat) (hV : Ih f) (seed bits : Int) (s : Bs) (a : Int) (n ns q : Nat) (R : On) (acc : List (Bs × T)) (x : Vl) (ha : lY a) (hs : s.length≤10000000)
  (hA : rG seed bits (.set acc) x) (hb : x.below+q≤64) (hq1 : 1≤q) (hn : ns+(x.more+1)=n) (hn2 : n≤16384) (hrd : one (fun a n q=>rd f s a n q .val) s a n q (.set acc)=some R) :
  ∃ X,Zy seed bits s q ns R X∧∀ (id tid rid did : Nat) (σ : Store),σ[id]?=some (RD seed bits s a n)→tid≠id→rid≠id→did≠id→σ[rid]?=some (.own [.mptr id 0])→σ[did]?=some (.own [.int .i64 q])→σ[tid]?=some (.own x.cells) →
   CV Tryz.prog G0 144 [.mptr rid 0,.mptr did 0,.mptr tid 0] σ (OnQ id tid seed bits s σ X R):=by
 have hxo : x.ok:=hA.ok (by omega) (by omega)
 obtain ⟨items,rfl,⟨hri,hrv,hok,hr0,ps,hp,hM,hx⟩,hkk⟩:=hA
 have hpl : ps.length=items.length:=by simpa using hp.length_eq
 have hsl:=jS (items.map (·.2.2))
 have hmx : x.more=eG (items.map (·.2.2)):=by subst hx;rfl
 have hbx : x.below=maxD (items.map (·.2.2)):=by subst hx;rfl
 have hM' : kT (kW x.seed x.bits) x.hr ps:=by subst hx;exact hM
 have hk6 : x.k=6:=by subst hx;rfl
 have hrt : x.root=.nilp:=by subst hx;rfl
 have hnx : x.n=items.length:=by subst hx;rfl
 have hpo : ∀ p ∈ ps,p.2.ok∧p.1.length≤1000000000:=fun p hpm=>by
  obtain ⟨q,hq,rfl⟩:=List.mem_map.1 (hp.mem_iff.1 hpm)
  exact ⟨(hok q hq).1,(hok q hq).2⟩
 rw [← hmx] at hsl
 rw [List.length_map] at hsl
 have x7 : x.cells.length=11:=rfl
 have x8 : x.cells.all VV.aF=true:=hxo.cell
 have x9 : x.cells.take 11=x.cells:=rfl
 have xd : x.cells.drop 11=[]:=rfl
 have e1 : IntKind.i64.wrap ((q : Int)+1)=((q+1 : Nat) : Int):=by rw [iw (by omega)];omega
 simp only [one] at hrd
 have hsame:=fun k=>JR (kd:=6) (lim:=0) (x:=x) hri hp hM k
 have hX : ∃ X : Vl,Zy seed bits s q ns R X∧∀ (k xx e : Nat) (i : Int) (t : Bs) (v : T) (e' n' : Nat),aT s a=.tok k xx e i t→rd f s a n (q+1) .val=some (.ok v e' n') →
   ∃ y : Vl,y.ok∧(∀ (id : Nat) (σ : Store),σ[id]?=some (RD seed bits s a n)→CV Tryz.prog G0 57 [.mptr id 0,.int .i64 (q+1 : Nat)] σ (Pz id seed bits s σ y (.ok v e' n'))) ∧
    ((∃ z,lk ps v.key=some z∧PV Tryz.prog G0 145 [x.vv,y.vv] (.tup [x.vv,.int .i64 0]))∨(lk ps v.key=none∧X.ok∧X.root=.nilp∧X.n=items.length+1∧PV Tryz.prog G0 145 [x.vv,y.vv] (.tup [X.vv,.int .i64 0]))):=by
  cases hL : aT s a with
  | err c p=>rw [hL] at hrd;cases hrd;exact ⟨x,trivial,fun _ _ _ _ _ _ _ _ h=>by cases h⟩
  | tok k xx e i t =>
   rw [hL] at hrd
   simp only at hrd
   cases hrd1 : rd f s a n (q+1) .val with
   | none=>rw [hrd1] at hrd;cases hrd
   | some R1 =>
    rw [hrd1] at hrd
    cases R1 with
    | er c p=>cases hrd;exact ⟨x,trivial,fun _ _ _ _ _ _ _ _ _ h=>by cases h⟩
    | ok v e' n' =>
     simp only at hrd
     obtain ⟨y,⟨hy,hyo,hyb,hyn,hn',he⟩,ih⟩:=hV seed bits s a n (q+1) (.ok v e' n') ha hs (by omega) (by omega) hn2 hrd1
     have hkl : (v.key.length : Int)≤10*(e'-a):=by
      have:=rd_key f s a n (q+1) .val v e' n' hrd1
      simpa [Md.isVal] using this
     have hge : 0≤a:=(aW hL).2.1
     have hkb : v.key.length≤1000000000:=by omega
     rcases YL x y v hxo hyo hy hk6 ps hM' hpo (by rw [hnx,hpl]) (by omega) hkb (by omega) (by omega) with ⟨z,hlk,hP⟩ | ⟨hlk,hr',qs,hM2,hq2,hp2,hc2,hP⟩
     ·have hs1:=hsame v.key
      rw [hlk] at hs1
      rw [if_pos (by rw [← hs1];rfl)] at hrd
      cases hrd
      exact ⟨x,trivial,fun _ _ _ _ _ _ _ _ h h2=>by cases h2;exact ⟨y,hyo,ih,.inl ⟨z,hlk,hP⟩⟩⟩
     ·have hs1:=hsame v.key
      rw [hlk] at hs1
      have hacc : lk (items.map fun q=>(q.1,q.2.1)) v.key=none:=sN hs1.symm
      rw [if_neg (by rw [← hs1];decide)] at hrd
      cases hrd
      unfold oO at hP
      rw [if_neg (by omega),if_neg (by omega)] at hP
      obtain ⟨x',hx'⟩ : ∃ x' : Vl,x'={ x with n:=x.n+1,hr:=hr',below:=max x.below (y.below+1),more:=x.more+(y.more+1) }:=⟨_,rfl⟩
      rw [← hx'] at hP
      have hsx : x.seed=seed∧x.bits=bits:=by subst hx;exact ⟨rfl,rfl⟩
      rw [hsx.1,hsx.2] at hM2
      have hA' : rG seed bits (.set (bP v.key v (items.map fun q=>(q.1,q.2.1)))) x':=by
       refine ⟨bP v.key (v,y) items,(wV (fun q=>q.1) v.key (v,y) items).symm, ?_, ?_⟩
       ·rw [hx']
        exact ZA.ins hri hrv hok hy hyo (by omega) hacc hp hq2 hM2 hbx hmx (by subst hx;exact ⟨rfl,rfl,rfl,rfl,rfl,rfl,rfl,rfl⟩)
       ·intro q hq
        rcases kQ hq with rfl | h
        ·rfl
        ·exact hkk q h
      have hb' : x'.below+q≤64:=by subst hx';simp only;omega
      have hm' : ns+(x'.more+1)=n':=by subst hx';simp only;omega
      have hxo' : x'.ok:=hA'.ok (by omega) (by omega)
      refine ⟨x',⟨hA',hb',hm',hn',he⟩,fun _ _ _ _ _ _ _ _ h h2=>?_⟩
      cases h2
      exact ⟨y,hyo,ih,.inr ⟨hlk,hxo',by subst hx';exact hrt,by subst hx';simp only [hnx],hP⟩⟩
 obtain ⟨X,hXv,hX⟩:=hX
 refine ⟨X,hXv,fun id tid rid did σ hσ hne hne2 hne3 hr hd ht=>?_⟩
 have hid:=(List.getElem?_eq_some_iff.1 hσ).1
 have hrl:=(List.getElem?_eq_some_iff.1 hr).1
 have htl:=(List.getElem?_eq_some_iff.1 ht).1
 have hdl:=(List.getElem?_eq_some_iff.1 hd).1
 refine cv e144 (by simp) ?_
 simp only [go_sem,seval,c144,hr]
 refine CV.mono (Fb id seed bits s a n σ hσ ha hs) ?_
 rintro _ σ1 ⟨rfl,hC1⟩
 have l1:=hC1.len
 cases hL : aT s a with
 | err c p =>
  rw [hL] at hrd
  simp only [Option.some.injEq] at hrd
  subst hrd
  simp only [go_sem,seval,vP,aO]
  exact ⟨rfl,hC1.mono fun _ h=>h.elim⟩
 | tok k xx e i t =>
  rw [hL] at hrd
  simp only at hrd
  have f1 : ∀ j,j < σ.length→σ1[j]?=σ[j]?:=fun j hj=>hC1.same j hj (by simp)
  have f2 : σ1[id]?=some (RD seed bits s a n):=by rw [f1 id hid];exact hσ
  have f3 : σ1[rid]?=some (.own [.mptr id 0]):=by rw [f1 rid hrl];exact hr
  have f4 : σ1[did]?=some (.own [.int .i64 q]):=by rw [f1 did hdl];exact hd
  have f5 : σ1[tid]?=some (.own x.cells):=by rw [f1 tid htl];exact ht
  cases hrd1 : rd f s a n (q+1) .val with
  | none=>rw [hrd1] at hrd;cases hrd
  | some R1 =>
   rw [hrd1] at hrd
   cases R1 with
   | er c p =>
    simp only [Option.some.injEq] at hrd
    subst hrd
    obtain ⟨_,_,ih⟩:=hV seed bits s a n (q+1) (.er c p) ha hs (by omega) (by omega) hn2 hrd1
    simp only [go_sem,seval,vP,aO,dW,f3,f4,e1]
    refine CV.mono (ih id σ1 f2) ?_
    rintro r σ2 ⟨rfl,hCe⟩
    have l2:=hCe.len
    simp only [go_sem,seval,aO]
    exact ⟨rfl,⟨by omega,fun j hj hn=>by rw [hCe.same j (by omega) (by omega),f1 j hj]⟩⟩
   | ok v e' n' =>
    obtain ⟨y,hyo,ih,hAdd⟩:=hX k xx e i t v e' n' hL hrd1
    simp only [go_sem,seval,vP,aO,dW,f3,f4,e1]
    refine CV.mono (ih id σ1 f2) ?_
    rintro r σ2 ⟨rfl,hC,hσ2⟩
    have l2:=hC.len
    simp only at hrd
    have y7 : y.cells.length=11:=rfl
    have y8 : y.cells.all VV.aF=true:=hyo.cell
    have y9 : y.cells.take 11=y.cells:=rfl
    obtain ⟨σ3,h3⟩ : ∃ σ3,σ3=σ2++[Obj.own y.cells]:=⟨_,rfl⟩
    have m0 : σ3.length=σ2.length+1:=by rw [h3];simp
    have m1 : σ3[tid]?=some (.own x.cells):=by rw [h3,List.getElem?_append_left (by omega),hC.same tid (by omega) hne];exact f5
    have m2 : σ3[id]?=some (RD seed bits s e' n'):=by rw [h3,List.getElem?_append_left (by omega)];exact hσ2
    have m3 : σ3[σ2.length]?=some (.own y.cells):=by rw [h3];simp
    have m4 : ∀ j,j < σ.length→j≠id→σ3[j]?=σ[j]?:=fun j hj hn=>by rw [h3,List.getElem?_append_left (by omega),hC.same j (by omega) hn,f1 j hj]
    have hKL:=TJ x hxo hrt items.length hnx (by omega)
    simp only [Vl.vv] at hKL
    simp only [go_sem,seval,aO,Vl.vv,y7,y8,y9,SS,← h3,m1,x7,x8,x9]
    refine ah (hKL) ?_<;>simp only [go_sem,seval,m1,m3,x7,x8,x9,y7,y8,y9]
    rcases hAdd with ⟨z,hlk,hP⟩ | ⟨hlk,hXo,hXr,hXn,hP⟩
    ·have hs1:=hsame v.key
     rw [hlk] at hs1
     rw [if_pos (by rw [← hs1];rfl),Option.some.injEq] at hrd
     subst hrd
     simp only [Vl.vv] at hP
     refine ah (hP) ?_<;>simp only [go_sem,seval,m1,m3,x7,x8,x9,y7,y8,y9]
     have hD:=vO x hxo 0 σ3
     simp only [Vl.vv] at hD
     refine CV.mono hD ?_
     rintro _ σ4 ⟨rfl,hC4⟩
     have l4:=hC4.len
     have o1 : σ4[tid]?=some (.own x.cells):=by rw [hC4.same tid (by omega) (by simp)];exact m1
     have o2:=xI o1
     have b1 : (((items.length : Nat) : Int) == items.length)=true:=by simp
     simp only [go_sem,seval,aO,o1,o2,x7,x8,x9,xd]
     refine ah (hKL) ?_<;>simp only [go_sem,seval,o1,o2,x7,x8,x9,b1]
     refine CV.mono (jo 6 xx _) ?_
     rintro _ σ' ⟨rfl,rfl⟩
     simp only [go_sem,seval,aO]
     exact ⟨rfl,⟨by omega,fun j hj hn=>by rw [hC4.same j (by omega) (by simp),m4 j hj (by omega)]⟩⟩
    ·have hs1:=hsame v.key
     rw [hlk] at hs1
     rw [if_neg (by rw [← hs1];decide),Option.some.injEq] at hrd
     subst hrd
     have z7 : X.cells.length=11:=rfl
     have z8 : X.cells.all VV.aF=true:=hXo.cell
     have z9 : X.cells.take 11=X.cells:=rfl
     simp only [Vl.vv] at hP
     refine ah (hP) ?_<;>simp only [go_sem,seval,m1,m3,x7,x8,x9,y7,y8,y9]
     have hD:=vO _ hXo 0 σ3
     simp only [Vl.vv] at hD
     refine CV.mono hD ?_
     rintro _ σ4 ⟨rfl,hC4⟩
     have l4:=hC4.len
     have o1 : σ4[tid]?=some (.own x.cells):=by rw [hC4.same tid (by omega) (by simp)];exact m1
     have hlt2:=(List.getElem?_eq_some_iff.1 o1).1
     have o3 : σ4[id]?=some (RD seed bits s e' n'):=by rw [hC4.same id (by omega) (by simp)];exact m2
     have hKL2:=TJ X hXo hXr (items.length+1) hXn (by omega)
     simp only [Vl.vv] at hKL2
     have b1 : (((items.length+1 : Nat) : Int) == items.length)=false:=by simp;omega
     simp only [go_sem,seval,aO,o1,x7,xd,z7,z8,z9,List.getElem?_set_self hlt2]
     refine ah (hKL2) ?_<;>simp only [go_sem,seval,b1]
     refine ⟨rfl, ?_, ?_, ?_⟩
     ·rw [List.getElem?_set_self hlt2]
     ·rw [List.getElem?_set_ne hne];exact o3
     ·refine ⟨by simp;omega,fun j hj hn=>?_⟩
      rw [List.getElem?_set_ne (by omega),hC4.same j (by omega) (by simp),m4 j hj (by omega)]
end Go.V
namespace Go.V
open Go.Proofs
set_option maxRecDepth 100000
def E8 : aA:=.loop (.block 1 (.seq (.reg [⟨some 9,.move (.tmp 2),1,none⟩,⟨some 10,.call ⟨.value (.tmp 9),#[],#[]⟩,0,none⟩]) (.seq (.reg [⟨some 11,.move (.tmp 0),105,none⟩,⟨some 12,.call ⟨.value (.func 176),#[.tmp 11,.const (.string ⟨#[44]⟩)],#[105,9]⟩,4,none⟩,⟨some 13,.unOp .not 4 (.tmp 12),4,none⟩]) (.cond (.tmp 13) (.seq (.reg [⟨some 14,.move (.tmp 0),105,none⟩,⟨some 15,.move (.tmp 1),9,none⟩,⟨some 16,.call ⟨.value (.func 142),#[.tmp 14,.tmp 15],#[105,9]⟩,0,none⟩]) (.ret)) (.skip)))))
def clo (tid rid did : Nat) : Md→VV
 | .val=>.nilf
 | .vec _=>.fn (.func 139) [] [.mptr tid 0,.mptr rid 0,.mptr did 0]
 | .map _=>.fn (.func 141) [] [.mptr rid 0,.mptr tid 0,.mptr did 0]
 | .set _=>.fn (.func 144) [] [.mptr rid 0,.mptr did 0,.mptr tid 0]
theorem Rx {rv : Int→Nat→Nat→Option Rs} {s : Bs} {a : Int} {n q : Nat} {m m' : Md} {e n' : Nat} (h : one rv s a n q m=some (.ok m' e n')) : m'.cl=m.cl∧m'.isVal=false∧∀ t r d,clo t r d m'=clo t r d m:=by
 cases m with
 | val=>simp [one] at h
 | vec acc =>
  simp only [one] at h
  repeat' split at h
  all_goals first
   | cases h;done
   | (simp only [Option.some.injEq,On.ok.injEq] at h;obtain ⟨rfl,_,_⟩:=h;exact ⟨rfl,rfl,fun _ _ _=>rfl⟩)
 | map acc =>
  simp only [one] at h
  repeat' split at h
  all_goals first
   | cases h;done
   | (simp only [Option.some.injEq,On.ok.injEq] at h;obtain ⟨rfl,_,_⟩:=h;exact ⟨rfl,rfl,fun _ _ _=>rfl⟩)
 | set acc =>
  simp only [one] at h
  repeat' split at h
  all_goals first
   | cases h;done
   | (simp only [Option.some.injEq,On.ok.injEq] at h;obtain ⟨rfl,_,_⟩:=h;exact ⟨rfl,rfl,fun _ _ _=>rfl⟩)
theorem Y6 : au Tryz.prog 139=true:=by kernel_rfl
theorem Yx : au Tryz.prog 141=true:=by kernel_rfl
theorem YI : au Tryz.prog 144=true:=by kernel_rfl
theorem Zg (f : Nat) (hV : Ih f) (seed bits : Int) (s : Bs) (a : Int) (n ns q : Nat) (R : On) (m : Md) (x : Vl) (ha : lY a) (hs : s.length≤10000000)
  (hA : rG seed bits m x) (hb : x.below+q≤64) (hq1 : 1≤q) (hn : ns+(x.more+1)=n) (hn2 : n≤16384) (hrd : one (fun a n q=>rd f s a n q .val) s a n q m=some R) :
  ∃ X,Zy seed bits s q ns R X∧∀ (id tid rid did : Nat) (σ : Store),σ[id]?=some (RD seed bits s a n)→tid≠id→rid≠id→did≠id→σ[rid]?=some (.own [.mptr id 0])→σ[did]?=some (.own [.int .i64 q])→σ[tid]?=some (.own x.cells) →
   FC (clo tid rid did m) [] σ (OnQ id tid seed bits s σ X R):=by
 cases m with
 | val=>exact hA.elim
 | vec acc =>
  obtain ⟨X,h1,h2⟩:=O8 f hV seed bits s a n ns q R acc x ha hs hA hb hq1 hn hn2 hrd
  exact ⟨X,h1,fun id tid rid did σ hσ n1 n2 n3 hr hd ht=>⟨Y6,h2 id tid rid did σ hσ n1 hr hd ht⟩⟩
 | map acc =>
  obtain ⟨X,h1,h2⟩:=Tc f hV seed bits s a n ns q R acc x ha hs hA hb hq1 hn hn2 hrd
  exact ⟨X,h1,fun id tid rid did σ hσ n1 n2 n3 hr hd ht=>⟨Yx,h2 id tid rid did σ hσ n1 n2 n3 hr hd ht⟩⟩
 | set acc =>
  obtain ⟨X,h1,h2⟩:=YW f hV seed bits s a n ns q R acc x ha hs hA hb hq1 hn hn2 hrd
  exact ⟨X,h1,fun id tid rid did σ hσ n1 n2 n3 hr hd ht=>⟨YI,h2 id tid rid did σ hσ n1 n2 n3 hr hd ht⟩⟩
def ItQ (id tid : Nat) (seed bits : Int) (s : Bs) (σ : Store) (Q : Out→Env→Store→Prop) (X : Vl) : Rs→Prop
 | .er c p=>∀ ρ σ',Ch (fun j=>j=id∨j=tid) σ σ'→Q (.panic (wR c p)) ρ σ'
 | .ok _ e n'=>∀ ρ σ',σ'[tid]?=some (.own X.cells)→σ'[id]?=some (RD seed bits s e n')→Ch (fun j=>j=id∨j=tid) σ σ'→Q .ret ρ σ'
def ItW (X : Vl) (f : Nat) (seed bits : Int) (s : Bs) (a : Int) (n q : Nat) (R : Rs) (m : Md) (x : Vl) : Prop:=∀ (id tid rid did : Nat) (σ₀ σ : Store) (Q : Out→Env→Store→Prop) (ρ : Env),
 σ[id]?=some (RD seed bits s a n)→tid≠id→rid≠id→did≠id→rid≠tid→did≠tid→σ[rid]?=some (.own [.mptr id 0])→σ[did]?=some (.own [.int .i64 q])→σ[tid]?=some (.own x.cells) →
 Ch (fun j=>j=id∨j=tid) σ₀ σ→id < σ₀.length→tid < σ₀.length→rid < σ₀.length→did < σ₀.length →
 ρ.get 0=.mptr id 0→ρ.get 1=.str m.cl→ρ.get 2=clo tid rid did m→ItQ id tid seed bits s σ₀ Q X R→jQ Tryz.prog G0 E8 Q ρ σ
def qB (f : Nat) : Prop:=∀ (seed bits : Int) (s : Bs) (a : Int) (n ns q : Nat) (R : Rs) (m : Md) (x : Vl),
 lY a→s.length≤10000000→rG seed bits m x→x.below+q≤64→1≤q→ns+(x.more+1)=n→n≤16384→rd f s a n q m=some R→∃ X,PG s q ns R X∧ItW X f seed bits s a n q R m x
theorem UM (f : Nat) (hV : Ih f) (hI : qB f) : qB (f+1):=by
 intro seed bits s a n ns q R m x ha hs hA hb hq1 hn hn2 hrd
 have hmv : m.isVal=false:=by cases m with | val=>exact hA.elim | _=>rfl
 rw [rd,hmv] at hrd
 simp only [Bool.false_eq_true,if_false] at hrd
 cases hR1 : one (fun a n q=>rd f s a n q .val) s a n q m with
 | none=>rw [hR1] at hrd;cases hrd
 | some R1 =>
  rw [hR1] at hrd
  obtain ⟨X1,hO,hFC⟩:=Zg f hV seed bits s a n ns q R1 m x ha hs hA hb hq1 hn hn2 hR1
  cases R1 with
  | er c p =>
   simp only [Option.some.injEq] at hrd
   subst hrd
   refine ⟨x,trivial, ?_⟩
   intro id tid rid did σ₀ σ Q ρ hσ n1 n2 n3 n4 n5 hr hd ht hCh l1 l2 l3 l4 q0 q1 q2 hQ
   unfold E8
   refine dI ?_
   simp only [go_sem,seval,q0,q1,q2]
   refine jM (hFC id tid rid did σ hσ n1 n2 n3 hr hd ht) ?_
   rintro r σ1 ⟨rfl,hCe⟩
   simp only [go_sem,seval,aO]
   exact hQ _ _ (hCh.trans hCe)
  | ok m' e n' =>
   obtain ⟨hA',hb',hm',hn',he⟩:=hO
   obtain ⟨k1,k2,k3⟩:=Rx hR1
   simp only at hrd
   have hec : lY (e : Int):=iL (by omega)
   have h44 : m.cl≠[44]:=by cases m<;>simp [Md.cl]
   have hX : ∃ X,PG s q ns R X∧(∀ x1 e1 i1,aT s e=.tok 1 x1 e1 i1 [44]→ItW X f seed bits s e1 n' q R m' X1)∧(∀ x1 e1 i1,aT s e=.tok 1 x1 e1 i1 m.cl→X=X1):=by
    cases hL : aT s e with
    | err c p=>rw [hL] at hrd;cases hrd;exact ⟨x,trivial,(fun _ _ _ h=>by cases h),(fun _ _ _ h=>by cases h)⟩
    | tok k x1 e1 i1 t =>
     have hle:=wE hL
     rw [hL] at hrd
     simp only at hrd
     by_cases hc : k=1∧t=[44]
     ·obtain ⟨rfl,rfl⟩:=hc
      simp only [and_self,if_true] at hrd
      obtain ⟨X,hXv,hXw⟩:=hI seed bits s e1 n' ns q R m' X1 (iL (by omega)) hs hA' hb' hq1 hm' hn' hrd
      exact ⟨X,hXv,(fun _ _ _ h=>by cases h;exact hXw),(fun _ _ _ h=>by injection h with _ _ _ _ h5;exact absurd h5.symm h44)⟩
     ·rw [if_neg hc] at hrd
      by_cases hcl : k=1∧t=m.cl
      ·rw [if_pos hcl] at hrd
       cases hrd
       exact ⟨X1,⟨hA'.rvl,hA'.ok (by omega) (by omega),hb',hm',hn',hle⟩,(fun _ _ _ h=>by cases h;exact absurd ⟨rfl,rfl⟩ hc),(fun _ _ _ _=>rfl)⟩
      ·rw [if_neg hcl] at hrd
       cases hrd
       exact ⟨X1,trivial,(fun _ _ _ h=>by cases h;exact absurd ⟨rfl,rfl⟩ hc),(fun _ _ _ _=>rfl)⟩
   obtain ⟨X,hXv,hX1,hX2⟩:=hX
   refine ⟨X,hXv, ?_⟩
   intro id tid rid did σ₀ σ Q ρ hσ n1 n2 n3 n4 n5 hr hd ht hCh l1 l2 l3 l4 q0 q1 q2 hQ
   unfold E8
   refine dI ?_
   simp only [go_sem,seval,q0,q1,q2]
   refine jM (hFC id tid rid did σ hσ n1 n2 n3 hr hd ht) ?_
   rintro r σ1 ⟨rfl,ht1,hσ1,hC1⟩
   have hlen:=hC1.len
   have hlen0:=hCh.len
   simp only [go_sem,seval,aO,q0,q1,q2]
   refine CV.mono (Y4 [44] id seed bits s e n' σ1 hσ1 hec hs) ?_
   rintro _ σ2 (⟨c,p,hL,rfl,hCe⟩ | ⟨x1,e1,i1,hL,rfl,hG⟩ | ⟨k,x1,e1,i1,t,hL,hne,rfl,hC2⟩)
   ·rw [hL] at hrd
    simp only [Option.some.injEq] at hrd
    subst hrd
    simp only [go_sem,seval,aO]
    exact hQ _ _ ((hCh.trans hC1).trans (hCe.mono fun _ h=>h.elim))
   ·rw [hL] at hrd
    simp only [and_self,if_true] at hrd
    simp only [go_sem,seval,aO,q0,q1,q2,Bool.not_true]
    have hs2 : ∀ j,j < σ.length→j≠id→σ2[j]?=σ1[j]?:=fun j hj hne=>hG.1.same j (by omega) hne
    refine hX1 _ _ _ hL id tid rid did σ₀ σ2 Q _ hG.2 n1 n2 n3 n4 n5 ?_ ?_ ?_ ?_ l1 l2 l3 l4 q0 (by rw [k1];exact q1) (by rw [k3];exact q2) hQ
    ·rw [hs2 rid (by omega) n2,hC1.same rid (by omega) (by omega)];exact hr
    ·rw [hs2 did (by omega) n3,hC1.same did (by omega) (by omega)];exact hd
    ·rw [hs2 tid (by omega) n1];exact ht1
    ·exact (hCh.trans hC1).trans (hG.1.mono fun j h=>.inl h)
   ·rw [hL] at hrd
    have hnot : ¬ (k=1∧t=[44]):=hne
    simp only [if_neg hnot] at hrd
    simp only [go_sem,seval,aO,q0,q1,q2,Bool.not_false]
    have hσ2 : σ2[id]?=some (RD seed bits s e n'):=by rw [hC2.same id (List.getElem?_eq_some_iff.1 hσ1).1 (by simp)];exact hσ1
    refine CV.mono (QW m.cl id seed bits s e n' σ2 hσ2 hec hs) ?_
    rintro _ σ3 (⟨c,p,hL2,rfl,hCe⟩ | ⟨x2,e2,i2,hL2,rfl,hG⟩ | ⟨k2,x2,e2,i2,t2,hL2,hne2,rfl,hCe⟩)
    ·rw [hL] at hL2;cases hL2
    ·have hXe:=hX2 _ _ _ hL2
     rw [hL] at hL2
     cases hL2
     simp only [and_self,if_true,Option.some.injEq] at hrd
     subst hrd hXe
     have hlen2:=hC2.len
     simp only [go_sem,seval,aO]
     refine hQ _ _ ?_ hG.2 ?_
     ·rw [hG.1.same tid (by have:=(List.getElem?_eq_some_iff.1 ht1).1;omega) n1,hC2.same tid (List.getElem?_eq_some_iff.1 ht1).1 (by simp)];exact ht1
     ·exact ((hCh.trans hC1).trans (hC2.mono fun _ h=>h.elim)).trans (hG.1.mono fun j h=>.inl h)
    ·rw [hL] at hL2
     cases hL2
     simp only [if_neg hne2,Option.some.injEq] at hrd
     subst hrd
     simp only [go_sem,seval,aO]
     exact hQ _ _ (((hCh.trans hC1).trans (hC2.mono fun _ h=>h.elim)).trans (hCe.mono fun _ h=>h.elim))
end Go.V
