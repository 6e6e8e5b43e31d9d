/- Texts F50 F51. -/
import Derived.Test.YtgmhpemjlbgfcaaGreatDoorG20
import Derived.Test.YtgmhpemjlbgfcaaGreatDoorG25
set_option linter.unusedVariables false
set_option linter.unusedSimpArgs false
namespace Go.V
open Go.Proofs
set_option maxRecDepth 100000
def lk {α : Type} (ps : List (Bs × α)) (k : Bs) : Option α:=(ps.find? fun p=>p.1 == k).map (·.2)
theorem vg {α : Type} {ps : List (Bs × α)} {k : Bs} (h : ∀ p ∈ ps,p.1≠k) : lk ps k=none:=by
 unfold lk
 rw [Option.map_eq_none_iff,List.find?_eq_none]
 intro p hp
 simpa using h p hp
theorem xU {α : Type} {ps : List (Bs × α)} {k : Bs} {x : α} (hn : jI ps) (h : (k,x) ∈ ps) : lk ps k=some x:=by
 induction ps with
 | nil=>simp at h
 | cons p ps ih =>
  obtain ⟨h1,h2⟩:=List.pairwise_cons.1 hn
  unfold lk
  rcases List.mem_cons.1 h with rfl | h
  ·simp
  ·rw [List.find?_cons_of_neg (by simpa using h1 _ h)]
   exact ih h2 h
theorem vM {α : Type} {ps : List (Bs × α)} {k : Bs} {x : α} (h : lk ps k=some x) : (k,x) ∈ ps:=by
 unfold lk at h
 rw [Option.map_eq_some_iff] at h
 obtain ⟨p,h1,rfl⟩:=h
 have h2:=List.mem_of_find?_eq_some h1
 have h3:=List.find?_some h1
 have : p.1=k:=by simpa using h3
 rw [← this];exact h2
theorem Hf {α : Type} {ps : List (Bs × α)} {k : Bs} (h : lk ps k=none) : ∀ p ∈ ps,p.1≠k:=by
 unfold lk at h
 rw [Option.map_eq_none_iff,List.find?_eq_none] at h
 intro p hp
 simpa using h p hp
theorem G7 {α : Type} {ps qs : List (Bs × α)} {k : Bs} (hn : jI ps) (hs : ∀ p ∈ qs,p ∈ ps) (hk : ∀ p ∈ ps,p.1=k→p ∈ qs) : lk ps k=lk qs k:=by
 cases h : lk qs k with
 | some x=>exact xU hn (hs _ (vM h))
 | none=>exact vg fun p hp e=>Hf h p (hk p hp e) e
theorem QJ {α : Type} {ps qs : List (Bs × α)} {k : Bs} (hn : jI ps) (h : qs.Perm ps) : lk ps k=lk qs k :=
 G7 hn (fun _ hp=>h.mem_iff.1 hp) (fun _ hp _=>h.mem_iff.2 hp)
theorem row_mem {sm : Bs→Int} {L : Nat} {c : Nat→Nat} {S : Nat→Sl} (h1 : ∀ i p,i < 32→S i=.lone p→nZ sm (upd c L i) (L+1) p.1) (h2 : ∀ i v ps,i < 32→S i=.sub v ps→HN sm (L+1) (upd c L i) v ps) {p : iE} (hp : p ∈ iW S) : p ∈ (S (iD (sm p.1) L)).ps:=by
 obtain ⟨i,hi,hpi⟩:=List.mem_flatMap.1 hp
 have hi:=List.mem_range.1 hi
 have hc : iD (sm p.1) L=i:=by
  cases hS : S i with
  | no=>rw [hS] at hpi;simp [Sl.ps] at hpi
  | lone q =>
   rw [hS] at hpi
   simp [Sl.ps] at hpi
   subst hpi
   exact (h1 i p hi hS).back.2
  | sub v qs =>
   rw [hS] at hpi
   exact ((h2 i v qs hi hS).U4 p hpi).back.2
 rw [hc];exact hpi
theorem qJ {S : Nat→Sl} {i : Nat} (hi : i < 32) {p : iE} (hp : p ∈ (S i).ps) : p ∈ iW S:=List.mem_flatMap.2 ⟨i,List.mem_range.2 hi,hp⟩
def Ic : Option Vl→VV
 | some x=>.tup [x.vv,.bool true]
 | none=>.tup [Vl.zero.vv,.bool false]
theorem Yt {o : Option Vl} (h : ∀ x,o=some x→x.ok) : (Ic o).isPure=true:=by
 cases o with
 | none=>rfl
 | some x=>simp [Ic,VV.isPure,VV.ak,Vl.vv,(h x rfl).pure]
theorem Jh {sm : Bs→Int} {hr : VV} {ps : List iE} (h : lQ sm hr ps) : Dy hr:=by
 have hp:=h.pure
 rcases h with ⟨rfl,_⟩ | h
 ·exact .nil
 ·obtain ⟨_,_,_,rfl,_⟩:=h.cells
  exact .ptr _ _ (by simpa [VV.isPure] using hp)
theorem rJ {α : Type} {qs : List (Bs × α)} {k : Bs} (h : hasK qs k=true) : ∃ hj : rF qs k < qs.length,qs[rF qs k].1=k:=by
 unfold hasK at h
 split at h
 ·rename_i p hp
  obtain ⟨hj,e⟩:=List.getElem?_eq_some_iff.1 hp
  exact ⟨hj,by rw [e];simpa using h⟩
 ·cases h
theorem O9 {α : Type} {qs : List (Bs × α)} {k : Bs} (hs : iJ qs) {p : Bs × α} (hp : p ∈ qs) (hk : p.1=k) : hasK qs k=true:=by
 obtain ⟨j,hj,rfl⟩:=List.getElem_of_mem hp
 have h1 : ¬ j < rF qs k:=fun h=>by
  have:=(Cb k hs hj).2 h
  rw [hk,jA] at this;cases this
 have h2 : j≤rF qs k:=by
  by_cases hlt : rF qs k < j
  ·have h3:=List.pairwise_iff_getElem.1 hs _ _ (by omega) hj hlt
   rw [hk] at h3
   have:=(Cb k hs (by omega)).1 h3
   omega
  ·omega
 have : j=rF qs k:=by omega
 unfold hasK
 rw [← this,List.getElem?_eq_getElem hj]
 simpa using hk
theorem zy {α : Type} {qs : List (Bs × α)} {k : Bs} (hs : iJ qs) (h : hasK qs k=false) : lk qs k=none :=
 vg fun p hp e=>by rw [O9 hs hp e] at h;cases h
def HO (sm : Bs→Int) (L : Nat) (c : Nat→Nat) (v : VV) (qs : List iE) : Prop:=(v=.nilp∧qs=[])∨HN sm L c v qs
theorem Ol (seed bits m : Int) (hr : VV) (ps : List iE) (h : lQ (lW seed bits) hr ps) (hok : ∀ p ∈ ps,p.2.ok) (hl : ps.length≤1000000) (k : Bs) (hk : k.length≤1000000000) :
  PV Tryz.prog G0 88 [.agg [.int .u64 seed,.int .i64 bits,.int .i64 m,hr],.str k] (Ic (lk ps k)):=by
 have hp:=h.pure
 have hc:=h.cell
 have hnd:=h.nodup
 have hr2 : ∀ x,lk ps k=some x→x.ok:=fun x hx=>hok _ (vM hx)
 have hpu:=Yt hr2
 obtain ⟨sm,hsm⟩ : ∃ sm,sm=lW seed bits:=⟨_,rfl⟩
 have hP:=MQ seed bits m hr (Jh h) k hk
 rw [← hsm] at h hP
 refine pv e88 (by simp) (by simp [VV.ak,VV.isPure,hp]) hpu ?_
 simp only [go_sem,seval] at hc
 simp only [go_sem,seval,c88,hc]
 refine aj (hP) (by simp only [go_sem,seval,hc]) ?_<;>simp only [go_sem,seval,hc]
 have hz : Vl.zero.cells=[.int .i64 0,.int .i64 0,.str [],.int .i64 0,.nilp,.int .u64 0,.int .i64 0,.int .i64 0,.nilp,.int .i64 0,.int .i64 0]:=rfl
 obtain ⟨R,hR⟩ : ∃ R,R=Ic (lk ps k):=⟨_,rfl⟩
 refine bf (M:=fun ρ σ'=>∃ L c nd qs,(nd=.nilp∨L=13)∧HO sm L c nd qs∧(∀ p ∈ qs,p.2.ok)∧qs.length≤1000000∧lk ps k=lk qs k∧ρ.get 1=.str k∧ρ.get 4=.mptr 1 0∧ρ.get 6=.mptr 2 0∧ρ.get 8=nd∧σ'[1]?=some (.own Vl.zero.cells)∧σ'[2]?=some (.own Vl.zero.cells)) ?_ ?_
 rotate_left
 ·refine aF (fun m ρ σ'=>∃ L c nd qs,m=13-L∧L≤13∧HO sm L c nd qs∧nZ sm c L k∧(∀ p ∈ qs,p.2.ok)∧qs.length≤1000000∧lk ps k=lk qs k∧ρ.get 1=.str k∧ρ.get 4=.mptr 1 0∧ρ.get 6=.mptr 2 0∧ρ.get 7=.int .u64 (sm k)∧ρ.get 8=nd∧ρ.get 9=.int .i64 L∧σ'[1]?=some (.own Vl.zero.cells)∧σ'[2]?=some (.own Vl.zero.cells)) (n:=13)
   ?_ ⟨0,_,hr,ps,rfl,by omega,h,fun j hj=>by omega,hok,hl,rfl,rfl,rfl,rfl,rfl,rfl,rfl,rfl,rfl⟩
  rintro m ρ σ' ⟨L,c,nd,qs,rfl,hL,hO,hpre,hqo,hql,hlk,q1,q4,q6,q7,q8,q9,s1,s2⟩
  have hL' : IntKind.i64.wrap ((L : Int)+1)=((L+1 : Nat) : Int):=by rw [iw (by omega)];omega
  rcases hO with ⟨rfl,rfl⟩ | hN
  ·simp only [go_sem,seval,q1,q4,q6,q7,q8,q9]
   exact ⟨L,c,.nilp,[],.inl rfl,.inl ⟨rfl,rfl⟩,by simp,by simp,hlk,rfl,s1,s2⟩
  ·have hqn:=hN.nodup
   cases hN with
   | deep h hs h2 hp =>
    simp only [go_sem,seval,q1,q4,q6,q7,q8,q9]
    refine ⟨13,c,_,qs,.inr rfl,.inr (.deep h hs h2 hp),hqo,hql,hlk,rfl,s1,s2⟩
   | @row _ _ x l S hL13 hRow h1 h2 =>
    have b1 : decide ((L : Int) < 13)=true:=decide_eq_true (by omega)
    have hlc:=hRow.sl.cell
    obtain ⟨i,hi⟩ : ∃ i,i=iD (sm k) L:=⟨_,rfl⟩
    have hi32 : i < 32:=by rw [hi];exact nH _ _
    have hCh:=xJ (sm k) L
    rw [← hi] at hCh
    have hpre' : nZ sm (upd c L i) (L+1) k:=by rw [hi];exact hpre.step
    have hkin : ∀ p ∈ iW S,p.1=k→p ∈ (S i).ps:=fun p hp e=>by
     have:=row_mem h1 h2 hp
     rw [e,← hi] at this;exact this
    have hl1:=(List.getElem?_eq_some_iff.1 s1).1
    have hl2:=(List.getElem?_eq_some_iff.1 s2).1
    have t1 : ∀ τ,(σ'++τ)[1]?=some (.own Vl.zero.cells):=fun τ=>by rw [List.getElem?_append_left hl1];exact s1
    have t2 : ∀ τ,(σ'++τ)[2]?=some (.own Vl.zero.cells):=fun τ=>by rw [List.getElem?_append_left hl2];exact s2
    simp only [go_sem,seval] at hlc
    rw [hz] at t1 t2
    simp only [go_sem,seval,q1,q4,q6,q7,q8,q9,b1,hlc]
    refine aK (hCh) ?_<;>simp only [go_sem,seval,q1,q4,q6,q7,q8,q9]
    cases hS : S i with
    | no =>
     have hG:=rV _ x l hRow i hi32 (by rw [hS];rfl)
     have c7 : eX.length=13:=rfl
     have c8 : eX.all VV.aC=true:=rfl
     have c9 : eX.take 13=eX:=rfl
     have hnone : lk ps k=none:=by rw [hlk];exact vg fun p hp e=>by have:=hkin p hp e;rw [hS] at this;simp [Sl.ps] at this
     refine aK (hG) ?_<;>simp only [go_sem,seval,q1,q4,q6,q7,q8,q9,c7,c8,c9,t1,t2,hl1,hl2,SS]
     have u1 : 1 < (σ'++[Obj.own eX]).length:=by simp;omega
     simp only [go_sem,seval,List.getElem?_set_self u1]
     rw [hnone]
     exact fin (by rfl) rfl
    | lone p =>
     have hG:=jT _ x l hRow i hi32 (au p++[.nilp]) (by rw [hS];rfl)
     have hpo : p.2.ok:=hqo p (qJ hi32 (by rw [hS];simp [Sl.ps]))
     have c7 : (au p++[VV.nilp]).length=13:=rfl
     have c8 : (au p++[VV.nilp]).all VV.aC=true:=(jv hpo).cell _ (by simp)
     have c9 : (au p++[VV.nilp]).take 13=au p++[VV.nilp]:=rfl
     have d0 : (au p++[VV.nilp]).getD 0 .undef=.str p.1:=rfl
     have d12 : (au p++[VV.nilp]).getD 12 .undef=.nilp:=rfl
     have d1 : (List.drop 1 (au p++[VV.nilp])).take 11=p.2.cells:=rfl
     have d2 : p.2.cells.length=11:=rfl
     have d3 : p.2.cells.all VV.aC=true:=hpo.cell
     have d4 : p.2.cells.take 11=p.2.cells:=rfl
     have u1 : 1 < (σ'++[Obj.own (au p++[VV.nilp])]).length:=by simp;omega
     refine aK (hG) ?_<;>simp only [go_sem,seval,q1,q4,q6,q7,q8,q9,c7,c8,c9,d0,d12,t1,t2,hl1,hl2,SS]
     by_cases he : p.1=k
     ·have b2 : (p.1 == k)=true:=by simp [he]
      have hsome : lk ps k=some p.2:=by rw [hlk];exact xU hqn (by rw [← he];exact qJ hi32 (by rw [hS];simp [Sl.ps]))
      simp only [go_sem,seval,b2,Bool.not_true,Bool.not_false,q1,q4,q6,q7,q8,q9,c7,d1,d2,d3,d4,t1,t2,SS,List.getElem?_set_self u1]
      rw [hsome]
      exact fin (Yt (o:=some p.2) (by rintro _ ⟨⟩;exact hpo)) rfl
     ·have b2 : (p.1 == k)=false:=by simp [he]
      have hnone : lk ps k=none:=by
       rw [hlk];refine vg fun q hq e=>?_
       have:=hkin q hq e
       rw [hS] at this
       simp [Sl.ps] at this
       rw [this] at e;exact he e
      simp only [go_sem,seval,b2,Bool.not_true,Bool.not_false,q1,q4,q6,q7,q8,q9,t1,t2,List.getElem?_set_self u1]
      rw [hnone]
      exact fin (by rfl) rfl
    | sub v qs' =>
     have hsub:=h2 i v qs' hi32 hS
     have hG:=jT _ x l hRow i hi32 (.str []::(Vl.zero.cells++[v])) (by rw [hS];rfl)
     have hmem : ∀ p ∈ qs',p ∈ iW S:=fun p hp=>qJ hi32 (by rw [hS];exact hp)
     have c7 : (VV.str []::(Vl.zero.cells++[v])).length=13:=rfl
     have c8 : (VV.str []::(Vl.zero.cells++[v])).all VV.aC=true:=(qW hsub).cell _ (by simp)
     have c9 : (VV.str []::(Vl.zero.cells++[v])).take 13=VV.str []::(Vl.zero.cells++[v]):=rfl
     have d12 : (VV.str []::(Vl.zero.cells++[v])).getD 12 .undef=v:=rfl
     have hlen : qs'.length≤1000000:=by
      have:=(l9 S hi32).length_eq
      rw [List.length_append,hS] at this
      simp only [Sl.ps] at this
      omega
     have hlk' : lk ps k=lk qs' k:=by
      rw [hlk];exact G7 hqn hmem fun p hp e=>by have:=hkin p hp e;rw [hS] at this;exact this
     obtain ⟨x',l',d',hv,_,_,_⟩:=hsub.cells
     have hv2 : v.aC=true:=by rw [hv];rfl
     subst hv
     refine aK (hG) ?_<;>simp only [go_sem,seval,q1,q4,q6,q7,q8,q9,c7,c8,c9,d12,t1,t2,hl1,hl2,SS,hL']
     exact ⟨13-(L+1),by omega,L+1,_,_,qs',rfl,by omega,.inr hsub,hpre',fun p hp=>hqo p (hmem p hp),hlen,hlk',by and_intros<;>rfl⟩
 ·rintro ρ σ' ⟨L,c,nd,qs,hnd,hO,hqo,hql,hlk,q1,q4,q6,q8,s1,s2⟩
  have hl1:=(List.getElem?_eq_some_iff.1 s1).1
  have s1':=s1
  have s2':=s2
  rw [hz] at s1' s2'
  rcases hO with ⟨rfl,rfl⟩ | hN
  ·have hnone : lk ps k=none:=by rw [hlk];rfl
   simp only [go_sem,seval,q1,q4,q6,q8,s1',s2',List.getElem?_set_self hl1]
   rw [hnone]
   exact fin (by rfl) rfl
  ·have hL : L=13:=hnd.resolve_left (by obtain ⟨_,_,_,rfl,_⟩:=hN.cells;simp)
   subst hL
   have hqn:=hN.nodup
   cases hN with
   | row S hL13=>omega
   | @deep _ v _ h hs h2 hp =>
    have hF:=Px v qs h hqo hs hql k
    have hvc:=h.cell
    have hle:=oW k qs
    simp only [go_sem,seval] at hvc
    simp only [go_sem,seval,q1,q4,q6,q8,hvc]
    refine ah (hF) ?_<;>simp only [go_sem,seval,q1,q4,q6,q8,hvc]
    cases hb : hasK qs k with
    | false =>
     have hnone : lk ps k=none:=by rw [hlk];exact zy hs hb
     simp only [go_sem,seval,Bool.not_false,s1',s2',q1,q4,q6,q8,List.getElem?_set_self hl1]
     rw [hnone]
     exact fin (by rfl) rfl
    | true =>
     obtain ⟨hj,hje⟩:=rJ hb
     have hpo:=hqo qs[rF qs k] (List.getElem_mem _)
     have hsome : lk ps k=some qs[rF qs k].2:=by rw [hlk];exact xU hqn (by have:=List.getElem_mem hj;rwa [← Prod.eta qs[rF qs k],hje] at this)
     have hB:=h.blk
     have hml : (qs.map au).length=qs.length:=by simp
     obtain ⟨t,rfl⟩:=h.fP (by intro e;rw [e] at hml;simp at hml;omega)
     have c1 : (0 : Int)≤((rF qs k : Nat) : Int):=by omega
     have c2 : ((rF qs k : Nat) : Int) < ((qs.map au).length : Int):=by omega
     have c3 : rF qs k*12+12≤(qs.map au).flatten.length:=by rw [hB.flat,hml];omega
     have c3' : rF qs k*12+1+11≤(qs.map au).flatten.length:=by omega
     have c4 : ((qs.map au).flatten.drop (rF qs k*12+1)).take 11=qs[rF qs k].2.cells:=by
      have:=hB.og (i:=rF qs k) (by omega)
      have e1 : (qs.map au)[rF qs k]'(by omega)=au qs[rF qs k]:=by simp
      rw [e1] at this
      have e2 : ((qs.map au).flatten.drop (rF qs k*12)).take 12=au qs[rF qs k]:=this
      rw [← List.drop_drop]
      have e3 : List.take 11 (List.drop 1 (List.drop (rF qs k*12) (qs.map au).flatten))=List.drop 1 (List.take 12 (List.drop (rF qs k*12) (qs.map au).flatten)):=by
       rw [List.drop_take]
      rw [e3,e2];rfl
     have d2 : qs[rF qs k].2.cells.length=11:=rfl
     have d3 : qs[rF qs k].2.cells.all VV.aC=true:=hpo.cell
     have d4 : qs[rF qs k].2.cells.take 11=qs[rF qs k].2.cells:=rfl
     simp only [go_sem,seval,Bool.not_true,s1',s2',q1,q4,q6,q8,c1,c2,c3,c3',c4,d2,d3,d4,Int.toNat_natCast,List.getElem?_set_self hl1]
     rw [hsome]
     exact fin (Yt (o:=some qs[rF qs k].2) (by rintro _ ⟨⟩;exact hpo)) rfl
end Go.V
namespace Go.V
open Go.Proofs
set_option maxRecDepth 100000
theorem Ub (seed bits m : Int) (hr : VV) (hp : Dy hr) (d : Nat) : ∀ (L : Nat),L+d=13→∀ (c : Nat→Nat) (a b : iE),a.1≠b.1→a.2.ok→b.2.ok→a.1.length≤1000000000→b.1.length≤1000000000→nZ (lW seed bits) c L a.1→nZ (lW seed bits) c L b.1 →
  ∃ v qs,HN (lW seed bits) L c v qs∧qs.Perm [a,b]∧PV Tryz.prog G0 217 [.agg [.int .u64 seed,.int .i64 bits,.int .i64 m,hr],.int .i64 L,.agg (au a),.agg (au b)] v:=by
 obtain ⟨sm,hsm⟩ : ∃ sm,sm=lW seed bits:=⟨_,rfl⟩
 have hSum:=fun k hk=>MQ seed bits m hr hp k hk
 rw [← hsm] at hSum ⊢
 have hpp:=hp.pure
 have hc : hr.aC=true:=by cases hp<;>rfl
 have hcc:=hc
 simp only [go_sem,seval] at hc
 induction d with
 | zero =>
  intro L hL c a b hne ha hb hal hbl hpa hpb
  obtain rfl : L=13:=by omega
  have hap:=(mM ha).pure _ (List.mem_singleton.2 rfl)
  have hbp:=(mM hb).pure _ (List.mem_singleton.2 rfl)
  obtain ⟨x,y,hxy,hbl',hx,hy⟩ : ∃ x y : iE,(if tH a.1 b.1 > 0 then (b,a) else (a,b))=(x,y)∧bl x.1 y.1=true∧(x=a∧y=b∧¬ tH a.1 b.1 > 0∨x=b∧y=a∧tH a.1 b.1 > 0)∧True:=by
   by_cases h : tH a.1 b.1 > 0
   ·refine ⟨b,a,by rw [if_pos h], ?_,.inr ⟨rfl,rfl,h⟩,trivial⟩
    unfold tH at h
    split at h
    ·omega
    ·rename_i h1
     exact ER h1 hne
   ·refine ⟨a,b,by rw [if_neg h], ?_,.inl ⟨rfl,rfl,h⟩,trivial⟩
    unfold tH at h
    split at h
    ·assumption
    ·rename_i h1
     have:=ER h1 hne
     rw [if_pos (by simpa [hne] using h1)] at h
     omega
  have hxo : x.2.ok:=by rcases hx with ⟨rfl,rfl,_⟩ | ⟨rfl,rfl,_⟩<;>assumption
  have hyo : y.2.ok:=by rcases hx with ⟨rfl,rfl,_⟩ | ⟨rfl,rfl,_⟩<;>assumption
  have hB : dh 12 ([x,y].map au):=Ah (by simp [hxo,hyo])
  have hSl : dG 12 (.sl 2 (au x++au y) true) ([x,y].map au):=dG.of hB rfl (by simp)
  refine ⟨_,[x,y],.deep hSl (by simp [hbl']) (by simp) ?_, ?_, ?_⟩
  ·rcases hx with ⟨rfl,rfl,_⟩ | ⟨rfl,rfl,_⟩<;>simp [hpa,hpb]
  ·rcases hx with ⟨rfl,rfl,_⟩ | ⟨rfl,rfl,_⟩
   ·exact .refl _
   ·exact .swap _ _ _
  ·have d0 : ∀ p : iE,(au p).getD 0 .undef=.str p.1:=fun _=>rfl
   have c7 : ∀ p : iE,(au p).length=12:=fun _=>rfl
   have c9 : ∀ p : iE,(au p).take 12=au p:=fun _=>rfl
   have c0 : ∀ p : iE,(au p).drop 12=[]:=fun _=>rfl
   have lx : ∀ (p : iE) (l : List VV),(au p++l).length=12+l.length:=fun p l=>by rw [List.length_append];rfl
   have tx : ∀ (p : iE) (l : List VV),(au p++l).take 12=au p:=fun _ _=>rfl
   have dx : ∀ (p : iE) (l : List VV),(au p++l).drop 24=l.drop 12:=fun _ _=>rfl
   have ca:=uH ha
   have cb:=uH hb
   have hxp:=(mM hxo).pure _ (List.mem_singleton.2 rfl)
   have hyp:=(mM hyo).pure _ (List.mem_singleton.2 rfl)
   refine pv e217 (by simp) (by simp [VV.ak,VV.isPure,hpp,hap,hbp]) (by simp [VV.isPure,VV.ak,iC,hxp,hyp]) ?_
   simp only [go_sem,seval,c217,hc,d0,c7,c9,ca,cb]
   refine ah (IZ a.1 b.1) ?_<;>simp only [go_sem,seval,d0,c7,c9,ca,cb]
   refine aG (fun hd=>?_) (fun hd=>?_)
   ·have hd : tH a.1 b.1 > 0:=by simpa using hd
    obtain ⟨rfl,rfl⟩ : x=b∧y=a:=by rcases hx with ⟨_,_,h⟩ | ⟨h1,h2,_⟩;exact absurd hd h;exact ⟨h1,h2⟩
    simp only [go_sem,seval,d0,c7,c9,c0,ca,cb,lx,tx,dx]
    exact ⟨_,1,rfl,sF rfl (by simp [VV.ak,VV.isPure,iC,hxp,hyp])⟩
   ·have hd : ¬ tH a.1 b.1 > 0:=by simpa using hd
    obtain ⟨rfl,rfl⟩ : x=a∧y=b:=by rcases hx with ⟨h1,h2,_⟩ | ⟨_,_,h⟩;exact ⟨h1,h2⟩;exact absurd h hd
    simp only [go_sem,seval,d0,c7,c9,c0,ca,cb,lx,tx,dx]
    exact ⟨_,1,rfl,sF rfl (by simp [VV.ak,VV.isPure,iC,hxp,hyp])⟩
 | succ d ih =>
  intro L hL c a b hne ha hb hal hbl hpa hpb
  have hap:=(mM ha).pure _ (List.mem_singleton.2 rfl)
  have hbp:=(mM hb).pure _ (List.mem_singleton.2 rfl)
  have d0 : ∀ p : iE,(au p).getD 0 .undef=.str p.1:=fun _=>rfl
  have c7 : ∀ p : iE,(au p).length=12:=fun _=>rfl
  have c9 : ∀ p : iE,(au p).take 12=au p:=fun _=>rfl
  have c0 : ∀ p : iE,(au p).drop 12=[]:=fun _=>rfl
  have ca:=uH ha
  have cb:=uH hb
  have b13 : ((L : Int) == 13)=false:=by simp;omega
  have hi : iD (sm a.1) L < 32:=nH _ _
  have hj : iD (sm b.1) L < 32:=nH _ _
  have hCa:=xJ (sm a.1) L
  have hCb:=xJ (sm b.1) L
  have hsa:=hpa.step
  have hsb:=hpb.step
  have hS1:=hSum a.1 hal
  have hS2:=hSum b.1 hbl
  generalize iD (sm a.1) L=i at *
  generalize iD (sm b.1) L=j at *
  have e1 : IntKind.i64.wrap ((L : Int)+1)=((L+1 : Nat) : Int):=by rw [iw (by omega)];omega
  by_cases hij : i=j
  ·subst hij
   obtain ⟨v,qs,hN,hq,hP⟩:=ih (L+1) (by omega) _ a b hne ha hb hal hbl hsa hsb
   obtain ⟨l',hR,hP2⟩:=kY _ 0 .nils kN.empty i hi _ (qW hN)
   have hR' : kN (fun t=>((if t=i then Sl.sub v qs else Sl.no)).cells) (0 ||| 2 ^ i) l':=by
    refine (congrArg (fun f=>kN f (0 ||| 2 ^ i) l') (funext fun t=>?_)).mp hR
    split<;>rfl
   refine ⟨_,_,.row (fun t=>if t=i then Sl.sub v qs else Sl.no) (by omega) hR' ?_ ?_, ?_, ?_⟩
   ·intro t p ht h
    split at h<;>cases h
   ·intro t v' ps' ht h
    split at h
    ·rename_i e
     cases h
     rw [e];exact hN
    ·cases h
   ·have:=qP (fun _=>Sl.no) hi (Sl.sub v qs)
    have e0 : (fun j=>if j=i then Sl.no else Sl.no)=fun _=>Sl.no:=by funext j;split<;>rfl
    rw [e0,qB,List.append_nil] at this
    exact this.trans hq
   ·have hvc : v.aC=true:=by obtain ⟨_,_,_,rfl,_⟩:=hN.cells;rfl
    have hlp:=hR.sl.pure
    have hlc:=hR.sl.cell
    have hvu:=iq hvc
    have hvl:=cellC hvc
    have hlu:=iq hlc
    have hll:=cellC hlc
    simp only [Vl.zero,Vl.cells,List.cons_append,List.nil_append] at hP2
    refine pv e217 (by simp) (by simp [VV.ak,VV.isPure,hpp,hap,hbp]) (by simp [VV.isPure,VV.ak,hlp]) ?_
    simp only [go_sem,seval] at hvc
    simp only [go_sem,seval] at hlc
    simp only [go_sem,seval] at hvu
    simp only [go_sem,seval] at hvl
    simp only [go_sem,seval] at hlu
    simp only [go_sem,seval] at hll
    have b2 : ((i : Int) == i)=true:=by simp
    simp only [go_sem,seval,c217,hc,d0,c7,c9,ca,cb,b13]
    refine aj (hS1) (by simp only [go_sem,seval,hc,d0,c7,c9,ca,cb]) ?_<;>simp only [go_sem,seval,hc,d0,c7,c9,ca,cb]
    refine aK (hCa) ?_<;>simp only [go_sem,seval,hc,d0,c7,c9,ca,cb]
    refine aj (hS2) (by simp only [go_sem,seval,hc,d0,c7,c9,ca,cb]) ?_<;>simp only [go_sem,seval,hc,d0,c7,c9,ca,cb]
    refine aK (hCb) ?_<;>simp only [go_sem,seval,hc,d0,c7,c9,ca,cb,b2,e1]
    refine aj (hP) (by simp only [go_sem,seval,hc,d0,c7,c9,ca,cb,hvc,hvu,hvl]) ?_<;>simp only [go_sem,seval,hc,d0,c7,c9,ca,cb,hvc,hvu,hvl]
    refine aj (hP2) (by simp only [go_sem,seval,hc,d0,c7,c9,ca,cb,hvc,hvu,hvl,hlc,hlu,hll]) ?_<;>simp only [go_sem,seval,hc,d0,c7,c9,ca,cb,hvc,hvu,hvl,hlc,hlu,hll]
    exact ⟨_,1,rfl,sF rfl (by simp [VV.ak,VV.isPure,hlp])⟩
  ·obtain ⟨l1,hR1,hP1⟩:=kY _ 0 .nils kN.empty i hi _ (jv ha)
   obtain ⟨l2,hR2,hP2⟩:=kY _ _ l1 hR1 j hj _ (jv hb)
   have hR' : kN (fun t=>((if t=j then Sl.lone b else if t=i then Sl.lone a else Sl.no)).cells) ((0 ||| 2 ^ i) ||| 2 ^ j) l2:=by
    refine (congrArg (fun f=>kN f ((0 ||| 2 ^ i) ||| 2 ^ j) l2) (funext fun t=>?_)).mp hR2
    split
    ·rfl
    ·split<;>rfl
   refine ⟨_,_,.row (fun t=>if t=j then Sl.lone b else if t=i then Sl.lone a else Sl.no) (by omega) hR' ?_ ?_, ?_, ?_⟩
   ·intro t p ht h
    split at h
    ·rename_i e
     cases h
     rw [e];exact hsb
    ·split at h
     ·rename_i e
      cases h
      rw [e];exact hsa
     ·cases h
   ·intro t v' ps' ht h
    split at h
    ·cases h
    ·split at h<;>cases h
   ·have h1:=qP (fun t=>if t=i then Sl.lone a else Sl.no) hj (Sl.lone b)
    have e0 : (fun t=>if t=j then Sl.no else if t=i then Sl.lone a else Sl.no)=fun t=>if t=i then Sl.lone a else Sl.no:=by
     funext t
     by_cases e : t=j
     ·rw [if_pos e,if_neg (by omega)]
     ·rw [if_neg e]
    rw [e0] at h1
    have h2:=qP (fun _=>Sl.no) hi (Sl.lone a)
    have e1 : (fun j=>if j=i then Sl.no else Sl.no)=fun _=>Sl.no:=by funext j;split<;>rfl
    rw [e1,qB,List.append_nil] at h2
    exact (h1.trans ((h2.append_left _))).trans (.swap _ _ _)
   ·have hlp:=hR2.sl.pure
    have hlc:=hR2.sl.cell
    have hlu:=iq hlc
    have hll:=cellC hlc
    have kc:=hR1.sl.cell
    have ku:=iq kc
    have kl:=cellC kc
    refine pv e217 (by simp) (by simp [VV.ak,VV.isPure,hpp,hap,hbp]) (by simp [VV.isPure,VV.ak,hlp]) ?_
    simp only [go_sem,seval] at hlc
    simp only [go_sem,seval] at hlu
    simp only [go_sem,seval] at hll
    simp only [go_sem,seval] at kc
    simp only [go_sem,seval] at ku
    simp only [go_sem,seval] at kl
    have b2 : ((i : Int) == j)=false:=by simp;omega
    simp only [go_sem,seval,c217,hc,d0,c7,c9,ca,cb,b13]
    refine aj (hS1) (by simp only [go_sem,seval,hc,d0,c7,c9,ca,cb]) ?_<;>simp only [go_sem,seval,hc,d0,c7,c9,ca,cb]
    refine aK (hCa) ?_<;>simp only [go_sem,seval,hc,d0,c7,c9,ca,cb]
    refine aj (hS2) (by simp only [go_sem,seval,hc,d0,c7,c9,ca,cb]) ?_<;>simp only [go_sem,seval,hc,d0,c7,c9,ca,cb]
    refine aK (hCb) ?_<;>simp only [go_sem,seval,hc,d0,c7,c9,ca,cb,b2,e1]
    refine aj (hP1) (by simp only [go_sem,seval,hc,d0,c7,c9,ca,cb,kc,ku,kl]) ?_<;>simp only [go_sem,seval,hc,d0,c7,c9,ca,cb,kc,ku,kl]
    refine aj (hP2) (by simp only [go_sem,seval,hc,d0,c7,c9,ca,cb,kc,ku,kl,hlc,hlu,hll]) ?_<;>simp only [go_sem,seval,hc,d0,c7,c9,ca,cb,kc,ku,kl,hlc,hlu,hll]
    exact ⟨_,1,rfl,sF rfl (by simp [VV.ak,VV.isPure,hlp])⟩
end Go.V
