/- Texts F59 F60 L3 L4 F61. -/
import Derived.Test.YthhjefemijhamaaGreatDoorG32
import Derived.Test.YthhjefemijhamaaGreatDoorG34
set_option linter.unusedVariables false
set_option linter.unusedSimpArgs false
namespace Go.V
open Go.Proofs
set_option maxRecDepth 100000
abbrev Un (sk ix : Int) (t : Bs) : VV:=.agg [.int .i64 sk,.int .i64 ix,.str t]
theorem LH (x : Vl) (hx : x.ok) (sk ix : Int) (t : Bs) (h : 0≤sk∧sk≤2) (hk : x.k=sk+4) : PV Tryz.prog G0 119 [x.vv,Un sk ix t] (.int .i64 0):=by
 refine pv e119 (by simp) (by simp [VV.ak,VV.isPure,Vl.vv,hx.pure]) rfl ?_
 have d1 : x.cells.length=11:=rfl
 have d2 : x.cells.all VV.aF=true:=hx.cell
 have d3 : x.cells.take 11=x.cells:=rfl
 have dx : x.cells.getD 3 .undef=.int .i64 (sk+4):=by rw [← hk];rfl
 have b1 : decide (sk < 0)=false:=decide_eq_false (by omega)
 have b2 : decide (2 < sk)=false:=decide_eq_false (by omega)
 have e1 : IntKind.i64.wrap (sk+4)=sk+4:=iw (by omega)
 have b3 : (sk+4 != sk+4)=false:=by simp
 simp only [go_sem,seval,c119,Vl.vv,d1,d2,d3,dx,b1,b2,b3,e1,Bool.not_false]
 exact fin (by rfl) rfl
def xM : Option Vl→VV
 | some y=>.tup [y.vv,.int .i64 0]
 | none=>.tup [Vl.zero.vv,.int .i64 5]
theorem vF {o : Option Vl} (h : ∀ x,o=some x→x.ok) : (xM o).isPure=true:=by
 cases o with
 | none=>rfl
 | some x=>simp [xM,VV.isPure,VV.ak,Vl.vv,(h x rfl).pure]
theorem GK (x : Vl) (hx : x.ok) (ps : List iP) (hM : kT (kW x.seed x.bits) x.hr ps) (hok : ∀ p ∈ ps,p.2.ok) (hl : ps.length≤1000000) (sk ix : Int) (t : Bs) (h : sk=1∨sk=2) (hk : x.k=sk+4) (ht : t.length≤1000000000) :
  PV Tryz.prog G0 72 [x.vv,Un sk ix t] (xM (lk ps t)):=by
 have hlo : ∀ y,lk ps t=some y→y.ok:=fun y hy=>hok _ (yF hy)
 have hpu:=vF hlo
 have hF:=LH x hx sk ix t (by omega) hk
 have hG:=KJ x.seed x.bits x.n x.hr ps hM hok hl t ht
 refine pv e72 (by simp) (by simp [VV.ak,VV.isPure,Vl.vv,hx.pure]) hpu ?_
 have d1 : x.cells.length=11:=rfl
 have d2 : x.cells.all VV.aF=true:=hx.cell
 have d3 : x.cells.take 11=x.cells:=rfl
 have dx : x.cells.getD 3 .undef=.int .i64 x.k:=rfl
 have dd : (List.drop 5 x.cells).take 4=[.int .u64 x.seed,.int .i64 x.bits,.int .i64 x.n,x.hr]:=rfl
 have b4 : (x.k == 4)=false:=by simp;omega
 simp only [go_sem,seval,c72,Vl.vv,d1,d2,d3]
 refine ah (hF) ?_<;>simp only [go_sem,seval,d1,d2,d3,Vl.vv,dx,dd]
 refine ah (hG) ?_<;>simp only [go_sem,seval,d1,d2,d3,Vl.vv,dx,dd,b4]
 cases hlk : lk ps t with
 | none =>
  simp only [go_sem,seval,Gx,Vl.zero,Vl.vv,Vl.cells,d1,d2,d3,dx,b4,Bool.not_false]
  exact fin (by rfl) rfl
 | some y =>
  have hy:=hlo y hlk
  have f1 : y.cells.length=11:=rfl
  have f2 : y.cells.all VV.aF=true:=hy.cell
  have f3 : y.cells.take 11=y.cells:=rfl
  simp only [go_sem,seval,Gx,Vl.vv,f1,f2,f3,d1,d2,d3,dx,b4,Bool.not_true]
  exact fin (vF (o:=some y) (by rintro _ ⟨⟩;exact hy)) rfl
def oO (x y : Vl) (hr' : VV) : VV:=if max x.below (y.below+1)+1 > 64 then .tup [Vl.zero.vv,.int .i64 7] else if x.more+(y.more+1)+1 > 16384 then .tup [Vl.zero.vv,.int .i64 8] else
 .tup [({ x with n:=x.n+1,hr:=hr',below:=max x.below (y.below+1),more:=x.more+(y.more+1) } : Vl).vv,.int .i64 0]
theorem Yn (x y : Vl) (hx : x.ok) (hy : y.ok) (hk : x.k=5) (ps : List iP) (hM : kT (kW x.seed x.bits) x.hr ps) (hok : ∀ q ∈ ps,q.2.ok∧q.1.length≤1000000000) (hn : x.n=ps.length) (hl : ps.length+1≤1000000) (ix : Int) (t : Bs) (ht : t.length≤1000000000) (hno : lk ps t=none)
  (hm : x.more+y.more+1≤1000000) (hb : y.below+1≤1000000) :
  ∃ hr' qs,kT (kW x.seed x.bits) hr' qs∧qs.Perm ((t,y)::ps)∧hr'.isPure=true∧hr'.aF=true∧PV Tryz.prog G0 143 [x.vv,Un 1 ix t,y.vv] (oO x y hr'):=by
 obtain ⟨hr',qs,hq,hqp,hP⟩:=Jt x.seed x.bits ps.length x.hr ps hM hok rfl hl t y hy ht
 rw [rP (yV hno)] at hqp
 have hql : qs.length=ps.length+1:=by simpa using hqp.length_eq
 have hp':=hq.pure
 have hc' : hr'.aF=true:=by obtain ⟨_,_,_,rfl,_⟩:=hq.cells;rfl
 refine ⟨hr',qs,.inr hq,hqp,hp',hc', ?_⟩
 rw [hql] at hP
 have hF:=LH x hx 1 ix t (by omega) (by rw [hk];rfl)
 have hG:=GK x hx ps hM (fun q hq=>(hok q hq).1) (by omega) 1 ix t (.inl rfl) (by rw [hk];rfl) ht
 rw [hno] at hG
 have hok1 : ({ x with n:=x.n+1,hr:=hr' } : Vl).ok:=⟨hx.rp,hx.rc,hp',hc',hx.hb,hx.hm⟩
 have hok2 : ({ x with n:=x.n+1,hr:=hr',below:=max x.below (y.below+1),more:=x.more+(y.more+1) } : Vl).ok:=⟨hx.rp,hx.rc,hp',hc',by have:=hx.hb;simp only;omega,by simp only;omega⟩
 have hW:=LJ _ y hok1 hy hm hb
 have hI:=AP _ hok2
 have hgr : (if ({ x with n:=x.n+1,hr:=hr',below:=max x.below (y.below+1),more:=x.more+(y.more+1) } : Vl).below+1 > 64 then VV.tup [Vl.zero.vv,.int .i64 7] else if ({ x with n:=x.n+1,hr:=hr',below:=max x.below (y.below+1),more:=x.more+(y.more+1) } : Vl).more+1 > 16384 then .tup [Vl.zero.vv,.int .i64 8] else .tup [({ x with n:=x.n+1,hr:=hr',below:=max x.below (y.below+1),more:=x.more+(y.more+1) } : Vl).vv,.int .i64 0])=oO x y hr':=rfl
 rw [hgr] at hI
 have hzz : ∃ zs e,oO x y hr'=.tup [.agg zs,.int .i64 e]∧zs.length=11∧VV.ak zs=true∧aU zs=true:=by
  unfold oO
  split
  ·exact ⟨_,_,rfl,rfl,rfl,rfl⟩
  ·split
   ·exact ⟨_,_,rfl,rfl,rfl,rfl⟩
   ·exact ⟨_,_,rfl,rfl,hok2.pure,hok2.cell⟩
 obtain ⟨zs,e,hz,z1,z2,z3⟩:=hzz
 rw [hz] at hI ⊢
 clear hgr hz
 have z4 : zs.all VV.aF=true:=z3
 have z5 : zs.take 11=zs:=List.take_of_length_le (by omega)
 have hpu : (VV.tup [.agg zs,.int .i64 e]).isPure=true:=by simp [VV.isPure,VV.ak,z2]
 have hcast : x.n+1=((ps.length+1 : Nat) : Int):=by omega
 have hpx:=hx.pure
 have hpy:=hy.pure
 have x7 : x.cells.length=11:=rfl
 have x8 : x.cells.all VV.aF=true:=hx.cell
 have x9 : x.cells.take 11=x.cells:=rfl
 have xk : x.cells.getD 3 .undef=.int .i64 5:=by rw [← hk];rfl
 have xd : (List.drop 5 x.cells).take 4=[.int .u64 x.seed,.int .i64 x.bits,.int .i64 ps.length,x.hr]:=by rw [← hn];rfl
 obtain ⟨c',hcc⟩ : ∃ c',c'=({ x with n:=x.n+1,hr:=hr' } : Vl).cells:=⟨_,rfl⟩
 have xs : List.take 5 x.cells++.int .u64 x.seed::.int .i64 x.bits::.int .i64 (ps.length+1 : Nat)::hr'::List.drop 9 x.cells=c':=by rw [hcc,← hcast];rfl
 have k7 : c'.length=11:=by rw [hcc];rfl
 have k8 : c'.all VV.aF=true:=by rw [hcc];exact hok1.cell
 have k9 : c'.take 11=c':=by rw [hcc];rfl
 have kk : c'.getD 3 .undef=.int .i64 5:=by rw [hcc,← hk];rfl
 have y7 : y.cells.length=11:=rfl
 have y8 : y.cells.all VV.aF=true:=hy.cell
 have y9 : y.cells.take 11=y.cells:=rfl
 obtain ⟨z',hzc⟩ : ∃ z',z'=Vl.zero.cells:=⟨_,rfl⟩
 have z7 : z'.length=11:=by rw [hzc];rfl
 have z8 : z'.all VV.aF=true:=by rw [hzc];rfl
 have z9 : z'.take 11=z':=by rw [hzc];rfl
 have zd : List.drop 11 z'=[]:=by rw [hzc];rfl
 have hzl : [VV.int .i64 0,.int .i64 0,.str [],.int .i64 0,.nilp,.int .u64 0,.int .i64 0,.int .i64 0,.nilp,.int .i64 0,.int .i64 0]=z':=by rw [hzc];rfl
 rw [show ({ x with n:=x.n+1,hr:=hr' } : Vl).vv=.agg c' by rw [hcc];rfl] at hW
 simp only [xM,Vl.vv,← hzc] at hP hF hG hW hI ⊢
 refine pv e143 (by simp) (by simp [VV.ak,VV.isPure,hpx,hpy]) hpu ?_
 simp only [go_sem,seval] at hc'
 simp only [go_sem,seval,c143,x7,x8,x9,xk,xd,y7,y8,y9,hzl,z7,z8,z9]
 refine ah (hF) ?_<;>simp only [go_sem,seval,x7,x8,x9,xk,xd,y7,y8,y9,hzl,z7,z8,z9]
 refine ah (hG) ?_<;>simp only [go_sem,seval,x7,x8,x9,xk,xd,y7,y8,y9,hzl,z7,z8,z9]
 refine ah hP ?_
 refine nJ (yB (M:=fun ρ τ=>ρ.get 3=.mptr 0 0∧ρ.get 5=.mptr 2 0∧ρ.get 6=.mptr 3 0∧ρ.get 9=.mptr 4 0∧ρ.get 10=.int .i64 5∧ρ.get 7=.int .i64 0∧τ[0]?=some (.own c')∧τ[2]?=some (.own y.cells)∧τ[3]?=some (.own z')) ?_) _ _ _ ?_
 ·rintro ρ τ ⟨q3,q5,q6,q9,q10,q7,t0,t2,t3⟩
  have l3:=(List.getElem?_eq_some_iff.1 t3).1
  simp only [go_sem,seval,q3,q5,q6,q9,q10,q7,t0,t2,t3,k7,k8,k9,kk,y7,y8,y9]
  refine ah (hW) ?_<;>simp only [go_sem,seval,q3,q5,q6,q9,q10,q7,t0,t2,t3,k7,k8,k9,kk,y7,y8,y9,z7,z8,z9]
  refine ah (hI) ?_<;>simp only [go_sem,seval,q3,q5,q6,q9,q10,q7,t0,t2,t3,z1,z4,z5,z7,zd,List.getElem?_set_self l3]
  exact fin hpu rfl
 ·simp only [go_sem,seval,x7,x8,x9,xk,xd,xs,k7,k8,k9,kk,y7,y8,y9,hzl,z7,z8,z9,hc']
theorem YL (x y : Vl) (v : T) (hx : x.ok) (hy : y.ok) (hv : zD v y) (hk : x.k=6) (ps : List iP) (hM : kT (kW x.seed x.bits) x.hr ps) (hok : ∀ q ∈ ps,q.2.ok∧q.1.length≤1000000000) (hn : x.n=ps.length) (hl : ps.length+1≤1000000) (ht : v.key.length≤1000000000)
  (hm : x.more+y.more+1≤1000000) (hb : y.below+1≤1000000) :
  (∃ z,lk ps v.key=some z∧PV Tryz.prog G0 145 [x.vv,y.vv] (.tup [x.vv,.int .i64 0])) ∨
  (lk ps v.key=none∧∃ hr' qs,kT (kW x.seed x.bits) hr' qs∧qs.Perm ((v.key,y)::ps)∧hr'.isPure=true∧hr'.aF=true∧PV Tryz.prog G0 145 [x.vv,y.vv] (oO x y hr')):=by
 have hKey:=Zl hv hy ht
 have hG:=KJ x.seed x.bits x.n x.hr ps hM (fun q hq=>(hok q hq).1) (by omega) v.key ht
 generalize v.key=t at *
 have hpx:=hx.pure
 have hpy:=hy.pure
 have x7 : x.cells.length=11:=rfl
 have x8 : x.cells.all VV.aF=true:=hx.cell
 have x9 : x.cells.take 11=x.cells:=rfl
 have xk : x.cells.getD 3 .undef=.int .i64 6:=by rw [← hk];rfl
 have xd : (List.drop 5 x.cells).take 4=[.int .u64 x.seed,.int .i64 x.bits,.int .i64 ps.length,x.hr]:=by rw [← hn];rfl
 have y7 : y.cells.length=11:=rfl
 have y8 : y.cells.all VV.aF=true:=hy.cell
 have y9 : y.cells.take 11=y.cells:=rfl
 obtain ⟨z',hzc⟩ : ∃ z',z'=Vl.zero.cells:=⟨_,rfl⟩
 have z7 : z'.length=11:=by rw [hzc];rfl
 have z8 : z'.all VV.aF=true:=by rw [hzc];rfl
 have z9 : z'.take 11=z':=by rw [hzc];rfl
 have zd : List.drop 11 z'=[]:=by rw [hzc];rfl
 have hzl : [VV.int .i64 0,.int .i64 0,.str [],.int .i64 0,.nilp,.int .u64 0,.int .i64 0,.int .i64 0,.nilp,.int .i64 0,.int .i64 0]=z':=by rw [hzc];rfl
 rw [hn] at hG
 cases hlk : lk ps t with
 | some z =>
  refine .inl ⟨z,rfl, ?_⟩
  have hzo : z.ok:=(hok _ (yF hlk)).1
  have w7 : z.cells.length=11:=rfl
  have w8 : z.cells.all VV.aF=true:=hzo.cell
  have w9 : z.cells.take 11=z.cells:=rfl
  rw [hlk] at hG
  simp only [Gx,Vl.vv] at hKey hG ⊢
  have hpu : (VV.tup [.agg x.cells,.int .i64 0]).isPure=true:=by simp [VV.ak,VV.isPure,hpx]
  refine pv e145 (by simp) (by simp [VV.ak,VV.isPure,hpx,hpy]) hpu ?_
  simp only [go_sem,seval,c145,x7,x8,x9,xk,xd,y7,y8,y9,hzl,z7,z8,z9,zd]
  refine ah (hKey) ?_<;>simp only [go_sem,seval,x7,x8,x9,xk,xd,y7,y8,y9]
  refine ah (hG) ?_<;>simp only [go_sem,seval,x7,x8,x9,xk,xd,y7,y8,y9,hzl,z7,z8,z9,zd,w7,w8,w9]
  exact fin hpu rfl
 | none =>
  obtain ⟨hr',qs,hq,hqp,hP⟩:=Jt x.seed x.bits ps.length x.hr ps hM hok rfl hl t y hy ht
  rw [rP (yV hlk)] at hqp
  have hql : qs.length=ps.length+1:=by simpa using hqp.length_eq
  have hp':=hq.pure
  have hc' : hr'.aF=true:=by obtain ⟨_,_,_,rfl,_⟩:=hq.cells;rfl
  refine .inr ⟨rfl,hr',qs,.inr hq,hqp,hp',hc', ?_⟩
  rw [hql] at hP
  rw [hlk] at hG
  have hok1 : ({ x with n:=x.n+1,hr:=hr' } : Vl).ok:=⟨hx.rp,hx.rc,hp',hc',hx.hb,hx.hm⟩
  have hok2 : ({ x with n:=x.n+1,hr:=hr',below:=max x.below (y.below+1),more:=x.more+(y.more+1) } : Vl).ok:=⟨hx.rp,hx.rc,hp',hc',by have:=hx.hb;simp only;omega,by simp only;omega⟩
  have hW:=LJ _ y hok1 hy hm hb
  have hI:=AP _ hok2
  have hgr : (if ({ x with n:=x.n+1,hr:=hr',below:=max x.below (y.below+1),more:=x.more+(y.more+1) } : Vl).below+1 > 64 then VV.tup [Vl.zero.vv,.int .i64 7] else if ({ x with n:=x.n+1,hr:=hr',below:=max x.below (y.below+1),more:=x.more+(y.more+1) } : Vl).more+1 > 16384 then .tup [Vl.zero.vv,.int .i64 8] else .tup [({ x with n:=x.n+1,hr:=hr',below:=max x.below (y.below+1),more:=x.more+(y.more+1) } : Vl).vv,.int .i64 0])=oO x y hr':=rfl
  rw [hgr] at hI
  have hzz : ∃ zs e,oO x y hr'=.tup [.agg zs,.int .i64 e]∧zs.length=11∧VV.ak zs=true∧aU zs=true:=by
   unfold oO
   split
   ·exact ⟨_,_,rfl,rfl,rfl,rfl⟩
   ·split
    ·exact ⟨_,_,rfl,rfl,rfl,rfl⟩
    ·exact ⟨_,_,rfl,rfl,hok2.pure,hok2.cell⟩
  obtain ⟨zs,e,hz,z1,z2,z3⟩:=hzz
  rw [hz] at hI ⊢
  clear hgr hz
  have z4 : zs.all VV.aF=true:=z3
  have z5 : zs.take 11=zs:=List.take_of_length_le (by omega)
  have hpu : (VV.tup [.agg zs,.int .i64 e]).isPure=true:=by simp [VV.isPure,VV.ak,z2]
  have hcast : x.n+1=((ps.length+1 : Nat) : Int):=by omega
  obtain ⟨c',hcc⟩ : ∃ c',c'=({ x with n:=x.n+1,hr:=hr' } : Vl).cells:=⟨_,rfl⟩
  have xs : List.take 5 x.cells++.int .u64 x.seed::.int .i64 x.bits::.int .i64 (ps.length+1 : Nat)::hr'::List.drop 9 x.cells=c':=by rw [hcc,← hcast];rfl
  have k7 : c'.length=11:=by rw [hcc];rfl
  have k8 : c'.all VV.aF=true:=by rw [hcc];exact hok1.cell
  have k9 : c'.take 11=c':=by rw [hcc];rfl
  rw [show ({ x with n:=x.n+1,hr:=hr' } : Vl).vv=.agg c' by rw [hcc];rfl] at hW
  simp only [Gx,Vl.vv,← hzc] at hP hKey hG hW hI ⊢
  refine pv e145 (by simp) (by simp [VV.ak,VV.isPure,hpx,hpy]) hpu ?_
  simp only [go_sem,seval] at hc'
  simp only [go_sem,seval,c145,x7,x8,x9,xk,xd,y7,y8,y9,hzl,z7,z8,z9,zd]
  refine ah (hKey) ?_<;>simp only [go_sem,seval,x7,x8,x9,xk,xd,y7,y8,y9]
  refine ah (hG) ?_<;>simp only [go_sem,seval,x7,x8,x9,xk,xd,y7,y8,y9,hzl,z7,z8,z9,zd]
  refine ah (hP) ?_<;>simp only [go_sem,seval,x7,x8,x9,xs,k7,k8,k9,y7,y8,y9,hc']
  refine ah (hW) ?_<;>simp only [go_sem,seval,k7,k8,k9,y7,y8,y9]
  refine ah (hI) ?_<;>simp only [go_sem,seval,z1,z4,z5,z7,z8,z9,zd]
  exact fin hpu rfl
end Go.V
namespace Go.V
open Go.Proofs
set_option maxRecDepth 100000
theorem Yc (seed bits : Int) : PV Tryz.prog G0 67 [.agg [.int .u64 seed,.int .i64 bits]] (.agg [.int .u64 seed,.int .i64 bits,.int .i64 0,.nilp]):=by
 refine pv e67 (by simp) rfl rfl ?_
 simp only [go_sem,seval,c67]
 exact fin (by rfl) rfl
theorem VZ (kd : Int) (hk : kd=5∨kd=6) (seed bits : Int) (n : Nat) (hr : VV) (ps : List iP) (h : kT (kW seed bits) hr ps) (hi : ∀ p ∈ ps,p.2.ok) (hl : ps.length≤1000000) (hs : eG (yg ps)≤1000000) (hd : maxD (yg ps)≤1000000) :
  PV Tryz.prog G0 69 [.int .i64 kd,.agg [.int .u64 seed,.int .i64 bits,.int .i64 n,hr]] (⟨0,0,[],kd,.nilp,seed,bits,n,hr,maxD (yg ps),eG (yg ps)⟩ : Vl).vv:=by
 have hok : (⟨0,0,[],kd,.nilp,seed,bits,n,hr,0,0⟩ : Vl).ok:=⟨rfl,rfl,h.pure,h.cell,by simp,by simp⟩
 have hok2 : (⟨0,0,[],kd,.nilp,seed,bits,n,hr,maxD (yg ps),eG (yg ps)⟩ : Vl).ok:=⟨rfl,rfl,h.pure,h.cell,hd,hs⟩
 have hP:=DI ⟨0,0,[],kd,.nilp,seed,bits,n,hr,0,0⟩ hok hk ps h hi hl hs hd
 have h1:=h.cell
 have h2:=eH h1
 have h3:=cellC h1
 simp only [go_sem,seval] at h1
 simp only [go_sem,seval] at h2
 simp only [go_sem,seval] at h3
 have hpu:=hok2.pure
 refine pv e69 (by simp) (by simp [VV.ak,VV.isPure,h.pure]) (by simp only [VV.isPure,Vl.vv];exact hpu) ?_
 simp only [go_sem,seval,c69,h1,h2,h3]
 refine ah (hP) ?_<;>simp only [go_sem,seval,Vl.vv,Vl.cells,h1,h2,h3]
 exact fin (by simp only [VV.isPure];exact hpu) rfl
theorem OU : PV Tryz.prog G0 63 [.agg [.int .i64 5,.int .i64 0,.str [],.nils,.nils]] (.int .i64 0):=by
 refine pv e63 (by simp) rfl rfl ?_
 simp only [go_sem,seval,c63]
 refine dI ?_
 simp only [go_sem,seval,NW O9 (σ:=[Obj.own [.int .i64 5,.int .i64 0,.str [],.nils,.nils],Obj.mp []]) (i:=1) rfl]
 exact fin (by rfl) rfl
theorem Pq : PV Tryz.prog G0 63 [.agg [.int .i64 6,.int .i64 0,.str [],.nils,.nils]] (.int .i64 0):=by
 refine pv e63 (by simp) rfl rfl ?_
 simp only [go_sem,seval,c63]
 exact fin (by rfl) rfl
def Pg (kd seed bits : Int) : Vl:=⟨0,0,[],kd,.nilp,seed,bits,0,.nilp,0,0⟩
theorem XV (kd seed bits : Int) : (Pg kd seed bits).ok:=⟨rfl,rfl,rfl,rfl,by simp [Pg],by simp [Pg]⟩
theorem N8 (kd : Int) (hk : kd=5∨kd=6) (seed bits : Int) (A B C : Obj) : CV Tryz.prog G0 41 [.mptr 3 0,.agg [.int .u64 seed,.int .i64 bits],.agg [.int .i64 kd,.int .i64 0,.str [],.nils,.nils],.int .i64 1] [A,B,C,.own [.int .i64 0]] fun r σ'=>r=.ret (.tup [(Pg kd seed bits).vv,.int .i64 0])∧σ'[2]?=some C:=by
 have hK:=VZ kd hk seed bits 0 .nilp [] (.inl ⟨rfl,rfl⟩) (by simp) (by simp) (by simp [eG]) (by simp [maxD])
 have hL : PV Tryz.prog G0 52 [.agg [.int .u64 seed,.int .i64 bits,.int .i64 0,.nilp]] (.int .i64 0):=by
  refine pv e52 (by simp) rfl rfl ?_
  simp only [go_sem,seval,c52]
  exact fin (by rfl) rfl
 have hO : PV Tryz.prog G0 63 [.agg [.int .i64 kd,.int .i64 0,.str [],.nils,.nils]] (.int .i64 0):=by
  rcases hk with rfl | rfl
  ·exact OU
  ·exact Pq
 have b1 : decide (kd < 4)=false:=decide_eq_false (by omega)
 have b2 : (kd == 4)=false:=by simp;omega
 have e0 : (⟨0,0,[],kd,.nilp,seed,bits,(0 : Nat),.nilp,maxD (yg []),eG (yg [])⟩ : Vl)=Pg kd seed bits:=rfl
 rw [show ((0 : Nat) : Int)=0 from rfl] at hK e0
 rw [e0] at hK
 refine cv e41 (by simp) ?_
 simp only [go_sem,seval,c41]
 refine ah (hO) ?_<;>simp only [go_sem,seval,b1]
 refine dI ?_
 simp only [go_sem,seval,b2]
 refine ah (Yc seed bits) ?_<;>simp only [go_sem,seval]
 refine dI ?_
 simp only [go_sem,seval]
 refine ah (hL) ?_<;>simp only [go_sem,seval]
 refine ah (hK) ?_<;>simp only [go_sem,seval,Pg,Vl.vv,Vl.cells]
theorem SK (kd : Int) (hk : kd=5∨kd=6) (seed bits : Int) : PV Tryz.prog G0 16 [.agg [.int .u64 seed,.int .i64 bits],.agg [.int .i64 kd,.int .i64 0,.str [],.nils,.nils]] (.tup [(Pg kd seed bits).vv,.int .i64 0]):=by
 refine pv e16 (by simp) rfl rfl ?_
 simp only [go_sem,seval,c16]
 refine CV.mono (N8 kd hk seed bits _ _ _) ?_
 rintro _ σ' ⟨rfl,h⟩
 have h5:=(List.getElem?_eq_some_iff.1 h).1
 simp only [go_sem,seval,aO,Pg,Vl.vv,Vl.cells,h,List.getElem?_set_self h5]
 exact fin (by rfl) rfl
theorem BR (kd : Int) (hk : kd=5∨kd=6) (id : Nat) (seed bits : Int) (s : Bs) (a : Int) (n : Nat) (σ : Store) (hσ : σ[id]?=some (RD seed bits s a n)) : CV Tryz.prog G0 137 [.mptr id 0,.int .i64 kd] σ fun r σ'=>r=.ret (Pg kd seed bits).vv∧Ch (fun _=>False) σ σ':=by
 refine cv e137 (by simp) ?_
 have hlt:=(List.getElem?_eq_some_iff.1 hσ).1
 have hσ' : ∀ τ,(σ++τ)[id]?=some (RD seed bits s a n):=fun τ=>by rw [List.getElem?_append_left hlt];exact hσ
 unfold RD at hσ'
 simp only [go_sem,seval,c137,hσ',SS]
 refine ah (SK kd hk seed bits) ?_<;>simp only [go_sem,seval,SS]
 refine CV.mono (vO (Pg kd seed bits) (XV kd seed bits) 0 _) ?_
 rintro _ σ' ⟨rfl,hC⟩
 have h : σ'[σ.length]?=some (.own [.int .i64 0,.int .i64 0,.str [],.int .i64 0,.nilp,.int .u64 0,.int .i64 0,.int .i64 0,.nilp,.int .i64 0,.int .i64 0]):=by
  rw [hC.same _ (by simp) (by simp)];simp
 have h5:=(List.getElem?_eq_some_iff.1 h).1
 simp only [go_sem,seval,aO,Pg,Vl.vv,Vl.cells,h,List.getElem?_set_self h5]
 exact ⟨by have:=hC.len;simp at this ⊢;omega,fun j hj hn=>by rw [List.getElem?_set_ne (by omega),hC.same j (by simp;omega) hn,List.getElem?_append_left hj]⟩
end Go.V
namespace Go.V
inductive Md where
 | val
 | vec (acc : List T)
 | map (acc : List (Bs × T))
 | set (acc : List (Bs × T))
def Md.fin : Md→T
 | .val=>.vec []
 | .vec l=>.vec l
 | .map l=>.map l
 | .set l=>.set (l.map (·.2))
def Md.cl : Md→Bs
 | .val=>[]
 | .vec _=>[93]
 | .map _=>[125]
 | .set _=>[62]
def Md.isVal : Md→Bool
 | .val=>true
 | _=>false
inductive Rs where
 | ok (v : T) (e n : Nat)
 | er (c p : Nat)
inductive On where
 | ok (m : Md) (e n : Nat)
 | er (c p : Nat)
def one (rv : Int→Nat→Nat→Option Rs) (s : Bs) (a : Int) (n q : Nat) : Md→Option On
 | .val=>none
 | .vec acc=>match rv a n (q+1) with
  | none=>none
  | some (.er c p)=>some (.er c p)
  | some (.ok v e n')=>some (.ok (.vec (acc++[v])) e n')
 | .map acc=>match aT s a with
  | .err c p=>some (.er c p)
  | .tok k x e _ t=>if k≠4 then some (.er 2 x) else if (lk acc t).isSome=true then some (.er 6 x) else match aT s e with
   | .err c p=>some (.er c p)
   | .tok k2 x2 e2 _ t2=>if k2=1∧t2=[58] then (match rv e2 n (q+1) with
     | none=>none
     | some (.er c p)=>some (.er c p)
     | some (.ok v e' n')=>some (.ok (.map (bP t v acc)) e' n')) else some (.er 2 x2)
 | .set acc=>match aT s a with
  | .err c p=>some (.er c p)
  | .tok _ x _ _ _=>match rv a n (q+1) with
   | none=>none
   | some (.er c p)=>some (.er c p)
   | some (.ok v e n')=>if (lk acc v.key).isSome=true then some (.er 6 x) else some (.ok (.set (bP v.key v acc)) e n')
def dZ (kd : Int) : Md:=if kd=4 then .vec [] else if kd=5 then .map [] else .set []
def rd : Nat→Bs→Int→Nat→Nat→Md→Option Rs
 | 0,_,_,_,_,_=>none
 | f+1,s,a,n,q,m=>if m.isVal=true then (match aT s a with
   | .err c p=>some (.er c p)
   | .tok k x e i t=>match bI k i t with
    | none=>some (.er 2 x)
    | some (sk,si,st,kd) =>
     if 64 < q then some (.er 7 x) else if 16384 < n+1 then some (.er 8 x)
     else if kd=0 then some (.ok (.sc sk si st) e (n+1))
     else match aT s e with
      | .err c p=>some (.er c p)
      | .tok k' _ e' _ t'=>if k'=1∧t'=(dZ kd).cl then some (.ok (dZ kd).fin e' (n+1)) else rd f s e (n+1) q (dZ kd))
  else match one (fun a n q=>rd f s a n q .val) s a n q m with
   | none=>none
   | some (.er c p)=>some (.er c p)
   | some (.ok m' e n')=>match aT s e with
    | .err c p=>some (.er c p)
    | .tok k x e' _ t=>if k=1∧t=[44] then rd f s e' n' q m' else if k=1∧t=m.cl then some (.ok m'.fin e' n') else some (.er 2 x)
theorem uz (s : Bs) : ∀ (f i : Nat) (out o : Bs) (j : Nat),kR s f i out=(o,j,0)→o.length+i+1≤out.length+j
 | 0,i,out,o,j,h=>by simp [kR] at h
 | f+1,i,out,o,j,h=>by
  simp only [kR] at h
  split at h
  ·simp at h
  ·split at h
   ·simp only [Prod.mk.injEq,and_true] at h
    obtain ⟨rfl,rfl⟩:=h
    omega
   ·split at h
    ·simp at h
    ·split at h
     ·have:=uz s f _ _ _ _ h
      simp at this
      omega
     ·split at h
      ·simp at h
      ·split at h
       ·split at h
        ·have:=uz s f _ _ _ _ h
         simp at this
         omega
        ·rename_i hh
         simp only [Prod.mk.injEq] at h
         exact absurd h.2.2 hh
       ·split at h
        ·simp at h
        ·have:=uz s f _ _ _ _ h
         simp at this
         omega
theorem IK (s : Bs) (h : (bT s).2.2=0) : (bT s).1.length+2≤(bT s).2.1:=by
 unfold bT at h ⊢
 split at h
 ·simp at h
 ·rename_i c hc
  split at h
  ·rename_i h34
   simp only [h34,if_true] at h ⊢
   have:=uz s s.length 1 [] (kR s s.length 1 []).1 (kR s s.length 1 []).2.1 (by rw [← h])
   simp at this
   omega
  ·simp at h
theorem VG {s : Bs} {p : Nat} {x : Bs} (h : qA s p=some x) : p+x.length≤s.length:=by
 unfold qA at h
 have:=List.find?_some h
 unfold oG at this
 simp only [Bool.and_eq_true,decide_eq_true_eq] at this
 exact this.1
theorem TQ {s : Bs} {p : Nat} {x : Bs} (h : qA s p=some x) : 1≤x.length:=by
 have hm:=List.mem_of_find?_eq_some h
 revert hm
 have : ∀ y ∈ aX,1≤y.length:=by decide
 exact this x
theorem Iz {s : Bs} {a : Int} {k x e : Nat} {i : Int} {t : Bs} (h : cZ s a=.tok k x e i t) : 0≤a∧a≤x∧x≤e∧e≤s.length∧(k≠0→x < e)∧(k=4→t.length+2≤e-x)∧t.length≤e-x:=by
 unfold cZ at h
 split at h
 ·cases h
 ·rename_i hr
  have ha : a.toNat≤s.length:=by omega
  have hp:=jH (f:=gU) ha
  have hp2 : a.toNat≤aQ gU s a.toNat:=by unfold aQ;omega
  generalize aQ gU s a.toNat=p at *
  unfold nZ at h
  split at h
  ·cases h;simp;omega
  ·rename_i c hc
   have hlt:=(List.getElem?_eq_some_iff.1 hc).1
   have hr1 : ∀ f : UInt8→Bool,p+1≤aQ f s (p+1)∧aQ f s (p+1)≤s.length:=fun f=>⟨by unfold aQ;omega,jH hlt⟩
   unfold Ik at h
   split at h
   ·split at h
    ·rename_i hu
     have h1:=vY (s.drop p)
     have h2:=IK _ hu
     rw [List.length_drop] at h1
     cases h
     refine ⟨by omega,by omega,by omega,by omega,fun _=>by omega,fun _=>by omega,by omega⟩
    ·cases h
   ·split at h
    ·have:=hr1 iR
     cases h
     refine ⟨by omega,by omega,by omega,by omega,fun _=>by omega,fun h=>by omega, ?_⟩
     rw [List.length_take];omega
    ·split at h
     ·split at h
      ·have:=hr1 dJ
       cases h
       refine ⟨by omega,by omega,by omega,by omega,fun _=>by omega,fun h=>by omega,by simp⟩
      ·cases h
     ·split at h
      ·rename_i y hy
       have h1:=VG hy
       have h2:=TQ hy
       cases h
       refine ⟨by omega,by omega,by omega,h1,fun _=>by omega,fun h=>by omega,by omega⟩
      ·cases h
theorem aW {s : Bs} {a : Int} {k x e : Nat} {i : Int} {t : Bs} (h : aT s a=.tok k x e i t) : k≠0∧0≤a∧a≤x∧x < e∧e≤s.length∧(k=4→t.length+2≤e-x)∧t.length≤e-x:=by
 obtain ⟨h0,h1⟩:=Ei h
 obtain ⟨a1,a2,a3,a4,a5,a6,a7⟩:=Iz h1
 exact ⟨h0,a1,a2,a5 h0,a4,a6,a7⟩
theorem wE {s : Bs} {a : Int} {k x e : Nat} {i : Int} {t : Bs} (h : aT s a=.tok k x e i t) : e≤s.length:=(aW h).2.2.2.2.1
theorem FZ (s : Bs) : -9223372036854775808≤(parseNum s).1∧(parseNum s).1≤9223372036854775807:=by
 unfold parseNum
 repeat' split
 all_goals (simp only;omega)
theorem Ip {s : Bs} {a : Int} {k x e : Nat} {i : Int} {t : Bs} (h : cZ s a=.tok k x e i t) : -9223372036854775808≤i∧i≤9223372036854775807:=by
 unfold cZ nZ Ik at h
 repeat' split at h
 all_goals first
  | cases h;done
  | (simp only [Lx.tok.injEq] at h;obtain ⟨_,_,_,rfl,_⟩:=h;first | exact FZ _ | omega)
theorem tu {s : Bs} {a : Int} {k x e : Nat} {i : Int} {t : Bs} (h : aT s a=.tok k x e i t) : -9223372036854775808≤i∧i≤9223372036854775807:=Ip (Ei h).2
theorem Ah {k : Nat} {i : Int} {t : Bs} {sk si : Int} {st : Bs} {kd : Int} (h : bI k i t=some (sk,si,st,kd)) (hi : -9223372036854775808≤i∧i≤9223372036854775807) : -9223372036854775808≤si∧si≤9223372036854775807:=by
 unfold bI at h
 repeat' split at h
 all_goals first
  | cases h;done
  | (simp only [Option.some.injEq,Prod.mk.injEq] at h;obtain ⟨rfl,rfl,rfl,rfl⟩:=h;omega)
end Go.V
namespace Go.V
theorem tN (k i : Int) (t : Bs) : (jO k i t).length≤2*t.length+9:=by
 unfold jO
 have:=lS t
 have h8:=pW i
 repeat' split
 all_goals simp<;>omega
theorem Ci (t : Bs) : (jO 3 0 t).length≤2*t.length+3:=by
 unfold jO
 have:=lS t
 repeat' split
 all_goals first | (simp;done) | (simp;omega) | omega
theorem AA (t : Bs) (v : T) : ∀ acc : List (Bs × T),(T.jw (bP t v acc)).length≤(T.jw acc).length+(jO 3 0 t).length+v.key.length
 | []=>by simp [bP,T.jw]
 | (k',v')::acc=>by
  have ih:=AA t v acc
  unfold bP
  split
  ·simp [T.jw];omega
  ·split
   ·rename_i h;subst h;simp [T.jw];omega
   ·simp [T.jw];omega
theorem ER (t : Bs) (v : T) : ∀ acc : List (Bs × T),(T.keys ((bP t v acc).map (·.2))).length≤(T.keys (acc.map (·.2))).length+v.key.length
 | []=>by simp [bP,T.keys]
 | (k',v')::acc=>by
  have ih:=ER t v acc
  unfold bP
  split
  ·simp [T.keys];omega
  ·split
   ·simp [T.keys];omega
   ·simp [T.keys];omega
theorem OL (kd : Int) : (dZ kd).fin.key.length=2∧(dZ kd).isVal=false:=by
 unfold dZ
 repeat' split
 all_goals simp [Md.fin,T.key,T.keys,T.jw,Md.isVal]
theorem Oa {k x e : Nat} {i : Int} {t : Bs} {sk si kd : Int} {st : Bs} (h : bI k i t=some (sk,si,st,kd)) (h4 : k=4→t.length+2≤e-x) (hl : t.length≤e-x) (hx : x < e) (h0 : kd=0) : (jO sk si st).length≤10*(e-x):=by
 unfold bI at h
 split at h
 ·cases h;have:=tN 2 i [];simp at this;omega
 ·split at h
  ·rename_i hk
   cases h
   have:=h4 hk
   have:=Ci t
   omega
  ·split at h
   ·repeat' split at h
    all_goals first | (cases h;omega) | cases h
   ·split at h
    ·repeat' split at h
     all_goals first | (cases h;have:=tN 1 1 [];have:=tN 1 0 [];have:=tN 0 0 [];simp at *;omega) | cases h
    ·cases h
theorem rd_key : ∀ (f : Nat) (s : Bs) (a : Int) (n q : Nat) (m : Md) (v : T) (e n' : Nat),rd f s a n q m=some (.ok v e n')→(v.key.length : Int)≤(if m.isVal=true then 0 else (m.fin.key.length : Int))+10*(e-a)
 | 0,_,_,_,_,_,_,_,_,h=>by simp [rd] at h
 | f+1,s,a,n,q,m,v,e,n',h=>by
  rw [rd] at h
  cases hm : m.isVal with
  | true =>
   rw [hm] at h
   simp only [if_true] at h ⊢
   cases hL : aT s a with
   | err c p=>rw [hL] at h;cases h
   | tok k x e1 i t =>
    obtain ⟨b0,b1,b2,b3,b4,b5,b6⟩:=aW hL
    rw [hL] at h
    simp only at h
    cases hB : bI k i t with
    | none=>rw [hB] at h;cases h
    | some b =>
     obtain ⟨sk,si,st,kd⟩:=b
     rw [hB] at h
     simp only at h
     split at h
     ·cases h
     ·split at h
      ·cases h
      ·split at h
       ·rename_i hk
        cases h
        have:=Oa (x:=x) (e:=e) hB b5 b6 b3 hk
        simp only [T.key]
        omega
       ·obtain ⟨g1,g2⟩:=OL kd
        cases hL2 : aT s e1 with
        | err c p=>rw [hL2] at h;cases h
        | tok k2 x2 e2 i2 t2 =>
         obtain ⟨d0,d1,d2,d3,d4,d5,d6⟩:=aW hL2
         rw [hL2] at h
         simp only at h
         split at h
         ·cases h
          rw [g1]
          omega
         ·have ih:=rd_key f s e1 (n+1) q (dZ kd) v e n' h
          rw [g2,g1] at ih
          simp at ih
          omega
  | false =>
   rw [hm] at h
   simp only [Bool.false_eq_true,if_false] at h ⊢
   cases hO : one (fun a n q=>rd f s a n q .val) s a n q m with
   | none=>rw [hO] at h;cases h
   | some r =>
    cases r with
    | er c p=>rw [hO] at h;cases h
    | ok m' e1 n1 =>
     rw [hO] at h
     simp only at h
     have hone : (m'.fin.key.length : Int)≤m.fin.key.length+10*(e1-a)∧m'.isVal=false:=by
      cases m with
      | val=>cases hm
      | vec acc =>
       simp only [one] at hO
       cases hR : rd f s a n (q+1) .val with
       | none=>rw [hR] at hO;cases hO
       | some R =>
        rw [hR] at hO
        cases R with
        | er c p=>cases hO
        | ok w e2 n2 =>
         cases hO
         have ih:=rd_key f s a n (q+1) .val w e1 n1 hR
         simp only [Md.isVal,if_true] at ih
         simp only [Md.fin,T.key,T.oI,T.keys,List.length_cons,List.length_append,List.length_nil,Md.isVal,and_true]
         omega
      | map acc =>
       simp only [one] at hO
       cases hL : aT s a with
       | err c p=>rw [hL] at hO;cases hO
       | tok k x e2 i t =>
        obtain ⟨b0,b1,b2,b3,b4,b5,b6⟩:=aW hL
        rw [hL] at hO
        simp only at hO
        split at hO
        ·cases hO
        ·split at hO
         ·cases hO
         ·rename_i hk4 _
          cases hL2 : aT s e2 with
          | err c p=>rw [hL2] at hO;cases hO
          | tok k3 x3 e3 i3 t3 =>
           obtain ⟨d0,d1,d2,d3,d4,d5,d6⟩:=aW hL2
           rw [hL2] at hO
           simp only at hO
           split at hO
           ·cases hR : rd f s e3 n (q+1) .val with
            | none=>rw [hR] at hO;cases hO
            | some R =>
             rw [hR] at hO
             cases R with
             | er c p=>cases hO
             | ok w e4 n4 =>
              cases hO
              have ih:=rd_key f s e3 n (q+1) .val w e1 n1 hR
              simp only [Md.isVal,if_true] at ih
              have h1:=AA t w acc
              have h2:=Ci t
              have h3:=b5 (by simpa using hk4)
              simp only [Md.fin,T.key,List.length_cons,List.length_append,List.length_nil,Md.isVal,and_true]
              omega
           ·cases hO
      | set acc =>
       simp only [one] at hO
       cases hL : aT s a with
       | err c p=>rw [hL] at hO;cases hO
       | tok k x e2 i t =>
        rw [hL] at hO
        simp only at hO
        cases hR : rd f s a n (q+1) .val with
        | none=>rw [hR] at hO;cases hO
        | some R =>
         rw [hR] at hO
         cases R with
         | er c p=>cases hO
         | ok w e4 n4 =>
          simp only at hO
          split at hO
          ·cases hO
          ·cases hO
           have ih:=rd_key f s a n (q+1) .val w e1 n1 hR
           simp only [Md.isVal,if_true] at ih
           have h1:=ER w.key w acc
           simp only [Md.fin,T.key,List.length_cons,List.length_append,List.length_nil,Md.isVal,and_true]
           omega
     obtain ⟨hk,hv'⟩:=hone
     cases hL : aT s e1 with
     | err c p=>rw [hL] at h;cases h
     | tok k x e2 i t =>
      obtain ⟨b0,b1,b2,b3,b4,b5,b6⟩:=aW hL
      rw [hL] at h
      simp only at h
      split at h
      ·have ih:=rd_key f s e2 n1 q m' v e n' h
       rw [hv'] at ih
       simp at ih
       omega
      ·split at h
       ·cases h
        omega
       ·cases h
end Go.V
namespace Go.V
open Go.Proofs
set_option maxRecDepth 100000
def PG (s : Bs) (q n : Nat) : Rs→Vl→Prop
 | .er _ _,_=>True
 | .ok v e n',x=>zD v x∧x.ok∧x.below+q≤64∧n+(x.more+1)=n'∧n'≤16384∧e≤s.length
def Pz (id : Nat) (seed bits : Int) (s : Bs) (σ : Store) (X : Vl) : Rs→dX→Store→Prop
 | .er c p,r,σ'=>r=.panic (wR c p)∧Ch (·=id) σ σ'
 | .ok _ e n',r,σ'=>r=.ret X.vv∧Gone id seed bits s n' e σ σ'
def lY (a : Int) : Prop:=-9223372036854775808≤a∧a≤9223372036854775807
def Ih (f : Nat) : Prop:=∀ (seed bits : Int) (s : Bs) (a : Int) (n q : Nat) (R : Rs),lY a→s.length≤10000000→1≤q→q≤65→n≤16384 →
 rd f s a n q .val=some R→∃ X,PG s q n R X∧∀ (id : Nat) (σ : Store),σ[id]?=some (RD seed bits s a n)→CV Tryz.prog G0 57 [.mptr id 0,.int .i64 q] σ (Pz id seed bits s σ X R)
structure abf (items : List (T × Vl)) (x : Vl) : Prop where
 rv : ∀ p ∈ items,zD p.1 p.2
 ok : ∀ p ∈ items,p.2.ok
 ex : ∃ root,RP root (items.map (·.2.cells))∧x=⟨0,0,[],4,root,0,0,0,.nilp,maxD (items.map (·.2)),eG (items.map (·.2))⟩
structure ZA (kd seed bits : Int) (lim : Nat) (items : List (Bs × (T × Vl))) (x : Vl) : Prop where
 ri : jB items
 rv : ∀ q ∈ items,zD q.2.1 q.2.2
 ok : ∀ q ∈ items,q.2.2.ok∧q.1.length≤lim
 ex : ∃ hr ps,ps.Perm (items.map fun q=>(q.1,q.2.2))∧kT (kW seed bits) hr ps∧x=⟨0,0,[],kd,.nilp,seed,bits,items.length,hr,maxD (items.map (·.2.2)),eG (items.map (·.2.2))⟩
def rG (seed bits : Int) : Md→Vl→Prop
 | .val,_=>False
 | .vec acc,x=>∃ items,acc=items.map (·.1)∧abf items x
 | .map acc,x=>∃ items,acc=items.map (fun q=>(q.1,q.2.1))∧ZA 5 seed bits 10000000 items x
 | .set acc,x=>∃ items,acc=items.map (fun q=>(q.1,q.2.1))∧ZA 6 seed bits 1000000000 items x∧∀ q ∈ items,q.1=q.2.1.key
theorem rG.rvl {seed bits : Int} {m : Md} {x : Vl} (h : rG seed bits m x) : zD m.fin x:=by
 cases m with
 | val=>exact h.elim
 | vec acc =>
  obtain ⟨items,rfl,h1,h2,root,hR,rfl⟩:=h
  exact .vec items h1 h2 root hR
 | map acc =>
  obtain ⟨items,rfl,h0,h1,h2,hr,ps,hp,hM,rfl⟩:=h
  exact .map items seed bits hr ps h0 hp hM h1 h2
 | set acc =>
  obtain ⟨items,rfl,⟨h0,h1,h2,hr,ps,hp,hM,rfl⟩,hk⟩:=h
  have : (Md.set (items.map fun q=>(q.1,q.2.1))).fin=.set (items.map fun q=>q.2.1):=by simp [Md.fin]
  rw [this]
  exact .set items seed bits hr ps h0 hp hM h1 h2 hk
theorem rG.ok {seed bits : Int} {m : Md} {x : Vl} (h : rG seed bits m x) (hb : x.below≤1000000) (hm : x.more≤1000000) : x.ok:=by
 cases m with
 | val=>exact h.elim
 | vec acc =>
  obtain ⟨items,rfl,h1,h2,root,hR,rfl⟩:=h
  exact ⟨hR.pure,hR.cell,rfl,rfl,hb,hm⟩
 | map acc =>
  obtain ⟨items,rfl,h0,h1,h2,hr,ps,hp,hM,rfl⟩:=h
  exact ⟨rfl,rfl,hM.pure,hM.cell,hb,hm⟩
 | set acc =>
  obtain ⟨items,rfl,⟨h0,h1,h2,hr,ps,hp,hM,rfl⟩,hk⟩:=h
  exact ⟨rfl,rfl,hM.pure,hM.cell,hb,hm⟩
def Zy (seed bits : Int) (s : Bs) (q ns : Nat) : On→Vl→Prop
 | .er _ _,_=>True
 | .ok m e n',x=>rG seed bits m x∧x.below+q≤64∧ns+(x.more+1)=n'∧n'≤16384∧e≤s.length
def OnQ (id tid : Nat) (seed bits : Int) (s : Bs) (σ : Store) (X : Vl) : On→dX→Store→Prop
 | .er c p,r,σ'=>r=.panic (wR c p)∧Ch (fun j=>j=id∨j=tid) σ σ'
 | .ok _ e n',r,σ'=>r=.ret (.tup [])∧σ'[tid]?=some (.own X.cells)∧σ'[id]?=some (RD seed bits s e n')∧Ch (fun j=>j=id∨j=tid) σ σ'
theorem xI {τ : Store} {i : Nat} {o : Obj} (h : τ[i]?=some o) : τ.set i o=τ:=by
 have hl:=(List.getElem?_eq_some_iff.1 h).1
 refine List.ext_getElem? fun j=>?_
 by_cases hj : i=j
 ·subst hj;rw [List.getElem?_set_self hl,h]
 ·rw [List.getElem?_set_ne hj]
theorem iL {a : Nat} (h : a≤10000000) : lY a:=⟨by omega,by omega⟩
theorem O8 (f : Nat) (hV : Ih f) (seed bits : Int) (s : Bs) (a : Int) (n ns q : Nat) (R : On) (acc : List T) (x : Vl) (ha : lY a) (hs : s.length≤10000000)
  (hA : rG seed bits (.vec acc) x) (hb : x.below+q≤64) (hq1 : 1≤q) (hn : ns+(x.more+1)=n) (hn2 : n≤16384) (hrd : one (fun a n q=>rd f s a n q .val) s a n q (.vec acc)=some R) :
  ∃ X,Zy seed bits s q ns R X∧∀ (id tid rid did : Nat) (σ : Store),σ[id]?=some (RD seed bits s a n)→tid≠id→σ[rid]?=some (.own [.mptr id 0])→σ[did]?=some (.own [.int .i64 q])→σ[tid]?=some (.own x.cells) →
   CV Tryz.prog G0 139 [.mptr tid 0,.mptr rid 0,.mptr did 0] σ (OnQ id tid seed bits s σ X R):=by
 obtain ⟨items,rfl,hrv,hok,root,hR,hx⟩:=hA
 have hxo : x.ok:=rG.ok (m:=.vec (items.map (·.1))) (seed:=seed) (bits:=bits) ⟨items,rfl,hrv,hok,root,hR,hx⟩ (by omega) (by omega)
 have hsl:=jS (items.map (·.2))
 have hmx : x.more=eG (items.map (·.2)):=by subst hx;rfl
 have hbx : x.below=maxD (items.map (·.2)):=by subst hx;rfl
 rw [← hmx] at hsl
 rw [List.length_map] at hsl
 simp only [one] at hrd
 cases hrd1 : rd f s a n (q+1) .val with
 | none=>rw [hrd1] at hrd;cases hrd
 | some R1 =>
  rw [hrd1] at hrd
  obtain ⟨y,hy,ih⟩:=hV seed bits s a n (q+1) R1 ha hs (by omega) (by omega) hn2 hrd1
  have x7 : x.cells.length=11:=rfl
  have x8 : x.cells.all VV.aF=true:=hxo.cell
  have x9 : x.cells.take 11=x.cells:=rfl
  have xd : x.cells.drop 11=[]:=rfl
  have e1 : IntKind.i64.wrap ((q : Int)+1)=((q+1 : Nat) : Int):=by rw [iw (by omega)];omega
  have hL:=RJ x hxo (items.map (·.2.cells)) (by subst hx;exact hR) 0 (by subst hx;rfl) (by simp;omega)
  have hxl : (items.map (·.2.cells)).length=items.length:=by simp
  rw [hxl,Nat.add_zero] at hL
  simp only [Vl.vv] at hL
  cases R1 with
  | er c p =>
   simp only [Option.some.injEq] at hrd
   subst hrd
   refine ⟨x,trivial,fun id tid rid did σ hσ hne hr hd ht=>?_⟩
   refine cv e139 (by simp) ?_
   simp only [go_sem,seval,c139,ht,hr,hd,x7,x8,x9,e1]
   refine aC (hL) (by simp only [go_sem,seval,ht,hr,hd,x7,x8,x9,e1]) ?_<;>simp only [go_sem,seval,ht,hr,hd,x7,x8,x9,e1]
   refine CV.mono (ih id σ hσ) ?_
   rintro r σ1 ⟨rfl,hCe⟩
   simp only [go_sem,seval,aO]
   intro ρ'
   exact ⟨rfl,hCe.mono fun _ h=>.inl h⟩
  | ok v e n' =>
   simp only [Option.some.injEq] at hrd
   subst hrd
   obtain ⟨hy,hyo,hyb,hyn,hn',he⟩:=hy
   obtain ⟨r',hr',hP⟩:=Po x y hxo hyo (by subst hx;rfl) (items.map (·.2.cells)) (by subst hx;exact hR) items.length (by rw [hxl];exact Nat.le_refl _) (by rw [hxl];omega) (by omega) (by omega)
   rw [if_neg (by omega),if_neg (by omega)] at hP
   rw [← hxl,List.take_length,List.drop_length,List.append_nil] at hr'
   obtain ⟨x',hx'⟩ : ∃ x' : Vl,x'={ x with root:=r',below:=max x.below (y.below+1),more:=x.more+(y.more+1) }:=⟨_,rfl⟩
   rw [← hx'] at hP
   have hA' : rG seed bits (.vec (items.map (·.1)++[v])) x':=by
    refine ⟨items++[(v,y)],by simp,fun p hp=>?_,fun p hp=>?_,r',by simpa using hr', ?_⟩
    ·rcases List.mem_append.1 hp with h | h
     ·exact hrv p h
     ·simp at h;subst h;exact hy
    ·rcases List.mem_append.1 hp with h | h
     ·exact hok p h
     ·simp at h;subst h;exact hyo
    ·subst hx hx'
     simp only [List.map_append,List.map_cons,List.map_nil,yM,yP]
   have hb' : x'.below+q≤64:=by subst hx';simp only;omega
   have hm' : ns+(x'.more+1)=n':=by subst hx';simp only;omega
   have hxo' : x'.ok:=hA'.ok (by omega) (by omega)
   have y7 : y.cells.length=11:=rfl
   have y8 : y.cells.all VV.aF=true:=hyo.cell
   have y9 : y.cells.take 11=y.cells:=rfl
   have z7 : x'.cells.length=11:=rfl
   have z8 : x'.cells.all VV.aF=true:=hxo'.cell
   have z9 : x'.cells.take 11=x'.cells:=rfl
   simp only [Vl.vv] at hP
   refine ⟨x',⟨hA',hb',hm',hn',he⟩,fun id tid rid did σ hσ hne hr hd ht=>?_⟩
   refine cv e139 (by simp) ?_
   simp only [go_sem,seval,c139,ht,hr,hd,x7,x8,x9,e1]
   refine aC (hL) (by simp only [go_sem,seval,ht,hr,hd,x7,x8,x9,e1]) ?_<;>simp only [go_sem,seval,ht,hr,hd,x7,x8,x9,e1]
   refine CV.mono (ih id σ hσ) ?_
   rintro r σ1 ⟨rfl,hC,hσ1⟩
   have ht1 : σ1[tid]?=some (.own x.cells):=by rw [hC.same tid (List.getElem?_eq_some_iff.1 ht).1 hne];exact ht
   have hlt:=(List.getElem?_eq_some_iff.1 ht1).1
   simp only [go_sem,seval,aO,Vl.vv,ht1,x7,x8,x9,y7,y8,y9]
   (first | refine ah (hP) ?_ | refine fZ (hP) ?_ | refine JC (hP) ?_ | refine aC (hP) (by simp only [go_sem,seval,ht1,x7,x8,x9,y7,y8,y9]) ?_ | refine aC (hP) ?_ ?_)<;>simp only [go_sem,seval,ht1,x7,x8,x9,y7,y8,y9]
   have hD:=vO _ hxo' 0 σ1
   simp only [Vl.vv] at hD
   refine CV.mono hD ?_
   rintro _ σ2 ⟨rfl,hC2⟩
   have ht3 : σ2[tid]?=some (.own x.cells):=by rw [hC2.same tid hlt (by simp)];exact ht1
   have hlt2:=(List.getElem?_eq_some_iff.1 ht3).1
   have hσ2 : σ2[id]?=some (RD seed bits s e n'):=by rw [hC2.same id (List.getElem?_eq_some_iff.1 hσ1).1 (by simp)];exact hσ1
   simp only [go_sem,seval,aO,ht3,x7,xd,z7,z8,z9]
   refine ⟨rfl, ?_, ?_, ?_⟩
   ·rw [List.getElem?_set_self hlt2]
   ·rw [List.getElem?_set_ne hne];exact hσ2
   ·refine ⟨by have:=hC.len;have:=hC2.len;simp;omega,fun j hj hn=>?_⟩
    rw [List.getElem?_set_ne (by omega),hC2.same j (by have:=hC.len;omega) (by simp),hC.same j hj (by omega)]
end Go.V
