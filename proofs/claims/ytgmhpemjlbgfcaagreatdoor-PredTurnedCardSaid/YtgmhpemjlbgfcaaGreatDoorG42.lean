/- Texts F132. -/
import Derived.Test.YtgmhpemjlbgfcaaGreatDoorG37
import Derived.Test.YtgmhpemjlbgfcaaGreatDoorG40
set_option linter.unusedVariables false
set_option linter.unusedSimpArgs false
namespace Go.V
open Go.Proofs
set_option maxRecDepth 100000
def Sg.cells (s : Sg) : List VV:=[.int .i64 s.k,.int .i64 s.i,.int .i64 s.lo,.int .i64 s.hi,.str s.t]
def Sg.in (s : Sg) : Prop:=-9223372036854775808≤s.i∧s.i≤9223372036854775807
theorem Sg.blk (l : List Sg) : dh 5 (l.map Sg.cells):=by
 refine ⟨fun x hx=>?_,fun x hx=>?_,fun x hx=>?_⟩<;>obtain ⟨p,hp,rfl⟩:=List.mem_map.1 hx<;>rfl
def SF (x : Vl) (s : Sg) (o : Option Vl) : Prop :=
 if s.k=0 then ∃ R,GR o R∧PV Tryz.prog G0 44 [x.vv,lJ 1 0 s.t] R
 else ∃ n : Nat,n≤1000000∧PV Tryz.prog G0 43 [x.vv] (.int .i64 n)∧match gV s.i n with
  | none=>o=none
  | some j=>if s.k=1 then ∃ R,GR o R∧PV Tryz.prog G0 44 [x.vv,lJ 0 j []] R else o=none
inductive PW : Vl→List Sg→Option Vl→Prop
 | nil (x : Vl) : PW x [] (some x)
 | stop {x : Vl} {s : Sg} {r : List Sg} : SF x s none→PW x (s::r) none
 | go {x y : Vl} {s : Sg} {r : List Sg} {o : Option Vl} : SF x s (some y)→y.ok→PW y r o→PW x (s::r) o
theorem VB {v : T} {x : Vl} (h : oL v x) (hx : x.ok) (s : Sg) (hs : s.t.length≤1000000000) : ∃ o,SF x s o∧(match v.step s with | some w=>∃ y,o=some y∧oL w y∧y.ok | none=>o=none):=by
 unfold SF T.step
 have fix : ∀ {o : Option Vl} {R : VV} {u : Option T},GR o R→(match u with | some w=>∃ y,o=some y∧oL w y | none=>o=none)→(match u with | some w=>∃ y,o=some y∧oL w y∧y.ok | none=>o=none):=by
  intro o R u hG h
  cases u with
  | none=>exact h
  | some w =>
   obtain ⟨y,rfl,hy⟩:=h
   exact ⟨y,rfl,hy,hG.1⟩
 by_cases hk : s.k=0
 ·simp only [if_pos hk]
  obtain ⟨o,R,h1,h2,h3⟩:=W9 h hx s.t hs
  exact ⟨o,⟨R,h2,h3⟩,fix h2 h1⟩
 ·simp only [if_neg hk]
  obtain ⟨hl,hL⟩:=QX h hx
  cases hp : gV s.i v.len with
  | none=>exact ⟨none,⟨_,hl,hL,by rw [hp]⟩,rfl⟩
  | some j =>
   by_cases h1 : s.k=1
   ·obtain ⟨o,R,g1,g2,g3⟩:=Xm h hx j (AY hp)
    refine ⟨o,⟨_,hl,hL, ?_⟩, ?_⟩
    ·simp only [hp,if_pos h1];exact ⟨R,g2,g3⟩
    ·simp only [if_pos h1];exact fix g2 g1
   ·refine ⟨none,⟨_,hl,hL, ?_⟩, ?_⟩
    ·simp only [hp,if_neg h1]
    ·simp only [if_neg h1]
theorem TB : ∀ (r : List Sg) {v : T} {x : Vl},oL v x→x.ok→(∀ s ∈ r,s.t.length≤1000000000)→∃ o,PW x r o∧(match v.walk r with | some w=>∃ y,o=some y∧oL w y∧y.ok | none=>o=none)
 | [],v,x,h,hx,_=>⟨some x,.nil x,⟨x,rfl,h,hx⟩⟩
 | s::r,v,x,h,hx,hs=>by
  obtain ⟨o,h1,h2⟩:=VB h hx s (hs s (by simp))
  unfold T.walk
  cases hw : v.step s with
  | none =>
   rw [hw] at h2
   subst h2
   exact ⟨none,.stop h1,rfl⟩
  | some w =>
   rw [hw] at h2
   obtain ⟨y,rfl,hy,hyo⟩:=h2
   obtain ⟨o,g1,g2⟩:=TB r hy hyo fun s h=>hs s (by simp [h])
   exact ⟨o,.go h1 hyo g1,g2⟩
def atR : Option Vl→VV
 | some y=>.tup [y.vv,.bool true]
 | none=>.tup [Vl.zero.vv,.bool false]
theorem PW.ok {x : Vl} {r : List Sg} {o : Option Vl} (h : PW x r o) : x.ok→∀ y,o=some y→y.ok:=by
 induction h with
 | nil x=>rintro hx y ⟨⟩;exact hx
 | stop _=>rintro _ y ⟨⟩
 | go _ hy _ ih=>exact fun _=>ih hy
theorem Wi {x : Vl} (hx : x.ok) (path : List Sg) (pw : VV) (hp : dG 5 pw (path.map Sg.cells)) (hl : path.length≤1000000) (hi : ∀ s ∈ path,s.in) {o : Option Vl} (hw : PW x path o) : PV Tryz.prog G0 18 [x.vv,pw] (atR o):=by
 have hoo:=hw.ok hx
 have hpo : (atR o).isPure=true:=by
  cases o with
  | none=>rfl
  | some y=>simp only [atR,VV.isPure,VV.ak,Vl.vv,(hoo y rfl).pure];rfl
 have hpp:=hp.pure
 have hpc:=hp.cell
 simp only [go_sem,seval] at hpc
 have lp : ∀ {σ},aT Tryz.prog 51 pw σ=okV (.int .i64 path.length) σ:=by intro σ;rw [hp.aT zF];simp
 have a0 : ∀ j : Nat,(0 : Int)≤(j : Int):=fun j=>by omega
 have hz : Vl.zero.cells=[.int .i64 0,.int .i64 0,.str [],.int .i64 0,.nilp,.int .u64 0,.int .i64 0,.int .i64 0,.nilp,.int .i64 0,.int .i64 0]:=rfl
 have d1 : x.cells.length=11:=rfl
 have d2 : x.cells.all VV.aC=true:=hx.cell
 have d3 : x.cells.take 11=x.cells:=rfl
 refine pv e18 (by simp) (by simp only [VV.ak,VV.isPure,Vl.vv,hx.pure,hpp];rfl) hpo ?_
 simp only [go_sem,seval,c18,Vl.vv,d1,d2,d3,hpc,lp]
 refine bf (M:=fun ρ τ=>∃ y : Vl,y.ok∧o=some y∧ρ.get 2=.mptr 0 0∧ρ.get 4=.mptr 1 0∧τ[0]?=some (.own y.cells)∧τ[1]?=some (.own Vl.zero.cells)) ?_ ?_
 ·rintro ρ τ ⟨y,hy,rfl,q2,q4,t0,t1⟩
  have f1 : y.cells.length=11:=rfl
  have f2 : y.cells.all VV.aC=true:=hy.cell
  have f3 : y.cells.take 11=y.cells:=rfl
  rw [hz] at t1
  have l1:=(List.getElem?_eq_some_iff.1 t1).1
  simp only [go_sem,seval,q2,q4,t0,t1,f1,f2,f3,List.getElem?_set_self l1]
  exact fin hpo rfl
 refine aF (fun m ρ τ=>∃ (j : Nat) (y : Vl),m=path.length-j∧j≤path.length∧y.ok∧PW y (path.drop j) o∧ρ.get 2=.mptr 0 0∧ρ.get 4=.mptr 1 0∧ρ.get 13=pw∧ρ.get 14=.int .i64 path.length∧ρ.get 15=.int .i64 j∧τ[0]?=some (.own y.cells)∧τ[1]?=some (.own Vl.zero.cells)) (n:=path.length) ?_ ⟨0,x,rfl,by omega,hx,hw,rfl,rfl,rfl,rfl,rfl,rfl,rfl⟩
 rintro m ρ τ ⟨j,y,rfl,hj,hy,hwy,q2,q4,q13,q14,q15,t0,t1⟩
 have f1 : y.cells.length=11:=rfl
 have f2 : y.cells.all VV.aC=true:=hy.cell
 have f3 : y.cells.take 11=y.cells:=rfl
 have l0:=(List.getElem?_eq_some_iff.1 t0).1
 have l1:=(List.getElem?_eq_some_iff.1 t1).1
 have t0' : ∀ υ,(τ++υ)[0]?=some (.own y.cells):=fun υ=>by rw [List.getElem?_append_left l0];exact t0
 have t1' : ∀ υ,(τ++υ)[1]?=some (.own Vl.zero.cells):=fun υ=>by rw [List.getElem?_append_left l1];exact t1
 simp only [go_sem,seval,q14,q15]
 refine aG (fun hc=>?_) (fun hc=>?_)
 rotate_left
 ·have hjl : j=path.length:=by simp at hc;omega
  rw [hjl,List.drop_length] at hwy
  cases hwy
  simp only [go_sem,seval,q2,q4]
  exact ⟨y,hy,rfl,t0,t1⟩
 have hc' : j < path.length:=by simpa using hc
 obtain ⟨tg,hit,a3,a4⟩:=hp.jr (j:=j) (by simpa using hc')
 rw [List.getElem_map] at a4
 rw [List.length_map] at hit
 have a2 : (j : Int) < (path.length : Int):=by omega
 have a6 : IntKind.i64.wrap ((j : Int)+1)=((j+1 : Nat) : Int):=by rw [iw (by omega)];omega
 have hsi:=hi _ (List.getElem_mem hc')
 rw [List.drop_eq_getElem_cons hc'] at hwy
 generalize path[j]=s at *
 have s1 : s.cells.length=5:=rfl
 have s2 : s.cells.all VV.aC=true:=rfl
 have s3 : s.cells.take 5=s.cells:=rfl
 have s4 : s.cells.drop 0=s.cells:=rfl
 have s5 : s.cells.getD 4 .undef=.str s.t:=rfl
 have s6 : s.cells.getD 0 .undef=.int .i64 s.k:=rfl
 have s7 : s.cells.getD 1 .undef=.int .i64 s.i:=rfl
 have l0' : 0 < τ.length:=l0
 have l1' : 1 < τ.length:=l1
 obtain ⟨oo,hsf,hnext⟩ : ∃ oo,SF y s oo∧(match oo with | some z=>z.ok∧PW z (path.drop (j+1)) o | none=>o=none):=by
  cases hwy with
  | stop h=>exact ⟨none,h,rfl⟩
  | go h1 h2 h3=>exact ⟨_,h1,h2,h3⟩
 have gs : ∀ (υ : Store) (c : Obj),((τ++υ).set 1 c)[1]?=some c:=fun υ c=>List.getElem?_set_self (by simp;omega)
 unfold SF at hsf
 by_cases hk : s.k=0
 ·rw [if_pos hk] at hsf
  obtain ⟨R,hR,hP⟩:=hsf
  have n1 : (s.k != 0)=false:=by simpa using hk
  simp only [go_sem,seval,q2,q4,q13,q14,q15,hit,a0,a2,a3,a4,a6,Int.toNat_natCast,s1,s2,s3,s4,s5,s6,s7,t0',t1',f1,f2,f3,n1,SS]
  cases oo with
  | none =>
   obtain ⟨e,he,rfl⟩:=hR
   subst hnext
   have n2 : (e == 0)=false:=by simpa using he
   simp only [Vl.vv,hz] at hP
   rw [hz] at t1'
   (first | refine ah (hP) ?_ | refine aK (hP) ?_ | refine aI (hP) ?_ | refine aj (hP) (by simp only [go_sem,seval,q2,q4,q13,q14,q15,hit,a0,a2,a3,a4,a6,Int.toNat_natCast,s1,s2,s3,s4,s5,s6,s7,t0',t1',f1,f2,f3,n1,bne,n2,Bool.not_false,l1',gs,SS]) ?_ | refine aj (hP) ?_ ?_)<;>simp only [go_sem,seval,q2,q4,q13,q14,q15,hit,a0,a2,a3,a4,a6,Int.toNat_natCast,s1,s2,s3,s4,s5,s6,s7,t0',t1',f1,f2,f3,n1,bne,n2,Bool.not_false,l1',gs,SS]
   exact fin hpo rfl
  | some z =>
   obtain ⟨hzo,rfl⟩:=hR
   obtain ⟨_,hwz⟩:=hnext
   have z1 : z.cells.length=11:=rfl
   have z2 : z.cells.all VV.aC=true:=hzo.cell
   have z3 : z.cells.take 11=z.cells:=rfl
   rw [Vl.vv,Vl.vv] at hP
   (first | refine ah (hP) ?_ | refine aK (hP) ?_ | refine aI (hP) ?_ | refine aj (hP) (by simp only [go_sem,seval,q2,q4,q13,q14,q15,hit,a0,a2,a3,a4,a6,Int.toNat_natCast,s1,s2,s3,s4,s5,s6,s7,t0',t1',f1,f2,f3,n1,bne,beq_self_eq_true,Bool.not_true,z1,z2,z3,l0',SS]) ?_ | refine aj (hP) ?_ ?_)<;>simp only [go_sem,seval,q2,q4,q13,q14,q15,hit,a0,a2,a3,a4,a6,Int.toNat_natCast,s1,s2,s3,s4,s5,s6,s7,t0',t1',f1,f2,f3,n1,bne,beq_self_eq_true,Bool.not_true,z1,z2,z3,l0',SS]
   refine ⟨path.length-(j+1),by omega,j+1,z,rfl,by omega,hzo,hwz,rfl, ?_, ?_⟩
   ·rw [List.getElem?_set_self (by simp),show List.drop 11 y.cells=[] from rfl,List.append_nil]
   ·rw [List.getElem?_set_ne (by decide)];exact t1' _
 ·rw [if_neg hk] at hsf
  obtain ⟨n,hn,hL,hM⟩:=hsf
  have n1 : (s.k != 0)=true:=by simpa using hk
  have hPl:=Qn s.i n hn hsi
  simp only [Vl.vv] at hL
  simp only [go_sem,seval,q2,q4,q13,q14,q15,hit,a0,a2,a3,a4,a6,Int.toNat_natCast,s1,s2,s3,s4,s5,s6,s7,t0',t1',f1,f2,f3,n1,SS]
  (first | refine ah (hL) ?_ | refine aK (hL) ?_ | refine aI (hL) ?_ | refine aj (hL) (by simp only [go_sem,seval,q2,q4,q13,q14,q15,hit,a0,a2,a3,a4,a6,Int.toNat_natCast,s1,s2,s3,s4,s5,s6,s7,t0',t1',f1,f2,f3,n1,SS]) ?_ | refine aj (hL) ?_ ?_)<;>simp only [go_sem,seval,q2,q4,q13,q14,q15,hit,a0,a2,a3,a4,a6,Int.toNat_natCast,s1,s2,s3,s4,s5,s6,s7,t0',t1',f1,f2,f3,n1,SS]
  cases hp' : gV s.i n with
  | none =>
   rw [hp'] at hM hPl
   simp only at hM
   subst hM hnext
   simp only [lF] at hPl
   rw [hz] at t1'
   (first | refine ah (hPl) ?_ | refine aK (hPl) ?_ | refine aI (hPl) ?_ | refine aj (hPl) (by simp only [go_sem,seval,q2,q4,q13,q14,q15,hit,a0,a2,a3,a4,a6,Int.toNat_natCast,s1,s2,s3,s4,s5,s6,s7,t0',t1',f1,f2,f3,n1,Bool.not_false,l1',gs,SS]) ?_ | refine aj (hPl) ?_ ?_)<;>simp only [go_sem,seval,q2,q4,q13,q14,q15,hit,a0,a2,a3,a4,a6,Int.toNat_natCast,s1,s2,s3,s4,s5,s6,s7,t0',t1',f1,f2,f3,n1,Bool.not_false,l1',gs,SS]
   exact fin hpo rfl
  | some jj =>
   rw [hp'] at hM hPl
   simp only at hM
   simp only [lF] at hPl
   by_cases hk1 : s.k=1
   rotate_left
   ·rw [if_neg hk1] at hM
    subst hM hnext
    have n3 : (s.k != 1)=true:=by simpa using hk1
    rw [hz] at t1'
    (first | refine ah (hPl) ?_ | refine aK (hPl) ?_ | refine aI (hPl) ?_ | refine aj (hPl) (by simp only [go_sem,seval,q2,q4,q13,q14,q15,hit,a0,a2,a3,a4,a6,Int.toNat_natCast,s1,s2,s3,s4,s5,s6,s7,t0',t1',f1,f2,f3,n1,n3,Bool.not_true,l1',gs,SS]) ?_ | refine aj (hPl) ?_ ?_)<;>simp only [go_sem,seval,q2,q4,q13,q14,q15,hit,a0,a2,a3,a4,a6,Int.toNat_natCast,s1,s2,s3,s4,s5,s6,s7,t0',t1',f1,f2,f3,n1,n3,Bool.not_true,l1',gs,SS]
    exact fin hpo rfl
   rw [if_pos hk1] at hM
   obtain ⟨R,hR,hP⟩:=hM
   have n3 : (s.k != 1)=false:=by simpa using hk1
   (first | refine ah (hPl) ?_ | refine aK (hPl) ?_ | refine aI (hPl) ?_ | refine aj (hPl) (by simp only [go_sem,seval,q2,q4,q13,q14,q15,hit,a0,a2,a3,a4,a6,Int.toNat_natCast,s1,s2,s3,s4,s5,s6,s7,t0',t1',f1,f2,f3,n1,n3,Bool.not_true,Bool.not_false,SS]) ?_ | refine aj (hPl) ?_ ?_)<;>simp only [go_sem,seval,q2,q4,q13,q14,q15,hit,a0,a2,a3,a4,a6,Int.toNat_natCast,s1,s2,s3,s4,s5,s6,s7,t0',t1',f1,f2,f3,n1,n3,Bool.not_true,Bool.not_false,SS]
   cases oo with
   | none =>
    obtain ⟨e,he,rfl⟩:=hR
    subst hnext
    have n2 : (e == 0)=false:=by simpa using he
    simp only [Vl.vv,hz] at hP
    rw [hz] at t1'
    (first | refine ah (hP) ?_ | refine aK (hP) ?_ | refine aI (hP) ?_ | refine aj (hP) (by simp only [go_sem,seval,q2,q4,q13,q14,q15,hit,a0,a2,a3,a4,a6,Int.toNat_natCast,s1,s2,s3,s4,s5,s6,s7,t0',t1',f1,f2,f3,n1,n3,bne,n2,Bool.not_false,l1',gs,SS]) ?_ | refine aj (hP) ?_ ?_)<;>simp only [go_sem,seval,q2,q4,q13,q14,q15,hit,a0,a2,a3,a4,a6,Int.toNat_natCast,s1,s2,s3,s4,s5,s6,s7,t0',t1',f1,f2,f3,n1,n3,bne,n2,Bool.not_false,l1',gs,SS]
    exact fin hpo rfl
   | some z =>
    obtain ⟨hzo,rfl⟩:=hR
    obtain ⟨_,hwz⟩:=hnext
    have z1 : z.cells.length=11:=rfl
    have z2 : z.cells.all VV.aC=true:=hzo.cell
    have z3 : z.cells.take 11=z.cells:=rfl
    rw [Vl.vv,Vl.vv] at hP
    (first | refine ah (hP) ?_ | refine aK (hP) ?_ | refine aI (hP) ?_ | refine aj (hP) (by simp only [go_sem,seval,q2,q4,q13,q14,q15,hit,a0,a2,a3,a4,a6,Int.toNat_natCast,s1,s2,s3,s4,s5,s6,s7,t0',t1',f1,f2,f3,n1,n3,bne,beq_self_eq_true,Bool.not_true,z1,z2,z3,l0',SS]) ?_ | refine aj (hP) ?_ ?_)<;>simp only [go_sem,seval,q2,q4,q13,q14,q15,hit,a0,a2,a3,a4,a6,Int.toNat_natCast,s1,s2,s3,s4,s5,s6,s7,t0',t1',f1,f2,f3,n1,n3,bne,beq_self_eq_true,Bool.not_true,z1,z2,z3,l0',SS]
    refine ⟨path.length-(j+1),by omega,j+1,z,rfl,by omega,hzo,hwz,rfl, ?_, ?_⟩
    ·rw [List.getElem?_set_self (by simp),show List.drop 11 y.cells=[] from rfl,List.append_nil]
    ·rw [List.getElem?_set_ne (by decide)];exact t1' _
end Go.V
