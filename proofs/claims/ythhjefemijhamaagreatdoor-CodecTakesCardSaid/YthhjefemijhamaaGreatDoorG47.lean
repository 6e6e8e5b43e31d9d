/- Texts F98 F99 F100 F101. -/
import Derived.Test.YthhjefemijhamaaGreatDoorG39
import Derived.Test.YthhjefemijhamaaGreatDoorG42
import Derived.Test.YthhjefemijhamaaGreatDoorG43
import Derived.Test.YthhjefemijhamaaGreatDoorG45
import Derived.Test.YthhjefemijhamaaGreatDoorG46
set_option linter.unusedVariables false
set_option linter.unusedSimpArgs false
namespace Go.V
open Go.Proofs
set_option maxRecDepth 100000
def pa : Option Code→Code
 | some (.seq a _)=>a
 | _=>.skip
def po : Option Code→Array Oper
 | some (.seq _ (.seq (.region _ o _) _))=>o
 | _=>#[]
def pb : Option Code→Code
 | some (.seq _ (.seq _ b))=>b
 | _=>.skip
def va : aA→aA
 | .seq a _=>a
 | _=>.skip
def vd : aA→List DO
 | .seq _ (.seq (.draw ds) _)=>ds.take 7
 | _=>[]
def vb : aA→aA
 | .seq _ (.seq _ b)=>b
 | _=>.skip
theorem YB : Tryz.f55.body=some (.seq (pa Tryz.f55.body) (.seq (.region 1 (po Tryz.f55.body) true) (pb Tryz.f55.body))):=by kernel_rfl
theorem abb : comp lab 25 (pa Tryz.f55.body)=some (va c55):=by kernel_rfl
theorem aa0 : comp lab 25 (pb Tryz.f55.body)=some (vb c55):=by kernel_rfl
theorem aaS : (KN lab ((po Tryz.f55.body).extract 0 7)).mapM (Oj ((po Tryz.f55.body).extract 0 7))=some (vd c55):=by kernel_rfl
theorem aaO : Ak ((po Tryz.f55.body).extract 0 7) 25 (vd c55)=true:=by kernel_rfl
theorem aaR : Xh (po Tryz.f55.body) 7 25=true:=by kernel_rfl
theorem Z7 : (po Tryz.f55.body).size=11:=by kernel_rfl
theorem abd {xs : List VV} {σ : Store} {R : dX→Store→Prop} (hn : xs.length≤25)
  (h : jQ Tryz.prog G0 (va c55) (eX (fun ρ σ=>bH Tryz.prog G0 (vd c55) [] (eX (fun ρ σ=>Fh Tryz.prog G0 (po Tryz.f55.body) 4 (parts 4 (Array.replicate 7 true)) (eX (fun ρ σ=>jQ Tryz.prog G0 (vb c55) (sJ Tryz.prog [] R) ρ σ) (sJ Tryz.prog [] R)) ρ σ) (eX (fun ρ σ=>jQ Tryz.prog G0 (vb c55) (sJ Tryz.prog [] R) ρ σ) (sJ Tryz.prog [] R))) ρ σ) (sJ Tryz.prog [] R)) (fP 0 xs) σ) : CV Tryz.prog G0 55 xs σ R:=by
 refine Zj (fn:=Tryz.f55) (by kernel_rfl) YB (show xs.length≤25 from hn) ?_
 show VW false Tryz.prog G0 none 25 _ (sJ Tryz.prog [] R) _ _
 refine QY (iY mix _ _ abb (.inl ⟨rfl,rfl⟩) _ _ _ h) fun ρ σ h=>?_
 refine QY (VI mix (by rw [Z7];decide) aaS aaO aaR (by rw [Z7];exact h)) fun ρ σ h=>?_
 exact iY mix _ _ aa0 (.inl ⟨rfl,rfl⟩) _ _ _ h
theorem WI (tI vI : Nat) (s : St) (x : Vl) (c : List VV) (k0 i0 : Int) (t0 : Bs) (kv iv : VV) (K : Int) (xv : Vl) (keys : List (List VV)) (done : List (List VV)) (σ : Store) (hx : x.ok) (hP : PV Tryz.prog G0 32 [x.vv] (.agg c)) (hcB : dS 5 [c]) (hxk : xv.k=K) (htv : tI≠vI)
  (ht : σ[tI]?=some (.own [.int .i64 k0,.int .i64 i0,.str t0,kv,iv])) (hv : σ[vI]?=some (.own xv.cells)) (hk : jI 1 σ kv keys) (hi : jI 5 σ iv done) (hkl : keys.length+1≤1000000) (hil : done.length+1≤1000000)
  (sk : ∀ id o n z,kv=.dP id o n z→id≠tI∧id≠vI) (si : ∀ id o n z,iv=.dP id o n z→id≠tI∧id≠vI) (ski : ∀ id o n z o' n' z',kv=.dP id o n z→iv≠.dP id o' n' z') :
  CV Tryz.prog G0 55 [.agg s.cells,x.vv,.mptr tI 0,.mptr vI 0] σ fun r σ'=>r=.ret (.tup [])∧∃ kv' iv',σ'[tI]?=some (.own [.int .i64 k0,.int .i64 i0,.str t0,kv',iv'])∧jI 1 σ' kv' (if K=5 then keys++[[.str s.t]] else keys)∧jI 5 σ' iv' (done++[c])∧(kv'=kv∨uN σ kv')∧(K≠5→kv'=kv)∧uN σ iv' ∧
   (∀ id o n z o' n' z',kv'=.dP id o n z→iv'≠.dP id o' n' z')∧High (fun j=>j=tI∨(∃ o n z,kv=.dP j o n z)∨(∃ o n z,iv=.dP j o n z)) σ σ':=by
 refine abd (by simp) ?_
 have lt1:=(List.getElem?_eq_some_iff.1 ht).1
 have lt2:=(List.getElem?_eq_some_iff.1 hv).1
 have s1 : s.cells.length=3:=rfl
 have s2 : s.cells.all VV.aF=true:=rfl
 have s3 : s.cells.take 3=s.cells:=rfl
 have x1 : x.cells.length=11:=rfl
 have x2 : x.cells.all VV.aF=true:=hx.cell
 have x3 : x.cells.take 11=x.cells:=rfl
 have t0' : ∀ υ,(σ++υ)[tI]?=some (.own [.int .i64 k0,.int .i64 i0,.str t0,kv,iv]):=fun υ=>by rw [List.getElem?_append_left lt1];exact ht
 have hic:=hi.cell
 have hisl : ∀ {σ},cO Tryz.prog 26 iv σ=okV (.int .i64 done.length) σ:=by intro σ;rw [hi.cO dY]
 simp only [go_sem,seval] at hic
 simp only [go_sem,seval,va,vd,vb,c55,s1,s2,s3,x1,x2,x3,Vl.vv,t0',hisl,hic,SS]
 refine aC (by exact hP) ?_ ?_
 ·simp only [go_sem,seval,t0',hisl,hic,SS]
 simp only [go_sem,seval,t0',hisl,hic,SS]
 have zB : dS 5 [[VV.int .i64 0,.int .i64 0,.str [],.nils,.nils]]:=⟨by simp,by simp [VV.ak,VV.isPure],by simp [VV.aF,aU]⟩
 refine (hi.snoc _).Jz (ys:=[[VV.int .i64 0,.int .i64 0,.str [],.nils,.nils]]) dY lV pR lF rfl (by decide) (by decide) zB (by simpa using hil) (by have:=(fH.sl [[VV.int .i64 0,.int .i64 0,.str [],.nils,.nils]] true zB).src (P:=Tryz.prog) (σ:=σ++[Obj.own s.cells,Obj.own x.cells]) dY;simpa using this) fun v1 σ1 g1 K1 N1=>?_
 obtain ⟨id,e,hid⟩:=g1.dP (by simp)
 rw [List.length_append,List.length_cons,List.length_nil] at e
 subst e
 simp only [go_sem,seval]
 have nid:=N1 id _ _ _ rfl
 simp only [List.length_append,List.length_cons,List.length_nil] at nid
 have t1 : σ1[tI]?=some (.own [.int .i64 k0,.int .i64 i0,.str t0,kv,iv]):=by
  rw [K1.2 tI (by simp;omega) (fun o n z e=>(si _ _ _ _ e).1 rfl)];exact t0' _
 have lid:=(List.getElem?_eq_some_iff.1 hid).1
 have lt1':=(List.getElem?_eq_some_iff.1 t1).1
 have hkc:=hk.cell
 simp only [go_sem,seval] at hkc
 have a1 : (0 : Int)≤(done.length : Int):=by omega
 have a2 : (done.length : Int) < (done.length : Int)+1:=by omega
 have o7 : ((po Tryz.f55.body)[7]?).map (fun o=>(o.dst,o.op,o.type,o.guard))=some (some 13,.indexAddr 26 (.tmp 12) (.tmp 10),0,none):=by kernel_rfl
 have o8 : ((po Tryz.f55.body)[8]?).map (fun o=>(o.dst,o.op,o.type,o.guard))=some (none,.store 28 (.tmp 13) (.tmp 9),0,none):=by kernel_rfl
 have o9 : ((po Tryz.f55.body)[9]?).map (fun o=>(o.dst,o.op,o.type,o.guard))=some (some 14,.fieldAddr 28 (.tmp 2) 4,0,none):=by kernel_rfl
 have o10 : ((po Tryz.f55.body)[10]?).map (fun o=>(o.dst,o.op,o.type,o.guard))=some (none,.store 26 (.tmp 14) (.tmp 12),0,none):=by kernel_rfl
 have cl : c.length=5:=hcB.len _ (by simp)
 have ca : c.all VV.aF=true:=hcB.cell _ (by simp)
 have hfl : done.flatten.length=done.length*5:=hi.blk.flat
 have P1 : List.take (0+(done.length : Int).toNat*5) (done++[[VV.int IntKind.i64 0,VV.int IntKind.i64 0,VV.str [],VV.nils,VV.nils]]).flatten++(c++List.drop (0+(done.length : Int).toNat*5+5) (done++[[VV.int IntKind.i64 0,VV.int IntKind.i64 0,VV.str [],VV.nils,VV.nils]]).flatten)=(done++[c]).flatten:=by
  rw [Int.toNat_natCast,Nat.zero_add,← hfl]
  simp
 have P2 : 0+(done.length : Int).toNat*5+5≤(done++[[VV.int IntKind.i64 0,VV.int IntKind.i64 0,VV.str [],VV.nils,VV.nils]]).flatten.length:=by
  rw [Int.toNat_natCast,Nat.zero_add,← hfl]
  simp
 have nit : id≠tI:=by omega
 have hid2 : ∀ o,(σ1.set tI o)[id]?=some (.own (done++[[VV.int IntKind.i64 0,VV.int IntKind.i64 0,VV.str [],VV.nils,VV.nils]]).flatten):=fun o=>by rw [List.getElem?_set_ne (Ne.symm nit)];exact hid
 have t2 : ∀ o,(σ1.set id o)[tI]?=some (.own [.int .i64 k0,.int .i64 i0,.str t0,kv,iv]):=fun o=>by rw [List.getElem?_set_ne nit];exact t1
 have cm : ∀ a b,(σ1.set tI a).set id b=(σ1.set id b).set tI a:=fun a b=>List.set_comm _ _ (Ne.symm nit)
 refine DW (Q:=eX (fun ρ σ'=>ρ.get 2=.mptr tI 0∧ρ.get 3=.mptr vI 0∧ρ.get 4=.mptr σ.length 0∧σ'=(σ1.set id (.own (done++[c]).flatten)).set tI (.own [.int .i64 k0,.int .i64 i0,.str t0,kv,.dP id 0 (done.length+1) 5])) fun _ _ _=>False) ?_ _ _ _ _ ?_
 ·rintro o ρ σ2 h
  cases o<;>simp only [eX] at h ⊢
  obtain ⟨q2,q3,q4,rfl⟩:=h
  have x1 : ((σ1.set id (.own (done++[c]).flatten)).set tI (.own [.int .i64 k0,.int .i64 i0,.str t0,kv,.dP id 0 (done.length+1) 5]))[vI]?=some (.own xv.cells):=by
   rw [List.getElem?_set_ne htv,List.getElem?_set_ne (by omega),K1.2 vI (by simp;omega) (fun o n z e=>(si _ _ _ _ e).2 rfl),List.getElem?_append_left lt2];exact hv
  have x2 : ((σ1.set id (.own (done++[c]).flatten)).set tI (.own [.int .i64 k0,.int .i64 i0,.str t0,kv,.dP id 0 (done.length+1) 5]))[σ.length]?=some (.own s.cells):=by
   rw [List.getElem?_set_ne (by omega),List.getElem?_set_ne (by omega),K1.2 _ (by simp) (fun o n z e=>by have:=hi.dom e;omega),List.getElem?_append_right (by omega)];simp
  have x3 : ((σ1.set id (.own (done++[c]).flatten)).set tI (.own [.int .i64 k0,.int .i64 i0,.str t0,kv,.dP id 0 (done.length+1) 5]))[tI]?=some (.own [.int .i64 k0,.int .i64 i0,.str t0,kv,.dP id 0 (done.length+1) 5]):=List.getElem?_set_self (by simp;omega)
  have x4 : ((σ1.set id (.own (done++[c]).flatten)).set tI (.own [.int .i64 k0,.int .i64 i0,.str t0,kv,.dP id 0 (done.length+1) 5]))[id]?=some (.own (done++[c]).flatten):=by rw [List.getElem?_set_ne (Ne.symm nit),List.getElem?_set_self (by omega)]
  obtain ⟨σ2,hσ2⟩ : ∃ σ2,σ2=(σ1.set id (.own (done++[c]).flatten)).set tI (.own [.int .i64 k0,.int .i64 i0,.str t0,kv,.dP id 0 (done.length+1) 5]):=⟨_,rfl⟩
  have g2 : jI 5 σ2 (.dP id 0 (done++[c]).length 5) (done++[c]):=.own (hi.blk.append hcB) (by rw [hσ2];exact x4)
  rw [List.length_append,List.length_cons,List.length_nil] at g2
  have L2 : σ2.length=σ1.length:=by rw [hσ2];simp
  have L1 : σ.length+2≤σ1.length:=by have:=K1.1;simpa using this
  have H2 : ∀ j,j < σ.length→j≠tI→(∀ o n z,iv≠.dP j o n z)→σ2[j]?=σ[j]?:=fun j h1 h2 h3=>by
   rw [hσ2,List.getElem?_set_ne (Ne.symm h2),List.getElem?_set_ne (by omega),K1.2 j (by simp;omega) (fun o n z e=>h3 o n z e),List.getElem?_append_left h1]
  have hk2 : jI 1 σ2 kv keys:=hk.keep fun j o n z e=>H2 j (hk.dom e) (sk _ _ _ _ e).1 fun o' n' z' e'=>ski _ _ _ _ _ _ _ e e'
  rw [← hσ2] at x1 x2 x3 ⊢
  by_cases h5 : K=5
  ·have b5 : (xv.k == 5)=true:=by rw [hxk];simpa using h5
   simp only [go_sem,seval,q2,q3,q4,x1,x2,x3,Vl.cells,St.cells,b5,hkc,hic]
   have hBs : dS 1 [[VV.str s.t]]:=⟨by simp,by simp [VV.ak,VV.isPure],by simp [VV.aF,aU]⟩
   refine hk2.step (ys:=[[VV.str s.t]]) dM lM oJ kD rfl (by decide) (by decide) hBs (by simpa using hkl) ((fH.sl [[VV.str s.t]] true hBs).src dM) fun v3 σ3 g3 K3 N3=>?_
   have x5 : σ3[tI]?=some (.own [.int .i64 k0,.int .i64 i0,.str t0,kv,.dP id 0 (done.length+1) 5]):=by
    rw [K3.2 tI (by omega) (fun o n z e=>(sk _ _ _ _ e).1 rfl)];exact x3
   have l5:=(List.getElem?_eq_some_iff.1 x5).1
   have g3c:=g3.cell
   have g3u:=eH g3c
   have g3d:=cellC g3c
   simp only [go_sem,seval] at g3c
   simp only [go_sem,seval] at g3u
   simp only [go_sem,seval] at g3d
   simp only [go_sem,seval,q2,x5,g3c,g3u,g3d]
   rw [List.getElem?_set_self l5,if_pos h5]
   have e3:=K3.1
   have n3 : ∀ o n z,v3≠.dP tI o n z:=fun o n z e=>by have:=N3 _ _ _ _ e;omega
   refine ⟨_,_,rfl,g3.keep fun j o n z e=>List.getElem?_set_ne fun h=>n3 _ _ _ (h ▸ e),(g2.kept K3 fun j o n z o' n' z' e e'=>by cases e;have:=hk.dom e';omega).keep fun j o n z e=>List.getElem?_set_ne (by cases e;omega),.inr fun j o n z e=>by have:=N3 _ _ _ _ e;omega,fun h=>absurd h5 h,fun _ _ _ _ e=>by cases e;omega,fun j o n z o' n' z' e e'=>?_,⟨by simp;omega,fun j h1 h2=>?_⟩⟩
   ·have:=N3 _ _ _ _ e
    cases e'
    omega
   ·rw [List.getElem?_set_ne (fun e=>h2 (.inl e.symm)),K3.2 j (by omega) fun o n z e=>h2 (.inr (.inl ⟨o,n,z,e⟩))]
    exact H2 j h1 (fun e=>h2 (.inl e)) fun o n z e=>h2 (.inr (.inr ⟨o,n,z,e⟩))
  ·have b5 : (xv.k == 5)=false:=by rw [hxk];simpa using h5
   simp only [go_sem,seval,q2,q3,q4,x1,x2,x3,Vl.cells,St.cells,b5]
   rw [if_neg h5]
   refine ⟨_,_,rfl,hk2,g2,.inl rfl,fun _=>rfl,fun _ _ _ _ e=>by cases e;omega,fun j o n z o' n' z' e e'=>?_,⟨by omega,fun j h1 h2=>?_⟩⟩
   ·have:=hk.dom e
    cases e'
    omega
   ·exact H2 j h1 (fun e=>h2 (.inl e)) fun o n z e=>h2 (.inr (.inr ⟨o,n,z,e⟩))
 refine gW (is:=[7,9]) (by kernel_rfl) (by simp) fun i hi=>?_
 simp only [List.mem_cons,List.not_mem_nil,or_false] at hi
 rcases hi with rfl | rfl
 ·refine ⟨_,_,_,o7, ?_⟩
  simp only [go_sem,seval,a1]
  refine ⟨by omega, ?_⟩
  refine gW (is:=[8,9]) (by kernel_rfl) (by simp) fun i hi=>?_
  simp only [List.mem_cons,List.not_mem_nil,or_false] at hi
  rcases hi with rfl | rfl
  ·refine ⟨_,_,_,o8, ?_⟩
   simp only [go_sem,seval,hid,hid2,cl,ca,P1]
   refine ⟨P2, ?_⟩
   refine gW (is:=[9]) (by kernel_rfl) (by simp) fun i hi=>?_
   simp only [List.mem_cons,List.not_mem_nil,or_false] at hi
   obtain rfl:=hi
   refine ⟨_,_,_,o9, ?_⟩
   simp only [go_sem,seval]
   refine gW (is:=[10]) (by kernel_rfl) (by simp) fun i hi=>?_
   simp only [List.mem_cons,List.not_mem_nil,or_false] at hi
   obtain rfl:=hi
   refine ⟨_,_,_,o10, ?_⟩
   simp only [go_sem,seval,t1,t2,hkc,hic]
   exact ⟨by kernel_rfl,rfl,rfl,rfl,rfl⟩
  ·refine ⟨_,_,_,o9, ?_⟩
   simp only [go_sem,seval]
   refine gW (is:=[8,10]) (by kernel_rfl) (by simp) fun i hi=>?_
   simp only [List.mem_cons,List.not_mem_nil,or_false] at hi
   rcases hi with rfl | rfl
   ·refine ⟨_,_,_,o8, ?_⟩
    simp only [go_sem,seval,hid,hid2,cl,ca,P1]
    refine ⟨P2, ?_⟩
    refine gW (is:=[10]) (by kernel_rfl) (by simp) fun i hi=>?_
    simp only [List.mem_cons,List.not_mem_nil,or_false] at hi
    obtain rfl:=hi
    refine ⟨_,_,_,o10, ?_⟩
    simp only [go_sem,seval,t1,t2,hkc,hic]
    exact ⟨by kernel_rfl,rfl,rfl,rfl,rfl⟩
   ·refine ⟨_,_,_,o10, ?_⟩
    simp only [go_sem,seval,t1,t2,hkc,hic]
    refine gW (is:=[8]) (by kernel_rfl) (by simp) fun i hi=>?_
    simp only [List.mem_cons,List.not_mem_nil,or_false] at hi
    obtain rfl:=hi
    refine ⟨_,_,_,o8, ?_⟩
    simp only [go_sem,seval,hid,hid2,cl,ca,P1]
    refine ⟨P2, ?_⟩
    exact ⟨by kernel_rfl,rfl,rfl,rfl,by rw [cm]⟩
 ·refine ⟨_,_,_,o9, ?_⟩
  simp only [go_sem,seval]
  refine gW (is:=[7,10]) (by kernel_rfl) (by simp) fun i hi=>?_
  simp only [List.mem_cons,List.not_mem_nil,or_false] at hi
  rcases hi with rfl | rfl
  ·refine ⟨_,_,_,o7, ?_⟩
   simp only [go_sem,seval,a1]
   refine ⟨by omega, ?_⟩
   refine gW (is:=[8,10]) (by kernel_rfl) (by simp) fun i hi=>?_
   simp only [List.mem_cons,List.not_mem_nil,or_false] at hi
   rcases hi with rfl | rfl
   ·refine ⟨_,_,_,o8, ?_⟩
    simp only [go_sem,seval,hid,hid2,cl,ca,P1]
    refine ⟨P2, ?_⟩
    refine gW (is:=[10]) (by kernel_rfl) (by simp) fun i hi=>?_
    simp only [List.mem_cons,List.not_mem_nil,or_false] at hi
    obtain rfl:=hi
    refine ⟨_,_,_,o10, ?_⟩
    simp only [go_sem,seval,t1,t2,hkc,hic]
    exact ⟨by kernel_rfl,rfl,rfl,rfl,rfl⟩
   ·refine ⟨_,_,_,o10, ?_⟩
    simp only [go_sem,seval,t1,t2,hkc,hic]
    refine gW (is:=[8]) (by kernel_rfl) (by simp) fun i hi=>?_
    simp only [List.mem_cons,List.not_mem_nil,or_false] at hi
    obtain rfl:=hi
    refine ⟨_,_,_,o8, ?_⟩
    simp only [go_sem,seval,hid,hid2,cl,ca,P1]
    refine ⟨P2, ?_⟩
    exact ⟨by kernel_rfl,rfl,rfl,rfl,by rw [cm]⟩
  ·refine ⟨_,_,_,o10, ?_⟩
   simp only [go_sem,seval,t1,t2,hkc,hic]
   refine gW (is:=[7]) (by kernel_rfl) (by simp) fun i hi=>?_
   simp only [List.mem_cons,List.not_mem_nil,or_false] at hi
   obtain rfl:=hi
   refine ⟨_,_,_,o7, ?_⟩
   simp only [go_sem,seval,a1]
   refine ⟨by omega, ?_⟩
   refine gW (is:=[8]) (by kernel_rfl) (by simp) fun i hi=>?_
   simp only [List.mem_cons,List.not_mem_nil,or_false] at hi
   obtain rfl:=hi
   refine ⟨_,_,_,o8, ?_⟩
   simp only [go_sem,seval,hid,hid2,cl,ca,P1]
   refine ⟨P2, ?_⟩
   exact ⟨by kernel_rfl,rfl,rfl,rfl,by rw [cm]⟩
end Go.V
namespace Go.V
open Go.Proofs
set_option maxRecDepth 100000
theorem OJ (x : Vl) (hx : x.ok) (h0 : 0≤x.k) (h4 : x.k < 4) (g : FuncId) (caps : List VV) (σ : Store) :
  CV Tryz.prog G0 54 [x.vv,.fn (.func g) [] caps] σ fun c σ'=>c=.ret (.tup [])∧∃ τ,σ'=σ++τ:=by
 refine cv e54 (by simp) ?_
 have h1:=hx.rc
 have h2:=hx.hc
 simp only [go_sem,seval] at h1
 simp only [go_sem,seval] at h2
 have b4 : (x.k == 4)=false:=by simp;omega
 have b5 : (x.k == 5)=false:=by simp;omega
 have b6 : (x.k == 6)=false:=by simp;omega
 simp only [go_sem,seval,c54,Vl.vv,Vl.cells,h1,h2,SS,b4,b5,b6]
 exact ⟨_,rfl⟩
def strs (l : List Bs) : List (List VV):=l.map fun b=>[VV.str b]
theorem wX (l : List Bs) : dS 1 (strs l):=by
 refine ⟨fun x hx=>?_,fun x hx=>?_,fun x hx=>?_⟩<;>obtain ⟨b,_,rfl⟩:=List.mem_map.1 hx<;>rfl
def zx (x : Vl) (keys : List Bs) (cs : List (List VV)) (i : Nat) (D : DS) (τ : Store) : Prop :=
 ∃ kv iv,τ[2]?=some (.own [.int .i64 x.k,.int .i64 x.si,.str x.st,kv,iv])∧τ[0]?=some (.own x.cells)∧jI 1 τ kv (strs (keys.take i))∧jI 5 τ iv (cs.take i)∧(strs (keys.take i)=[]→kv=.nils)∧(cs.take i=[]→iv=.nils) ∧
  (∀ id o n z,kv=.dP id o n z→3≤id)∧(∀ id o n z,iv=.dP id o n z→3≤id)∧(∀ id o n z o' n' z',kv=.dP id o n z→iv≠.dP id o' n' z')∧∀ id,D id↔id=0∨id=2∨(∃ o n z,kv=.dP id o n z)∨∃ o n z,iv=.dP id o n z
theorem zx.cls (x : Vl) (keys : List Bs) (cs : List (List VV)) (hcs : dS 5 cs) (hl : cs.length≤1000000) (hkl : x.k=5→keys.length=cs.length) (hk0 : x.k≠5→keys=[]) (A : Nat→List VV→Prop)
  (hA : ∀ i args,(h : i < cs.length)→A i args→∃ (s : St) (y : Vl),args=[.agg s.cells,y.vv]∧y.ok∧PV Tryz.prog G0 32 [y.vv] (.agg cs[i])∧(x.k=5→keys[i]?=some s.t)) : Cls (.fn (.func 55) [] [.mptr 2 0,.mptr 0 0]) (zx x keys cs) A 0 cs.length (.tup []):=by
 refine ⟨?_, ?_, ?_⟩
 ·rintro i D τ ⟨kv,iv,h2,h0,g1,g2,_,_,_,_,_,hD⟩ id hid
  rcases (hD id).1 hid with rfl | rfl | ⟨o,n,z,e⟩ | ⟨o,n,z,e⟩
  ·exact (List.getElem?_eq_some_iff.1 h0).1
  ·exact (List.getElem?_eq_some_iff.1 h2).1
  ·exact g1.dom e
  ·exact g2.dom e
 ·rintro i D τ τ' ⟨kv,iv,h2,h0,g1,g2,n1,n2,s1,s2,s3,hD⟩ hlow
  exact ⟨kv,iv,(hlow.same 2 ((hD 2).2 (.inr (.inl rfl)))).trans h2,(hlow.same 0 ((hD 0).2 (.inl rfl))).trans h0,g1.keep fun id o n z e=>hlow.same id ((hD id).2 (.inr (.inr (.inl ⟨o,n,z,e⟩)))),g2.keep fun id o n z e=>hlow.same id ((hD id).2 (.inr (.inr (.inr ⟨o,n,z,e⟩)))),n1,n2,s1,s2,s3,hD⟩
 ·rintro i D τ args _ hi ha ⟨kv,iv,h2,h0,g1,g2,n1,n2,s1,s2,s3,hD⟩
  obtain ⟨s,y,rfl,hy,hP,hK⟩:=hA i args hi ha
  have l2:=(List.getElem?_eq_some_iff.1 h2).1
  have hcB : dS 5 [cs[i]]:=⟨fun c hc=>by simp at hc;subst hc;exact hcs.len _ (List.getElem_mem hi),fun c hc=>by simp at hc;subst hc;exact hcs.pure _ (List.getElem_mem hi),fun c hc=>by simp at hc;subst hc;exact hcs.cell _ (List.getElem_mem hi)⟩
  refine ⟨xU, ?_⟩
  refine CV.mono (WI 2 0 s y cs[i] x.k x.si x.st kv iv x.k x (strs (keys.take i)) (cs.take i) τ hy hP hcB rfl (by decide) h2 h0 g1 g2 (by simp only [strs,List.length_map,List.length_take];omega) (by simp only [List.length_take];omega) (fun id o n z e=>by have:=s1 _ _ _ _ e;omega) (fun id o n z e=>by have:=s2 _ _ _ _ e;omega) s3) ?_
  rintro _ τ' ⟨rfl,kv',iv',k2,k3,k4,k5,k6,k7,k8,k9⟩
  have e1 : (if x.k=5 then strs (keys.take i)++[[VV.str s.t]] else strs (keys.take i))=strs (keys.take (i+1)):=by
   split
   ·rename_i h5
    have h:=hK h5
    rw [List.take_add_one,h]
    simp [strs]
   ·rename_i h5
    rw [hk0 h5];simp
  have e2 : cs.take i++[cs[i]]=cs.take (i+1):=by rw [List.take_succ_eq_append_getElem hi]
  rw [e1] at k3
  rw [e2] at k4
  have p1 : ∀ id o n z,kv'=.dP id o n z→3≤id:=fun id o n z e=>by
   rcases k5 with rfl | k5
   ·exact s1 _ _ _ _ e
   ·have:=k5 _ _ _ _ e;omega
  have p2 : ∀ id o n z,iv'=.dP id o n z→3≤id:=fun id o n z e=>by have:=k7 _ _ _ _ e;omega
  refine ⟨rfl,fun id=>id=0∨id=2∨(∃ o n z,kv'=.dP id o n z)∨∃ o n z,iv'=.dP id o n z,⟨kv',iv',k2, ?_,k3,k4,fun h=>?_,fun h=>?_,p1,p2,k8,fun _=>.rfl⟩,fun id hid=>?_,⟨k9.len,fun id a b=>k9.same id a fun hc=>b ((hD id).2 ?_)⟩⟩
  ·rw [k9.same 0 (by omega) (by
    rintro (h | ⟨o,n,z,e⟩ | ⟨o,n,z,e⟩)
    ·cases h
    ·have:=s1 _ _ _ _ e;omega
    ·have:=s2 _ _ _ _ e;omega)];exact h0
  ·by_cases h5 : x.k=5
   ·exfalso
    have h:=congrArg List.length h
    simp only [strs,List.length_map,List.length_take,List.length_nil] at h
    have:=hkl h5
    omega
   ·rw [k6 h5]
    exact n1 (by rw [hk0 h5];simp [strs])
  ·exfalso
   have h:=congrArg List.length h
   simp only [List.length_take,List.length_nil] at h
   omega
  ·rcases hid with rfl | rfl | ⟨o,n,z,e⟩ | ⟨o,n,z,e⟩
   ·exact .inl ((hD 0).2 (.inl rfl))
   ·exact .inl ((hD 2).2 (.inr (.inl rfl)))
   ·rcases k5 with rfl | k5
    ·exact .inl ((hD id).2 (.inr (.inr (.inl ⟨o,n,z,e⟩))))
    ·exact .inr (k5 _ _ _ _ e)
   ·exact .inr (k7 _ _ _ _ e)
  ·rcases hc with rfl | ⟨o,n,z,e⟩ | ⟨o,n,z,e⟩
   ·exact .inr (.inl rfl)
   ·exact .inr (.inr (.inl ⟨o,n,z,e⟩))
   ·exact .inr (.inr (.inr ⟨o,n,z,e⟩))
theorem wI (x : Vl) (hx : x.ok) (keys : List Bs) (cs : List (List VV)) (hcs : dS 5 cs)
  (hE : ∀ (D : DS) (σ : Store),zx x keys cs 0 D σ→CV Tryz.prog G0 54 [x.vv,.fn (.func 55) [] [.mptr 2 0,.mptr 0 0]] σ fun c σ'=>c=.ret (.tup [])∧Done (zx x keys cs) cs.length D σ σ') (hkl : keys.length≤cs.length) :
  PV Tryz.prog G0 32 [x.vv] (.agg [.int .i64 x.k,.int .i64 x.si,.str x.st,kL (strs keys),kL cs]):=by
 have hBk:=wX keys
 refine pv e32 (by simp) (by simp [VV.ak,VV.isPure,Vl.vv,hx.pure]) (by simp only [VV.isPure,VV.ak,nK hBk,nK hcs];rfl) ?_
 have h1:=hx.rc
 have h2:=hx.hc
 simp only [go_sem,seval] at h1
 simp only [go_sem,seval] at h2
 simp only [go_sem,seval,c32,Vl.vv,Vl.cells,h1,h2,SS]
 refine CV.mono (hE (fun id=>id=0∨id=2∨(∃ o n z,VV.nils=.dP id o n z)∨∃ o n z,VV.nils=.dP id o n z) _ ⟨.nils,.nils,rfl,rfl,by simpa [strs] using jI.nil,by simpa using jI.nil,fun _=>rfl,fun _=>rfl,fun _ _ _ _ e=>(by cases e),fun _ _ _ _ e=>(by cases e),fun _ _ _ _ _ _ _ e=>(by cases e),fun _=>.rfl⟩) ?_
 rintro _ τ ⟨rfl,D,⟨kv,iv,k2,k0,g1,g2,n1,n2,s1,s2,s3,hD⟩,_,hH⟩
 have k1:=hH.same 1 (by simp) (by rintro (h | h | ⟨o,n,z,h⟩ | ⟨o,n,z,h⟩)<;>cases h)
 simp only [List.getElem?_cons_succ,List.getElem?_cons_zero] at k1
 have l1:=(List.getElem?_eq_some_iff.1 k1).1
 have a1:=g1.cell
 have a2:=eH a1
 have a3:=cellC a1
 have b1:=g2.cell
 have b2:=eH b1
 have b3:=cellC b1
 simp only [go_sem,seval] at a1
 simp only [go_sem,seval] at a2
 simp only [go_sem,seval] at a3
 simp only [go_sem,seval] at b1
 simp only [go_sem,seval] at b2
 simp only [go_sem,seval] at b3
 rw [List.take_of_length_le hkl] at g1 n1
 rw [List.take_length] at g2 n2
 simp only [go_sem,seval,aO,k1,k2,a1,a2,a3,b1,b2,b3]
 rw [List.getElem?_set_self l1]
 refine ⟨Nat.le_refl _,_,2,rfl,KR ?_⟩
 have e0 : ∀ y : VV,y.isPure=true→∀ σ,fz 1 σ y=some y:=fun y h σ=>kP h
 have f1:=(g1.keep (σ':=τ.set 1 (.own [.int .i64 x.k,.int .i64 x.si,.str x.st,kv,iv])) fun id o n z e=>List.getElem?_set_ne (by have:=s1 _ _ _ _ e;omega)).fzF n1 0
 have f2:=(g2.keep (σ':=τ.set 1 (.own [.int .i64 x.k,.int .i64 x.si,.str x.st,kv,iv])) fun id o n z e=>List.getElem?_set_ne (by have:=s2 _ _ _ _ e;omega)).fzF n2 0
 simp only [List.take_succ_cons,List.take_zero,List.mapM_cons,List.mapM_nil,f1,f2,e0 (.int .i64 x.k) rfl,e0 (.int .i64 x.si) rfl,e0 (.str x.st) rfl]
 rfl
theorem wC : ∀ (l : List Tr) (cs : List (List VV)),l.length=cs.length→(∀ (i : Nat) (h : i < l.length) (h' : i < cs.length),rJ l[i] cs[i])→jq l cs
 | [],[],_,_=>.nil
 | x::l,c::cs,he,h=>.cons (h 0 (by simp) (by simp)) (wC l cs (by simpa using he) fun i h1 h2=>h (i+1) (by simpa using h1) (by simpa using h2))
theorem wF : ∀ {l : List Tr} {cs : List (List VV)},jq l cs→dS 5 cs
 | _,_,.nil=>.nil
 | _,_,.cons h hs=>by
  obtain ⟨c1,c2,c3⟩:=h.cells
  have:=wF hs
  exact ⟨by simpa using ⟨c1,this.len⟩,by simpa using ⟨c2,this.pure⟩,fun a ha=>by
   rcases List.mem_cons.1 ha with rfl | ha
   ·exact c3
   ·exact this.cell a ha⟩
theorem SC {v : T} {x : Vl} (h : zD v x) : x.ok→∃ c,rJ v.tree c∧PV Tryz.prog G0 32 [x.vv] (.agg c):=by
 induction h with
 | sc k i t h hb hi =>
  intro hx
  have hk : 0≤k∧k < 4:=by
   unfold dh at h
   split at h
   ·omega
   split at h
   ·omega
   split at h
   ·omega
   split at h
   ·omega
   ·omega
  refine ⟨_, ?_,wI _ hx [] [] .nil (fun D σ hJ=>CV.mono (OJ _ hx hk.1 hk.2 _ _ _) ?_) (Nat.le_refl _)⟩
  ·simp only [T.tree]
   exact .node .nil .nil .nil (by simp) (by simp) (by show _≤k;omega) (by show k≤_;omega) hi.1 hi.2
  ·rintro _ σ' ⟨rfl,τ,rfl⟩
   refine ⟨rfl, ?_⟩
   have hC:=zx.cls (zQ k i t) [] [] .nil (by decide) (fun _=>rfl) (fun _=>rfl) (fun _ _=>False) (fun _ _ h=>absurd h (Nat.not_lt_zero _))
   exact ⟨D,hC.snoc hJ τ,.refl _ _,.snoc _ _ _⟩
 | vec items h ho root hR ih =>
  intro hx
  have hsl:=jS (items.map (·.2))
  have hil : items.length≤1000000:=by have:=hx.hm;simp at hsl this;omega
  have hlen : (items.map (·.2.cells)).length=items.length:=by simp
  obtain ⟨cs,hcl,hcp⟩:=zN (p:=fun i c=>∀ h : i < items.length,rJ items[i].1.tree c∧PV Tryz.prog G0 32 [items[i].2.vv] (.agg c)) (n:=items.length) fun i hi=>by
   obtain ⟨c,h1,h2⟩:=ih _ (List.getElem_mem hi) (ho _ (List.getElem_mem hi))
   exact ⟨c,fun _=>⟨h1,h2⟩⟩
  have hT : jq (T.trees (items.map (·.1))) cs:=wC _ _ (by simp [fD,hcl]) fun i h1 h2=>by
   simp only [fD,List.getElem_map]
   exact (hcp i h2 (by omega)).1
  have hB:=wF hT
  refine ⟨_, ?_,wI _ hx [] cs hB (fun D σ hJ=>?_) (by simp)⟩
  ·simp only [T.tree]
   exact .node .nil hT (jV hB) (by simp) (by simp [fD];omega) (by decide) (by decide) (by decide) (by decide)
  ·have:=qL 0 0 [] root (items.map (·.2.cells)) hR 0 0 0 .nilp rfl (maxD (items.map (·.2)) : Nat) (eG (items.map (·.2)) : Nat) 55 xU [.mptr 2 0,.mptr 0 0] _ D σ (by rw [hlen];exact hil) (by
    rw [hlen,← hcl]
    refine zx.cls _ [] cs hB (by omega) (fun h=>absurd (show (4 : Int)=5 from h) (by decide)) (fun _=>rfl) _ fun i args hi ha=>?_
    have hi' : i < items.length:=by omega
    unfold qg at ha
    refine ⟨⟨0,i,[]⟩,items[i].2, ?_,ho _ (List.getElem_mem hi'),(hcp i hi hi').2,fun h=>absurd (show (4 : Int)=5 from h) (by decide)⟩
    rw [ha]
    simp [List.getD_eq_getElem?_getD,hi',St.cells,Vl.vv]) hJ
   rw [hlen,← hcl] at this
   exact this
 | map items seed bits hr ps hi hp hM h ho ih =>
  intro hx
  have hsl:=jS (items.map (·.2.2))
  have hil : items.length≤1000000:=by have:=hx.hm;simp at hsl this;omega
  have hsrt:=nG hi hp
  have hpl : ps.length=items.length:=by simpa using hp.length_eq
  have hpo : ∀ p ∈ ps,p.2.ok:=fun p hpm=>by
   obtain ⟨q,hq,rfl⟩:=List.mem_map.1 (hp.mem_iff.1 hpm)
   exact (ho q hq).1
  obtain ⟨cs,hcl,hcp⟩:=zN (p:=fun i c=>∀ h : i < items.length,rJ items[i].2.1.tree c∧PV Tryz.prog G0 32 [items[i].2.2.vv] (.agg c)) (n:=items.length) fun i hi=>by
   obtain ⟨c,h1,h2⟩:=ih _ (List.getElem_mem hi) (ho _ (List.getElem_mem hi)).1
   exact ⟨c,fun _=>⟨h1,h2⟩⟩
  have hT : jq (T.qR (items.map fun q=>(q.1,q.2.1))) cs:=wC _ _ (by simp [jv,hcl]) fun i h1 h2=>by
   simp only [jv,List.getElem_map]
   exact (hcp i h2 (by omega)).1
  have hB:=wF hT
  refine ⟨_, ?_,wI _ hx (items.map (·.1)) cs hB (fun D σ hJ=>?_) (by simp;omega)⟩
  ·simp only [T.tree]
   have e : (items.map fun q=>(q.1,q.2.1)).map (·.1)=items.map (·.1):=by simp
   rw [e]
   exact .node (jV (wX _)) hT (jV hB) (by simp;omega) (by simp [jv];omega) (by decide) (by decide) (by decide) (by decide)
  ·obtain ⟨N,hN⟩ : ∃ N : Int,N=items.length:=⟨_,rfl⟩
   rw [← hN]
   rw [← hN] at hJ
   have:=jX 5 (.inl rfl) 0 0 [] .nilp rfl seed bits N hr ps hM hpo (by omega) (maxD (items.map (·.2.2)) : Nat) (eG (items.map (·.2.2)) : Nat) 55 xU [.mptr 2 0,.mptr 0 0] _ D σ (by
    rw [hpl,← hcl]
    refine zx.cls ⟨0,0,[],5,.nilp,seed,bits,N,hr,maxD (items.map (·.2.2)),eG (items.map (·.2.2))⟩ (items.map (·.1)) cs hB (by omega) (fun _=>by simp;omega) (fun h=>by exact absurd rfl h) _ fun i args hi2 ha=>?_
    have hi' : i < items.length:=by omega
    have ha':=kZ (k:=5) (qs:=kS ps) (by rw [hsrt];simpa using hi') ha
    simp only [hsrt,List.getElem_map] at ha'
    refine ⟨⟨1,0,items[i].1⟩,items[i].2.2,ha',(ho _ (List.getElem_mem hi')).1,(hcp i hi2 hi').2,fun _=>?_⟩
    rw [List.getElem?_map,List.getElem?_eq_getElem hi'];rfl) hJ
   rw [hpl,← hcl] at this
   exact this
 | set items seed bits hr ps hi hp hM h ho hk ih =>
  intro hx
  have hsl:=jS (items.map (·.2.2))
  have hil : items.length≤1000000:=by have:=hx.hm;simp at hsl this;omega
  have hsrt:=nG hi hp
  have hpl : ps.length=items.length:=by simpa using hp.length_eq
  have hpo : ∀ p ∈ ps,p.2.ok:=fun p hpm=>by
   obtain ⟨q,hq,rfl⟩:=List.mem_map.1 (hp.mem_iff.1 hpm)
   exact (ho q hq).1
  obtain ⟨cs,hcl,hcp⟩:=zN (p:=fun i c=>∀ h : i < items.length,rJ items[i].2.1.tree c∧PV Tryz.prog G0 32 [items[i].2.2.vv] (.agg c)) (n:=items.length) fun i hi=>by
   obtain ⟨c,h1,h2⟩:=ih _ (List.getElem_mem hi) (ho _ (List.getElem_mem hi)).1
   exact ⟨c,fun _=>⟨h1,h2⟩⟩
  have hT : jq (T.trees (items.map fun q=>q.2.1)) cs:=wC _ _ (by simp [fD,hcl]) fun i h1 h2=>by
   simp only [fD,List.getElem_map]
   exact (hcp i h2 (by omega)).1
  have hB:=wF hT
  refine ⟨_, ?_,wI _ hx [] cs hB (fun D σ hJ=>?_) (by simp)⟩
  ·simp only [T.tree]
   exact .node .nil hT (jV hB) (by simp) (by simp [fD];omega) (by decide) (by decide) (by decide) (by decide)
  ·obtain ⟨N,hN⟩ : ∃ N : Int,N=items.length:=⟨_,rfl⟩
   rw [← hN]
   rw [← hN] at hJ
   have:=jX 6 (.inr rfl) 0 0 [] .nilp rfl seed bits N hr ps hM hpo (by omega) (maxD (items.map (·.2.2)) : Nat) (eG (items.map (·.2.2)) : Nat) 55 xU [.mptr 2 0,.mptr 0 0] _ D σ (by
    rw [hpl,← hcl]
    refine zx.cls _ [] cs hB (by omega) (fun h=>absurd (show (6 : Int)=5 from h) (by decide)) (fun _=>rfl) _ fun i args hi2 ha=>?_
    have hi' : i < items.length:=by omega
    have ha':=kZ (k:=6) (qs:=kS ps) (by rw [hsrt];simpa using hi') ha
    simp only [hsrt,List.getElem_map] at ha'
    exact ⟨⟨2,0,items[i].1⟩,items[i].2.2,ha',(ho _ (List.getElem_mem hi')).1,(hcp i hi2 hi').2,fun h=>absurd (show (6 : Int)=5 from h) (by decide)⟩) hJ
   rw [hpl,← hcl] at this
   exact this
end Go.V
namespace Go.V
open Go.Proofs
set_option maxRecDepth 100000
theorem tV (k i : Int) (t : Bs) (kv iv kv' iv' : VV) (ks : List Bs) (cs cs' : List (List VV)) (hk : fH 1 kv (ks.map fun b=>[VV.str b])) (hk' : fH 1 kv' (ks.map fun b=>[VV.str b])) (hi : fH 5 iv cs) (hi' : fH 5 iv' cs') (hl : cs.length=cs'.length)
  (hkl : ks.length≤1000000) (hil : cs.length≤1000000) (ih : ∀ (j : Nat) (h : j < cs.length) (h' : j < cs'.length),PV Tryz.prog G0 31 [.agg cs[j],.agg cs'[j]] (.bool true)) :
  PV Tryz.prog G0 31 [.agg [.int .i64 k,.int .i64 i,.str t,kv,iv],.agg [.int .i64 k,.int .i64 i,.str t,kv',iv']] (.bool true):=by
 have hkp:=hk.pure
 have hip:=hi.pure
 have hkp':=hk'.pure
 have hip':=hi'.pure
 have hkc:=hk.cell
 have hic:=hi.cell
 have hkc':=hk'.cell
 have hic':=hi'.cell
 have lk : ∀ {σ},cO Tryz.prog 25 kv σ=okV (.int .i64 ks.length) σ:=by intro σ;rw [hk.cO dM];simp
 have lk' : ∀ {σ},cO Tryz.prog 25 kv' σ=okV (.int .i64 ks.length) σ:=by intro σ;rw [hk'.cO dM];simp
 have li : ∀ {σ},cO Tryz.prog 26 iv σ=okV (.int .i64 cs.length) σ:=by intro σ;rw [hi.cO dY]
 have li' : ∀ {σ},cO Tryz.prog 26 iv' σ=okV (.int .i64 cs.length) σ:=by intro σ;rw [hi'.cO dY,hl]
 refine pv e31 (by simp) (by simp only [VV.ak,VV.isPure,hkp,hip,hkp',hip'];rfl) rfl ?_
 simp only [go_sem,seval] at hkc
 simp only [go_sem,seval] at hic
 simp only [go_sem,seval] at hkc'
 simp only [go_sem,seval] at hic'
 simp only [go_sem,seval,c31,hkc,hic,hkc',hic',lk,lk',li,li',bne,beq_self_eq_true,Bool.not_true]
 have a0 : ∀ j : Nat,(0 : Int)≤(j : Int):=fun j=>by omega
 refine bY (M:=fun ρ τ=>ρ.get 2=.mptr 0 0∧ρ.get 3=.mptr 1 0∧τ[0]?=some (.own [.int .i64 k,.int .i64 i,.str t,kv,iv])∧τ[1]?=some (.own [.int .i64 k,.int .i64 i,.str t,kv',iv'])) ?_ ?_
 ·rintro ρ τ ⟨q2,q3,t0,t1⟩
  simp only [go_sem,seval,q2,q3,t0,t1,hkc,hic,hkc',hic',li,li']
  refine bY (M:=fun ρ τ=>True) ?_ ?_
  ·rintro ρ τ -
   simp only [go_sem,seval]
   exact fin (by rfl) rfl
  refine aG (fun m ρ τ=>∃ j : Nat,m=cs.length-j∧j≤cs.length∧ρ.get 2=.mptr 0 0∧ρ.get 3=.mptr 1 0∧ρ.get 64=.int .i64 cs.length∧ρ.get 65=.int .i64 j∧τ[0]?=some (.own [.int .i64 k,.int .i64 i,.str t,kv,iv])∧τ[1]?=some (.own [.int .i64 k,.int .i64 i,.str t,kv',iv'])) (n:=cs.length) ?_ ⟨0,rfl,by omega,by simp only [go_sem,seval,q2],by simp only [go_sem,seval,q3],rfl,rfl,t0,t1⟩
  rintro m ρ τ ⟨j,rfl,hj,q2,q3,q64,q65,t0,t1⟩
  simp only [go_sem,seval,q64,q65]
  refine aj (fun hc=>?_) (fun hc=>?_)
  rotate_left
  ·simp only [go_sem,seval]
  have hc' : j < cs.length:=by simpa using hc
  have hc'' : j < cs'.length:=by omega
  obtain ⟨tg,hit,a3,a4⟩:=hi.xH hc'
  obtain ⟨tg',hit',b3,b4⟩:=hi'.xH hc''
  have x1:=hi.blk.len _ (List.getElem_mem hc')
  have x3 : cs[j].all VV.aF=true:=hi.blk.cell _ (List.getElem_mem hc')
  have x4 : cs[j].take 5=cs[j]:=List.take_of_length_le (by omega)
  have y1:=hi'.blk.len _ (List.getElem_mem hc'')
  have y3 : cs'[j].all VV.aF=true:=hi'.blk.cell _ (List.getElem_mem hc'')
  have y4 : cs'[j].take 5=cs'[j]:=List.take_of_length_le (by omega)
  have a2 : (j : Int) < (cs.length : Int):=by omega
  have a2' : (j : Int) < (cs'.length : Int):=by omega
  have a6 : IntKind.i64.wrap ((j : Int)+1)=((j+1 : Nat) : Int):=by rw [iw (by omega)];omega
  simp only [go_sem,seval,q2,q3,q64,q65,hit,hit',a0,a2,a2',a3,a4,b3,b4,x1,x3,x4,y1,y3,y4,t0,t1,Int.toNat_natCast]
  refine aC (ih j hc' hc'') (by simp only [go_sem,seval,q2,q3,q64,q65,a6,Bool.not_true]) ?_<;>simp only [go_sem,seval,q2,q3,q64,q65,a6,Bool.not_true]
  exact ⟨cs.length-(j+1),by omega,j+1,rfl,by omega,rfl,by rw [← hit];exact t0,by rw [← hit'];exact t1⟩
 refine aG (fun m ρ τ=>∃ j : Nat,m=ks.length-j∧j≤ks.length∧ρ.get 2=.mptr 0 0∧ρ.get 3=.mptr 1 0∧ρ.get 46=.int .i64 ks.length∧ρ.get 47=.int .i64 j∧τ[0]?=some (.own [.int .i64 k,.int .i64 i,.str t,kv,iv])∧τ[1]?=some (.own [.int .i64 k,.int .i64 i,.str t,kv',iv'])) (n:=ks.length) ?_ ⟨0,rfl,by omega,rfl,rfl,rfl,rfl,rfl,rfl⟩
 rintro m ρ τ ⟨j,rfl,hj,q2,q3,q46,q47,t0,t1⟩
 simp only [go_sem,seval,q46,q47]
 refine aj (fun hc=>?_) (fun hc=>?_)
 rotate_left
 ·simp only [go_sem,seval,q2,q3]
  exact ⟨t0,t1⟩
 have hc' : j < ks.length:=by simpa using hc
 obtain ⟨tg,hit,a3,a4⟩:=hk.Jf hc'
 obtain ⟨tg',hit',b3,b4⟩:=hk'.Jf hc'
 have a2 : (j : Int) < (ks.length : Int):=by omega
 have a6 : IntKind.i64.wrap ((j : Int)+1)=((j+1 : Nat) : Int):=by rw [iw (by omega)];omega
 simp only [go_sem,seval,q2,q3,q46,q47,hit,hit',a0,a2,a3,a4,b3,b4,t0,t1,Int.toNat_natCast,bne,beq_self_eq_true,Bool.not_true,a6]
 exact ⟨ks.length-(j+1),by omega,j+1,rfl,by omega,rfl⟩
mutual
theorem EW : ∀ (v : T) (c c' : List VV),rJ v.tree c→rJ v.tree c'→v.nd≤100000→PV Tryz.prog G0 31 [.agg c,.agg c'] (.bool true)
 | .sc k i t,c,c',h,h',hn=>by
  simp only [T.tree] at h h'
  cases h with
  | node h1 h2 h3 =>
  cases h' with
  | node g1 g2 g3 =>
  have l1:=h2.len
  have l2:=g2.len
  simp only [List.length_nil] at l1 l2
  exact tV _ _ _ _ _ _ _ _ _ _ h1 g1 h3 g3 (by omega) (by simp) (by omega) fun j h=>absurd h (by omega)
 | .vec l,c,c',h,h',hn=>by
  simp only [T.tree] at h h'
  simp only [T.nd] at hn
  have:=qK l
  cases h with
  | node h1 h2 h3 =>
  cases h' with
  | node g1 g2 g3 =>
  have l1:=h2.len
  have l2:=g2.len
  simp only [fD,List.length_map] at l1 l2
  exact tV _ _ _ _ _ _ _ _ _ _ h1 g1 h3 g3 (by omega) (by simp) (by omega) (Gv l _ _ h2 g2 (by omega))
 | .map l,c,c',h,h',hn=>by
  simp only [T.tree] at h h'
  simp only [T.nd] at hn
  have:=Aa l
  cases h with
  | node h1 h2 h3 =>
  cases h' with
  | node g1 g2 g3 =>
  have l1:=h2.len
  have l2:=g2.len
  simp only [jv,List.length_map] at l1 l2
  exact tV _ _ _ _ _ _ _ _ _ _ h1 g1 h3 g3 (by omega) (by simp;omega) (by omega) (Nr l _ _ h2 g2 (by omega))
 | .set l,c,c',h,h',hn=>by
  simp only [T.tree] at h h'
  simp only [T.nd] at hn
  have:=qK l
  cases h with
  | node h1 h2 h3 =>
  cases h' with
  | node g1 g2 g3 =>
  have l1:=h2.len
  have l2:=g2.len
  simp only [fD,List.length_map] at l1 l2
  exact tV _ _ _ _ _ _ _ _ _ _ h1 g1 h3 g3 (by omega) (by simp) (by omega) (Gv l _ _ h2 g2 (by omega))
theorem Gv : ∀ (l : List T) (cs cs' : List (List VV)),jq (T.trees l) cs→jq (T.trees l) cs'→T.pY l≤100000→∀ (j : Nat) (h : j < cs.length) (h' : j < cs'.length),PV Tryz.prog G0 31 [.agg cs[j],.agg cs'[j]] (.bool true)
 | [],_,_,.nil,.nil,_,j,h,_=>absurd h (Nat.not_lt_zero _)
 | x::l,c::cs,c'::cs',.cons h1 h2,.cons g1 g2,hn,0,_,_=>EW x c c' h1 g1 (by simp only [T.pY] at hn;omega)
 | x::l,c::cs,c'::cs',.cons h1 h2,.cons g1 g2,hn,j+1,h,h'=>Gv l cs cs' h2 g2 (by simp only [T.pY] at hn;omega) j (by simpa using h) (by simpa using h')
theorem Nr : ∀ (l : List (Bs × T)) (cs cs' : List (List VV)),jq (T.qR l) cs→jq (T.qR l) cs'→T.qX l≤100000→∀ (j : Nat) (h : j < cs.length) (h' : j < cs'.length),PV Tryz.prog G0 31 [.agg cs[j],.agg cs'[j]] (.bool true)
 | [],_,_,.nil,.nil,_,j,h,_=>absurd h (Nat.not_lt_zero _)
 | x::l,c::cs,c'::cs',.cons h1 h2,.cons g1 g2,hn,0,_,_=>EW x.2 c c' h1 g1 (by simp only [T.qX] at hn;omega)
 | x::l,c::cs,c'::cs',.cons h1 h2,.cons g1 g2,hn,j+1,h,h'=>Nr l cs cs' h2 g2 (by simp only [T.qX] at hn;omega) j (by simpa using h) (by simpa using h')
end
end Go.V
namespace Go.V
open Go.Proofs
set_option maxRecDepth 100000
def ZW (X : Vl) : Rs→VV
 | .er c p=>.tup [Vl.zero.vv,.int .i64 0,dL c p]
 | .ok _ e _=>.tup [X.vv,.int .i64 e,.nili]
theorem Vs (f : Nat) (seed bits : Int) (s : Bs) (a : Int) (R : Rs) (ha : lY a) (hs : s.length≤10000000) (hrd : rd f s a 0 1 .val=some R) :
  ∃ X,PG s 1 0 R X∧PV Tryz.prog G0 34 [.agg [.int .u64 seed,.int .i64 bits],.str s,.int .i64 a] (ZW X R):=by
 obtain ⟨X,h1,h2⟩:=QE f seed bits s a R ha hs hrd
 have hp : (ZW X R).isPure=true:=by
  cases R with
  | er c p=>simp only [ZW,VV.isPure,VV.ak,mg];rfl
  | ok v e n=>simp only [ZW,VV.isPure,VV.ak,Vl.vv,h1.2.1.pure];rfl
 refine ⟨X,h1,G0p,rfl,hp,CV.mono (h2 []) ?_⟩
 rintro r σ1 h
 cases R with
 | er c p=>exact ⟨_,0,h.1,kP hp⟩
 | ok v e n=>exact ⟨_,0,h.1,kP hp⟩
end Go.V
