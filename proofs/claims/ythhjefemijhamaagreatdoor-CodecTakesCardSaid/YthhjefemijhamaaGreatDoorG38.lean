/- Texts F68 F69 F70 F71 L5 F72 F73. -/
import Derived.Test.YthhjefemijhamaaGreatDoorG37
set_option linter.unusedVariables false
set_option linter.unusedSimpArgs false
namespace Go.V
open Go.Proofs
set_option maxRecDepth 100000
inductive Pr where
 | ok (v : T) (n : Nat)
 | er (c p : Nat)
def Ey (f : Nat) (s : Bs) : Option Pr :=
 if 1048576 < s.length then some (.er 14 0)
 else match rd f s 0 0 1 .val with
  | none=>none
  | some (.er c p)=>some (.er c p)
  | some (.ok v e n)=>match cZ s e with
   | .err c p=>some (.er c p)
   | .tok k x _ _ _=>if k=0 then some (.ok v n) else some (.er 11 x)
def PrQ (σ : Store) : Pr→dX→Store→Prop
 | .er c p,r,σ'=>r=.ret (.tup [Vl.zero.vv,dL c p])∧Ch (fun _=>False) σ σ'
 | .ok v n,r,σ'=>∃ x : Vl,zD v x∧x.ok∧x.below+1≤64∧x.more+1=n∧n≤16384∧r=.ret (.tup [x.vv,.nili])∧Ch (fun _=>False) σ σ'
def PrV : Pr→Vl→Prop
 | .er _ _,_=>True
 | .ok v n,x=>zD v x∧x.ok∧x.below+1≤64∧x.more+1=n∧n≤16384
def UC (X : Vl) : Pr→VV
 | .er c p=>.tup [Vl.zero.vv,dL c p]
 | .ok _ _=>.tup [X.vv,.nili]
theorem gX {s : Bs} {a : Int} {c p : Nat} (h : aT s a=.err c p) : c≠0:=by
 unfold aT at h
 cases hL : cZ s a with
 | err c' p'=>rw [hL] at h;cases h;exact kK hL
 | tok k x e i t =>
  rw [hL] at h
  cases k with
  | zero=>cases h;decide
  | succ k=>cases h
theorem Xd {rv : Int→Nat→Nat→Option Rs} {s : Bs} {a : Int} {n q : Nat} {m : Md} {c p : Nat} (hv : ∀ a n q c p,rv a n q=some (.er c p)→c≠0) (h : one rv s a n q m=some (.er c p)) : c≠0:=by
 cases m with
 | val=>cases h
 | vec acc =>
  simp only [one] at h
  split at h
  ·cases h
  ·rename_i h1;cases h;exact hv _ _ _ _ _ h1
  ·cases h
 | map acc =>
  simp only [one] at h
  split at h
  ·rename_i h1;cases h;exact gX h1
  ·split at h
   ·cases h;decide
   ·split at h
    ·cases h;decide
    ·split at h
     ·rename_i h1;cases h;exact gX h1
     ·split at h
      ·split at h
       ·cases h
       ·rename_i h1;cases h;exact hv _ _ _ _ _ h1
       ·cases h
      ·cases h;decide
 | set acc =>
  simp only [one] at h
  split at h
  ·rename_i h1;cases h;exact gX h1
  ·split at h
   ·cases h
   ·rename_i h1;cases h;exact hv _ _ _ _ _ h1
   ·split at h
    ·cases h;decide
    ·cases h
theorem Cb : ∀ (f : Nat) {s : Bs} {a : Int} {n q : Nat} {m : Md} {c p : Nat},rd f s a n q m=some (.er c p)→c≠0
 | 0,s,a,n,q,m,c,p,h=>by simp [rd] at h
 | f+1,s,a,n,q,m,c,p,h=>by
  simp only [rd] at h
  split at h
  ·split at h
   ·rename_i hp;cases h;exact gX hp
   ·split at h
    ·cases h;decide
    ·split at h
     ·cases h;decide
     ·split at h
      ·cases h;decide
      ·split at h
       ·cases h
       ·split at h
        ·rename_i hp;cases h;exact gX hp
        ·split at h
         ·cases h
         ·exact Cb f h
  ·split at h
   ·cases h
   ·rename_i h1;cases h;exact Xd (fun a n q c p h=>Cb f h) h1
   ·split at h
    ·rename_i hp;cases h;exact gX hp
    ·split at h
     ·exact Cb f h
     ·split at h
      ·cases h
      ·cases h;decide
theorem Nu (f : Nat) (seed bits : Int) (s : Bs) (R : Pr) (hs : s.length≤10000000) (hrd : Ey f s=some R) :
  ∃ X,PrV R X∧∀ σ : Store,CV Tryz.prog G0 20 [.agg [.int .u64 seed,.int .i64 bits],.str s] σ fun r σ'=>r=.ret (UC X R)∧Ch (fun _=>False) σ σ':=by
 unfold Ey at hrd
 have hX : ∃ X,PrV R X∧∀ R1,rd f s 0 0 1 .val=some R1→¬ 1048576 < s.length→PG s 1 0 R1 X∧∀ σ : Store,CV Tryz.prog G0 34 [.agg [.int .u64 seed,.int .i64 bits],.str s,.int .i64 0] σ (TkQ σ X R1):=by
  by_cases hc : 1048576 < s.length
  ·rw [if_pos hc] at hrd;cases hrd;exact ⟨Vl.zero,trivial,fun _ _ h=>absurd hc h⟩
  rw [if_neg hc] at hrd
  cases hR : rd f s 0 0 1 .val with
  | none=>rw [hR] at hrd;cases hrd
  | some R1 =>
   rw [hR] at hrd
   obtain ⟨X,h1,h2⟩:=QE f seed bits s 0 R1 ⟨by omega,by omega⟩ hs hR
   refine ⟨X, ?_,fun _ h _=>by cases h;exact ⟨h1,h2⟩⟩
   cases R1 with
   | er c p=>cases hrd;trivial
   | ok v e n =>
    obtain ⟨a1,a2,a3,a4,a5,a6⟩:=h1
    simp only at hrd
    split at hrd
    ·cases hrd;trivial
    ·split at hrd
     ·cases hrd;exact ⟨a1,a2,a3,by omega,a5⟩
     ·cases hrd;trivial
 obtain ⟨X,hXv,hX⟩:=hX
 refine ⟨X,hXv,fun σ=>?_⟩
 refine cv e20 (by simp) ?_
 have hz : Vl.zero.cells=[.int .i64 0,.int .i64 0,.str [],.int .i64 0,.nilp,.int .u64 0,.int .i64 0,.int .i64 0,.nilp,.int .i64 0,.int .i64 0]:=rfl
 have hzv : Vl.zero.vv=.agg [.int .i64 0,.int .i64 0,.str [],.int .i64 0,.nilp,.int .u64 0,.int .i64 0,.int .i64 0,.nilp,.int .i64 0,.int .i64 0]:=rfl
 simp only [go_sem,seval,c20,SS]
 refine aj (fun hc=>?_) (fun hc=>?_)
 ·have hc' : 1048576 < s.length:=by simp at hc;omega
  rw [if_pos hc',Option.some.injEq] at hrd
  subst hrd
  simp only [go_sem,seval]
  refine ah (wK 14 0) ?_<;>simp only [go_sem,seval,SS,lD]
  exact ⟨by simp only [UC,hzv];rfl,.snoc _ _ _⟩
 ·have hc' : ¬ 1048576 < s.length:=by simp at hc;omega
  rw [if_neg hc'] at hrd
  cases hR : rd f s 0 0 1 .val with
  | none=>rw [hR] at hrd;cases hrd
  | some R1 =>
   rw [hR] at hrd
   simp only [go_sem,seval,SS]
   obtain ⟨hXr,hXw⟩:=hX R1 hR hc'
   refine CV.mono (hXw _) ?_
   rintro r σ1 hQ
   cases R1 with
   | er c p =>
    obtain ⟨rfl,hC⟩:=hQ
    simp only [Option.some.injEq] at hrd
    subst hrd
    have hl:=hC.len
    simp only [List.length_append,List.length_cons,List.length_nil] at hl
    obtain ⟨w,hw⟩:=oW (e:=c) p (by have:=Cb f hR;omega)
    have z : σ1[σ.length+1]?=some (.own Vl.zero.cells):=by rw [hC.same _ (by simp) (by simp)];simp;rfl
    have z6 : ∀ o,(σ1++[o])[σ.length+1]?=some (.own Vl.zero.cells):=fun o=>by rw [List.getElem?_append_left (by omega)];exact z
    have z7 : ∀ o,(σ1++[o]).set (σ.length+1) (.own Vl.zero.cells)=σ1++[o]:=fun o=>xI (z6 o)
    have hch : ∀ o,Ch (fun _=>False) σ (σ1++[o]):=fun o=>(hC.app).trans (.snoc _ _ _)
    rw [hz] at z6 z7
    simp only [go_sem,seval,aO,hw,hzv,SS,z6,z7,lD]
    exact ⟨by simp only [UC,hzv,hw],hch _⟩
   | ok v e n =>
    obtain ⟨rfl,hC⟩:=hQ
    obtain ⟨hv,hxo,hxb,hxn,hn',he⟩:=hXr
    simp only at hrd
    have hl:=hC.len
    simp only [List.length_append,List.length_cons,List.length_nil] at hl
    have z : σ1[σ.length+1]?=some (.own Vl.zero.cells):=by rw [hC.same _ (by simp) (by simp)];simp;rfl
    have z6 : ∀ τ,(σ1++τ)[σ.length+1]?=some (.own Vl.zero.cells):=fun o=>by rw [List.getElem?_append_left (by omega)];exact z
    have z7 : ∀ τ,(σ1++τ).set (σ.length+1) (.own Vl.zero.cells)=σ1++τ:=fun o=>xI (z6 o)
    have hch : ∀ τ,Ch (fun _=>False) σ (σ1++τ):=fun o=>(hC.app).trans (.snoc _ _ _)
    have hl1 : σ.length+1 < σ1.length:=by omega
    have h1:=hxo.rc
    have h2:=hxo.hc
    simp only [go_sem,seval] at h1
    simp only [go_sem,seval] at h2
    rw [hz] at z6 z7
    have hN:=P9 s e (by omega) hs
    simp only [go_sem,seval,aO,Vl.vv,Vl.cells,h1,h2,SS]
    cases hL : cZ s e with
    | err c p =>
     rw [hL] at hN hrd
     simp only [Option.some.injEq] at hrd
     subst hrd
     obtain ⟨w,hw⟩:=oW (e:=c) p (by have:=kK hL;omega)
     simp only [X4,hw,oU,dW] at hN
     refine ah (hN) ?_<;>simp only [go_sem,seval,SS,z6,z7,lD]
     exact ⟨by simp only [UC,hzv,hw],hch _⟩
    | tok k y e2 i t =>
     rw [hL] at hN hrd
     simp only [X4,dW] at hN hrd
     refine ah (hN) ?_<;>simp only [go_sem,seval,SS,z6,z7,lD]
     refine aj (fun hk=>?_) (fun hk=>?_)
     ·have hk' : ¬ k=0:=by simp at hk;omega
      rw [if_neg hk',Option.some.injEq] at hrd
      subst hrd
      simp only [go_sem,seval,SS]
      refine ah (wK 11 (y : Int)) ?_<;>simp only [go_sem,seval,SS,z6,z7,lD]
      exact ⟨by simp only [UC,hzv];rfl,hch _⟩
     ·have hk' : k=0:=by simp at hk;omega
      rw [if_pos hk',Option.some.injEq] at hrd
      subst hrd
      simp only [go_sem,seval,SS,z6,AO hl1,Di hl1,h1,h2,lD]
      refine ⟨rfl,⟨by simp;omega,fun j hj _=>?_⟩⟩
      rw [List.getElem?_append_left (by simp;omega),List.getElem?_set_ne (by omega),hC.same j (by simp;omega) (by simp),List.getElem?_append_left hj]
theorem FN (f : Nat) (seed bits : Int) (s : Bs) (R : Pr) (σ : Store) (hs : s.length≤10000000) (hrd : Ey f s=some R) :
  CV Tryz.prog G0 20 [.agg [.int .u64 seed,.int .i64 bits],.str s] σ (PrQ σ R):=by
 obtain ⟨X,h1,h2⟩:=Nu f seed bits s R hs hrd
 refine CV.mono (h2 σ) ?_
 rintro _ σ' ⟨rfl,hC⟩
 cases R with
 | er c p=>exact ⟨rfl,hC⟩
 | ok v n=>exact ⟨X,h1.1,h1.2.1,h1.2.2.1,h1.2.2.2.1,h1.2.2.2.2,rfl,hC⟩
theorem JK {X : Vl} {R : Pr} (h : PrV R X) : (UC X R).isPure=true:=by
 cases R with
 | er c p=>simp only [UC,VV.isPure,VV.ak,mg];rfl
 | ok v n=>simp only [UC,VV.isPure,VV.ak,Vl.vv,h.2.1.pure];rfl
theorem RQ (f : Nat) (seed bits : Int) (s : Bs) (R : Pr) (hs : s.length≤10000000) (hrd : Ey f s=some R) :
  ∃ X,PrV R X∧PV Tryz.prog G0 20 [.agg [.int .u64 seed,.int .i64 bits],.str s] (UC X R):=by
 obtain ⟨X,h1,h2⟩:=Nu f seed bits s R hs hrd
 exact ⟨X,h1,G0p,rfl,JK h1,CV.mono (h2 []) (by rintro _ σ1 ⟨rfl,_⟩;exact ⟨_,0,rfl,kP (JK h1)⟩)⟩
end Go.V
namespace Go.V
open Go.Proofs
set_option maxRecDepth 100000
structure St where
 k : Int
 i : Int
 t : Bs
def St.cells (s : St) : List VV:=[.int .i64 s.k,.int .i64 s.i,.str s.t]
theorem St.blk (s : St) : dS 3 [s.cells]:=⟨by simp [St.cells],by simp [St.cells,VV.ak,VV.isPure],by simp [St.cells,aU,VV.aF]⟩
theorem St.blks (l : List St) : dS 3 (l.map St.cells):=by
 refine ⟨fun x hx=>?_,fun x hx=>?_,fun x hx=>?_⟩<;>obtain ⟨p,hp,rfl⟩:=List.mem_map.1 hx
 ·exact p.blk.len _ (by simp)
 ·exact p.blk.pure _ (by simp)
 ·exact p.blk.cell _ (by simp)
theorem aac {σ : Store} {y : List VV} {tg : Bool} (hC : dS 3 [y]) : aJ Tryz.prog σ 3 128 (.sl 1 y tg)=some ([y].length,[y].flatten):=by
 have:=(fH.sl [y] tg hC).src (P:=Tryz.prog) (σ:=σ) uD
 simpa using this
theorem RU (id : Nat) (v : VV) (p : St) (y : List VV) (done : List St) (σ : Store) (hy : dS 11 [y]) (hl : done.length+1≤1000000) (hσ : σ[id]?=some (.own [v])) (hv : (done=[]∧v=.nils)∨∃ jd,jd≠id∧v=.dP jd 0 done.length 3∧σ[jd]?=some (.own (done.map St.cells).flatten)) :
  CV Tryz.prog G0 118 [.agg p.cells,.agg y,.mptr id 0] σ fun c σ'=>c=.ret (.tup [])∧∃ jd,σ.length≤jd∧σ'[id]?=some (.own [.dP jd 0 (done.length+1) 3])∧σ'[jd]?=some (.own ((done++[p]).map St.cells).flatten)∧High (fun i=>i=id∨∃ n,v=.dP i 0 n 3) σ σ':=by
 refine cv e118 (by simp) ?_
 have hlt:=(List.getElem?_eq_some_iff.1 hσ).1
 have hB:=St.blks done
 have hC:=p.blk
 have hσ' : ∀ τ,(σ++τ)[id]?=some (.own [v]):=fun τ=>by rw [List.getElem?_append_left hlt];exact hσ
 have d7 : p.cells.length=3:=rfl
 have d8 : p.cells.all VV.aF=true:=hC.cell _ (by simp)
 have d9 : p.cells.take 3=p.cells:=rfl
 have y7 : y.length=11:=hy.len _ (by simp)
 have y8 : y.all VV.aF=true:=hy.cell _ (by simp)
 rcases hv with ⟨rfl,rfl⟩ | ⟨jd,hj,rfl,hjd⟩
 ·simp only [go_sem,seval,c118,hσ',d7,d8,d9,y7,y8,SS]
  refine AL (ys:=[p.cells]) uD Ea Ep zq rfl (by decide) (by decide) hC (by simp) (by simp) (aac hC) ?_
  simp only [go_sem,seval,hσ',SS]
  refine ⟨σ.length+2,by omega, ?_, ?_,⟨by simp,fun i h1 h2=>?_⟩⟩
  ·rw [List.getElem?_set_self (by simp;omega)]
  ·rw [List.getElem?_set_ne (by omega)];simp
  ·rw [List.getElem?_set_ne (fun e=>h2 (.inl e.symm)),List.getElem?_append_left h1]
 ·have hjl:=(List.getElem?_eq_some_iff.1 hjd).1
  have hjd' : ∀ τ,(σ++τ)[jd]?=some (.own (done.map St.cells).flatten):=fun τ=>by rw [List.getElem?_append_left hjl];exact hjd
  simp only [go_sem,seval,c118,hσ',d7,d8,d9,y7,y8,SS]
  refine lH (xs:=done.map St.cells) (ys:=[p.cells]) uD Ea Ep zq rfl (by decide) (by decide) (hjd' _) hB hC (by simpa using hl) (by simp) (aac hC) ?_
  have hτ : (List.set (σ++[Obj.own p.cells,Obj.own y]) jd Obj.dead++[Obj.own (List.map St.cells done++[p.cells]).flatten])[id]?=some (.own [.dP jd 0 done.length 3]):=by
   rw [List.getElem?_append_left (by simp;omega),List.getElem?_set_ne (by omega)];exact hσ' _
  simp only [go_sem,seval,hτ,SS]
  refine ⟨σ.length+2,by omega, ?_, ?_,⟨by simp;omega,fun i h1 h2=>?_⟩⟩
  ·rw [List.getElem?_set_self (by simp;omega)];simp
  ·rw [List.getElem?_set_ne (by omega),List.getElem?_append_right (by simp)];simp
  ·rw [List.getElem?_set_ne (fun e=>h2 (.inl e.symm)),List.getElem?_append_left (by simp;omega),List.getElem?_set_ne (fun e=>h2 (.inr ⟨_,by rw [e]⟩)),List.getElem?_append_left h1]
def Gn (z : List VV) (ps : List St) (i : Nat) (D : DS) (τ : Store) : Prop:=∃ v,τ[1]?=some (.own [v])∧((i=0∧v=.nils∧∀ id,D id↔id=1)∨(0 < i∧∃ jd,jd≠1∧v=.dP jd 0 i 3∧τ[jd]?=some (.own ((ps.take i).map St.cells).flatten)∧∀ id,D id↔id=1∨id=jd))
theorem Gn.cls (z : List VV) (A : Nat→List VV→Prop) (ps : List St) (hl : ps.length≤1000000) (hA : ∀ i args,(h : i < ps.length)→A i args→∃ y,dS 11 [y]∧args=[.agg ps[i].cells,.agg y]) : Cls (.fn (.func 118) [] [.mptr 1 0]) (Gn z ps) A 0 ps.length (.tup []):=by
 refine ⟨?_, ?_, ?_⟩
 ·rintro i D τ ⟨v,h1,⟨_,_,hD⟩ | ⟨_,jd,hj,_,h2,hD⟩⟩ id hid
  ·obtain rfl:=(hD id).1 hid
   exact (List.getElem?_eq_some_iff.1 h1).1
  ·rcases (hD id).1 hid with rfl | rfl
   ·exact (List.getElem?_eq_some_iff.1 h1).1
   ·exact (List.getElem?_eq_some_iff.1 h2).1
 ·rintro i D τ τ' ⟨v,h1,h⟩ hlow
  rcases h with ⟨a,b,hD⟩ | ⟨a,jd,hj,b,h2,hD⟩
  ·exact ⟨v,(hlow.same 1 ((hD 1).2 rfl)).trans h1,.inl ⟨a,b,hD⟩⟩
  ·exact ⟨v,(hlow.same 1 ((hD 1).2 (.inl rfl))).trans h1,.inr ⟨a,jd,hj,b,(hlow.same jd ((hD jd).2 (.inr rfl))).trans h2,hD⟩⟩
 ·rintro i D τ args _ hi' ha ⟨v,h1,h⟩
  obtain ⟨y,hy,rfl⟩:=hA i args hi' ha
  have hcl : (ps.take i).length=i:=by simp;omega
  refine ⟨tq, ?_⟩
  refine CV.mono (RU 1 v ps[i] y (ps.take i) τ hy (by omega) h1 ?_) ?_
  ·rcases h with ⟨rfl,b,_⟩ | ⟨a,jd,hj,b,h2,hD⟩
   ·exact .inl ⟨by simp,b⟩
   ·exact .inr ⟨jd,hj,by rw [hcl];exact b,h2⟩
  ·rintro _ τ' ⟨rfl,jd,hj,h3,h4,hH⟩
   rw [hcl] at h3
   have hl1:=(List.getElem?_eq_some_iff.1 h1).1
   refine ⟨rfl,fun id=>id=1∨id=jd,⟨_,h3,.inr ⟨by omega,jd,by omega,rfl, ?_,fun _=>.rfl⟩⟩,fun id hid=>?_,⟨hH.len,fun id a b=>hH.same id a fun hc=>?_⟩⟩
   ·rw [List.take_succ_eq_append_getElem hi'];exact h4
   ·rcases hid with rfl | rfl
    ·rcases h with ⟨_,_,hD⟩ | ⟨_,jd',_,_,_,hD⟩
     ·exact .inl ((hD 1).2 rfl)
     ·exact .inl ((hD 1).2 (.inl rfl))
    ·exact .inr hj
   ·rcases h with ⟨_,e,hD⟩ | ⟨_,jd',_,e,_,hD⟩
    ·rcases hc with rfl | ⟨n,hc⟩
     ·exact b ((hD _).2 rfl)
     ·rw [e] at hc;cases hc
    ·rcases hc with rfl | ⟨n,hc⟩
     ·exact b ((hD _).2 (.inl rfl))
     ·rw [e] at hc;cases hc;exact b ((hD _).2 (.inr rfl))
theorem BD (x : Vl) (hx : x.ok) (A : Nat→List VV→Prop) (ps : List St) (hl : ps.length≤1000000) (hA : ∀ i args,(h : i < ps.length)→A i args→∃ y,dS 11 [y]∧args=[.agg ps[i].cells,.agg y])
  (hE : ∀ (caps : List VV) (J : Nat→DS→Store→Prop) (D : DS) (σ : Store),Cls (.fn (.func 118) [] caps) J A 0 ps.length (.tup [])→J 0 D σ→CV Tryz.prog G0 54 [x.vv,.fn (.func 118) [] caps] σ fun c σ'=>c=.ret (.tup [])∧Done J ps.length D σ σ') :
  ∃ v : VV,fH 3 v (ps.map St.cells)∧PV Tryz.prog G0 71 [x.vv] v:=by
 have hE:=fun σ h=>hE [.mptr 1 0] (Gn [] ps) (·=1) σ (Gn.cls [] A ps hl hA) h
 have d1 : x.cells.length=11:=rfl
 have d2 : x.cells.all VV.aF=true:=hx.cell
 have d3 : x.cells.take 11=x.cells:=rfl
 simp only [Vl.vv] at hE
 have hB:=St.blks ps
 have hnul : ps=[]∨0 < ps.length:=by cases ps<;>simp
 rcases hnul with he | he
 ·subst he
  refine ⟨.nils,.nil, ?_⟩
  refine pv e71 (by simp) (by simp [VV.ak,VV.isPure,Vl.vv,hx.pure]) rfl ?_
  simp only [go_sem,seval,c71,Vl.vv,d1,d2,d3,SS]
  refine CV.mono (hE _ ⟨.nils,rfl,.inl ⟨rfl,rfl,fun _=>.rfl⟩⟩) ?_
  rintro _ τ ⟨rfl,D',⟨v,h1,⟨_,rfl,_⟩ | ⟨h,_⟩⟩,_,hH⟩
  ·simp only [go_sem,seval,aO,h1]
   exact fin (by rfl) rfl
  ·simp at h
 ·refine ⟨.sl ps.length (ps.map St.cells).flatten false,fH.of hB (by simp) rfl, ?_⟩
  refine pv e71 (by simp) (by simp [VV.ak,VV.isPure,Vl.vv,hx.pure]) (by simp only [VV.isPure];exact hB.rE) ?_
  simp only [go_sem,seval,c71,Vl.vv,d1,d2,d3,SS]
  refine CV.mono (hE _ ⟨.nils,rfl,.inl ⟨rfl,rfl,fun _=>.rfl⟩⟩) ?_
  rintro _ τ ⟨rfl,D',⟨v,h1,⟨h,_⟩ | ⟨_,jd,hj,rfl,h2,_⟩⟩,_,hH⟩
  ·omega
  rw [List.take_length] at h2
  have hjl:=(List.getElem?_eq_some_iff.1 h2).1
  simp only [go_sem,seval,aO,h1]
  refine ⟨_,1,rfl, ?_⟩
  have:=CJ (σ:=List.map Obj.fr τ) (id:=jd) (n:=ps.length) (k:=3) (xs:=ps.map St.cells) (by rw [List.getElem?_map,h2];rfl) hB (by simp)
  rw [this];simp
end Go.V
namespace Go.V
open Go.Proofs
set_option maxRecDepth 100000
theorem Rt (ks : List Kd) (i : Nat) (h : i < (aI ks).length) : ∃ J,∃ hJ : J < ks.length,(aI (ks.take J)).length≤i∧i < (aI (ks.take (J+1))).length:=by
 induction ks generalizing i with
 | nil=>simp [aI] at h
 | cons k ks ih =>
  by_cases hk : i < k.2.length
  ·exact ⟨0,by simp,by simp [aI],by simpa [aI] using hk⟩
  ·rw [dV,List.length_append] at h
   obtain ⟨J,hJ,h1,h2⟩:=ih (i-k.2.length) (by omega)
   refine ⟨J+1,by simpa using hJ, ?_, ?_⟩
   ·rw [List.take_succ_cons,dV,List.length_append];omega
   ·rw [List.take_succ_cons,dV,List.length_append];omega
theorem Xa (ks : List Kd) (J : Nat) (hJ : J < ks.length) (i : Nat) (h1 : (aI (ks.take J)).length≤i) (h2 : i < (aI (ks.take (J+1))).length) : (aI ks)[i]?=ks[J].2[i-(aI (ks.take J)).length]?:=by
 have e : aI ks=aI (ks.take J)++(ks[J].2++aI (ks.drop (J+1))):=by
  rw [← dV,← dN,← List.drop_eq_getElem_cons hJ,List.take_append_drop]
 have h3:=gV ks J hJ
 rw [e,List.getElem?_append_right h1,List.getElem?_append_left (by omega)]
theorem Yg (root : VV) (xs : List (List VV)) (h : RP root xs) (hl : xs.length≤1000000) (i : Nat) (hi : i < xs.length) : PV Tryz.prog G0 167 [.agg [root],.int .i64 i] (.bool true):=by
 have hL:=yT root xs h
 have hc:=h.cell
 simp only [go_sem,seval] at hc
 rcases h with ⟨rfl,rfl⟩ | ⟨d,h⟩
 ·simp at hi
 have hp:=h.ne.2.1
 refine pv e167 (by simp) (by simp only [VV.ak,VV.isPure,hp];rfl) rfl ?_
 have c1 : decide ((0 : Int)≤(i : Int))=true:=decide_eq_true (by omega)
 have c2 : decide ((i : Int) < (xs.length : Int))=true:=decide_eq_true (by omega)
 simp only [go_sem,seval,c167,hc]
 simp only [go_sem,seval,c1]
 refine ah (hL) ?_<;>simp only [go_sem,seval]
 simp only [go_sem,seval,c2]
 exact fin (by rfl) rfl
theorem N7 (root : VV) (xs : List (List VV)) (h : RP root xs) (hl : xs.length≤1000000) (i : Nat) (hi : i < xs.length) : PV Tryz.prog G0 121 [.agg [root],.int .i64 i] (.tup [.agg xs[i],.bool true]):=by
 have hH:=Yg root xs h hl i hi
 rcases h with ⟨rfl,rfl⟩ | ⟨d,h⟩
 ·simp at hi
 have hB:=h.ne.2.2.1
 have hpx : VV.ak xs[i]=true:=hB.pure _ (List.getElem_mem _)
 have b7 : xs[i].length=11:=hB.len _ (List.getElem_mem _)
 have b8 : xs[i].all VV.aF=true:=hB.cell _ (List.getElem_mem _)
 have b9 : xs[i].take 11=xs[i]:=List.take_of_length_le (by omega)
 have hp:=h.ne.2.1
 obtain ⟨a,b,hr⟩:=h.cells
 obtain ⟨σ0,hσ0⟩ : ∃ σ0,σ0=[Obj.own [root],Obj.own Vl.zero.cells]:=⟨_,rfl⟩
 have g0 : σ0[0]?=some (.own [root]):=by rw [hσ0];rfl
 have g1 : σ0[1]?=some (.own Vl.zero.cells):=by rw [hσ0];rfl
 refine pv e121 (by simp) (by simp only [VV.ak,VV.isPure,hp];rfl) (by simp only [VV.ak,VV.isPure,hpx];rfl) ?_
 subst hr
 simp only [go_sem,seval,c121]
 refine ah (hH) ?_<;>simp only [go_sem,seval,Bool.not_true]
 have z : [Obj.own [.ptr [.int .i64 xs.length,.int .i64 d,a,b] 0],Obj.own [.int .i64 0,.int .i64 0,.str [],.int .i64 0,.nilp,.int .u64 0,.int .i64 0,.int .i64 0,.nilp,.int .i64 0,.int .i64 0]]=σ0:=by rw [hσ0];rfl
 simp only [go_sem,seval,z]
 refine bY (M:=fun ρ σ=>∃ (w : VV) (ys : List (List VV)) (j : Nat) (t : Bool),j < ys.length∧ys.length≤1000000∧dS 11 ys∧ys[j]?=some xs[i]∧ρ.get 1=.int .i64 j∧ρ.get 4=.mptr 1 0∧ρ.get 7=.ptr [.int .i64 ys.length,.int .i64 1,.nils,.sl ys.length ys.flatten t] 0∧σ0=σ) ?_ ?_
 rotate_left
 ·refine aG (fun m ρ σ=>∃ (v : VV) (ys : List (List VV)) (j : Nat),RN m v ys∧j < ys.length∧ys.length≤1000000∧ys[j]?=some xs[i]∧ρ.get 1=.int .i64 j∧ρ.get 4=.mptr 1 0∧ρ.get 7=v∧σ0=σ) (n:=d) ?_ ⟨_,xs,i,h,hi,hl,List.getElem?_eq_getElem hi,rfl,rfl,rfl,rfl⟩
  rintro m ρ σ ⟨v,ys,j,hR,hj,hyl,hg,q1,q4,q7,rfl⟩
  have hm1:=hR.ne.2.2.2
  rcases hR.inv with ⟨rfl,w,hw,rfl⟩ | ⟨e,w,ks,rfl,he,hk,hk2,rfl,rfl⟩
  ·obtain ⟨t,rfl⟩:=hw.iO hR.ne.1
   simp only [go_sem,seval,q1,q4,q7]
   refine ⟨.nils,ys,j,t,hj,hyl,hR.ne.2.2.1,hg, ?_⟩
   simp
  ·obtain ⟨t,rfl⟩:=hk.iO (by intro e;rw [e] at hk2;simp at hk2)
   have hkl:=KL.oK hk.rn
   have c0 : decide ((1 : Int) < ((e+1 : Nat) : Int))=true:=decide_eq_true (by omega)
   obtain ⟨J,hJ,hJ1,hJ2⟩:=Rt ks j hj
   have hget:=Xa ks J hJ j hJ1 hJ2
   have hsJ:=gV ks J hJ
   have hgk : ∀ i (hi : i < ks.length),∃ a b,(ks.map (·.1)).getD i .undef=.ptr [.int .i64 ks[i].2.length,.int .i64 e,a,b] 0:=by
    intro i hi
    obtain ⟨a,b,hab⟩:=(hk.rn ks[i] (List.getElem_mem hi)).cells
    exact ⟨a,b,by rw [List.getD_eq_getElem?_getD,List.getElem?_map,List.getElem?_eq_getElem hi];exact hab⟩
   have hmono : ∀ a b,a≤b→(aI (ks.take a)).length≤(aI (ks.take b)).length:=by
    intro a b hab
    have:=iE (ks.take b) a
    rwa [List.take_take,Nat.min_eq_left hab] at this
   simp only [go_sem,seval,q1,q4,q7,c0]
   refine bY (M:=fun ρ σ=>ρ.get 1=.int .i64 (j-(aI (ks.take J)).length : Nat)∧ρ.get 4=.mptr 1 0∧ρ.get 7=.ptr [.int .i64 (aI ks).length,.int .i64 (e+1 : Nat),.sl ks.length (ks.map (·.1)) t,.nils] 0∧ρ.get 8=.int .i64 J∧σ0=σ) ?_ ?_
   rotate_left
   ·refine aG (fun m ρ σ=>∃ u : Nat,m=J-u∧u≤J∧ρ.get 1=.int .i64 (j-(aI (ks.take u)).length : Nat)∧ρ.get 4=.mptr 1 0∧ρ.get 7=.ptr [.int .i64 (aI ks).length,.int .i64 (e+1 : Nat),.sl ks.length (ks.map (·.1)) t,.nils] 0∧ρ.get 8=.int .i64 u∧σ0=σ) (n:=J) ?_ ⟨0,rfl,by omega,by simp [aI,Env.get,q1],by simp [Env.get,q4],by simp [Env.get,q7],rfl,rfl⟩
    rintro m ρ σ ⟨u,rfl,hu,q1,q4,q7,q8,rfl⟩
    have hul : u < ks.length:=by omega
    obtain ⟨ka,kb,gu⟩:=hgk u hul
    have hs1:=gV ks u hul
    have c1 : (0 : Int)≤(u : Int):=by omega
    have c2 : (u : Int) < (ks.length : Int):=by omega
    have c3 : u < (ks.map (·.1)).length:=by simpa using hul
    have c6 : IntKind.i64.wrap ((u : Int)+1)=((u+1 : Nat) : Int):=by rw [iw (by omega)];omega
    simp only [go_sem,seval,q1,q4,q7,q8,Int.toNat_natCast,Nat.mul_one,gu,c1,c2,c3]
    have hmu:=hmono u J hu
    refine aj (fun hc=>?_) (fun hc=>?_)
    ·have huJ : u < J:=by
      simp at hc
      rcases Nat.lt_or_ge u J with h | h
      ·exact h
      ·obtain rfl : u=J:=by omega
       omega
     have hm:=hmono (u+1) J huJ
     have c7 : IntKind.i64.wrap (((j-(aI (ks.take u)).length : Nat) : Int)-(ks[u].2.length : Int))=((j-(aI (ks.take (u+1))).length : Nat) : Int):=by rw [iw (by omega)];omega
     simp only [go_sem,seval,q1,q4,q7,q8,Int.toNat_natCast,Nat.mul_one,gu,c1,c2,c3,c6,c7]
     refine ⟨J-(u+1),by omega,u+1, ?_⟩
     and_intros
     all_goals first | rfl | omega | assumption
    ·have huJ : u=J:=by
      simp at hc
      rcases Nat.lt_or_ge u J with h | h
      ·have hm:=hmono (u+1) J h
       omega
      ·omega
     subst huJ
     simp only [go_sem,seval,q1,q4,q7,q8]
   ·rintro ρ σ ⟨q1,q4,q7,q8,rfl⟩
    obtain ⟨ka,kb,gJ⟩:=hgk J hJ
    have c1 : (0 : Int)≤(J : Int):=by omega
    have c2 : (J : Int) < (ks.length : Int):=by omega
    have c3 : J < (ks.map (·.1)).length:=by simpa using hJ
    simp only [go_sem,seval,q1,q4,q7,q8,Int.toNat_natCast,Nat.mul_one,gJ,c1,c2,c3]
    have hJR:=hk.rn ks[J] (List.getElem_mem hJ)
    refine ⟨e,by omega,ks[J].1,ks[J].2,j-(aI (ks.take J)).length,hJR,by omega, ?_,by rw [← hget];exact hg, ?_⟩
    ·have:=iE ks (J+1);omega
    ·rw [List.getD_eq_getElem?_getD,List.getElem?_map,List.getElem?_eq_getElem hJ] at gJ
     and_intros
     all_goals first | rfl | assumption | exact gJ.symm
 ·rintro ρ σ ⟨w,ys,j,t,hj,hyl,hBy,hg,q1,q4,q7,rfl⟩
  have c1 : (0 : Int)≤(j : Int):=by omega
  have c2 : (j : Int) < (ys.length : Int):=by omega
  have c3 : j*11+11≤ys.flatten.length:=by rw [hBy.flat];omega
  have c4 : (ys.flatten.drop (j*11)).take 11=xs[i]:=by rw [hBy.wG hj];rw [List.getElem?_eq_getElem hj] at hg;exact Option.some.inj hg
  rw [show Vl.zero.cells=[.int .i64 0,.int .i64 0,.str [],.int .i64 0,.nilp,.int .u64 0,.int .i64 0,.int .i64 0,.nilp,.int .i64 0,.int .i64 0] from rfl] at g1
  have g2:=(List.getElem?_eq_some_iff.1 g1).1
  simp only [go_sem,seval,q1,q4,q7,Int.toNat_natCast,c1,c2,c3,c4,g1,b7,b8,b9,List.getElem?_set_self g2]
  exact fin (by simp only [VV.ak,VV.isPure,hpx];rfl) rfl
end Go.V
namespace Go.V
open Go.Proofs
set_option maxRecDepth 100000
theorem J8 (x y : Vl) (hx : x.ok) (hy : y.ok) (hk : x.k=4) (hr0 : x.hr=.nilp) (xs : List (List VV)) (hR : RP x.root xs) (hl : xs.length≤1000000) (i : Nat) (hi : i < xs.length) (hxy : xs[i]=y.cells) :
  PV Tryz.prog G0 72 [x.vv,Un 0 i []] (xM (some y)):=by
 have hpu:=vF (o:=some y) (by rintro _ ⟨⟩;exact hy)
 have hF:=LH x hx 0 i [] (by omega) hk
 have hG:=KJ x.seed x.bits x.n x.hr [] (.inl ⟨hr0,rfl⟩) (by simp) (by simp) [] (by simp)
 have hT:=N7 x.root xs hR hl i hi
 rw [hxy] at hT
 have h2:=hx.rc
 simp only [go_sem,seval] at h2
 refine pv e72 (by simp) (by simp [VV.ak,VV.isPure,Vl.vv,hx.pure]) hpu ?_
 have d1 : x.cells.length=11:=rfl
 have d2 : x.cells.all VV.aF=true:=hx.cell
 have d3 : x.cells.take 11=x.cells:=rfl
 have dx : x.cells.getD 3 .undef=.int .i64 4:=by rw [← hk];rfl
 have dd : (List.drop 5 x.cells).take 4=[.int .u64 x.seed,.int .i64 x.bits,.int .i64 x.n,x.hr]:=rfl
 have de : (List.drop 4 x.cells).take 1=[x.root]:=rfl
 have z4 : Vl.zero.cells.drop 11=[]:=rfl
 have z1 : Vl.zero.cells.length=11:=rfl
 have z2 : Vl.zero.cells.all VV.aF=true:=rfl
 have z3 : Vl.zero.cells.take 11=Vl.zero.cells:=rfl
 have f1 : y.cells.length=11:=rfl
 have f2 : y.cells.all VV.aF=true:=hy.cell
 have f3 : y.cells.take 11=y.cells:=rfl
 simp only [go_sem,seval,c72,Vl.vv,d1,d2,d3]
 refine ah (hF) ?_<;>simp only [go_sem,seval,d1,d2,d3,Vl.vv,dx,dd,de]
 refine ah (hG) ?_<;>simp only [go_sem,seval,d1,d2,d3,Vl.vv,dx,dd,de,Gx,lk,List.find?_nil,Option.map_none,z1,z2,z3]
 refine ah (hT) ?_<;>simp only [go_sem,seval,d1,d2,d3,Vl.vv,z1,z2,z3,z4,List.append_nil,dx,dd,de,f1,f2,f3,Bool.not_true]
 exact fin hpu rfl
end Go.V
namespace Go.V
def mG (k i : Int) (t : Bs) : Bs:=if k=0 then [110,117,108,108] else if k=1 then (if i=0 then [102,97,108,115,101] else [116,114,117,101]) else if k=2 then uM i else jW t
mutual
def T.enc : T→Bs
 | .sc k i t=>mG k i t
 | .vec l=>91::(T.encs false l++[93])
 | .map l=>123::(T.iQ false l++[125])
 | .set l=>60::(T.encs false l++[62])
def T.encs : Bool→List T→Bs
 | _,[]=>[]
 | b,x::l=>(if b then [44] else [])++(x.enc++T.encs true l)
def T.iQ : Bool→List (Bs × T)→Bs
 | _,[]=>[]
 | b,p::l=>(if b then [44] else [])++(jW p.1++58::(p.2.enc++T.iQ true l))
end
theorem T.oq : ∀ (b : Bool) (l m : List T),T.encs b (l++m)=T.encs b l++T.encs (b || !l.isEmpty) m
 | b,[],m=>by simp [T.encs]
 | b,x::l,m=>by simp [T.encs,T.oq true l m]
theorem T.qJ : ∀ (b : Bool) (l m : List (Bs × T)),T.iQ b (l++m)=T.iQ b l++T.iQ (b || !l.isEmpty) m
 | b,[],m=>by simp [T.iQ]
 | b,x::l,m=>by simp [T.iQ,T.qJ true l m]
theorem uq {l : List T} {i : Nat} (h : i < l.length) : T.encs false (l.take (i+1))=T.encs false (l.take i)++((if 0 < i then [44] else [])++l[i].enc):=by
 rw [List.take_succ_eq_append_getElem h,T.oq]
 cases i with
 | zero=>simp [T.encs]
 | succ i =>
  cases l with
  | nil=>simp at h
  | cons x l=>simp [T.encs]
theorem Aq {l : List (Bs × T)} {i : Nat} (h : i < l.length) : T.iQ false (l.take (i+1))=T.iQ false (l.take i)++((if 0 < i then [44] else [])++(jW l[i].1++58::l[i].2.enc)):=by
 rw [List.take_succ_eq_append_getElem h,T.qJ]
 cases i with
 | zero=>simp [T.iQ]
 | succ i =>
  cases l with
  | nil=>simp at h
  | cons x l=>simp [T.iQ]
theorem nD (l : List T) (i : Nat) : (T.encs false (l.take i)).length≤(T.encs false l).length:=by
 conv=>rhs;rw [← List.take_append_drop i l,T.oq]
 simp
theorem uT (l : List (Bs × T)) (i : Nat) : (T.iQ false (l.take i)).length≤(T.iQ false l).length:=by
 conv=>rhs;rw [← List.take_append_drop i l,T.qJ]
 simp
end Go.V
namespace Go.V
open Go.Proofs
set_option maxRecDepth 100000
theorem FP (x : Vl) (hx : x.ok) : PV Tryz.prog G0 23 [x.vv] (.int .i64 x.k):=by
 refine pv e23 (by simp) (by simp [VV.ak,VV.isPure,Vl.vv,hx.pure]) rfl ?_
 have d1 : x.cells.length=11:=rfl
 have d2 : x.cells.all VV.aF=true:=hx.cell
 have d3 : x.cells.take 11=x.cells:=rfl
 have dx : x.cells.getD 3 .undef=.int .i64 x.k:=rfl
 simp only [go_sem,seval,c23,Vl.vv,d1,d2,d3,dx]
 exact fin (by rfl) rfl
theorem D8 (x : Vl) (hx : x.ok) : PV Tryz.prog G0 70 [x.vv] (.tup [.agg [.int .i64 x.sk,.int .i64 x.si,.str x.st],.bool (decide (x.k < 4))]):=by
 refine pv e70 (by simp) (by simp [VV.ak,VV.isPure,Vl.vv,hx.pure]) rfl ?_
 have d1 : x.cells.length=11:=rfl
 have d2 : x.cells.all VV.aF=true:=hx.cell
 have d3 : x.cells.take 11=x.cells:=rfl
 have dx : x.cells.getD 3 .undef=.int .i64 x.k:=rfl
 have dd : x.cells.take 3=[.int .i64 x.sk,.int .i64 x.si,.str x.st]:=rfl
 simp only [go_sem,seval,c70,Vl.vv,d1,d2,d3,dx,dd]
 exact fin (by rfl) rfl
def EnC (k : Bs) (x : Vl) : Prop:=∀ (b : VV) (bytes : Bs) (σ : Store),jU σ b bytes→bytes.length+k.length≤1000000000 →
 CV Tryz.prog G0 42 [b,x.vv] σ fun r σ'=>∃ b',r=.ret b'∧jU σ' b' (bytes++k)∧Kept σ b σ'∧New σ b b'
theorem ZK (k i : Int) (t : Bs) (h : dh k i t=0) (hb : t.length≤10000000) (hi : -9223372036854775808≤i∧i≤9223372036854775807) : EnC (mG k i t) (zQ k i t):=by
 intro b bytes σ hB hl
 have hbc:=hB.cell
 have hbu:=eH hbc
 have hbl:=cellC hbc
 simp only [go_sem,seval] at hbc
 simp only [go_sem,seval] at hbu
 simp only [go_sem,seval] at hbl
 have hk : k=0∨k=1∨k=2∨k=3:=by
  by_cases h0 : k=0∨k=1∨k=2∨k=3
  ·exact h0
  ·unfold dh at h
   rw [if_neg (by omega),if_neg (by omega),if_neg (by omega),if_neg (by omega)] at h
   omega
 have hok : (zQ k i t).ok:=⟨rfl,rfl,rfl,rfl,by simp [zQ],by simp [zQ]⟩
 have hK:=FP _ hok
 have hS:=D8 _ hok
 obtain ⟨σ1,h1⟩ : ∃ σ1,σ1=σ++[Obj.own (zQ k i t).cells,.own [.int .i64 k,.int .i64 i,.str t]]:=⟨_,rfl⟩
 have hB1 : jU σ1 b bytes:=by rw [h1];exact hB.snoc _
 have g1 : σ1[σ.length+1]?=some (.own [.int .i64 k,.int .i64 i,.str t]):=by rw [h1];simp
 have fin1 : ∀ v' σ' e,jU σ' v' (bytes++e)→Kept σ1 b σ'→New σ1 b v'→∃ b',dX.ret v'=.ret b'∧jU σ' b' (bytes++e)∧Kept σ b σ'∧New σ b b':=fun v' σ' e a1 a2 a3=>⟨v',rfl,a1,by rw [h1] at a2;exact a2.app,by rw [h1] at a3;exact a3.app⟩
 simp only [zQ,Vl.vv,Vl.cells] at hK hS h1
 simp only [go_sem,seval] at h1
 refine cv e42 (by simp) ?_
 simp only [go_sem,seval,c42,zQ,Vl.vv,Vl.cells,hbc,hbu,hbl,SS]
 refine ah (hS) ?_<;>simp only [go_sem,seval,SS]
 refine ah (hK) ?_<;>simp only [go_sem,seval,SS]
 rw [← h1]
 rcases hk with rfl | rfl | rfl | rfl
 ·simp only [go_sem,seval]
  refine hB1.jR (c:=[110,117,108,108]) (gQ wS) (by simpa [mG] using hl) fun v' σ' a1 a2 a3=>?_
  simp only [go_sem,seval]
  exact fin1 v' σ' _ a1 a2 a3
 ·simp only [go_sem,seval,g1]
  refine aj (fun hc=>?_) (fun hc=>?_)
  ·have hc' : i=0:=by simpa using hc
   subst hc'
   simp only [go_sem,seval]
   refine hB1.jR (c:=[102,97,108,115,101]) (gQ wS) (by simpa [mG] using hl) fun v' σ' a1 a2 a3=>?_
   simp only [go_sem,seval]
   exact fin1 v' σ' _ a1 a2 a3
  ·have hc' : ¬ i=0:=by simpa using hc
   simp only [go_sem,seval]
   refine hB1.jR (c:=[116,114,117,101]) (gQ wS) (by simpa [mG,hc'] using hl) fun v' σ' a1 a2 a3=>?_
   simp only [go_sem,seval]
   have:=fin1 v' σ' _ a1 a2 a3
   simpa [mG,hc'] using this
 ·simp only [go_sem,seval,g1]
  refine ah (Tz i hi) ?_<;>simp only [go_sem,seval,g1]
  refine hB1.jR (c:=uM i) (gQ wS) (by simpa [mG] using hl) fun v' σ' a1 a2 a3=>?_
  simp only [go_sem,seval]
  exact fin1 v' σ' _ a1 a2 a3
 ·simp only [go_sem,seval,g1]
  refine ah (Nz t hb) ?_<;>simp only [go_sem,seval,g1]
  refine hB1.jR (c:=jW t) (gQ wS) (by simpa [mG] using hl) fun v' σ' a1 a2 a3=>?_
  simp only [go_sem,seval]
  exact fin1 v' σ' _ a1 a2 a3
end Go.V
namespace Go.V
open Go.Proofs
set_option maxRecDepth 100000
structure WJ (σ : Store) (b : VV) (A : Nat) (x : Vl) (σ' : Store) (bb : VV) (bytes : Bs) : Prop where
 hx : σ'[A]?=some (.own x.cells)
 hB : jU σ' bb bytes
 hK : Kept σ b σ'
 hN : New σ b bb
theorem WJ.app {σ : Store} {b : VV} {A : Nat} {x : Vl} {σ' σ'' : Store} {bb v : VV} {by1 by2 : Bs} (h : WJ σ b A x σ' bb by1) (h1 : jU σ'' v by2) (h2 : Kept σ' bb σ'') (h3 : New σ' bb v) : WJ σ b A x σ'' v by2 :=
 ⟨by rw [h2.2 A (List.getElem?_eq_some_iff.1 h.hx).1 (h.hB.not h.hx (vT x))];exact h.hx,h1,h.hK.trans h.hN h2,h.hN.trans h.hK.1 h3⟩
theorem Kept.snoc {σ σ' : Store} {b : VV} (h : Kept σ b σ') (τ : Store) : Kept σ b (σ'++τ):=by
 refine ⟨by have:=h.1;simp;omega,fun j hj hne=>?_⟩
 rw [List.getElem?_append_left (Nat.lt_of_lt_of_le hj h.1)]
 exact h.2 j hj hne
theorem WJ.snoc {σ : Store} {b : VV} {A : Nat} {x : Vl} {σ' : Store} {bb : VV} {by1 : Bs} (h : WJ σ b A x σ' bb by1) (τ : Store) : WJ σ b A x (σ'++τ) bb by1 :=
 ⟨by rw [List.getElem?_append_left (List.getElem?_eq_some_iff.1 h.hx).1];exact h.hx,h.hB.snoc _,h.hK.snoc _,h.hN⟩
theorem YO (p : St) : ∀ b : Bs,p.cells≠b.map aK:=by
 intro b e
 cases b with
 | nil=>cases e
 | cons c b=>simp [St.cells,aK] at e
theorem WJ.keep {σ : Store} {b : VV} {A : Nat} {x : Vl} {σ' σ'' : Store} {bb : VV} {by1 : Bs} (h : WJ σ b A x σ' bb by1) {B : Nat} {p : St} (hp : σ'[B]?=some (.own p.cells)) (h2 : Kept σ' bb σ'') : σ''[B]?=some (.own p.cells):=by
 rw [h2.2 B (List.getElem?_eq_some_iff.1 hp).1 (h.hB.not hp (YO p))];exact hp
theorem LV (kd : Int) (o e : UInt8) (ho : (kd=4∧o=91∧e=93)∨(kd=5∧o=123∧e=125)∨(kd=6∧o=60∧e=62)) (x : Vl) (hx : x.ok) (hk : x.k=kd) (ps : List St) (hpl : ps.length≤1000000) (hS : ∃ v,fH 3 v (ps.map St.cells)∧PV Tryz.prog G0 71 [x.vv] v)
  (pk : Nat→Bs) (hp0 : pk 0=[]) (hmono : ∀ i,i≤ps.length→(pk i).length≤(pk ps.length).length)
  (hA : ∀ i (h : i < ps.length),(ps[i].k=1↔kd=5)∧(kd=5→ps[i].t.length≤10000000)∧∃ (y : Vl) (k : Bs),PV Tryz.prog G0 72 [x.vv,.agg ps[i].cells] (xM (some y))∧y.ok∧EnC k y∧pk (i+1)=pk i++((if 0 < i then [44] else [])++((if kd=5 then jW ps[i].t++[58] else [])++k))) :
  EnC (o::(pk ps.length++[e])) x:=by
 intro b bytes σ hB hl
 simp only [List.length_cons,List.length_append,List.length_nil] at hl
 obtain ⟨sv,hsv,hSt⟩:=hS
 have hsl : ∀ {σ},cO Tryz.prog 128 sv σ=okV (.int .i64 ps.length) σ:=by intro σ;rw [hsv.cO uD];simp
 have hbc:=hB.cell
 have hbu:=eH hbc
 have hbl:=cellC hbc
 simp only [go_sem,seval] at hbc
 simp only [go_sem,seval] at hbu
 simp only [go_sem,seval] at hbl
 have hK:=FP x hx
 have hSc:=D8 x hx
 rw [hk] at hK
 have d1 : x.cells.length=11:=rfl
 have d2 : x.cells.all VV.aF=true:=hx.cell
 have d3 : x.cells.take 11=x.cells:=rfl
 simp only [Vl.vv] at hK hSc hSt
 have b0 : (kd == 0)=false:=by simp;omega
 have b1 : (kd == 1)=false:=by simp;omega
 have b2 : (kd == 2)=false:=by simp;omega
 have b3 : (kd == 3)=false:=by simp;omega
 have hpk : ∀ i,i≤ps.length→bytes.length+1+(pk i).length≤999999999:=fun i hi=>by have:=hmono i hi;omega
 obtain ⟨A,hAe⟩ : ∃ A,A=σ.length:=⟨_,rfl⟩
 obtain ⟨σ1,h1⟩ : ∃ σ1,σ1=σ++[Obj.own x.cells,.own [.int .i64 x.sk,.int .i64 x.si,.str x.st]]:=⟨_,rfl⟩
 have hJ1 : WJ σ b A x σ1 b bytes:=by
  rw [h1,hAe]
  exact ⟨by simp,hB.snoc _,⟨by simp,fun j hj _=>List.getElem?_append_left hj⟩,.refl _ _⟩
 refine cv e42 (by simp) ?_
 simp only [go_sem,seval,c42,Vl.vv,hbc,hbu,hbl,d1,d2,d3,SS]
 refine ah (hSc) ?_<;>simp only [go_sem,seval,SS,d1,d2,d3]
 rw [← h1,← hAe]
 have hxA:=hJ1.hx
 refine ah (hK) ?_<;>simp only [go_sem,seval,SS,b0,b1,b2,b3]
 refine jY (oQ (yB (M:=fun ρ τ=>ρ.get 0=b∧ρ.get 3=.mptr A 0∧ρ.get 7=.int .u8 o.toNat∧ρ.get 8=.int .u8 e.toNat∧τ=σ1) ?_)) ?_
 rotate_left
 ·rcases ho with ⟨rfl,rfl,rfl⟩ | ⟨rfl,rfl,rfl⟩ | ⟨rfl,rfl,rfl⟩<;>simp only [go_sem,seval]
 rintro ρ _ ⟨q0,q3,q7,q8,rfl⟩
 simp only [go_sem,seval,q0,q3,q7,q8]
 refine hJ1.hB.jR qQ (by simp;omega) fun v2 σ2 a1 a2 a3=>?_
 have hJ2:=hJ1.app a1 a2 a3
 have hxA2:=hJ2.hx
 simp only [go_sem,seval,q3,q8,hxA2,d1,d2,d3]
 refine ah (hSt) ?_<;>simp only [go_sem,seval,hsl]
 refine bY (M:=fun ρ τ=>∃ bb,ρ.get 0=bb∧ρ.get 8=.int .u8 e.toNat∧WJ σ b A x τ bb (bytes++o::pk ps.length)) ?_ ?_
 ·rintro ρ τ ⟨bb,q0,q8,hJ⟩
  simp only [go_sem,seval,q0,q8]
  have hp:=hpk ps.length (Nat.le_refl _)
  refine hJ.hB.jR qQ (by simp;omega) fun v3 σ3 a1 a2 a3=>?_
  have hJ3:=hJ.app a1 a2 a3
  simp only [go_sem,seval]
  exact ⟨v3,rfl,by simpa using hJ3.hB,hJ3.hK,hJ3.hN⟩
 refine aG (fun m ρ τ=>∃ (i : Nat) (bb : VV),m=ps.length-i∧i≤ps.length∧ρ.get 0=bb∧ρ.get 3=.mptr A 0∧ρ.get 8=.int .u8 e.toNat∧ρ.get 56=sv∧ρ.get 57=.int .i64 ps.length∧ρ.get 58=.int .i64 i∧WJ σ b A x τ bb (bytes++o::pk i)) (n:=ps.length) ?_ ⟨0,v2,rfl,by omega,rfl,q3,q8,rfl,rfl,rfl,by rw [hp0];exact hJ2⟩
 rintro m ρ τ ⟨i,bb,rfl,hi,q0,q3,q8,q56,q57,q58,hJ⟩
 simp only [go_sem,seval,q0,q3,q8,q56,q57,q58]
 refine aj (fun hc=>?_) (fun hc=>?_)
 rotate_left
 ·have hc' : i=ps.length:=by simp at hc;omega
  subst hc'
  simp only [go_sem,seval,q0,q8]
  exact hJ
 have hc' : i < ps.length:=by simpa using hc
 obtain ⟨hk1,hkl,y,k,hG,hy,hE,hpe⟩:=hA i hc'
 have hp1:=hpk (i+1) hc'
 rw [hpe] at hp1
 simp only [List.length_append] at hp1
 have hB3:=St.blks ps
 obtain ⟨t,hsvt⟩:=hsv.iO (by intro e;have:=congrArg List.length e;simp at this;rw [this] at hc';simp at hc')
 rw [List.length_map] at hsvt
 have c1 : (0 : Int)≤(i : Int):=by omega
 have c2 : (i : Int) < (ps.length : Int):=by omega
 have c3 : i*3+3≤(ps.map St.cells).flatten.length:=by rw [hB3.flat,List.length_map];omega
 have c4 : ((ps.map St.cells).flatten.drop (i*3)).take 3=ps[i].cells:=by rw [hB3.wG (by simpa using hc')];simp
 have c6 : IntKind.i64.wrap ((i : Int)+1)=((i+1 : Nat) : Int):=by rw [iw (by omega)];omega
 have s1 : ps[i].cells.length=3:=rfl
 have s2 : ps[i].cells.all VV.aF=true:=ps[i].blk.cell _ (by simp)
 have s3 : ps[i].cells.take 3=ps[i].cells:=rfl
 have s4 : ps[i].cells.drop 3=[]:=rfl
 have y1 : y.cells.length=11:=rfl
 have y2 : y.cells.all VV.aF=true:=hy.cell
 have y3 : y.cells.take 11=y.cells:=rfl
 have hG':=hG
 simp only [Vl.vv,xM] at hG'
 obtain ⟨τ1,hτ1⟩ : ∃ τ1,τ1=τ++[Obj.own ps[i].cells]:=⟨_,rfl⟩
 have hJ1 : WJ σ b A x τ1 bb (bytes++o::pk i):=by rw [hτ1];exact hJ.snoc _
 obtain ⟨B,hBe⟩ : ∃ B,B=τ.length:=⟨_,rfl⟩
 have hs1 : τ1[B]?=some (.own ps[i].cells):=by rw [hτ1,hBe];simp
 have sk : ps[i].cells.getD 0 .undef=.int .i64 ps[i].k:=rfl
 have st : ps[i].cells.getD 2 .undef=.str ps[i].t:=rfl
 simp only [go_sem,seval,q0,q3,q8,q56,q57,q58,hsvt,c1,c2,c3,c4,s1,s2,s3,s4,Int.toNat_natCast,SS]
 rw [← hτ1,← hBe]
 refine jY (yB (M:=fun ρ τ=>∃ bb,ρ.get 0=bb∧ρ.get 3=.mptr A 0∧ρ.get 8=.int .u8 e.toNat∧ρ.get 10=.mptr B 0∧ρ.get 56=sv∧ρ.get 57=.int .i64 ps.length∧ρ.get 58=.int .i64 i∧τ[B]?=some (.own ps[i].cells)∧WJ σ b A x τ bb (bytes++o::(pk i++(if 0 < i then [44] else [])))) ?_) ?_
 rotate_left
 ·refine aj (fun hc=>?_) (fun hc=>?_)
  ·have h0 : 0 < i:=by simpa using hc
   rw [if_pos h0] at hp1 ⊢
   simp only [go_sem,seval,q0,q3,q8,q56,q57,q58]
   refine hJ1.hB.jR (qQ (c:=44)) (by simp at hp1 ⊢;omega) fun v3 σ3 a1 a2 a3=>?_
   have hJ3:=hJ1.app a1 a2 a3
   have hs3:=hJ1.keep hs1 a2
   simp only [go_sem,seval,q0,q3,q8,q56,q57,q58]
   exact ⟨hs3,by simpa using hJ3⟩
  ·have h0 : ¬ 0 < i:=by simpa using hc
   rw [if_neg h0] at hp1 ⊢
   simp only [go_sem,seval,q0,q3,q8,q56,q57,q58]
   exact ⟨hs1,by simpa using hJ1⟩
 rintro ρ τ2 ⟨bb2,q0,q3,q8,q10,q56,q57,q58,hs2,hJ2⟩
 simp only [go_sem,seval,q0,q3,q8,q10,q56,q57,q58,hs2,s1,s2,s3,sk,st]
 refine jY (yB (M:=fun ρ τ=>∃ bb,ρ.get 0=bb∧ρ.get 3=.mptr A 0∧ρ.get 8=.int .u8 e.toNat∧ρ.get 10=.mptr B 0∧ρ.get 56=sv∧ρ.get 57=.int .i64 ps.length∧ρ.get 58=.int .i64 i∧τ[B]?=some (.own ps[i].cells)∧WJ σ b A x τ bb (bytes++o::(pk i++((if 0 < i then [44] else [])++(if kd=5 then jW ps[i].t++[58] else []))))) ?_) ?_
 rotate_left
 ·refine aj (fun hc=>?_) (fun hc=>?_)
  ·have h5 : kd=5:=hk1.1 (by simpa using hc)
   rw [if_pos h5] at hp1 ⊢
   simp only [List.length_append] at hp1
   simp only [go_sem,seval,q0,q3,q8,q10,q56,q57,q58,hs2,s1,s2,s3,sk,st]
   refine ah (Nz ps[i].t (hkl h5)) ?_<;>simp only [go_sem,seval,q0]
   refine hJ2.hB.jR (gQ wS) (by simp;omega) fun v3 σ3 a1 a2 a3=>?_
   have hJ3:=hJ2.app a1 a2 a3
   have hs3:=hJ2.keep hs2 a2
   simp only [go_sem,seval]
   refine a1.jR (qQ (c:=58)) (by simp;omega) fun v4 σ4 a4 a5 a6=>?_
   have hJ4:=hJ3.app a4 a5 a6
   have hs4:=hJ3.keep hs3 a5
   simp only [go_sem,seval,q0,q3,q8,q10,q56,q57,q58]
   exact ⟨hs4,by simpa using hJ4⟩
  ·have h5 : ¬ kd=5:=fun h=>by simp at hc;exact hc (hk1.2 h)
   rw [if_neg h5]
   simp only [go_sem,seval,q0,q3,q8,q10,q56,q57,q58]
   exact ⟨hs2,by simpa using hJ2⟩
 rintro ρ τ3 ⟨bb3,q0,q3,q8,q10,q56,q57,q58,hs3,hJ3⟩
 have hx3:=hJ3.hx
 simp only [go_sem,seval,q0,q3,q8,q10,q56,q57,q58,hs3,hx3,d1,d2,d3,s1,s2,s3]
 refine ah (hG') ?_<;>simp only [go_sem,seval,q0,q3,q8,q56,q57,q58,y1,y2,y3,SS]
 have hJ4:=hJ3.snoc [Obj.own y.cells]
 have hb3:=hJ3.hB.cell
 simp only [go_sem,seval] at hb3
 have hE':=hE bb3 _ _ hJ4.hB (by simp;omega)
 simp only [Vl.vv] at hE'
 refine CV.mono hE' ?_
 rintro _ τ5 ⟨b5,rfl,a1,a2,a3⟩
 have hJ5:=hJ4.app a1 a2 a3
 simp only [go_sem,seval,aO,q0,q3,q8,q56,q57,q58,c6]
 refine ⟨ps.length-(i+1),by omega,i+1,b5,rfl,by omega, ?_⟩
 rw [hpe]
 and_intros
 all_goals first | rfl | assumption | exact hsvt.symm | (simpa [List.append_assoc] using hJ5)
end Go.V
