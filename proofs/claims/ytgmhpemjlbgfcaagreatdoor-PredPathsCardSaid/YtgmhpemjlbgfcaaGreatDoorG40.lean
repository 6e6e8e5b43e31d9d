/- Texts F99 F100 L30 F130. -/
import Derived.Test.YtgmhpemjlbgfcaaGreatDoorG32
import Derived.Test.YtgmhpemjlbgfcaaGreatDoorG36
import Derived.Test.YtgmhpemjlbgfcaaGreatDoorG39
set_option linter.unusedVariables false
set_option linter.unusedSimpArgs false
namespace Go.V
open Go.Proofs
set_option maxRecDepth 100000
theorem Kt (x : Vl) (hx : x.ok) (h0 : 0≤x.k) (h4 : x.k < 4) (g : FuncId) (caps : List VV) (σ : Store) :
  CV Tryz.prog G0 49 [x.vv,.fn (.func g) [] caps] σ fun c σ'=>c=.ret (.tup [])∧∃ τ,σ'=σ++τ:=by
 refine cv e49 (by simp) ?_
 have h1:=hx.rc
 have h2:=hx.hc
 simp only [go_sem,seval] at h1
 simp only [go_sem,seval] at h2
 have b4 : (x.k == 4)=false:=by simp;omega
 have b5 : (x.k == 5)=false:=by simp;omega
 have b6 : (x.k == 6)=false:=by simp;omega
 simp only [go_sem,seval,c49,Vl.vv,Vl.cells,h1,h2,SS,b4,b5,b6]
 exact ⟨_,rfl⟩
def strs (l : List Bs) : List (List VV):=l.map fun b=>[VV.str b]
theorem Eu (l : List Bs) : dh 1 (strs l):=by
 refine ⟨fun x hx=>?_,fun x hx=>?_,fun x hx=>?_⟩<;>obtain ⟨b,_,rfl⟩:=List.mem_map.1 hx<;>rfl
def xk (x : Vl) (keys : List Bs) (cs : List (List VV)) (i : Nat) (D : DS) (τ : Store) : Prop :=
 ∃ kv iv,τ[2]?=some (.own [.int .i64 x.k,.int .i64 x.si,.str x.st,kv,iv])∧τ[0]?=some (.own x.cells)∧jZ 1 τ kv (strs (keys.take i))∧jZ 5 τ iv (cs.take i)∧(strs (keys.take i)=[]→kv=.nils)∧(cs.take i=[]→iv=.nils) ∧
  (∀ id o n z,kv=.bZ id o n z→3≤id)∧(∀ id o n z,iv=.bZ id o n z→3≤id)∧(∀ id o n z o' n' z',kv=.bZ id o n z→iv≠.bZ id o' n' z')∧∀ id,D id↔id=0∨id=2∨(∃ o n z,kv=.bZ id o n z)∨∃ o n z,iv=.bZ id o n z
theorem xk.cls (x : Vl) (keys : List Bs) (cs : List (List VV)) (hcs : dh 5 cs) (hl : cs.length≤1000000) (hkl : x.k=5→keys.length=cs.length) (hk0 : x.k≠5→keys=[]) (A : Nat→List VV→Prop)
  (hA : ∀ i args,(h : i < cs.length)→A i args→∃ (s : St) (y : Vl),args=[.agg s.cells,y.vv]∧y.ok∧PV Tryz.prog G0 22 [y.vv] (.agg cs[i])∧(x.k=5→keys[i]?=some s.t)) : Cls (.fn (.func 50) [] [.mptr 2 0,.mptr 0 0]) (xk x keys cs) A 0 cs.length (.tup []):=by
 refine ⟨?_, ?_, ?_⟩
 ·rintro i D τ ⟨kv,iv,h2,h0,g1,g2,_,_,_,_,_,hD⟩ id hid
  rcases (hD id).1 hid with rfl | rfl | ⟨o,n,z,e⟩ | ⟨o,n,z,e⟩
  ·exact (List.getElem?_eq_some_iff.1 h0).1
  ·exact (List.getElem?_eq_some_iff.1 h2).1
  ·exact g1.dom e
  ·exact g2.dom e
 ·rintro i D τ τ' ⟨kv,iv,h2,h0,g1,g2,n1,n2,s1,s2,s3,hD⟩ hlow
  exact ⟨kv,iv,(hlow.same 2 ((hD 2).2 (.inr (.inl rfl)))).trans h2,(hlow.same 0 ((hD 0).2 (.inl rfl))).trans h0,g1.keep fun id o n z e=>hlow.same id ((hD id).2 (.inr (.inr (.inl ⟨o,n,z,e⟩)))),g2.keep fun id o n z e=>hlow.same id ((hD id).2 (.inr (.inr (.inr ⟨o,n,z,e⟩)))),n1,n2,s1,s2,s3,hD⟩
 ·rintro i D τ args _ hi ha ⟨kv,iv,h2,h0,g1,g2,n1,n2,s1,s2,s3,hD⟩
  obtain ⟨s,y,rfl,hy,hP,hK⟩:=hA i args hi ha
  have l2:=(List.getElem?_eq_some_iff.1 h2).1
  have hcB : dh 5 [cs[i]]:=⟨fun c hc=>by simp at hc;subst hc;exact hcs.len _ (List.getElem_mem hi),fun c hc=>by simp at hc;subst hc;exact hcs.pure _ (List.getElem_mem hi),fun c hc=>by simp at hc;subst hc;exact hcs.cell _ (List.getElem_mem hi)⟩
  refine ⟨uf, ?_⟩
  refine CV.mono (Qh 2 0 s y cs[i] x.k x.si x.st kv iv x.k x (strs (keys.take i)) (cs.take i) τ hy hP hcB rfl (by decide) h2 h0 g1 g2 (by simp only [strs,List.length_map,List.length_take];omega) (by simp only [List.length_take];omega) (fun id o n z e=>by have:=s1 _ _ _ _ e;omega) (fun id o n z e=>by have:=s2 _ _ _ _ e;omega) s3) ?_
  rintro _ τ' ⟨rfl,kv',iv',k2,k3,k4,k5,k6,k7,k8,k9⟩
  have e1 : (if x.k=5 then strs (keys.take i)++[[VV.str s.t]] else strs (keys.take i))=strs (keys.take (i+1)):=by
   split
   ·rename_i h5
    have h:=hK h5
    rw [List.take_add_one,h]
    simp [strs]
   ·rename_i h5
    rw [hk0 h5];simp
  have e2 : cs.take i++[cs[i]]=cs.take (i+1):=by rw [List.take_succ_eq_append_getElem hi]
  rw [e1] at k3
  rw [e2] at k4
  have p1 : ∀ id o n z,kv'=.bZ id o n z→3≤id:=fun id o n z e=>by
   rcases k5 with rfl | k5
   ·exact s1 _ _ _ _ e
   ·have:=k5 _ _ _ _ e;omega
  have p2 : ∀ id o n z,iv'=.bZ id o n z→3≤id:=fun id o n z e=>by have:=k7 _ _ _ _ e;omega
  refine ⟨rfl,fun id=>id=0∨id=2∨(∃ o n z,kv'=.bZ id o n z)∨∃ o n z,iv'=.bZ id o n z,⟨kv',iv',k2, ?_,k3,k4,fun h=>?_,fun h=>?_,p1,p2,k8,fun _=>.rfl⟩,fun id hid=>?_,⟨k9.len,fun id a b=>k9.same id a fun hc=>b ((hD id).2 ?_)⟩⟩
  ·rw [k9.same 0 (by omega) (by
    rintro (h | ⟨o,n,z,e⟩ | ⟨o,n,z,e⟩)
    ·cases h
    ·have:=s1 _ _ _ _ e;omega
    ·have:=s2 _ _ _ _ e;omega)];exact h0
  ·by_cases h5 : x.k=5
   ·exfalso
    have h:=congrArg List.length h
    simp only [strs,List.length_map,List.length_take,List.length_nil] at h
    have:=hkl h5
    omega
   ·rw [k6 h5]
    exact n1 (by rw [hk0 h5];simp [strs])
  ·exfalso
   have h:=congrArg List.length h
   simp only [List.length_take,List.length_nil] at h
   omega
  ·rcases hid with rfl | rfl | ⟨o,n,z,e⟩ | ⟨o,n,z,e⟩
   ·exact .inl ((hD 0).2 (.inl rfl))
   ·exact .inl ((hD 2).2 (.inr (.inl rfl)))
   ·rcases k5 with rfl | k5
    ·exact .inl ((hD id).2 (.inr (.inr (.inl ⟨o,n,z,e⟩))))
    ·exact .inr (k5 _ _ _ _ e)
   ·exact .inr (k7 _ _ _ _ e)
  ·rcases hc with rfl | ⟨o,n,z,e⟩ | ⟨o,n,z,e⟩
   ·exact .inr (.inl rfl)
   ·exact .inr (.inr (.inl ⟨o,n,z,e⟩))
   ·exact .inr (.inr (.inr ⟨o,n,z,e⟩))
theorem uS (x : Vl) (hx : x.ok) (keys : List Bs) (cs : List (List VV)) (hcs : dh 5 cs)
  (hE : ∀ (D : DS) (σ : Store),xk x keys cs 0 D σ→CV Tryz.prog G0 49 [x.vv,.fn (.func 50) [] [.mptr 2 0,.mptr 0 0]] σ fun c σ'=>c=.ret (.tup [])∧Done (xk x keys cs) cs.length D σ σ') (hkl : keys.length≤cs.length) :
  PV Tryz.prog G0 22 [x.vv] (.agg [.int .i64 x.k,.int .i64 x.si,.str x.st,kH (strs keys),kH cs]):=by
 have hBk:=Eu keys
 refine pv e22 (by simp) (by simp [VV.ak,VV.isPure,Vl.vv,hx.pure]) (by simp only [VV.isPure,VV.ak,lM hBk,lM hcs];rfl) ?_
 have h1:=hx.rc
 have h2:=hx.hc
 simp only [go_sem,seval] at h1
 simp only [go_sem,seval] at h2
 simp only [go_sem,seval,c22,Vl.vv,Vl.cells,h1,h2,SS]
 refine CV.mono (hE (fun id=>id=0∨id=2∨(∃ o n z,VV.nils=.bZ id o n z)∨∃ o n z,VV.nils=.bZ id o n z) _ ⟨.nils,.nils,rfl,rfl,by simpa [strs] using jZ.nil,by simpa using jZ.nil,fun _=>rfl,fun _=>rfl,fun _ _ _ _ e=>(by cases e),fun _ _ _ _ e=>(by cases e),fun _ _ _ _ _ _ _ e=>(by cases e),fun _=>.rfl⟩) ?_
 rintro _ τ ⟨rfl,D,⟨kv,iv,k2,k0,g1,g2,n1,n2,s1,s2,s3,hD⟩,_,hH⟩
 have k1:=hH.same 1 (by simp) (by rintro (h | h | ⟨o,n,z,h⟩ | ⟨o,n,z,h⟩)<;>cases h)
 simp only [List.getElem?_cons_succ,List.getElem?_cons_zero] at k1
 have l1:=(List.getElem?_eq_some_iff.1 k1).1
 have a1:=g1.cell
 have a2:=iq a1
 have a3:=cellC a1
 have b1:=g2.cell
 have b2:=iq b1
 have b3:=cellC b1
 simp only [go_sem,seval] at a1
 simp only [go_sem,seval] at a2
 simp only [go_sem,seval] at a3
 simp only [go_sem,seval] at b1
 simp only [go_sem,seval] at b2
 simp only [go_sem,seval] at b3
 rw [List.take_of_length_le hkl] at g1 n1
 rw [List.take_length] at g2 n2
 simp only [go_sem,seval,gZ,k1,k2,a1,a2,a3,b1,b2,b3]
 rw [List.getElem?_set_self l1]
 refine ⟨Nat.le_refl _,_,2,rfl,LJ ?_⟩
 have e0 : ∀ y : VV,y.isPure=true→∀ σ,fz 1 σ y=some y:=fun y h σ=>qY h
 have f1:=(g1.keep (σ':=τ.set 1 (.own [.int .i64 x.k,.int .i64 x.si,.str x.st,kv,iv])) fun id o n z e=>List.getElem?_set_ne (by have:=s1 _ _ _ _ e;omega)).XL n1 0
 have f2:=(g2.keep (σ':=τ.set 1 (.own [.int .i64 x.k,.int .i64 x.si,.str x.st,kv,iv])) fun id o n z e=>List.getElem?_set_ne (by have:=s2 _ _ _ _ e;omega)).XL n2 0
 simp only [List.take_succ_cons,List.take_zero,List.mapM_cons,List.mapM_nil,f1,f2,e0 (.int .i64 x.k) rfl,e0 (.int .i64 x.si) rfl,e0 (.str x.st) rfl]
 rfl
theorem uh : ∀ (l : List Tr) (cs : List (List VV)),l.length=cs.length→(∀ (i : Nat) (h : i < l.length) (h' : i < cs.length),kV l[i] cs[i])→jl l cs
 | [],[],_,_=>.nil
 | x::l,c::cs,he,h=>.cons (h 0 (by simp) (by simp)) (uh l cs (by simpa using he) fun i h1 h2=>h (i+1) (by simpa using h1) (by simpa using h2))
theorem uH : ∀ {l : List Tr} {cs : List (List VV)},jl l cs→dh 5 cs
 | _,_,.nil=>.nil
 | _,_,.cons h hs=>by
  obtain ⟨c1,c2,c3⟩:=h.cells
  have:=uH hs
  exact ⟨by simpa using ⟨c1,this.len⟩,by simpa using ⟨c2,this.pure⟩,fun a ha=>by
   rcases List.mem_cons.1 ha with rfl | ha
   ·exact c3
   ·exact this.cell a ha⟩
theorem Uk {v : T} {x : Vl} (h : oL v x) : x.ok→∃ c,kV v.tree c∧PV Tryz.prog G0 22 [x.vv] (.agg c):=by
 induction h with
 | sc k i t h hb hi =>
  intro hx
  have hk : 0≤k∧k < 4:=by
   unfold cu at h
   split at h
   ·omega
   split at h
   ·omega
   split at h
   ·omega
   split at h
   ·omega
   ·omega
  refine ⟨_, ?_,uS _ hx [] [] .nil (fun D σ hJ=>CV.mono (Kt _ hx hk.1 hk.2 _ _ _) ?_) (Nat.le_refl _)⟩
  ·simp only [T.tree]
   exact .node .nil .nil .nil (by simp) (by simp) (by show _≤k;omega) (by show k≤_;omega) hi.1 hi.2
  ·rintro _ σ' ⟨rfl,τ,rfl⟩
   refine ⟨rfl, ?_⟩
   have hC:=xk.cls (JH k i t) [] [] .nil (by decide) (fun _=>rfl) (fun _=>rfl) (fun _ _=>False) (fun _ _ h=>absurd h (Nat.not_lt_zero _))
   exact ⟨D,hC.snoc hJ τ,.refl _ _,.snoc _ _ _⟩
 | vec items h ho root hR ih =>
  intro hx
  have hsl:=jF (items.map (·.2))
  have hil : items.length≤1000000:=by have:=hx.hm;simp at hsl this;omega
  have hlen : (items.map (·.2.cells)).length=items.length:=by simp
  obtain ⟨cs,hcl,hcp⟩:=xX (p:=fun i c=>∀ h : i < items.length,kV items[i].1.tree c∧PV Tryz.prog G0 22 [items[i].2.vv] (.agg c)) (n:=items.length) fun i hi=>by
   obtain ⟨c,h1,h2⟩:=ih _ (List.getElem_mem hi) (ho _ (List.getElem_mem hi))
   exact ⟨c,fun _=>⟨h1,h2⟩⟩
  have hT : jl (T.trees (items.map (·.1))) cs:=uh _ _ (by simp [dn,hcl]) fun i h1 h2=>by
   simp only [dn,List.getElem_map]
   exact (hcp i h2 (by omega)).1
  have hB:=uH hT
  refine ⟨_, ?_,uS _ hx [] cs hB (fun D σ hJ=>?_) (by simp)⟩
  ·simp only [T.tree]
   exact .node .nil hT (jL hB) (by simp) (by simp [dn];omega) (by decide) (by decide) (by decide) (by decide)
  ·have:=tu 0 0 [] root (items.map (·.2.cells)) hR 0 0 0 .nilp rfl (maxD (items.map (·.2)) : Nat) (dw (items.map (·.2)) : Nat) 50 uf [.mptr 2 0,.mptr 0 0] _ D σ (by rw [hlen];exact hil) (by
    rw [hlen,← hcl]
    refine xk.cls _ [] cs hB (by omega) (fun h=>absurd (show (4 : Int)=5 from h) (by decide)) (fun _=>rfl) _ fun i args hi ha=>?_
    have hi' : i < items.length:=by omega
    unfold tN at ha
    refine ⟨⟨0,i,[]⟩,items[i].2, ?_,ho _ (List.getElem_mem hi'),(hcp i hi hi').2,fun h=>absurd (show (4 : Int)=5 from h) (by decide)⟩
    rw [ha]
    simp [List.getD_eq_getElem?_getD,hi',St.cells,Vl.vv]) hJ
   rw [hlen,← hcl] at this
   exact this
 | map items seed bits hr ps hi hp hM h ho ih =>
  intro hx
  have hsl:=jF (items.map (·.2.2))
  have hil : items.length≤1000000:=by have:=hx.hm;simp at hsl this;omega
  have hsrt:=qQ hi hp
  have hpl : ps.length=items.length:=by simpa using hp.length_eq
  have hpo : ∀ p ∈ ps,p.2.ok:=fun p hpm=>by
   obtain ⟨q,hq,rfl⟩:=List.mem_map.1 (hp.mem_iff.1 hpm)
   exact (ho q hq).1
  obtain ⟨cs,hcl,hcp⟩:=xX (p:=fun i c=>∀ h : i < items.length,kV items[i].2.1.tree c∧PV Tryz.prog G0 22 [items[i].2.2.vv] (.agg c)) (n:=items.length) fun i hi=>by
   obtain ⟨c,h1,h2⟩:=ih _ (List.getElem_mem hi) (ho _ (List.getElem_mem hi)).1
   exact ⟨c,fun _=>⟨h1,h2⟩⟩
  have hT : jl (T.pV (items.map fun q=>(q.1,q.2.1))) cs:=uh _ _ (by simp [fM,hcl]) fun i h1 h2=>by
   simp only [fM,List.getElem_map]
   exact (hcp i h2 (by omega)).1
  have hB:=uH hT
  refine ⟨_, ?_,uS _ hx (items.map (·.1)) cs hB (fun D σ hJ=>?_) (by simp;omega)⟩
  ·simp only [T.tree]
   have e : (items.map fun q=>(q.1,q.2.1)).map (·.1)=items.map (·.1):=by simp
   rw [e]
   exact .node (jL (Eu _)) hT (jL hB) (by simp;omega) (by simp [fM];omega) (by decide) (by decide) (by decide) (by decide)
  ·obtain ⟨N,hN⟩ : ∃ N : Int,N=items.length:=⟨_,rfl⟩
   rw [← hN]
   rw [← hN] at hJ
   have:=lN 5 (.inl rfl) 0 0 [] .nilp rfl seed bits N hr ps hM hpo (by omega) (maxD (items.map (·.2.2)) : Nat) (dw (items.map (·.2.2)) : Nat) 50 uf [.mptr 2 0,.mptr 0 0] _ D σ (by
    rw [hpl,← hcl]
    refine xk.cls ⟨0,0,[],5,.nilp,seed,bits,N,hr,maxD (items.map (·.2.2)),dw (items.map (·.2.2))⟩ (items.map (·.1)) cs hB (by omega) (fun _=>by simp;omega) (fun h=>by exact absurd rfl h) _ fun i args hi2 ha=>?_
    have hi' : i < items.length:=by omega
    have ha':=nD (k:=5) (qs:=kP ps) (by rw [hsrt];simpa using hi') ha
    simp only [hsrt,List.getElem_map] at ha'
    refine ⟨⟨1,0,items[i].1⟩,items[i].2.2,ha',(ho _ (List.getElem_mem hi')).1,(hcp i hi2 hi').2,fun _=>?_⟩
    rw [List.getElem?_map,List.getElem?_eq_getElem hi'];rfl) hJ
   rw [hpl,← hcl] at this
   exact this
 | set items seed bits hr ps hi hp hM h ho hk ih =>
  intro hx
  have hsl:=jF (items.map (·.2.2))
  have hil : items.length≤1000000:=by have:=hx.hm;simp at hsl this;omega
  have hsrt:=qQ hi hp
  have hpl : ps.length=items.length:=by simpa using hp.length_eq
  have hpo : ∀ p ∈ ps,p.2.ok:=fun p hpm=>by
   obtain ⟨q,hq,rfl⟩:=List.mem_map.1 (hp.mem_iff.1 hpm)
   exact (ho q hq).1
  obtain ⟨cs,hcl,hcp⟩:=xX (p:=fun i c=>∀ h : i < items.length,kV items[i].2.1.tree c∧PV Tryz.prog G0 22 [items[i].2.2.vv] (.agg c)) (n:=items.length) fun i hi=>by
   obtain ⟨c,h1,h2⟩:=ih _ (List.getElem_mem hi) (ho _ (List.getElem_mem hi)).1
   exact ⟨c,fun _=>⟨h1,h2⟩⟩
  have hT : jl (T.trees (items.map fun q=>q.2.1)) cs:=uh _ _ (by simp [dn,hcl]) fun i h1 h2=>by
   simp only [dn,List.getElem_map]
   exact (hcp i h2 (by omega)).1
  have hB:=uH hT
  refine ⟨_, ?_,uS _ hx [] cs hB (fun D σ hJ=>?_) (by simp)⟩
  ·simp only [T.tree]
   exact .node .nil hT (jL hB) (by simp) (by simp [dn];omega) (by decide) (by decide) (by decide) (by decide)
  ·obtain ⟨N,hN⟩ : ∃ N : Int,N=items.length:=⟨_,rfl⟩
   rw [← hN]
   rw [← hN] at hJ
   have:=lN 6 (.inr rfl) 0 0 [] .nilp rfl seed bits N hr ps hM hpo (by omega) (maxD (items.map (·.2.2)) : Nat) (dw (items.map (·.2.2)) : Nat) 50 uf [.mptr 2 0,.mptr 0 0] _ D σ (by
    rw [hpl,← hcl]
    refine xk.cls _ [] cs hB (by omega) (fun h=>absurd (show (6 : Int)=5 from h) (by decide)) (fun _=>rfl) _ fun i args hi2 ha=>?_
    have hi' : i < items.length:=by omega
    have ha':=nD (k:=6) (qs:=kP ps) (by rw [hsrt];simpa using hi') ha
    simp only [hsrt,List.getElem_map] at ha'
    exact ⟨⟨2,0,items[i].1⟩,items[i].2.2,ha',(ho _ (List.getElem_mem hi')).1,(hcp i hi2 hi').2,fun h=>absurd (show (6 : Int)=5 from h) (by decide)⟩) hJ
   rw [hpl,← hcl] at this
   exact this
end Go.V
namespace Go.V
open Go.Proofs
set_option maxRecDepth 100000
theorem rF (k i : Int) (t : Bs) (kv iv kv' iv' : VV) (ks : List Bs) (cs cs' : List (List VV)) (hk : dG 1 kv (ks.map fun b=>[VV.str b])) (hk' : dG 1 kv' (ks.map fun b=>[VV.str b])) (hi : dG 5 iv cs) (hi' : dG 5 iv' cs') (hl : cs.length=cs'.length)
  (hkl : ks.length≤1000000) (hil : cs.length≤1000000) (ih : ∀ (j : Nat) (h : j < cs.length) (h' : j < cs'.length),PV Tryz.prog G0 21 [.agg cs[j],.agg cs'[j]] (.bool true)) :
  PV Tryz.prog G0 21 [.agg [.int .i64 k,.int .i64 i,.str t,kv,iv],.agg [.int .i64 k,.int .i64 i,.str t,kv',iv']] (.bool true):=by
 have hkp:=hk.pure
 have hip:=hi.pure
 have hkp':=hk'.pure
 have hip':=hi'.pure
 have hkc:=hk.cell
 have hic:=hi.cell
 have hkc':=hk'.cell
 have hic':=hi'.cell
 have lk : ∀ {σ},aT Tryz.prog 26 kv σ=okV (.int .i64 ks.length) σ:=by intro σ;rw [hk.aT dM];simp
 have lk' : ∀ {σ},aT Tryz.prog 26 kv' σ=okV (.int .i64 ks.length) σ:=by intro σ;rw [hk'.aT dM];simp
 have li : ∀ {σ},aT Tryz.prog 27 iv σ=okV (.int .i64 cs.length) σ:=by intro σ;rw [hi.aT bK]
 have li' : ∀ {σ},aT Tryz.prog 27 iv' σ=okV (.int .i64 cs.length) σ:=by intro σ;rw [hi'.aT bK,hl]
 refine pv e21 (by simp) (by simp only [VV.ak,VV.isPure,hkp,hip,hkp',hip'];rfl) rfl ?_
 simp only [go_sem,seval] at hkc
 simp only [go_sem,seval] at hic
 simp only [go_sem,seval] at hkc'
 simp only [go_sem,seval] at hic'
 simp only [go_sem,seval,c21,hkc,hic,hkc',hic',lk,lk',li,li',bne,beq_self_eq_true,Bool.not_true]
 have a0 : ∀ j : Nat,(0 : Int)≤(j : Int):=fun j=>by omega
 refine bf (M:=fun ρ τ=>ρ.get 2=.mptr 0 0∧ρ.get 3=.mptr 1 0∧τ[0]?=some (.own [.int .i64 k,.int .i64 i,.str t,kv,iv])∧τ[1]?=some (.own [.int .i64 k,.int .i64 i,.str t,kv',iv'])) ?_ ?_
 ·rintro ρ τ ⟨q2,q3,t0,t1⟩
  simp only [go_sem,seval,q2,q3,t0,t1,hkc,hic,hkc',hic',li,li']
  refine bf (M:=fun ρ τ=>True) ?_ ?_
  ·rintro ρ τ -
   simp only [go_sem,seval]
   exact fin (by rfl) rfl
  refine aF (fun m ρ τ=>∃ j : Nat,m=cs.length-j∧j≤cs.length∧ρ.get 2=.mptr 0 0∧ρ.get 3=.mptr 1 0∧ρ.get 64=.int .i64 cs.length∧ρ.get 65=.int .i64 j∧τ[0]?=some (.own [.int .i64 k,.int .i64 i,.str t,kv,iv])∧τ[1]?=some (.own [.int .i64 k,.int .i64 i,.str t,kv',iv'])) (n:=cs.length) ?_ ⟨0,rfl,by omega,by simp only [go_sem,seval,q2],by simp only [go_sem,seval,q3],rfl,rfl,t0,t1⟩
  rintro m ρ τ ⟨j,rfl,hj,q2,q3,q64,q65,t0,t1⟩
  simp only [go_sem,seval,q64,q65]
  refine aG (fun hc=>?_) (fun hc=>?_)
  rotate_left
  ·simp only [go_sem,seval]
  have hc' : j < cs.length:=by simpa using hc
  have hc'' : j < cs'.length:=by omega
  obtain ⟨tg,hit,a3,a4⟩:=hi.jr hc'
  obtain ⟨tg',hit',b3,b4⟩:=hi'.jr hc''
  have x1:=hi.blk.len _ (List.getElem_mem hc')
  have x3 : cs[j].all VV.aC=true:=hi.blk.cell _ (List.getElem_mem hc')
  have x4 : cs[j].take 5=cs[j]:=List.take_of_length_le (by omega)
  have y1:=hi'.blk.len _ (List.getElem_mem hc'')
  have y3 : cs'[j].all VV.aC=true:=hi'.blk.cell _ (List.getElem_mem hc'')
  have y4 : cs'[j].take 5=cs'[j]:=List.take_of_length_le (by omega)
  have a2 : (j : Int) < (cs.length : Int):=by omega
  have a2' : (j : Int) < (cs'.length : Int):=by omega
  have a6 : IntKind.i64.wrap ((j : Int)+1)=((j+1 : Nat) : Int):=by rw [iw (by omega)];omega
  simp only [go_sem,seval,q2,q3,q64,q65,hit,hit',a0,a2,a2',a3,a4,b3,b4,x1,x3,x4,y1,y3,y4,t0,t1,Int.toNat_natCast]
  refine aj (ih j hc' hc'') (by simp only [go_sem,seval,q2,q3,q64,q65,a6,Bool.not_true]) ?_<;>simp only [go_sem,seval,q2,q3,q64,q65,a6,Bool.not_true]
  exact ⟨cs.length-(j+1),by omega,j+1,rfl,by omega,rfl,by rw [← hit];exact t0,by rw [← hit'];exact t1⟩
 refine aF (fun m ρ τ=>∃ j : Nat,m=ks.length-j∧j≤ks.length∧ρ.get 2=.mptr 0 0∧ρ.get 3=.mptr 1 0∧ρ.get 46=.int .i64 ks.length∧ρ.get 47=.int .i64 j∧τ[0]?=some (.own [.int .i64 k,.int .i64 i,.str t,kv,iv])∧τ[1]?=some (.own [.int .i64 k,.int .i64 i,.str t,kv',iv'])) (n:=ks.length) ?_ ⟨0,rfl,by omega,rfl,rfl,rfl,rfl,rfl,rfl⟩
 rintro m ρ τ ⟨j,rfl,hj,q2,q3,q46,q47,t0,t1⟩
 simp only [go_sem,seval,q46,q47]
 refine aG (fun hc=>?_) (fun hc=>?_)
 rotate_left
 ·simp only [go_sem,seval,q2,q3]
  exact ⟨t0,t1⟩
 have hc' : j < ks.length:=by simpa using hc
 obtain ⟨tg,hit,a3,a4⟩:=hk.uP hc'
 obtain ⟨tg',hit',b3,b4⟩:=hk'.uP hc'
 have a2 : (j : Int) < (ks.length : Int):=by omega
 have a6 : IntKind.i64.wrap ((j : Int)+1)=((j+1 : Nat) : Int):=by rw [iw (by omega)];omega
 simp only [go_sem,seval,q2,q3,q46,q47,hit,hit',a0,a2,a3,a4,b3,b4,t0,t1,Int.toNat_natCast,bne,beq_self_eq_true,Bool.not_true,a6]
 exact ⟨ks.length-(j+1),by omega,j+1,rfl,by omega,rfl⟩
mutual
theorem Ij : ∀ (v : T) (c c' : List VV),kV v.tree c→kV v.tree c'→v.nd≤100000→PV Tryz.prog G0 21 [.agg c,.agg c'] (.bool true)
 | .sc k i t,c,c',h,h',hn=>by
  simp only [T.tree] at h h'
  cases h with
  | node h1 h2 h3 =>
  cases h' with
  | node g1 g2 g3 =>
  have l1:=h2.len
  have l2:=g2.len
  simp only [List.length_nil] at l1 l2
  exact rF _ _ _ _ _ _ _ _ _ _ h1 g1 h3 g3 (by omega) (by simp) (by omega) fun j h=>absurd h (by omega)
 | .vec l,c,c',h,h',hn=>by
  simp only [T.tree] at h h'
  simp only [T.nd] at hn
  have:=mD l
  cases h with
  | node h1 h2 h3 =>
  cases h' with
  | node g1 g2 g3 =>
  have l1:=h2.len
  have l2:=g2.len
  simp only [dn,List.length_map] at l1 l2
  exact rF _ _ _ _ _ _ _ _ _ _ h1 g1 h3 g3 (by omega) (by simp) (by omega) (Dp l _ _ h2 g2 (by omega))
 | .map l,c,c',h,h',hn=>by
  simp only [T.tree] at h h'
  simp only [T.nd] at hn
  have:=uU l
  cases h with
  | node h1 h2 h3 =>
  cases h' with
  | node g1 g2 g3 =>
  have l1:=h2.len
  have l2:=g2.len
  simp only [fM,List.length_map] at l1 l2
  exact rF _ _ _ _ _ _ _ _ _ _ h1 g1 h3 g3 (by omega) (by simp;omega) (by omega) (IW l _ _ h2 g2 (by omega))
 | .set l,c,c',h,h',hn=>by
  simp only [T.tree] at h h'
  simp only [T.nd] at hn
  have:=mD l
  cases h with
  | node h1 h2 h3 =>
  cases h' with
  | node g1 g2 g3 =>
  have l1:=h2.len
  have l2:=g2.len
  simp only [dn,List.length_map] at l1 l2
  exact rF _ _ _ _ _ _ _ _ _ _ h1 g1 h3 g3 (by omega) (by simp) (by omega) (Dp l _ _ h2 g2 (by omega))
theorem Dp : ∀ (l : List T) (cs cs' : List (List VV)),jl (T.trees l) cs→jl (T.trees l) cs'→T.oQ l≤100000→∀ (j : Nat) (h : j < cs.length) (h' : j < cs'.length),PV Tryz.prog G0 21 [.agg cs[j],.agg cs'[j]] (.bool true)
 | [],_,_,.nil,.nil,_,j,h,_=>absurd h (Nat.not_lt_zero _)
 | x::l,c::cs,c'::cs',.cons h1 h2,.cons g1 g2,hn,0,_,_=>Ij x c c' h1 g1 (by simp only [T.oQ] at hn;omega)
 | x::l,c::cs,c'::cs',.cons h1 h2,.cons g1 g2,hn,j+1,h,h'=>Dp l cs cs' h2 g2 (by simp only [T.oQ] at hn;omega) j (by simpa using h) (by simpa using h')
theorem IW : ∀ (l : List (Bs × T)) (cs cs' : List (List VV)),jl (T.pV l) cs→jl (T.pV l) cs'→T.mP l≤100000→∀ (j : Nat) (h : j < cs.length) (h' : j < cs'.length),PV Tryz.prog G0 21 [.agg cs[j],.agg cs'[j]] (.bool true)
 | [],_,_,.nil,.nil,_,j,h,_=>absurd h (Nat.not_lt_zero _)
 | x::l,c::cs,c'::cs',.cons h1 h2,.cons g1 g2,hn,0,_,_=>Ij x.2 c c' h1 g1 (by simp only [T.mP] at hn;omega)
 | x::l,c::cs,c'::cs',.cons h1 h2,.cons g1 g2,hn,j+1,h,h'=>IW l cs cs' h2 g2 (by simp only [T.mP] at hn;omega) j (by simpa using h) (by simpa using h')
end
end Go.V
namespace Go.V
def T.len : T→Nat
 | .sc _ _ _=>0
 | .vec l=>l.length
 | .map l=>l.length
 | .set l=>l.length
def T.atKey : T→Bs→Option T
 | .map l,k=>lk l k
 | _,_=>none
def T.OH : T→Nat→Option T
 | .vec l,i=>l[i]?
 | _,_=>none
def gV (i : Int) (n : Nat) : Option Nat:=if n=0∨(n : Int)≤i∨(n : Int)+i < 0 then none else some (if 0≤i then i.toNat else (n+i).toNat)
structure Sg where
 k : Int
 i : Int
 lo : Int
 hi : Int
 t : Bs
def T.step (v : T) (s : Sg) : Option T:=if s.k=0 then v.atKey s.t else match gV s.i v.len with
 | none=>none
 | some j=>if s.k=1 then v.OH j else none
def T.walk : T→List Sg→Option T
 | v,[]=>some v
 | v,s::r=>match v.step s with
  | none=>none
  | some w=>w.walk r
theorem MG : ∀ {l : List T} {v : T},v ∈ l→v.nd≤T.oQ l
 | x::l,v,h=>by
  simp only [T.oQ]
  rcases List.mem_cons.1 h with rfl | h
  ·omega
  ·have:=MG h;omega
theorem Pz : ∀ {l : List (Bs × T)} {p : Bs × T},p ∈ l→p.2.nd≤T.mP l
 | x::l,v,h=>by
  simp only [T.mP]
  rcases List.mem_cons.1 h with rfl | h
  ·omega
  ·have:=Pz h;omega
theorem Jv {v w : T} {s : Sg} (h : v.step s=some w) : w.nd≤v.nd:=by
 unfold T.step at h
 split at h
 ·cases v with
  | map l =>
   have:=Pz (vM h)
   simp only [T.nd] at this ⊢;omega
  | sc=>cases h
  | vec=>cases h
  | set=>cases h
 ·split at h
  ·cases h
  ·split at h
   ·cases v with
    | vec l =>
     have:=MG (List.mem_of_getElem? h)
     simp only [T.nd] at this ⊢;omega
    | sc=>cases h
    | map=>cases h
    | set=>cases h
   ·cases h
end Go.V
namespace Go.V
open Go.Proofs
set_option maxRecDepth 100000
def lF : Option Nat→VV
 | none=>.tup [.int .i64 0,.bool false]
 | some j=>.tup [.int .i64 j,.bool true]
theorem dV (o : Option Nat) : (lF o).isPure=true:=by cases o<;>rfl
theorem AY {i : Int} {n j : Nat} (h : gV i n=some j) : j < n:=by
 unfold gV at h
 split at h
 ·cases h
 ·cases h
  split<;>omega
theorem Qn (i : Int) (n : Nat) (hn : n≤1000000) (hi : -9223372036854775808≤i∧i≤9223372036854775807) : PV Tryz.prog G0 42 [.int .i64 i,.int .i64 n] (lF (gV i n)):=by
 refine pv e42 (by simp) rfl (dV _) ?_
 by_cases h1 : n=0
 ·have b1 : decide ((n : Int) < 1)=true:=decide_eq_true (by omega)
  simp only [go_sem,seval,c42,b1]
  exact fin (dV _) (by rw [gV,if_pos (.inl h1)];rfl)
 have b1 : decide ((n : Int) < 1)=false:=decide_eq_false (by omega)
 by_cases h2 : (n : Int)≤i
 ·have b2 : decide ((n : Int)≤i)=true:=decide_eq_true h2
  simp only [go_sem,seval,c42,b1,b2]
  exact fin (dV _) (by rw [gV,if_pos (.inr (.inl h2))];rfl)
 have b2 : decide ((n : Int)≤i)=false:=decide_eq_false h2
 by_cases h3 : 0≤i
 ·have b3 : decide (0≤i)=true:=decide_eq_true h3
  simp only [go_sem,seval,c42,b1,b2,b3]
  exact fin (dV _) (by rw [gV,if_neg (by omega),if_pos h3];simp only [lF];rw [Int.toNat_of_nonneg h3])
 have b3 : decide (0≤i)=false:=decide_eq_false h3
 have e1 : IntKind.i64.wrap ((n : Int)+i)=(n : Int)+i:=iw (by omega)
 by_cases h4 : (n : Int)+i < 0
 ·have b4 : decide ((n : Int)+i < 0)=true:=decide_eq_true h4
  simp only [go_sem,seval,c42,b1,b2,b3,e1,b4]
  exact fin (dV _) (by rw [gV,if_pos (.inr (.inr h4))];rfl)
 ·have b4 : decide ((n : Int)+i < 0)=false:=decide_eq_false h4
  simp only [go_sem,seval,c42,b1,b2,b3,e1,b4]
  exact fin (dV _) (by rw [gV,if_neg (by omega),if_neg h3];simp only [lF];rw [Int.toNat_of_nonneg (by omega)])
theorem NQ (i : Int) (n : Nat) (hn : n≤1000000) (hi : -9223372036854775808≤i∧i≤9223372036854775807) : PV Tryz.prog G0 45 [.int .i64 i,.int .i64 n] (lF (gV i n)):=by
 refine pv e45 (by simp) rfl (dV _) ?_
 have e0 : IntKind.i64.wrap (0-(n : Int))=0-(n : Int):=iw (by omega)
 by_cases h1 : n=0
 ·have b1 : decide ((n : Int) < 1)=true:=decide_eq_true (by omega)
  simp only [go_sem,seval,c45,b1,e0]
  exact fin (dV _) (by rw [gV,if_pos (.inl h1)];rfl)
 have b1 : decide ((n : Int) < 1)=false:=decide_eq_false (by omega)
 by_cases h2 : (n : Int)≤i
 ·have b2 : decide ((n : Int)≤i)=true:=decide_eq_true h2
  simp only [go_sem,seval,c45,b1,b2,e0]
  exact fin (dV _) (by rw [gV,if_pos (.inr (.inl h2))];rfl)
 have b2 : decide ((n : Int)≤i)=false:=decide_eq_false h2
 by_cases h4 : (n : Int)+i < 0
 ·have b4 : decide (i < 0-(n : Int))=true:=decide_eq_true (by omega)
  simp only [go_sem,seval,c45,b1,b2,e0,b4]
  exact fin (dV _) (by rw [gV,if_pos (.inr (.inr h4))];rfl)
 have b4 : decide (i < 0-(n : Int))=false:=decide_eq_false (by omega)
 by_cases h3 : i < 0
 ·have b3 : decide (i < 0)=true:=decide_eq_true h3
  have e1 : IntKind.i64.wrap ((n : Int)+i)=(n : Int)+i:=iw (by omega)
  simp only [go_sem,seval,c45,b1,b2,e0,b4,b3,e1]
  exact fin (dV _) (by rw [gV,if_neg (by omega),if_neg (by omega)];simp only [lF];rw [Int.toNat_of_nonneg (by omega)])
 ·have b3 : decide (i < 0)=false:=decide_eq_false h3
  simp only [go_sem,seval,c45,b1,b2,e0,b4,b3]
  exact fin (dV _) (by rw [gV,if_neg (by omega),if_pos (by omega)];simp only [lF];rw [Int.toNat_of_nonneg (by omega)])
theorem AB {k i : Int} {t : Bs} (h : cu k i t=0) : 0≤k∧k < 4:=by
 unfold cu at h
 repeat' split at h
 all_goals omega
theorem QX {v : T} {x : Vl} (h : oL v x) (hx : x.ok) : v.len≤1000000∧PV Tryz.prog G0 43 [x.vv] (.int .i64 v.len):=by
 cases h with
 | sc k i t h hb hi=>exact ⟨by simp [T.len],Ip _ hx rfl 0 rfl (by omega)⟩
 | vec items h ho root hR =>
  have hsl:=jF (items.map (·.2))
  have hil : items.length≤1000000:=by have:=hx.hm;simp at hsl this;omega
  have:=O7 _ hx _ hR 0 rfl (by simpa using hil)
  simp only [T.len,List.length_map]
  exact ⟨hil,by simpa using this⟩
 | map items seed bits hr ps hi hp hM h ho =>
  have hsl:=jF (items.map (·.2.2))
  have hil : items.length≤1000000:=by have:=hx.hm;simp at hsl this;omega
  simp only [T.len,List.length_map]
  exact ⟨hil,Ip _ hx rfl _ rfl hil⟩
 | set items seed bits hr ps hi hp hM h ho hk =>
  have hsl:=jF (items.map (·.2.2))
  have hil : items.length≤1000000:=by have:=hx.hm;simp at hsl this;omega
  simp only [T.len,List.length_map]
  exact ⟨hil,Ip _ hx rfl _ rfl hil⟩
def GR : Option Vl→VV→Prop
 | some y,R=>y.ok∧R=.tup [y.vv,.int .i64 0]
 | none,R=>∃ e : Int,e≠0∧R=.tup [Vl.zero.vv,.int .i64 e]
theorem Pn (x : Vl) (hx : x.ok) (sk ix : Int) (t : Bs) (h : 0≤sk∧sk≤2) (hk : x.k≠sk+4) : PV Tryz.prog G0 87 [x.vv,lJ sk ix t] (.int .i64 3):=by
 refine pv e87 (by simp) (by simp [VV.ak,VV.isPure,Vl.vv,hx.pure]) rfl ?_
 have d1 : x.cells.length=11:=rfl
 have d2 : x.cells.all VV.aC=true:=hx.cell
 have d3 : x.cells.take 11=x.cells:=rfl
 have dx : x.cells.getD 3 .undef=.int .i64 x.k:=rfl
 have b1 : decide (sk < 0)=false:=decide_eq_false (by omega)
 have b2 : decide (2 < sk)=false:=decide_eq_false (by omega)
 have e1 : IntKind.i64.wrap (sk+4)=sk+4:=iw (by omega)
 have b3 : (x.k != sk+4)=true:=by simpa using hk
 simp only [go_sem,seval,c87,Vl.vv,d1,d2,d3,dx,b1,b2,b3,e1,Bool.not_false]
 exact fin (by rfl) rfl
theorem Ew (x : Vl) (hx : x.ok) (sk ix : Int) (t : Bs) (h : 0≤sk∧sk≤2) (hk : x.k≠sk+4) : PV Tryz.prog G0 44 [x.vv,lJ sk ix t] (.tup [Vl.zero.vv,.int .i64 3]):=by
 have hF:=Pn x hx sk ix t h hk
 refine pv e44 (by simp) (by simp [VV.ak,VV.isPure,Vl.vv,hx.pure]) rfl ?_
 have d1 : x.cells.length=11:=rfl
 have d2 : x.cells.all VV.aC=true:=hx.cell
 have d3 : x.cells.take 11=x.cells:=rfl
 simp only [go_sem,seval,c44,Vl.vv,d1,d2,d3]
 (first | refine ah (hF) ?_ | refine aK (hF) ?_ | refine aI (hF) ?_ | refine aj (hF) (by simp only [go_sem,seval,d1,d2,d3,Vl.vv,Vl.zero,Vl.cells]) ?_ | refine aj (hF) ?_ ?_)<;>simp only [go_sem,seval,d1,d2,d3,Vl.vv,Vl.zero,Vl.cells]
 exact fin (by rfl) rfl
theorem W9 {v : T} {x : Vl} (h : oL v x) (hx : x.ok) (t : Bs) (ht : t.length≤1000000000) :
  ∃ o R,(match v.atKey t with | some w=>∃ y,o=some y∧oL w y | none=>o=none)∧GR o R∧PV Tryz.prog G0 44 [x.vv,lJ 1 0 t] R:=by
 have no : ∀ hk : x.k≠1+4,GR none (.tup [Vl.zero.vv,.int .i64 3])∧PV Tryz.prog G0 44 [x.vv,lJ 1 0 t] (.tup [Vl.zero.vv,.int .i64 3]):=fun hk=>⟨⟨3,by decide,rfl⟩,Ew x hx 1 0 t (by decide) hk⟩
 cases h with
 | sc k i t' h hb hi=>exact ⟨none,_,rfl,no (by have:=AB h;simp only [JH];omega)⟩
 | vec items h ho root hR=>exact ⟨none,_,rfl,no (by simp)⟩
 | set items seed bits hr ps hi hp hM h ho hk=>exact ⟨none,_,rfl,no (by simp)⟩
 | map items seed bits hr ps hi hp hM h ho =>
  have hsl:=jF (items.map (·.2.2))
  have hil : items.length≤1000000:=by have:=hx.hm;simp at hsl this;omega
  have hpl : ps.length=items.length:=by simpa using hp.length_eq
  have hpo : ∀ p ∈ ps,p.2.ok:=fun p hpm=>by
   obtain ⟨q,hq,rfl⟩:=List.mem_map.1 (hp.mem_iff.1 hpm)
   exact (ho q hq).1
  have hG:=Vf _ hx ps hM hpo (by omega) 1 0 t (.inl rfl) rfl ht
  rw [QJ hM.nodup hp.symm,GN (fun q=>q.2) t items] at hG
  simp only [T.atKey,GN (fun q=>q.1) t items]
  cases hl : lk items t with
  | none =>
   rw [hl] at hG
   exact ⟨none,_,rfl,⟨5,by decide,rfl⟩,hG⟩
  | some q =>
   rw [hl] at hG
   have hq:=vM hl
   exact ⟨some q.2,_,⟨q.2,rfl,h _ hq⟩,⟨(ho _ hq).1,rfl⟩,hG⟩
theorem Xm {v : T} {x : Vl} (h : oL v x) (hx : x.ok) (j : Nat) (hj : j < v.len) :
  ∃ o R,(match v.OH j with | some w=>∃ y,o=some y∧oL w y | none=>o=none)∧GR o R∧PV Tryz.prog G0 44 [x.vv,lJ 0 j []] R:=by
 have no : ∀ hk : x.k≠0+4,GR none (.tup [Vl.zero.vv,.int .i64 3])∧PV Tryz.prog G0 44 [x.vv,lJ 0 j []] (.tup [Vl.zero.vv,.int .i64 3]):=fun hk=>⟨⟨3,by decide,rfl⟩,Ew x hx 0 j [] (by decide) hk⟩
 cases h with
 | sc k i t' h hb hi=>exact ⟨none,_,rfl,no (by have:=AB h;simp only [JH];omega)⟩
 | map items seed bits hr ps hi hp hM h ho=>exact ⟨none,_,rfl,no (by simp)⟩
 | set items seed bits hr ps hi hp hM h ho hk=>exact ⟨none,_,rfl,no (by simp)⟩
 | vec items h ho root hR =>
  have hsl:=jF (items.map (·.2))
  have hil : items.length≤1000000:=by have:=hx.hm;simp at hsl this;omega
  simp only [T.len,List.length_map] at hj
  have hm:=List.getElem_mem hj
  have hG:=Gt _ items[j].2 hx (ho _ hm) rfl rfl _ hR (by simpa using hil) j (by simpa using hj) (by simp)
  refine ⟨some items[j].2,_, ?_,⟨ho _ hm,rfl⟩,hG⟩
  simp only [T.OH,List.getElem?_map,List.getElem?_eq_getElem hj,Option.map_some]
  exact ⟨_,rfl,h _ hm⟩
end Go.V
