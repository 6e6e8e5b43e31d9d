/- Texts F74 L6 L7 F75 F76. -/
import Derived.Test.YthhjefemijhamaaGreatDoorG38
set_option linter.unusedVariables false
set_option linter.unusedSimpArgs false
namespace Go.V
open Go.Proofs
set_option maxRecDepth 100000
theorem Jy {items : List (Bs × (T × Vl))} {ps : List iP} (hn : jT ps) (hp : ps.Perm (items.map fun q=>(q.1,q.2.2))) {i : Nat} (hi : i < items.length) : lk ps items[i].1=some items[i].2.2 :=
 xJ hn (hp.mem_iff.2 (List.mem_map.2 ⟨items[i],List.getElem_mem hi,rfl⟩))
theorem aam {v : T} {x : Vl} (h : zD v x) : x.ok→EnC v.enc x:=by
 induction h with
 | sc k i t h hb hi=>exact fun _=>ZK k i t h hb hi
 | vec items h ho root hR ih =>
  intro hx
  have hsl:=jS (items.map (·.2))
  have hil : items.length≤1000000:=by have:=hx.hm;simp at hsl this;omega
  have hlen : (items.map (·.2.cells)).length=items.length:=by simp
  obtain ⟨ps,hps⟩ : ∃ ps : List St,ps=(List.range items.length).map fun i : Nat=>(⟨0,(i : Int),[]⟩ : St):=⟨_,rfl⟩
  have hpl : ps.length=items.length:=by rw [hps];simp
  have hpi : ∀ i (hi : i < ps.length),ps[i]=⟨0,i,[]⟩:=fun i hi=>by subst hps;simp
  have hS:=BD _ hx (qg (items.map (·.2.cells))) ps (by omega)
   (fun i args hi ha=>by
    have hi' : i < items.length:=by omega
    unfold qg at ha
    refine ⟨items[i].2.cells,⟨by simp [Vl.cells],by simpa using (ho _ (List.getElem_mem hi')).pure,by simpa using (ho _ (List.getElem_mem hi')).cell⟩, ?_⟩
    rw [ha,hpi i hi]
    simp [List.getD_eq_getElem?_getD,hi',St.cells])
   (fun caps J D σ hC hJ=>by
    have:=qL 0 0 [] root (items.map (·.2.cells)) hR 0 0 0 .nilp rfl (maxD (items.map (·.2)) : Nat) (eG (items.map (·.2)) : Nat) 118 tq caps J D σ (by rw [hlen];exact hil) (by rw [hlen,← hpl];exact hC) hJ
    rw [hlen,← hpl] at this;exact this)
  have hw:=LV 4 91 93 (.inl ⟨rfl,rfl,rfl⟩) _ hx rfl ps (by omega) hS (fun i=>T.encs false ((items.map (·.1)).take i)) rfl
   (fun i hi=>by have h:=nD (items.map (·.1)) i;rw [hpl,List.take_of_length_le (l:=items.map (·.1)) (i:=items.length) (by simp)];exact h)
   (fun i hi=>by
    have hi' : i < items.length:=by omega
    have hm:=List.getElem_mem hi'
    refine ⟨by rw [hpi i hi];simp,by simp,items[i].2,items[i].1.enc, ?_,ho _ hm,ih _ hm (ho _ hm), ?_⟩
    ·have:=J8 _ items[i].2 hx (ho _ hm) rfl rfl (items.map (·.2.cells)) hR (by omega) i (by simpa using hi') (by simp)
     rw [hpi i hi];exact this
    ·rw [uq (by simpa using hi')]
     simp)
  have e : (items.map (·.1)).take ps.length=items.map (·.1):=List.take_of_length_le (by simp;omega)
  simp only [e] at hw
  exact hw
 | map items seed bits hr ps hi hp hM h ho ih =>
  intro hx
  have hsl:=jS (items.map (·.2.2))
  have hil : items.length≤1000000:=by have:=hx.hm;simp at hsl this;omega
  have hsrt:=nG hi hp
  have hpl : ps.length=items.length:=by simpa using hp.length_eq
  have hpo : ∀ p ∈ ps,p.2.ok:=fun p hpm=>by
   obtain ⟨q,hq,rfl⟩:=List.mem_map.1 (hp.mem_iff.1 hpm)
   exact (ho q hq).1
  obtain ⟨qs,hqs⟩ : ∃ qs : List St,qs=items.map fun q=>(⟨1,0,q.1⟩ : St):=⟨_,rfl⟩
  have hql : qs.length=items.length:=by rw [hqs];simp
  have hqi : ∀ i (hi : i < qs.length),∃ h : i < items.length,qs[i]=⟨1,0,items[i].1⟩:=fun i hi=>⟨by omega,by subst hqs;simp⟩
  have hS:=BD _ hx (mkArgs 5 (kS ps)) qs (by omega)
   (fun i args hi2 ha=>by
    obtain ⟨hi',hq⟩:=hqi i hi2
    have ha':=kZ (k:=5) (qs:=kS ps) (by rw [hsrt];simpa using hi') ha
    simp only [hsrt,List.getElem_map] at ha'
    refine ⟨items[i].2.2.cells,⟨by simp [Vl.cells],by simpa using (ho _ (List.getElem_mem hi')).1.pure,by simpa using (ho _ (List.getElem_mem hi')).1.cell⟩, ?_⟩
    rw [ha',hq];rfl)
   (fun caps J D σ hC hJ=>by
    obtain ⟨N,hN⟩ : ∃ N : Int,N=items.length:=⟨_,rfl⟩
    have:=jX 5 (.inl rfl) 0 0 [] .nilp rfl seed bits N hr ps hM hpo (by omega) (maxD (items.map (·.2.2)) : Nat) (eG (items.map (·.2.2)) : Nat) 118 tq caps J D σ (by rw [hpl,← hql];exact hC) hJ
    rw [hpl,← hql] at this;rw [hN] at this;exact this)
  have hw:=LV 5 123 125 (.inr (.inl ⟨rfl,rfl,rfl⟩)) _ hx rfl qs (by omega) hS (fun i=>T.iQ false ((items.map fun q=>(q.1,q.2.1)).take i)) rfl
   (fun i _=>by have h:=uT (items.map fun q=>(q.1,q.2.1)) i;rw [hql,List.take_of_length_le (l:=items.map fun q=>(q.1,q.2.1)) (i:=items.length) (by simp)];exact h)
   (fun i hi2=>by
    obtain ⟨hi',hq⟩:=hqi i hi2
    have hm:=List.getElem_mem hi'
    refine ⟨by rw [hq];simp,fun _=>by rw [hq];exact (ho _ hm).2,items[i].2.2,items[i].2.1.enc, ?_,(ho _ hm).1,ih _ hm (ho _ hm).1, ?_⟩
    ·have:=GK _ hx ps hM hpo (by omega) 1 0 items[i].1 (.inl rfl) rfl (by have:=(ho _ hm).2;omega)
     rw [Jy hM.nodup hp hi'] at this
     rw [hq];exact this
    ·rw [Aq (by simpa using hi'),hq]
     simp)
  have e : (items.map fun q=>(q.1,q.2.1)).take qs.length=items.map fun q=>(q.1,q.2.1):=List.take_of_length_le (by simp;omega)
  simp only [e] at hw
  exact hw
 | set items seed bits hr ps hi hp hM h ho hk ih =>
  intro hx
  have hsl:=jS (items.map (·.2.2))
  have hil : items.length≤1000000:=by have:=hx.hm;simp at hsl this;omega
  have hsrt:=nG hi hp
  have hpl : ps.length=items.length:=by simpa using hp.length_eq
  have hpo : ∀ p ∈ ps,p.2.ok:=fun p hpm=>by
   obtain ⟨q,hq,rfl⟩:=List.mem_map.1 (hp.mem_iff.1 hpm)
   exact (ho q hq).1
  obtain ⟨qs,hqs⟩ : ∃ qs : List St,qs=items.map fun q=>(⟨2,0,q.1⟩ : St):=⟨_,rfl⟩
  have hql : qs.length=items.length:=by rw [hqs];simp
  have hqi : ∀ i (hi : i < qs.length),∃ h : i < items.length,qs[i]=⟨2,0,items[i].1⟩:=fun i hi=>⟨by omega,by subst hqs;simp⟩
  have hS:=BD _ hx (mkArgs 6 (kS ps)) qs (by omega)
   (fun i args hi2 ha=>by
    obtain ⟨hi',hq⟩:=hqi i hi2
    have ha':=kZ (k:=6) (qs:=kS ps) (by rw [hsrt];simpa using hi') ha
    simp only [hsrt,List.getElem_map] at ha'
    refine ⟨items[i].2.2.cells,⟨by simp [Vl.cells],by simpa using (ho _ (List.getElem_mem hi')).1.pure,by simpa using (ho _ (List.getElem_mem hi')).1.cell⟩, ?_⟩
    rw [ha',hq];rfl)
   (fun caps J D σ hC hJ=>by
    obtain ⟨N,hN⟩ : ∃ N : Int,N=items.length:=⟨_,rfl⟩
    have:=jX 6 (.inr rfl) 0 0 [] .nilp rfl seed bits N hr ps hM hpo (by omega) (maxD (items.map (·.2.2)) : Nat) (eG (items.map (·.2.2)) : Nat) 118 tq caps J D σ (by rw [hpl,← hql];exact hC) hJ
    rw [hpl,← hql] at this;rw [hN] at this;exact this)
  have hw:=LV 6 60 62 (.inr (.inr ⟨rfl,rfl,rfl⟩)) _ hx rfl qs (by omega) hS (fun i=>T.encs false ((items.map fun q=>q.2.1).take i)) rfl
   (fun i _=>by have h:=nD (items.map fun q=>q.2.1) i;rw [hql,List.take_of_length_le (l:=items.map fun q=>q.2.1) (i:=items.length) (by simp)];exact h)
   (fun i hi2=>by
    obtain ⟨hi',hq⟩:=hqi i hi2
    have hm:=List.getElem_mem hi'
    refine ⟨by rw [hq];simp,(fun h=>absurd h (by decide)),items[i].2.2,items[i].2.1.enc, ?_,(ho _ hm).1,ih _ hm (ho _ hm).1, ?_⟩
    ·have:=GK _ hx ps hM hpo (by omega) 2 0 items[i].1 (.inr rfl) rfl (ho _ hm).2
     rw [Jy hM.nodup hp hi'] at this
     rw [hq];exact this
    ·rw [uq (by simpa using hi')]
     simp)
  have e : (items.map fun q=>q.2.1).take qs.length=items.map fun q=>q.2.1:=List.take_of_length_le (by simp;omega)
  simp only [e] at hw
  exact hw
theorem JD {v : T} {x : Vl} (h : zD v x) (hx : x.ok) (hl : v.enc.length≤1000000000) : PV Tryz.prog G0 17 [x.vv] (.str v.enc):=by
 refine pv e17 (by simp) (by simp [VV.ak,VV.isPure,Vl.vv,hx.pure]) rfl ?_
 have d1 : x.cells.length=11:=rfl
 have d2 : x.cells.all VV.aF=true:=hx.cell
 have d3 : x.cells.take 11=x.cells:=rfl
 simp only [go_sem,seval,c17,Vl.vv,d1,d2,d3]
 refine CV.mono (aam h hx .nils [] _ (.inl ⟨rfl,rfl⟩) (by simpa using hl)) ?_
 rintro _ σ' ⟨b',rfl,hB,_,_⟩
 rw [List.nil_append] at hB
 simp only [go_sem,seval,aO,hB.conv]
 exact fin (by rfl) rfl
end Go.V
namespace Go.V
theorem Kq (c : UInt8) : (dH c).length≤6:=by
 unfold dH
 repeat' split
 all_goals simp
theorem qN (s : Bs) : (jW s).length≤6*s.length+2:=by
 have key : (s.flatMap dH).length≤6*s.length:=by
  induction s with
  | nil=>simp
  | cons c s ih=>have:=Kq c;simp only [List.flatMap_cons,List.length_append,List.length_cons];omega
 unfold jW
 simp only [List.length_cons,List.length_append,List.length_nil]
 omega
theorem II (i : Int) (h : -9223372036854775808≤i∧i≤9223372036854775807) : (uM i).length≤20:=by
 have:=mY i.natAbs 18 (by omega)
 unfold uM
 split
 ·simp;omega
 ·omega
theorem AY (t : Bs) (v : T) : ∀ (b : Bool) (acc : List (Bs × T)),(T.iQ b (bP t v acc)).length≤(T.iQ b acc).length+(jW t).length+v.enc.length+2
 | b,[]=>by simp [bP,T.iQ];split<;>simp<;>omega
 | b,(k',v')::acc=>by
  have ih:=AY t v true acc
  unfold bP
  split
  ·cases b<;>simp [T.iQ]<;>omega
  ·split
   ·rename_i h;subst h;cases b<;>simp [T.iQ]<;>omega
   ·cases b<;>simp [T.iQ]<;>omega
theorem Eu (t : Bs) (v : T) : ∀ (b : Bool) (acc : List (Bs × T)),(T.encs b ((bP t v acc).map (·.2))).length≤(T.encs b (acc.map (·.2))).length+v.enc.length+1
 | b,[]=>by simp [bP,T.encs];split<;>simp<;>omega
 | b,(k',v')::acc=>by
  have ih:=Eu t v true acc
  unfold bP
  split
  ·cases b<;>simp [T.encs]<;>omega
  ·split
   ·cases b<;>simp [T.encs]<;>omega
   ·cases b<;>simp [T.encs]<;>omega
theorem En (kd : Int) : (dZ kd).fin.enc.length=2∧(dZ kd).isVal=false:=by
 unfold dZ
 repeat' split
 all_goals simp [Md.fin,T.enc,T.encs,T.iQ,Md.isVal]
theorem Ph {k x e : Nat} {i : Int} {t : Bs} {sk si kd : Int} {st : Bs} (h : bI k i t=some (sk,si,st,kd)) (hi : -9223372036854775808≤i∧i≤9223372036854775807) (h4 : k=4→t.length+2≤e-x) (hl : t.length≤e-x) (hx : x < e) (h0 : kd=0) : (mG sk si st).length+1≤30*(e-x):=by
 unfold bI at h
 split at h
 ·cases h;have:=II i hi;simp [mG];omega
 ·split at h
  ·rename_i hk
   cases h
   have:=h4 hk
   have:=qN t
   simp only [mG]
   simp
   omega
  ·split at h
   ·repeat' split at h
    all_goals first | (cases h;omega) | cases h
   ·split at h
    ·repeat' split at h
     all_goals first | (cases h;simp [mG];omega) | cases h
    ·cases h
theorem vM : ∀ (f : Nat) (s : Bs) (a : Int) (n q : Nat) (m : Md) (v : T) (e n' : Nat),rd f s a n q m=some (.ok v e n')→(v.enc.length : Int)+1≤(if m.isVal=true then 0 else (m.fin.enc.length : Int))+30*(e-a)
 | 0,_,_,_,_,_,_,_,_,h=>by simp [rd] at h
 | f+1,s,a,n,q,m,v,e,n',h=>by
  rw [rd] at h
  cases hm : m.isVal with
  | true =>
   rw [hm] at h
   simp only [if_true] at h ⊢
   cases hL : aT s a with
   | err c p=>rw [hL] at h;cases h
   | tok k x e1 i t =>
    obtain ⟨b0,b1,b2,b3,b4,b5,b6⟩:=aW hL
    rw [hL] at h
    simp only at h
    cases hB : bI k i t with
    | none=>rw [hB] at h;cases h
    | some b =>
     obtain ⟨sk,si,st,kd⟩:=b
     rw [hB] at h
     simp only at h
     split at h
     ·cases h
     ·split at h
      ·cases h
      ·split at h
       ·rename_i hk
        cases h
        have:=Ph (x:=x) (e:=e) hB (tu hL) b5 b6 b3 hk
        simp only [T.enc]
        omega
       ·obtain ⟨g1,g2⟩:=En kd
        cases hL2 : aT s e1 with
        | err c p=>rw [hL2] at h;cases h
        | tok k2 x2 e2 i2 t2 =>
         obtain ⟨d0,d1,d2,d3,d4,d5,d6⟩:=aW hL2
         rw [hL2] at h
         simp only at h
         split at h
         ·cases h
          rw [g1]
          omega
         ·have ih:=vM f s e1 (n+1) q (dZ kd) v e n' h
          rw [g2,g1] at ih
          simp at ih
          omega
  | false =>
   rw [hm] at h
   simp only [Bool.false_eq_true,if_false] at h ⊢
   cases hO : one (fun a n q=>rd f s a n q .val) s a n q m with
   | none=>rw [hO] at h;cases h
   | some r =>
    cases r with
    | er c p=>rw [hO] at h;cases h
    | ok m' e1 n1 =>
     rw [hO] at h
     simp only at h
     have hone : (m'.fin.enc.length : Int)≤m.fin.enc.length+30*(e1-a)∧m'.isVal=false:=by
      cases m with
      | val=>cases hm
      | vec acc =>
       simp only [one] at hO
       cases hR : rd f s a n (q+1) .val with
       | none=>rw [hR] at hO;cases hO
       | some R =>
        rw [hR] at hO
        cases R with
        | er c p=>cases hO
        | ok w e2 n2 =>
         cases hO
         have ih:=vM f s a n (q+1) .val w e1 n1 hR
         simp only [Md.isVal,if_true] at ih
         simp only [Md.fin,T.enc,T.oq,T.encs,List.append_nil,List.length_cons,List.length_append,List.length_nil,Md.isVal,and_true]
         have hc : (if (false || !acc.isEmpty)=true then ([44] : Bs) else []).length≤1:=by split<;>simp
         omega
      | map acc =>
       simp only [one] at hO
       cases hL : aT s a with
       | err c p=>rw [hL] at hO;cases hO
       | tok k x e2 i t =>
        obtain ⟨b0,b1,b2,b3,b4,b5,b6⟩:=aW hL
        rw [hL] at hO
        simp only at hO
        split at hO
        ·cases hO
        ·split at hO
         ·cases hO
         ·rename_i hk4 _
          cases hL2 : aT s e2 with
          | err c p=>rw [hL2] at hO;cases hO
          | tok k3 x3 e3 i3 t3 =>
           obtain ⟨d0,d1,d2,d3,d4,d5,d6⟩:=aW hL2
           rw [hL2] at hO
           simp only at hO
           split at hO
           ·cases hR : rd f s e3 n (q+1) .val with
            | none=>rw [hR] at hO;cases hO
            | some R =>
             rw [hR] at hO
             cases R with
             | er c p=>cases hO
             | ok w e4 n4 =>
              cases hO
              have ih:=vM f s e3 n (q+1) .val w e1 n1 hR
              simp only [Md.isVal,if_true] at ih
              have h1:=AY t w false acc
              have h2:=qN t
              have h3:=b5 (by simpa using hk4)
              simp only [Md.fin,T.enc,List.length_cons,List.length_append,List.length_nil,Md.isVal,and_true]
              omega
           ·cases hO
      | set acc =>
       simp only [one] at hO
       cases hL : aT s a with
       | err c p=>rw [hL] at hO;cases hO
       | tok k x e2 i t =>
        rw [hL] at hO
        simp only at hO
        cases hR : rd f s a n (q+1) .val with
        | none=>rw [hR] at hO;cases hO
        | some R =>
         rw [hR] at hO
         cases R with
         | er c p=>cases hO
         | ok w e4 n4 =>
          simp only at hO
          split at hO
          ·cases hO
          ·cases hO
           have ih:=vM f s a n (q+1) .val w e1 n1 hR
           simp only [Md.isVal,if_true] at ih
           have h1:=Eu w.key w false acc
           simp only [Md.fin,T.enc,List.length_cons,List.length_append,List.length_nil,Md.isVal,and_true]
           omega
     obtain ⟨hk,hv'⟩:=hone
     cases hL : aT s e1 with
     | err c p=>rw [hL] at h;cases h
     | tok k x e2 i t =>
      obtain ⟨b0,b1,b2,b3,b4,b5,b6⟩:=aW hL
      rw [hL] at h
      simp only at h
      split at h
      ·have ih:=vM f s e2 n1 q m' v e n' h
       rw [hv'] at ih
       simp at ih
       omega
      ·split at h
       ·cases h
        omega
       ·cases h
end Go.V
namespace Go.V
theorem one_pos {rv : Int→Nat→Nat→Option Rs} {s : Bs} {a : Int} {n q : Nat} {m m' : Md} {e n' : Nat} (hv : ∀ a n q v e n',rv a n q=some (.ok v e n')→a < e∧e≤s.length) (h : one rv s a n q m=some (.ok m' e n')) : a < e∧e≤s.length∧m'.isVal=false:=by
 cases m with
 | val=>cases h
 | vec acc =>
  simp only [one] at h
  split at h
  ·cases h
  ·cases h
  ·rename_i h1;cases h;have:=hv _ _ _ _ _ _ h1;exact ⟨this.1,this.2,rfl⟩
 | map acc =>
  simp only [one] at h
  split at h
  ·cases h
  ·rename_i hL
   have b:=aW hL
   split at h
   ·cases h
   ·split at h
    ·cases h
    ·split at h
     ·cases h
     ·rename_i hL2
      have d:=aW hL2
      split at h
      ·split at h
       ·cases h
       ·cases h
       ·rename_i h1;cases h;have:=hv _ _ _ _ _ _ h1;exact ⟨by omega,this.2,rfl⟩
      ·cases h
 | set acc =>
  simp only [one] at h
  split at h
  ·cases h
  ·split at h
   ·cases h
   ·cases h
   ·rename_i h1
    split at h
    ·cases h
    ·cases h;have:=hv _ _ _ _ _ _ h1;exact ⟨this.1,this.2,rfl⟩
theorem sH : ∀ (f : Nat) {s : Bs} {a : Int} {n q : Nat} {m : Md} {v : T} {e n' : Nat},rd f s a n q m=some (.ok v e n')→a < e∧e≤s.length
 | 0,s,a,n,q,m,v,e,n',h=>by simp [rd] at h
 | f+1,s,a,n,q,m,v,e,n',h=>by
  simp only [rd] at h
  split at h
  ·split at h
   ·cases h
   ·rename_i hL
    have b:=aW hL
    split at h
    ·cases h
    ·split at h
     ·cases h
     ·split at h
      ·cases h
      ·split at h
       ·cases h;omega
       ·split at h
        ·cases h
        ·rename_i hL2
         have d:=aW hL2
         split at h
         ·cases h;omega
         ·have:=sH f h;omega
  ·split at h
   ·cases h
   ·cases h
   ·rename_i h1
    have:=one_pos (fun a n q v e n' h=>sH f h) h1
    split at h
    ·cases h
    ·rename_i hL
     have b:=aW hL
     split at h
     ·have:=sH f h;omega
     ·split at h
      ·cases h;omega
      ·cases h
theorem VH {rv : Int→Nat→Nat→Option Rs} {s : Bs} {a : Int} {n q : Nat} {m : Md} (hm : m.isVal=false) (hv : ∀ b n q,a≤b→∃ R,rv b n q=some R) : ∃ R,one rv s a n q m=some R:=by
 cases m with
 | val=>cases hm
 | vec acc =>
  simp only [one]
  obtain ⟨R,hR⟩:=hv a n (q+1) (Int.le_refl _)
  rw [hR]
  cases R<;>exact ⟨_,rfl⟩
 | map acc =>
  simp only [one]
  cases hL : aT s a with
  | err c p=>exact ⟨_,rfl⟩
  | tok k x e i t =>
   have b:=aW hL
   simp only
   split
   ·exact ⟨_,rfl⟩
   ·split
    ·exact ⟨_,rfl⟩
    ·cases hL2 : aT s e with
     | err c p=>exact ⟨_,rfl⟩
     | tok k2 x2 e2 i2 t2 =>
      have d:=aW hL2
      simp only
      split
      ·obtain ⟨R,hR⟩:=hv e2 n (q+1) (by omega)
       rw [hR]
       cases R<;>exact ⟨_,rfl⟩
      ·exact ⟨_,rfl⟩
 | set acc =>
  simp only [one]
  cases hL : aT s a with
  | err c p=>exact ⟨_,rfl⟩
  | tok k x e i t =>
   simp only
   obtain ⟨R,hR⟩:=hv a n (q+1) (Int.le_refl _)
   rw [hR]
   cases R with
   | er c p=>exact ⟨_,rfl⟩
   | ok v e n'=>simp only;split<;>exact ⟨_,rfl⟩
theorem BU : ∀ (f : Nat) (s : Bs) (a : Int) (n q : Nat) (m : Md),2*((s.length : Int)+1-a).toNat+(if m.isVal=true then 0 else 1) < f→∃ R,rd f s a n q m=some R
 | 0,s,a,n,q,m,h=>by omega
 | f+1,s,a,n,q,m,h=>by
  rw [rd]
  cases hm : m.isVal with
  | true =>
   rw [hm] at h
   simp only [if_true] at h ⊢
   cases hL : aT s a with
   | err c p=>exact ⟨_,rfl⟩
   | tok k x e i t =>
    have b:=aW hL
    simp only
    split
    ·exact ⟨_,rfl⟩
    ·split
     ·exact ⟨_,rfl⟩
     ·split
      ·exact ⟨_,rfl⟩
      ·split
       ·exact ⟨_,rfl⟩
       ·cases hL2 : aT s e with
        | err c p=>exact ⟨_,rfl⟩
        | tok k2 x2 e2 i2 t2 =>
         simp only
         split
         ·exact ⟨_,rfl⟩
         ·refine BU f s _ _ _ _ ?_
          have:=(En (kd:=by assumption)).2
          split<;>omega
  | false =>
   rw [hm] at h
   simp only [Bool.false_eq_true,if_false] at h ⊢
   obtain ⟨R,hR⟩:=VH (s:=s) (a:=a) (n:=n) (q:=q) (rv:=fun a n q=>rd f s a n q .val) hm (fun b n q hb=>BU f s b n q .val (by simp only [Md.isVal,if_true];omega))
   rw [hR]
   cases R with
   | er c p=>exact ⟨_,rfl⟩
   | ok m' e n' =>
    have b:=one_pos (fun a n q v e n' h=>sH f h) hR
    simp only
    cases hL : aT s e with
    | err c p=>exact ⟨_,rfl⟩
    | tok k x e2 i t =>
     have d:=aW hL
     simp only
     split
     ·exact BU f s _ _ _ _ (by split<;>omega)
     ·split<;>exact ⟨_,rfl⟩
end Go.V
namespace Go.V
open Go.Proofs
set_option maxRecDepth 100000
theorem UW {f : Nat} {s : Bs} {v : T} {n : Nat} (h : Ey f s=some (.ok v n)) : v.enc.length≤40000000:=by
 unfold Ey at h
 split at h
 ·cases h
 ·rename_i hl
  split at h
  ·cases h
  ·cases h
  ·rename_i w e n' hR
   have h1:=vM f s 0 0 1 .val w e n' hR
   have h2:=sH f hR
   simp only [Md.isVal,if_true] at h1
   split at h
   ·cases h
   ·split at h
    ·simp only [Option.some.injEq,Pr.ok.injEq] at h
     obtain ⟨rfl,rfl⟩:=h
     omega
    ·cases h
theorem VL {f : Nat} {s : Bs} {c p : Nat} (h : Ey f s=some (.er c p)) : c≠0:=by
 unfold Ey at h
 split at h
 ·cases h;decide
 ·split at h
  ·cases h
  ·rename_i hR;cases h;exact Cb f hR
  ·split at h
   ·rename_i hL;cases h;exact kK hL
   ·split at h
    ·cases h
    ·cases h;decide
theorem Vr (s : Bs) : ∃ f R,Ey f s=some R:=by
 obtain ⟨R,hR⟩:=BU (2*(s.length+1)+2) s 0 0 1 .val (by simp only [Md.isVal,if_true];omega)
 refine ⟨2*(s.length+1)+2, ?_⟩
 unfold Ey
 split
 ·exact ⟨_,rfl⟩
 ·rw [hR]
  cases R with
  | er c p=>exact ⟨_,rfl⟩
  | ok v e n =>
   simp only
   cases cZ s e with
   | err c p=>exact ⟨_,rfl⟩
   | tok k x e i t=>simp only;split<;>exact ⟨_,rfl⟩
theorem H7 : zD (.sc 0 0 []) Vl.zero:=.sc 0 0 [] (by decide) (by simp) (by decide)
theorem MZ : Vl.zero.ok:=Lc 0 0 []
theorem EX (f : Nat) (s : Bs) (R : Pr) (hs : s.length≤10000000) (hrd : Ey f s=some R) : PV Tryz.prog G0 22 [.str s] (.bool (match R with | .ok v _=>v.enc == s | .er _ _=>false)):=by
 refine pv e22 (by simp) rfl rfl ?_
 simp only [go_sem,seval,c22]
 refine CV.mono (FN f 0 64 s R _ hs hrd) ?_
 rintro r σ1 hQ
 cases R with
 | er c p =>
  obtain ⟨rfl,hC⟩:=hQ
  have hc:=VL hrd
  obtain ⟨w,hw⟩:=oW (e:=c) p (by omega)
  rw [hw]
  have d1 : Vl.zero.cells.length=11:=rfl
  have d2 : Vl.zero.cells.all VV.aF=true:=rfl
  have d3 : Vl.zero.cells.take 11=Vl.zero.cells:=rfl
  simp only [go_sem,seval,aO,Vl.vv,d1,d2,d3,SS]
  exact fin (by rfl) rfl
 | ok v n =>
  obtain ⟨x,hv,hxo,hxb,hxn,hn,rfl,hC⟩:=hQ
  have hE:=JD hv hxo (by have:=UW hrd;omega)
  simp only [Vl.vv] at hE
  have d1 : x.cells.length=11:=rfl
  have d2 : x.cells.all VV.aF=true:=hxo.cell
  have d3 : x.cells.take 11=x.cells:=rfl
  simp only [go_sem,seval,aO,Vl.vv,d1,d2,d3,SS]
  refine ah (hE) ?_<;>simp only [go_sem,seval]
  exact fin (by rfl) rfl
end Go.V
namespace Go.V
open Go.Proofs
set_option maxRecDepth 100000
def TK : Bs:=[123,32,34,98,34,32,58,32,60,50,44,49,62,44,32,34,97,34,58,110,117,108,108,125]
def JQ : T:=.map [([97],.sc 0 0 []),([98],.set [.sc 2 1 [],.sc 2 2 []])]
theorem QO : Ey 60 TK=some (.ok JQ 5):=by kernel_rfl
theorem SG : Ey 60 [91,49,44,44,93]=some (.er 2 3):=by kernel_rfl
theorem TW : Ey 60 [91,49,93]=some (.ok (.vec [.sc 2 1 []]) 2):=by kernel_rfl
theorem Qg : Ey 60 [91,49,32,93]=some (.ok (.vec [.sc 2 1 []]) 2):=by kernel_rfl
theorem XQ : uM 1=[49]:=by simp [uM,aZ]
theorem ZG : uM 2=[50]:=by simp [uM,aZ]
theorem ES : JQ.enc=[123,34,97,34,58,110,117,108,108,44,34,98,34,58,60,49,44,50,62,125]:=by
 simp only [JQ,T.enc,T.encs,T.iQ,mG,jW,dH,XQ,ZG]
 decide
theorem NQ : (T.vec [.sc 2 1 []]).enc=[91,49,93]:=by
 simp only [T.enc,T.encs,mG,XQ]
 decide
def T.kd : T→Int
 | .sc k _ _=>k
 | .vec _=>4
 | .map _=>5
 | .set _=>6
theorem zD.kd {v : T} {x : Vl} (h : zD v x) : x.k=v.kd:=by cases h<;>rfl
theorem Qh : PV Tryz.prog G0 13 [] (.bool true):=by
 refine pv e13 (by simp) rfl rfl ?_
 refine iD (M:=fun ρ τ=>ρ.get 0=.bool false∧τ=[]) ?_ ?_
 ·simp only [go_sem,seval]
 rintro ρ _ ⟨q0,rfl⟩
 simp only [go_sem,seval]
 refine CV.mono (FN 60 0 8 TK _ _ (by decide) QO) ?_
 rintro _ σ1 ⟨x,hv,hxo,hxb,hxn,hn,rfl,hC1⟩
 have hk : x.k=5:=hv.kd
 have hE:=JD hv hxo (by rw [ES];decide)
 rw [ES] at hE
 have hK:=FP x hxo
 rw [hk] at hK
 simp only [Vl.vv] at hE hK
 have d1 : x.cells.length=11:=rfl
 have d2 : x.cells.all VV.aF=true:=hxo.cell
 have d3 : x.cells.take 11=x.cells:=rfl
 simp only [go_sem,seval,aO,Vl.vv,d1,d2,d3,SS]
 refine CV.mono (FN 60 0 0 [91,49,44,44,93] _ _ (by decide) SG) ?_
 rintro _ σ2 ⟨rfl,hC2⟩
 have hx2 : σ2[σ1.length]?=some (.own x.cells):=by rw [hC2.same _ (by simp) (by simp)];simp
 have hA:=XZ 2 3 3 2
 have hF : dL ((2 : Nat) : Int) ((3 : Nat) : Int)=dL 2 3:=rfl
 have z1 : Vl.zero.cells.length=11:=rfl
 have z2 : Vl.zero.cells.all VV.aF=true:=rfl
 have z3 : Vl.zero.cells.take 11=Vl.zero.cells:=rfl
 have hx3 : ∀ τ,(σ2++τ)[σ1.length]?=some (.own x.cells):=fun τ=>by rw [List.getElem?_append_left (List.getElem?_eq_some_iff.1 hx2).1];exact hx2
 have hP3:=EX 60 [91,49,93] _ (by decide) TW
 have hP4:=EX 60 [91,49,32,93] _ (by decide) Qg
 simp only [NQ] at hP3 hP4
 obtain ⟨w,hw⟩:=oW (e:=2) 3 (by omega)
 rw [hw] at hA
 simp only [go_sem,seval,aO,Vl.vv,hF,hw,z1,z2,z3,hx3,d1,d2,d3,SS]
 refine ah (hK) ?_<;>simp only [go_sem,seval,hx3,d1,d2,d3]
 refine ah (hE) ?_<;>simp only [go_sem,seval,hx3]
 refine ah (hA) ?_<;>simp only [go_sem,seval]
 refine ah (hP3) ?_<;>simp only [go_sem,seval]
 refine ah (hP4) ?_<;>simp only [go_sem,seval]
 exact fin (by rfl) rfl
end Go.V
