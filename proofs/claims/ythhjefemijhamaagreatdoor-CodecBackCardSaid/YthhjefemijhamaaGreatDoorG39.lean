/- Texts F74 L6 L7 F75 F76 L8. -/
import Derived.Test.YthhjefemijhamaaGreatDoorG38
set_option linter.unusedVariables false
set_option linter.unusedSimpArgs false
namespace Go.V
open Go.Proofs
set_option maxRecDepth 100000
theorem lk_items {items : List (Bs × (T × Vl))} {ps : List Pr2} (hn : KNodup ps) (hp : ps.Perm (items.map fun q=>(q.1,q.2.2))) {i : Nat} (hi : i < items.length) : lk ps items[i].1=some items[i].2.2 :=
 lk_some hn (hp.mem_iff.2 (List.mem_map.2 ⟨items[i],List.getElem_mem hi,rfl⟩))
theorem c_enc {v : T} {x : Vl} (h : RVl v x) : x.ok→EnC v.enc x:=by
 induction h with
 | sc k i t h hb hi=>exact fun _=>en_sc k i t h hb hi
 | vec items h ho root hR ih =>
  intro hx
  have hsl:=sumN_ge (items.map (·.2))
  have hil : items.length≤1000000:=by have:=hx.hm;simp at hsl this;omega
  have hlen : (items.map (·.2.cells)).length=items.length:=by simp
  obtain ⟨ps,hps⟩ : ∃ ps : List St,ps=(List.range items.length).map fun i : Nat=>(⟨0,(i : Int),[]⟩ : St):=⟨_,rfl⟩
  have hpl : ps.length=items.length:=by rw [hps];simp
  have hpi : ∀ i (hi : i < ps.length),ps[i]=⟨0,i,[]⟩:=fun i hi=>by subst hps;simp
  have hS:=x_vSteps _ hx (stArgs (items.map (·.2.cells))) ps (by omega)
   (fun i args hi ha=>by
    have hi' : i < items.length:=by omega
    unfold stArgs at ha
    refine ⟨items[i].2.cells,⟨by simp [Vl.cells],by simpa using (ho _ (List.getElem_mem hi')).pure,by simpa using (ho _ (List.getElem_mem hi')).cell⟩, ?_⟩
    rw [ha,hpi i hi]
    simp [List.getD_eq_getElem?_getD,hi',St.cells])
   (fun caps J D σ hC hJ=>by
    have:=v_vec_each 0 0 [] root (items.map (·.2.cells)) hR 0 0 0 .nilp rfl (maxD (items.map (·.2)) : Nat) (sumN (items.map (·.2)) : Nat) 118 k_bod_118 caps J D σ (by rw [hlen];exact hil) (by rw [hlen,← hpl];exact hC) hJ
    rw [hlen,← hpl] at this;exact this)
  have hw:=en_gen 4 91 93 (.inl ⟨rfl,rfl,rfl⟩) _ hx rfl ps (by omega) hS (fun i=>T.encs false ((items.map (·.1)).take i)) rfl
   (fun i hi=>by have h:=encs_take_le (items.map (·.1)) i;rw [hpl,List.take_of_length_le (l:=items.map (·.1)) (i:=items.length) (by simp)];exact h)
   (fun i hi=>by
    have hi' : i < items.length:=by omega
    have hm:=List.getElem_mem hi'
    refine ⟨by rw [hpi i hi];simp,by simp,items[i].2,items[i].1.enc, ?_,ho _ hm,ih _ hm (ho _ hm), ?_⟩
    ·have:=p_vGet_vec _ items[i].2 hx (ho _ hm) rfl rfl (items.map (·.2.cells)) hR (by omega) i (by simpa using hi') (by simp)
     rw [hpi i hi];exact this
    ·rw [encs_take (by simpa using hi')]
     simp)
  have e : (items.map (·.1)).take ps.length=items.map (·.1):=List.take_of_length_le (by simp;omega)
  simp only [e] at hw
  exact hw
 | map items seed bits hr ps hi hp hM h ho ih =>
  intro hx
  have hsl:=sumN_ge (items.map (·.2.2))
  have hil : items.length≤1000000:=by have:=hx.hm;simp at hsl this;omega
  have hsrt:=srt_items hi hp
  have hpl : ps.length=items.length:=by simpa using hp.length_eq
  have hpo : ∀ p ∈ ps,p.2.ok:=fun p hpm=>by
   obtain ⟨q,hq,rfl⟩:=List.mem_map.1 (hp.mem_iff.1 hpm)
   exact (ho q hq).1
  obtain ⟨qs,hqs⟩ : ∃ qs : List St,qs=items.map fun q=>(⟨1,0,q.1⟩ : St):=⟨_,rfl⟩
  have hql : qs.length=items.length:=by rw [hqs];simp
  have hqi : ∀ i (hi : i < qs.length),∃ h : i < items.length,qs[i]=⟨1,0,items[i].1⟩:=fun i hi=>⟨by omega,by subst hqs;simp⟩
  have hS:=x_vSteps _ hx (mkArgs 5 (srtK ps)) qs (by omega)
   (fun i args hi2 ha=>by
    obtain ⟨hi',hq⟩:=hqi i hi2
    have ha':=mkArgs_eq (k:=5) (qs:=srtK ps) (by rw [hsrt];simpa using hi') ha
    simp only [hsrt,List.getElem_map] at ha'
    refine ⟨items[i].2.2.cells,⟨by simp [Vl.cells],by simpa using (ho _ (List.getElem_mem hi')).1.pure,by simpa using (ho _ (List.getElem_mem hi')).1.cell⟩, ?_⟩
    rw [ha',hq];rfl)
   (fun caps J D σ hC hJ=>by
    obtain ⟨N,hN⟩ : ∃ N : Int,N=items.length:=⟨_,rfl⟩
    have:=v_map_each 5 (.inl rfl) 0 0 [] .nilp rfl seed bits N hr ps hM hpo (by omega) (maxD (items.map (·.2.2)) : Nat) (sumN (items.map (·.2.2)) : Nat) 118 k_bod_118 caps J D σ (by rw [hpl,← hql];exact hC) hJ
    rw [hpl,← hql] at this;rw [hN] at this;exact this)
  have hw:=en_gen 5 123 125 (.inr (.inl ⟨rfl,rfl,rfl⟩)) _ hx rfl qs (by omega) hS (fun i=>T.mencs false ((items.map fun q=>(q.1,q.2.1)).take i)) rfl
   (fun i _=>by have h:=mencs_take_le (items.map fun q=>(q.1,q.2.1)) i;rw [hql,List.take_of_length_le (l:=items.map fun q=>(q.1,q.2.1)) (i:=items.length) (by simp)];exact h)
   (fun i hi2=>by
    obtain ⟨hi',hq⟩:=hqi i hi2
    have hm:=List.getElem_mem hi'
    refine ⟨by rw [hq];simp,fun _=>by rw [hq];exact (ho _ hm).2,items[i].2.2,items[i].2.1.enc, ?_,(ho _ hm).1,ih _ hm (ho _ hm).1, ?_⟩
    ·have:=p_vGet _ hx ps hM hpo (by omega) 1 0 items[i].1 (.inl rfl) rfl (by have:=(ho _ hm).2;omega)
     rw [lk_items hM.nodup hp hi'] at this
     rw [hq];exact this
    ·rw [mencs_take (by simpa using hi'),hq]
     simp)
  have e : (items.map fun q=>(q.1,q.2.1)).take qs.length=items.map fun q=>(q.1,q.2.1):=List.take_of_length_le (by simp;omega)
  simp only [e] at hw
  exact hw
 | set items seed bits hr ps hi hp hM h ho hk ih =>
  intro hx
  have hsl:=sumN_ge (items.map (·.2.2))
  have hil : items.length≤1000000:=by have:=hx.hm;simp at hsl this;omega
  have hsrt:=srt_items hi hp
  have hpl : ps.length=items.length:=by simpa using hp.length_eq
  have hpo : ∀ p ∈ ps,p.2.ok:=fun p hpm=>by
   obtain ⟨q,hq,rfl⟩:=List.mem_map.1 (hp.mem_iff.1 hpm)
   exact (ho q hq).1
  obtain ⟨qs,hqs⟩ : ∃ qs : List St,qs=items.map fun q=>(⟨2,0,q.1⟩ : St):=⟨_,rfl⟩
  have hql : qs.length=items.length:=by rw [hqs];simp
  have hqi : ∀ i (hi : i < qs.length),∃ h : i < items.length,qs[i]=⟨2,0,items[i].1⟩:=fun i hi=>⟨by omega,by subst hqs;simp⟩
  have hS:=x_vSteps _ hx (mkArgs 6 (srtK ps)) qs (by omega)
   (fun i args hi2 ha=>by
    obtain ⟨hi',hq⟩:=hqi i hi2
    have ha':=mkArgs_eq (k:=6) (qs:=srtK ps) (by rw [hsrt];simpa using hi') ha
    simp only [hsrt,List.getElem_map] at ha'
    refine ⟨items[i].2.2.cells,⟨by simp [Vl.cells],by simpa using (ho _ (List.getElem_mem hi')).1.pure,by simpa using (ho _ (List.getElem_mem hi')).1.cell⟩, ?_⟩
    rw [ha',hq];rfl)
   (fun caps J D σ hC hJ=>by
    obtain ⟨N,hN⟩ : ∃ N : Int,N=items.length:=⟨_,rfl⟩
    have:=v_map_each 6 (.inr rfl) 0 0 [] .nilp rfl seed bits N hr ps hM hpo (by omega) (maxD (items.map (·.2.2)) : Nat) (sumN (items.map (·.2.2)) : Nat) 118 k_bod_118 caps J D σ (by rw [hpl,← hql];exact hC) hJ
    rw [hpl,← hql] at this;rw [hN] at this;exact this)
  have hw:=en_gen 6 60 62 (.inr (.inr ⟨rfl,rfl,rfl⟩)) _ hx rfl qs (by omega) hS (fun i=>T.encs false ((items.map fun q=>q.2.1).take i)) rfl
   (fun i _=>by have h:=encs_take_le (items.map fun q=>q.2.1) i;rw [hql,List.take_of_length_le (l:=items.map fun q=>q.2.1) (i:=items.length) (by simp)];exact h)
   (fun i hi2=>by
    obtain ⟨hi',hq⟩:=hqi i hi2
    have hm:=List.getElem_mem hi'
    refine ⟨by rw [hq];simp,(fun h=>absurd h (by decide)),items[i].2.2,items[i].2.1.enc, ?_,(ho _ hm).1,ih _ hm (ho _ hm).1, ?_⟩
    ·have:=p_vGet _ hx ps hM hpo (by omega) 2 0 items[i].1 (.inr rfl) rfl (ho _ hm).2
     rw [lk_items hM.nodup hp hi'] at this
     rw [hq];exact this
    ·rw [encs_take (by simpa using hi')]
     simp)
  have e : (items.map fun q=>q.2.1).take qs.length=items.map fun q=>q.2.1:=List.take_of_length_le (by simp;omega)
  simp only [e] at hw
  exact hw
theorem p_Encode {v : T} {x : Vl} (h : RVl v x) (hx : x.ok) (hl : v.enc.length≤1000000000) : PV Tryz.prog G0 17 [x.vv] (.str v.enc):=by
 refine pv e17 (by simp) (by simp [VV.arePure,VV.isPure,Vl.vv,hx.pure]) rfl ?_
 have d1 : x.cells.length=11:=rfl
 have d2 : x.cells.all VV.isCell=true:=hx.cell
 have d3 : x.cells.take 11=x.cells:=rfl
 simp only [go_sem,seval,c17,Vl.vv,d1,d2,d3]
 refine CV.mono (c_enc h hx .nils [] _ (.inl ⟨rfl,rfl⟩) (by simpa using hl)) ?_
 rintro _ σ' ⟨b',rfl,hB,_,_⟩
 rw [List.nil_append] at hB
 simp only [go_sem,seval,resK,hB.conv]
 exact fin (by rfl) rfl
end Go.V
namespace Go.V
theorem quoteB_len (c : UInt8) : (quoteB c).length≤6:=by
 unfold quoteB
 repeat' split
 all_goals simp
theorem quoteS_len (s : Bs) : (quoteS s).length≤6*s.length+2:=by
 have key : (s.flatMap quoteB).length≤6*s.length:=by
  induction s with
  | nil=>simp
  | cons c s ih=>have:=quoteB_len c;simp only [List.flatMap_cons,List.length_append,List.length_cons];omega
 unfold quoteS
 simp only [List.length_cons,List.length_append,List.length_nil]
 omega
theorem digs_len (i : Int) (h : -9223372036854775808≤i∧i≤9223372036854775807) : (digs i).length≤20:=by
 have:=natDigits_le i.natAbs 18 (by omega)
 unfold digs
 split
 ·simp;omega
 ·omega
theorem mencs_insK (t : Bs) (v : T) : ∀ (b : Bool) (acc : List (Bs × T)),(T.mencs b (insK t v acc)).length≤(T.mencs b acc).length+(quoteS t).length+v.enc.length+2
 | b,[]=>by simp [insK,T.mencs];split<;>simp<;>omega
 | b,(k',v')::acc=>by
  have ih:=mencs_insK t v true acc
  unfold insK
  split
  ·cases b<;>simp [T.mencs]<;>omega
  ·split
   ·rename_i h;subst h;cases b<;>simp [T.mencs]<;>omega
   ·cases b<;>simp [T.mencs]<;>omega
theorem encs_insK (t : Bs) (v : T) : ∀ (b : Bool) (acc : List (Bs × T)),(T.encs b ((insK t v acc).map (·.2))).length≤(T.encs b (acc.map (·.2))).length+v.enc.length+1
 | b,[]=>by simp [insK,T.encs];split<;>simp<;>omega
 | b,(k',v')::acc=>by
  have ih:=encs_insK t v true acc
  unfold insK
  split
  ·cases b<;>simp [T.encs]<;>omega
  ·split
   ·cases b<;>simp [T.encs]<;>omega
   ·cases b<;>simp [T.encs]<;>omega
theorem openM_enc (kd : Int) : (openM kd).fin.enc.length=2∧(openM kd).isVal=false:=by
 unfold openM
 repeat' split
 all_goals simp [Md.fin,T.enc,T.encs,T.mencs,Md.isVal]
theorem begin_enc {k x e : Nat} {i : Int} {t : Bs} {sk si kd : Int} {st : Bs} (h : beginP k i t=some (sk,si,st,kd)) (hi : -9223372036854775808≤i∧i≤9223372036854775807) (h4 : k=4→t.length+2≤e-x) (hl : t.length≤e-x) (hx : x < e) (h0 : kd=0) : (scEnc sk si st).length+1≤30*(e-x):=by
 unfold beginP at h
 split at h
 ·cases h;have:=digs_len i hi;simp [scEnc];omega
 ·split at h
  ·rename_i hk
   cases h
   have:=h4 hk
   have:=quoteS_len t
   simp only [scEnc]
   simp
   omega
  ·split at h
   ·repeat' split at h
    all_goals first | (cases h;omega) | cases h
   ·split at h
    ·repeat' split at h
     all_goals first | (cases h;simp [scEnc];omega) | cases h
    ·cases h
theorem rd_enc : ∀ (f : Nat) (s : Bs) (a : Int) (n q : Nat) (m : Md) (v : T) (e n' : Nat),rd f s a n q m=some (.ok v e n')→(v.enc.length : Int)+1≤(if m.isVal=true then 0 else (m.fin.enc.length : Int))+30*(e-a)
 | 0,_,_,_,_,_,_,_,_,h=>by simp [rd] at h
 | f+1,s,a,n,q,m,v,e,n',h=>by
  rw [rd] at h
  cases hm : m.isVal with
  | true =>
   rw [hm] at h
   simp only [if_true] at h ⊢
   cases hL : peekP s a with
   | err c p=>rw [hL] at h;cases h
   | tok k x e1 i t =>
    obtain ⟨b0,b1,b2,b3,b4,b5,b6⟩:=peekP_tok' hL
    rw [hL] at h
    simp only at h
    cases hB : beginP k i t with
    | none=>rw [hB] at h;cases h
    | some b =>
     obtain ⟨sk,si,st,kd⟩:=b
     rw [hB] at h
     simp only at h
     split at h
     ·cases h
     ·split at h
      ·cases h
      ·split at h
       ·rename_i hk
        cases h
        have:=begin_enc (x:=x) (e:=e) hB (peekP_int hL) b5 b6 b3 hk
        simp only [T.enc]
        omega
       ·obtain ⟨g1,g2⟩:=openM_enc kd
        cases hL2 : peekP s e1 with
        | err c p=>rw [hL2] at h;cases h
        | tok k2 x2 e2 i2 t2 =>
         obtain ⟨d0,d1,d2,d3,d4,d5,d6⟩:=peekP_tok' hL2
         rw [hL2] at h
         simp only at h
         split at h
         ·cases h
          rw [g1]
          omega
         ·have ih:=rd_enc f s e1 (n+1) q (openM kd) v e n' h
          rw [g2,g1] at ih
          simp at ih
          omega
  | false =>
   rw [hm] at h
   simp only [Bool.false_eq_true,if_false] at h ⊢
   cases hO : one (fun a n q=>rd f s a n q .val) s a n q m with
   | none=>rw [hO] at h;cases h
   | some r =>
    cases r with
    | er c p=>rw [hO] at h;cases h
    | ok m' e1 n1 =>
     rw [hO] at h
     simp only at h
     have hone : (m'.fin.enc.length : Int)≤m.fin.enc.length+30*(e1-a)∧m'.isVal=false:=by
      cases m with
      | val=>cases hm
      | vec acc =>
       simp only [one] at hO
       cases hR : rd f s a n (q+1) .val with
       | none=>rw [hR] at hO;cases hO
       | some R =>
        rw [hR] at hO
        cases R with
        | er c p=>cases hO
        | ok w e2 n2 =>
         cases hO
         have ih:=rd_enc f s a n (q+1) .val w e1 n1 hR
         simp only [Md.isVal,if_true] at ih
         simp only [Md.fin,T.enc,T.encs_append,T.encs,List.append_nil,List.length_cons,List.length_append,List.length_nil,Md.isVal,and_true]
         have hc : (if (false || !acc.isEmpty)=true then ([44] : Bs) else []).length≤1:=by split<;>simp
         omega
      | map acc =>
       simp only [one] at hO
       cases hL : peekP s a with
       | err c p=>rw [hL] at hO;cases hO
       | tok k x e2 i t =>
        obtain ⟨b0,b1,b2,b3,b4,b5,b6⟩:=peekP_tok' hL
        rw [hL] at hO
        simp only at hO
        split at hO
        ·cases hO
        ·split at hO
         ·cases hO
         ·rename_i hk4 _
          cases hL2 : peekP s e2 with
          | err c p=>rw [hL2] at hO;cases hO
          | tok k3 x3 e3 i3 t3 =>
           obtain ⟨d0,d1,d2,d3,d4,d5,d6⟩:=peekP_tok' hL2
           rw [hL2] at hO
           simp only at hO
           split at hO
           ·cases hR : rd f s e3 n (q+1) .val with
            | none=>rw [hR] at hO;cases hO
            | some R =>
             rw [hR] at hO
             cases R with
             | er c p=>cases hO
             | ok w e4 n4 =>
              cases hO
              have ih:=rd_enc f s e3 n (q+1) .val w e1 n1 hR
              simp only [Md.isVal,if_true] at ih
              have h1:=mencs_insK t w false acc
              have h2:=quoteS_len t
              have h3:=b5 (by simpa using hk4)
              simp only [Md.fin,T.enc,List.length_cons,List.length_append,List.length_nil,Md.isVal,and_true]
              omega
           ·cases hO
      | set acc =>
       simp only [one] at hO
       cases hL : peekP s a with
       | err c p=>rw [hL] at hO;cases hO
       | tok k x e2 i t =>
        rw [hL] at hO
        simp only at hO
        cases hR : rd f s a n (q+1) .val with
        | none=>rw [hR] at hO;cases hO
        | some R =>
         rw [hR] at hO
         cases R with
         | er c p=>cases hO
         | ok w e4 n4 =>
          simp only at hO
          split at hO
          ·cases hO
          ·cases hO
           have ih:=rd_enc f s a n (q+1) .val w e1 n1 hR
           simp only [Md.isVal,if_true] at ih
           have h1:=encs_insK w.key w false acc
           simp only [Md.fin,T.enc,List.length_cons,List.length_append,List.length_nil,Md.isVal,and_true]
           omega
     obtain ⟨hk,hv'⟩:=hone
     cases hL : peekP s e1 with
     | err c p=>rw [hL] at h;cases h
     | tok k x e2 i t =>
      obtain ⟨b0,b1,b2,b3,b4,b5,b6⟩:=peekP_tok' hL
      rw [hL] at h
      simp only at h
      split at h
      ·have ih:=rd_enc f s e2 n1 q m' v e n' h
       rw [hv'] at ih
       simp at ih
       omega
      ·split at h
       ·cases h
        omega
       ·cases h
end Go.V
namespace Go.V
theorem one_pos {rv : Int→Nat→Nat→Option Rs} {s : Bs} {a : Int} {n q : Nat} {m m' : Md} {e n' : Nat} (hv : ∀ a n q v e n',rv a n q=some (.ok v e n')→a < e∧e≤s.length) (h : one rv s a n q m=some (.ok m' e n')) : a < e∧e≤s.length∧m'.isVal=false:=by
 cases m with
 | val=>cases h
 | vec acc =>
  simp only [one] at h
  split at h
  ·cases h
  ·cases h
  ·rename_i h1;cases h;have:=hv _ _ _ _ _ _ h1;exact ⟨this.1,this.2,rfl⟩
 | map acc =>
  simp only [one] at h
  split at h
  ·cases h
  ·rename_i hL
   have b:=peekP_tok' hL
   split at h
   ·cases h
   ·split at h
    ·cases h
    ·split at h
     ·cases h
     ·rename_i hL2
      have d:=peekP_tok' hL2
      split at h
      ·split at h
       ·cases h
       ·cases h
       ·rename_i h1;cases h;have:=hv _ _ _ _ _ _ h1;exact ⟨by omega,this.2,rfl⟩
      ·cases h
 | set acc =>
  simp only [one] at h
  split at h
  ·cases h
  ·split at h
   ·cases h
   ·cases h
   ·rename_i h1
    split at h
    ·cases h
    ·cases h;have:=hv _ _ _ _ _ _ h1;exact ⟨this.1,this.2,rfl⟩
theorem rd_pos : ∀ (f : Nat) {s : Bs} {a : Int} {n q : Nat} {m : Md} {v : T} {e n' : Nat},rd f s a n q m=some (.ok v e n')→a < e∧e≤s.length
 | 0,s,a,n,q,m,v,e,n',h=>by simp [rd] at h
 | f+1,s,a,n,q,m,v,e,n',h=>by
  simp only [rd] at h
  split at h
  ·split at h
   ·cases h
   ·rename_i hL
    have b:=peekP_tok' hL
    split at h
    ·cases h
    ·split at h
     ·cases h
     ·split at h
      ·cases h
      ·split at h
       ·cases h;omega
       ·split at h
        ·cases h
        ·rename_i hL2
         have d:=peekP_tok' hL2
         split at h
         ·cases h;omega
         ·have:=rd_pos f h;omega
  ·split at h
   ·cases h
   ·cases h
   ·rename_i h1
    have:=one_pos (fun a n q v e n' h=>rd_pos f h) h1
    split at h
    ·cases h
    ·rename_i hL
     have b:=peekP_tok' hL
     split at h
     ·have:=rd_pos f h;omega
     ·split at h
      ·cases h;omega
      ·cases h
end Go.V
namespace Go.V
open Go.Proofs
set_option maxRecDepth 100000
theorem rdP_len {f : Nat} {s : Bs} {v : T} {n : Nat} (h : rdP f s=some (.ok v n)) : v.enc.length≤40000000:=by
 unfold rdP at h
 split at h
 ·cases h
 ·rename_i hl
  split at h
  ·cases h
  ·cases h
  ·rename_i w e n' hR
   have h1:=rd_enc f s 0 0 1 .val w e n' hR
   have h2:=rd_pos f hR
   simp only [Md.isVal,if_true] at h1
   split at h
   ·cases h
   ·split at h
    ·simp only [Option.some.injEq,Pr.ok.injEq] at h
     obtain ⟨rfl,rfl⟩:=h
     omega
    ·cases h
theorem rdP_err {f : Nat} {s : Bs} {c p : Nat} (h : rdP f s=some (.er c p)) : c≠0:=by
 unfold rdP at h
 split at h
 ·cases h;decide
 ·split at h
  ·cases h
  ·rename_i hR;cases h;exact rd_err f hR
  ·split at h
   ·rename_i hL;cases h;exact lexNext_err hL
   ·split at h
    ·cases h
    ·cases h;decide
theorem p_Canon (f : Nat) (s : Bs) (R : Pr) (hs : s.length≤10000000) (hrd : rdP f s=some R) : PV Tryz.prog G0 22 [.str s] (.bool (match R with | .ok v _=>v.enc == s | .er _ _=>false)):=by
 refine pv e22 (by simp) rfl rfl ?_
 simp only [go_sem,seval,c22]
 refine CV.mono (c_Parse f 0 64 s R _ hs hrd) ?_
 rintro r σ1 hQ
 cases R with
 | er c p =>
  obtain ⟨rfl,hC⟩:=hQ
  have hc:=rdP_err hrd
  obtain ⟨w,hw⟩:=faultV_ne (e:=c) p (by omega)
  rw [hw]
  have d1 : Vl.zero.cells.length=11:=rfl
  have d2 : Vl.zero.cells.all VV.isCell=true:=rfl
  have d3 : Vl.zero.cells.take 11=Vl.zero.cells:=rfl
  simp only [go_sem,seval,resK,Vl.vv,d1,d2,d3,SS]
  exact fin (by rfl) rfl
 | ok v n =>
  obtain ⟨x,hv,hxo,hxb,hxn,hn,rfl,hC⟩:=hQ
  have hE:=p_Encode hv hxo (by have:=rdP_len hrd;omega)
  simp only [Vl.vv] at hE
  have d1 : x.cells.length=11:=rfl
  have d2 : x.cells.all VV.isCell=true:=hxo.cell
  have d3 : x.cells.take 11=x.cells:=rfl
  simp only [go_sem,seval,resK,Vl.vv,d1,d2,d3,SS]
  refine callO_pure (hE) ?_<;>simp only [go_sem,seval]
  exact fin (by rfl) rfl
end Go.V
namespace Go.V
open Go.Proofs
set_option maxRecDepth 100000
def liveS1 : Bs:=[123,32,34,98,34,32,58,32,60,50,44,49,62,44,32,34,97,34,58,110,117,108,108,125]
def liveT1 : T:=.map [([97],.sc 0 0 []),([98],.set [.sc 2 1 [],.sc 2 2 []])]
theorem live_rd1 : rdP 60 liveS1=some (.ok liveT1 5):=by kernel_rfl
theorem live_rd2 : rdP 60 [91,49,44,44,93]=some (.er 2 3):=by kernel_rfl
theorem live_rd3 : rdP 60 [91,49,93]=some (.ok (.vec [.sc 2 1 []]) 2):=by kernel_rfl
theorem live_rd4 : rdP 60 [91,49,32,93]=some (.ok (.vec [.sc 2 1 []]) 2):=by kernel_rfl
theorem digs1 : digs 1=[49]:=by simp [digs,natDigits]
theorem digs2 : digs 2=[50]:=by simp [digs,natDigits]
theorem live_enc1 : liveT1.enc=[123,34,97,34,58,110,117,108,108,44,34,98,34,58,60,49,44,50,62,125]:=by
 simp only [liveT1,T.enc,T.encs,T.mencs,scEnc,quoteS,quoteB,digs1,digs2]
 decide
theorem live_enc3 : (T.vec [.sc 2 1 []]).enc=[91,49,93]:=by
 simp only [T.enc,T.encs,scEnc,digs1]
 decide
def T.kd : T→Int
 | .sc k _ _=>k
 | .vec _=>4
 | .map _=>5
 | .set _=>6
theorem RVl.kd {v : T} {x : Vl} (h : RVl v x) : x.k=v.kd:=by cases h<;>rfl
theorem p_live : PV Tryz.prog G0 13 [] (.bool true):=by
 refine pv e13 (by simp) rfl rfl ?_
 refine wpV_seq_cut (M:=fun ρ τ=>ρ.get 0=.bool false∧τ=[]) ?_ ?_
 ·simp only [go_sem,seval]
 rintro ρ _ ⟨q0,rfl⟩
 simp only [go_sem,seval]
 refine CV.mono (c_Parse 60 0 8 liveS1 _ _ (by decide) live_rd1) ?_
 rintro _ σ1 ⟨x,hv,hxo,hxb,hxn,hn,rfl,hC1⟩
 have hk : x.k=5:=hv.kd
 have hE:=p_Encode hv hxo (by rw [live_enc1];decide)
 rw [live_enc1] at hE
 have hK:=p_vKind x hxo
 rw [hk] at hK
 simp only [Vl.vv] at hE hK
 have d1 : x.cells.length=11:=rfl
 have d2 : x.cells.all VV.isCell=true:=hxo.cell
 have d3 : x.cells.take 11=x.cells:=rfl
 simp only [go_sem,seval,resK,Vl.vv,d1,d2,d3,SS]
 refine CV.mono (c_Parse 60 0 0 [91,49,44,44,93] _ _ (by decide) live_rd2) ?_
 rintro _ σ2 ⟨rfl,hC2⟩
 have hx2 : σ2[σ1.length]?=some (.own x.cells):=by rw [hC2.same _ (by simp) (by simp)];simp
 have hA:=p_At 2 3 3 2
 have hF : faultV ((2 : Nat) : Int) ((3 : Nat) : Int)=faultV 2 3:=rfl
 have z1 : Vl.zero.cells.length=11:=rfl
 have z2 : Vl.zero.cells.all VV.isCell=true:=rfl
 have z3 : Vl.zero.cells.take 11=Vl.zero.cells:=rfl
 have hx3 : ∀ τ,(σ2++τ)[σ1.length]?=some (.own x.cells):=fun τ=>by rw [List.getElem?_append_left (List.getElem?_eq_some_iff.1 hx2).1];exact hx2
 have hP3:=p_Canon 60 [91,49,93] _ (by decide) live_rd3
 have hP4:=p_Canon 60 [91,49,32,93] _ (by decide) live_rd4
 simp only [live_enc3] at hP3 hP4
 obtain ⟨w,hw⟩:=faultV_ne (e:=2) 3 (by omega)
 rw [hw] at hA
 simp only [go_sem,seval,resK,Vl.vv,hF,hw,z1,z2,z3,hx3,d1,d2,d3,SS]
 refine callO_pure (hK) ?_<;>simp only [go_sem,seval,hx3,d1,d2,d3]
 refine callO_pure (hE) ?_<;>simp only [go_sem,seval,hx3]
 refine callO_pure (hA) ?_<;>simp only [go_sem,seval]
 refine callO_pure (hP3) ?_<;>simp only [go_sem,seval]
 refine callO_pure (hP4) ?_<;>simp only [go_sem,seval]
 exact fin (by rfl) rfl
end Go.V
namespace Go.V
theorem drop_get {s : Bs} {p : Nat} {c : UInt8} {rest : Bs} (h : s.drop p=c::rest) : s[p]?=some c∧p < s.length∧s.drop (p+1)=rest∧s.length=p+rest.length+1:=by
 have h1:=congrArg List.length h
 simp only [List.length_drop,List.length_cons] at h1
 refine ⟨?_,by omega, ?_,by omega⟩
 ·have:=congrArg (·[0]?) h
  simpa using this
 ·rw [← List.drop_drop,h];rfl
theorem hasAt_pre {s : Bs} {p : Nat} {t x : Bs} (h : s.drop p=t) (hp : p≤s.length) : hasAt s p x=x.isPrefixOf t:=by
 have hl:=congrArg List.length h
 rw [List.length_drop] at hl
 unfold hasAt
 rw [h]
 by_cases hx : x.length≤t.length
 ·rw [decide_eq_true (by omega),Bool.true_and,Bool.eq_iff_iff,List.isPrefixOf_iff_prefix,List.prefix_iff_eq_take]
  simp only [beq_iff_eq]
  exact eq_comm
 ·rw [decide_eq_false (by omega),Bool.false_and]
  symm
  rw [Bool.eq_false_iff]
  intro h2
  exact hx (List.isPrefixOf_iff_prefix.1 h2).length_le
theorem signAt_pre {s : Bs} {p : Nat} {t : Bs} (h : s.drop p=t) (hp : p≤s.length) : signAt s p=signTexts.find? fun x=>x.isPrefixOf t:=by
 unfold signAt
 congr 1
 funext x
 exact hasAt_pre h hp
theorem lexNext_at {s : Bs} {p : Nat} {c : UInt8} {rest : Bs} (h : s.drop p=c::rest) (hb : blankB c=false) : lexNext s p=lexC s p c:=by
 obtain ⟨h1,h2,_,_⟩:=drop_get h
 unfold lexNext
 rw [if_neg (by omega),Int.toNat_natCast,runEnd_stop,lexAt,h1]
 intro hp
 rw [List.getElem?_eq_getElem hp] at h1
 rw [Option.some.inj h1];exact hb
theorem lexNext_end (s : Bs) : lexNext s s.length=.tok 0 s.length s.length 0 []:=by
 unfold lexNext
 rw [if_neg (by omega),Int.toNat_natCast,runEnd_stop (fun h=>absurd h (by omega)),lexAt,List.getElem?_eq_none (Nat.le_refl _)]
theorem tok_sign {s : Bs} {p : Nat} {c : UInt8} {rest : Bs} (x : Bs) (h : s.drop p=c::rest) (hb : blankB c=false) (h34 : c.toNat≠34) (hl : letB c=false) (hn : ¬ (c.toNat=45∨digB c=true)) (hx : (signTexts.find? fun x=>x.isPrefixOf (c::rest))=some x) : peekP s p=.tok 1 p (p+x.length) 0 x:=by
 have h2:=(drop_get h).2.1
 unfold peekP
 rw [lexNext_at h hb]
 unfold lexC
 rw [if_neg h34,hl,if_neg (by simp),if_neg hn,signAt_pre h (by omega),hx]
 rfl
theorem runEnd_one {f : UInt8→Bool} {s : Bs} {p : Nat} {rest : Bs} (h : s.drop p=rest) : runEnd f s p=p+(rest.takeWhile f).length:=by
 unfold runEnd;rw [h]
theorem tok_comma {s : Bs} {p : Nat} {rest : Bs} (h : s.drop p=44::rest) : peekP s p=.tok 1 p (p+1) 0 [44] :=
 tok_sign [44] h (by decide) (by decide) (by decide) (by decide) (by simp [signTexts,List.isPrefixOf])
theorem tok_open {s : Bs} {p : Nat} {rest : Bs} (h : s.drop p=91::rest) : peekP s p=.tok 1 p (p+1) 0 [91] :=
 tok_sign [91] h (by decide) (by decide) (by decide) (by decide) (by simp [signTexts,List.isPrefixOf])
theorem tok_close {s : Bs} {p : Nat} {rest : Bs} (h : s.drop p=93::rest) : peekP s p=.tok 1 p (p+1) 0 [93] :=
 tok_sign [93] h (by decide) (by decide) (by decide) (by decide) (by simp [signTexts,List.isPrefixOf])
end Go.V
