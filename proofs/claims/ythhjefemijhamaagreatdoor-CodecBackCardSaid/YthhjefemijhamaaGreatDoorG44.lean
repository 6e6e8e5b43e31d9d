/- Texts L23 L24. -/
import Derived.Test.YthhjefemijhamaaGreatDoorG36
import Derived.Test.YthhjefemijhamaaGreatDoorG39
import Derived.Test.YthhjefemijhamaaGreatDoorG43
set_option linter.unusedVariables false
set_option linter.unusedSimpArgs false
namespace Go.V
inductive TrS : Tr→Prop
 | node {k i : Int} {t : Bs} {keys : List Bs} {items : List Tr} : t.length≤200→(∀ k ∈ keys,k.length≤200)→keys.length≤450→items.length≤400→(∀ x ∈ items,TrS x)→TrS (.node k i t keys items)
mutual
theorem small_TrS : ∀ (x : Tr) (d : Nat) (left l' : Int),left≤400→x.small d left=(l',true)→TrS x∧0≤l'∧l'+1≤left
 | .node k i t keys items,d,left,l',h4,h=>by
  unfold Tr.small at h
  split at h
  ·simp at h
  ·rename_i hc
   obtain ⟨h1,h2,h3⟩:=smalls_TrS items (d+1) (left-1) l' (by omega) (by omega) h
   refine ⟨.node (by omega) (fun k hk=>?_) (by omega) (by omega) h1,h2,by omega⟩
   have h5 : ¬ keys.any (fun k=>decide (200 < k.length))=true:=fun h=>hc (by simp [h])
   rw [List.any_eq_true] at h5
   exact Nat.le_of_not_lt fun h6=>h5 ⟨k,hk,by simpa using h6⟩
theorem smalls_TrS : ∀ (l : List Tr) (d : Nat) (left l' : Int),0≤left→left≤400→Tr.smalls l d left=(l',true)→(∀ x ∈ l,TrS x)∧0≤l'∧l'+l.length≤left
 | [],d,left,l',h0,_,h=>by
  simp only [Tr.smalls,Prod.mk.injEq,and_true] at h
  subst h;simp;omega
 | x::l,d,left,l',h0,h4,h=>by
  unfold Tr.smalls at h
  split at h
  ·rename_i l1 e
   obtain ⟨a1,a2,a3⟩:=small_TrS x d left l1 h4 e
   obtain ⟨b1,b2,b3⟩:=smalls_TrS l d l1 l' a2 (by omega) h
   refine ⟨fun y hy=>?_,b2,by simp only [List.length_cons];omega⟩
   rcases List.mem_cons.1 hy with rfl | hy
   ·exact a1
   ·exact b1 y hy
  ·simp at h
end
inductive T.Sm : T→Prop
 | sc {k i : Int} {t : Bs} : t.length≤200→-9223372036854775808≤i∧i≤9223372036854775807→T.Sm (.sc k i t)
 | vec {l : List T} : (∀ x ∈ l,T.Sm x)→T.Sm (.vec l)
 | map {l : List (Bs × T)} : (∀ p ∈ l,p.1.length≤200)→(∀ p ∈ l,T.Sm p.2)→T.Sm (.map l)
 | set {l : List T} : (∀ x ∈ l,T.Sm x)→T.Sm (.set l)
theorem scKey_le (k i : Int) (t : Bs) : (scKey k i t).length≤2*t.length+9:=by
 have:=covB_len t
 unfold scKey
 repeat' split
 all_goals simp [numB_len]
 all_goals omega
theorem scEnc_le (k i : Int) (t : Bs) (hi : -9223372036854775808≤i∧i≤9223372036854775807) : (scEnc k i t).length≤6*t.length+20:=by
 have:=quoteS_len t
 have:=digs_len i hi
 unfold scEnc
 repeat' split
 all_goals simp
 all_goals omega
mutual
theorem key_le : ∀ v : T,v.Sm→v.key.length+500≤1000*v.nd∧v.enc.length+1500≤3000*v.nd
 | .sc k i t,.sc h hi=>by
  have h1:=scKey_le k i t
  have h2:=scEnc_le k i t hi
  simp only [T.key,T.enc,T.nd]
  omega
 | .vec l,.vec h=>by
  have h1:=keys_le l false h
  simp only [T.key,T.enc,T.nd,List.length_cons,List.length_append,List.length_nil]
  omega
 | .map l,.map h h'=>by
  have h1:=mkeys_le l false fun p hp=>⟨h p hp,h' p hp⟩
  simp only [T.key,T.enc,T.nd,List.length_cons,List.length_append,List.length_nil]
  omega
 | .set l,.set h=>by
  have h1:=keys_le l false h
  simp only [T.key,T.enc,T.nd,List.length_cons,List.length_append,List.length_nil]
  omega
theorem keys_le : ∀ (l : List T) (b : Bool),(∀ x ∈ l,x.Sm)→(T.keys l).length≤1000*T.nds l∧(T.encs b l).length≤3000*T.nds l
 | [],b,_=>by simp [T.keys,T.encs]
 | x::l,b,h=>by
  have h1:=key_le x (h x (by simp))
  have h2:=keys_le l true fun y hy=>h y (by simp [hy])
  simp only [T.keys,T.encs,T.nds,List.length_append]
  have h3 : (if b=true then [(44 : UInt8)] else []).length≤1:=by split<;>simp
  omega
theorem mkeys_le : ∀ (l : List (Bs × T)) (b : Bool),(∀ p ∈ l,p.1.length≤200∧p.2.Sm)→(T.mkeys l).length≤1000*T.ndm l∧(T.mencs b l).length≤3000*T.ndm l
 | [],b,_=>by simp [T.mkeys,T.mencs]
 | p::l,b,h=>by
  have h0:=h p (by simp)
  have h1:=key_le p.2 h0.2
  have h2:=mkeys_le l true fun y hy=>h y (by simp [hy])
  have h4:=scKey_le 3 0 p.1
  have h5:=quoteS_len p.1
  simp only [T.mkeys,T.mencs,T.ndm,List.length_append,List.length_cons]
  have h3 : (if b=true then [(44 : UInt8)] else []).length≤1:=by split<;>simp
  omega
end
theorem insF_mem : ∀ (ps acc : List (Bs × T)) (p : Bs × T),p ∈ ps.foldl (fun acc p=>insK p.1 p.2 acc) acc→p ∈ acc∨p ∈ ps
 | [],_,p,h=>.inl h
 | q::ps,acc,p,h=>by
  rcases insF_mem ps _ p h with h | h
  ·rcases insK_mem h with rfl | h
   ·exact .inr (by simp)
   ·exact .inl h
  ·exact .inr (by simp [h])
theorem partsR_sm {k : Int} {keys : List Bs} {l : List T} {v : T} (hk : ∀ k ∈ keys,k.length≤200) (hl : ∀ x ∈ l,x.Sm) (h : partsR k keys l=.ok v) : v.Sm:=by
 unfold partsR at h
 split at h
 ·cases h;exact .vec hl
 ·split at h
  ·cases h
   have key : ∀ p ∈ insL (keys.zip l),p.1.length≤200∧p.2.Sm:=fun p hp=>by
    rcases insF_mem _ _ p hp with h | h
    ·simp at h
    ·obtain ⟨a,b⟩:=List.of_mem_zip (show (p.1,p.2) ∈ keys.zip l from h);exact ⟨hk _ a,hl _ b⟩
   exact .map (fun p hp=>(key p hp).1) fun p hp=>(key p hp).2
  ·split at h
   ·cases h
   ·cases h
    refine .set fun x hx=>?_
    obtain ⟨p,hp,rfl⟩:=List.mem_map.1 hx
    rcases insF_mem _ _ p hp with h | h
    ·simp at h
    ·obtain ⟨y,hy,rfl⟩:=List.mem_map.1 h;exact hl y hy
theorem nds_mem : ∀ {l : List T} {v : T},v ∈ l→v.nd≤T.nds l
 | x::l,v,h=>by
  rcases List.mem_cons.1 h with rfl | h
  ·simp only [T.nds];omega
  ·have:=nds_mem h;simp only [T.nds];omega
mutual
theorem mk_sm : ∀ (x : Tr) (q n n' : Nat) (v : T),TrOK x→TrS x→x.mk q n=(n',.ok v)→v.Sm
 | .node k i t keys items,q,n,n',v,.node i1 i2 hx,.node h1 h2 h3 h4 h5,h=>by
  unfold Tr.mk at h
  repeat' split at h
  all_goals first
   | (cases h;done)
   | (simp only [Prod.mk.injEq,MkR.ok.injEq] at h;obtain ⟨_,rfl⟩:=h;exact .sc h1 ⟨i1,i2⟩)
   | skip
  rename_i e
  simp only [Prod.mk.injEq] at h
  exact partsR_sm h2 (mks_sm items _ _ _ _ hx h5 e) h.2
theorem mks_sm : ∀ (l : List Tr) (q n n' : Nat) (vs : List T),(∀ x ∈ l,TrOK x)→(∀ x ∈ l,TrS x)→Tr.mks l q n=(n',.inl vs)→∀ v ∈ vs,v.Sm
 | [],q,n,n',vs,_,_,h=>by
  simp only [Tr.mks,Prod.mk.injEq,Sum.inl.injEq] at h
  obtain ⟨_,rfl⟩:=h
  simp
 | x::l,q,n,n',vs,h1,h2,h=>by
  unfold Tr.mks at h
  repeat' split at h
  all_goals first
   | (cases h;done)
   | skip
  rename_i e1 _ _ _ e2
  simp only [Prod.mk.injEq,Sum.inl.injEq] at h
  obtain ⟨_,rfl⟩:=h
  intro v hv
  rcases List.mem_cons.1 hv with rfl | hv
  ·exact mk_sm x _ _ _ _ (h1 x (by simp)) (h2 x (by simp)) e1
  ·exact mks_sm l _ _ _ _ (fun y hy=>h1 y (by simp [hy])) (fun y hy=>h2 y (by simp [hy])) e2 v hv
end
mutual
theorem mk_small : ∀ (x : Tr) (d : Nat) (left l' : Int) (q n n' : Nat) (r : MkR),0≤left→x.small d left=(l',true)→x.mk q n=(n',r)→(n' : Int)+l'≤n+left
 | .node k i t keys items,d,left,l',q,n,n',r,h0,hs,h=>by
  unfold Tr.small at hs
  split at hs
  ·simp at hs
  ·have h1:=smalls_le items (d+1) (left-1) (by omega)
   rw [hs] at h1
   simp only at h1
   unfold Tr.mk at h
   split at h
   ·simp only [Prod.mk.injEq] at h;omega
   ·split at h
    ·simp only [Prod.mk.injEq] at h;omega
    ·split at h
     ·simp only [Prod.mk.injEq] at h;omega
     ·split at h
      ·simp only [Prod.mk.injEq] at h;omega
      ·obtain ⟨M,hM⟩ : ∃ M,M=Tr.mks items (q+1) (n+1):=⟨_,rfl⟩
       rw [← hM] at h
       obtain ⟨n1,R⟩:=M
       have h2:=mks_small items (d+1) (left-1) l' (q+1) (n+1) n1 R (by omega) hs hM.symm
       cases R<;>(simp only [Prod.mk.injEq] at h;omega)
theorem mks_small : ∀ (l : List Tr) (d : Nat) (left l' : Int) (q n n' : Nat) (r : List T ⊕ Int),0≤left→Tr.smalls l d left=(l',true)→Tr.mks l q n=(n',r)→(n' : Int)+l'≤n+left
 | [],d,left,l',q,n,n',r,h0,hs,h=>by
  simp only [Tr.smalls,Prod.mk.injEq,and_true] at hs
  simp only [Tr.mks,Prod.mk.injEq] at h
  omega
 | x::l,d,left,l',q,n,n',r,h0,hs,h=>by
  unfold Tr.smalls at hs
  split at hs
  ·rename_i l1 e
   have a1:=small_le x d left h0
   rw [e] at a1
   simp only at a1
   have b1:=smalls_le l d l1 a1.1
   rw [hs] at b1
   simp only at b1
   obtain ⟨M,hM⟩ : ∃ M,M=x.mk q n:=⟨_,rfl⟩
   unfold Tr.mks at h
   rw [← hM] at h
   obtain ⟨n1,R⟩:=M
   have h1:=mk_small x d left l1 q n n1 R h0 e hM.symm
   cases R with
   | er e=>simp only [Prod.mk.injEq] at h;omega
   | ok v =>
    simp only at h
    obtain ⟨M2,hM2⟩ : ∃ M,M=Tr.mks l q n1:=⟨_,rfl⟩
    rw [← hM2] at h
    obtain ⟨n2,R2⟩:=M2
    have h2:=mks_small l d l1 l' q n1 n2 R2 a1.1 hs hM2.symm
    cases R2<;>(simp only [Prod.mk.injEq] at h;omega)
  ·simp at hs
end
theorem mk_er : ∀ (x : Tr) (q n n' : Nat) (e : Int),x.mk q n=(n',.er e)→e≠0:=by
 have key : ∀ (l : List Tr),(∀ x ∈ l,∀ (q n n' : Nat) (e : Int),x.mk q n=(n',.er e)→e≠0)→∀ (q n n' : Nat) (e : Int),Tr.mks l q n=(n',.inr e)→e≠0:=by
  intro l
  induction l with
  | nil=>intro _ q n n' e h;simp [Tr.mks] at h
  | cons x l ih =>
   intro hl q n n' e h
   unfold Tr.mks at h
   split at h
   ·rename_i e1
    simp only [Prod.mk.injEq,Sum.inr.injEq] at h
    obtain ⟨_,rfl⟩:=h
    exact hl x (by simp) _ _ _ _ e1
   ·split at h
    ·rename_i e2
     simp only [Prod.mk.injEq,Sum.inr.injEq] at h
     obtain ⟨_,rfl⟩:=h
     exact ih (fun y hy=>hl y (by simp [hy])) _ _ _ _ e2
    ·simp at h
 intro x
 induction x using Tr.rec (motive_2:=fun l=>∀ x ∈ l,∀ (q n n' : Nat) (e : Int),x.mk q n=(n',.er e)→e≠0) with
 | node k i t keys items ih =>
  intro q n n' e h
  unfold Tr.mk at h
  split at h
  ·simp only [Prod.mk.injEq,MkR.er.injEq] at h;omega
  ·split at h
   ·simp only [Prod.mk.injEq,MkR.er.injEq] at h;omega
   ·split at h
    ·rename_i ho
     simp only [Prod.mk.injEq,MkR.er.injEq] at h;rw [← h.2];exact ho
    ·split at h
     ·simp at h
     ·split at h
      ·rename_i e1
       simp only [Prod.mk.injEq,MkR.er.injEq] at h
       obtain ⟨_,rfl⟩:=h
       exact key items ih _ _ _ _ e1
      ·simp only [Prod.mk.injEq] at h
       obtain ⟨_,h⟩:=h
       unfold partsR at h
       repeat' split at h
       all_goals first
        | (cases h;done)
        | (cases h;omega)
 | nil=>rename_i y hy q n n' e h;cases hy
 | cons x l hx hl =>
  rename_i y hy q n n' e h
  rcases List.mem_cons.1 hy with rfl | hy
  ·exact hx _ _ _ _ h
  ·exact hl y hy _ _ _ _ h
end Go.V
namespace Go.V
def MksAt (items : List Tr) (q n j n' : Nat) (vs : List T) : Prop:=Tr.mks items q n=match Tr.mks (items.drop j) q n' with
 | (n'',.inr e)=>(n'',.inr e)
 | (n'',.inl ws)=>(n'',.inl (vs++ws))
theorem MksAt.zero {items : List Tr} {q n : Nat} : MksAt items q n 0 n []:=by
 unfold MksAt
 rw [List.drop_zero]
 generalize Tr.mks items q n=r
 rcases r with ⟨a,b | b⟩<;>rfl
theorem MksAt.ok {items : List Tr} {q n j n' n1 : Nat} {vs : List T} {v : T} (h : MksAt items q n j n' vs) (hj : j < items.length) (hv : items[j].mk q n'=(n1,.ok v)) : MksAt items q n (j+1) n1 (vs++[v]):=by
 unfold MksAt at h ⊢
 rw [h,List.drop_eq_getElem_cons hj,Tr.mks,hv]
 dsimp only
 generalize Tr.mks (items.drop (j+1)) q n1=r
 rcases r with ⟨a,b | b⟩<;>simp
theorem MksAt.er {items : List Tr} {q n j n' n1 : Nat} {vs : List T} {e : Int} (h : MksAt items q n j n' vs) (hj : j < items.length) (hv : items[j].mk q n'=(n1,.er e)) : Tr.mks items q n=(n1,.inr e):=by
 unfold MksAt at h
 rw [h,List.drop_eq_getElem_cons hj,Tr.mks,hv]
theorem MksAt.all {items : List Tr} {q n n' : Nat} {vs : List T} (h : MksAt items q n items.length n' vs) : Tr.mks items q n=(n',.inl vs):=by
 unfold MksAt at h
 rw [h,List.drop_length,Tr.mks];simp
theorem sumN_cons (x : Vl) (l : List Vl) : sumN (x::l)=(x.more+1)+sumN l:=sumN_append [x] l ▸ by simp [sumN]
theorem sum_nds : ∀ (zs : List (T × Vl)),(∀ p ∈ zs,p.2.more+1=p.1.nd)→sumN (zs.map (·.2))=T.nds (zs.map (·.1))
 | [],_=>rfl
 | p::zs,h=>by
  have:=sum_nds zs fun q hq=>h q (by simp [hq])
  rw [List.map_cons,sumN_cons,this,h p (by simp)];rfl
theorem sum_ndm : ∀ (li : List (Bs × (T × Vl))),(∀ q ∈ li,q.2.2.more+1=q.2.1.nd)→sumN (li.map (·.2.2))=T.ndm (li.map fun q=>(q.1,q.2.1))
 | [],_=>rfl
 | p::zs,h=>by
  have:=sum_ndm zs fun q hq=>h q (by simp [hq])
  rw [List.map_cons,sumN_cons,this,h p (by simp)];rfl
def insG {α : Type} (ps : List (Bs × α)) : List (Bs × α):=ps.foldl (fun acc p=>insK p.1 p.2 acc) []
theorem insG_snoc {α : Type} (ps : List (Bs × α)) (p : Bs × α) : insG (ps++[p])=insK p.1 p.2 (insG ps):=by simp [insG]
theorem insG_rise {α : Type} (ps : List (Bs × α)) : Rise (insG ps):=by
 unfold insG
 have key : ∀ (ps acc : List (Bs × α)),Rise acc→Rise (ps.foldl (fun acc p=>insK p.1 p.2 acc) acc):=by
  intro ps
  induction ps with
  | nil=>exact fun _ h=>h
  | cons p ps ih=>exact fun acc h=>ih _ (insK_rise h)
 exact key ps [] List.Pairwise.nil
theorem insG_mem {α : Type} (ps : List (Bs × α)) (p : Bs × α) (h : p ∈ insG ps) : p ∈ ps:=by
 have key : ∀ (ps acc : List (Bs × α)),p ∈ ps.foldl (fun acc p=>insK p.1 p.2 acc) acc→p ∈ acc∨p ∈ ps:=by
  intro ps
  induction ps with
  | nil=>exact fun _ h=>.inl h
  | cons q ps ih =>
   intro acc h
   rcases ih _ h with h | h
   ·rcases insK_mem h with rfl | h
    ·exact .inr (by simp)
    ·exact .inl h
   ·exact .inr (by simp [h])
 exact (key ps [] h).resolve_left (by simp)
theorem insG_map {α β : Type} (g : α→β) (ps : List (Bs × α)) : (insG ps).map (fun q=>(q.1,g q.2))=insG (ps.map fun q=>(q.1,g q.2)):=by
 have key : ∀ (ps acc : List (Bs × α)),(ps.foldl (fun acc p=>insK p.1 p.2 acc) acc).map (fun q=>(q.1,g q.2))=(ps.map fun q=>(q.1,g q.2)).foldl (fun acc p=>insK p.1 p.2 acc) (acc.map fun q=>(q.1,g q.2)):=by
  intro ps
  induction ps with
  | nil=>exact fun _=>rfl
  | cons q ps ih =>
   intro acc
   simp only [List.foldl_cons,List.map_cons]
   rw [ih,insK_map]
 exact key ps []
theorem insL_insG (ps : List (Bs × T)) : insL ps=insG ps:=rfl
theorem insG_len {α : Type} (ps : List (Bs × α)) : (insG ps).length≤ps.length:=by
 have key : ∀ (ps acc : List (Bs × α)),(ps.foldl (fun acc p=>insK p.1 p.2 acc) acc).length≤acc.length+ps.length:=by
  intro ps
  induction ps with
  | nil=>exact fun _=>by simp
  | cons q ps ih =>
   intro acc
   have h1:=ih (insK q.1 q.2 acc)
   have h2 : (insK q.1 q.2 acc).length≤acc.length+1:=by
    rw [insK_ahd]
    have:=ahd_le q.1 acc
    simp only [List.length_append,List.length_take,List.length_cons,List.length_drop]
    omega
   simp only [List.foldl_cons,List.length_cons]
   omega
 have:=key ps []
 simpa [insG] using this
theorem ins_perm {li : List (Bs × (T × Vl))} {ps qs : List Pr2} {k : Bs} {v : T} {x : Vl} (hr : Rise li) (hp : ps.Perm (li.map fun q=>(q.1,q.2.2))) (hq : qs.Perm (putP (k,x) ps)) : qs.Perm ((insK k (v,x) li).map fun q=>(q.1,q.2.2)):=by
 rw [insK_map (fun z : T × Vl=>z.2)]
 have hr' : Rise (li.map fun q=>(q.1,q.2.2)):=by
  unfold Rise at hr ⊢
  rw [List.pairwise_map];exact hr
 exact (hq.trans (putP_perm hp)).trans (insK_putP (p:=(k,x)) hr').symm
theorem zip5 {α : Type} {i : Int} {t : Bs} {keys : List Bs} {zs : List (T × α)} (ho : ownV 5 i t keys zs.length=0) : keys.length=zs.length∧(insG (keys.zip zs)).length=zs.length:=by
 unfold ownV at ho
 rw [if_pos rfl] at ho
 split at ho
 ·omega
 rename_i hkl
 split at ho
 ·omega
 split at ho
 ·omega
 rename_i hdd
 have hkl : keys.length=zs.length:=by simpa using hkl
 refine ⟨hkl, ?_⟩
 have hd:=ddF_len keys []
 obtain ⟨n1,_⟩:=ddF_nodup keys [] (by unfold ddK at hdd;simp at hd ⊢;omega)
 obtain ⟨a,_⟩:=zip_keys keys (zs.map (·.1)) (by simpa using hkl)
 have hf:=insF_fresh (keys.zip (zs.map (·.1))) [] (by rw [a];exact n1) (by simp)
 have e : (insG (keys.zip zs)).map (fun q=>(q.1,q.2.1))=(keys.zip (zs.map (·.1))).foldl (fun acc p=>insK p.1 p.2 acc) []:=by
  rw [insG_map (fun z : T × α=>z.1),List.zip_map_right];rfl
 have e2:=congrArg List.length e
 rw [List.length_map,hf] at e2
 simp at e2
 omega
theorem own5 {i : Int} {t : Bs} {keys : List Bs} {n : Nat} (ho : ownV 5 i t keys n=0) : ¬ (ddK keys).length < keys.length:=by
 intro h
 unfold ownV at ho
 rw [if_pos rfl] at ho
 split at ho
 ·omega
 split at ho
 ·omega
 omega
theorem prs_of {α : Type} {k i : Int} {t : Bs} {keys : List Bs} {zs : List (T × α)} (hk : k=5∨k=6) (ho : ownV k i t keys zs.length=0) :
  ∃ prs : List (Bs × (T × α)),prs.length=zs.length∧(∀ (j : Nat) (h : j < prs.length) (h' : j < zs.length),prs[j].2=zs[j]∧(k=5→keys[j]?=some prs[j].1)∧(k=6→prs[j].1=zs[j].1.key))∧(k=5→keys.length=zs.length) ∧
   partsR k keys (zs.map (·.1))=if (insG prs).length < zs.length then .er 6 else .ok (if k=5 then .map ((insG prs).map fun q=>(q.1,q.2.1)) else .set ((insG prs).map fun q=>q.2.1)):=by
 rcases hk with rfl | rfl
 ·obtain ⟨h1,h2⟩:=zip5 ho
  refine ⟨keys.zip zs,by simp;omega,fun j h h'=>⟨by simp,fun _=>by simp [show j < keys.length by omega],fun h=>by omega⟩,fun _=>h1, ?_⟩
  rw [if_neg (by omega),if_pos rfl]
  unfold partsR
  rw [if_neg (by decide),if_pos rfl,insL_insG,insG_map (fun z : T × α=>z.1),List.zip_map_right]
  rfl
 ·refine ⟨zs.map fun p=>(p.1.key,p),by simp,fun j h h'=>⟨by simp,fun h=>by omega,fun _=>by simp⟩,fun h=>by omega, ?_⟩
  have e : insL ((zs.map (·.1)).map fun v=>(v.key,v))=(insG (zs.map fun p=>(p.1.key,p))).map fun q=>(q.1,q.2.1):=by
   rw [insG_map (fun z : T × α=>z.1),List.map_map,List.map_map];rfl
  unfold partsR
  rw [if_neg (by decide),if_neg (by decide),e]
  simp only [List.length_map,List.map_map]
  rfl
end Go.V
