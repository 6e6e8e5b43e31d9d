/- Texts L23 L24. -/
import Derived.Test.YtgmhpemjlbgfcaaGreatDoorG32
import Derived.Test.YtgmhpemjlbgfcaaGreatDoorG34
set_option linter.unusedVariables false
set_option linter.unusedSimpArgs false
namespace Go.V
inductive sK (L : Nat) : Tr→Prop
 | node {k i : Int} {t : Bs} {keys : List Bs} {items : List Tr} : t.length≤L→(∀ k ∈ keys,k.length≤L)→keys.length≤2*L+50→items.length≤2*L→(∀ x ∈ items,sK L x)→sK L (.node k i t keys items)
abbrev FY (x : Tr) : Prop:=sK 200 x
mutual
theorem AU : ∀ (x : Tr) (d : Nat) (left l' : Int),left≤400→x.small d left=(l',true)→FY x∧0≤l'∧l'+1≤left
 | .node k i t keys items,d,left,l',h4,h=>by
  unfold Tr.small at h
  split at h
  ·simp at h
  ·rename_i hc
   obtain ⟨h1,h2,h3⟩:=yD items (d+1) (left-1) l' (by omega) (by omega) h
   refine ⟨.node (by omega) (fun k hk=>?_) (by omega) (by omega) h1,h2,by omega⟩
   have h5 : ¬ keys.any (fun k=>decide (200 < k.length))=true:=fun h=>hc (by simp [h])
   rw [List.any_eq_true] at h5
   exact Nat.le_of_not_lt fun h6=>h5 ⟨k,hk,by simpa using h6⟩
theorem yD : ∀ (l : List Tr) (d : Nat) (left l' : Int),0≤left→left≤400→Tr.smalls l d left=(l',true)→(∀ x ∈ l,FY x)∧0≤l'∧l'+l.length≤left
 | [],d,left,l',h0,_,h=>by
  simp only [Tr.smalls,Prod.mk.injEq,and_true] at h
  subst h;simp;omega
 | x::l,d,left,l',h0,h4,h=>by
  unfold Tr.smalls at h
  split at h
  ·rename_i l1 e
   obtain ⟨a1,a2,a3⟩:=AU x d left l1 h4 e
   obtain ⟨b1,b2,b3⟩:=yD l d l1 l' a2 (by omega) h
   refine ⟨fun y hy=>?_,b2,by simp only [List.length_cons];omega⟩
   rcases List.mem_cons.1 hy with rfl | hy
   ·exact a1
   ·exact b1 y hy
  ·simp at h
end
inductive T.yc (L : Nat) : T→Prop
 | sc {k i : Int} {t : Bs} : t.length≤L→-9223372036854775808≤i∧i≤9223372036854775807→T.yc L (.sc k i t)
 | vec {l : List T} : (∀ x ∈ l,T.yc L x)→T.yc L (.vec l)
 | map {l : List (Bs × T)} : (∀ p ∈ l,p.1.length≤L)→(∀ p ∈ l,T.yc L p.2)→T.yc L (.map l)
 | set {l : List T} : (∀ x ∈ l,T.yc L x)→T.yc L (.set l)
abbrev T.Sm (v : T) : Prop:=T.yc 200 v
theorem vw (k i : Int) (t : Bs) : (lq k i t).length≤2*t.length+9:=by
 have:=ny t
 unfold lq
 repeat' split
 all_goals simp [oU]
 all_goals omega
theorem Ei (k i : Int) (t : Bs) (hi : -9223372036854775808≤i∧i≤9223372036854775807) : (O4 k i t).length≤6*t.length+20:=by
 have:=tJ t
 have:=Py i hi
 unfold O4
 repeat' split
 all_goals simp
 all_goals omega
mutual
theorem DC : ∀ v : T,v.Sm→v.key.length+500≤1000*v.nd∧v.enc.length+1500≤3000*v.nd
 | .sc k i t,.sc h hi=>by
  have h1:=vw k i t
  have h2:=Ei k i t hi
  simp only [T.key,T.enc,T.nd]
  omega
 | .vec l,.vec h=>by
  have h1:=keys_le l false h
  simp only [T.key,T.enc,T.nd,List.length_cons,List.length_append,List.length_nil]
  omega
 | .map l,.map h h'=>by
  have h1:=Ej l false fun p hp=>⟨h p hp,h' p hp⟩
  simp only [T.key,T.enc,T.nd,List.length_cons,List.length_append,List.length_nil]
  omega
 | .set l,.set h=>by
  have h1:=keys_le l false h
  simp only [T.key,T.enc,T.nd,List.length_cons,List.length_append,List.length_nil]
  omega
theorem keys_le : ∀ (l : List T) (b : Bool),(∀ x ∈ l,x.Sm)→(T.keys l).length≤1000*T.oQ l∧(T.encs b l).length≤3000*T.oQ l
 | [],b,_=>by simp [T.keys,T.encs]
 | x::l,b,h=>by
  have h1:=DC x (h x (by simp))
  have h2:=keys_le l true fun y hy=>h y (by simp [hy])
  simp only [T.keys,T.encs,T.oQ,List.length_append]
  have h3 : (if b=true then [(44 : UInt8)] else []).length≤1:=by split<;>simp
  omega
theorem Ej : ∀ (l : List (Bs × T)) (b : Bool),(∀ p ∈ l,p.1.length≤200∧p.2.Sm)→(T.jJ l).length≤1000*T.mP l∧(T.wU b l).length≤3000*T.mP l
 | [],b,_=>by simp [T.jJ,T.wU]
 | p::l,b,h=>by
  have h0:=h p (by simp)
  have h1:=DC p.2 h0.2
  have h2:=Ej l true fun y hy=>h y (by simp [hy])
  have h4:=vw 3 0 p.1
  have h5:=tJ p.1
  simp only [T.jJ,T.wU,T.mP,List.length_append,List.length_cons]
  have h3 : (if b=true then [(44 : UInt8)] else []).length≤1:=by split<;>simp
  omega
end
theorem zM : ∀ (ps acc : List (Bs × T)) (p : Bs × T),p ∈ ps.foldl (fun acc p=>cO p.1 p.2 acc) acc→p ∈ acc∨p ∈ ps
 | [],_,p,h=>.inl h
 | q::ps,acc,p,h=>by
  rcases zM ps _ p h with h | h
  ·rcases ng h with rfl | h
   ·exact .inr (by simp)
   ·exact .inl h
  ·exact .inr (by simp [h])
theorem KX {L : Nat} {k : Int} {keys : List Bs} {l : List T} {v : T} (hk : ∀ k ∈ keys,k.length≤L) (hl : ∀ x ∈ l,x.yc L) (h : jP k keys l=.ok v) : v.yc L:=by
 unfold jP at h
 split at h
 ·cases h;exact .vec hl
 ·split at h
  ·cases h
   have key : ∀ p ∈ insL (keys.zip l),p.1.length≤L∧p.2.yc L:=fun p hp=>by
    rcases zM _ _ p hp with h | h
    ·simp at h
    ·obtain ⟨a,b⟩:=List.of_mem_zip (show (p.1,p.2) ∈ keys.zip l from h);exact ⟨hk _ a,hl _ b⟩
   exact .map (fun p hp=>(key p hp).1) fun p hp=>(key p hp).2
  ·split at h
   ·cases h
   ·cases h
    refine .set fun x hx=>?_
    obtain ⟨p,hp,rfl⟩:=List.mem_map.1 hx
    rcases zM _ _ p hp with h | h
    ·simp at h
    ·obtain ⟨y,hy,rfl⟩:=List.mem_map.1 h;exact hl y hy
theorem x9 : ∀ {l : List T} {v : T},v ∈ l→v.nd≤T.oQ l
 | x::l,v,h=>by
  rcases List.mem_cons.1 h with rfl | h
  ·simp only [T.oQ];omega
  ·have:=x9 h;simp only [T.oQ];omega
mutual
theorem Tm {L : Nat} : ∀ (x : Tr) (q n n' : Nat) (v : T),jk x→sK L x→x.mk q n=(n',.ok v)→v.yc L
 | .node k i t keys items,q,n,n',v,.node i1 i2 hx,.node h1 h2 h3 h4 h5,h=>by
  unfold Tr.mk at h
  repeat' split at h
  all_goals first
   | (cases h;done)
   | (simp only [Prod.mk.injEq,Hz.ok.injEq] at h;obtain ⟨_,rfl⟩:=h;exact .sc h1 ⟨i1,i2⟩)
   | skip
  rename_i e
  simp only [Prod.mk.injEq] at h
  exact KX h2 (yZ items _ _ _ _ hx h5 e) h.2
theorem yZ {L : Nat} : ∀ (l : List Tr) (q n n' : Nat) (vs : List T),(∀ x ∈ l,jk x)→(∀ x ∈ l,sK L x)→Tr.sD l q n=(n',.inl vs)→∀ v ∈ vs,v.yc L
 | [],q,n,n',vs,_,_,h=>by
  simp only [Tr.sD,Prod.mk.injEq,Sum.inl.injEq] at h
  obtain ⟨_,rfl⟩:=h
  simp
 | x::l,q,n,n',vs,h1,h2,h=>by
  unfold Tr.sD at h
  repeat' split at h
  all_goals first
   | (cases h;done)
   | skip
  rename_i e1 _ _ _ e2
  simp only [Prod.mk.injEq,Sum.inl.injEq] at h
  obtain ⟨_,rfl⟩:=h
  intro v hv
  rcases List.mem_cons.1 hv with rfl | hv
  ·exact Tm x _ _ _ _ (h1 x (by simp)) (h2 x (by simp)) e1
  ·exact yZ l _ _ _ _ (fun y hy=>h1 y (by simp [hy])) (fun y hy=>h2 y (by simp [hy])) e2 v hv
end
mutual
theorem E8 : ∀ (x : Tr) (d : Nat) (left l' : Int) (q n n' : Nat) (r : Hz),0≤left→x.small d left=(l',true)→x.mk q n=(n',r)→(n' : Int)+l'≤n+left
 | .node k i t keys items,d,left,l',q,n,n',r,h0,hs,h=>by
  unfold Tr.small at hs
  split at hs
  ·simp at hs
  ·have h1:=rC items (d+1) (left-1) (by omega)
   rw [hs] at h1
   simp only at h1
   unfold Tr.mk at h
   split at h
   ·simp only [Prod.mk.injEq] at h;omega
   ·split at h
    ·simp only [Prod.mk.injEq] at h;omega
    ·split at h
     ·simp only [Prod.mk.injEq] at h;omega
     ·split at h
      ·simp only [Prod.mk.injEq] at h;omega
      ·obtain ⟨M,hM⟩ : ∃ M,M=Tr.sD items (q+1) (n+1):=⟨_,rfl⟩
       rw [← hM] at h
       obtain ⟨n1,R⟩:=M
       have h2:=Aj items (d+1) (left-1) l' (q+1) (n+1) n1 R (by omega) hs hM.symm
       cases R<;>(simp only [Prod.mk.injEq] at h;omega)
theorem Aj : ∀ (l : List Tr) (d : Nat) (left l' : Int) (q n n' : Nat) (r : List T ⊕ Int),0≤left→Tr.smalls l d left=(l',true)→Tr.sD l q n=(n',r)→(n' : Int)+l'≤n+left
 | [],d,left,l',q,n,n',r,h0,hs,h=>by
  simp only [Tr.smalls,Prod.mk.injEq,and_true] at hs
  simp only [Tr.sD,Prod.mk.injEq] at h
  omega
 | x::l,d,left,l',q,n,n',r,h0,hs,h=>by
  unfold Tr.smalls at hs
  split at hs
  ·rename_i l1 e
   have a1:=uq x d left h0
   rw [e] at a1
   simp only at a1
   have b1:=rC l d l1 a1.1
   rw [hs] at b1
   simp only at b1
   obtain ⟨M,hM⟩ : ∃ M,M=x.mk q n:=⟨_,rfl⟩
   unfold Tr.sD at h
   rw [← hM] at h
   obtain ⟨n1,R⟩:=M
   have h1:=E8 x d left l1 q n n1 R h0 e hM.symm
   cases R with
   | er e=>simp only [Prod.mk.injEq] at h;omega
   | ok v =>
    simp only at h
    obtain ⟨M2,hM2⟩ : ∃ M,M=Tr.sD l q n1:=⟨_,rfl⟩
    rw [← hM2] at h
    obtain ⟨n2,R2⟩:=M2
    have h2:=Aj l d l1 l' q n1 n2 R2 a1.1 hs hM2.symm
    cases R2<;>(simp only [Prod.mk.injEq] at h;omega)
  ·simp at hs
end
theorem Nq : ∀ (x : Tr) (q n n' : Nat) (e : Int),x.mk q n=(n',.er e)→e≠0:=by
 have key : ∀ (l : List Tr),(∀ x ∈ l,∀ (q n n' : Nat) (e : Int),x.mk q n=(n',.er e)→e≠0)→∀ (q n n' : Nat) (e : Int),Tr.sD l q n=(n',.inr e)→e≠0:=by
  intro l
  induction l with
  | nil=>intro _ q n n' e h;simp [Tr.sD] at h
  | cons x l ih =>
   intro hl q n n' e h
   unfold Tr.sD at h
   split at h
   ·rename_i e1
    simp only [Prod.mk.injEq,Sum.inr.injEq] at h
    obtain ⟨_,rfl⟩:=h
    exact hl x (by simp) _ _ _ _ e1
   ·split at h
    ·rename_i e2
     simp only [Prod.mk.injEq,Sum.inr.injEq] at h
     obtain ⟨_,rfl⟩:=h
     exact ih (fun y hy=>hl y (by simp [hy])) _ _ _ _ e2
    ·simp at h
 intro x
 induction x using Tr.rec (motive_2:=fun l=>∀ x ∈ l,∀ (q n n' : Nat) (e : Int),x.mk q n=(n',.er e)→e≠0) with
 | node k i t keys items ih =>
  intro q n n' e h
  unfold Tr.mk at h
  split at h
  ·simp only [Prod.mk.injEq,Hz.er.injEq] at h;omega
  ·split at h
   ·simp only [Prod.mk.injEq,Hz.er.injEq] at h;omega
   ·split at h
    ·rename_i ho
     simp only [Prod.mk.injEq,Hz.er.injEq] at h;rw [← h.2];exact ho
    ·split at h
     ·simp at h
     ·split at h
      ·rename_i e1
       simp only [Prod.mk.injEq,Hz.er.injEq] at h
       obtain ⟨_,rfl⟩:=h
       exact key items ih _ _ _ _ e1
      ·simp only [Prod.mk.injEq] at h
       obtain ⟨_,h⟩:=h
       unfold jP at h
       repeat' split at h
       all_goals first
        | (cases h;done)
        | (cases h;omega)
 | nil=>rename_i y hy q n n' e h;cases hy
 | cons x l hx hl =>
  rename_i y hy q n n' e h
  rcases List.mem_cons.1 hy with rfl | hy
  ·exact hx _ _ _ _ h
  ·exact hl y hy _ _ _ _ h
theorem sK.mono {L M : Nat} (hLM : L≤M) {x : Tr} (h : sK L x) : sK M x:=by
 induction h with
 | node a b c d _ ih=>exact .node (by omega) (fun k hk=>Nat.le_trans (b k hk) hLM) (by omega) (by omega) ih
theorem T.yc.mono {L M : Nat} (hLM : L≤M) {x : T} (h : T.yc L x) : T.yc M x:=by
 induction h with
 | sc a b=>exact .sc (by omega) b
 | vec _ ih=>exact .vec ih
 | map a _ ih=>exact .map (fun p hp=>Nat.le_trans (a p hp) hLM) ih
 | set _ ih=>exact .set ih
mutual
theorem Dt : ∀ v : T,v.yc 4000→v.key.length+8100≤16400*v.nd∧v.enc.length+24100≤48400*v.nd
 | .sc k i t,.sc h hi=>by
  have h1:=vw k i t
  have h2:=Ei k i t hi
  simp only [T.key,T.enc,T.nd]
  omega
 | .vec l,.vec h=>by
  have h1:=qh l false h
  simp only [T.key,T.enc,T.nd,List.length_cons,List.length_append,List.length_nil]
  omega
 | .map l,.map h h'=>by
  have h1:=wB l false fun p hp=>⟨h p hp,h' p hp⟩
  simp only [T.key,T.enc,T.nd,List.length_cons,List.length_append,List.length_nil]
  omega
 | .set l,.set h=>by
  have h1:=qh l false h
  simp only [T.key,T.enc,T.nd,List.length_cons,List.length_append,List.length_nil]
  omega
theorem qh : ∀ (l : List T) (b : Bool),(∀ x ∈ l,x.yc 4000)→(T.keys l).length≤16400*T.oQ l∧(T.encs b l).length≤48400*T.oQ l
 | [],b,_=>by simp [T.keys,T.encs]
 | x::l,b,h=>by
  have h1:=Dt x (h x (by simp))
  have h2:=qh l true fun y hy=>h y (by simp [hy])
  simp only [T.keys,T.encs,T.oQ,List.length_append]
  have h3 : (if b=true then [(44 : UInt8)] else []).length≤1:=by split<;>simp
  omega
theorem wB : ∀ (l : List (Bs × T)) (b : Bool),(∀ p ∈ l,p.1.length≤4000∧p.2.yc 4000)→(T.jJ l).length≤16400*T.mP l∧(T.wU b l).length≤48400*T.mP l
 | [],b,_=>by simp [T.jJ,T.wU]
 | p::l,b,h=>by
  have h0:=h p (by simp)
  have h1:=Dt p.2 h0.2
  have h2:=wB l true fun y hy=>h y (by simp [hy])
  have h4:=vw 3 0 p.1
  have h5:=tJ p.1
  simp only [T.jJ,T.wU,T.mP,List.length_append,List.length_cons]
  have h3 : (if b=true then [(44 : UInt8)] else []).length≤1:=by split<;>simp
  omega
end
end Go.V
namespace Go.V
def lG (items : List Tr) (q n j n' : Nat) (vs : List T) : Prop:=Tr.sD items q n=match Tr.sD (items.drop j) q n' with
 | (n'',.inr e)=>(n'',.inr e)
 | (n'',.inl ws)=>(n'',.inl (vs++ws))
theorem lG.zero {items : List Tr} {q n : Nat} : lG items q n 0 n []:=by
 unfold lG
 rw [List.drop_zero]
 generalize Tr.sD items q n=r
 rcases r with ⟨a,b | b⟩<;>rfl
theorem lG.ok {items : List Tr} {q n j n' n1 : Nat} {vs : List T} {v : T} (h : lG items q n j n' vs) (hj : j < items.length) (hv : items[j].mk q n'=(n1,.ok v)) : lG items q n (j+1) n1 (vs++[v]):=by
 unfold lG at h ⊢
 rw [h,List.drop_eq_getElem_cons hj,Tr.sD,hv]
 dsimp only
 generalize Tr.sD (items.drop (j+1)) q n1=r
 rcases r with ⟨a,b | b⟩<;>simp
theorem lG.er {items : List Tr} {q n j n' n1 : Nat} {vs : List T} {e : Int} (h : lG items q n j n' vs) (hj : j < items.length) (hv : items[j].mk q n'=(n1,.er e)) : Tr.sD items q n=(n1,.inr e):=by
 unfold lG at h
 rw [h,List.drop_eq_getElem_cons hj,Tr.sD,hv]
theorem lG.all {items : List Tr} {q n n' : Nat} {vs : List T} (h : lG items q n items.length n' vs) : Tr.sD items q n=(n',.inl vs):=by
 unfold lG at h
 rw [h,List.drop_length,Tr.sD];simp
theorem AL (x : Vl) (l : List Vl) : dw (x::l)=(x.more+1)+dw l:=Yy [x] l ▸ by simp [dw]
theorem I5 : ∀ (zs : List (T × Vl)),(∀ p ∈ zs,p.2.more+1=p.1.nd)→dw (zs.map (·.2))=T.oQ (zs.map (·.1))
 | [],_=>rfl
 | p::zs,h=>by
  have:=I5 zs fun q hq=>h q (by simp [hq])
  rw [List.map_cons,AL,this,h p (by simp)];rfl
theorem Jl : ∀ (li : List (Bs × (T × Vl))),(∀ q ∈ li,q.2.2.more+1=q.2.1.nd)→dw (li.map (·.2.2))=T.mP (li.map fun q=>(q.1,q.2.1))
 | [],_=>rfl
 | p::zs,h=>by
  have:=Jl zs fun q hq=>h q (by simp [hq])
  rw [List.map_cons,AL,this,h p (by simp)];rfl
def aY {α : Type} (ps : List (Bs × α)) : List (Bs × α):=ps.foldl (fun acc p=>cO p.1 p.2 acc) []
theorem Ag {α : Type} (ps : List (Bs × α)) (p : Bs × α) : aY (ps++[p])=cO p.1 p.2 (aY ps):=by simp [aY]
theorem wJ {α : Type} (ps : List (Bs × α)) : iJ (aY ps):=by
 unfold aY
 have key : ∀ (ps acc : List (Bs × α)),iJ acc→iJ (ps.foldl (fun acc p=>cO p.1 p.2 acc) acc):=by
  intro ps
  induction ps with
  | nil=>exact fun _ h=>h
  | cons p ps ih=>exact fun acc h=>ih _ (jQ h)
 exact key ps [] List.Pairwise.nil
theorem ni {α : Type} (ps : List (Bs × α)) (p : Bs × α) (h : p ∈ aY ps) : p ∈ ps:=by
 have key : ∀ (ps acc : List (Bs × α)),p ∈ ps.foldl (fun acc p=>cO p.1 p.2 acc) acc→p ∈ acc∨p ∈ ps:=by
  intro ps
  induction ps with
  | nil=>exact fun _ h=>.inl h
  | cons q ps ih =>
   intro acc h
   rcases ih _ h with h | h
   ·rcases ng h with rfl | h
    ·exact .inr (by simp)
    ·exact .inl h
   ·exact .inr (by simp [h])
 exact (key ps [] h).resolve_left (by simp)
theorem zu {α β : Type} (g : α→β) (ps : List (Bs × α)) : (aY ps).map (fun q=>(q.1,g q.2))=aY (ps.map fun q=>(q.1,g q.2)):=by
 have key : ∀ (ps acc : List (Bs × α)),(ps.foldl (fun acc p=>cO p.1 p.2 acc) acc).map (fun q=>(q.1,g q.2))=(ps.map fun q=>(q.1,g q.2)).foldl (fun acc p=>cO p.1 p.2 acc) (acc.map fun q=>(q.1,g q.2)):=by
  intro ps
  induction ps with
  | nil=>exact fun _=>rfl
  | cons q ps ih =>
   intro acc
   simp only [List.foldl_cons,List.map_cons]
   rw [ih,zA]
 exact key ps []
theorem JI (ps : List (Bs × T)) : insL ps=aY ps:=rfl
theorem uI {α : Type} (ps : List (Bs × α)) : (aY ps).length≤ps.length:=by
 have key : ∀ (ps acc : List (Bs × α)),(ps.foldl (fun acc p=>cO p.1 p.2 acc) acc).length≤acc.length+ps.length:=by
  intro ps
  induction ps with
  | nil=>exact fun _=>by simp
  | cons q ps ih =>
   intro acc
   have h1:=ih (cO q.1 q.2 acc)
   have h2 : (cO q.1 q.2 acc).length≤acc.length+1:=by
    rw [pG]
    have:=oW q.1 acc
    simp only [List.length_append,List.length_take,List.length_cons,List.length_drop]
    omega
   simp only [List.foldl_cons,List.length_cons]
   omega
 have:=key ps []
 simpa [aY] using this
theorem Nk {li : List (Bs × (T × Vl))} {ps qs : List iE} {k : Bs} {v : T} {x : Vl} (hr : iJ li) (hp : ps.Perm (li.map fun q=>(q.1,q.2.2))) (hq : qs.Perm (lH (k,x) ps)) : qs.Perm ((cO k (v,x) li).map fun q=>(q.1,q.2.2)):=by
 rw [zA (fun z : T × Vl=>z.2)]
 have hr' : iJ (li.map fun q=>(q.1,q.2.2)):=by
  unfold iJ at hr ⊢
  rw [List.pairwise_map];exact hr
 exact (hq.trans (kW hp)).trans (vZ (p:=(k,x)) hr').symm
theorem XF {α : Type} {i : Int} {t : Bs} {keys : List Bs} {zs : List (T × α)} (ho : fF 5 i t keys zs.length=0) : keys.length=zs.length∧(aY (keys.zip zs)).length=zs.length:=by
 unfold fF at ho
 rw [if_pos rfl] at ho
 split at ho
 ·omega
 rename_i hkl
 split at ho
 ·omega
 split at ho
 ·omega
 rename_i hdd
 have hkl : keys.length=zs.length:=by simpa using hkl
 refine ⟨hkl, ?_⟩
 have hd:=uT keys []
 obtain ⟨n1,_⟩:=qX keys [] (by unfold Eh at hdd;simp at hd ⊢;omega)
 obtain ⟨a,_⟩:=zf keys (zs.map (·.1)) (by simpa using hkl)
 have hf:=oG (keys.zip (zs.map (·.1))) [] (by rw [a];exact n1) (by simp)
 have e : (aY (keys.zip zs)).map (fun q=>(q.1,q.2.1))=(keys.zip (zs.map (·.1))).foldl (fun acc p=>cO p.1 p.2 acc) []:=by
  rw [zu (fun z : T × α=>z.1),List.zip_map_right];rfl
 have e2:=congrArg List.length e
 rw [List.length_map,hf] at e2
 simp at e2
 omega
theorem Xw {i : Int} {t : Bs} {keys : List Bs} {n : Nat} (ho : fF 5 i t keys n=0) : ¬ (Eh keys).length < keys.length:=by
 intro h
 unfold fF at ho
 rw [if_pos rfl] at ho
 split at ho
 ·omega
 split at ho
 ·omega
 omega
theorem NY {α : Type} {k i : Int} {t : Bs} {keys : List Bs} {zs : List (T × α)} (hk : k=5∨k=6) (ho : fF k i t keys zs.length=0) :
  ∃ prs : List (Bs × (T × α)),prs.length=zs.length∧(∀ (j : Nat) (h : j < prs.length) (h' : j < zs.length),prs[j].2=zs[j]∧(k=5→keys[j]?=some prs[j].1)∧(k=6→prs[j].1=zs[j].1.key))∧(k=5→keys.length=zs.length) ∧
   jP k keys (zs.map (·.1))=if (aY prs).length < zs.length then .er 6 else .ok (if k=5 then .map ((aY prs).map fun q=>(q.1,q.2.1)) else .set ((aY prs).map fun q=>q.2.1)):=by
 rcases hk with rfl | rfl
 ·obtain ⟨h1,h2⟩:=XF ho
  refine ⟨keys.zip zs,by simp;omega,fun j h h'=>⟨by simp,fun _=>by simp [show j < keys.length by omega],fun h=>by omega⟩,fun _=>h1, ?_⟩
  rw [if_neg (by omega),if_pos rfl]
  unfold jP
  rw [if_neg (by decide),if_pos rfl,JI,zu (fun z : T × α=>z.1),List.zip_map_right]
  rfl
 ·refine ⟨zs.map fun p=>(p.1.key,p),by simp,fun j h h'=>⟨by simp,fun h=>by omega,fun _=>by simp⟩,fun h=>by omega, ?_⟩
  have e : insL ((zs.map (·.1)).map fun v=>(v.key,v))=(aY (zs.map fun p=>(p.1.key,p))).map fun q=>(q.1,q.2.1):=by
   rw [zu (fun z : T × α=>z.1),List.map_map,List.map_map];rfl
  unfold jP
  rw [if_neg (by decide),if_neg (by decide),e]
  simp only [List.length_map,List.map_map]
  rfl
theorem xC {α : Type} (k : Bs) (x : α) (l : List (Bs × α)) : (cO k x l).length=l.length+(if hasK l k=true then 0 else 1):=by
 rw [pG]
 have h:=oW k l
 simp only [List.length_append,List.length_take,List.length_cons,List.length_drop]
 cases hb : hasK l k with
 | true =>
  obtain ⟨hj,_⟩:=rJ hb
  simp;omega
 | false=>simp;omega
theorem Gw {α : Type} {ps : List (Bs × α)} (h : (aY ps).length=ps.length) {j : Nat} (hj : j < ps.length) :
  (aY (ps.take j)).length=j∧aY (ps.take (j+1))=(aY (ps.take j)).take (rF (aY (ps.take j)) ps[j].1)++ps[j]::(aY (ps.take j)).drop (rF (aY (ps.take j)) ps[j].1):=by
 have step : ∀ i (hi : i < ps.length),aY (ps.take (i+1))=cO ps[i].1 ps[i].2 (aY (ps.take i)):=fun i hi=>by
  rw [List.take_succ_eq_append_getElem hi,Ag]
 have up : ∀ d i,i+d≤ps.length→(aY (ps.take (i+d))).length≤(aY (ps.take i)).length+d:=by
  intro d
  induction d with
  | zero=>intro i _;exact Nat.le_refl _
  | succ d ih =>
   intro i hi
   have h1:=ih i (by omega)
   have h2:=step (i+d) (by omega)
   rw [show i+(d+1)=i+d+1 by omega,h2,xC]
   split<;>omega
 have at_ : ∀ i,i≤ps.length→(aY (ps.take i)).length=i:=by
  intro i hi
  have h1:=up (ps.length-i) i (by omega)
  rw [show i+(ps.length-i)=ps.length by omega,List.take_length,h] at h1
  have h2:=uI (ps.take i)
  rw [List.length_take] at h2
  omega
 refine ⟨at_ j (by omega), ?_⟩
 have h1:=at_ (j+1) (by omega)
 have h2:=step j hj
 have h3:=xC ps[j].1 ps[j].2 (aY (ps.take j))
 rw [← h2,h1,at_ j (by omega)] at h3
 have h4 : ¬ hasK (aY (ps.take j)) ps[j].1=true:=by intro hb;rw [if_pos hb] at h3;omega
 rw [h2,pG,if_neg h4];rfl
theorem Dc : ∀ {l : List Tr} {q n n' : Nat} {vs : List T},Tr.sD l q n=(n',.inl vs)→vs.length=l.length∧∀ (j : Nat) (h : j < l.length) (h' : j < vs.length),∃ n1 n2,l[j].mk q n1=(n2,.ok vs[j])
 | [],q,n,n',vs,h=>by
  simp only [Tr.sD,Prod.mk.injEq,Sum.inl.injEq] at h
  obtain ⟨_,rfl⟩:=h
  exact ⟨rfl,fun j h=>absurd h (Nat.not_lt_zero _)⟩
 | x::l,q,n,n',vs,h=>by
  unfold Tr.sD at h
  split at h
  ·cases h
  ·rename_i n1 v e1
   split at h
   ·cases h
   ·rename_i n2 ws e2
    simp only [Prod.mk.injEq,Sum.inl.injEq] at h
    obtain ⟨rfl,rfl⟩:=h
    obtain ⟨h1,h2⟩:=Dc e2
    refine ⟨by simp [h1],fun j hj hj'=>?_⟩
    cases j with
    | zero=>exact ⟨_,_,e1⟩
    | succ j=>exact h2 j (by simpa using hj) (by simpa using hj')
end Go.V
