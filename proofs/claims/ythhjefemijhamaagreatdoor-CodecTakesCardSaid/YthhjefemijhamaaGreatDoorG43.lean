/- Texts L15 L16 F80 F83 F84 L21 L22 L23 L24 L25 F90. -/
import Derived.Test.YthhjefemijhamaaGreatDoorG28
import Derived.Test.YthhjefemijhamaaGreatDoorG36
import Derived.Test.YthhjefemijhamaaGreatDoorG39
import Derived.Test.YthhjefemijhamaaGreatDoorG42
set_option linter.unusedVariables false
set_option linter.unusedSimpArgs false
namespace Go.V
structure Tk where
 k : Nat
 a : Nat
 e : Nat
 i : Int
 t : Bs
def Tk.of (y : Tk) : Nat × Int × Bs:=(y.k,y.i,y.t)
inductive TL (s : Bs) : Int→List (Nat × Int × Bs)→Prop
 | nil {a : Int} {x e : Nat} {i : Int} {t : Bs} : cZ s a=.tok 0 x e i t→TL s a []
 | cons {a : Int} {k x e : Nat} {i : Int} {t : Bs} {l : List (Nat × Int × Bs)} : cZ s a=.tok k x e i t→k≠0→TL s e l→TL s a ((k,i,t)::l)
end Go.V
namespace Go.V
def Tk.ok (y : Tk) : Prop:=(y.k=1∧y.i=0∧y.t ∈ aX)∨(y.k=2∧y.i=0∧∃ c w,y.t=c::w∧qP c=true∧w.all iR=true)∨(y.k=3∧y.t=[]∧-9223372036854775808≤y.i∧y.i≤9223372036854775807)∨(y.k=4∧y.i=0)
end Go.V
namespace Go.V
open Go.Proofs
set_option maxRecDepth 100000
def Tk.cells (y : Tk) : List VV:=[.int .i64 y.k,.int .i64 y.a,.int .i64 y.e,.int .i64 y.i,.str y.t]
theorem Tk.blks (l : List Tk) : dS 5 (l.map Tk.cells):=by
 refine ⟨fun x hx=>?_,fun x hx=>?_,fun x hx=>?_⟩<;>obtain ⟨p,hp,rfl⟩:=List.mem_map.1 hx
 ·rfl
 ·rfl
 ·rfl
end Go.V
namespace Go.V
open Go.Proofs
set_option maxRecDepth 100000
inductive Tr where
 | node (k i : Int) (t : Bs) (keys : List Bs) (items : List Tr)
mutual
inductive rJ : Tr→List VV→Prop
 | node {k i : Int} {t : Bs} {keys : List Bs} {items : List Tr} {kv iv : VV} {cs : List (List VV)} : fH 1 kv (keys.map fun b=>[VV.str b])→jq items cs→fH 5 iv cs→keys.length≤9223372036854775807→items.length≤9223372036854775807 →
   -9223372036854775808≤k→k≤9223372036854775807→-9223372036854775808≤i→i≤9223372036854775807→rJ (.node k i t keys items) [.int .i64 k,.int .i64 i,.str t,kv,iv]
inductive jq : List Tr→List (List VV)→Prop
 | nil : jq [] []
 | cons {x : Tr} {c : List VV} {l : List Tr} {cs : List (List VV)} : rJ x c→jq l cs→jq (x::l) (c::cs)
end
theorem jq.len : ∀ {l : List Tr} {cs : List (List VV)},jq l cs→cs.length=l.length
 | [],_,.nil=>rfl
 | x::l,_,.cons _ h=>by simp [jq.len h]
theorem jq.get : ∀ {l : List Tr} {cs : List (List VV)},jq l cs→∀ (j : Nat) (h : j < l.length) (h' : j < cs.length),rJ l[j] cs[j]
 | x::l,_,.cons h1 h2,0,_,_=>h1
 | x::l,_,.cons h1 h2,j+1,h,h'=>jq.get h2 j (by simpa using h) (by simpa using h')
theorem rJ.cells {x : Tr} {c : List VV} (h : rJ x c) : c.length=5∧VV.ak c=true∧c.all VV.aF=true:=by
 cases h with
 | node h1 h2 h3 =>
  refine ⟨rfl, ?_, ?_⟩
  ·simp only [VV.ak,VV.isPure,h1.pure,h3.pure];rfl
  ·simp only [List.all_cons,List.all_nil,h1.cell,h3.cell];rfl
end Go.V
namespace Go.V
open Go.Proofs
set_option maxRecDepth 100000
def uJ (l : List Bs) (k : Bs) : List Bs:=if k ∈ l then l else l++[k]
def Yd (ks : List Bs) : List Bs:=ks.foldl uJ []
def wo (k i : Int) (t : Bs) (keys : List Bs) (n : Nat) : Int :=
  if k=5 then (if keys.length≠n then 1 else if i≠0∨t≠[] then 1 else if (Yd keys).length < keys.length then 6 else 0)
  else if k=4∨k=6 then (if 0 < keys.length∨i≠0∨t≠[] then 1 else 0)
  else if k=0∨k=1∨k=2∨k=3 then (if 0 < keys.length+n then 1 else dh k i t)
  else 3
end Go.V
namespace Go.V
inductive Yb where
 | ok (v : T)
 | er (e : Int)
def insL (ps : List (Bs × T)) : List (Bs × T):=ps.foldl (fun acc p=>bP p.1 p.2 acc) []
def lg (k : Int) (keys : List Bs) (l : List T) : Yb :=
 if k=4 then .ok (.vec l)
 else if k=5 then .ok (.map (insL (keys.zip l)))
 else if (insL (l.map fun v=>(v.key,v))).length < l.length then .er 6 else .ok (.set ((insL (l.map fun v=>(v.key,v))).map (·.2)))
mutual
def Tr.mk : Tr→Nat→Nat→Nat × Yb
 | .node k i t keys items,q,n =>
  if 64 < q then (n+1,.er 7) else if 16384 < n+1 then (n+1,.er 8)
  else if wo k i t keys items.length≠0 then (n+1,.er (wo k i t keys items.length))
  else if k < 4 then (n+1,.ok (.sc k i t))
  else match Tr.xZ items (q+1) (n+1) with
   | (n',.inr e)=>(n',.er e)
   | (n',.inl l)=>(n',lg k keys l)
def Tr.xZ : List Tr→Nat→Nat→Nat × (List T ⊕ Int)
 | [],_,n=>(n,.inl [])
 | x::l,q,n=>match x.mk q n with
  | (n',.er e)=>(n',.inr e)
  | (n',.ok v)=>match Tr.xZ l q n' with
   | (n'',.inr e)=>(n'',.inr e)
   | (n'',.inl vs)=>(n'',.inl (v::vs))
end
inductive oV : Tr→Prop
 | node {k i : Int} {t : Bs} {keys : List Bs} {items : List Tr} : -9223372036854775808≤i→i≤9223372036854775807→(∀ x ∈ items,oV x)→oV (.node k i t keys items)
theorem yC : ∀ (ps acc : List (Bs × T)),jB acc→jB (ps.foldl (fun acc p=>bP p.1 p.2 acc) acc)
 | [],_,h=>h
 | p::ps,acc,h=>yC ps _ (jC h)
theorem FI {q : Nat} : ∀ (ps acc : List (Bs × T)),T.CP q acc→T.CP q ps→T.CP q (ps.foldl (fun acc p=>bP p.1 p.2 acc) acc)
 | [],_,h,_=>h
 | p::ps,acc,h,hp=>FI ps _ (xA hp.1 h) hp.2
theorem xB {k : Bs} {v : T} : ∀ {l : List (Bs × T)},(bP k v l).length≤l.length+1∧(jB l→(∃ p ∈ l,p.1=k)→(bP k v l).length=l.length)
 | []=>by simp [bP]
 | (k',v')::l=>by
  have ih:=xB (k:=k) (v:=v) (l:=l)
  unfold bP
  split
  ·rename_i hb
   refine ⟨by simp,fun hr ⟨p,hp,e⟩=>?_⟩
   exfalso
   obtain ⟨h1,h2⟩:=List.pairwise_cons.1 hr
   rcases List.mem_cons.1 hp with rfl | hp
   ·exact xE hb e.symm
   ·have:=lU _ _ _ hb (h1 p hp);rw [e,kF] at this;cases this
  ·split
   ·exact ⟨by simp,fun _ _=>by simp⟩
   ·rename_i hb hne
    refine ⟨by simp only [List.length_cons];omega,fun hr ⟨p,hp,e⟩=>?_⟩
    obtain ⟨h1,h2⟩:=List.pairwise_cons.1 hr
    rcases List.mem_cons.1 hp with rfl | hp
    ·exact absurd e.symm hne
    ·simp only [List.length_cons];rw [ih.2 h2 ⟨p,hp,e⟩]
theorem lZ : ∀ (ps acc : List (Bs × T)),(ps.foldl (fun acc p=>bP p.1 p.2 acc) acc).length≤acc.length+ps.length
 | [],acc=>by simp
 | p::ps,acc=>by
  have h1:=lZ ps (bP p.1 p.2 acc)
  have h2:=(xB (k:=p.1) (v:=p.2) (l:=acc)).1
  simp only [List.foldl_cons,List.length_cons]
  omega
theorem EZ : ∀ (ps acc : List (Bs × T)),jB acc→(ps.foldl (fun acc p=>bP p.1 p.2 acc) acc).length=acc.length+ps.length→T.qX (ps.foldl (fun acc p=>bP p.1 p.2 acc) acc)=T.qX acc+T.qX ps
 | [],acc,_,_=>by simp [T.qX]
 | p::ps,acc,hr,h=>by
  simp only [List.foldl_cons,List.length_cons] at h ⊢
  have h1:=lZ ps (bP p.1 p.2 acc)
  have h2:=xB (k:=p.1) (v:=p.2) (l:=acc)
  have hno : ∀ x ∈ acc,x.1≠p.1:=by
   intro x hx e
   have:=h2.2 hr ⟨x,hx,e⟩
   omega
  have hlen : (bP p.1 p.2 acc).length=acc.length+1:=by have:=h2.1;omega
  rw [EZ ps _ (jC hr) (by omega),xg hno]
  simp only [T.qX]
  omega
end Go.V
namespace Go.V
theorem zY : ∀ (ks acc : List Bs),(ks.foldl uJ acc).length≤acc.length+ks.length
 | [],acc=>by simp
 | k::ks,acc=>by
  have:=zY ks (uJ acc k)
  have h2 : (uJ acc k).length≤acc.length+1:=by unfold uJ;split<;>simp
  simp only [List.foldl_cons,List.length_cons]
  omega
theorem yA : ∀ (ks acc : List Bs),(ks.foldl uJ acc).length=acc.length+ks.length→ks.Nodup∧∀ k ∈ ks,k ∉ acc
 | [],acc,_=>by simp
 | k::ks,acc,h=>by
  have h1:=zY ks (uJ acc k)
  simp only [List.foldl_cons,List.length_cons] at h
  have hk : k ∉ acc:=by
   intro hk
   have : uJ acc k=acc:=by unfold uJ;rw [if_pos hk]
   rw [this] at h1 h
   omega
  have ha : uJ acc k=acc++[k]:=by unfold uJ;rw [if_neg hk]
  rw [ha] at h
  obtain ⟨i1,i2⟩:=yA ks (acc++[k]) (by rw [h];simp;omega)
  refine ⟨List.nodup_cons.2 ⟨fun hm=>i2 k hm (by simp),i1⟩,fun x hx=>?_⟩
  rcases List.mem_cons.1 hx with rfl | hx
  ·exact hk
  ·exact fun hm=>i2 x hx (by simp [hm])
theorem Dl {k : Bs} {v : T} : ∀ {l : List (Bs × T)},(∀ p ∈ l,p.1≠k)→(bP k v l).length=l.length+1
 | [],_=>by simp [bP]
 | (k',v')::l,h=>by
  unfold bP
  split
  ·simp
  ·split
   ·rename_i he;exact absurd he.symm (h (k',v') (by simp))
   ·simp only [List.length_cons];rw [Dl fun p hp=>h p (by simp [hp])]
theorem qp : ∀ (ps acc : List (Bs × T)),(ps.map (·.1)).Nodup→(∀ k ∈ ps.map (·.1),∀ p ∈ acc,p.1≠k)→(ps.foldl (fun acc p=>bP p.1 p.2 acc) acc).length=acc.length+ps.length
 | [],acc,_,_=>by simp
 | p::ps,acc,hn,h=>by
  obtain ⟨n1,n2⟩:=List.nodup_cons.1 (by simpa using hn : (p.1::ps.map (·.1)).Nodup)
  simp only [List.foldl_cons,List.length_cons]
  rw [qp ps _ n2 ?_,Dl (h p.1 (by simp))]
  ·omega
  ·intro k hk x hx e
   rcases kQ hx with rfl | hx
   ·simp only at e;subst e;exact n1 hk
   ·exact h k (by simp only [List.map_cons,List.mem_cons];exact .inr hk) x hx e
theorem wL : ∀ (ks : List Bs) (l : List T),ks.length=l.length→(ks.zip l).map (·.1)=ks∧T.qX (ks.zip l)=T.pY l∧∀ q,T.wfs q l→T.CP q (ks.zip l)
 | [],[],_=>by simp [T.qX,T.pY,T.CP]
 | k::ks,x::l,h=>by
  obtain ⟨a,b,c⟩:=wL ks l (by simpa using h)
  refine ⟨by simp [a],by simp [T.qX,T.pY,b],fun q hq=>⟨hq.1,c q hq.2⟩⟩
 | [],x::l,h=>by simp at h
 | k::ks,[],h=>by simp at h
theorem MS : ∀ (l : List T),T.qX (l.map fun v=>(v.key,v))=T.pY l∧∀ q,T.wfs q l→T.CP q (l.map fun v=>(v.key,v))
 | []=>by simp [T.qX,T.pY,T.CP]
 | x::l=>by
  obtain ⟨b,c⟩:=MS l
  refine ⟨by simp [T.qX,T.pY,b],fun q hq=>⟨hq.1,c q hq.2⟩⟩
theorem BX : ∀ (ps acc : List (Bs × T)),(∀ p ∈ acc,p.1=p.2.key)→(∀ p ∈ ps,p.1=p.2.key)→∀ p ∈ ps.foldl (fun acc p=>bP p.1 p.2 acc) acc,p.1=p.2.key
 | [],_,h,_=>h
 | p::ps,acc,h,hp=>BX ps _ (fun x hx=>by
   rcases kQ hx with rfl | hx
   ·exact hp p (by simp)
   ·exact h x hx) fun x hx=>hp x (by simp [hx])
theorem IB {k : Int} {keys : List Bs} {l : List T} {q : Nat} {v : T} (hq : q≤64) (hk : k=4∨(k=5∧keys.length=l.length∧¬ (Yd keys).length < keys.length)∨k=6) (hl : T.wfs (q+1) l) (h : lg k keys l=.ok v) : v.wf q∧v.nd=1+T.pY l:=by
 unfold lg at h
 rcases hk with rfl | ⟨rfl,h1,h2⟩ | rfl
 ·rw [if_pos rfl] at h
  cases h
  exact ⟨⟨hq,hl⟩,by simp [T.nd]⟩
 ·rw [if_neg (by decide),if_pos rfl] at h
  cases h
  obtain ⟨a,b,c⟩:=wL keys l h1
  have hd:=zY keys []
  obtain ⟨n1,_⟩:=yA keys [] (by unfold Yd at h2;simp at hd ⊢;omega)
  have hf:=qp (keys.zip l) [] (by rw [a];exact n1) (by simp)
  have hn:=EZ (keys.zip l) [] List.Pairwise.nil hf
  refine ⟨⟨hq,yC _ _ List.Pairwise.nil,FI _ _ trivial (c _ hl)⟩, ?_⟩
  simp only [T.nd,insL]
  rw [hn,b]
  simp [T.qX]
 ·rw [if_neg (by decide),if_neg (by decide)] at h
  split at h
  ·cases h
  ·rename_i hlen
   cases h
   obtain ⟨b,c⟩:=MS l
   have hle:=lZ (l.map fun v=>(v.key,v)) []
   have hf : ((l.map fun v=>(v.key,v)).foldl (fun acc p=>bP p.1 p.2 acc) []).length=([] : List (Bs × T)).length+(l.map fun v=>(v.key,v)).length:=by
    unfold insL at hlen
    simp at hle hlen ⊢
    omega
   have hn:=EZ _ [] List.Pairwise.nil hf
   have hky:=BX (l.map fun v=>(v.key,v)) [] (by simp) (by simp)
   refine ⟨⟨hq, ?_, ?_⟩, ?_⟩
   ·unfold insL;rw [keyed hky];exact yC _ _ List.Pairwise.nil
   ·unfold insL;exact FH (FI _ _ trivial (c _ hl))
   ·simp only [T.nd,insL,Gz]
    rw [hn,b]
    simp [T.qX]
mutual
theorem zX : ∀ (x : Tr) (q n n' : Nat) (v : T),oV x→x.mk q n=(n',.ok v)→v.wf q∧n'=n+v.nd∧n'≤16384
 | .node k i t keys items,q,n,n',v,hx,h=>by
  cases hx with
  | node hi1 hi2 hx =>
  unfold Tr.mk at h
  split at h
  ·cases h
  ·rename_i hq
   split at h
   ·cases h
   ·rename_i hn
    split at h
    ·cases h
    ·rename_i hown
     have hown : wo k i t keys items.length=0:=by simpa using hown
     unfold wo at hown
     split at h
     ·rename_i hk4
      simp only [Prod.mk.injEq,Yb.ok.injEq] at h
      obtain ⟨rfl,rfl⟩:=h
      rw [if_neg (by omega),if_neg (by omega)] at hown
      split at hown
      ·rename_i hk
       split at hown
       ·omega
       ·simp only [T.wf,T.nd]
        refine ⟨⟨by omega, ?_⟩,trivial,by omega⟩
        unfold dh at hown
        unfold U5
        rcases hk with rfl | rfl | rfl | rfl
        ·simp at hown;exact .inl ⟨rfl,hown⟩
        ·simp at hown;right;left;by_cases ht : t=[]<;>simp [ht] at hown ⊢<;>omega
        ·simp at hown;exact .inr (.inr (.inl ⟨rfl,hown,hi1,hi2⟩))
        ·simp at hown;exact .inr (.inr (.inr ⟨rfl,hown⟩))
      ·omega
     ·rename_i hk4
      cases hm : Tr.xZ items (q+1) (n+1) with
      | mk n1 r =>
       rw [hm] at h
       cases r with
       | inr e=>simp at h
       | inl l =>
        simp only [Prod.mk.injEq] at h
        obtain ⟨rfl,h⟩:=h
        obtain ⟨g1,g2,g3,g4⟩:=Dp items (q+1) (n+1) n1 l hx hm (by omega)
        have hk : k=4∨(k=5∧keys.length=l.length∧¬ (Yd keys).length < keys.length)∨k=6:=by
         by_cases h5 : k=5
         ·subst h5
          rw [if_pos rfl] at hown
          split at hown
          ·omega
          ·rename_i hkl
           split at hown
           ·omega
           ·split at hown
            ·omega
            ·rename_i hdd
             exact .inr (.inl ⟨rfl,by rw [g4];simpa using hkl,hdd⟩)
         ·rw [if_neg h5] at hown
          by_cases h46 : k=4∨k=6
          ·rcases h46 with h | h
           ·exact .inl h
           ·exact .inr (.inr h)
          ·rw [if_neg h46,if_neg (by omega)] at hown;omega
        obtain ⟨w1,w2⟩:=IB (by omega) hk g1 h
        exact ⟨w1,by omega,g3⟩
theorem Dp : ∀ (l : List Tr) (q n n' : Nat) (vs : List T),(∀ x ∈ l,oV x)→Tr.xZ l q n=(n',.inl vs)→n≤16384→T.wfs q vs∧n'=n+T.pY vs∧n'≤16384∧vs.length=l.length
 | [],q,n,n',vs,_,h,hn=>by
  unfold Tr.xZ at h
  simp only [Prod.mk.injEq,Sum.inl.injEq] at h
  obtain ⟨rfl,rfl⟩:=h
  exact ⟨trivial,by simp [T.pY],hn,rfl⟩
 | x::l,q,n,n',vs,hx,h,hn=>by
  unfold Tr.xZ at h
  split at h
  ·simp at h
  ·rename_i n1 v hv
   obtain ⟨a1,a2,a3⟩:=zX x q n n1 v (hx x (by simp)) hv
   split at h
   ·simp at h
   ·rename_i n2 vs' hvs
    simp only [Prod.mk.injEq,Sum.inl.injEq] at h
    obtain ⟨rfl,rfl⟩:=h
    obtain ⟨b1,b2,b3,b4⟩:=Dp l q n1 n2 vs' (fun y hy=>hx y (by simp [hy])) hvs a3
    exact ⟨⟨a1,b1⟩,by simp only [T.pY];omega,b3,by simp [b4]⟩
end
end Go.V
namespace Go.V
inductive nS (L : Nat) : Tr→Prop
 | node {k i : Int} {t : Bs} {keys : List Bs} {items : List Tr} : t.length≤L→(∀ k ∈ keys,k.length≤L)→keys.length≤2*L+50→items.length≤2*L→(∀ x ∈ items,nS L x)→nS L (.node k i t keys items)
inductive T.yh (L : Nat) : T→Prop
 | sc {k i : Int} {t : Bs} : t.length≤L→-9223372036854775808≤i∧i≤9223372036854775807→T.yh L (.sc k i t)
 | vec {l : List T} : (∀ x ∈ l,T.yh L x)→T.yh L (.vec l)
 | map {l : List (Bs × T)} : (∀ p ∈ l,p.1.length≤L)→(∀ p ∈ l,T.yh L p.2)→T.yh L (.map l)
 | set {l : List T} : (∀ x ∈ l,T.yh L x)→T.yh L (.set l)
theorem Iw (k i : Int) (t : Bs) : (jO k i t).length≤2*t.length+9:=by
 have:=lS t
 unfold jO
 repeat' split
 all_goals simp [pW]
 all_goals omega
theorem QN (k i : Int) (t : Bs) (hi : -9223372036854775808≤i∧i≤9223372036854775807) : (mG k i t).length≤6*t.length+20:=by
 have:=qN t
 have:=II i hi
 unfold mG
 repeat' split
 all_goals simp
 all_goals omega
theorem Dc : ∀ (ps acc : List (Bs × T)) (p : Bs × T),p ∈ ps.foldl (fun acc p=>bP p.1 p.2 acc) acc→p ∈ acc∨p ∈ ps
 | [],_,p,h=>.inl h
 | q::ps,acc,p,h=>by
  rcases Dc ps _ p h with h | h
  ·rcases kQ h with rfl | h
   ·exact .inr (by simp)
   ·exact .inl h
  ·exact .inr (by simp [h])
theorem OV {L : Nat} {k : Int} {keys : List Bs} {l : List T} {v : T} (hk : ∀ k ∈ keys,k.length≤L) (hl : ∀ x ∈ l,x.yh L) (h : lg k keys l=.ok v) : v.yh L:=by
 unfold lg at h
 split at h
 ·cases h;exact .vec hl
 ·split at h
  ·cases h
   have key : ∀ p ∈ insL (keys.zip l),p.1.length≤L∧p.2.yh L:=fun p hp=>by
    rcases Dc _ _ p hp with h | h
    ·simp at h
    ·obtain ⟨a,b⟩:=List.of_mem_zip (show (p.1,p.2) ∈ keys.zip l from h);exact ⟨hk _ a,hl _ b⟩
   exact .map (fun p hp=>(key p hp).1) fun p hp=>(key p hp).2
  ·split at h
   ·cases h
   ·cases h
    refine .set fun x hx=>?_
    obtain ⟨p,hp,rfl⟩:=List.mem_map.1 hx
    rcases Dc _ _ p hp with h | h
    ·simp at h
    ·obtain ⟨y,hy,rfl⟩:=List.mem_map.1 h;exact hl y hy
theorem MI : ∀ {l : List T} {v : T},v ∈ l→v.nd≤T.pY l
 | x::l,v,h=>by
  rcases List.mem_cons.1 h with rfl | h
  ·simp only [T.pY];omega
  ·have:=MI h;simp only [T.pY];omega
mutual
theorem Qj {L : Nat} : ∀ (x : Tr) (q n n' : Nat) (v : T),oV x→nS L x→x.mk q n=(n',.ok v)→v.yh L
 | .node k i t keys items,q,n,n',v,.node i1 i2 hx,.node h1 h2 h3 h4 h5,h=>by
  unfold Tr.mk at h
  repeat' split at h
  all_goals first
   | (cases h;done)
   | (simp only [Prod.mk.injEq,Yb.ok.injEq] at h;obtain ⟨_,rfl⟩:=h;exact .sc h1 ⟨i1,i2⟩)
   | skip
  rename_i e
  simp only [Prod.mk.injEq] at h
  exact OV h2 (KW items _ _ _ _ hx h5 e) h.2
theorem KW {L : Nat} : ∀ (l : List Tr) (q n n' : Nat) (vs : List T),(∀ x ∈ l,oV x)→(∀ x ∈ l,nS L x)→Tr.xZ l q n=(n',.inl vs)→∀ v ∈ vs,v.yh L
 | [],q,n,n',vs,_,_,h=>by
  simp only [Tr.xZ,Prod.mk.injEq,Sum.inl.injEq] at h
  obtain ⟨_,rfl⟩:=h
  simp
 | x::l,q,n,n',vs,h1,h2,h=>by
  unfold Tr.xZ at h
  repeat' split at h
  all_goals first
   | (cases h;done)
   | skip
  rename_i e1 _ _ _ e2
  simp only [Prod.mk.injEq,Sum.inl.injEq] at h
  obtain ⟨_,rfl⟩:=h
  intro v hv
  rcases List.mem_cons.1 hv with rfl | hv
  ·exact Qj x _ _ _ _ (h1 x (by simp)) (h2 x (by simp)) e1
  ·exact KW l _ _ _ _ (fun y hy=>h1 y (by simp [hy])) (fun y hy=>h2 y (by simp [hy])) e2 v hv
end
theorem nS.mono {L M : Nat} (hLM : L≤M) {x : Tr} (h : nS L x) : nS M x:=by
 induction h with
 | node a b c d _ ih=>exact .node (by omega) (fun k hk=>Nat.le_trans (b k hk) hLM) (by omega) (by omega) ih
theorem T.yh.mono {L M : Nat} (hLM : L≤M) {x : T} (h : T.yh L x) : T.yh M x:=by
 induction h with
 | sc a b=>exact .sc (by omega) b
 | vec _ ih=>exact .vec ih
 | map a _ ih=>exact .map (fun p hp=>Nat.le_trans (a p hp) hLM) ih
 | set _ ih=>exact .set ih
mutual
theorem GV : ∀ v : T,v.yh 4000→v.key.length+8100≤16400*v.nd∧v.enc.length+24100≤48400*v.nd
 | .sc k i t,.sc h hi=>by
  have h1:=Iw k i t
  have h2:=QN k i t hi
  simp only [T.key,T.enc,T.nd]
  omega
 | .vec l,.vec h=>by
  have h1:=nO l false h
  simp only [T.key,T.enc,T.nd,List.length_cons,List.length_append,List.length_nil]
  omega
 | .map l,.map h h'=>by
  have h1:=tC l false fun p hp=>⟨h p hp,h' p hp⟩
  simp only [T.key,T.enc,T.nd,List.length_cons,List.length_append,List.length_nil]
  omega
 | .set l,.set h=>by
  have h1:=nO l false h
  simp only [T.key,T.enc,T.nd,List.length_cons,List.length_append,List.length_nil]
  omega
theorem nO : ∀ (l : List T) (b : Bool),(∀ x ∈ l,x.yh 4000)→(T.keys l).length≤16400*T.pY l∧(T.encs b l).length≤48400*T.pY l
 | [],b,_=>by simp [T.keys,T.encs]
 | x::l,b,h=>by
  have h1:=GV x (h x (by simp))
  have h2:=nO l true fun y hy=>h y (by simp [hy])
  simp only [T.keys,T.encs,T.pY,List.length_append]
  have h3 : (if b=true then [(44 : UInt8)] else []).length≤1:=by split<;>simp
  omega
theorem tC : ∀ (l : List (Bs × T)) (b : Bool),(∀ p ∈ l,p.1.length≤4000∧p.2.yh 4000)→(T.jw l).length≤16400*T.qX l∧(T.iQ b l).length≤48400*T.qX l
 | [],b,_=>by simp [T.jw,T.iQ]
 | p::l,b,h=>by
  have h0:=h p (by simp)
  have h1:=GV p.2 h0.2
  have h2:=tC l true fun y hy=>h y (by simp [hy])
  have h4:=Iw 3 0 p.1
  have h5:=qN p.1
  simp only [T.jw,T.iQ,T.qX,List.length_append,List.length_cons]
  have h3 : (if b=true then [(44 : UInt8)] else []).length≤1:=by split<;>simp
  omega
end
end Go.V
namespace Go.V
def pJ (items : List Tr) (q n j n' : Nat) (vs : List T) : Prop:=Tr.xZ items q n=match Tr.xZ (items.drop j) q n' with
 | (n'',.inr e)=>(n'',.inr e)
 | (n'',.inl ws)=>(n'',.inl (vs++ws))
theorem pJ.zero {items : List Tr} {q n : Nat} : pJ items q n 0 n []:=by
 unfold pJ
 rw [List.drop_zero]
 generalize Tr.xZ items q n=r
 rcases r with ⟨a,b | b⟩<;>rfl
theorem pJ.ok {items : List Tr} {q n j n' n1 : Nat} {vs : List T} {v : T} (h : pJ items q n j n' vs) (hj : j < items.length) (hv : items[j].mk q n'=(n1,.ok v)) : pJ items q n (j+1) n1 (vs++[v]):=by
 unfold pJ at h ⊢
 rw [h,List.drop_eq_getElem_cons hj,Tr.xZ,hv]
 dsimp only
 generalize Tr.xZ (items.drop (j+1)) q n1=r
 rcases r with ⟨a,b | b⟩<;>simp
theorem pJ.er {items : List Tr} {q n j n' n1 : Nat} {vs : List T} {e : Int} (h : pJ items q n j n' vs) (hj : j < items.length) (hv : items[j].mk q n'=(n1,.er e)) : Tr.xZ items q n=(n1,.inr e):=by
 unfold pJ at h
 rw [h,List.drop_eq_getElem_cons hj,Tr.xZ,hv]
theorem pJ.all {items : List Tr} {q n n' : Nat} {vs : List T} (h : pJ items q n items.length n' vs) : Tr.xZ items q n=(n',.inl vs):=by
 unfold pJ at h
 rw [h,List.drop_length,Tr.xZ];simp
def gG {α : Type} (ps : List (Bs × α)) : List (Bs × α):=ps.foldl (fun acc p=>bP p.1 p.2 acc) []
theorem yK {α : Type} (ps : List (Bs × α)) (p : Bs × α) : gG (ps++[p])=bP p.1 p.2 (gG ps):=by simp [gG]
theorem wM {α : Type} (ps : List (Bs × α)) (p : Bs × α) (h : p ∈ gG ps) : p ∈ ps:=by
 have key : ∀ (ps acc : List (Bs × α)),p ∈ ps.foldl (fun acc p=>bP p.1 p.2 acc) acc→p ∈ acc∨p ∈ ps:=by
  intro ps
  induction ps with
  | nil=>exact fun _ h=>.inl h
  | cons q ps ih =>
   intro acc h
   rcases ih _ h with h | h
   ·rcases kQ h with rfl | h
    ·exact .inr (by simp)
    ·exact .inl h
   ·exact .inr (by simp [h])
 exact (key ps [] h).resolve_left (by simp)
theorem BP {α β : Type} (g : α→β) (ps : List (Bs × α)) : (gG ps).map (fun q=>(q.1,g q.2))=gG (ps.map fun q=>(q.1,g q.2)):=by
 have key : ∀ (ps acc : List (Bs × α)),(ps.foldl (fun acc p=>bP p.1 p.2 acc) acc).map (fun q=>(q.1,g q.2))=(ps.map fun q=>(q.1,g q.2)).foldl (fun acc p=>bP p.1 p.2 acc) (acc.map fun q=>(q.1,g q.2)):=by
  intro ps
  induction ps with
  | nil=>exact fun _=>rfl
  | cons q ps ih =>
   intro acc
   simp only [List.foldl_cons,List.map_cons]
   rw [ih,wV]
 exact key ps []
theorem yI (ps : List (Bs × T)) : insL ps=gG ps:=rfl
theorem I4 {α : Type} (ps : List (Bs × α)) : (gG ps).length≤ps.length:=by
 have key : ∀ (ps acc : List (Bs × α)),(ps.foldl (fun acc p=>bP p.1 p.2 acc) acc).length≤acc.length+ps.length:=by
  intro ps
  induction ps with
  | nil=>exact fun _=>by simp
  | cons q ps ih =>
   intro acc
   have h1:=ih (bP q.1 q.2 acc)
   have h2 : (bP q.1 q.2 acc).length≤acc.length+1:=by
    rw [rX]
    have:=sO q.1 acc
    simp only [List.length_append,List.length_take,List.length_cons,List.length_drop]
    omega
   simp only [List.foldl_cons,List.length_cons]
   omega
 have:=key ps []
 simpa [gG] using this
theorem aaI {α : Type} {i : Int} {t : Bs} {keys : List Bs} {zs : List (T × α)} (ho : wo 5 i t keys zs.length=0) : keys.length=zs.length∧(gG (keys.zip zs)).length=zs.length:=by
 unfold wo at ho
 rw [if_pos rfl] at ho
 split at ho
 ·omega
 rename_i hkl
 split at ho
 ·omega
 split at ho
 ·omega
 rename_i hdd
 have hkl : keys.length=zs.length:=by simpa using hkl
 refine ⟨hkl, ?_⟩
 have hd:=zY keys []
 obtain ⟨n1,_⟩:=yA keys [] (by unfold Yd at hdd;simp at hd ⊢;omega)
 obtain ⟨a,_⟩:=wL keys (zs.map (·.1)) (by simpa using hkl)
 have hf:=qp (keys.zip (zs.map (·.1))) [] (by rw [a];exact n1) (by simp)
 have e : (gG (keys.zip zs)).map (fun q=>(q.1,q.2.1))=(keys.zip (zs.map (·.1))).foldl (fun acc p=>bP p.1 p.2 acc) []:=by
  rw [BP (fun z : T × α=>z.1),List.zip_map_right];rfl
 have e2:=congrArg List.length e
 rw [List.length_map,hf] at e2
 simp at e2
 omega
theorem YS {α : Type} {k i : Int} {t : Bs} {keys : List Bs} {zs : List (T × α)} (hk : k=5∨k=6) (ho : wo k i t keys zs.length=0) :
  ∃ prs : List (Bs × (T × α)),prs.length=zs.length∧(∀ (j : Nat) (h : j < prs.length) (h' : j < zs.length),prs[j].2=zs[j]∧(k=5→keys[j]?=some prs[j].1)∧(k=6→prs[j].1=zs[j].1.key))∧(k=5→keys.length=zs.length) ∧
   lg k keys (zs.map (·.1))=if (gG prs).length < zs.length then .er 6 else .ok (if k=5 then .map ((gG prs).map fun q=>(q.1,q.2.1)) else .set ((gG prs).map fun q=>q.2.1)):=by
 rcases hk with rfl | rfl
 ·obtain ⟨h1,h2⟩:=aaI ho
  refine ⟨keys.zip zs,by simp;omega,fun j h h'=>⟨by simp,fun _=>by simp [show j < keys.length by omega],fun h=>by omega⟩,fun _=>h1, ?_⟩
  rw [if_neg (by omega),if_pos rfl]
  unfold lg
  rw [if_neg (by decide),if_pos rfl,yI,BP (fun z : T × α=>z.1),List.zip_map_right]
  rfl
 ·refine ⟨zs.map fun p=>(p.1.key,p),by simp,fun j h h'=>⟨by simp,fun h=>by omega,fun _=>by simp⟩,fun h=>by omega, ?_⟩
  have e : insL ((zs.map (·.1)).map fun v=>(v.key,v))=(gG (zs.map fun p=>(p.1.key,p))).map fun q=>(q.1,q.2.1):=by
   rw [BP (fun z : T × α=>z.1),List.map_map,List.map_map];rfl
  unfold lg
  rw [if_neg (by decide),if_neg (by decide),e]
  simp only [List.length_map,List.map_map]
  rfl
theorem zy {α : Type} (k : Bs) (x : α) (l : List (Bs × α)) : (bP k x l).length=l.length+(if hasK l k=true then 0 else 1):=by
 rw [rX]
 have h:=sO k l
 simp only [List.length_append,List.length_take,List.length_cons,List.length_drop]
 cases hb : hasK l k with
 | true =>
  obtain ⟨hj,_⟩:=tX hb
  simp;omega
 | false=>simp;omega
theorem Lh {α : Type} {ps : List (Bs × α)} (h : (gG ps).length=ps.length) {j : Nat} (hj : j < ps.length) :
  (gG (ps.take j)).length=j∧gG (ps.take (j+1))=(gG (ps.take j)).take (fE (gG (ps.take j)) ps[j].1)++ps[j]::(gG (ps.take j)).drop (fE (gG (ps.take j)) ps[j].1):=by
 have step : ∀ i (hi : i < ps.length),gG (ps.take (i+1))=bP ps[i].1 ps[i].2 (gG (ps.take i)):=fun i hi=>by
  rw [List.take_succ_eq_append_getElem hi,yK]
 have up : ∀ d i,i+d≤ps.length→(gG (ps.take (i+d))).length≤(gG (ps.take i)).length+d:=by
  intro d
  induction d with
  | zero=>intro i _;exact Nat.le_refl _
  | succ d ih =>
   intro i hi
   have h1:=ih i (by omega)
   have h2:=step (i+d) (by omega)
   rw [show i+(d+1)=i+d+1 by omega,h2,zy]
   split<;>omega
 have at_ : ∀ i,i≤ps.length→(gG (ps.take i)).length=i:=by
  intro i hi
  have h1:=up (ps.length-i) i (by omega)
  rw [show i+(ps.length-i)=ps.length by omega,List.take_length,h] at h1
  have h2:=I4 (ps.take i)
  rw [List.length_take] at h2
  omega
 refine ⟨at_ j (by omega), ?_⟩
 have h1:=at_ (j+1) (by omega)
 have h2:=step j hj
 have h3:=zy ps[j].1 ps[j].2 (gG (ps.take j))
 rw [← h2,h1,at_ j (by omega)] at h3
 have h4 : ¬ hasK (gG (ps.take j)) ps[j].1=true:=by intro hb;rw [if_pos hb] at h3;omega
 rw [h2,rX,if_neg h4];rfl
theorem FW : ∀ {l : List Tr} {q n n' : Nat} {vs : List T},Tr.xZ l q n=(n',.inl vs)→vs.length=l.length∧∀ (j : Nat) (h : j < l.length) (h' : j < vs.length),∃ n1 n2,l[j].mk q n1=(n2,.ok vs[j])
 | [],q,n,n',vs,h=>by
  simp only [Tr.xZ,Prod.mk.injEq,Sum.inl.injEq] at h
  obtain ⟨_,rfl⟩:=h
  exact ⟨rfl,fun j h=>absurd h (Nat.not_lt_zero _)⟩
 | x::l,q,n,n',vs,h=>by
  unfold Tr.xZ at h
  split at h
  ·cases h
  ·rename_i n1 v e1
   split at h
   ·cases h
   ·rename_i n2 ws e2
    simp only [Prod.mk.injEq,Sum.inl.injEq] at h
    obtain ⟨rfl,rfl⟩:=h
    obtain ⟨h1,h2⟩:=FW e2
    refine ⟨by simp [h1],fun j hj hj'=>?_⟩
    cases j with
    | zero=>exact ⟨_,_,e1⟩
    | succ j=>exact h2 j (by simpa using hj) (by simpa using hj')
end Go.V
namespace Go.V
mutual
def T.tree : T→Tr
 | .sc k i t=>.node k i t [] []
 | .vec l=>.node 4 0 [] [] (T.trees l)
 | .map l=>.node 5 0 [] (l.map (·.1)) (T.qR l)
 | .set l=>.node 6 0 [] [] (T.trees l)
def T.trees : List T→List Tr
 | []=>[]
 | x::l=>x.tree::T.trees l
def T.qR : List (Bs × T)→List Tr
 | []=>[]
 | p::l=>p.2.tree::T.qR l
end
theorem fD : ∀ l : List T,T.trees l=l.map T.tree
 | []=>rfl
 | x::l=>by simp [T.trees,fD l]
theorem jv : ∀ l : List (Bs × T),T.qR l=l.map (·.2.tree)
 | []=>rfl
 | x::l=>by simp [T.qR,jv l]
theorem qK : ∀ l : List T,l.length≤T.pY l
 | []=>by simp
 | x::l=>by have:=qK l;have:=MF x;simp only [T.pY,List.length_cons];omega
theorem Aa : ∀ l : List (Bs × T),l.length≤T.qX l
 | []=>by simp
 | x::l=>by have:=Aa l;have:=MF x.2;simp only [T.qX,List.length_cons];omega
end Go.V
namespace Go.V
open Go.Proofs
set_option maxRecDepth 100000
def cmn : Bs→Bs→Nat
 | a::x,b::y=>if a=b then cmn x y+1 else 0
 | _,_=>0
theorem SL {x y : Bs} {n : Nat} (hx : n < x.length) (hy : n < y.length) (h : x[n]=y[n]) : cmn (x.drop n) (y.drop n)=cmn (x.drop (n+1)) (y.drop (n+1))+1:=by
 rw [List.drop_eq_getElem_cons hx,List.drop_eq_getElem_cons hy,cmn,if_pos h]
theorem Bq {x y : Bs} {n : Nat} (h : ∀ (hx : n < x.length) (hy : n < y.length),x[n]≠y[n]) : cmn (x.drop n) (y.drop n)=0:=by
 by_cases hx : n < x.length
 ·by_cases hy : n < y.length
  ·rw [List.drop_eq_getElem_cons hx,List.drop_eq_getElem_cons hy,cmn,if_neg (h hx hy)]
  ·rw [List.drop_eq_nil_of_le (by omega : y.length≤n)];cases x.drop n<;>rfl
 ·rw [List.drop_eq_nil_of_le (by omega : x.length≤n)];rfl
theorem TN : ∀ x y : Bs,cmn x y≤x.length∧cmn x y≤y.length
 | a::x,b::y=>by have:=TN x y;unfold cmn;split<;>simp<;>omega
 | [],y=>by simp [cmn]
 | a::x,[]=>by simp [cmn]
def IW (x y : Bs) : Int:=if cmn x y=x.length∧cmn x y=y.length then 0 else if cmn x y=x.length then -1 else if cmn x y=y.length then 1 else if (x.getD (cmn x y) 0).toNat < (y.getD (cmn x y) 0).toNat then -1 else 1
theorem MJ : ∀ x y : Bs,decide (IW x y < 0)=bl x y
 | [],[]=>rfl
 | [],b::y=>rfl
 | a::x,[]=>by simp [IW,cmn,LY]
 | a::x,b::y=>by
  have ih:=MJ x y
  by_cases h : a=b
  ·subst h
   have e : cmn (a::x) (a::y)=cmn x y+1:=by rw [cmn,if_pos rfl]
   have e2 : IW (a::x) (a::y)=IW x y:=by unfold IW;rw [e];simp
   have e3 : bl (a::x) (a::y)=bl x y:=by
    have:=wZ a a x y
    cases h1 : bl x y<;>cases h2 : bl (a::x) (a::y)<;>simp_all
   rw [e2,e3,ih]
  ·have e : cmn (a::x) (b::y)=0:=by rw [cmn,if_neg h]
   have e3 : bl (a::x) (b::y)=decide (a < b):=by
    have:=wZ a b x y
    cases h2 : bl (a::x) (b::y)<;>simp_all
   rw [e3]
   unfold IW
   rw [e]
   simp only [List.length_cons,List.getD_cons_zero,UInt8.lt_iff_toNat_lt]
   rw [if_neg (by omega),if_neg (by omega),if_neg (by omega)]
   split<;>simp_all
theorem NH (x y : Bs) (hx : x.length≤1000000000) : PV Tryz.prog G0 123 [.str x,.str y] (.int .i64 (cmn x y : Nat)):=by
 refine pv e123 (by simp) rfl rfl ?_
 simp only [go_sem,seval,c123]
 refine bY (M:=fun ρ τ=>ρ.get 5=.int .i64 (cmn x y : Nat)) ?_ ?_
 ·rintro ρ τ q5
  simp only [go_sem,seval,q5]
  exact fin (by rfl) rfl
 refine aG (fun m ρ τ=>∃ n : Nat,m=x.length-n∧n≤x.length∧cmn x y=n+cmn (x.drop n) (y.drop n)∧ρ.get 0=.str x∧ρ.get 1=.str y∧ρ.get 5=.int .i64 n) (n:=x.length) ?_ ⟨0,rfl,by omega,by simp,rfl,rfl,rfl⟩
 rintro m ρ τ ⟨n,rfl,hn,he,q0,q1,q5⟩
 have a6 : IntKind.i64.wrap ((n : Int)+1)=((n+1 : Nat) : Int):=by rw [iw (by omega)];omega
 by_cases h1 : n < x.length
 rotate_left
 ·have b1 : decide ((n : Int) < (x.length : Int))=false:=decide_eq_false (by omega)
  have hz : cmn x y=n:=by rw [he,Bq fun hx=>absurd hx h1];rfl
  simp only [go_sem,seval,q0,q1,q5,b1]
  rw [hz]
 have b1 : decide ((n : Int) < (x.length : Int))=true:=decide_eq_true (by omega)
 by_cases h2 : n < y.length
 rotate_left
 ·have b2 : decide ((n : Int) < (y.length : Int))=false:=decide_eq_false (by omega)
  have hz : cmn x y=n:=by rw [he,Bq fun _ hy=>absurd hy h2];rfl
  simp only [go_sem,seval,q0,q1,q5,b1,b2]
  rw [hz]
 have b2 : decide ((n : Int) < (y.length : Int))=true:=decide_eq_true (by omega)
 have c0 : (0 : Int)≤(n : Int):=by omega
 have c1 : (n : Int) < (x.length : Int):=by omega
 have c2 : (n : Int) < (y.length : Int):=by omega
 by_cases h3 : x[n]=y[n]
 ·have b3 : (((x.getD n 0).toNat : Int) == ((y.getD n 0).toNat : Int))=true:=by simp [List.getD_eq_getElem?_getD,h1,h2,h3]
  simp only [go_sem,seval,q0,q1,q5,b1,b2,b3,c0,c1,c2,a6,Int.toNat_natCast]
  exact ⟨x.length-(n+1),by omega,n+1,rfl,by omega,by rw [he,SL h1 h2 h3];omega,rfl⟩
 ·have b3 : (((x.getD n 0).toNat : Int) == ((y.getD n 0).toNat : Int))=false:=by
   simp [List.getD_eq_getElem?_getD,h1,h2]
   intro h;exact h3 (UInt8.toNat_inj.1 (by omega))
  have hz : cmn x y=n:=by rw [he,Bq fun _ _=>h3];rfl
  simp only [go_sem,seval,q0,q1,q5,b1,b2,b3,c0,c1,c2,Int.toNat_natCast]
  rw [hz]
theorem Q9 (x y : Bs) (hx : x.length≤1000000000) : PV Tryz.prog G0 74 [.str x,.str y] (.int .i64 (IW x y)):=by
 have hC:=NH x y hx
 obtain ⟨l1,l2⟩:=TN x y
 refine pv e74 (by simp) rfl rfl ?_
 unfold IW
 generalize cmn x y=n at *
 have hb : ∀ a b : Nat,((a : Int) == (b : Int))=decide (a=b):=fun a b=>by
  by_cases h : a=b
  ·simp [h]
  ·simp [h];omega
 simp only [go_sem,seval,c74]
 by_cases h1 : n=x.length
 ·by_cases h2 : n=y.length
  ·have h3 : x.length=y.length:=by omega
   subst h1
   refine ah (hC) ?_<;>simp only [go_sem,seval,hb,h3,decide_true]
   exact fin (by rfl) rfl
  ·have h3 : ¬ x.length=y.length:=by omega
   subst h1
   refine ah (hC) ?_<;>simp only [go_sem,seval,hb,h3,decide_true,decide_false]
   exact fin (by rfl) (by simp)
 ·by_cases h2 : n=y.length
  ·subst h2
   refine ah (hC) ?_<;>simp only [go_sem,seval,hb,h1,decide_true,decide_false]
   exact fin (by rfl) (by simp)
  ·have c0 : (0 : Int)≤(n : Int):=by omega
   have c1 : (n : Int) < (x.length : Int):=by omega
   have c2 : (n : Int) < (y.length : Int):=by omega
   by_cases h3 : (x.getD n 0).toNat < (y.getD n 0).toNat
   ·have b3 : decide (((x.getD n 0).toNat : Int) < ((y.getD n 0).toNat : Int))=true:=decide_eq_true (by omega)
    refine ah (hC) ?_<;>simp only [go_sem,seval,hb,h1,h2,decide_false,c0,c1,c2,b3,Int.toNat_natCast]
    exact fin (by rfl) (by first | rw [if_pos h3] | rw [if_neg h3])
   ·have b3 : decide (((x.getD n 0).toNat : Int) < ((y.getD n 0).toNat : Int))=false:=decide_eq_false (by omega)
    refine ah (hC) ?_<;>simp only [go_sem,seval,hb,h1,h2,decide_false,c0,c1,c2,b3,Int.toNat_natCast]
    exact fin (by rfl) (by first | rw [if_pos h3] | rw [if_neg h3])
end Go.V
