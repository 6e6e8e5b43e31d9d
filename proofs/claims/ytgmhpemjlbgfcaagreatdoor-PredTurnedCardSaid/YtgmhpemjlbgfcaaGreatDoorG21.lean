/- Texts F40 L1. -/
import Derived.Test.YtgmhpemjlbgfcaaGreatDoorG20
set_option linter.unusedVariables false
set_option linter.unusedSimpArgs false
namespace Go.V
open Go.Proofs
set_option maxRecDepth 100000
abbrev bl (x y : Bs) : Bool:=Op.bytesLess x y
theorem jA : ∀ x : Bs,bl x x=false
 | []=>rfl
 | a::x=>by
  have h:=jA x
  unfold bl at *
  simp [Op.bytesLess,h]
theorem vC (a b : UInt8) (x y : Bs) : bl (a::x) (b::y)=true↔a < b∨(a=b∧bl x y=true):=by
 unfold bl
 simp [Op.bytesLess]
theorem Gl (x : Bs) : bl x []=false:=by cases x<;>rfl
theorem kE : ∀ x y z : Bs,bl x y=true→bl y z=true→bl x z=true
 | _,[],_,h,_=>by rw [Gl] at h;cases h
 | _,_,[],_,h=>by rw [Gl] at h;cases h
 | [],b::y,c::z,_,_=>rfl
 | a::x,b::y,c::z,h1,h2=>by
  rw [vC] at *
  rcases h1 with h1 | ⟨rfl,h1⟩
  ·rcases h2 with h2 | ⟨rfl,_⟩
   ·exact .inl (UInt8.lt_trans h1 h2)
   ·exact .inl h1
  ·rcases h2 with h2 | ⟨rfl,h2⟩
   ·exact .inl h2
   ·exact .inr ⟨rfl,kE x y z h1 h2⟩
theorem zO : ∀ x y : Bs,bl x y=false→bl y x=false→x=y
 | [],[],_,_=>rfl
 | [],b::y,h,_=>by cases h
 | a::x,[],_,h=>by cases h
 | a::x,b::y,h1,h2=>by
  have n1 : ¬ (a < b∨(a=b∧bl x y=true)):=fun h=>by rw [← vC,h1] at h;cases h
  have n2 : ¬ (b < a∨(b=a∧bl y x=true)):=fun h=>by rw [← vC,h2] at h;cases h
  have hab : a=b:=by
   rcases UInt8.lt_or_lt_of_ne (a:=a) (b:=b) |> fun f=>(Classical.em (a=b)).imp id (fun hne=>f hne) with h | h | h
   ·exact h
   ·exact absurd (.inl h) n1
   ·exact absurd (.inl h) n2
  subst hab
  have e1 : bl x y=false:=by cases h : bl x y with | false=>rfl | true=>exact absurd (.inr ⟨rfl,h⟩) n1
  have e2 : bl y x=false:=by cases h : bl y x with | false=>rfl | true=>exact absurd (.inr ⟨rfl,h⟩) n2
  rw [zO x y e1 e2]
theorem Eb {x y : Bs} (h : bl x y=true) : bl y x=false:=by
 cases h2 : bl y x with
 | false=>rfl
 | true=>have:=kE _ _ _ h h2;rw [jA] at this;cases this
def tH (x y : Bs) : Int:=if bl x y=true then -1 else if (!(bl x y || x == y))=true then 1 else 0
theorem IZ (x y : Bs) : PV Tryz.prog G0 176 [.str x,.str y] (.int .i64 (tH x y)):=by
 refine pv e176 (by simp) rfl rfl ?_
 unfold tH
 simp only [go_sem,seval,c176]
 refine aG (fun hc=>?_) (fun hc=>?_)
 ·rw [if_pos hc]
  simp only [go_sem,seval]
  exact fin (by rfl) rfl
 ·have hc' : bl x y=false:=by simpa using hc
  rw [if_neg (by rw [hc'];decide)]
  simp only [go_sem,seval]
  refine aG (fun hd=>?_) (fun hd=>?_)
  ·rw [if_pos (by simpa using hd)]
   simp only [go_sem,seval]
   exact fin (by rfl) rfl
  ·rw [if_neg (by simpa using hd)]
   simp only [go_sem,seval]
   exact fin (by rfl) rfl
abbrev iE:=Bs × Vl
def au (p : iE) : List VV:=.str p.1::p.2.cells
inductive Sl where
 | no
 | lone (p : iE)
 | sub (v : VV) (ps : List iE)
def Sl.cells : Sl→Option (List VV)
 | .no=>none
 | .lone p=>some (au p++[.nilp])
 | .sub v _=>some (.str []::(Vl.zero.cells++[v]))
def Sl.ps : Sl→List iE
 | .no=>[]
 | .lone p=>[p]
 | .sub _ ps=>ps
def upd (c : Nat→Nat) (L i : Nat) (j : Nat) : Nat:=if j=L then i else c j
def nZ (sm : Bs→Int) (c : Nat→Nat) (L : Nat) (k : Bs) : Prop:=∀ j,j < L→iD (sm k) j=c j
def iW (S : Nat→Sl) : List iE:=(List.range 32).flatMap fun i=>(S i).ps
theorem nZ.step {sm : Bs→Int} {c : Nat→Nat} {L : Nat} {k : Bs} (h : nZ sm c L k) : nZ sm (upd c L (iD (sm k) L)) (L+1) k:=by
 intro j hj
 unfold upd
 split
 ·rename_i e;rw [e]
 ·exact h j (by omega)
theorem nZ.back {sm : Bs→Int} {c : Nat→Nat} {L i : Nat} {k : Bs} (h : nZ sm (upd c L i) (L+1) k) : nZ sm c L k∧iD (sm k) L=i:=by
 refine ⟨fun j hj=>?_, ?_⟩
 ·have:=h j (by omega);rw [this];unfold upd;rw [if_neg (by omega)]
 ·have:=h L (by omega);rw [this];unfold upd;rw [if_pos rfl]
inductive HN (sm : Bs→Int) : Nat→(Nat→Nat)→VV→List iE→Prop
 | deep {c : Nat→Nat} {v : VV} {ps : List iE} (h : dG 12 v (ps.map au)) (hs : ps.Pairwise fun p q=>bl p.1 q.1=true) (h2 : 2≤ps.length) (hp : ∀ p ∈ ps,nZ sm c 13 p.1) : HN sm 13 c (.ptr [.int .u32 0,.nils,v] 0) ps
 | row {L : Nat} {c : Nat→Nat} {x : Nat} {l : VV} (S : Nat→Sl) (hL : L < 13) (hR : kN (fun i=>(S i).cells) x l) (h1 : ∀ i p,i < 32→S i=.lone p→nZ sm (upd c L i) (L+1) p.1)
   (h2 : ∀ i v ps,i < 32→S i=.sub v ps→HN sm (L+1) (upd c L i) v ps) : HN sm L c (.ptr [.int .u32 x,l,.nils] 0) (iW S)
theorem HN.cells {sm : Bs→Int} {L : Nat} {c : Nat→Nat} {v : VV} {ps : List iE} (h : HN sm L c v ps) : ∃ x l d,v=.ptr [.int .u32 x,l,d] 0∧l.aC=true∧d.aC=true∧v.isPure=true:=by
 cases h with
 | deep h=>exact ⟨0,_,_,rfl,rfl,h.cell,by simp [VV.isPure,VV.ak,h.pure]⟩
 | row S hL hR h1 h2=>exact ⟨_,_,_,rfl,hR.sl.cell,rfl,by simp [VV.isPure,VV.ak,hR.sl.pure]⟩
theorem HN.pure {sm : Bs→Int} {L : Nat} {c : Nat→Nat} {v : VV} {ps : List iE} (h : HN sm L c v ps) : v.isPure=true:=by
 obtain ⟨_,_,_,_,_,_,h⟩:=h.cells;exact h
theorem kN.empty : kN (fun _=>none) 0 .nils:=by
 refine ⟨by decide,fun i _=>by simp, ?_⟩
 have : slotsOf (fun _=>none)=[]:=by unfold slotsOf;simp
 rw [this];exact .nil
theorem mM {p : iE} (h : p.2.ok) : dh 12 [au p]:=⟨by simp [au,Vl.cells],by simp [au,VV.ak,VV.isPure,h.pure],fun x hx=>by
 simp only [List.mem_singleton] at hx
 subst hx
 have:=h.cell
 unfold aQ at this ⊢
 rw [au,List.all_cons,this];rfl⟩
theorem jv {p : iE} (h : p.2.ok) : dh 13 [au p++[.nilp]]:=by
 have h1:=(mM h).pure (au p) (by simp)
 have h2:=(mM h).cell (au p) (by simp)
 have h3:=(mM h).len (au p) (by simp)
 refine ⟨by simp [h3],by simp [iC,h1,VV.ak,VV.isPure],fun x hx=>?_⟩
 simp only [List.mem_singleton] at hx
 subst hx
 unfold aQ at h2 ⊢
 rw [List.all_append,h2];rfl
theorem qW {sm : Bs→Int} {L : Nat} {c : Nat→Nat} {v : VV} {ps : List iE} (h : HN sm L c v ps) : dh 13 [(.str []::(Vl.zero.cells++[v]) : List VV)]:=by
 obtain ⟨x,l,d,rfl,_,_,hp⟩:=h.cells
 refine ⟨by simp [Vl.cells], ?_,by simp;rfl⟩
 intro y hy
 simp only [List.mem_singleton] at hy
 subst hy
 simp [Vl.cells,Vl.zero,VV.ak,hp]
 simp [VV.isPure]
theorem uF {α β : Type} {f : α→List β} : ∀ {l : List α},(∀ a ∈ l,f a=[])→l.flatMap f=[]
 | [],_=>rfl
 | a::l,h=>by rw [List.flatMap_cons,h a (by simp),uF fun b hb=>h b (by simp [hb])];rfl
theorem lT {α β : Type} {f g : α→List β} : ∀ {l : List α},(∀ a ∈ l,f a=g a)→l.flatMap f=l.flatMap g
 | [],_=>rfl
 | a::l,h=>by rw [List.flatMap_cons,List.flatMap_cons,h a (by simp),lT fun b hb=>h b (by simp [hb])]
theorem l9 (S : Nat→Sl) {i : Nat} (hi : i < 32) : (iW S).Perm ((S i).ps++iW (fun j=>if j=i then .no else S j)):=by
 unfold iW
 have e : List.range 32=List.range i++([i]++(List.range (31-i)).map (i+1+·)):=by
  have h1:=List.range_add (n:=i) (m:=32-i)
  rw [show i+(32-i)=32 by omega] at h1
  rw [h1,show 32-i=(31-i)+1 by omega,List.range_succ_eq_map,List.map_cons,List.map_map]
  congr 1
  simp only [List.cons_append,List.nil_append,Nat.add_zero]
  congr 1
  refine List.map_congr_left fun a _=>?_
  simp only [Function.comp];omega
 rw [e]
 simp only [List.flatMap_append,List.flatMap_cons,List.flatMap_nil,List.append_nil,if_true]
 have a1 : (List.range i).flatMap (fun j=>(if j=i then Sl.no else S j).ps)=(List.range i).flatMap fun j=>(S j).ps :=
  lT fun j hj=>by have:=List.mem_range.1 hj;rw [if_neg (by omega)]
 have a2 : ((List.range (31-i)).map (i+1+·)).flatMap (fun j=>(if j=i then Sl.no else S j).ps)=((List.range (31-i)).map (i+1+·)).flatMap fun j=>(S j).ps :=
  lT fun j hj=>by
   obtain ⟨k,_,rfl⟩:=List.mem_map.1 hj
   rw [if_neg (by omega)]
 rw [a1,a2]
 simp only [Sl.ps,List.nil_append]
 rw [← List.append_assoc,← List.append_assoc]
 exact (List.perm_append_comm).append_right _
theorem qP (S : Nat→Sl) {i : Nat} (hi : i < 32) (s : Sl) : (iW (fun j=>if j=i then s else S j)).Perm (s.ps++iW (fun j=>if j=i then .no else S j)):=by
 have:=l9 (fun j=>if j=i then s else S j) hi
 simp only [if_true] at this
 have e : (fun j=>if j=i then Sl.no else if j=i then s else S j)=fun j=>if j=i then .no else S j:=by
  funext j;split<;>rfl
 rwa [e] at this
theorem qB : iW (fun _=>.no)=[]:=uF fun _ _=>rfl
end Go.V
namespace Go.V
open Go.Proofs
section
variable {α β : Type}
def cO (k : Bs) (x : α) : List (Bs × α)→List (Bs × α)
 | []=>[(k,x)]
 | (k',x')::l=>if bl k k'=true then (k,x)::(k',x')::l else if k=k' then (k,x)::l else (k',x')::cO k x l
def kP (l : List (Bs × α)) : List (Bs × α):=l.foldr (fun p acc=>cO p.1 p.2 acc) []
abbrev iJ (l : List (Bs × α)) : Prop:=l.Pairwise fun p q=>bl p.1 q.1=true
abbrev Keys (l : List (Bs × α)) : List Bs:=l.map (·.1)
abbrev jI (l : List (Bs × α)) : Prop:=l.Pairwise fun p q=>p.1≠q.1
theorem uo {x y : Bs} (h : bl x y=true) : x≠y:=fun e=>by rw [e,jA] at h;cases h
theorem ER {x y : Bs} (h : bl x y≠true) (hn : x≠y) : bl y x=true:=by
 cases h2 : bl y x with
 | true=>rfl
 | false=>exact absurd (zO x y (by simpa using h) h2) hn
theorem ng {k : Bs} {x : α} : ∀ {l : List (Bs × α)} {p : Bs × α},p ∈ cO k x l→p=(k,x)∨p ∈ l
 | [],p,h=>by simpa [cO] using h
 | (k',x')::l,p,h=>by
  unfold cO at h
  split at h
  ·rcases List.mem_cons.1 h with h | h
   ·exact .inl h
   ·exact .inr h
  ·split at h
   ·rcases List.mem_cons.1 h with h | h
    ·exact .inl h
    ·exact .inr (by simp [h])
   ·rcases List.mem_cons.1 h with h | h
    ·exact .inr (by simp [h])
    ·rcases ng h with h | h
     ·exact .inl h
     ·exact .inr (by simp [h])
theorem jQ {k : Bs} {x : α} : ∀ {l : List (Bs × α)},iJ l→iJ (cO k x l)
 | [],_=>by simp [cO]
 | (k',x')::l,h=>by
  obtain ⟨h1,h2⟩:=List.pairwise_cons.1 h
  unfold cO
  split
  ·rename_i hb
   refine List.pairwise_cons.2 ⟨fun p hp=>?_,h⟩
   rcases List.mem_cons.1 hp with rfl | hp
   ·exact hb
   ·exact kE _ _ _ hb (h1 p hp)
  ·rename_i hb
   split
   ·rename_i he
    subst he
    exact List.pairwise_cons.2 ⟨h1,h2⟩
   ·rename_i hne
    refine List.pairwise_cons.2 ⟨fun p hp=>?_,jQ h2⟩
    rcases ng hp with rfl | hp
    ·exact ER hb hne
    ·exact h1 p hp
theorem wo {k : Bs} {x : α} : ∀ {l : List (Bs × α)},(∀ p ∈ l,p.1≠k)→(cO k x l).Perm ((k,x)::l)
 | [],_=>by simp [cO]
 | (k',x')::l,h=>by
  unfold cO
  split
  ·exact .refl _
  ·split
   ·rename_i he
    exact absurd he.symm (h (k',x') (by simp))
   ·exact ((wo fun p hp=>h p (by simp [hp])).cons _).trans (.swap _ _ _)
theorem iJ.LU {l : List (Bs × α)} (h : iJ l) : jI l:=h.imp fun h=>uo h
theorem QC {l : List (Bs × α)} (h : l.Pairwise fun p q=>bl q.1 p.1=false) (hn : jI l) : iJ l :=
 h.imp₂ (fun p q a b=>ER (by rw [a];decide) (fun e=>b e.symm)) hn
theorem Az : ∀ (l : List (Bs × α)),iJ (kP l)
 | []=>List.Pairwise.nil
 | p::l=>jQ (Az l)
theorem kX : ∀ {l : List (Bs × α)},jI l→(kP l).Perm l
 | [],_=>.refl _
 | p::l,h=>by
  obtain ⟨h1,h2⟩:=List.pairwise_cons.1 h
  have ih:=kX h2
  exact (wo fun q hq=>(h1 q (ih.mem_iff.1 hq)).symm).trans (ih.cons _)
theorem Yx : ∀ {l m : List (Bs × α)},iJ l→iJ m→(∀ p,p ∈ l↔p ∈ m)→l=m
 | [],[],_,_,_=>rfl
 | [],b::m,_,_,h=>by have:=(h b).2 (by simp);simp at this
 | a::l,[],_,_,h=>by have:=(h a).1 (by simp);simp at this
 | a::l,b::m,hl,hm,h=>by
  obtain ⟨l1,l2⟩:=List.pairwise_cons.1 hl
  obtain ⟨m1,m2⟩:=List.pairwise_cons.1 hm
  have hab : a=b:=by
   rcases List.mem_cons.1 ((h a).1 (by simp)) with e | h1
   ·exact e
   ·rcases List.mem_cons.1 ((h b).2 (by simp)) with e | h2
    ·exact e.symm
    ·have:=Eb (m1 a h1)
     rw [l1 b h2] at this;cases this
  subst hab
  rw [Yx l2 m2 fun p=>⟨fun hp=>?_,fun hp=>?_⟩]
  ·rcases List.mem_cons.1 ((h p).1 (by simp [hp])) with e | h1
   ·have:=uo (l1 p hp);rw [e] at this;exact absurd rfl this
   ·exact h1
  ·rcases List.mem_cons.1 ((h p).2 (by simp [hp])) with e | h1
   ·have:=uo (m1 p hp);rw [e] at this;exact absurd rfl this
   ·exact h1
theorem KH {l m : List (Bs × α)} (hl : iJ l) (hm : iJ m) (h : l.Perm m) : l=m:=Yx hl hm fun _=>h.mem_iff
theorem jI.perm {l m : List (Bs × α)} (h : l.Perm m) (hl : jI l) : jI m:=(h.pairwise_iff fun h=>Ne.symm h).1 hl
theorem I8 {l m : List (Bs × α)} (hm : iJ m) (h : m.Perm l) : kP l=m:=KH (Az l) hm ((kX (hm.LU.perm h)).trans h.symm)
end
theorem HN.U4 {sm : Bs→Int} {L : Nat} {c : Nat→Nat} {v : VV} {ps : List iE} (h : HN sm L c v ps) : ∀ p ∈ ps,nZ sm c L p.1:=by
 induction h with
 | deep h hs h2 hp=>exact hp
 | @row L c x l S hL hR h1 h2 ih =>
  intro p hp
  obtain ⟨i,hi,hpi⟩:=List.mem_flatMap.1 hp
  have hi:=List.mem_range.1 hi
  cases hS : S i with
  | no=>rw [hS] at hpi;simp [Sl.ps] at hpi
  | lone q =>
   rw [hS] at hpi
   simp [Sl.ps] at hpi
   subst hpi
   exact (h1 i p hi hS).back.1
  | sub v qs =>
   rw [hS] at hpi
   exact (ih i v qs hi hS p hpi).back.1
theorem HN.nodup {sm : Bs→Int} {L : Nat} {c : Nat→Nat} {v : VV} {ps : List iE} (h : HN sm L c v ps) : jI ps:=by
 induction h with
 | deep h hs h2 hp=>exact iJ.LU hs
 | @row L c x l S hL hR h1 h2 ih =>
  have hch : ∀ i,i < 32→∀ p ∈ (S i).ps,iD (sm p.1) L=i:=by
   intro i hi p hpi
   cases hS : S i with
   | no=>rw [hS] at hpi;simp [Sl.ps] at hpi
   | lone q =>
    rw [hS] at hpi
    simp [Sl.ps] at hpi
    subst hpi
    exact (h1 i p hi hS).back.2
   | sub v qs =>
    rw [hS] at hpi
    exact ((h2 i v qs hi hS).U4 p hpi).back.2
  unfold iW jI
  rw [List.pairwise_flatMap]
  refine ⟨fun i hi=>?_, ?_⟩
  ·have hi:=List.mem_range.1 hi
   cases hS : S i with
   | no=>simp [Sl.ps]
   | lone q=>simp [Sl.ps]
   | sub v qs=>exact ih i v qs hi hS
  ·refine List.Pairwise.imp_of_mem ?_ (List.nodup_range (n:=32))
   intro i j hi hj hij p hp q hq e
   rw [List.mem_range] at hi hj
   have h3:=hch i hi p hp
   rw [e,hch j hj q hq] at h3
   exact hij h3.symm
end Go.V
