/- Texts L15 L16 F80 F83 F84 F85 L21 L22. -/
import Derived.Test.YthhjefemijhamaaGreatDoorG39
import Derived.Test.YthhjefemijhamaaGreatDoorG42
set_option linter.unusedVariables false
set_option linter.unusedSimpArgs false
namespace Go.V
structure Tk where
 k : Nat
 a : Nat
 e : Nat
 i : Int
 t : Bs
def Tk.of (y : Tk) : Nat × Int × Bs:=(y.k,y.i,y.t)
inductive TL (s : Bs) : Int→List (Nat × Int × Bs)→Prop
 | nil {a : Int} {x e : Nat} {i : Int} {t : Bs} : lexNext s a=.tok 0 x e i t→TL s a []
 | cons {a : Int} {k x e : Nat} {i : Int} {t : Bs} {l : List (Nat × Int × Bs)} : lexNext s a=.tok k x e i t→k≠0→TL s e l→TL s a ((k,i,t)::l)
end Go.V
namespace Go.V
def Tk.ok (y : Tk) : Prop:=(y.k=1∧y.i=0∧y.t ∈ signTexts)∨(y.k=2∧y.i=0∧∃ c w,y.t=c::w∧letB c=true∧w.all wordB=true)∨(y.k=3∧y.t=[]∧-9223372036854775808≤y.i∧y.i≤9223372036854775807)∨(y.k=4∧y.i=0)
end Go.V
namespace Go.V
open Go.Proofs
set_option maxRecDepth 100000
def Tk.cells (y : Tk) : List VV:=[.int .i64 y.k,.int .i64 y.a,.int .i64 y.e,.int .i64 y.i,.str y.t]
theorem Tk.blks (l : List Tk) : Blk 5 (l.map Tk.cells):=by
 refine ⟨fun x hx=>?_,fun x hx=>?_,fun x hx=>?_⟩<;>obtain ⟨p,hp,rfl⟩:=List.mem_map.1 hx
 ·rfl
 ·rfl
 ·rfl
end Go.V
namespace Go.V
open Go.Proofs
set_option maxRecDepth 100000
inductive Tr where
 | node (k i : Int) (t : Bs) (keys : List Bs) (items : List Tr)
mutual
inductive TrV : Tr→List VV→Prop
 | node {k i : Int} {t : Bs} {keys : List Bs} {items : List Tr} {kv iv : VV} {cs : List (List VV)} : SlV 1 kv (keys.map fun b=>[VV.str b])→TrVs items cs→SlV 5 iv cs→keys.length≤9223372036854775807→items.length≤9223372036854775807 →
   -9223372036854775808≤k→k≤9223372036854775807→-9223372036854775808≤i→i≤9223372036854775807→TrV (.node k i t keys items) [.int .i64 k,.int .i64 i,.str t,kv,iv]
inductive TrVs : List Tr→List (List VV)→Prop
 | nil : TrVs [] []
 | cons {x : Tr} {c : List VV} {l : List Tr} {cs : List (List VV)} : TrV x c→TrVs l cs→TrVs (x::l) (c::cs)
end
theorem TrVs.len : ∀ {l : List Tr} {cs : List (List VV)},TrVs l cs→cs.length=l.length
 | [],_,.nil=>rfl
 | x::l,_,.cons _ h=>by simp [TrVs.len h]
theorem TrVs.get : ∀ {l : List Tr} {cs : List (List VV)},TrVs l cs→∀ (j : Nat) (h : j < l.length) (h' : j < cs.length),TrV l[j] cs[j]
 | x::l,_,.cons h1 h2,0,_,_=>h1
 | x::l,_,.cons h1 h2,j+1,h,h'=>TrVs.get h2 j (by simpa using h) (by simpa using h')
theorem TrV.cells {x : Tr} {c : List VV} (h : TrV x c) : c.length=5∧VV.arePure c=true∧c.all VV.isCell=true:=by
 cases h with
 | node h1 h2 h3 =>
  refine ⟨rfl, ?_, ?_⟩
  ·simp only [VV.arePure,VV.isPure,h1.pure,h3.pure];rfl
  ·simp only [List.all_cons,List.all_nil,h1.cell,h3.cell];rfl
mutual
def Tr.small : Tr→Nat→Int→Int × Bool
 | .node _ _ t keys items,d,left=>if left < 1∨80 < d∨200 < t.length∨left+50 < keys.length∨keys.any (fun k=>decide (200 < k.length))=true then (0,false) else Tr.smalls items (d+1) (left-1)
def Tr.smalls : List Tr→Nat→Int→Int × Bool
 | [],_,left=>(left,true)
 | x::l,d,left=>match x.small d left with
  | (left',true)=>Tr.smalls l d left'
  | (_,false)=>(0,false)
end
mutual
theorem small_le : ∀ (x : Tr) (d : Nat) (left : Int),0≤left→0≤(x.small d left).1∧(x.small d left).1≤left
 | .node _ _ t keys items,d,left,h=>by
  unfold Tr.small
  split
  ·exact ⟨Int.le_refl _,h⟩
  ·have:=smalls_le items (d+1) (left-1) (by omega)
   omega
theorem smalls_le : ∀ (l : List Tr) (d : Nat) (left : Int),0≤left→0≤(Tr.smalls l d left).1∧(Tr.smalls l d left).1≤left
 | [],d,left,h=>by unfold Tr.smalls;exact ⟨h,Int.le_refl _⟩
 | x::l,d,left,h=>by
  have h1:=small_le x d left h
  unfold Tr.smalls
  split
  ·rename_i l' e
   rw [e] at h1
   have:=smalls_le l d l' h1.1
   simp only at h1 ⊢
   omega
  ·exact ⟨Int.le_refl _,h⟩
end
theorem small_node (k i : Int) (t : Bs) (keys : List Bs) (items : List Tr) (kv iv : VV) (cs : List (List VV)) (hk : SlV 1 kv (keys.map fun b=>[VV.str b])) (hcs : TrVs items cs) (hi : SlV 5 iv cs) (hkl : keys.length≤9223372036854775807) (hil : items.length≤9223372036854775807) (d : Nat) (left : Int) (hd : d≤81) (h0 : 0≤left) (h4 : left≤400)
  (ih : ∀ (j : Nat) (h : j < items.length) (h' : j < cs.length) (left : Int),d≤80→0≤left→left≤400→PV Tryz.prog G0 39 [.agg cs[j],.int .i64 (d+1 : Nat),.int .i64 left] (.tup [.int .i64 (items[j].small (d+1) left).1,.bool (items[j].small (d+1) left).2])) :
  PV Tryz.prog G0 39 [.agg [.int .i64 k,.int .i64 i,.str t,kv,iv],.int .i64 d,.int .i64 left] (.tup [.int .i64 (Tr.small (.node k i t keys items) d left).1,.bool (Tr.small (.node k i t keys items) d left).2]):=by
 have hkp:=hk.pure
 have hip:=hi.pure
 have hkc:=hk.cell
 have hic:=hi.cell
 have hksl : ∀ {σ},evLen Tryz.prog 25 kv σ=okV (.int .i64 keys.length) σ:=by intro σ;rw [hk.evLen k_tsl_25];simp
 have hisl : ∀ {σ},evLen Tryz.prog 26 iv σ=okV (.int .i64 items.length) σ:=by intro σ;rw [hi.evLen k_tsl_26,hcs.len]
 have w50 : IntKind.i64.wrap (left+50)=left+50:=iw (by omega)
 refine pv e39 (by simp) (by simp only [VV.arePure,VV.isPure,hkp,hip];rfl) rfl ?_
 simp only [go_sem,seval] at hkc
 simp only [go_sem,seval] at hic
 have hbad : ∀ (h : left < 1∨80 < d∨200 < t.length∨left+50 < keys.length∨keys.any (fun k=>decide (200 < k.length))=true),VV.tup [.int .i64 0,.bool false]=VV.tup [.int .i64 (Tr.small (.node k i t keys items) d left).1,.bool (Tr.small (.node k i t keys items) d left).2]:=fun h=>by unfold Tr.small;rw [if_pos h]
 by_cases c1 : left < 1
 ·have b1 : decide (left < 1)=true:=decide_eq_true c1
  simp only [go_sem,seval,c39,b1,hkc,hic]
  exact fin (by rfl) (hbad (.inl c1))
 have b1 : decide (left < 1)=false:=decide_eq_false c1
 by_cases c2 : 80 < d
 ·have b2 : decide ((80 : Int) < (d : Int))=true:=decide_eq_true (by omega)
  simp only [go_sem,seval,c39,b1,b2,hkc,hic]
  exact fin (by rfl) (hbad (.inr (.inl c2)))
 have b2 : decide ((80 : Int) < (d : Int))=false:=decide_eq_false (by omega)
 by_cases c3 : 200 < t.length
 ·have b3 : decide ((200 : Int) < (t.length : Int))=true:=decide_eq_true (by omega)
  simp only [go_sem,seval,c39,b1,b2,b3,hkc,hic]
  exact fin (by rfl) (hbad (.inr (.inr (.inl c3))))
 have b3 : decide ((200 : Int) < (t.length : Int))=false:=decide_eq_false (by omega)
 by_cases c4 : left+50 < keys.length
 ·have b4 : decide (left+50 < (keys.length : Int))=true:=decide_eq_true (by omega)
  simp only [go_sem,seval,c39,b1,b2,b3,b4,w50,hksl,hkc,hic]
  exact fin (by rfl) (hbad (.inr (.inr (.inr (.inl c4)))))
 have b4 : decide (left+50 < (keys.length : Int))=false:=decide_eq_false (by omega)
 simp only [go_sem,seval,c39,b1,b2,b3,b4,w50,hksl,hkc,hic]
 have hBk:=hk.blk
 have hBi:=hi.blk
 have hcl:=hcs.len
 have hsm : keys.any (fun k=>decide (200 < k.length))=false→Tr.small (.node k i t keys items) d left=Tr.smalls items (d+1) (left-1):=fun h=>by
  unfold Tr.small
  rw [if_neg (by rw [h];simp;omega)]
 refine wpV_cutB (M:=fun ρ τ=>keys.any (fun k=>decide (200 < k.length))=false∧ρ.get 1=.int .i64 d∧ρ.get 2=.int .i64 left∧ρ.get 3=.mptr 0 0∧τ=[.own [.int .i64 k,.int .i64 i,.str t,kv,iv]]) ?_ ?_
 rotate_left
 ·refine wpV_loop_inv (fun m ρ τ=>∃ j : Nat,m=keys.length-j∧j≤keys.length∧(∀ x ∈ keys.take j,x.length≤200)∧ρ.get 1=.int .i64 d∧ρ.get 2=.int .i64 left∧ρ.get 3=.mptr 0 0∧ρ.get 34=kv∧ρ.get 35=.int .i64 keys.length∧ρ.get 36=.int .i64 j∧τ=[.own [.int .i64 k,.int .i64 i,.str t,kv,iv]]) (n:=keys.length) ?_ ⟨0,rfl,by omega,by simp,rfl,rfl,rfl,rfl,rfl,rfl,rfl⟩
  rintro m ρ _ ⟨j,rfl,hj,hal,q1,q2,q3,q34,q35,q36,rfl⟩
  simp only [go_sem,seval,q34,q35,q36]
  refine condO_split (fun hc=>?_) (fun hc=>?_)
  rotate_left
  ·have hc' : j=keys.length:=by simp at hc;omega
   subst hc'
   rw [List.take_length] at hal
   simp only [go_sem,seval,q1,q2,q3]
   rw [List.any_eq_false]
   intro x hx
   have:=hal x hx
   simp;omega
  have hc' : j < keys.length:=by simpa using hc
  obtain ⟨tg,hkt⟩:=hk.sl_of (by intro e;have:=congrArg List.length e;simp at this;rw [this] at hc';simp at hc')
  rw [List.length_map] at hkt
  have a1 : (0 : Int)≤(j : Int):=by omega
  have a2 : (j : Int) < (keys.length : Int):=by omega
  have a3 : j*1 < (keys.map fun b=>[VV.str b]).flatten.length:=by rw [hBk.flat,List.length_map];omega
  have a4 : (keys.map fun b=>[VV.str b]).flatten.getD (j*1) .undef=VV.str keys[j]:=by
   have h:=hBk.fget (i:=j) (by simpa using hc')
   have h2:=congrArg (·[0]?) h
   simp only [List.getElem?_take_of_lt (Nat.zero_lt_one),List.getElem?_drop,List.getElem_map,List.getElem?_cons_zero,Nat.add_zero] at h2
   rw [List.getD_eq_getElem?_getD,h2];rfl
  have a6 : IntKind.i64.wrap ((j : Int)+1)=((j+1 : Nat) : Int):=by rw [iw (by omega)];omega
  simp only [go_sem,seval,q1,q2,q3,q34,q35,q36,hkt,a1,a2,a3,a4,Int.toNat_natCast]
  refine condO_split (fun hb=>?_) (fun hb=>?_)
  ·have hb' : 200 < keys[j].length:=by simp at hb;omega
   simp only [go_sem,seval]
   exact fin (by rfl) (hbad (.inr (.inr (.inr (.inr (List.any_eq_true.2 ⟨keys[j],List.getElem_mem hc',by simpa using hb'⟩))))))
  ·have hb' : ¬ 200 < keys[j].length:=by simp at hb;omega
   simp only [go_sem,seval,q1,q2,q3,q34,q35,q36,a6]
   refine ⟨keys.length-(j+1),by omega,j+1,rfl,by omega,fun x hx=>?_,hkt,rfl⟩
   rw [List.take_succ_eq_append_getElem hc'] at hx
   rcases List.mem_append.1 hx with h | h
   ·exact hal x h
   ·simp at h;subst h;omega
 rintro ρ _ ⟨hany,q1,q2,q3,rfl⟩
 have wl : IntKind.i64.wrap (left-1)=left-1:=iw (by omega)
 have wd : IntKind.i64.wrap ((d : Int)+1)=((d+1 : Nat) : Int):=by rw [iw (by omega)];omega
 simp only [go_sem,seval,q1,q2,q3,wl,hisl]
 rw [hsm hany]
 refine wpV_cutB (M:=fun ρ τ=>∃ l' : Int,ρ.get 2=.int .i64 l'∧Tr.smalls items (d+1) (left-1)=(l',true)) ?_ ?_
 ·rintro ρ τ ⟨l',q2,he⟩
  simp only [go_sem,seval,q2]
  rw [he]
  exact fin (by rfl) rfl
 refine wpV_loop_inv (fun m ρ τ=>∃ (j : Nat) (l' : Int),m=items.length-j∧j≤items.length∧0≤l'∧l'≤400∧Tr.smalls items (d+1) (left-1)=Tr.smalls (items.drop j) (d+1) l'∧ρ.get 1=.int .i64 d∧ρ.get 2=.int .i64 l'∧ρ.get 47=iv∧ρ.get 48=.int .i64 items.length∧ρ.get 49=.int .i64 j) (n:=items.length) ?_ ⟨0,left-1,rfl,by omega,by omega,by omega,by simp,q1,rfl,rfl,rfl,rfl⟩
 rintro m ρ τ ⟨j,l',rfl,hj,hl0,hl4,he,q1,q2,q47,q48,q49⟩
 simp only [go_sem,seval,q47,q48,q49]
 refine condO_split (fun hc=>?_) (fun hc=>?_)
 rotate_left
 ·have hc' : j=items.length:=by simp at hc;omega
  subst hc'
  simp only [go_sem,seval,q2]
  rw [he,List.drop_length]
  exact ⟨l',rfl,by simp only [Tr.smalls]⟩
 have hc' : j < items.length:=by simpa using hc
 have hcj : j < cs.length:=by omega
 obtain ⟨tg,hit⟩:=hi.sl_of (by intro e;rw [e] at hcj;simp at hcj)
 rw [hcl] at hit
 have hT:=hcs.get j hc' hcj
 obtain ⟨x1,x2,x3⟩:=hT.cells
 have x4 : cs[j].take 5=cs[j]:=List.take_of_length_le (by omega)
 have a1 : (0 : Int)≤(j : Int):=by omega
 have a2 : (j : Int) < (items.length : Int):=by omega
 have a3 : j*5+5≤cs.flatten.length:=by rw [hBi.flat];omega
 have a4 : (cs.flatten.drop (j*5)).take 5=cs[j]:=hBi.fget hcj
 have a6 : IntKind.i64.wrap ((j : Int)+1)=((j+1 : Nat) : Int):=by rw [iw (by omega)];omega
 have hr:=small_le items[j] (d+1) l' hl0
 have hih:=ih j hc' hcj l' (by omega) hl0 hl4
 rw [List.drop_eq_getElem_cons hc',Tr.smalls] at he
 simp only [go_sem,seval,q1,q2,q47,q48,q49,hit,a1,a2,a3,a4,x1,x3,x4,wd,Int.toNat_natCast,SS]
 (first | refine callO_pure (hih) ?_ | refine dpureO_of (hih) ?_ | refine dpureO_save (hih) ?_ | refine dcallO_pure (hih) (by simp only [go_sem,seval,q1,q2,q47,q48,q49]) ?_ | refine dcallO_pure (hih) ?_ ?_)<;>simp only [go_sem,seval,q1,q2,q47,q48,q49]
 generalize items[j].small (d+1) l'=rr at *
 obtain ⟨l2,ok⟩:=rr
 cases ok with
 | false =>
  simp only [go_sem,seval]
  simp only at he
  rw [he]
  exact fin (by rfl) rfl
 | true =>
  simp only at he hr
  simp only [go_sem,seval,q1,q47,q48,q49,a6]
  exact ⟨items.length-(j+1),by omega,j+1,l2,rfl,by omega,hr.1,by omega,he,rfl,hit,rfl⟩
mutual
theorem p_small : ∀ (x : Tr) (c : List VV) (d : Nat) (left : Int),TrV x c→d≤81→0≤left→left≤400→PV Tryz.prog G0 39 [.agg c,.int .i64 d,.int .i64 left] (.tup [.int .i64 (x.small d left).1,.bool (x.small d left).2])
 | .node k i t keys items,c,d,left,h,hd,h0,h40=>by
  cases h with
  | node h1 h2 h3 h4 h5=>exact small_node k i t keys items _ _ _ h1 h2 h3 h4 h5 d left hd h0 h40 fun j h h' l' hd' hl0 hl4=>p_smalls items _ h2 j h h' (d+1) l' (by omega) hl0 hl4
theorem p_smalls : ∀ (l : List Tr) (cs : List (List VV)),TrVs l cs→∀ (j : Nat) (h : j < l.length) (h' : j < cs.length) (d : Nat) (left : Int),d≤81→0≤left→left≤400→PV Tryz.prog G0 39 [.agg cs[j],.int .i64 d,.int .i64 left] (.tup [.int .i64 (l[j].small d left).1,.bool (l[j].small d left).2])
 | x::l,c::cs,.cons h1 h2,0,_,_,d,left,hd,h0,h4=>p_small x c d left h1 hd h0 h4
 | x::l,c::cs,.cons h1 h2,j+1,h,h',d,left,hd,h0,h4=>p_smalls l cs h2 j (by simpa using h) (by simpa using h') d left hd h0 h4
end
theorem p_Small {x : Tr} {c : List VV} (h : TrV x c) : PV Tryz.prog G0 14 [.agg c,.int .i64 400] (.bool (x.small 0 400).2):=by
 obtain ⟨x1,x2,x3⟩:=h.cells
 have x4 : c.take 5=c:=List.take_of_length_le (by omega)
 have hs:=p_small x c 0 400 h (by omega) (by omega) (by omega)
 refine pv e14 (by simp) (by simp only [VV.arePure,VV.isPure,x2];rfl) rfl ?_
 simp only [go_sem,seval,c14,x1,x3,x4]
 (first | refine callO_pure (hs) ?_ | refine dpureO_of (hs) ?_ | refine dpureO_save (hs) ?_ | refine dcallO_pure (hs) (by simp only [go_sem,seval]) ?_ | refine dcallO_pure (hs) ?_ ?_)<;>simp only [go_sem,seval]
 exact fin (by rfl) rfl
end Go.V
namespace Go.V
open Go.Proofs
set_option maxRecDepth 100000
def addK (l : List Bs) (k : Bs) : List Bs:=if k ∈ l then l else l++[k]
def ddK (ks : List Bs) : List Bs:=ks.foldl addK []
theorem mapSet_keys (k : Bs) (v : VV) : ∀ es : List (List UInt8 × VV),(mapSet es k v).map (·.1)=addK (es.map (·.1)) k
 | []=>by simp [mapSet,addK]
 | (k',u)::es=>by
  have ih:=mapSet_keys k v es
  unfold mapSet
  by_cases h : k=k'
  ·subst h;simp [addK]
  ·have hb : (k == k')=false:=by simpa using h
   rw [hb]
   simp only [Bool.false_eq_true,if_false,List.map_cons,ih,addK,List.mem_cons]
   by_cases h2 : k ∈ es.map (·.1)
   ·rw [if_pos h2,if_pos (.inr h2)]
   ·rw [if_neg h2,if_neg (by intro h3;rcases h3 with h3 | h3;exact h h3;exact h2 h3)];rfl
theorem mapSet_int (k : Bs) (n : Int) : ∀ es : List (List UInt8 × VV),(∀ e ∈ es,∃ m,e.2=VV.int .i64 m)→∀ e ∈ mapSet es k (.int .i64 n),∃ m,e.2=VV.int .i64 m
 | [],_,e,he=>by simp [mapSet] at he;subst he;exact ⟨n,rfl⟩
 | (k',u)::es,h,e,he=>by
  unfold mapSet at he
  split at he
  ·rcases List.mem_cons.1 he with rfl | he
   ·exact ⟨n,rfl⟩
   ·exact h e (by simp [he])
  ·rcases List.mem_cons.1 he with rfl | he
   ·exact h _ (by simp)
   ·exact mapSet_int k n es (fun e he=>h e (by simp [he])) e he
theorem mapGet_int (k : Bs) : ∀ es : List (List UInt8 × VV),(∀ e ∈ es,∃ m,e.2=VV.int .i64 m)→mapGet es k=none∨∃ m,mapGet es k=some (.int .i64 m)
 | [],_=>.inl rfl
 | (k',u)::es,h=>by
  unfold mapGet
  split
  ·obtain ⟨m,e⟩:=h _ (List.mem_cons_self ..);exact .inr ⟨m,by rw [← e]⟩
  ·exact mapGet_int k es fun e he=>h e (by simp [he])
def ownV (k i : Int) (t : Bs) (keys : List Bs) (n : Nat) : Int :=
  if k=5 then (if keys.length≠n then 1 else if i≠0∨t≠[] then 1 else if (ddK keys).length < keys.length then 6 else 0)
  else if k=4∨k=6 then (if 0 < keys.length∨i≠0∨t≠[] then 1 else 0)
  else if k=0∨k=1∨k=2∨k=3 then (if 0 < keys.length+n then 1 else checkS k i t)
  else 3
theorem oo_lookup {P : Program} {G : Nat→Option (List VV)} {t : TypeId} {m k : Operand} {c : Bool} {ty : TypeId} {ρ : Env} {σ : Store} : oo P G (.lookup t m k c) ty ρ σ=match tmapS P t,ev G ρ m,ev G ρ k with
  | some e,.mmap id,.str s=>match σ[id]?,tzero1 P e with
   | some (.mp es),some z=>okV (if c=true then .tup [(mapGet es s).getD z,.bool (mapGet es s).isSome] else (mapGet es s).getD z) σ
   | _,_=>none
  | _,_,_=>none:=rfl
theorem oo_mapUpdate {P : Program} {G : Nat→Option (List VV)} {t : TypeId} {m k x : Operand} {ty : TypeId} {ρ : Env} {σ : Store} : oo P G (.mapUpdate t m k x) ty ρ σ=match tmapS P t,ev G ρ m,ev G ρ k with
  | some _,.mmap id,.str s=>match σ[id]? with
   | some (.mp es)=>okV .undef (σ.set id (.mp (mapSet es s (ev G ρ x))))
   | _=>none
  | _,_,_=>none:=rfl
theorem evLen_mm {σ : Store} {id : Nat} {es : List (List UInt8 × VV)} (h : σ[id]?=some (.mp es)) : evLen Tryz.prog 181 (.mmap id) σ=okV (.int .i64 es.length) σ:=by simp [evLen,k_und_181,h]
theorem p_own (k i : Int) (t : Bs) (keys : List Bs) (n : Nat) (kv iv : VV) (cs : List (List VV)) (hk : SlV 1 kv (keys.map fun b=>[VV.str b])) (hcl : cs.length=n) (hi : SlV 5 iv cs) (hkl : keys.length≤100000) (hil : n≤100000) :
  PV Tryz.prog G0 63 [.agg [.int .i64 k,.int .i64 i,.str t,kv,iv]] (.int .i64 (ownV k i t keys n)):=by
 have hkp:=hk.pure
 have hip:=hi.pure
 have hkc:=hk.cell
 have hic:=hi.cell
 have hksl : ∀ {σ},evLen Tryz.prog 25 kv σ=okV (.int .i64 keys.length) σ:=by intro σ;rw [hk.evLen k_tsl_25];simp
 have hisl : ∀ {σ},evLen Tryz.prog 26 iv σ=okV (.int .i64 n) σ:=by intro σ;rw [hi.evLen k_tsl_26,hcl]
 have hBk:=hk.blk
 refine pv e63 (by simp) (by simp only [VV.arePure,VV.isPure,hkp,hip];rfl) rfl ?_
 simp only [go_sem,seval] at hkc
 simp only [go_sem,seval] at hic
 obtain ⟨E,hE⟩ : ∃ E,E=ownV k i t keys n:=⟨_,rfl⟩
 rw [← hE]
 have bt : (t == [])=decide (t=[]):=by by_cases h : t=[]<;>simp [h]
 by_cases c5 : k=5
 ·subst c5
  by_cases cl : keys.length=n
  rotate_left
  ·have b1 : ((keys.length : Int) == (n : Int))=false:=by simp;omega
   simp only [go_sem,seval,c63,bne,Bool.not_false,Bool.not_true,hkc,hic,hksl,hisl,b1]
   exact fin (by rfl) (by rw [hE];simp [ownV,cl])
  have b1 : ((keys.length : Int) == (n : Int))=true:=by simp;omega
  simp only [go_sem,seval,c63,bne,Bool.not_false,Bool.not_true,hkc,hic,hksl,hisl,b1]
  refine wpV_cutB (M:=fun ρ τ=>∃ es,ρ.get 1=.mptr 0 0∧ρ.get 3=.mmap 1∧τ=[.own [.int .i64 5,.int .i64 i,.str t,kv,iv],.mp es]∧es.map (·.1)=ddK keys) ?_ ?_
  rotate_left
  ·refine wpV_loop_inv (fun m ρ τ=>∃ (j : Nat) (es : List (List UInt8 × VV)),m=keys.length-j∧j≤keys.length∧es.map (·.1)=ddK (keys.take j)∧(∀ e ∈ es,∃ m,e.2=VV.int .i64 m)∧ρ.get 1=.mptr 0 0∧ρ.get 3=.mmap 1∧ρ.get 19=kv∧ρ.get 20=.int .i64 keys.length∧ρ.get 21=.int .i64 j∧τ=[.own [.int .i64 5,.int .i64 i,.str t,kv,iv],.mp es]) (n:=keys.length) ?_ ⟨0,[],rfl,by omega,rfl,by simp,rfl,rfl,rfl,rfl,rfl,rfl⟩
   rintro m ρ _ ⟨j,es,rfl,hj,hes,hint,q1,q3,q19,q20,q21,rfl⟩
   simp only [go_sem,seval,q19,q20,q21]
   refine condO_split (fun hc=>?_) (fun hc=>?_)
   rotate_left
   ·have hc' : j=keys.length:=by simp at hc;omega
    subst hc'
    rw [List.take_length] at hes
    simp only [go_sem,seval,q1,q3]
    exact ⟨es,rfl,hes⟩
   have hc' : j < keys.length:=by simpa using hc
   obtain ⟨tg,hkt⟩:=hk.sl_of (by intro e;have:=congrArg List.length e;simp at this;rw [this] at hc';simp at hc')
   rw [List.length_map] at hkt
   have a1 : (0 : Int)≤(j : Int):=by omega
   have a2 : (j : Int) < (keys.length : Int):=by omega
   have a3 : j*1 < (keys.map fun b=>[VV.str b]).flatten.length:=by rw [hBk.flat,List.length_map];omega
   have a4 : (keys.map fun b=>[VV.str b]).flatten.getD (j*1) .undef=VV.str keys[j]:=by
    have h:=hBk.fget (i:=j) (by simpa using hc')
    have h2:=congrArg (·[0]?) h
    simp only [List.getElem?_take_of_lt (Nat.zero_lt_one),List.getElem?_drop,List.getElem_map,List.getElem?_cons_zero,Nat.add_zero] at h2
    rw [List.getD_eq_getElem?_getD,h2];rfl
   have a6 : IntKind.i64.wrap ((j : Int)+1)=((j+1 : Nat) : Int):=by rw [iw (by omega)];omega
   obtain ⟨cnt,hcnt⟩ : ∃ c,(mapGet es keys[j]).getD (.int .i64 0)=VV.int .i64 c:=by
    rcases mapGet_int keys[j] es hint with h | ⟨m,h⟩
    ·exact ⟨0,by rw [h];rfl⟩
    ·exact ⟨m,by rw [h];rfl⟩
   simp only [go_sem,seval,q1,q3,q19,q20,q21,hkt,a1,a2,a3,a4,a6,oo_lookup,oo_mapUpdate,hcnt,Int.toNat_natCast]
   refine ⟨keys.length-(j+1),by omega,j+1,_,rfl,by omega, ?_, ?_,rfl,rfl⟩
   ·rw [mapSet_keys,hes,List.take_succ_eq_append_getElem hc']
    unfold ddK
    rw [List.foldl_append];rfl
   ·exact mapSet_int _ _ es hint
  rintro ρ _ ⟨es,q1,q3,rfl,hes⟩
  have hel : es.length=(ddK keys).length:=by rw [← hes];simp
  by_cases d2 : i=0
  rotate_left
  ·have e2 : (i == 0)=false:=by simpa using d2
   simp only [go_sem,seval,q1,q3,bne,Bool.not_false,Bool.not_true,hksl,e2]
   exact fin (by rfl) (by rw [hE];simp [ownV,cl,d2])
  have e2 : (i == 0)=true:=by simpa using d2
  by_cases d3 : t=[]
  rotate_left
  ·have e3 : (t == [])=false:=by simpa using d3
   simp only [go_sem,seval,q1,q3,bne,Bool.not_false,Bool.not_true,hksl,e2,e3]
   exact fin (by rfl) (by rw [hE];simp [ownV,cl,d2,d3])
  subst d3
  have hml:=evLen_mm (σ:=[.own [.int .i64 5,.int .i64 i,.str [],kv,iv],.mp es]) (id:=1) rfl
  by_cases d4 : (ddK keys).length < keys.length
  ·have e4 : decide (((ddK keys).length : Int) < (keys.length : Int))=true:=decide_eq_true (by omega)
   simp only [go_sem,seval,q1,q3,bne,Bool.not_false,Bool.not_true,hksl,e2,hml,hel,e4]
   exact fin (by rfl) (by rw [hE];simp [ownV,cl,d2];omega)
  ·have e4 : decide (((ddK keys).length : Int) < (keys.length : Int))=false:=decide_eq_false (by omega)
   simp only [go_sem,seval,q1,q3,bne,Bool.not_false,Bool.not_true,hksl,e2,hml,hel,e4]
   exact fin (by rfl) (by rw [hE];simp [ownV,cl,d2];omega)
 have b5 : (k == 5)=false:=by simpa using c5
 by_cases c46 : k=4∨k=6
 ·have b4 : (k == 4)=true∨((k == 4)=false∧(k == 6)=true):=by rcases c46 with rfl | rfl<;>simp
  by_cases d1 : 0 < keys.length
  ·have e1 : decide ((0 : Int) < (keys.length : Int))=true:=decide_eq_true (by omega)
   rcases b4 with b4 | ⟨b4,b6⟩
   ·simp only [go_sem,seval,c63,bne,Bool.not_false,Bool.not_true,hkc,hic,hksl,hisl,b5,b4,e1]
    exact fin (by rfl) (by rw [hE];simp [ownV,c5,c46,d1])
   ·simp only [go_sem,seval,c63,bne,Bool.not_false,Bool.not_true,hkc,hic,hksl,hisl,b5,b4,b6,e1]
    exact fin (by rfl) (by rw [hE];simp [ownV,c5,c46,d1])
  have e1 : decide ((0 : Int) < (keys.length : Int))=false:=decide_eq_false (by omega)
  by_cases d2 : i=0
  rotate_left
  ·have e2 : (i == 0)=false:=by simpa using d2
   rcases b4 with b4 | ⟨b4,b6⟩
   ·simp only [go_sem,seval,c63,bne,Bool.not_false,Bool.not_true,hkc,hic,hksl,hisl,b5,b4,e1,e2]
    exact fin (by rfl) (by rw [hE];simp [ownV,c5,c46,d1,d2])
   ·simp only [go_sem,seval,c63,bne,Bool.not_false,Bool.not_true,hkc,hic,hksl,hisl,b5,b4,b6,e1,e2]
    exact fin (by rfl) (by rw [hE];simp [ownV,c5,c46,d1,d2])
  have e2 : (i == 0)=true:=by simpa using d2
  by_cases d3 : t=[]
  ·subst d3
   rcases b4 with b4 | ⟨b4,b6⟩
   ·simp only [go_sem,seval,c63,bne,Bool.not_false,Bool.not_true,hkc,hic,hksl,hisl,b5,b4,e1,e2]
    exact fin (by rfl) (by rw [hE];simp [ownV,c5,c46,d1,d2])
   ·simp only [go_sem,seval,c63,bne,Bool.not_false,Bool.not_true,hkc,hic,hksl,hisl,b5,b4,b6,e1,e2]
    exact fin (by rfl) (by rw [hE];simp [ownV,c5,c46,d1,d2])
  ·have e3 : (t == [])=false:=by simpa using d3
   rcases b4 with b4 | ⟨b4,b6⟩
   ·simp only [go_sem,seval,c63,bne,Bool.not_false,Bool.not_true,hkc,hic,hksl,hisl,b5,b4,e1,e2,e3]
    exact fin (by rfl) (by rw [hE];simp [ownV,c5,c46,d1,d2,d3])
   ·simp only [go_sem,seval,c63,bne,Bool.not_false,Bool.not_true,hkc,hic,hksl,hisl,b5,b4,b6,e1,e2,e3]
    exact fin (by rfl) (by rw [hE];simp [ownV,c5,c46,d1,d2,d3])
 have b4 : (k == 4)=false:=by simp;omega
 have b6 : (k == 6)=false:=by simp;omega
 by_cases c03 : k=0∨k=1∨k=2∨k=3
 ·have wn : IntKind.i64.wrap ((keys.length : Int)+(n : Int))=((keys.length+n : Nat) : Int):=by rw [iw (by omega)];omega
  by_cases d1 : 0 < keys.length+n
  ·have e1 : decide ((0 : Int) < ((keys.length+n : Nat) : Int))=true:=decide_eq_true (by omega)
   rcases c03 with rfl | rfl | rfl | rfl
   all_goals
    simp only [go_sem,seval,c63,bne,Bool.not_false,Bool.not_true,hkc,hic,hksl,hisl,wn,e1]
    exact fin (by rfl) (by rw [hE];unfold ownV;rw [if_neg (by decide),if_neg (by decide),if_pos (by decide),if_pos d1])
  ·have e1 : decide ((0 : Int) < ((keys.length+n : Nat) : Int))=false:=decide_eq_false (by omega)
   have hS:=p_sCheck k i t
   rcases c03 with rfl | rfl | rfl | rfl
   all_goals
    simp only [go_sem,seval,c63,bne,Bool.not_false,Bool.not_true,hkc,hic,hksl,hisl,wn,e1]
    (first | refine callO_pure (hS) ?_ | refine dpureO_of (hS) ?_ | refine dpureO_save (hS) ?_ | refine dcallO_pure (hS) (by simp only [go_sem,seval]) ?_ | refine dcallO_pure (hS) ?_ ?_)<;>simp only [go_sem,seval]
    exact fin (by rfl) (by rw [hE];unfold ownV;rw [if_neg (by decide),if_neg (by decide),if_pos (by decide),if_neg d1])
 ·have k0 : (k == 0)=false:=by simp;omega
  have k1 : (k == 1)=false:=by simp;omega
  have k2 : (k == 2)=false:=by simp;omega
  have k3 : (k == 3)=false:=by simp;omega
  simp only [go_sem,seval,c63,bne,Bool.not_false,Bool.not_true,hkc,hic,hksl,hisl,b4,b5,b6,k0,k1,k2,k3]
  exact fin (by rfl) (by rw [hE];simp [ownV,c5,c46,c03])
end Go.V
namespace Go.V
open Go.Proofs
set_option maxRecDepth 100000
theorem seq_ex {α : Type} (Inv : Nat→α→Prop) (Step : Nat→α→α→Prop) (a0 : α) (h0 : Inv 0 a0) (hs : ∀ j a,Inv j a→∃ a',Inv (j+1) a'∧Step j a a') : ∃ f : Nat→α,f 0=a0∧∀ j,Inv j (f j)∧Step j (f j) (f (j+1)):=by
 let F : (j : Nat)→{ a : α // Inv j a }:=fun j=>Nat.rec ⟨a0,h0⟩ (fun j p=>⟨Classical.choose (hs j p.1 p.2),(Classical.choose_spec (hs j p.1 p.2)).1⟩) j
 exact ⟨fun j=>(F j).1,rfl,fun j=>⟨(F j).2,(Classical.choose_spec (hs j (F j).1 (F j).2)).2⟩⟩
theorem take_step {α : Type} (xs : List α) (j k : Nat) : xs.take (j+k)=xs.take j++(xs.drop j).take k:=by
 rw [List.take_add]
theorem x_ropeOf (v : VV) (xs : List (List VV)) (hv : SlV 11 v xs) (hl : xs.length≤100000) : ∃ r,RP r xs∧PV Tryz.prog G0 66 [v] (.agg [r]):=by
 obtain ⟨f,hf0,hf⟩:=seq_ex (fun j a=>RP a (xs.take (16*j))) (fun j a a'=>16*j < xs.length→∃ lf,PV Tryz.prog G0 115 [.sl ((xs.drop (16*j)).take 16).length ((xs.drop (16*j)).take 16).flatten false] lf∧PV Tryz.prog G0 114 [a,lf] a') .nilp (.inl ⟨rfl,by simp⟩) (fun j a ha=>by
  by_cases h : 16*j < xs.length
  ·have hB : Blk 11 ((xs.drop (16*j)).take 16):=⟨fun x hx=>hv.blk.len x (List.mem_of_mem_drop (List.mem_of_mem_take hx)),fun x hx=>hv.blk.pure x (List.mem_of_mem_drop (List.mem_of_mem_take hx)),fun x hx=>hv.blk.cell x (List.mem_of_mem_drop (List.mem_of_mem_take hx))⟩
   obtain ⟨lf,h1,h2,_⟩:=x_leaf _ _ (SlV.of hB rfl rfl)
   obtain ⟨a',h3,h4⟩:=x_join a lf _ _ ha h1 (by simp;omega)
   exact ⟨a',by rw [show 16*(j+1)=16*j+16 by omega,take_step];exact h3,fun _=>⟨lf,h2,h4⟩⟩
  ·exact ⟨a,by rw [List.take_of_length_le (by omega)];rw [List.take_of_length_le (by omega)] at ha;exact ha,fun h'=>absurd h' h⟩)
 have hroot : RP (f ((xs.length+15) / 16)) xs:=by
  have:=(hf ((xs.length+15) / 16)).1
  rwa [List.take_of_length_le (by omega)] at this
 refine ⟨f ((xs.length+15) / 16),hroot, ?_⟩
 have hvp:=hv.pure
 have hvl : ∀ {σ},evLen Tryz.prog 120 v σ=okV (.int .i64 xs.length) σ:=by intro σ;rw [hv.evLen k_tsl_120]
 refine pv e66 (by simp) (by simp only [VV.arePure,hvp];rfl) (by simp only [VV.isPure,VV.arePure,hroot.pure,Bool.and_self]) ?_
 simp only [go_sem,seval,c66]
 refine wpV_cutB (M:=fun ρ τ=>ρ.get 2=.mptr 0 0∧ρ.get 3=.mptr 1 0∧τ[0]?=some (.own [.nilp])∧τ[1]?=some (.own [f ((xs.length+15) / 16)])) ?_ ?_
 ·rintro ρ τ ⟨q2,q3,h0,h1⟩
  have hrc:=hroot.cell
  simp only [go_sem,seval] at hrc
  have hl0:=(List.getElem?_eq_some_iff.1 h0).1
  simp only [go_sem,seval,q2,q3,h0,h1,hrc,List.getElem?_set_self hl0]
  exact fin (by simp only [VV.isPure,VV.arePure,hroot.pure,Bool.and_self]) rfl
 refine wpV_loop_inv (fun m ρ τ=>∃ j : Nat,m=xs.length-j∧j≤(xs.length+15) / 16∧ρ.get 0=v∧ρ.get 2=.mptr 0 0∧ρ.get 3=.mptr 1 0∧ρ.get 4=.int .i64 (16*j : Nat)∧τ=[.own [.nilp],.own [f j]]) (n:=xs.length) ?_ ⟨0,rfl,by omega,rfl,rfl,rfl,rfl,by rw [hf0]⟩
 rintro m ρ _ ⟨j,rfl,hj,q0,q2,q3,q4,rfl⟩
 simp only [go_sem,seval,q0,q2,q3,q4,hvl]
 refine condO_split (fun hc=>?_) (fun hc=>?_)
 rotate_left
 ·have hc' : j=(xs.length+15) / 16:=by simp at hc;omega
  subst hc'
  simp only [go_sem,seval,q2,q3]
 have hc' : 16*j < xs.length:=by simp at hc;omega
 obtain ⟨lf,hlf,hjn⟩:=(hf j).2 hc'
 obtain ⟨tg,hvt⟩:=hv.sl_of (by intro e;rw [e] at hc';simp at hc')
 have w1 : IntKind.i64.wrap (((16*j : Nat) : Int)+16)=((16*j+16 : Nat) : Int):=by rw [iw (by omega)];omega
 obtain ⟨hi,hhi⟩ : ∃ h,h=min (16*j+16) xs.length:=⟨_,rfl⟩
 have hmin : evNum2 false (.int .i64 (16*j+16 : Nat)) (.int .i64 (xs.length : Nat))=some (.int .i64 (hi : Nat)):=by
  have : (if ((xs.length : Nat) : Int) < ((16*j+16 : Nat) : Int) then ((xs.length : Nat) : Int) else ((16*j+16 : Nat) : Int))=((hi : Nat) : Int):=by split<;>omega
  simp only [evNum2,Bool.false_eq_true,if_false,this]
 have c1 : ((16*j : Nat) : Int)≤((hi : Nat) : Int):=by omega
 have c2 : (0 : Int)≤((16*j : Nat) : Int):=by omega
 have c3 : ((hi : Nat) : Int)≤((xs.length : Nat) : Int):=by omega
 have c4 : xs.flatten.length=xs.length*11:=hv.blk.flat
 have c5 : (xs.flatten.drop (16*j*11)).take ((hi-16*j)*11)=((xs.drop (16*j)).take 16).flatten:=by
  rw [hv.blk.fdrop,(hv.blk.drop _).ftake]
  congr 1
  by_cases h : 16*j+16≤xs.length
  ·rw [show hi-16*j=16 by omega]
  ·rw [List.take_of_length_le (by simp;omega),List.take_of_length_le (by simp;omega)]
 have c6 : hi-16*j=((xs.drop (16*j)).take 16).length:=by simp;omega
 simp only [go_sem,seval,q0,q2,q3,q4,hvl,hvt,w1,hmin,c1,c2,c3,c4,c5,Int.toNat_natCast]
 have hB : Blk 11 ((xs.drop (16*j)).take 16):=(hv.blk.drop _).take _
 have hboth:=p_both (.sl ((xs.drop (16*j)).take 16).length ((xs.drop (16*j)).take 16).flatten (tg && decide (hi=xs.length))) .nils _ [] (SlV.of hB rfl rfl) .nil (by simp;omega)
 rw [List.append_nil] at hboth
 have hrc:=(hf j).1.cell
 have hrc2:=(hf (j+1)).1.cell
 have u1:=cellU hrc2
 have u2:=cellC hrc2
 simp only [go_sem,seval] at hrc
 simp only [go_sem,seval] at hrc2
 simp only [go_sem,seval] at u1
 simp only [go_sem,seval] at u2
 have w2 : IntKind.i64.wrap (((16*j : Nat) : Int)+16)=((16*(j+1) : Nat) : Int):=by rw [iw (by omega)];omega
 rw [c6]
 (first | refine callO_pure (hboth) ?_ | refine dpureO_of (hboth) ?_ | refine dpureO_save (hboth) ?_ | refine dcallO_pure (hboth) (by simp only [go_sem,seval,q0,q2,q3,q4,hvt,hrc]) ?_ | refine dcallO_pure (hboth) ?_ ?_)<;>simp only [go_sem,seval,q0,q2,q3,q4,hvt,hrc]
 (first | refine callO_pure (hlf) ?_ | refine dpureO_of (hlf) ?_ | refine dpureO_save (hlf) ?_ | refine dcallO_pure (hlf) (by simp only [go_sem,seval,q0,q2,q3,q4,hvt,hrc]) ?_ | refine dcallO_pure (hlf) ?_ ?_)<;>simp only [go_sem,seval,q0,q2,q3,q4,hvt,hrc]
 (first | refine callO_pure (hjn) ?_ | refine dpureO_of (hjn) ?_ | refine dpureO_save (hjn) ?_ | refine dcallO_pure (hjn) (by simp only [go_sem,seval,q0,q2,q3,q4,hvt,hrc,hrc2,u1,u2,w2]) ?_ | refine dcallO_pure (hjn) ?_ ?_)<;>simp only [go_sem,seval,q0,q2,q3,q4,hvt,hrc,hrc2,u1,u2,w2]
 exact ⟨xs.length-(j+1),by omega,j+1,rfl,by omega,rfl,rfl⟩
end Go.V
namespace Go.V
inductive MkR where
 | ok (v : T)
 | er (e : Int)
def insL (ps : List (Bs × T)) : List (Bs × T):=ps.foldl (fun acc p=>insK p.1 p.2 acc) []
def partsR (k : Int) (keys : List Bs) (l : List T) : MkR :=
 if k=4 then .ok (.vec l)
 else if k=5 then .ok (.map (insL (keys.zip l)))
 else if (insL (l.map fun v=>(v.key,v))).length < l.length then .er 6 else .ok (.set ((insL (l.map fun v=>(v.key,v))).map (·.2)))
mutual
def Tr.mk : Tr→Nat→Nat→Nat × MkR
 | .node k i t keys items,q,n =>
  if 64 < q then (n+1,.er 7) else if 16384 < n+1 then (n+1,.er 8)
  else if ownV k i t keys items.length≠0 then (n+1,.er (ownV k i t keys items.length))
  else if k < 4 then (n+1,.ok (.sc k i t))
  else match Tr.mks items (q+1) (n+1) with
   | (n',.inr e)=>(n',.er e)
   | (n',.inl l)=>(n',partsR k keys l)
def Tr.mks : List Tr→Nat→Nat→Nat × (List T ⊕ Int)
 | [],_,n=>(n,.inl [])
 | x::l,q,n=>match x.mk q n with
  | (n',.er e)=>(n',.inr e)
  | (n',.ok v)=>match Tr.mks l q n' with
   | (n'',.inr e)=>(n'',.inr e)
   | (n'',.inl vs)=>(n'',.inl (v::vs))
end
inductive TrOK : Tr→Prop
 | node {k i : Int} {t : Bs} {keys : List Bs} {items : List Tr} : -9223372036854775808≤i→i≤9223372036854775807→(∀ x ∈ items,TrOK x)→TrOK (.node k i t keys items)
theorem insF_rise : ∀ (ps acc : List (Bs × T)),Rise acc→Rise (ps.foldl (fun acc p=>insK p.1 p.2 acc) acc)
 | [],_,h=>h
 | p::ps,acc,h=>insF_rise ps _ (insK_rise h)
theorem insF_wf {q : Nat} : ∀ (ps acc : List (Bs × T)),T.wfm q acc→T.wfm q ps→T.wfm q (ps.foldl (fun acc p=>insK p.1 p.2 acc) acc)
 | [],_,h,_=>h
 | p::ps,acc,h,hp=>insF_wf ps _ (wfm_insK hp.1 h) hp.2
theorem insK_len {k : Bs} {v : T} : ∀ {l : List (Bs × T)},(insK k v l).length≤l.length+1∧(Rise l→(∃ p ∈ l,p.1=k)→(insK k v l).length=l.length)
 | []=>by simp [insK]
 | (k',v')::l=>by
  have ih:=insK_len (k:=k) (v:=v) (l:=l)
  unfold insK
  split
  ·rename_i hb
   refine ⟨by simp,fun hr ⟨p,hp,e⟩=>?_⟩
   exfalso
   obtain ⟨h1,h2⟩:=List.pairwise_cons.1 hr
   rcases List.mem_cons.1 hp with rfl | hp
   ·exact bl_ne hb e.symm
   ·have:=bl_trans _ _ _ hb (h1 p hp);rw [e,bl_irrefl] at this;cases this
  ·split
   ·exact ⟨by simp,fun _ _=>by simp⟩
   ·rename_i hb hne
    refine ⟨by simp only [List.length_cons];omega,fun hr ⟨p,hp,e⟩=>?_⟩
    obtain ⟨h1,h2⟩:=List.pairwise_cons.1 hr
    rcases List.mem_cons.1 hp with rfl | hp
    ·exact absurd e.symm hne
    ·simp only [List.length_cons];rw [ih.2 h2 ⟨p,hp,e⟩]
theorem insF_len_le : ∀ (ps acc : List (Bs × T)),(ps.foldl (fun acc p=>insK p.1 p.2 acc) acc).length≤acc.length+ps.length
 | [],acc=>by simp
 | p::ps,acc=>by
  have h1:=insF_len_le ps (insK p.1 p.2 acc)
  have h2:=(insK_len (k:=p.1) (v:=p.2) (l:=acc)).1
  simp only [List.foldl_cons,List.length_cons]
  omega
theorem insF_nd : ∀ (ps acc : List (Bs × T)),Rise acc→(ps.foldl (fun acc p=>insK p.1 p.2 acc) acc).length=acc.length+ps.length→T.ndm (ps.foldl (fun acc p=>insK p.1 p.2 acc) acc)=T.ndm acc+T.ndm ps
 | [],acc,_,_=>by simp [T.ndm]
 | p::ps,acc,hr,h=>by
  simp only [List.foldl_cons,List.length_cons] at h ⊢
  have h1:=insF_len_le ps (insK p.1 p.2 acc)
  have h2:=insK_len (k:=p.1) (v:=p.2) (l:=acc)
  have hno : ∀ x ∈ acc,x.1≠p.1:=by
   intro x hx e
   have:=h2.2 hr ⟨x,hx,e⟩
   omega
  have hlen : (insK p.1 p.2 acc).length=acc.length+1:=by have:=h2.1;omega
  rw [insF_nd ps _ (insK_rise hr) (by omega),ndm_insK hno]
  simp only [T.ndm]
  omega
end Go.V
namespace Go.V
theorem ddF_len : ∀ (ks acc : List Bs),(ks.foldl addK acc).length≤acc.length+ks.length
 | [],acc=>by simp
 | k::ks,acc=>by
  have:=ddF_len ks (addK acc k)
  have h2 : (addK acc k).length≤acc.length+1:=by unfold addK;split<;>simp
  simp only [List.foldl_cons,List.length_cons]
  omega
theorem ddF_nodup : ∀ (ks acc : List Bs),(ks.foldl addK acc).length=acc.length+ks.length→ks.Nodup∧∀ k ∈ ks,k ∉ acc
 | [],acc,_=>by simp
 | k::ks,acc,h=>by
  have h1:=ddF_len ks (addK acc k)
  simp only [List.foldl_cons,List.length_cons] at h
  have hk : k ∉ acc:=by
   intro hk
   have : addK acc k=acc:=by unfold addK;rw [if_pos hk]
   rw [this] at h1 h
   omega
  have ha : addK acc k=acc++[k]:=by unfold addK;rw [if_neg hk]
  rw [ha] at h
  obtain ⟨i1,i2⟩:=ddF_nodup ks (acc++[k]) (by rw [h];simp;omega)
  refine ⟨List.nodup_cons.2 ⟨fun hm=>i2 k hm (by simp),i1⟩,fun x hx=>?_⟩
  rcases List.mem_cons.1 hx with rfl | hx
  ·exact hk
  ·exact fun hm=>i2 x hx (by simp [hm])
theorem insK_fresh {k : Bs} {v : T} : ∀ {l : List (Bs × T)},(∀ p ∈ l,p.1≠k)→(insK k v l).length=l.length+1
 | [],_=>by simp [insK]
 | (k',v')::l,h=>by
  unfold insK
  split
  ·simp
  ·split
   ·rename_i he;exact absurd he.symm (h (k',v') (by simp))
   ·simp only [List.length_cons];rw [insK_fresh fun p hp=>h p (by simp [hp])]
theorem insF_fresh : ∀ (ps acc : List (Bs × T)),(ps.map (·.1)).Nodup→(∀ k ∈ ps.map (·.1),∀ p ∈ acc,p.1≠k)→(ps.foldl (fun acc p=>insK p.1 p.2 acc) acc).length=acc.length+ps.length
 | [],acc,_,_=>by simp
 | p::ps,acc,hn,h=>by
  obtain ⟨n1,n2⟩:=List.nodup_cons.1 (by simpa using hn : (p.1::ps.map (·.1)).Nodup)
  simp only [List.foldl_cons,List.length_cons]
  rw [insF_fresh ps _ n2 ?_,insK_fresh (h p.1 (by simp))]
  ·omega
  ·intro k hk x hx e
   rcases insK_mem hx with rfl | hx
   ·simp only at e;subst e;exact n1 hk
   ·exact h k (by simp only [List.map_cons,List.mem_cons];exact .inr hk) x hx e
theorem zip_keys : ∀ (ks : List Bs) (l : List T),ks.length=l.length→(ks.zip l).map (·.1)=ks∧T.ndm (ks.zip l)=T.nds l∧∀ q,T.wfs q l→T.wfm q (ks.zip l)
 | [],[],_=>by simp [T.ndm,T.nds,T.wfm]
 | k::ks,x::l,h=>by
  obtain ⟨a,b,c⟩:=zip_keys ks l (by simpa using h)
  refine ⟨by simp [a],by simp [T.ndm,T.nds,b],fun q hq=>⟨hq.1,c q hq.2⟩⟩
 | [],x::l,h=>by simp at h
 | k::ks,[],h=>by simp at h
theorem key_map : ∀ (l : List T),T.ndm (l.map fun v=>(v.key,v))=T.nds l∧∀ q,T.wfs q l→T.wfm q (l.map fun v=>(v.key,v))
 | []=>by simp [T.ndm,T.nds,T.wfm]
 | x::l=>by
  obtain ⟨b,c⟩:=key_map l
  refine ⟨by simp [T.ndm,T.nds,b],fun q hq=>⟨hq.1,c q hq.2⟩⟩
theorem insF_keyed : ∀ (ps acc : List (Bs × T)),(∀ p ∈ acc,p.1=p.2.key)→(∀ p ∈ ps,p.1=p.2.key)→∀ p ∈ ps.foldl (fun acc p=>insK p.1 p.2 acc) acc,p.1=p.2.key
 | [],_,h,_=>h
 | p::ps,acc,h,hp=>insF_keyed ps _ (fun x hx=>by
   rcases insK_mem hx with rfl | hx
   ·exact hp p (by simp)
   ·exact h x hx) fun x hx=>hp x (by simp [hx])
theorem partsR_good {k : Int} {keys : List Bs} {l : List T} {q : Nat} {v : T} (hq : q≤64) (hk : k=4∨(k=5∧keys.length=l.length∧¬ (ddK keys).length < keys.length)∨k=6) (hl : T.wfs (q+1) l) (h : partsR k keys l=.ok v) : v.wf q∧v.nd=1+T.nds l:=by
 unfold partsR at h
 rcases hk with rfl | ⟨rfl,h1,h2⟩ | rfl
 ·rw [if_pos rfl] at h
  cases h
  exact ⟨⟨hq,hl⟩,by simp [T.nd]⟩
 ·rw [if_neg (by decide),if_pos rfl] at h
  cases h
  obtain ⟨a,b,c⟩:=zip_keys keys l h1
  have hd:=ddF_len keys []
  obtain ⟨n1,_⟩:=ddF_nodup keys [] (by unfold ddK at h2;simp at hd ⊢;omega)
  have hf:=insF_fresh (keys.zip l) [] (by rw [a];exact n1) (by simp)
  have hn:=insF_nd (keys.zip l) [] List.Pairwise.nil hf
  refine ⟨⟨hq,insF_rise _ _ List.Pairwise.nil,insF_wf _ _ trivial (c _ hl)⟩, ?_⟩
  simp only [T.nd,insL]
  rw [hn,b]
  simp [T.ndm]
 ·rw [if_neg (by decide),if_neg (by decide)] at h
  split at h
  ·cases h
  ·rename_i hlen
   cases h
   obtain ⟨b,c⟩:=key_map l
   have hle:=insF_len_le (l.map fun v=>(v.key,v)) []
   have hf : ((l.map fun v=>(v.key,v)).foldl (fun acc p=>insK p.1 p.2 acc) []).length=([] : List (Bs × T)).length+(l.map fun v=>(v.key,v)).length:=by
    unfold insL at hlen
    simp at hle hlen ⊢
    omega
   have hn:=insF_nd _ [] List.Pairwise.nil hf
   have hky:=insF_keyed (l.map fun v=>(v.key,v)) [] (by simp) (by simp)
   refine ⟨⟨hq, ?_, ?_⟩, ?_⟩
   ·unfold insL;rw [keyed hky];exact insF_rise _ _ List.Pairwise.nil
   ·unfold insL;exact wfm_wfs (insF_wf _ _ trivial (c _ hl))
   ·simp only [T.nd,insL,ndm_nds]
    rw [hn,b]
    simp [T.ndm]
mutual
theorem mk_good : ∀ (x : Tr) (q n n' : Nat) (v : T),TrOK x→x.mk q n=(n',.ok v)→v.wf q∧n'=n+v.nd∧n'≤16384
 | .node k i t keys items,q,n,n',v,hx,h=>by
  cases hx with
  | node hi1 hi2 hx =>
  unfold Tr.mk at h
  split at h
  ·cases h
  ·rename_i hq
   split at h
   ·cases h
   ·rename_i hn
    split at h
    ·cases h
    ·rename_i hown
     have hown : ownV k i t keys items.length=0:=by simpa using hown
     unfold ownV at hown
     split at h
     ·rename_i hk4
      simp only [Prod.mk.injEq,MkR.ok.injEq] at h
      obtain ⟨rfl,rfl⟩:=h
      rw [if_neg (by omega),if_neg (by omega)] at hown
      split at hown
      ·rename_i hk
       split at hown
       ·omega
       ·simp only [T.wf,T.nd]
        refine ⟨⟨by omega, ?_⟩,trivial,by omega⟩
        unfold checkS at hown
        unfold scOK
        rcases hk with rfl | rfl | rfl | rfl
        ·simp at hown;exact .inl ⟨rfl,hown⟩
        ·simp at hown;right;left;by_cases ht : t=[]<;>simp [ht] at hown ⊢<;>omega
        ·simp at hown;exact .inr (.inr (.inl ⟨rfl,hown,hi1,hi2⟩))
        ·simp at hown;exact .inr (.inr (.inr ⟨rfl,hown⟩))
      ·omega
     ·rename_i hk4
      cases hm : Tr.mks items (q+1) (n+1) with
      | mk n1 r =>
       rw [hm] at h
       cases r with
       | inr e=>simp at h
       | inl l =>
        simp only [Prod.mk.injEq] at h
        obtain ⟨rfl,h⟩:=h
        obtain ⟨g1,g2,g3,g4⟩:=mks_good items (q+1) (n+1) n1 l hx hm (by omega)
        have hk : k=4∨(k=5∧keys.length=l.length∧¬ (ddK keys).length < keys.length)∨k=6:=by
         by_cases h5 : k=5
         ·subst h5
          rw [if_pos rfl] at hown
          split at hown
          ·omega
          ·rename_i hkl
           split at hown
           ·omega
           ·split at hown
            ·omega
            ·rename_i hdd
             exact .inr (.inl ⟨rfl,by rw [g4];simpa using hkl,hdd⟩)
         ·rw [if_neg h5] at hown
          by_cases h46 : k=4∨k=6
          ·rcases h46 with h | h
           ·exact .inl h
           ·exact .inr (.inr h)
          ·rw [if_neg h46,if_neg (by omega)] at hown;omega
        obtain ⟨w1,w2⟩:=partsR_good (by omega) hk g1 h
        exact ⟨w1,by omega,g3⟩
theorem mks_good : ∀ (l : List Tr) (q n n' : Nat) (vs : List T),(∀ x ∈ l,TrOK x)→Tr.mks l q n=(n',.inl vs)→n≤16384→T.wfs q vs∧n'=n+T.nds vs∧n'≤16384∧vs.length=l.length
 | [],q,n,n',vs,_,h,hn=>by
  unfold Tr.mks at h
  simp only [Prod.mk.injEq,Sum.inl.injEq] at h
  obtain ⟨rfl,rfl⟩:=h
  exact ⟨trivial,by simp [T.nds],hn,rfl⟩
 | x::l,q,n,n',vs,hx,h,hn=>by
  unfold Tr.mks at h
  split at h
  ·simp at h
  ·rename_i n1 v hv
   obtain ⟨a1,a2,a3⟩:=mk_good x q n n1 v (hx x (by simp)) hv
   split at h
   ·simp at h
   ·rename_i n2 vs' hvs
    simp only [Prod.mk.injEq,Sum.inl.injEq] at h
    obtain ⟨rfl,rfl⟩:=h
    obtain ⟨b1,b2,b3,b4⟩:=mks_good l q n1 n2 vs' (fun y hy=>hx y (by simp [hy])) hvs a3
    exact ⟨⟨a1,b1⟩,by simp only [T.nds];omega,b3,by simp [b4]⟩
end
end Go.V
