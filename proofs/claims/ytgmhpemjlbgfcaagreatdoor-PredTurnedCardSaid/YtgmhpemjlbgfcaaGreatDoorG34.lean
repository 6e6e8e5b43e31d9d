/- Texts L15 L16 F80 F83 F84 F85 L21 L22. -/
import Derived.Test.YtgmhpemjlbgfcaaGreatDoorG32
import Derived.Test.YtgmhpemjlbgfcaaGreatDoorG33
set_option linter.unusedVariables false
set_option linter.unusedSimpArgs false
namespace Go.V
structure Tk where
 k : Nat
 a : Nat
 e : Nat
 i : Int
 t : Bs
def Tk.of (y : Tk) : Nat × Int × Bs:=(y.k,y.i,y.t)
inductive TL (s : Bs) : Int→List (Nat × Int × Bs)→Prop
 | nil {a : Int} {x e : Nat} {i : Int} {t : Bs} : Cj s a=.tok 0 x e i t→TL s a []
 | cons {a : Int} {k x e : Nat} {i : Int} {t : Bs} {l : List (Nat × Int × Bs)} : Cj s a=.tok k x e i t→k≠0→TL s e l→TL s a ((k,i,t)::l)
end Go.V
namespace Go.V
def Tk.ok (y : Tk) : Prop:=(y.k=1∧y.i=0∧y.t ∈ wE)∨(y.k=2∧y.i=0∧∃ c w,y.t=c::w∧UM c=true∧w.all ED=true)∨(y.k=3∧y.t=[]∧-9223372036854775808≤y.i∧y.i≤9223372036854775807)∨(y.k=4∧y.i=0)
end Go.V
namespace Go.V
open Go.Proofs
set_option maxRecDepth 100000
def Tk.cells (y : Tk) : List VV:=[.int .i64 y.k,.int .i64 y.a,.int .i64 y.e,.int .i64 y.i,.str y.t]
theorem Tk.blks (l : List Tk) : dh 5 (l.map Tk.cells):=by
 refine ⟨fun x hx=>?_,fun x hx=>?_,fun x hx=>?_⟩<;>obtain ⟨p,hp,rfl⟩:=List.mem_map.1 hx
 ·rfl
 ·rfl
 ·rfl
end Go.V
namespace Go.V
open Go.Proofs
set_option maxRecDepth 100000
inductive Tr where
 | node (k i : Int) (t : Bs) (keys : List Bs) (items : List Tr)
mutual
inductive kV : Tr→List VV→Prop
 | node {k i : Int} {t : Bs} {keys : List Bs} {items : List Tr} {kv iv : VV} {cs : List (List VV)} : dG 1 kv (keys.map fun b=>[VV.str b])→jl items cs→dG 5 iv cs→keys.length≤9223372036854775807→items.length≤9223372036854775807 →
   -9223372036854775808≤k→k≤9223372036854775807→-9223372036854775808≤i→i≤9223372036854775807→kV (.node k i t keys items) [.int .i64 k,.int .i64 i,.str t,kv,iv]
inductive jl : List Tr→List (List VV)→Prop
 | nil : jl [] []
 | cons {x : Tr} {c : List VV} {l : List Tr} {cs : List (List VV)} : kV x c→jl l cs→jl (x::l) (c::cs)
end
theorem jl.len : ∀ {l : List Tr} {cs : List (List VV)},jl l cs→cs.length=l.length
 | [],_,.nil=>rfl
 | x::l,_,.cons _ h=>by simp [jl.len h]
theorem jl.get : ∀ {l : List Tr} {cs : List (List VV)},jl l cs→∀ (j : Nat) (h : j < l.length) (h' : j < cs.length),kV l[j] cs[j]
 | x::l,_,.cons h1 h2,0,_,_=>h1
 | x::l,_,.cons h1 h2,j+1,h,h'=>jl.get h2 j (by simpa using h) (by simpa using h')
theorem kV.cells {x : Tr} {c : List VV} (h : kV x c) : c.length=5∧VV.ak c=true∧c.all VV.aC=true:=by
 cases h with
 | node h1 h2 h3 =>
  refine ⟨rfl, ?_, ?_⟩
  ·simp only [VV.ak,VV.isPure,h1.pure,h3.pure];rfl
  ·simp only [List.all_cons,List.all_nil,h1.cell,h3.cell];rfl
mutual
def Tr.small : Tr→Nat→Int→Int × Bool
 | .node _ _ t keys items,d,left=>if left < 1∨80 < d∨200 < t.length∨left+50 < keys.length∨keys.any (fun k=>decide (200 < k.length))=true then (0,false) else Tr.smalls items (d+1) (left-1)
def Tr.smalls : List Tr→Nat→Int→Int × Bool
 | [],_,left=>(left,true)
 | x::l,d,left=>match x.small d left with
  | (left',true)=>Tr.smalls l d left'
  | (_,false)=>(0,false)
end
mutual
theorem uq : ∀ (x : Tr) (d : Nat) (left : Int),0≤left→0≤(x.small d left).1∧(x.small d left).1≤left
 | .node _ _ t keys items,d,left,h=>by
  unfold Tr.small
  split
  ·exact ⟨Int.le_refl _,h⟩
  ·have:=rC items (d+1) (left-1) (by omega)
   omega
theorem rC : ∀ (l : List Tr) (d : Nat) (left : Int),0≤left→0≤(Tr.smalls l d left).1∧(Tr.smalls l d left).1≤left
 | [],d,left,h=>by unfold Tr.smalls;exact ⟨h,Int.le_refl _⟩
 | x::l,d,left,h=>by
  have h1:=uq x d left h
  unfold Tr.smalls
  split
  ·rename_i l' e
   rw [e] at h1
   have:=rC l d l' h1.1
   simp only at h1 ⊢
   omega
  ·exact ⟨Int.le_refl _,h⟩
end
theorem Ik (k i : Int) (t : Bs) (keys : List Bs) (items : List Tr) (kv iv : VV) (cs : List (List VV)) (hk : dG 1 kv (keys.map fun b=>[VV.str b])) (hcs : jl items cs) (hi : dG 5 iv cs) (hkl : keys.length≤9223372036854775807) (hil : items.length≤9223372036854775807) (d : Nat) (left : Int) (hd : d≤81) (h0 : 0≤left) (h4 : left≤400)
  (ih : ∀ (j : Nat) (h : j < items.length) (h' : j < cs.length) (left : Int),d≤80→0≤left→left≤400→PV Tryz.prog G0 75 [.agg cs[j],.int .i64 (d+1 : Nat),.int .i64 left] (.tup [.int .i64 (items[j].small (d+1) left).1,.bool (items[j].small (d+1) left).2])) :
  PV Tryz.prog G0 75 [.agg [.int .i64 k,.int .i64 i,.str t,kv,iv],.int .i64 d,.int .i64 left] (.tup [.int .i64 (Tr.small (.node k i t keys items) d left).1,.bool (Tr.small (.node k i t keys items) d left).2]):=by
 have hkp:=hk.pure
 have hip:=hi.pure
 have hkc:=hk.cell
 have hic:=hi.cell
 have hksl : ∀ {σ},aT Tryz.prog 26 kv σ=okV (.int .i64 keys.length) σ:=by intro σ;rw [hk.aT dM];simp
 have hisl : ∀ {σ},aT Tryz.prog 27 iv σ=okV (.int .i64 items.length) σ:=by intro σ;rw [hi.aT bK,hcs.len]
 have w50 : IntKind.i64.wrap (left+50)=left+50:=iw (by omega)
 refine pv e75 (by simp) (by simp only [VV.ak,VV.isPure,hkp,hip];rfl) rfl ?_
 simp only [go_sem,seval] at hkc
 simp only [go_sem,seval] at hic
 have hbad : ∀ (h : left < 1∨80 < d∨200 < t.length∨left+50 < keys.length∨keys.any (fun k=>decide (200 < k.length))=true),VV.tup [.int .i64 0,.bool false]=VV.tup [.int .i64 (Tr.small (.node k i t keys items) d left).1,.bool (Tr.small (.node k i t keys items) d left).2]:=fun h=>by unfold Tr.small;rw [if_pos h]
 by_cases c1 : left < 1
 ·have b1 : decide (left < 1)=true:=decide_eq_true c1
  simp only [go_sem,seval,c75,b1,hkc,hic]
  exact fin (by rfl) (hbad (.inl c1))
 have b1 : decide (left < 1)=false:=decide_eq_false c1
 by_cases c2 : 80 < d
 ·have b2 : decide ((80 : Int) < (d : Int))=true:=decide_eq_true (by omega)
  simp only [go_sem,seval,c75,b1,b2,hkc,hic]
  exact fin (by rfl) (hbad (.inr (.inl c2)))
 have b2 : decide ((80 : Int) < (d : Int))=false:=decide_eq_false (by omega)
 by_cases c3 : 200 < t.length
 ·have b3 : decide ((200 : Int) < (t.length : Int))=true:=decide_eq_true (by omega)
  simp only [go_sem,seval,c75,b1,b2,b3,hkc,hic]
  exact fin (by rfl) (hbad (.inr (.inr (.inl c3))))
 have b3 : decide ((200 : Int) < (t.length : Int))=false:=decide_eq_false (by omega)
 by_cases c4 : left+50 < keys.length
 ·have b4 : decide (left+50 < (keys.length : Int))=true:=decide_eq_true (by omega)
  simp only [go_sem,seval,c75,b1,b2,b3,b4,w50,hksl,hkc,hic]
  exact fin (by rfl) (hbad (.inr (.inr (.inr (.inl c4)))))
 have b4 : decide (left+50 < (keys.length : Int))=false:=decide_eq_false (by omega)
 simp only [go_sem,seval,c75,b1,b2,b3,b4,w50,hksl,hkc,hic]
 have hBk:=hk.blk
 have hBi:=hi.blk
 have hcl:=hcs.len
 have hsm : keys.any (fun k=>decide (200 < k.length))=false→Tr.small (.node k i t keys items) d left=Tr.smalls items (d+1) (left-1):=fun h=>by
  unfold Tr.small
  rw [if_neg (by rw [h];simp;omega)]
 refine bf (M:=fun ρ τ=>keys.any (fun k=>decide (200 < k.length))=false∧ρ.get 1=.int .i64 d∧ρ.get 2=.int .i64 left∧ρ.get 3=.mptr 0 0∧τ=[.own [.int .i64 k,.int .i64 i,.str t,kv,iv]]) ?_ ?_
 rotate_left
 ·refine aF (fun m ρ τ=>∃ j : Nat,m=keys.length-j∧j≤keys.length∧(∀ x ∈ keys.take j,x.length≤200)∧ρ.get 1=.int .i64 d∧ρ.get 2=.int .i64 left∧ρ.get 3=.mptr 0 0∧ρ.get 34=kv∧ρ.get 35=.int .i64 keys.length∧ρ.get 36=.int .i64 j∧τ=[.own [.int .i64 k,.int .i64 i,.str t,kv,iv]]) (n:=keys.length) ?_ ⟨0,rfl,by omega,by simp,rfl,rfl,rfl,rfl,rfl,rfl,rfl⟩
  rintro m ρ _ ⟨j,rfl,hj,hal,q1,q2,q3,q34,q35,q36,rfl⟩
  simp only [go_sem,seval,q34,q35,q36]
  refine aG (fun hc=>?_) (fun hc=>?_)
  rotate_left
  ·have hc' : j=keys.length:=by simp at hc;omega
   subst hc'
   rw [List.take_length] at hal
   simp only [go_sem,seval,q1,q2,q3]
   rw [List.any_eq_false]
   intro x hx
   have:=hal x hx
   simp;omega
  have hc' : j < keys.length:=by simpa using hc
  obtain ⟨tg,hkt⟩:=hk.fP (by intro e;have:=congrArg List.length e;simp at this;rw [this] at hc';simp at hc')
  rw [List.length_map] at hkt
  have a1 : (0 : Int)≤(j : Int):=by omega
  have a2 : (j : Int) < (keys.length : Int):=by omega
  have a3 : j*1 < (keys.map fun b=>[VV.str b]).flatten.length:=by rw [hBk.flat,List.length_map];omega
  have a4 : (keys.map fun b=>[VV.str b]).flatten.getD (j*1) .undef=VV.str keys[j]:=by
   have h:=hBk.og (i:=j) (by simpa using hc')
   have h2:=congrArg (·[0]?) h
   simp only [List.getElem?_take_of_lt (Nat.zero_lt_one),List.getElem?_drop,List.getElem_map,List.getElem?_cons_zero,Nat.add_zero] at h2
   rw [List.getD_eq_getElem?_getD,h2];rfl
  have a6 : IntKind.i64.wrap ((j : Int)+1)=((j+1 : Nat) : Int):=by rw [iw (by omega)];omega
  simp only [go_sem,seval,q1,q2,q3,q34,q35,q36,hkt,a1,a2,a3,a4,Int.toNat_natCast]
  refine aG (fun hb=>?_) (fun hb=>?_)
  ·have hb' : 200 < keys[j].length:=by simp at hb;omega
   simp only [go_sem,seval]
   exact fin (by rfl) (hbad (.inr (.inr (.inr (.inr (List.any_eq_true.2 ⟨keys[j],List.getElem_mem hc',by simpa using hb'⟩))))))
  ·have hb' : ¬ 200 < keys[j].length:=by simp at hb;omega
   simp only [go_sem,seval,q1,q2,q3,q34,q35,q36,a6]
   refine ⟨keys.length-(j+1),by omega,j+1,rfl,by omega,fun x hx=>?_,hkt,rfl⟩
   rw [List.take_succ_eq_append_getElem hc'] at hx
   rcases List.mem_append.1 hx with h | h
   ·exact hal x h
   ·simp at h;subst h;omega
 rintro ρ _ ⟨hany,q1,q2,q3,rfl⟩
 have wl : IntKind.i64.wrap (left-1)=left-1:=iw (by omega)
 have wd : IntKind.i64.wrap ((d : Int)+1)=((d+1 : Nat) : Int):=by rw [iw (by omega)];omega
 simp only [go_sem,seval,q1,q2,q3,wl,hisl]
 rw [hsm hany]
 refine bf (M:=fun ρ τ=>∃ l' : Int,ρ.get 2=.int .i64 l'∧Tr.smalls items (d+1) (left-1)=(l',true)) ?_ ?_
 ·rintro ρ τ ⟨l',q2,he⟩
  simp only [go_sem,seval,q2]
  rw [he]
  exact fin (by rfl) rfl
 refine aF (fun m ρ τ=>∃ (j : Nat) (l' : Int),m=items.length-j∧j≤items.length∧0≤l'∧l'≤400∧Tr.smalls items (d+1) (left-1)=Tr.smalls (items.drop j) (d+1) l'∧ρ.get 1=.int .i64 d∧ρ.get 2=.int .i64 l'∧ρ.get 47=iv∧ρ.get 48=.int .i64 items.length∧ρ.get 49=.int .i64 j) (n:=items.length) ?_ ⟨0,left-1,rfl,by omega,by omega,by omega,by simp,q1,rfl,rfl,rfl,rfl⟩
 rintro m ρ τ ⟨j,l',rfl,hj,hl0,hl4,he,q1,q2,q47,q48,q49⟩
 simp only [go_sem,seval,q47,q48,q49]
 refine aG (fun hc=>?_) (fun hc=>?_)
 rotate_left
 ·have hc' : j=items.length:=by simp at hc;omega
  subst hc'
  simp only [go_sem,seval,q2]
  rw [he,List.drop_length]
  exact ⟨l',rfl,by simp only [Tr.smalls]⟩
 have hc' : j < items.length:=by simpa using hc
 have hcj : j < cs.length:=by omega
 obtain ⟨tg,hit⟩:=hi.fP (by intro e;rw [e] at hcj;simp at hcj)
 rw [hcl] at hit
 have hT:=hcs.get j hc' hcj
 obtain ⟨x1,x2,x3⟩:=hT.cells
 have x4 : cs[j].take 5=cs[j]:=List.take_of_length_le (by omega)
 have a1 : (0 : Int)≤(j : Int):=by omega
 have a2 : (j : Int) < (items.length : Int):=by omega
 have a3 : j*5+5≤cs.flatten.length:=by rw [hBi.flat];omega
 have a4 : (cs.flatten.drop (j*5)).take 5=cs[j]:=hBi.og hcj
 have a6 : IntKind.i64.wrap ((j : Int)+1)=((j+1 : Nat) : Int):=by rw [iw (by omega)];omega
 have hr:=uq items[j] (d+1) l' hl0
 have hih:=ih j hc' hcj l' (by omega) hl0 hl4
 rw [List.drop_eq_getElem_cons hc',Tr.smalls] at he
 simp only [go_sem,seval,q1,q2,q47,q48,q49,hit,a1,a2,a3,a4,x1,x3,x4,wd,Int.toNat_natCast,SS]
 refine ah (hih) ?_<;>simp only [go_sem,seval,q1,q2,q47,q48,q49]
 generalize items[j].small (d+1) l'=rr at *
 obtain ⟨l2,ok⟩:=rr
 cases ok with
 | false =>
  simp only [go_sem,seval]
  simp only at he
  rw [he]
  exact fin (by rfl) rfl
 | true =>
  simp only at he hr
  simp only [go_sem,seval,q1,q47,q48,q49,a6]
  exact ⟨items.length-(j+1),by omega,j+1,l2,rfl,by omega,hr.1,by omega,he,rfl,hit,rfl⟩
mutual
theorem IG : ∀ (x : Tr) (c : List VV) (d : Nat) (left : Int),kV x c→d≤81→0≤left→left≤400→PV Tryz.prog G0 75 [.agg c,.int .i64 d,.int .i64 left] (.tup [.int .i64 (x.small d left).1,.bool (x.small d left).2])
 | .node k i t keys items,c,d,left,h,hd,h0,h40=>by
  cases h with
  | node h1 h2 h3 h4 h5=>exact Ik k i t keys items _ _ _ h1 h2 h3 h4 h5 d left hd h0 h40 fun j h h' l' hd' hl0 hl4=>FM items _ h2 j h h' (d+1) l' (by omega) hl0 hl4
theorem FM : ∀ (l : List Tr) (cs : List (List VV)),jl l cs→∀ (j : Nat) (h : j < l.length) (h' : j < cs.length) (d : Nat) (left : Int),d≤81→0≤left→left≤400→PV Tryz.prog G0 75 [.agg cs[j],.int .i64 d,.int .i64 left] (.tup [.int .i64 (l[j].small d left).1,.bool (l[j].small d left).2])
 | x::l,c::cs,.cons h1 h2,0,_,_,d,left,hd,h0,h4=>IG x c d left h1 hd h0 h4
 | x::l,c::cs,.cons h1 h2,j+1,h,h',d,left,hd,h0,h4=>FM l cs h2 j (by simpa using h) (by simpa using h') d left hd h0 h4
end
end Go.V
namespace Go.V
open Go.Proofs
set_option maxRecDepth 100000
def oP (l : List Bs) (k : Bs) : List Bs:=if k ∈ l then l else l++[k]
def Eh (ks : List Bs) : List Bs:=ks.foldl oP []
theorem xA (k : Bs) (v : VV) : ∀ es : List (List UInt8 × VV),(iL es k v).map (·.1)=oP (es.map (·.1)) k
 | []=>by simp [iL,oP]
 | (k',u)::es=>by
  have ih:=xA k v es
  unfold iL
  by_cases h : k=k'
  ·subst h;simp [oP]
  ·have hb : (k == k')=false:=by simpa using h
   rw [hb]
   simp only [Bool.false_eq_true,if_false,List.map_cons,ih,oP,List.mem_cons]
   by_cases h2 : k ∈ es.map (·.1)
   ·rw [if_pos h2,if_pos (.inr h2)]
   ·rw [if_neg h2,if_neg (by intro h3;rcases h3 with h3 | h3;exact h h3;exact h2 h3)];rfl
theorem zQ (k : Bs) (n : Int) : ∀ es : List (List UInt8 × VV),(∀ e ∈ es,∃ m,e.2=VV.int .i64 m)→∀ e ∈ iL es k (.int .i64 n),∃ m,e.2=VV.int .i64 m
 | [],_,e,he=>by simp [iL] at he;subst he;exact ⟨n,rfl⟩
 | (k',u)::es,h,e,he=>by
  unfold iL at he
  split at he
  ·rcases List.mem_cons.1 he with rfl | he
   ·exact ⟨n,rfl⟩
   ·exact h e (by simp [he])
  ·rcases List.mem_cons.1 he with rfl | he
   ·exact h _ (by simp)
   ·exact zQ k n es (fun e he=>h e (by simp [he])) e he
theorem Yo (k : Bs) : ∀ es : List (List UInt8 × VV),(∀ e ∈ es,∃ m,e.2=VV.int .i64 m)→ig es k=none∨∃ m,ig es k=some (.int .i64 m)
 | [],_=>.inl rfl
 | (k',u)::es,h=>by
  unfold ig
  split
  ·obtain ⟨m,e⟩:=h _ (List.mem_cons_self ..);exact .inr ⟨m,by rw [← e]⟩
  ·exact Yo k es fun e he=>h e (by simp [he])
def fF (k i : Int) (t : Bs) (keys : List Bs) (n : Nat) : Int :=
  if k=5 then (if keys.length≠n then 1 else if i≠0∨t≠[] then 1 else if (Eh keys).length < keys.length then 6 else 0)
  else if k=4∨k=6 then (if 0 < keys.length∨i≠0∨t≠[] then 1 else 0)
  else if k=0∨k=1∨k=2∨k=3 then (if 0 < keys.length+n then 1 else qm k i t)
  else 3
theorem KD {P : Program} {G : Nat→Option (List VV)} {t : TypeId} {m k : Operand} {c : Bool} {ty : TypeId} {ρ : Env} {σ : Store} : oo P G (.lookup t m k c) ty ρ σ=match uV P t,ev G ρ m,ev G ρ k with
  | some e,.mmap id,.str s=>match σ[id]?,yH P e with
   | some (.mp es),some z=>okV (if c=true then .tup [(ig es s).getD z,.bool (ig es s).isSome] else (ig es s).getD z) σ
   | _,_=>none
  | _,_,_=>none:=rfl
theorem CB {P : Program} {G : Nat→Option (List VV)} {t : TypeId} {m k x : Operand} {ty : TypeId} {ρ : Env} {σ : Store} : oo P G (.mapUpdate t m k x) ty ρ σ=match uV P t,ev G ρ m,ev G ρ k with
  | some _,.mmap id,.str s=>match σ[id]? with
   | some (.mp es)=>okV .undef (σ.set id (.mp (iL es s (ev G ρ x))))
   | _=>none
  | _,_,_=>none:=rfl
theorem OL {σ : Store} {id : Nat} {es : List (List UInt8 × VV)} (h : σ[id]?=some (.mp es)) : aT Tryz.prog 260 (.mmap id) σ=okV (.int .i64 es.length) σ:=by simp [aT,Le,h]
theorem Vy (k i : Int) (t : Bs) (keys : List Bs) (n : Nat) (kv iv : VV) (cs : List (List VV)) (hk : dG 1 kv (keys.map fun b=>[VV.str b])) (hcl : cs.length=n) (hi : dG 5 iv cs) (hkl : keys.length≤100000) (hil : n≤100000) :
  PV Tryz.prog G0 119 [.agg [.int .i64 k,.int .i64 i,.str t,kv,iv]] (.int .i64 (fF k i t keys n)):=by
 have hkp:=hk.pure
 have hip:=hi.pure
 have hkc:=hk.cell
 have hic:=hi.cell
 have hksl : ∀ {σ},aT Tryz.prog 26 kv σ=okV (.int .i64 keys.length) σ:=by intro σ;rw [hk.aT dM];simp
 have hisl : ∀ {σ},aT Tryz.prog 27 iv σ=okV (.int .i64 n) σ:=by intro σ;rw [hi.aT bK,hcl]
 have hBk:=hk.blk
 refine pv e119 (by simp) (by simp only [VV.ak,VV.isPure,hkp,hip];rfl) rfl ?_
 simp only [go_sem,seval] at hkc
 simp only [go_sem,seval] at hic
 obtain ⟨E,hE⟩ : ∃ E,E=fF k i t keys n:=⟨_,rfl⟩
 rw [← hE]
 have bt : (t == [])=decide (t=[]):=by by_cases h : t=[]<;>simp [h]
 by_cases c5 : k=5
 ·subst c5
  by_cases cl : keys.length=n
  rotate_left
  ·have b1 : ((keys.length : Int) == (n : Int))=false:=by simp;omega
   simp only [go_sem,seval,c119,bne,Bool.not_false,Bool.not_true,hkc,hic,hksl,hisl,b1]
   exact fin (by rfl) (by rw [hE];simp [fF,cl])
  have b1 : ((keys.length : Int) == (n : Int))=true:=by simp;omega
  simp only [go_sem,seval,c119,bne,Bool.not_false,Bool.not_true,hkc,hic,hksl,hisl,b1]
  refine bf (M:=fun ρ τ=>∃ es,ρ.get 1=.mptr 0 0∧ρ.get 3=.mmap 1∧τ=[.own [.int .i64 5,.int .i64 i,.str t,kv,iv],.mp es]∧es.map (·.1)=Eh keys) ?_ ?_
  rotate_left
  ·refine aF (fun m ρ τ=>∃ (j : Nat) (es : List (List UInt8 × VV)),m=keys.length-j∧j≤keys.length∧es.map (·.1)=Eh (keys.take j)∧(∀ e ∈ es,∃ m,e.2=VV.int .i64 m)∧ρ.get 1=.mptr 0 0∧ρ.get 3=.mmap 1∧ρ.get 19=kv∧ρ.get 20=.int .i64 keys.length∧ρ.get 21=.int .i64 j∧τ=[.own [.int .i64 5,.int .i64 i,.str t,kv,iv],.mp es]) (n:=keys.length) ?_ ⟨0,[],rfl,by omega,rfl,by simp,rfl,rfl,rfl,rfl,rfl,rfl⟩
   rintro m ρ _ ⟨j,es,rfl,hj,hes,hint,q1,q3,q19,q20,q21,rfl⟩
   simp only [go_sem,seval,q19,q20,q21]
   refine aG (fun hc=>?_) (fun hc=>?_)
   rotate_left
   ·have hc' : j=keys.length:=by simp at hc;omega
    subst hc'
    rw [List.take_length] at hes
    simp only [go_sem,seval,q1,q3]
    exact ⟨es,rfl,hes⟩
   have hc' : j < keys.length:=by simpa using hc
   obtain ⟨tg,hkt⟩:=hk.fP (by intro e;have:=congrArg List.length e;simp at this;rw [this] at hc';simp at hc')
   rw [List.length_map] at hkt
   have a1 : (0 : Int)≤(j : Int):=by omega
   have a2 : (j : Int) < (keys.length : Int):=by omega
   have a3 : j*1 < (keys.map fun b=>[VV.str b]).flatten.length:=by rw [hBk.flat,List.length_map];omega
   have a4 : (keys.map fun b=>[VV.str b]).flatten.getD (j*1) .undef=VV.str keys[j]:=by
    have h:=hBk.og (i:=j) (by simpa using hc')
    have h2:=congrArg (·[0]?) h
    simp only [List.getElem?_take_of_lt (Nat.zero_lt_one),List.getElem?_drop,List.getElem_map,List.getElem?_cons_zero,Nat.add_zero] at h2
    rw [List.getD_eq_getElem?_getD,h2];rfl
   have a6 : IntKind.i64.wrap ((j : Int)+1)=((j+1 : Nat) : Int):=by rw [iw (by omega)];omega
   obtain ⟨cnt,hcnt⟩ : ∃ c,(ig es keys[j]).getD (.int .i64 0)=VV.int .i64 c:=by
    rcases Yo keys[j] es hint with h | ⟨m,h⟩
    ·exact ⟨0,by rw [h];rfl⟩
    ·exact ⟨m,by rw [h];rfl⟩
   simp only [go_sem,seval,q1,q3,q19,q20,q21,hkt,a1,a2,a3,a4,a6,KD,CB,hcnt,Int.toNat_natCast]
   refine ⟨keys.length-(j+1),by omega,j+1,_,rfl,by omega, ?_, ?_,rfl,rfl⟩
   ·rw [xA,hes,List.take_succ_eq_append_getElem hc']
    unfold Eh
    rw [List.foldl_append];rfl
   ·exact zQ _ _ es hint
  rintro ρ _ ⟨es,q1,q3,rfl,hes⟩
  have hel : es.length=(Eh keys).length:=by rw [← hes];simp
  by_cases d2 : i=0
  rotate_left
  ·have e2 : (i == 0)=false:=by simpa using d2
   simp only [go_sem,seval,q1,q3,bne,Bool.not_false,Bool.not_true,hksl,e2]
   exact fin (by rfl) (by rw [hE];simp [fF,cl,d2])
  have e2 : (i == 0)=true:=by simpa using d2
  by_cases d3 : t=[]
  rotate_left
  ·have e3 : (t == [])=false:=by simpa using d3
   simp only [go_sem,seval,q1,q3,bne,Bool.not_false,Bool.not_true,hksl,e2,e3]
   exact fin (by rfl) (by rw [hE];simp [fF,cl,d2,d3])
  subst d3
  have hml:=OL (σ:=[.own [.int .i64 5,.int .i64 i,.str [],kv,iv],.mp es]) (id:=1) rfl
  by_cases d4 : (Eh keys).length < keys.length
  ·have e4 : decide (((Eh keys).length : Int) < (keys.length : Int))=true:=decide_eq_true (by omega)
   simp only [go_sem,seval,q1,q3,bne,Bool.not_false,Bool.not_true,hksl,e2,hml,hel,e4]
   exact fin (by rfl) (by rw [hE];simp [fF,cl,d2];omega)
  ·have e4 : decide (((Eh keys).length : Int) < (keys.length : Int))=false:=decide_eq_false (by omega)
   simp only [go_sem,seval,q1,q3,bne,Bool.not_false,Bool.not_true,hksl,e2,hml,hel,e4]
   exact fin (by rfl) (by rw [hE];simp [fF,cl,d2];omega)
 have b5 : (k == 5)=false:=by simpa using c5
 by_cases c46 : k=4∨k=6
 ·have b4 : (k == 4)=true∨((k == 4)=false∧(k == 6)=true):=by rcases c46 with rfl | rfl<;>simp
  by_cases d1 : 0 < keys.length
  ·have e1 : decide ((0 : Int) < (keys.length : Int))=true:=decide_eq_true (by omega)
   rcases b4 with b4 | ⟨b4,b6⟩
   ·simp only [go_sem,seval,c119,bne,Bool.not_false,Bool.not_true,hkc,hic,hksl,hisl,b5,b4,e1]
    exact fin (by rfl) (by rw [hE];simp [fF,c5,c46,d1])
   ·simp only [go_sem,seval,c119,bne,Bool.not_false,Bool.not_true,hkc,hic,hksl,hisl,b5,b4,b6,e1]
    exact fin (by rfl) (by rw [hE];simp [fF,c5,c46,d1])
  have e1 : decide ((0 : Int) < (keys.length : Int))=false:=decide_eq_false (by omega)
  by_cases d2 : i=0
  rotate_left
  ·have e2 : (i == 0)=false:=by simpa using d2
   rcases b4 with b4 | ⟨b4,b6⟩
   ·simp only [go_sem,seval,c119,bne,Bool.not_false,Bool.not_true,hkc,hic,hksl,hisl,b5,b4,e1,e2]
    exact fin (by rfl) (by rw [hE];simp [fF,c5,c46,d1,d2])
   ·simp only [go_sem,seval,c119,bne,Bool.not_false,Bool.not_true,hkc,hic,hksl,hisl,b5,b4,b6,e1,e2]
    exact fin (by rfl) (by rw [hE];simp [fF,c5,c46,d1,d2])
  have e2 : (i == 0)=true:=by simpa using d2
  by_cases d3 : t=[]
  ·subst d3
   rcases b4 with b4 | ⟨b4,b6⟩
   ·simp only [go_sem,seval,c119,bne,Bool.not_false,Bool.not_true,hkc,hic,hksl,hisl,b5,b4,e1,e2]
    exact fin (by rfl) (by rw [hE];simp [fF,c5,c46,d1,d2])
   ·simp only [go_sem,seval,c119,bne,Bool.not_false,Bool.not_true,hkc,hic,hksl,hisl,b5,b4,b6,e1,e2]
    exact fin (by rfl) (by rw [hE];simp [fF,c5,c46,d1,d2])
  ·have e3 : (t == [])=false:=by simpa using d3
   rcases b4 with b4 | ⟨b4,b6⟩
   ·simp only [go_sem,seval,c119,bne,Bool.not_false,Bool.not_true,hkc,hic,hksl,hisl,b5,b4,e1,e2,e3]
    exact fin (by rfl) (by rw [hE];simp [fF,c5,c46,d1,d2,d3])
   ·simp only [go_sem,seval,c119,bne,Bool.not_false,Bool.not_true,hkc,hic,hksl,hisl,b5,b4,b6,e1,e2,e3]
    exact fin (by rfl) (by rw [hE];simp [fF,c5,c46,d1,d2,d3])
 have b4 : (k == 4)=false:=by simp;omega
 have b6 : (k == 6)=false:=by simp;omega
 by_cases c03 : k=0∨k=1∨k=2∨k=3
 ·have wn : IntKind.i64.wrap ((keys.length : Int)+(n : Int))=((keys.length+n : Nat) : Int):=by rw [iw (by omega)];omega
  by_cases d1 : 0 < keys.length+n
  ·have e1 : decide ((0 : Int) < ((keys.length+n : Nat) : Int))=true:=decide_eq_true (by omega)
   rcases c03 with rfl | rfl | rfl | rfl
   all_goals
    simp only [go_sem,seval,c119,bne,Bool.not_false,Bool.not_true,hkc,hic,hksl,hisl,wn,e1]
    exact fin (by rfl) (by rw [hE];unfold fF;rw [if_neg (by decide),if_neg (by decide),if_pos (by decide),if_pos d1])
  ·have e1 : decide ((0 : Int) < ((keys.length+n : Nat) : Int))=false:=decide_eq_false (by omega)
   have hS:=Ea k i t
   rcases c03 with rfl | rfl | rfl | rfl
   all_goals
    simp only [go_sem,seval,c119,bne,Bool.not_false,Bool.not_true,hkc,hic,hksl,hisl,wn,e1]
    refine ah (hS) ?_<;>simp only [go_sem,seval]
    exact fin (by rfl) (by rw [hE];unfold fF;rw [if_neg (by decide),if_neg (by decide),if_pos (by decide),if_neg d1])
 ·have k0 : (k == 0)=false:=by simp;omega
  have k1 : (k == 1)=false:=by simp;omega
  have k2 : (k == 2)=false:=by simp;omega
  have k3 : (k == 3)=false:=by simp;omega
  simp only [go_sem,seval,c119,bne,Bool.not_false,Bool.not_true,hkc,hic,hksl,hisl,b4,b5,b6,k0,k1,k2,k3]
  exact fin (by rfl) (by rw [hE];simp [fF,c5,c46,c03])
end Go.V
namespace Go.V
open Go.Proofs
set_option maxRecDepth 100000
theorem UE {α : Type} (Inv : Nat→α→Prop) (Step : Nat→α→α→Prop) (a0 : α) (h0 : Inv 0 a0) (hs : ∀ j a,Inv j a→∃ a',Inv (j+1) a'∧Step j a a') : ∃ f : Nat→α,f 0=a0∧∀ j,Inv j (f j)∧Step j (f j) (f (j+1)):=by
 let F : (j : Nat)→{ a : α // Inv j a }:=fun j=>Nat.rec ⟨a0,h0⟩ (fun j p=>⟨Classical.choose (hs j p.1 p.2),(Classical.choose_spec (hs j p.1 p.2)).1⟩) j
 exact ⟨fun j=>(F j).1,rfl,fun j=>⟨(F j).2,(Classical.choose_spec (hs j (F j).1 (F j).2)).2⟩⟩
theorem J9 {α : Type} (xs : List α) (j k : Nat) : xs.take (j+k)=xs.take j++(xs.drop j).take k:=by
 rw [List.take_add]
theorem FT (v : VV) (xs : List (List VV)) (hv : dG 11 v xs) (hl : xs.length≤100000) : ∃ r,RP r xs∧PV Tryz.prog G0 122 [v] (.agg [r]):=by
 obtain ⟨f,hf0,hf⟩:=UE (fun j a=>RP a (xs.take (16*j))) (fun j a a'=>16*j < xs.length→∃ lf,PV Tryz.prog G0 171 [.sl ((xs.drop (16*j)).take 16).length ((xs.drop (16*j)).take 16).flatten false] lf∧PV Tryz.prog G0 170 [a,lf] a') .nilp (.inl ⟨rfl,by simp⟩) (fun j a ha=>by
  by_cases h : 16*j < xs.length
  ·have hB : dh 11 ((xs.drop (16*j)).take 16):=⟨fun x hx=>hv.blk.len x (List.mem_of_mem_drop (List.mem_of_mem_take hx)),fun x hx=>hv.blk.pure x (List.mem_of_mem_drop (List.mem_of_mem_take hx)),fun x hx=>hv.blk.cell x (List.mem_of_mem_drop (List.mem_of_mem_take hx))⟩
   obtain ⟨lf,h1,h2,_⟩:=Dv _ _ (dG.of hB rfl rfl)
   obtain ⟨a',h3,h4⟩:=Ur a lf _ _ ha h1 (by simp;omega)
   exact ⟨a',by rw [show 16*(j+1)=16*j+16 by omega,J9];exact h3,fun _=>⟨lf,h2,h4⟩⟩
  ·exact ⟨a,by rw [List.take_of_length_le (by omega)];rw [List.take_of_length_le (by omega)] at ha;exact ha,fun h'=>absurd h' h⟩)
 have hroot : RP (f ((xs.length+15) / 16)) xs:=by
  have:=(hf ((xs.length+15) / 16)).1
  rwa [List.take_of_length_le (by omega)] at this
 refine ⟨f ((xs.length+15) / 16),hroot, ?_⟩
 have hvp:=hv.pure
 have hvl : ∀ {σ},aT Tryz.prog 196 v σ=okV (.int .i64 xs.length) σ:=by intro σ;rw [hv.aT dS]
 refine pv e122 (by simp) (by simp only [VV.ak,hvp];rfl) (by simp only [VV.isPure,VV.ak,hroot.pure,Bool.and_self]) ?_
 simp only [go_sem,seval,c122]
 refine bf (M:=fun ρ τ=>ρ.get 2=.mptr 0 0∧ρ.get 3=.mptr 1 0∧τ[0]?=some (.own [.nilp])∧τ[1]?=some (.own [f ((xs.length+15) / 16)])) ?_ ?_
 ·rintro ρ τ ⟨q2,q3,h0,h1⟩
  have hrc:=hroot.cell
  simp only [go_sem,seval] at hrc
  have hl0:=(List.getElem?_eq_some_iff.1 h0).1
  simp only [go_sem,seval,q2,q3,h0,h1,hrc,List.getElem?_set_self hl0]
  exact fin (by simp only [VV.isPure,VV.ak,hroot.pure,Bool.and_self]) rfl
 refine aF (fun m ρ τ=>∃ j : Nat,m=xs.length-j∧j≤(xs.length+15) / 16∧ρ.get 0=v∧ρ.get 2=.mptr 0 0∧ρ.get 3=.mptr 1 0∧ρ.get 4=.int .i64 (16*j : Nat)∧τ=[.own [.nilp],.own [f j]]) (n:=xs.length) ?_ ⟨0,rfl,by omega,rfl,rfl,rfl,rfl,by rw [hf0]⟩
 rintro m ρ _ ⟨j,rfl,hj,q0,q2,q3,q4,rfl⟩
 simp only [go_sem,seval,q0,q2,q3,q4,hvl]
 refine aG (fun hc=>?_) (fun hc=>?_)
 rotate_left
 ·have hc' : j=(xs.length+15) / 16:=by simp at hc;omega
  subst hc'
  simp only [go_sem,seval,q2,q3]
 have hc' : 16*j < xs.length:=by simp at hc;omega
 obtain ⟨lf,hlf,hjn⟩:=(hf j).2 hc'
 obtain ⟨tg,hvt⟩:=hv.fP (by intro e;rw [e] at hc';simp at hc')
 have w1 : IntKind.i64.wrap (((16*j : Nat) : Int)+16)=((16*j+16 : Nat) : Int):=by rw [iw (by omega)];omega
 obtain ⟨hi,hhi⟩ : ∃ h,h=min (16*j+16) xs.length:=⟨_,rfl⟩
 have hmin : pU false (.int .i64 (16*j+16 : Nat)) (.int .i64 (xs.length : Nat))=some (.int .i64 (hi : Nat)):=by
  have : (if ((xs.length : Nat) : Int) < ((16*j+16 : Nat) : Int) then ((xs.length : Nat) : Int) else ((16*j+16 : Nat) : Int))=((hi : Nat) : Int):=by split<;>omega
  simp only [pU,Bool.false_eq_true,if_false,this]
 have c1 : ((16*j : Nat) : Int)≤((hi : Nat) : Int):=by omega
 have c2 : (0 : Int)≤((16*j : Nat) : Int):=by omega
 have c3 : ((hi : Nat) : Int)≤((xs.length : Nat) : Int):=by omega
 have c4 : xs.flatten.length=xs.length*11:=hv.blk.flat
 have c5 : (xs.flatten.drop (16*j*11)).take ((hi-16*j)*11)=((xs.drop (16*j)).take 16).flatten:=by
  rw [hv.blk.jD,(hv.blk.drop _).jB]
  congr 1
  by_cases h : 16*j+16≤xs.length
  ·rw [show hi-16*j=16 by omega]
  ·rw [List.take_of_length_le (by simp;omega),List.take_of_length_le (by simp;omega)]
 have c6 : hi-16*j=((xs.drop (16*j)).take 16).length:=by simp;omega
 simp only [go_sem,seval,q0,q2,q3,q4,hvl,hvt,w1,hmin,c1,c2,c3,c4,c5,Int.toNat_natCast]
 have hB : dh 11 ((xs.drop (16*j)).take 16):=(hv.blk.drop _).take _
 have hboth:=Cc (.sl ((xs.drop (16*j)).take 16).length ((xs.drop (16*j)).take 16).flatten (tg && decide (hi=xs.length))) .nils _ [] (dG.of hB rfl rfl) .nil (by simp;omega)
 rw [List.append_nil] at hboth
 have hrc:=(hf j).1.cell
 have hrc2:=(hf (j+1)).1.cell
 have u1:=iq hrc2
 have u2:=cellC hrc2
 simp only [go_sem,seval] at hrc
 simp only [go_sem,seval] at hrc2
 simp only [go_sem,seval] at u1
 simp only [go_sem,seval] at u2
 have w2 : IntKind.i64.wrap (((16*j : Nat) : Int)+16)=((16*(j+1) : Nat) : Int):=by rw [iw (by omega)];omega
 rw [c6]
 refine aj (hboth) (by simp only [go_sem,seval,q0,q2,q3,q4,hvt,hrc]) ?_<;>simp only [go_sem,seval,q0,q2,q3,q4,hvt,hrc]
 refine aj (hlf) (by simp only [go_sem,seval,q0,q2,q3,q4,hvt,hrc]) ?_<;>simp only [go_sem,seval,q0,q2,q3,q4,hvt,hrc]
 refine aj (hjn) (by simp only [go_sem,seval,q0,q2,q3,q4,hvt,hrc,hrc2,u1,u2,w2]) ?_<;>simp only [go_sem,seval,q0,q2,q3,q4,hvt,hrc,hrc2,u1,u2,w2]
 exact ⟨xs.length-(j+1),by omega,j+1,rfl,by omega,rfl,rfl⟩
end Go.V
namespace Go.V
inductive Hz where
 | ok (v : T)
 | er (e : Int)
def insL (ps : List (Bs × T)) : List (Bs × T):=ps.foldl (fun acc p=>cO p.1 p.2 acc) []
def jP (k : Int) (keys : List Bs) (l : List T) : Hz :=
 if k=4 then .ok (.vec l)
 else if k=5 then .ok (.map (insL (keys.zip l)))
 else if (insL (l.map fun v=>(v.key,v))).length < l.length then .er 6 else .ok (.set ((insL (l.map fun v=>(v.key,v))).map (·.2)))
mutual
def Tr.mk : Tr→Nat→Nat→Nat × Hz
 | .node k i t keys items,q,n =>
  if 64 < q then (n+1,.er 7) else if 16384 < n+1 then (n+1,.er 8)
  else if fF k i t keys items.length≠0 then (n+1,.er (fF k i t keys items.length))
  else if k < 4 then (n+1,.ok (.sc k i t))
  else match Tr.sD items (q+1) (n+1) with
   | (n',.inr e)=>(n',.er e)
   | (n',.inl l)=>(n',jP k keys l)
def Tr.sD : List Tr→Nat→Nat→Nat × (List T ⊕ Int)
 | [],_,n=>(n,.inl [])
 | x::l,q,n=>match x.mk q n with
  | (n',.er e)=>(n',.inr e)
  | (n',.ok v)=>match Tr.sD l q n' with
   | (n'',.inr e)=>(n'',.inr e)
   | (n'',.inl vs)=>(n'',.inl (v::vs))
end
inductive jk : Tr→Prop
 | node {k i : Int} {t : Bs} {keys : List Bs} {items : List Tr} : -9223372036854775808≤i→i≤9223372036854775807→(∀ x ∈ items,jk x)→jk (.node k i t keys items)
theorem vO : ∀ (ps acc : List (Bs × T)),iJ acc→iJ (ps.foldl (fun acc p=>cO p.1 p.2 acc) acc)
 | [],_,h=>h
 | p::ps,acc,h=>vO ps _ (jQ h)
theorem BK {q : Nat} : ∀ (ps acc : List (Bs × T)),T.Ac q acc→T.Ac q ps→T.Ac q (ps.foldl (fun acc p=>cO p.1 p.2 acc) acc)
 | [],_,h,_=>h
 | p::ps,acc,h,hp=>BK ps _ (Fh hp.1 h) hp.2
theorem uJ {k : Bs} {v : T} : ∀ {l : List (Bs × T)},(cO k v l).length≤l.length+1∧(iJ l→(∃ p ∈ l,p.1=k)→(cO k v l).length=l.length)
 | []=>by simp [cO]
 | (k',v')::l=>by
  have ih:=uJ (k:=k) (v:=v) (l:=l)
  unfold cO
  split
  ·rename_i hb
   refine ⟨by simp,fun hr ⟨p,hp,e⟩=>?_⟩
   exfalso
   obtain ⟨h1,h2⟩:=List.pairwise_cons.1 hr
   rcases List.mem_cons.1 hp with rfl | hp
   ·exact uo hb e.symm
   ·have:=kE _ _ _ hb (h1 p hp);rw [e,jA] at this;cases this
  ·split
   ·exact ⟨by simp,fun _ _=>by simp⟩
   ·rename_i hb hne
    refine ⟨by simp only [List.length_cons];omega,fun hr ⟨p,hp,e⟩=>?_⟩
    obtain ⟨h1,h2⟩:=List.pairwise_cons.1 hr
    rcases List.mem_cons.1 hp with rfl | hp
    ·exact absurd e.symm hne
    ·simp only [List.length_cons];rw [ih.2 h2 ⟨p,hp,e⟩]
theorem jW : ∀ (ps acc : List (Bs × T)),(ps.foldl (fun acc p=>cO p.1 p.2 acc) acc).length≤acc.length+ps.length
 | [],acc=>by simp
 | p::ps,acc=>by
  have h1:=jW ps (cO p.1 p.2 acc)
  have h2:=(uJ (k:=p.1) (v:=p.2) (l:=acc)).1
  simp only [List.foldl_cons,List.length_cons]
  omega
theorem BR : ∀ (ps acc : List (Bs × T)),iJ acc→(ps.foldl (fun acc p=>cO p.1 p.2 acc) acc).length=acc.length+ps.length→T.mP (ps.foldl (fun acc p=>cO p.1 p.2 acc) acc)=T.mP acc+T.mP ps
 | [],acc,_,_=>by simp [T.mP]
 | p::ps,acc,hr,h=>by
  simp only [List.foldl_cons,List.length_cons] at h ⊢
  have h1:=jW ps (cO p.1 p.2 acc)
  have h2:=uJ (k:=p.1) (v:=p.2) (l:=acc)
  have hno : ∀ x ∈ acc,x.1≠p.1:=by
   intro x hx e
   have:=h2.2 hr ⟨x,hx,e⟩
   omega
  have hlen : (cO p.1 p.2 acc).length=acc.length+1:=by have:=h2.1;omega
  rw [BR ps _ (jQ hr) (by omega),D8 hno]
  simp only [T.mP]
  omega
end Go.V
namespace Go.V
theorem uT : ∀ (ks acc : List Bs),(ks.foldl oP acc).length≤acc.length+ks.length
 | [],acc=>by simp
 | k::ks,acc=>by
  have:=uT ks (oP acc k)
  have h2 : (oP acc k).length≤acc.length+1:=by unfold oP;split<;>simp
  simp only [List.foldl_cons,List.length_cons]
  omega
theorem qX : ∀ (ks acc : List Bs),(ks.foldl oP acc).length=acc.length+ks.length→ks.Nodup∧∀ k ∈ ks,k ∉ acc
 | [],acc,_=>by simp
 | k::ks,acc,h=>by
  have h1:=uT ks (oP acc k)
  simp only [List.foldl_cons,List.length_cons] at h
  have hk : k ∉ acc:=by
   intro hk
   have : oP acc k=acc:=by unfold oP;rw [if_pos hk]
   rw [this] at h1 h
   omega
  have ha : oP acc k=acc++[k]:=by unfold oP;rw [if_neg hk]
  rw [ha] at h
  obtain ⟨i1,i2⟩:=qX ks (acc++[k]) (by rw [h];simp;omega)
  refine ⟨List.nodup_cons.2 ⟨fun hm=>i2 k hm (by simp),i1⟩,fun x hx=>?_⟩
  rcases List.mem_cons.1 hx with rfl | hx
  ·exact hk
  ·exact fun hm=>i2 x hx (by simp [hm])
theorem zq {k : Bs} {v : T} : ∀ {l : List (Bs × T)},(∀ p ∈ l,p.1≠k)→(cO k v l).length=l.length+1
 | [],_=>by simp [cO]
 | (k',v')::l,h=>by
  unfold cO
  split
  ·simp
  ·split
   ·rename_i he;exact absurd he.symm (h (k',v') (by simp))
   ·simp only [List.length_cons];rw [zq fun p hp=>h p (by simp [hp])]
theorem oG : ∀ (ps acc : List (Bs × T)),(ps.map (·.1)).Nodup→(∀ k ∈ ps.map (·.1),∀ p ∈ acc,p.1≠k)→(ps.foldl (fun acc p=>cO p.1 p.2 acc) acc).length=acc.length+ps.length
 | [],acc,_,_=>by simp
 | p::ps,acc,hn,h=>by
  obtain ⟨n1,n2⟩:=List.nodup_cons.1 (by simpa using hn : (p.1::ps.map (·.1)).Nodup)
  simp only [List.foldl_cons,List.length_cons]
  rw [oG ps _ n2 ?_,zq (h p.1 (by simp))]
  ·omega
  ·intro k hk x hx e
   rcases ng hx with rfl | hx
   ·simp only at e;subst e;exact n1 hk
   ·exact h k (by simp only [List.map_cons,List.mem_cons];exact .inr hk) x hx e
theorem zf : ∀ (ks : List Bs) (l : List T),ks.length=l.length→(ks.zip l).map (·.1)=ks∧T.mP (ks.zip l)=T.oQ l∧∀ q,T.wfs q l→T.Ac q (ks.zip l)
 | [],[],_=>by simp [T.mP,T.oQ,T.Ac]
 | k::ks,x::l,h=>by
  obtain ⟨a,b,c⟩:=zf ks l (by simpa using h)
  refine ⟨by simp [a],by simp [T.mP,T.oQ,b],fun q hq=>⟨hq.1,c q hq.2⟩⟩
 | [],x::l,h=>by simp at h
 | k::ks,[],h=>by simp at h
theorem IV : ∀ (l : List T),T.mP (l.map fun v=>(v.key,v))=T.oQ l∧∀ q,T.wfs q l→T.Ac q (l.map fun v=>(v.key,v))
 | []=>by simp [T.mP,T.oQ,T.Ac]
 | x::l=>by
  obtain ⟨b,c⟩:=IV l
  refine ⟨by simp [T.mP,T.oQ,b],fun q hq=>⟨hq.1,c q hq.2⟩⟩
theorem zG : ∀ (ps acc : List (Bs × T)),(∀ p ∈ acc,p.1=p.2.key)→(∀ p ∈ ps,p.1=p.2.key)→∀ p ∈ ps.foldl (fun acc p=>cO p.1 p.2 acc) acc,p.1=p.2.key
 | [],_,h,_=>h
 | p::ps,acc,h,hp=>zG ps _ (fun x hx=>by
   rcases ng hx with rfl | hx
   ·exact hp p (by simp)
   ·exact h x hx) fun x hx=>hp x (by simp [hx])
theorem wV {k : Int} {keys : List Bs} {l : List T} {q : Nat} {v : T} (hq : q≤64) (hk : k=4∨(k=5∧keys.length=l.length∧¬ (Eh keys).length < keys.length)∨k=6) (hl : T.wfs (q+1) l) (h : jP k keys l=.ok v) : v.wf q∧v.nd=1+T.oQ l:=by
 unfold jP at h
 rcases hk with rfl | ⟨rfl,h1,h2⟩ | rfl
 ·rw [if_pos rfl] at h
  cases h
  exact ⟨⟨hq,hl⟩,by simp [T.nd]⟩
 ·rw [if_neg (by decide),if_pos rfl] at h
  cases h
  obtain ⟨a,b,c⟩:=zf keys l h1
  have hd:=uT keys []
  obtain ⟨n1,_⟩:=qX keys [] (by unfold Eh at h2;simp at hd ⊢;omega)
  have hf:=oG (keys.zip l) [] (by rw [a];exact n1) (by simp)
  have hn:=BR (keys.zip l) [] List.Pairwise.nil hf
  refine ⟨⟨hq,vO _ _ List.Pairwise.nil,BK _ _ trivial (c _ hl)⟩, ?_⟩
  simp only [T.nd,insL]
  rw [hn,b]
  simp [T.mP]
 ·rw [if_neg (by decide),if_neg (by decide)] at h
  split at h
  ·cases h
  ·rename_i hlen
   cases h
   obtain ⟨b,c⟩:=IV l
   have hle:=jW (l.map fun v=>(v.key,v)) []
   have hf : ((l.map fun v=>(v.key,v)).foldl (fun acc p=>cO p.1 p.2 acc) []).length=([] : List (Bs × T)).length+(l.map fun v=>(v.key,v)).length:=by
    unfold insL at hlen
    simp at hle hlen ⊢
    omega
   have hn:=BR _ [] List.Pairwise.nil hf
   have hky:=zG (l.map fun v=>(v.key,v)) [] (by simp) (by simp)
   refine ⟨⟨hq, ?_, ?_⟩, ?_⟩
   ·unfold insL;rw [keyed hky];exact vO _ _ List.Pairwise.nil
   ·unfold insL;exact Jo (BK _ _ trivial (c _ hl))
   ·simp only [T.nd,insL,BM]
    rw [hn,b]
    simp [T.mP]
mutual
theorem xW : ∀ (x : Tr) (q n n' : Nat) (v : T),jk x→x.mk q n=(n',.ok v)→v.wf q∧n'=n+v.nd∧n'≤16384
 | .node k i t keys items,q,n,n',v,hx,h=>by
  cases hx with
  | node hi1 hi2 hx =>
  unfold Tr.mk at h
  split at h
  ·cases h
  ·rename_i hq
   split at h
   ·cases h
   ·rename_i hn
    split at h
    ·cases h
    ·rename_i hown
     have hown : fF k i t keys items.length=0:=by simpa using hown
     unfold fF at hown
     split at h
     ·rename_i hk4
      simp only [Prod.mk.injEq,Hz.ok.injEq] at h
      obtain ⟨rfl,rfl⟩:=h
      rw [if_neg (by omega),if_neg (by omega)] at hown
      split at hown
      ·rename_i hk
       split at hown
       ·omega
       ·simp only [T.wf,T.nd]
        refine ⟨⟨by omega, ?_⟩,trivial,by omega⟩
        unfold qm at hown
        unfold Wy
        rcases hk with rfl | rfl | rfl | rfl
        ·simp at hown;exact .inl ⟨rfl,hown⟩
        ·simp at hown;right;left;by_cases ht : t=[]<;>simp [ht] at hown ⊢<;>omega
        ·simp at hown;exact .inr (.inr (.inl ⟨rfl,hown,hi1,hi2⟩))
        ·simp at hown;exact .inr (.inr (.inr ⟨rfl,hown⟩))
      ·omega
     ·rename_i hk4
      cases hm : Tr.sD items (q+1) (n+1) with
      | mk n1 r =>
       rw [hm] at h
       cases r with
       | inr e=>simp at h
       | inl l =>
        simp only [Prod.mk.injEq] at h
        obtain ⟨rfl,h⟩:=h
        obtain ⟨g1,g2,g3,g4⟩:=qA items (q+1) (n+1) n1 l hx hm (by omega)
        have hk : k=4∨(k=5∧keys.length=l.length∧¬ (Eh keys).length < keys.length)∨k=6:=by
         by_cases h5 : k=5
         ·subst h5
          rw [if_pos rfl] at hown
          split at hown
          ·omega
          ·rename_i hkl
           split at hown
           ·omega
           ·split at hown
            ·omega
            ·rename_i hdd
             exact .inr (.inl ⟨rfl,by rw [g4];simpa using hkl,hdd⟩)
         ·rw [if_neg h5] at hown
          by_cases h46 : k=4∨k=6
          ·rcases h46 with h | h
           ·exact .inl h
           ·exact .inr (.inr h)
          ·rw [if_neg h46,if_neg (by omega)] at hown;omega
        obtain ⟨w1,w2⟩:=wV (by omega) hk g1 h
        exact ⟨w1,by omega,g3⟩
theorem qA : ∀ (l : List Tr) (q n n' : Nat) (vs : List T),(∀ x ∈ l,jk x)→Tr.sD l q n=(n',.inl vs)→n≤16384→T.wfs q vs∧n'=n+T.oQ vs∧n'≤16384∧vs.length=l.length
 | [],q,n,n',vs,_,h,hn=>by
  unfold Tr.sD at h
  simp only [Prod.mk.injEq,Sum.inl.injEq] at h
  obtain ⟨rfl,rfl⟩:=h
  exact ⟨trivial,by simp [T.oQ],hn,rfl⟩
 | x::l,q,n,n',vs,hx,h,hn=>by
  unfold Tr.sD at h
  split at h
  ·simp at h
  ·rename_i n1 v hv
   obtain ⟨a1,a2,a3⟩:=xW x q n n1 v (hx x (by simp)) hv
   split at h
   ·simp at h
   ·rename_i n2 vs' hvs
    simp only [Prod.mk.injEq,Sum.inl.injEq] at h
    obtain ⟨rfl,rfl⟩:=h
    obtain ⟨b1,b2,b3,b4⟩:=qA l q n1 n2 vs' (fun y hy=>hx y (by simp [hy])) hvs a3
    exact ⟨⟨a1,b1⟩,by simp only [T.oQ];omega,b3,by simp [b4]⟩
end
end Go.V
