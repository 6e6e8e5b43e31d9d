/- Texts V4 V5. -/
import Derived.Deep.AppendSrc
import Derived.Deep.MidRow
import Derived.Deep.Upon
import Derived.Laws.BytesArg
import Derived.Laws.MakeOwn
import Derived.Test.YtgmhpemjlbgfcaaGreatDoorG02
set_option linter.unusedVariables false
set_option linter.unusedSimpArgs false
namespace Go.V
theorem xO {w : World} {O : Nat→Prop} {μ : List Loc} (v : Value) : VR w O μ (rP v) v:=by
 unfold rP
 split<;>simp [VR]
theorem jO {w : World} {O : Nat→Prop} {μ : List Loc} : ∀ (l : List Value),bI w O μ (l.map rP) l
 | []=>by simp [bI]
 | v::l=>by simp only [List.map_cons,bI];exact ⟨v,l,rfl,xO v,jO l⟩
theorem TI {w : World} {O : Nat→Prop} {μ : List Loc} (v : Value) : VR w O μ (WT v) v:=by
 unfold WT
 split
 ·simp only [VR];exact ⟨_,rfl,jO _⟩
 ·simp only [VR];exact ⟨_,rfl,xO _⟩
 ·exact xO _
theorem sO {w : World} {O : Nat→Prop} {μ : List Loc} {x : VV} {v : Value} (h : VR w O μ x v) (hc : x.aC=true) : v.oneCell'=true:=by
 cases x<;>simp [VV.aC] at hc<;>simp only [VR] at h
 all_goals first
  | (subst h;rfl)
  | (rcases h with ⟨_,_,_,rfl,_⟩ | ⟨_,_,_,rfl⟩<;>rfl)
  | (obtain ⟨_,_,rfl,_⟩:=h;rfl)
  | (obtain ⟨_,_,_,rfl,_⟩:=h;rfl)
  | (obtain ⟨_,_,rfl⟩:=h;rfl)
  | (obtain ⟨_,rfl,_⟩:=h;rfl)
  | (obtain ⟨_,_,_,rfl,_⟩:=h;rfl)
theorem cells_one {w : World} {O : Nat→Prop} {μ : List Loc} {xs : List VV} {vs : List Value} (h : bI w O μ xs vs) (hc : aQ xs=true) : ∀ v ∈ vs,v.oneCell'=true:=by
 intro v hv
 obtain ⟨i,hi⟩:=List.getElem?_of_mem hv
 obtain ⟨h1,h2⟩:=jf.1 h
 have hlt : i < xs.length:=by rw [← h1];exact (List.getElem?_eq_some_iff.1 hi).1
 have hx : xs[i]?=some xs[i]:=by simp [hlt]
 refine sO (h2 i _ v hx hi) ?_
 simp only [aQ,List.all_eq_true] at hc
 exact hc _ (List.getElem_mem hlt)
theorem VC.vals {w : World} {O : Nat→Prop} {μ : List Loc} : ∀ {xs : List VV} {b o : Nat},VC w O μ xs b o→∃ vs : List Value,bI w O μ xs vs∧w.rangeAt b o vs
 | [],_,_,_=>⟨[],by simp [bI],fun j v h=>by simp at h⟩
 | x::xs,b,o,h=>by
  simp only [VC] at h
  obtain ⟨⟨v,hv,h1⟩,h2⟩:=h
  obtain ⟨vs,h3,h4⟩:=VC.vals h2
  refine ⟨v::vs,by simp only [bI];exact ⟨v,vs,rfl,h1,h3⟩,fun j u hu=>?_⟩
  cases j with
  | zero=>simp at hu;subst hu;exact hv
  | succ j=>rw [show o+(j+1)=o+1+j by omega];exact h4 j u (by simpa using hu)
theorem VC.uG {w : World} {O : Nat→Prop} {μ : List Loc} {xs : List VV} {vs : List Value} {b o : Nat} (h : bI w O μ xs vs) (hr : w.rangeAt b o vs) : VC w O μ xs b o:=by
 rw [iU]
 intro i x hx
 obtain ⟨v,hv,h1⟩:=h.get hx
 exact ⟨v,hr i v hv,h1⟩
theorem vN {w : World} {O : Nat→Prop} {μ : List Loc} {x : VV} {v : Value} (h : VR w O μ x v) (hx : x≠.undef) : bI w O μ x.cells v.cells.toList:=by
 cases x with
 | undef=>exact absurd rfl hx
 | agg cs=>simp only [VR] at h;obtain ⟨a,rfl,h1⟩:=h;simpa [VV.cells,Value.cells] using h1
 | tup cs =>
  simp only [VR] at h;obtain ⟨a,rfl,h1⟩:=h
  simp only [VV.cells,Value.cells,bI]
  exact ⟨_,[],rfl,by simp only [VR];exact ⟨a,rfl,h1⟩,rfl⟩
 | _ =>
  have h':=h
  simp only [VR] at h
  first
   | (subst h;simp only [VV.cells,Value.cells,bI];exact ⟨_,[],rfl,h',rfl⟩)
   | (rcases h with ⟨_,_,_,rfl,_⟩ | ⟨_,_,_,rfl⟩<;>(simp only [VV.cells,Value.cells,bI];exact ⟨_,[],rfl,h',rfl⟩))
   | (obtain ⟨_,_,rfl,_⟩:=h;simp only [VV.cells,Value.cells,bI];exact ⟨_,[],rfl,h',rfl⟩)
   | (obtain ⟨_,_,_,rfl,_⟩:=h;simp only [VV.cells,Value.cells,bI];exact ⟨_,[],rfl,h',rfl⟩)
   | (obtain ⟨_,_,rfl⟩:=h;simp only [VV.cells,Value.cells,bI];exact ⟨_,[],rfl,h',rfl⟩)
   | (obtain ⟨_,rfl,_⟩:=h;simp only [VV.cells,Value.cells,bI];exact ⟨_,[],rfl,h',rfl⟩)
theorem qx {x : VV} (h : aQ x.cells=true) : x≠.undef:=by
 rintro rfl
 simp [VV.cells,aQ,VV.aC] at h
theorem getElem?_set' {α : Type} {l : List α} {i j : Nat} {x y : α} (h : (l.set i x)[j]?=some y) : (j=i∧y=x∧i < l.length)∨(j≠i∧l[j]?=some y):=by
 rw [List.getElem?_set] at h
 split at h
 ·rename_i he
  subst he
  split at h
  ·rename_i hlt
   exact .inl ⟨rfl,by simpa using h.symm,hlt⟩
  ·cases h
 ·rename_i hne
  exact .inr ⟨fun e=>hne e.symm,h⟩
theorem J6 {σ : Store} {μ : List Loc} {id : Nat} {o o' : Obj} (ho : σ[id]?=some o) (hown : o.owns=true) (hown' : o'.owns=true) : eP (σ.set id o') μ=eP σ μ:=by
 funext b
 apply propext
 constructor
 ·rintro ⟨j,L,u,h1,rfl,h3,h4⟩
  rcases getElem?_set' h3 with ⟨rfl,rfl,_⟩ | ⟨_,h3⟩
  ·exact ⟨j,L,o,h1,rfl,ho,hown⟩
  ·exact ⟨j,L,u,h1,rfl,h3,h4⟩
 ·rintro ⟨j,L,u,h1,rfl,h3,h4⟩
  by_cases hj : j=id
  ·subst hj
   exact ⟨j,L,o',h1,rfl,by rw [List.getElem?_set_self (List.getElem?_eq_some_iff.1 h3).1],hown'⟩
  ·exact ⟨j,L,u,h1,rfl,by rw [List.getElem?_set_ne (fun e=>hj e.symm)];exact h3,h4⟩
theorem SR.turn {B : Nat→Prop} {w w' : World} {σ : Store} {μ : List Loc} (h : SR B w σ μ) {id : Nat} {o o' : Obj} {L : Loc} (hid : σ[id]?=some o) (hown : o.owns=true) (hL : μ[id]?=some L) (hown' : o'.owns=true)
  (hother : ∀ b,b < w.heap.size→b≠L.block→w'.heap[b]?=w.heap[b]?) (hs : w'.heap.size=w.heap.size) (os : w'.os=w.os) (tape : w'.tape=w.tape) (output : w'.output=w.output)
  (ho' : Ext w (OO B σ μ) μ w' (OO B σ μ) μ→xG w' (OO B σ μ) μ L o') : SR B w' (σ.set id o') μ∧Frame w σ μ w' (σ.set id o') μ:=by
 have hOw:=J6 (μ:=μ) hid hown hown'
 have hOO : OO B (σ.set id o') μ=OO B σ μ:=by unfold OO;rw [hOw]
 have hLow : eP σ μ L.block:=⟨id,L,o,hL,rfl,hid,hown⟩
 have hF : Frame w σ μ w' (σ.set id o') μ:=⟨by omega,fun b hb hn=>hother b hb (fun e=>hn (e ▸ hLow)),fun b hb=>.inl (by rw [hOw] at hb;exact hb),List.prefix_refl _,os,tape,output⟩
 have hE : Ext w (OO B σ μ) μ w' (OO B σ μ) μ:=by have:=hF.ext (B:=B);rw [hOO] at this;exact this
 refine ⟨⟨by simp [h.len],fun j u M hu hM=>?_,fun i j oi oj Li Lj hi hj wi wj hLi hLj he=>?_,fun b hb=>h.out b (by rw [hOw] at hb;exact hb),fun b hb=>by rw [hs];exact h.low b hb⟩,hF⟩
 ·rw [hOO]
  rcases getElem?_set' hu with ⟨rfl,rfl,_⟩ | ⟨hne,hu⟩
  ·rw [hL] at hM;cases hM;exact ho' hE
  ·refine (h.obj j u M hu hM).ext hE (fun hw=>hother _ (eP.lt h ⟨j,M,u,hM,rfl,hu,hw⟩) (fun e=>hne ?_))
   exact h.apart j id u o M L hu hid hw hown hM hL e
 ·have key : ∀ (i : Nat) (oi : Obj),(σ.set id o')[i]?=some oi→oi.owns=true→∃ u,σ[i]?=some u∧u.owns=true:=by
   intro i oi hi wi
   rcases getElem?_set' hi with ⟨rfl,rfl,_⟩ | ⟨_,hi⟩
   ·exact ⟨o,hid,hown⟩
   ·exact ⟨oi,hi,wi⟩
  obtain ⟨u,hu,wu⟩:=key i oi hi wi
  obtain ⟨v,hv,wv⟩:=key j oj hj wj
  exact h.apart i j u v Li Lj hu hv wu wv hLi hLj he
theorem SR.rest {B : Nat→Prop} {w : World} {σ : Store} {μ : List Loc} (h : SR B w σ μ) {id : Nat} {o o' : Obj} (hid : σ[id]?=some o) (hown' : o'.owns=false)
  (ho' : ∀ L,μ[id]?=some L→∀ O',(∀ b,O' b→OO B σ μ b)→(o.owns=true→¬ O' L.block)→xG w (OO B σ μ) μ L o→xG w O' μ L o') : SR B w (σ.set id o') μ∧Frame w σ μ w (σ.set id o') μ:=by
 have hOw : ∀ b,eP (σ.set id o') μ b→eP σ μ b:=by
  rintro b ⟨j,L,u,h1,rfl,h3,h4⟩
  rcases getElem?_set' h3 with ⟨rfl,rfl,_⟩ | ⟨_,h3⟩
  ·rw [hown'] at h4;cases h4
  ·exact ⟨j,L,u,h1,rfl,h3,h4⟩
 have hF : Frame w σ μ w (σ.set id o') μ:=⟨Nat.le_refl _,fun _ _ _=>rfl,fun b hb=>.inl (hOw b hb),List.prefix_refl _,rfl,rfl,rfl⟩
 have hE:=hF.ext (B:=B)
 refine ⟨⟨by simp [h.len],fun j u M hu hM=>?_,fun i j oi oj Li Lj hi hj wi wj hLi hLj he=>?_,fun b hb=>h.out b (hOw b hb),h.low⟩,hF⟩
 ·rcases getElem?_set' hu with ⟨rfl,rfl,_⟩ | ⟨hne,hu⟩
  ·refine ho' M hM _ (fun b hb=>hb.imp (fun z=>z) (hOw b)) (fun hown hO=>?_) (h.obj j o M hid hM)
   rcases hO with hO | ⟨i,L,v,h1,h2,h3,h4⟩
   ·exact h.out _ ⟨j,M,o,hM,rfl,hid,hown⟩ hO
   ·rcases getElem?_set' h3 with ⟨rfl,rfl,_⟩ | ⟨hne,h3⟩
    ·rw [hown'] at h4;cases h4
    ·exact hne (h.apart i j v o L M h3 hid h4 hown h1 hM h2)
  ·exact (h.obj j u M hu hM).ext hE (fun _=>rfl)
 ·have key : ∀ (i : Nat) (oi : Obj),(σ.set id o')[i]?=some oi→oi.owns=true→σ[i]?=some oi:=by
   intro i oi hi wi
   rcases getElem?_set' hi with ⟨rfl,rfl,_⟩ | ⟨_,hi⟩
   ·rw [hown'] at wi;cases wi
   ·exact hi
  exact h.apart i j oi oj Li Lj (key i oi hi wi) (key j oj hj wj) wi wj hLi hLj he
theorem SR.dead {B : Nat→Prop} {w : World} {σ : Store} {μ : List Loc} (h : SR B w σ μ) {id : Nat} {o : Obj} (hid : σ[id]?=some o) : SR B w (σ.set id .dead) μ∧Frame w σ μ w (σ.set id .dead) μ :=
 h.rest hid rfl (fun _ _ _ _ _ _=>trivial)
theorem VR.lower {w : World} {O O' : Nat→Prop} {μ : List Loc} (hO : ∀ b,O' b→O b) {x : VV} {v : Value} (h : VR w O μ x v) : VR w O' μ x v :=
 VR.ext (w:=w) (w':=w) ⟨fun _ _ _ _ h=>h,fun b hb=>.inl (hO b hb),List.prefix_refl _⟩ _ _ h
theorem VC.lower {w : World} {O O' : Nat→Prop} {μ : List Loc} (hO : ∀ b,O' b→O b) {xs : List VV} {b o : Nat} (h : VC w O μ xs b o) : VC w O' μ xs b o :=
 VC.ext (w:=w) (w':=w) ⟨fun _ _ _ _ h=>h,fun b hb=>.inl (hO b hb),List.prefix_refl _⟩ _ _ _ (fun _ _ h=>h) h
theorem SR.freeze {B : Nat→Prop} {w : World} {σ : Store} {μ : List Loc} (h : SR B w σ μ) {id : Nat} {cells : List VV} (hid : σ[id]?=some (.own cells)) : SR B w (σ.set id (.kH cells)) μ∧Frame w σ μ w (σ.set id (.kH cells)) μ :=
 h.rest hid rfl (fun L _ O' hO hno hob=>by
  obtain ⟨_,h2,h3⟩:=hob
  exact ⟨h2,.inr (hno rfl),VC.lower hO h3⟩)
theorem SR.move {B : Nat→Prop} {w w' : World} {σ : Store} {μ : List Loc} (h : SR B w σ μ) {id : Nat} {o o' : Obj} {L L' : Loc} (hid : σ[id]?=some o) (hown : o.owns=true) (hL : μ[id]?=some L) (hown' : o'.owns=true)
  (hblock : L'.block=L.block) (hother : ∀ b,b < w.heap.size→b≠L.block→w'.heap[b]?=w.heap[b]?) (hs : w'.heap.size=w.heap.size) (os : w'.os=w.os) (tape : w'.tape=w.tape) (output : w'.output=w.output)
  (ho' : Ext w (OO B σ μ) μ w' (OO B σ μ) (μ++[L'])→xG w' (OO B σ μ) (μ++[L']) L' o') :
  SR B w' (σ.set id .dead++[o']) (μ++[L'])∧Frame w σ μ w' (σ.set id .dead++[o']) (μ++[L']):=by
 have hlen : (σ.set id .dead).length=σ.length:=by simp
 have hOw : eP (σ.set id .dead++[o']) (μ++[L'])=eP σ μ:=by
  funext b
  apply propext
  constructor
  ·rintro ⟨j,M,u,h1,rfl,h3,h4⟩
   rcases aP h3 with h3 | ⟨rfl,rfl⟩
   ·rcases getElem?_set' h3 with ⟨rfl,rfl,_⟩ | ⟨hne,h3⟩
    ·simp [Obj.owns] at h4
    ·rcases aP h1 with h1 | ⟨rfl,rfl⟩
     ·exact ⟨j,M,u,h1,rfl,h3,h4⟩
     ·have:=(List.getElem?_eq_some_iff.1 h3).1;rw [← h.len] at this;omega
   ·rcases aP h1 with h1 | ⟨_,rfl⟩
    ·have:=(List.getElem?_eq_some_iff.1 h1).1;rw [h.len,hlen] at this;omega
    ·exact ⟨id,L,o,hL,hblock.symm,hid,hown⟩
  ·rintro ⟨j,M,u,h1,rfl,h3,h4⟩
   by_cases hj : j=id
   ·subst hj
    rw [hL] at h1
    cases h1
    refine ⟨σ.length,L',o', ?_,hblock, ?_,hown'⟩
    ·rw [← h.len];simp
    ·rw [← hlen];simp
   ·refine ⟨j,M,u,fG (List.prefix_append _ _) h1,rfl, ?_,h4⟩
    refine fG (List.prefix_append _ _) ?_
    rw [List.getElem?_set_ne (fun e=>hj e.symm)]
    exact h3
 have hOO : OO B (σ.set id .dead++[o']) (μ++[L'])=OO B σ μ:=by unfold OO;rw [hOw]
 have hLow : eP σ μ L.block:=⟨id,L,o,hL,rfl,hid,hown⟩
 have hF : Frame w σ μ w' (σ.set id .dead++[o']) (μ++[L']) :=
  ⟨by omega,fun b hb hn=>hother b hb (fun e=>hn (e ▸ hLow)),fun b hb=>.inl (by rw [hOw] at hb;exact hb),List.prefix_append _ _,os,tape,output⟩
 have hE : Ext w (OO B σ μ) μ w' (OO B σ μ) (μ++[L']):=by have:=hF.ext (B:=B);rw [hOO] at this;exact this
 have old : ∀ (j : Nat) (u : Obj) (M : Loc),(σ.set id .dead++[o'])[j]?=some u→(μ++[L'])[j]?=some M →
   (σ[j]?=some u∧μ[j]?=some M∧j≠id)∨(u=.dead)∨(j=σ.length∧u=o'∧M=L'):=by
  intro j u M hu hM
  rcases aP hu with hu | ⟨h1,rfl⟩
  ·rcases getElem?_set' hu with ⟨rfl,rfl,_⟩ | ⟨hne,hu⟩
   ·exact .inr (.inl rfl)
   ·rcases aP hM with hM | ⟨h2,rfl⟩
    ·exact .inl ⟨hu,hM,hne⟩
    ·have:=(List.getElem?_eq_some_iff.1 hu).1;rw [← h.len] at this;omega
  ·rcases aP hM with hM | ⟨h2,rfl⟩
   ·have:=(List.getElem?_eq_some_iff.1 hM).1;rw [h.len] at this;omega
   ·exact .inr (.inr ⟨by omega,rfl,rfl⟩)
 refine ⟨⟨by simp [h.len],fun j u M hu hM=>?_,fun i j oi oj Li Lj hi hj wi wj hLi hLj he=>?_,fun b hb=>h.out b (by rw [hOw] at hb;exact hb),fun b hb=>by rw [hs];exact h.low b hb⟩,hF⟩
 ·rw [hOO]
  rcases old j u M hu hM with ⟨h1,h2,h3⟩ | rfl | ⟨_,rfl,rfl⟩
  ·refine (h.obj j u M h1 h2).ext hE (fun hw=>hother _ (eP.lt h ⟨j,M,u,h2,rfl,h1,hw⟩) (fun e=>h3 ?_))
   exact h.apart j id u o M L h1 hid hw hown h2 hL e
  ·trivial
  ·exact ho' hE
 ·rcases old i oi Li hi hLi with ⟨h1,h2,h3⟩ | rfl | ⟨h1,rfl,rfl⟩
  ·rcases old j oj Lj hj hLj with ⟨h4,h5,h6⟩ | rfl | ⟨h4,rfl,rfl⟩
   ·exact h.apart i j oi oj Li Lj h1 h4 wi wj h2 h5 he
   ·simp [Obj.owns] at wj
   ·exact absurd (h.apart i id oi o Li L h1 hid wi hown h2 hL (he.trans hblock)) h3
  ·simp [Obj.owns] at wi
  ·rcases old j oj Lj hj hLj with ⟨h4,h5,h6⟩ | rfl | ⟨h4,_,_⟩
   ·exact absurd (h.apart j id oj o Lj L h4 hid wj hown h5 hL (he.symm.trans hblock)) h6
   ·simp [Obj.owns] at wj
   ·omega
theorem heap_alloc (w : World) (o : Go.Obj) {b : Nat} (hb : b < w.heap.size) : (w.alloc o).heap[b]?=w.heap[b]?:=by
 show (w.heap.push o)[b]?=_
 rw [Array.getElem?_push,if_neg (by omega)]
theorem heap_alloc_new' (w : World) (o : Go.Obj) : (w.alloc o).heap[w.heap.size]?=some o:=by
 show (w.heap.push o)[w.heap.size]?=_
 rw [Array.getElem?_push,if_pos rfl]
theorem fO (w : World) (b o : Nat) (vs : List Value) : (w.setCells b o vs).heap.size=w.heap.size∧(∀ k,k < w.heap.size→k≠b→(w.setCells b o vs).heap[k]?=w.heap[k]?) ∧
  (w.setCells b o vs).os=w.os∧(w.setCells b o vs).tape=w.tape∧(w.setCells b o vs).output=w.output:=by
 refine ⟨?_,fun k hk hne=>World.heap_setCells_other w b o vs hk hne,World.os_setCells w b o vs, ?_,World.output_setCells w b o vs⟩
 ·induction vs generalizing w o with
  | nil=>rfl
  | cons v vs ih=>rw [World.setCells,ih];simp
 ·induction vs generalizing w o with
  | nil=>rfl
  | cons v vs ih=>rw [World.setCells,ih];simp
theorem fH (w : World) (b : Nat) : ∀ (vs : List Value) (o : Nat) (c : Array Value) (e : TypeId),w.heap[b]?=some (.cells c e (0,0))→∃ c',(w.setCells b o vs).heap[b]?=some (.cells c' e (0,0))∧c'.size=c.size
 | [],o,c,e,h=>⟨c,h,rfl⟩
 | v::vs,o,c,e,h=>by
  have h1 : (w.setCell ⟨b,o,none⟩ v).heap[b]?=some (.cells (c.setIfInBounds o v) e (0,0)):=by
   simp [World.setCell,Array.getElem?_modify,h]
  obtain ⟨c',h2,h3⟩:=fH (w.setCell ⟨b,o,none⟩ v) b vs (o+1) _ e h1
  exact ⟨c',h2,by rw [h3];simp⟩
theorem wR {w : World} {O : Nat→Prop} {μ μ' : List Loc} {b base off : Nat} {cells xs : List VV} {vs : List Value} {O' : Nat→Prop}
  (hE : Ext w O μ (w.setCells b (base+off) vs) O' μ') (hc : VC w O μ cells b base) (hx : bI w O μ xs vs) (hfit : off+xs.length≤cells.length) : VC (w.setCells b (base+off) vs) O' μ' (splice cells off xs) b base:=by
 have hlen:=hx.length
 have hsome : ∀ j,j < vs.length→(w.cell? ⟨b,base+off+j,none⟩).isSome=true:=by
  intro j hj
  rw [iU] at hc
  obtain ⟨v,hv,_⟩:=hc (off+j) cells[off+j] (by simp [show off+j < cells.length by omega])
  rw [show base+off+j=base+(off+j) by omega,hv];rfl
 rw [iU] at hc ⊢
 intro i x hi
 unfold splice at hi
 rw [List.getElem?_append] at hi
 split at hi
 ·rename_i hlt
  have hlt' : i < off:=by simp at hlt;omega
  rw [List.getElem?_take] at hi
  rw [if_pos hlt'] at hi
  obtain ⟨v,hv,h1⟩:=hc i x hi
  refine ⟨v, ?_,VR.ext hE _ _ h1⟩
  rw [World.cell?_setCells_out b vs (base+off) w ⟨b,base+i,none⟩ (fun _ _=>.inl (by show base+i < base+off;omega))]
  exact hv
 ·rename_i hge
  have hto : (cells.take off).length=off:=by simp;omega
  rw [hto] at hi hge
  rw [List.getElem?_append] at hi
  split at hi
  ·rename_i hlt
   obtain ⟨v,hv,h1⟩:=hx.get hi
   refine ⟨v, ?_,VR.ext hE _ _ h1⟩
   have hj : i-off < vs.length:=by rw [hlen];exact hlt
   have:=World.cell?_setCells_in b vs (base+off) w hsome (i-off) hj
   rw [show base+i=base+off+(i-off) by omega,this]
   rw [List.getElem?_eq_getElem hj] at hv
   exact hv
  ·rename_i hge2
   rw [List.getElem?_drop] at hi
   rw [show off+xs.length+(i-off-xs.length)=i by omega] at hi
   obtain ⟨v,hv,h1⟩:=hc i x hi
   refine ⟨v, ?_,VR.ext hE _ _ h1⟩
   rw [World.cell?_setCells_out b vs (base+off) w ⟨b,base+i,none⟩ (fun _ _=>.inr (by show base+off+vs.length≤base+i;omega))]
   exact hv
theorem mJ {cells xs : List VV} {off : Nat} (h : off+xs.length≤cells.length) : (splice cells off xs).length=cells.length:=by
 unfold splice;simp;omega
end Go.V
namespace Go.V
open Go
section
variable {P : Program} {G : Nat→Option (List VV)} {B : Nat→Prop} {w : World} {σ : Store} {μ : List Loc}
def Jm (G : Nat→Option (List VV)) (w : World) (O : Nat→Prop) (μ : List Loc) : Prop:=∀ (g : Nat) (cells : List VV),G g=some cells→VR w O μ (.ptr cells 0) (.pointer (some ⟨g,0,none⟩))
theorem yj {O : Nat→Prop} {ρ : Env} {a : Act} (hG : Jm G w O μ) (hE : jg w O μ ρ a.tmps) (x : Operand) : VR w O μ (ev G ρ x) (a.eval x):=by
 cases x with
 | tmp t=>exact hE t
 | const v=>exact TI v
 | global g =>
  simp only [ev,Act.eval]
  cases h : G g with
  | none=>simp [VR]
  | some cells=>exact hG g cells h
 | func f=>simp [ev,Act.eval,VR,bI]
def CQ (P : Program) (B : Nat→Prop) (w : World) (σ : Store) (μ : List Loc) (s : Sem Next) (x : VV) (σ' : Store) : Prop :=
 ∃ w' μ',Frame w σ μ w' σ' μ'∧SR B w' σ' μ'∧((∃ v,s.run P w=.ok (.value v) w'∧VR w' (OO B σ' μ') μ' x v)∨(s.run P w=.ok .skip w'∧x=.undef))
def bn (P : Program) (B : Nat→Prop) (w : World) (σ : Store) (μ : List Loc) (s : Sem Value) (x : VV) (σ' : Store) : Prop :=
 ∃ w' μ' v,Frame w σ μ w' σ' μ'∧SR B w' σ' μ'∧s.run P w=.ok v w'∧VR w' (OO B σ' μ') μ' x v
theorem bn.op {s : Sem Value} {x : VV} {σ' : Store} (h : bn P B w σ μ s x σ') : CQ P B w σ μ (do pure (.value (← s))) x σ':=by
 obtain ⟨w',μ',v,h1,h2,h3,h4⟩:=h
 exact ⟨w',μ',h1,h2,.inl ⟨v,by simp [h3],h4⟩⟩
theorem bn.same {s : Sem Value} {x : VV} {v : Value} (hS : SR B w σ μ) (h : s.run P w=.ok v w) (hr : VR w (OO B σ μ) μ x v) : bn P B w σ μ s x σ :=
 ⟨w,μ,v,Frame.refl _ _ _,hS,h,hr⟩
theorem qR {t : TypeId} {b : Bool} (h : iI P t=some b) : (isAgg t).run P w=.ok b w:=by
 unfold iI at h
 simp only [Option.map_eq_some_iff] at h
 obtain ⟨d,hd,rfl⟩:=h
 unfold isAgg
 rw [Sem.run_bind,run_underlying hd w]
 cases d<;>simp
theorem bP {t : TypeId} {n : Nat} (h : eH P t=some n) : (sizeOf t).run P w=.ok n w:=by
 unfold eH at h
 simp only [Option.map_eq_some_iff] at h
 obtain ⟨i,hi,rfl⟩:=h
 simp [sizeOf,typeInfo,hi]
theorem iY (b o j : Nat) : (⟨b,o,none⟩ : Addr).add j=⟨b,o+j,none⟩:=Addr.add_mid b o j
theorem Af {b o : Nat} {vs : List Value} (h : w.rangeAt b o vs) : (loadCells ⟨b,o,none⟩ vs.length).run P w=.ok vs.toArray w :=
 run_loadCells_list (P:=P) w ⟨b,o,none⟩ vs (fun j v hv=>by rw [iY];exact h j v hv)
theorem tV {O : Nat→Prop} {t : TypeId} {cells : List VV} {off b base : Nat} {out : aS} (hc : VC w O μ cells b base) (h : jY P t cells off σ=some out) (hp : out.pre) :
  out.st=σ∧∃ v,(Instr.loadAt t (.pointer (some ⟨b,base+off,none⟩))).run P w=.ok v w∧VR w O μ out.val v:=by
 unfold jY at h
 split at h
 ·rename_i n ha hn
  cases h
  refine ⟨rfl, ?_⟩
  obtain ⟨vs,h1,h2⟩:=((hc.drop off).take n).vals
  refine ⟨.agg vs.toArray, ?_,by simp only [VR];exact ⟨_,rfl,by simpa using h1⟩⟩
  have hl : vs.length=n:=by rw [h1.length];simp only at hp;simp;omega
  simp only [Instr.loadAt,Instr.sureAddr,Sem.run_bind,Sem.run_pure,Result.andThen_ok,loadVar,qR ha,if_true,bP hn]
  rw [← hl,Af h2]
  simp
 ·rename_i ha
  cases h
  refine ⟨rfl, ?_⟩
  have hp : off < cells.length:=hp
  rw [iU] at hc
  obtain ⟨v,hv,h1⟩:=hc off cells[off] (by simp [hp])
  refine ⟨v, ?_,by simpa [List.getD,hp] using h1⟩
  simp [Instr.loadAt,Instr.sureAddr,Sem.run_bind,loadVar,qR ha,load,Sem.run,hv]
 ·cases h
theorem qZ {O : Nat→Prop} {t : TypeId} {cells : List VV} {off : Nat} {out : aS} {a : Array Value} (hc : bI w O μ cells a.toList) (h : nC P t cells off σ=some out) (hp : out.pre) :
  out.st=σ∧∃ v,(part t a off).run P w=.ok v w∧VR w O μ out.val v:=by
 unfold nC at h
 split at h
 ·rename_i n ha hn
  cases h
  refine ⟨rfl,.agg (a.extract off (off+n)), ?_, ?_⟩
  ·simp [part,Sem.run_bind,qR ha,bP hn]
  ·simp only [VR]
   refine ⟨_,rfl, ?_⟩
   have:=(hc.drop off).take n
   simpa [List.extract_eq_take_drop] using this
 ·rename_i ha
  cases h
  refine ⟨rfl, ?_⟩
  have hp : off < cells.length:=hp
  obtain ⟨v,hv,h1⟩:=hc.get (i:=off) (x:=cells[off]) (by simp [hp])
  refine ⟨v, ?_,by simpa [List.getD,hp] using h1⟩
  have hv' : a[off]?=some v:=by rw [← Array.getElem?_toList];exact hv
  simp [part,Sem.run_bind,qR ha,hv']
 ·cases h
theorem jV (hS : SR B w σ μ) {id : Nat} {cells : List VV} {L : Loc} (h : dY σ id=some cells) (hL : μ[id]?=some L) : VC w (OO B σ μ) μ cells L.block L.base∧cells.length≤L.room:=by
 unfold dY at h
 split at h
 ·rename_i c ho
  cases h
  obtain ⟨_,h2,h3⟩:=hS.obj id _ L ho hL
  exact ⟨h3,h2⟩
 ·rename_i c ho
  cases h
  obtain ⟨h1,_,h3⟩:=hS.obj id _ L ho hL
  exact ⟨h3,h1⟩
 ·cases h
theorem Ls (hS : SR B w σ μ) {t : TypeId} {x : VV} {v : Value} (hx : VR w (OO B σ μ) μ x v) {out : aS}
  (h : (match x with
   | .ptr cells off=>jY P t cells off σ
   | .mptr id off=>match dY σ id with
    | some cells=>jY P t cells off σ
    | none=>none
   | _=>none)=some out) (hp : out.pre) : bn P B w σ μ (Instr.loadAt t v) out.val out.st:=by
 cases x with
 | ptr cells off =>
  simp only [VR] at hx
  obtain ⟨b,base,rfl,_,hc⟩:=hx
  obtain ⟨h1,u,h2,h3⟩:=tV hc h hp
  rw [h1]
  exact .same hS h2 h3
 | mptr id off =>
  simp only at h
  split at h
  ·rename_i cells ho
   simp only [VR] at hx
   obtain ⟨L,hL,rfl⟩:=hx
   obtain ⟨h1,u,h2,h3⟩:=tV (jV hS ho hL).1 h hp
   rw [h1]
   exact .same hS h2 h3
  ·cases h
 | _=>cases h
theorem H8 (hS : SR B w σ μ) {t : TypeId} {a x : VV} {va v : Value} (ha : VR w (OO B σ μ) μ a va) (hx : VR w (OO B σ μ) μ x v) {out : aS}
  (h : (match a with
   | .mptr id off=>match σ[id]? with
    | some (.own cells)=>some (⟨eH P t=some x.cells.length∧off+x.cells.length≤cells.length∧aQ x.cells=true,.undef,σ.set id (.own (splice cells off x.cells))⟩ : aS)
    | _=>none
   | _=>none)=some out) (hp : out.pre) : ∃ w',(Instr.storeAt t va v).run P w=.ok () w'∧Frame w σ μ w' out.st μ∧SR B w' out.st μ:=by
 cases a with
 | mptr id off =>
  simp only at h
  split at h
  ·rename_i cells ho
   cases h
   obtain ⟨hsz,hfit,hall⟩:=hp
   simp only [VR] at ha
   obtain ⟨L,hL,rfl⟩:=ha
   obtain ⟨⟨c,e,hh,hroom⟩,hlen,hc⟩:=hS.obj id _ L ho hL
   have hvs:=vN hx (qx hall)
   have hvl:=hvs.length
   have hone:=cells_one hvs hall
   refine ⟨w.setCells L.block (L.base+off) v.cells.toList, ?_, ?_⟩
   ·have hsz' : v.cells.size=x.cells.length:=by rw [← hvl];simp
    have:=run_storeCells_cells (P:=P) L.block (L.base+off) v.cells.toList 0 w (fun j hj=>?_) (fun j hj=>?_) hone
    ·simp only [Nat.add_zero] at this
     simp [Instr.storeAt,Instr.sureAddr,Sem.run_bind,storeVar,bP hsz,hsz',this]
    ·rw [iU] at hc
     have hj' : j < x.cells.length:=by rw [← hvl];exact hj
     obtain ⟨u,hu,_⟩:=hc (off+j) cells[off+j] (by simp [show off+j < cells.length by omega])
     rw [show L.base+off+0+j=L.base+(off+j) by omega,hu];rfl
    ·simp [World.frozen?,hh]
   ·obtain ⟨f1,f2,f3,f4,f5⟩:=fO w L.block (L.base+off) v.cells.toList
    have:=hS.turn ho rfl hL (o':=.own (splice cells off x.cells)) rfl f2 f1 f3 f4 f5 (fun hE=>by
     obtain ⟨c',h1,h2⟩:=fH w L.block v.cells.toList (L.base+off) c e hh
     exact ⟨⟨c',e,h1,by rw [h2];exact hroom⟩,by rw [mJ hfit];exact hlen,wR hE hc hvs hfit⟩)
    exact ⟨this.2,this.1⟩
  ·cases h
 | _=>cases h
theorem FW (hS : SR B w σ μ) {z : List VV} {vs : List Value} (e : TypeId) (hz : bI w (OO B σ μ) μ z vs) (s : Sem Value)
  (hr : s.run P w=.ok (.pointer (some ⟨w.heap.size,0,none⟩)) (w.alloc (.cells vs.toArray e))) : bn P B w σ μ s (.mptr σ.length 0) (σ++[.own z]):=by
 have hF0 : Frame w σ μ (w.alloc (.cells vs.toArray e)) σ μ:=.still (by simp) (fun b hb=>heap_alloc w _ hb) rfl rfl rfl
 have hpre : μ <+: μ++[⟨w.heap.size,0,vs.length⟩]:=List.prefix_append _ _
 have hE : Ext w (OO B σ μ) μ (w.alloc (.cells vs.toArray e)) (OO B (σ++[.own z]) (μ++[⟨w.heap.size,0,vs.length⟩])) (μ++[⟨w.heap.size,0,vs.length⟩]):=by
  refine ⟨fun b o v _ hv=>by rw [cell_of_heap (heap_alloc w _ (cell_lt hv))];exact hv,fun b hb=>?_,hpre⟩
  rcases hb with hb | ⟨id,L,o,h1,rfl,h3,h4⟩
  ·exact .inl (.inl hb)
  ·rcases aP h1 with h1 | ⟨h1,rfl⟩
   ·rcases aP h3 with h3 | ⟨h3,rfl⟩
    ·exact .inl (.inr ⟨id,L,o,h1,rfl,h3,h4⟩)
    ·have:=(List.getElem?_eq_some_iff.1 h1).1;rw [hS.len] at this;omega
   ·exact .inr (Nat.le_refl _)
 have hrange : (w.alloc (.cells vs.toArray e)).rangeAt w.heap.size 0 vs:=by
  intro j v hv
  simp only [World.cell?,heap_alloc_new',Nat.zero_add]
  simpa using hv
 have:=hS.snoc hF0 (fun b hb=>heap_alloc w _ hb) (o:=.own z) (L:=⟨w.heap.size,0,vs.length⟩) (Nat.le_refl _)
  ⟨⟨vs.toArray,e,heap_alloc_new' w _,by simp⟩,by simp [hz.length],VC.uG (bI.ext hE _ _ hz) hrange⟩
 refine ⟨_,_,_,this.2,this.1,hr, ?_⟩
 simp only [VR]
 exact ⟨⟨w.heap.size,0,vs.length⟩,by rw [← hS.len];simp,by simp⟩
theorem Gv (hS : SR B w σ μ) {t : TypeId} {z : List VV} (hz : bG P t=some z) : bn P B w σ μ (Instr.alloc t true (.tuple #[])) (.mptr σ.length 0) (σ++[.own z]):=by
 unfold bG at hz
 simp only [Option.bind_eq_some_iff,Option.map_eq_some_iff] at hz
 obtain ⟨i,hi,v,hv,rfl⟩:=hz
 refine FW hS t (jO v.cells.toList) _ ?_
 simp [Instr.alloc,Sem.run_bind,zeroValue,typeInfo,hi,hv,newVar,newRow]
theorem O5 (hS : SR B w σ μ) {t : TypeId} {x : VV} {v : Value} (hx : VR w (OO B σ μ) μ x v) (hc : aQ x.cells=true) : bn P B w σ μ (Instr.box t v) (.mptr σ.length 0) (σ++[.own x.cells]):=by
 refine FW hS t (vN hx (qx hc)) _ ?_
 simp [Instr.box,newVar,newRow]
theorem Gg (hS : SR B w σ μ) {s : TypeId} {f : Nat} {x : VV} {v : Value} (hx : VR w (OO B σ μ) μ x v) {out : aS} (h : jq P s x f σ=some out) : bn P B w σ μ (Instr.fieldAt s v f) out.val out.st:=by
 have key : ∀ (o : Nat) (b k : Nat),gU P s f=some o→(Instr.fieldAt s (.pointer (some ⟨b,k,none⟩)) f).run P w=.ok (.pointer (some ⟨b,k+o,none⟩)) w:=by
  intro o b k ht
  unfold gU at ht
  split at ht
  ·rename_i fs hu
   split at ht
   ·rename_i fd hf
    split at ht
    ·rename_i n hn
     cases ht
     simp [Instr.fieldAt,Sem.run_bind,run_underlying hu,hf,Instr.sureAddr,fieldPlace,bP hn,iY]
    ·cases ht
   ·cases ht
  ·cases ht
 unfold jq at h
 split at h
 ·rename_i o cells off ht
  cases h
  simp only [VR] at hx
  obtain ⟨b,base,rfl,h1,h2⟩:=hx
  refine .same hS (key o b _ ht) ?_
  simp only [VR]
  exact ⟨b,base,by rw [Nat.add_assoc],h1,h2⟩
 ·rename_i o id off ht
  cases h
  simp only [VR] at hx
  obtain ⟨L,hL,rfl⟩:=hx
  refine .same hS (key o _ _ ht) ?_
  simp only [VR]
  exact ⟨L,hL,by rw [Nat.add_assoc]⟩
 ·cases h
theorem dJ {t e : TypeId} (h : iF P t=some e) : P.underlying t=some (.slice e):=by
 unfold iF at h;split at h<;>simp_all
theorem zo {t e : TypeId} {n : Nat} (h : sG P t=some (n,e)) : P.underlying t=some (.array n e):=by
 unfold sG at h;split at h<;>simp_all
theorem eu {t : TypeId} (h : ji P t=true) : P.underlying t=some .string:=by
 unfold ji at h;split at h<;>simp_all
theorem vG {t : TypeId} {k : IntKind} (h : tint P t=some k) : P.underlying t=some (.int k):=by
 unfold tint at h;split at h<;>simp_all
theorem zS (hS : SR B w σ μ) {t : TypeId} {x ix : VV} {v vi : Value} (hx : VR w (OO B σ μ) μ x v) (hi : VR w (OO B σ μ) μ ix vi) {out : aS}
  (h : dI P t x ix σ=some out) (hp : out.pre) : bn P B w σ μ (Instr.indexAt t v vi) out.val out.st:=by
 unfold dI at h
 split at h
 case h_2=>cases h
 rename_i k i
 simp only [VR] at hi
 subst hi
 have slice : ∀ (e : TypeId) (n cap : Nat) (b o sz : Nat),iF P t=some e→eH P e=some sz→0≤i∧i < n →
   (Instr.indexAt t (.slice (some ⟨b,o,none⟩) n cap) (.int k i)).run P w=.ok (.pointer (some ⟨b,o+i.toNat*sz,none⟩)) w:=by
  intro e n cap b o sz ht hz hin
  simp [Instr.indexAt,asIntOf,Sem.run_bind,run_underlying (dJ ht),hin,bP hz,iY]
 have array : ∀ (e : TypeId) (n : Nat) (b o sz : Nat),sG P t=some (n,e)→eH P e=some sz→0≤i∧i < n →
   (Instr.indexAt t (.pointer (some ⟨b,o,none⟩)) (.int k i)).run P w=.ok (.pointer (some ⟨b,o+i.toNat*sz,none⟩)) w:=by
  intro e n b o sz ht hz hin
  simp [Instr.indexAt,asIntOf,Sem.run_bind,run_underlying (zo ht),hin,bP hz,iY,Instr.sureAddr]
 split at h
 ·rename_i e n cells _ ht
  simp only [Option.map_eq_some_iff] at h
  obtain ⟨sz,hz,rfl⟩:=h
  simp only [VR] at hx
  rcases hx with ⟨b,o,cap,rfl,_,_,h1,h2⟩ | ⟨rfl,_⟩
  rotate_left
  ·omega
  refine .same hS (slice e n cap b o sz ht hz hp) ?_
  simp only [VR]
  exact ⟨b,o,rfl,h1,h2⟩
 ·rename_i e id off n sz ht
  split at h
  ·rename_i hz
   cases h
   simp only [VR] at hx
   obtain ⟨L,cap,hL,rfl,_,_⟩:=hx
   refine .same hS (slice e n cap _ _ sz ht hz hp) ?_
   simp only [VR]
   exact ⟨L,hL,by rw [Nat.add_assoc]⟩
  ·cases h
 ·rename_i cells off
  split at h
  ·rename_i n e ht
   simp only [Option.map_eq_some_iff] at h
   obtain ⟨sz,hz,rfl⟩:=h
   simp only [VR] at hx
   obtain ⟨b,base,rfl,h1,h2⟩:=hx
   refine .same hS (array e n b _ sz ht hz hp) ?_
   simp only [VR]
   exact ⟨b,base,by rw [Nat.add_assoc],h1,h2⟩
  ·cases h
 ·rename_i id off
  split at h
  ·rename_i n e ht
   simp only [Option.map_eq_some_iff] at h
   obtain ⟨sz,hz,rfl⟩:=h
   simp only [VR] at hx
   obtain ⟨L,hL,rfl⟩:=hx
   refine .same hS (array e n _ _ sz ht hz hp) ?_
   simp only [VR]
   exact ⟨L,hL,by rw [Nat.add_assoc]⟩
  ·cases h
 ·cases h
theorem Ib (hS : SR B w σ μ) {t : TypeId} {x ix : VV} {v vi : Value} (hx : VR w (OO B σ μ) μ x v) (hi : VR w (OO B σ μ) μ ix vi) {out : aS}
  (h : jc P t x ix σ=some out) (hp : out.pre) : bn P B w σ μ (Instr.index t v vi) out.val out.st:=by
 unfold jc at h
 split at h
 ·rename_i k i s
  split at h
  ·rename_i ht
   cases h
   simp only [VR] at hx hi
   subst hx hi
   obtain ⟨h0,h1⟩:=hp
   have hlt : i.toNat < s.length:=by omega
   refine .same hS (v:=.int .u8 s[i.toNat].toNat) ?_ ?_
   ·have : (ByteArray.mk s.toArray)[i.toNat]?=some s[i.toNat]:=by
     have hb : i.toNat < (ByteArray.mk s.toArray).size:=by simpa [ByteArray.size] using hlt
     rw [getElem?_pos (ByteArray.mk s.toArray) i.toNat hb]
     rfl
    simp [Instr.index,asIntOf,Sem.run_bind,run_underlying (eu ht),h0,this]
   ·simp [VR,List.getD,hlt]
  ·cases h
 ·rename_i k i cells
  split at h
  ·rename_i n e ht
   split at h
   ·rename_i sz hz
    split at h
    ·rename_i o hpt
     cases h
     simp only [VR] at hx hi
     subst hi
     obtain ⟨a,rfl,hc⟩:=hx
     obtain ⟨hin,hpo⟩:=hp
     obtain ⟨_,u,h2,h3⟩:=qZ hc hpt hpo
     refine .same hS (v:=u) ?_ h3
     simp [Instr.index,asIntOf,Sem.run_bind,run_underlying (zo ht),hin,bP hz,h2]
    ·cases h
   ·cases h
  ·cases h
 ·cases h
end
end Go.V
