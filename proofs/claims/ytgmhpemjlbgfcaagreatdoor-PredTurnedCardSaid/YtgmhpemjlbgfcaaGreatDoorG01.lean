/- Texts V1 V2. -/
import Derived.KernelRfl
import Derived.OrdersIn
import Derived.RangeFuncLeaves
set_option linter.unusedVariables false
set_option linter.unusedSimpArgs false
namespace Go.V
inductive VV where
 | undef
 | bool (b : Bool)
 | int (k : IntKind) (n : Int)
 | str (s : List UInt8)
 | nilp | nils | nilf | nili
 | ptr (cells : List VV) (off : Nat)
 | sl (n : Nat) (cells : List VV) (tight : Bool)
 | mptr (id off : Nat)
 | bZ (id off n sz : Nat)
 | mmap (id : Nat)
 | fn (f : Fn) (first caps : List VV)
 | yield (id : Nat)
 | ifc (t : TypeId) (v : VV)
 | agg (cells : List VV)
 | tup (vs : List VV)
 | raw (a : Addr)
 deriving Inhabited
structure Loc where
 block : Nat
 base : Nat
 room : Nat
abbrev Env:=List (Nat × VV)
def Env.get : Env→Nat→VV
 | [],_=>.undef
 | (k,v)::r,t=>if k=t then v else Env.get r t
structure kG where
 n : Nat
 tmps : Env
 params : List Nat
 assign : Code
 body : Code
 state : LoopState
 pending : Option Code
 deriving Inhabited
inductive Obj where
 | dead
 | own (cells : List VV)
 | kH (cells : List VV)
 | mp (es : List (List UInt8 × VV))
 | loop (l : kG)
 deriving Inhabited
abbrev Store:=List Obj
mutual
def VR (w : World) (O : Nat→Prop) (μ : List Loc) : VV→Value→Prop
 | .undef,_=>True
 | .bool b,v=>v=.bool b
 | .int k n,v=>v=.int k n
 | .str s,v=>v=.string ⟨s.toArray⟩
 | .nilp,v=>v=.pointer none
 | .nils,v=>v=.slice none 0 0
 | .nilf,v=>v=.nilFunc
 | .nili,v=>v=.nilIface
 | .ptr cells off,v=>∃ b base,v=.pointer (some ⟨b,base+off,none⟩)∧(cells=[]∨¬ O b)∧VC w O μ cells b base
 | .sl n cells tight,v=>(∃ b o cap,v=.slice (some ⟨b,o,none⟩) n cap∧n≤cap∧(tight=true→cap=n)∧(cells=[]∨¬ O b)∧VC w O μ cells b o)∨(n=0∧cells=[]∧∃ a,v=.slice (some a) 0 0)
 | .mptr id off,v=>∃ L,μ[id]?=some L∧v=.pointer (some ⟨L.block,L.base+off,none⟩)
 | .bZ id off n sz,v=>∃ L cap,μ[id]?=some L∧v=.slice (some ⟨L.block,L.base+off,none⟩) n cap∧n≤cap∧off+cap*sz≤L.room
 | .mmap id,v=>∃ L,μ[id]?=some L∧v=.map (some L.block)
 | .fn f first caps,v=>∃ a c,v=.func f a c∧(∀ l,f≠.yield l)∧bI w O μ first a.toList∧bI w O μ caps c.toList
 | .yield id,v=>∃ L,μ[id]?=some L∧v=.func (.yield L.block) #[] #[]
 | .ifc t x,v=>∃ y,v=.iface t y∧VR w O μ x y
 | .agg cells,v=>∃ a,v=.agg a∧bI w O μ cells a.toList
 | .tup vs,v=>∃ a,v=.tuple a∧bI w O μ vs a.toList
 | .raw u,v=>v=.pointer (some u)
def bI (w : World) (O : Nat→Prop) (μ : List Loc) : List VV→List Value→Prop
 | [],l=>l=[]
 | x::xs,l=>∃ y ys,l=y::ys∧VR w O μ x y∧bI w O μ xs ys
def VC (w : World) (O : Nat→Prop) (μ : List Loc) : List VV→Nat→Nat→Prop
 | [],_,_=>True
 | x::xs,b,o=>(∃ v,w.cell? ⟨b,o,none⟩=some v∧VR w O μ x v)∧VC w O μ xs b (o+1)
end
structure Ext (w : World) (O : Nat→Prop) (μ : List Loc) (w' : World) (O' : Nat→Prop) (μ' : List Loc) : Prop where
 cell : ∀ b o v,¬ O b→w.cell? ⟨b,o,none⟩=some v→w'.cell? ⟨b,o,none⟩=some v
 own : ∀ b,O' b→O b∨w.heap.size≤b
 pre : μ <+: μ'
theorem fG {α : Type} {l l' : List α} (h : l <+: l') {i : Nat} {x : α} (hx : l[i]?=some x) : l'[i]?=some x:=by
 obtain ⟨t,rfl⟩:=h
 rw [List.getElem?_append_left (List.getElem?_eq_some_iff.1 hx).1];exact hx
theorem cell_lt {w : World} {b o : Nat} {v : Value} (h : w.cell? ⟨b,o,none⟩=some v) : b < w.heap.size:=by
 unfold World.cell? at h
 cases hb : w.heap[b]? with
 | none=>simp [hb] at h
 | some o=>exact (Array.getElem?_eq_some_iff.1 hb).1
theorem cell_of_heap {w w' : World} {b : Nat} (h : w'.heap[b]?=w.heap[b]?) (o : Nat) : w'.cell? ⟨b,o,none⟩=w.cell? ⟨b,o,none⟩:=by simp [World.cell?,h]
mutual
theorem VR.ext {w w' : World} {O O' : Nat→Prop} {μ μ' : List Loc} (hE : Ext w O μ w' O' μ') : ∀ (x : VV) (v : Value),VR w O μ x v→VR w' O' μ' x v
 | .undef,_,_=>by simp [VR]
 | .bool b,v,h=>by simpa [VR] using h
 | .int k n,v,h=>by simpa [VR] using h
 | .str s,v,h=>by simpa [VR] using h
 | .nilp,v,h=>by simpa [VR] using h
 | .nils,v,h=>by simpa [VR] using h
 | .nilf,v,h=>by simpa [VR] using h
 | .nili,v,h=>by simpa [VR] using h
 | .ptr cells off,v,h=>by
  simp only [VR] at h ⊢
  obtain ⟨b,base,rfl,ho,hc⟩:=h
  refine ⟨b,base,rfl, ?_, ?_⟩
  ·cases cells with
   | nil=>exact .inl rfl
   | cons x xs =>
    refine .inr fun hO'=>?_
    have hno : ¬ O b:=by simpa using ho
    have hlt : b < w.heap.size:=by
     simp only [VC] at hc;obtain ⟨⟨u,hu,_⟩,_⟩:=hc;exact cell_lt hu
    rcases hE.own b hO' with h | h
    ·exact hno h
    ·omega
  ·cases cells with
   | nil=>simp [VC]
   | cons x xs=>exact VC.ext hE (x::xs) b base (fun o v=>hE.cell b o v (by simpa using ho)) hc
 | .sl n cells tight,v,h=>by
  simp only [VR] at h ⊢
  rcases h with ⟨b,o,cap,rfl,h1,h2,ho,hc⟩ | h
  rotate_left
  ·exact .inr h
  refine .inl ⟨b,o,cap,rfl,h1,h2, ?_, ?_⟩
  ·cases cells with
   | nil=>exact .inl rfl
   | cons x xs =>
    refine .inr fun hO'=>?_
    have hno : ¬ O b:=by simpa using ho
    have hlt : b < w.heap.size:=by
     simp only [VC] at hc;obtain ⟨⟨u,hu,_⟩,_⟩:=hc;exact cell_lt hu
    rcases hE.own b hO' with h | h
    ·exact hno h
    ·omega
  ·cases cells with
   | nil=>simp [VC]
   | cons x xs=>exact VC.ext hE (x::xs) b o (fun o v=>hE.cell b o v (by simpa using ho)) hc
 | .mptr id off,v,h=>by
  simp only [VR] at h ⊢
  obtain ⟨L,hL,rfl⟩:=h
  exact ⟨L,fG hE.pre hL,rfl⟩
 | .bZ id off n sz,v,h=>by
  simp only [VR] at h ⊢
  obtain ⟨L,cap,hL,rfl,h1,h2⟩:=h
  exact ⟨L,cap,fG hE.pre hL,rfl,h1,h2⟩
 | .mmap id,v,h=>by
  simp only [VR] at h ⊢
  obtain ⟨L,hL,rfl⟩:=h
  exact ⟨L,fG hE.pre hL,rfl⟩
 | .fn f first caps,v,h=>by
  simp only [VR] at h ⊢
  obtain ⟨a,c,rfl,hf,h1,h2⟩:=h
  exact ⟨a,c,rfl,hf,bI.ext hE first _ h1,bI.ext hE caps _ h2⟩
 | .yield id,v,h=>by
  simp only [VR] at h ⊢
  obtain ⟨L,hL,rfl⟩:=h
  exact ⟨L,fG hE.pre hL,rfl⟩
 | .ifc t x,v,h=>by
  simp only [VR] at h ⊢
  obtain ⟨y,rfl,h1⟩:=h
  exact ⟨y,rfl,VR.ext hE x y h1⟩
 | .agg cells,v,h=>by
  simp only [VR] at h ⊢
  obtain ⟨a,rfl,h1⟩:=h
  exact ⟨a,rfl,bI.ext hE cells _ h1⟩
 | .tup vs,v,h=>by
  simp only [VR] at h ⊢
  obtain ⟨a,rfl,h1⟩:=h
  exact ⟨a,rfl,bI.ext hE vs _ h1⟩
 | .raw u,v,h=>by simpa [VR] using h
theorem bI.ext {w w' : World} {O O' : Nat→Prop} {μ μ' : List Loc} (hE : Ext w O μ w' O' μ') : ∀ (xs : List VV) (l : List Value),bI w O μ xs l→bI w' O' μ' xs l
 | [],l,h=>by simpa [bI] using h
 | x::xs,l,h=>by
  simp only [bI] at h ⊢
  obtain ⟨y,ys,rfl,h1,h2⟩:=h
  exact ⟨y,ys,rfl,VR.ext hE x y h1,bI.ext hE xs ys h2⟩
theorem VC.ext {w w' : World} {O O' : Nat→Prop} {μ μ' : List Loc} (hE : Ext w O μ w' O' μ') : ∀ (xs : List VV) (b o : Nat),(∀ o v,w.cell? ⟨b,o,none⟩=some v→w'.cell? ⟨b,o,none⟩=some v)→VC w O μ xs b o→VC w' O' μ' xs b o
 | [],_,_,_,_=>by simp [VC]
 | x::xs,b,o,hb,h=>by
  simp only [VC] at h ⊢
  obtain ⟨⟨v,hv,h1⟩,h2⟩:=h
  exact ⟨⟨v,hb o v hv,VR.ext hE x v h1⟩,VC.ext hE xs b (o+1) hb h2⟩
end
theorem Ext.refl (w : World) (O : Nat→Prop) (μ : List Loc) : Ext w O μ w O μ:=⟨fun _ _ _ _ h=>h,fun _ h=>.inl h,List.prefix_refl _⟩
section
variable {w : World} {O : Nat→Prop} {μ : List Loc}
theorem iU : ∀ {xs : List VV} {b o : Nat},VC w O μ xs b o↔∀ (i : Nat) (x : VV),xs[i]?=some x→∃ v,w.cell? ⟨b,o+i,none⟩=some v∧VR w O μ x v
 | [],b,o=>by simp [VC]
 | y::ys,b,o=>by
  simp only [VC,iU (xs:=ys)]
  constructor
  ·rintro ⟨⟨v,h1,h2⟩,h3⟩ i x hx
   cases i with
   | zero=>simp at hx;subst hx;exact ⟨v,h1,h2⟩
   | succ i=>obtain ⟨v,h4,h5⟩:=h3 i x (by simpa using hx);exact ⟨v,by rw [show o+(i+1)=o+1+i by omega];exact h4,h5⟩
  ·intro h
   refine ⟨h 0 y rfl,fun i x hx=>?_⟩
   obtain ⟨v,h4,h5⟩:=h (i+1) x (by simpa using hx)
   exact ⟨v,by rw [show o+1+i=o+(i+1) by omega];exact h4,h5⟩
theorem jf : ∀ {xs : List VV} {l : List Value},bI w O μ xs l↔l.length=xs.length∧∀ (i : Nat) (x : VV) (v : Value),xs[i]?=some x→l[i]?=some v→VR w O μ x v
 | [],l=>by
  simp only [bI]
  constructor
  ·rintro rfl;simp
  ·rintro ⟨h,_⟩;exact List.eq_nil_of_length_eq_zero (by simpa using h)
 | x::xs,l=>by
  simp only [bI]
  constructor
  ·rintro ⟨y,ys,rfl,h1,h2⟩
   obtain ⟨h3,h4⟩:=jf.1 h2
   refine ⟨by simp [h3],fun i z v hz hv=>?_⟩
   cases i with
   | zero=>simp at hz hv;subst hz;subst hv;exact h1
   | succ i=>exact h4 i z v (by simpa using hz) (by simpa using hv)
  ·rintro ⟨h3,h4⟩
   cases l with
   | nil=>simp at h3
   | cons y ys =>
    exact ⟨y,ys,rfl,h4 0 x y rfl rfl,jf.2 ⟨by simpa using h3,fun i z v hz hv=>h4 (i+1) z v (by simpa using hz) (by simpa using hv)⟩⟩
theorem bI.length {xs : List VV} {l : List Value} (h : bI w O μ xs l) : l.length=xs.length:=(jf.1 h).1
theorem bI.get {xs : List VV} {l : List Value} (h : bI w O μ xs l) {i : Nat} {x : VV} (hx : xs[i]?=some x) : ∃ v,l[i]?=some v∧VR w O μ x v:=by
 obtain ⟨h1,h2⟩:=jf.1 h
 have hi : i < l.length:=by rw [h1];exact (List.getElem?_eq_some_iff.1 hx).1
 exact ⟨l[i],by simp [hi],h2 i x _ hx (by simp [hi])⟩
theorem bI.append {xs ys : List VV} {l m : List Value} (h : bI w O μ xs l) (h' : bI w O μ ys m) : bI w O μ (xs++ys) (l++m):=by
 induction xs generalizing l with
 | nil=>simp only [bI] at h;subst h;simpa using h'
 | cons x xs ih =>
  simp only [bI] at h
  obtain ⟨y,zs,rfl,h1,h2⟩:=h
  simp only [List.cons_append,bI]
  exact ⟨y,zs++m,rfl,h1,ih h2⟩
theorem bI.drop {xs : List VV} {l : List Value} (h : bI w O μ xs l) (n : Nat) : bI w O μ (xs.drop n) (l.drop n):=by
 obtain ⟨h1,h2⟩:=jf.1 h
 exact jf.2 ⟨by simp [h1],fun i x v hx hv=>h2 (n+i) x v (by simpa [List.getElem?_drop] using hx) (by simpa [List.getElem?_drop] using hv)⟩
theorem bI.take {xs : List VV} {l : List Value} (h : bI w O μ xs l) (n : Nat) : bI w O μ (xs.take n) (l.take n):=by
 obtain ⟨h1,h2⟩:=jf.1 h
 refine jf.2 ⟨by simp [h1],fun i x v hx hv=>?_⟩
 rw [List.getElem?_take] at hx hv
 split at hx
 ·rename_i hi;rw [if_pos hi] at hv;exact h2 i x v hx hv
 ·cases hx
theorem VC.drop {xs : List VV} {b o : Nat} (h : VC w O μ xs b o) (n : Nat) : VC w O μ (xs.drop n) b (o+n):=by
 rw [iU] at h ⊢
 intro i x hx
 obtain ⟨v,h1,h2⟩:=h (n+i) x (by simpa [List.getElem?_drop] using hx)
 exact ⟨v,by rw [show o+n+i=o+(n+i) by omega];exact h1,h2⟩
theorem VC.take {xs : List VV} {b o : Nat} (h : VC w O μ xs b o) (n : Nat) : VC w O μ (xs.take n) b o:=by
 rw [iU] at h ⊢
 intro i x hx
 rw [List.getElem?_take] at hx
 split at hx
 ·exact h i x hx
 ·cases hx
theorem VC.append {xs ys : List VV} {b o : Nat} (h : VC w O μ xs b o) (h' : VC w O μ ys b (o+xs.length)) : VC w O μ (xs++ys) b o:=by
 rw [iU] at h h' ⊢
 intro i x hx
 rw [List.getElem?_append] at hx
 split at hx
 ·exact h i x hx
 ·obtain ⟨v,h1,h2⟩:=h' (i-xs.length) x hx
  exact ⟨v,by rw [show o+i=o+xs.length+(i-xs.length) by omega];exact h1,h2⟩
end
end Go.V
namespace Go.V
def Obj.owns : Obj→Bool
 | .own _ | .mp _ | .loop _=>true
 | .dead | .kH _=>false
def eP (σ : Store) (μ : List Loc) (b : Nat) : Prop:=∃ (id : Nat) (L : Loc) (o : Obj),μ[id]?=some L∧L.block=b∧σ[id]?=some o∧o.owns=true
def jg (w : World) (O : Nat→Prop) (μ : List Loc) (ρ : Env) (tmps : Array Value) : Prop:=∀ t,VR w O μ (ρ.get t) (tmps.getD t undef)
def Nr (w : World) (O : Nat→Prop) (μ : List Loc) (l : kG) (r : Loop) : Prop :=
 r.tmps.size=l.n∧r.state=l.state∧r.pending=l.pending∧r.params=l.params.toArray∧r.assign=l.assign∧r.body=l.body∧jg w O μ l.tmps r.tmps
def xG (w : World) (O : Nat→Prop) (μ : List Loc) (L : Loc) : Obj→Prop
 | .dead=>True
 | .own cells=>(∃ c e,w.heap[L.block]?=some (.cells c e (0,0))∧L.base+L.room≤c.size)∧cells.length≤L.room∧VC w O μ cells L.block L.base
 | .kH cells=>cells.length≤L.room∧(cells=[]∨¬ O L.block)∧VC w O μ cells L.block L.base
 | .mp es=>∃ (ents : Array MapEntry) (clock : Nat),w.heap[L.block]?=some (.map ents clock)∧ents.size=es.length ∧
   ∀ (i : Nat) (k : List UInt8) (x : VV) (e : MapEntry),es[i]?=some (k,x)→ents[i]?=some e→e.key=.string ⟨k.toArray⟩∧VR w O μ x e.val
 | .loop l=>∃ r,w.heap[L.block]?=some (.loop r)∧Nr w O μ l r
def OO (B : Nat→Prop) (σ : Store) (μ : List Loc) (b : Nat) : Prop:=B b∨eP σ μ b
structure SR (B : Nat→Prop) (w : World) (σ : Store) (μ : List Loc) : Prop where
 len : μ.length=σ.length
 obj : ∀ (id : Nat) (o : Obj) (L : Loc),σ[id]?=some o→μ[id]?=some L→xG w (OO B σ μ) μ L o
 apart : ∀ (i j : Nat) (oi oj : Obj) (Li Lj : Loc),σ[i]?=some oi→σ[j]?=some oj→oi.owns=true→oj.owns=true→μ[i]?=some Li→μ[j]?=some Lj→Li.block=Lj.block→i=j
 out : ∀ b,eP σ μ b→¬ B b
 low : ∀ b,B b→b < w.heap.size
structure Frame (w : World) (σ : Store) (μ : List Loc) (w' : World) (σ' : Store) (μ' : List Loc) : Prop where
 size : w.heap.size≤w'.heap.size
 heap : ∀ b,b < w.heap.size→¬ eP σ μ b→w'.heap[b]?=w.heap[b]?
 own : ∀ b,eP σ' μ' b→eP σ μ b∨w.heap.size≤b
 pre : μ <+: μ'
 os : w'.os=w.os
 tape : w'.tape=w.tape
 output : w'.output=w.output
theorem Frame.refl (w : World) (σ : Store) (μ : List Loc) : Frame w σ μ w σ μ :=
 ⟨Nat.le_refl _,fun _ _ _=>rfl,fun _ h=>.inl h,List.prefix_refl _,rfl,rfl,rfl⟩
theorem Frame.trans {w w' w'' : World} {σ σ' σ'' : Store} {μ μ' μ'' : List Loc} (h : Frame w σ μ w' σ' μ') (h' : Frame w' σ' μ' w'' σ'' μ'') : Frame w σ μ w'' σ'' μ'':=by
 refine ⟨Nat.le_trans h.size h'.size,fun b hb hn=>?_,fun b hb=>?_,h.pre.trans h'.pre,h'.os.trans h.os,h'.tape.trans h.tape,h'.output.trans h.output⟩
 ·rw [h'.heap b (Nat.lt_of_lt_of_le hb h.size) (fun ho=>(h.own b ho).elim hn (fun hge=>by omega)),h.heap b hb hn]
 ·rcases h'.own b hb with h1 | h1
  ·exact h.own b h1
  ·exact .inr (Nat.le_trans h.size h1)
theorem Frame.ext {B : Nat→Prop} {w w' : World} {σ σ' : Store} {μ μ' : List Loc} (h : Frame w σ μ w' σ' μ') : Ext w (OO B σ μ) μ w' (OO B σ' μ') μ':=by
 refine ⟨fun b o v hb hv=>?_,fun b hb=>?_,h.pre⟩
 ·rw [cell_of_heap (h.heap b (cell_lt hv) (fun ho=>hb (.inr ho)))];exact hv
 ·rcases hb with hb | hb
  ·exact .inl (.inl hb)
  ·exact (h.own b hb).imp .inr id
theorem jg.ext {w w' : World} {O O' : Nat→Prop} {μ μ' : List Loc} (hE : Ext w O μ w' O' μ') {ρ : Env} {tmps : Array Value} (h : jg w O μ ρ tmps) : jg w' O' μ' ρ tmps :=
 fun t=>VR.ext hE _ _ (h t)
theorem xG.ext {w w' : World} {O O' : Nat→Prop} {μ μ' : List Loc} (hE : Ext w O μ w' O' μ') {L : Loc} {o : Obj} (hb : o.owns=true→w'.heap[L.block]?=w.heap[L.block]?)
  (h : xG w O μ L o) : xG w' O' μ' L o:=by
 cases o with
 | dead=>trivial
 | own cells =>
  obtain ⟨⟨c,e,h1,h2⟩,h3,h4⟩:=h
  have hb:=hb rfl
  exact ⟨⟨c,e,hb.trans h1,h2⟩,h3,VC.ext hE _ _ _ (fun o v hv=>by rw [cell_of_heap hb];exact hv) h4⟩
 | kH cells =>
  obtain ⟨h1,h2,h3⟩:=h
  cases cells with
  | nil=>exact ⟨h1,.inl rfl,by simp [VC]⟩
  | cons x xs =>
   have hno : ¬ O L.block:=by simpa using h2
   refine ⟨h1,.inr fun hO'=>?_,VC.ext hE _ _ _ (fun o v=>hE.cell _ o v hno) h3⟩
   have hlt : L.block < w.heap.size:=by simp only [VC] at h3;obtain ⟨⟨u,hu,_⟩,_⟩:=h3;exact cell_lt hu
   rcases hE.own _ hO' with h | h
   ·exact hno h
   ·omega
 | mp es =>
  obtain ⟨ents,clock,h1,h2,h3⟩:=h
  exact ⟨ents,clock,(hb rfl).trans h1,h2,fun i k x e hx he=>⟨(h3 i k x e hx he).1,VR.ext hE _ _ (h3 i k x e hx he).2⟩⟩
 | loop l =>
  obtain ⟨r,h1,h2,h3,h4,h5,h6,h7,h8⟩:=h
  exact ⟨r,(hb rfl).trans h1,h2,h3,h4,h5,h6,h7,h8.ext hE⟩
theorem eP.lt {B : Nat→Prop} {w : World} {σ : Store} {μ : List Loc} (h : SR B w σ μ) {b : Nat} (ho : eP σ μ b) : b < w.heap.size:=by
 obtain ⟨id,L,o,h1,rfl,h3,h4⟩:=ho
 have:=h.obj id o L h3 h1
 cases o with
 | dead=>simp [Obj.owns] at h4
 | kH=>simp [Obj.owns] at h4
 | own cells=>obtain ⟨⟨c,e,h5,_⟩,_⟩:=this;exact (Array.getElem?_eq_some_iff.1 h5).1
 | mp es=>obtain ⟨_,_,h5,_⟩:=this;exact (Array.getElem?_eq_some_iff.1 h5).1
 | loop l=>obtain ⟨_,h5,_⟩:=this;exact (Array.getElem?_eq_some_iff.1 h5).1
theorem SR.still {B : Nat→Prop} {w w' : World} {σ : Store} {μ : List Loc} (h : SR B w σ μ) (hh : ∀ b,b < w.heap.size→w'.heap[b]?=w.heap[b]?) (hs : w.heap.size≤w'.heap.size) : SR B w' σ μ:=by
 have hE : Ext w (OO B σ μ) μ w' (OO B σ μ) μ:=⟨fun b o v _ hv=>by rw [cell_of_heap (hh b (cell_lt hv))];exact hv,fun _ h=>.inl h,List.prefix_refl _⟩
 exact ⟨h.len,fun id o L ho hL=>(h.obj id o L ho hL).ext hE (fun hown=>hh _ (eP.lt h ⟨id,L,o,hL,rfl,ho,hown⟩)),h.apart,h.out,fun b hb=>Nat.lt_of_lt_of_le (h.low b hb) hs⟩
theorem Frame.still {w w' : World} {σ : Store} {μ : List Loc} (hs : w.heap.size≤w'.heap.size) (hh : ∀ b,b < w.heap.size→w'.heap[b]?=w.heap[b]?)
  (os : w'.os=w.os) (tape : w'.tape=w.tape) (output : w'.output=w.output) : Frame w σ μ w' σ μ :=
 ⟨hs,fun b hb _=>hh b hb,fun _ h=>.inl h,List.prefix_refl _,os,tape,output⟩
theorem aP {α : Type} {l : List α} {x y : α} {i : Nat} (h : (l++[x])[i]?=some y) : l[i]?=some y∨(i=l.length∧y=x):=by
 rw [List.getElem?_append] at h
 split at h
 ·exact .inl h
 ·rename_i hi
  cases hj : i-l.length with
  | zero=>rw [hj] at h;simp at h;exact .inr ⟨by omega,h.symm⟩
  | succ j=>rw [hj] at h;simp at h
theorem SR.snoc {B : Nat→Prop} {w w' : World} {σ : Store} {μ : List Loc} (h : SR B w σ μ) (hF : Frame w σ μ w' σ μ) (hh : ∀ b,b < w.heap.size→w'.heap[b]?=w.heap[b]?)
  {o : Obj} {L : Loc} (hnew : w.heap.size≤L.block)
  (ho : xG w' (OO B (σ++[o]) (μ++[L])) (μ++[L]) L o) : SR B w' (σ++[o]) (μ++[L])∧Frame w σ μ w' (σ++[o]) (μ++[L]):=by
 have hpre : μ <+: μ++[L]:=List.prefix_append _ _
 have hown : ∀ b,eP (σ++[o]) (μ++[L]) b→eP σ μ b∨b=L.block:=by
  rintro b ⟨id,L',o',h1,rfl,h3,h4⟩
  rcases aP h1 with h1 | ⟨h1,rfl⟩
  ·rcases aP h3 with h3 | ⟨h3,rfl⟩
   ·exact .inl ⟨id,L',o',h1,rfl,h3,h4⟩
   ·have:=(List.getElem?_eq_some_iff.1 h1).1;rw [h.len] at this;omega
  ·exact .inr rfl
 have hF' : Frame w σ μ w' (σ++[o]) (μ++[L]):=⟨hF.size,hF.heap,fun b hb=>(hown b hb).imp id (fun e=>by rw [e];exact hnew),hpre,hF.os,hF.tape,hF.output⟩
 refine ⟨⟨by simp [h.len],fun id o' L' ho' hL'=>?_,fun i j oi oj Li Lj hi hj wi wj hLi hLj he=>?_,fun b hb hBb=>?_,fun b hb=>Nat.lt_of_lt_of_le (h.low b hb) hF.size⟩,hF'⟩
 ·rcases aP ho' with h1 | ⟨h1,rfl⟩
  ·rcases aP hL' with h2 | ⟨h2,rfl⟩
   ·exact (h.obj id o' L' h1 h2).ext hF'.ext (fun hw=>hh _ (eP.lt h ⟨id,L',o',h2,rfl,h1,hw⟩))
   ·have:=(List.getElem?_eq_some_iff.1 h1).1;rw [← h.len] at this;omega
  ·rcases aP hL' with h2 | ⟨h2,rfl⟩
   ·have:=(List.getElem?_eq_some_iff.1 h2).1;rw [h.len] at this;omega
   ·exact ho
 ·have key : ∀ (i : Nat) (oi : Obj) (Li : Loc),(σ++[o])[i]?=some oi→oi.owns=true→(μ++[L])[i]?=some Li→(σ[i]?=some oi∧μ[i]?=some Li∧Li.block < w.heap.size)∨(i=σ.length∧Li.block=L.block):=by
   intro i oi Li hi wi hLi
   rcases aP hi with h1 | ⟨h1,rfl⟩
   ·rcases aP hLi with h2 | ⟨h2,rfl⟩
    ·exact .inl ⟨h1,h2,eP.lt h ⟨i,Li,oi,h2,rfl,h1,wi⟩⟩
    ·have:=(List.getElem?_eq_some_iff.1 h1).1;rw [← h.len] at this;omega
   ·rcases aP hLi with h2 | ⟨h2,rfl⟩
    ·have:=(List.getElem?_eq_some_iff.1 h2).1;rw [h.len] at this;omega
    ·exact .inr ⟨h1,rfl⟩
  rcases key i oi Li hi wi hLi with ⟨h1,h2,h3⟩ | ⟨h1,h2⟩<;>rcases key j oj Lj hj wj hLj with ⟨h4,h5,h6⟩ | ⟨h4,h5⟩
  ·exact h.apart i j oi oj Li Lj h1 h4 wi wj h2 h5 he
  ·omega
  ·omega
  ·omega
 ·rcases hown b hb with h1 | rfl
  ·exact h.out b h1 hBb
  ·have:=h.low _ hBb;omega
mutual
def VV.isPure : VV→Bool
 | .mptr .. | .bZ .. | .mmap _ | .yield _=>false
 | .ptr cells _ | .sl _ cells _ | .agg cells | .tup cells=>VV.ak cells
 | .fn _ first caps=>VV.ak first && VV.ak caps
 | .ifc _ x=>x.isPure
 | .undef=>false
 | _=>true
def VV.ak : List VV→Bool
 | []=>true
 | x::xs=>x.isPure && VV.ak xs
end
mutual
theorem VR.pure {w : World} {O O' : Nat→Prop} {μ μ' : List Loc} (hO : ∀ b,b < w.heap.size→O' b→O b) : ∀ (x : VV) (v : Value),x.isPure=true→VR w O μ x v→VR w O' μ' x v
 | .undef,_,hp,_=>by simp [VV.isPure] at hp
 | .bool b,v,_,h=>by simpa [VR] using h
 | .int k n,v,_,h=>by simpa [VR] using h
 | .str s,v,_,h=>by simpa [VR] using h
 | .nilp,v,_,h=>by simpa [VR] using h
 | .nils,v,_,h=>by simpa [VR] using h
 | .nilf,v,_,h=>by simpa [VR] using h
 | .nili,v,_,h=>by simpa [VR] using h
 | .ptr cells off,v,hp,h=>by
  simp only [VR] at h ⊢
  simp only [VV.isPure] at hp
  obtain ⟨b,base,rfl,ho,hc⟩:=h
  refine ⟨b,base,rfl, ?_,VC.pure hO cells b base hp hc⟩
  cases cells with
  | nil=>exact .inl rfl
  | cons x xs =>
   refine .inr fun h=>?_
   have hlt : b < w.heap.size:=by
    simp only [VC] at hc;obtain ⟨⟨u,hu,_⟩,_⟩:=hc;exact cell_lt hu
   exact (by simpa using ho : ¬ O b) (hO b hlt h)
 | .sl n cells tight,v,hp,h=>by
  simp only [VR] at h ⊢
  simp only [VV.isPure] at hp
  rcases h with ⟨b,o,cap,rfl,h1,h2,ho,hc⟩ | h
  rotate_left
  ·exact .inr h
  refine .inl ⟨b,o,cap,rfl,h1,h2, ?_,VC.pure hO cells b o hp hc⟩
  cases cells with
  | nil=>exact .inl rfl
  | cons x xs =>
   refine .inr fun h=>?_
   have hlt : b < w.heap.size:=by
    simp only [VC] at hc;obtain ⟨⟨u,hu,_⟩,_⟩:=hc;exact cell_lt hu
   exact (by simpa using ho : ¬ O b) (hO b hlt h)
 | .mptr id off,v,hp,h=>by simp [VV.isPure] at hp
 | .bZ id off n sz,v,hp,h=>by simp [VV.isPure] at hp
 | .mmap id,v,hp,h=>by simp [VV.isPure] at hp
 | .fn f first caps,v,hp,h=>by
  simp only [VR] at h ⊢
  simp only [VV.isPure,Bool.and_eq_true] at hp
  obtain ⟨a,c,rfl,hf,h1,h2⟩:=h
  exact ⟨a,c,rfl,hf,bI.pure hO first _ hp.1 h1,bI.pure hO caps _ hp.2 h2⟩
 | .yield id,v,hp,h=>by simp [VV.isPure] at hp
 | .ifc t x,v,hp,h=>by
  simp only [VR] at h ⊢
  simp only [VV.isPure] at hp
  obtain ⟨y,rfl,h1⟩:=h
  exact ⟨y,rfl,VR.pure hO x y hp h1⟩
 | .agg cells,v,hp,h=>by
  simp only [VR] at h ⊢
  simp only [VV.isPure] at hp
  obtain ⟨a,rfl,h1⟩:=h
  exact ⟨a,rfl,bI.pure hO cells _ hp h1⟩
 | .tup vs,v,hp,h=>by
  simp only [VR] at h ⊢
  simp only [VV.isPure] at hp
  obtain ⟨a,rfl,h1⟩:=h
  exact ⟨a,rfl,bI.pure hO vs _ hp h1⟩
 | .raw u,v,_,h=>by simpa [VR] using h
theorem bI.pure {w : World} {O O' : Nat→Prop} {μ μ' : List Loc} (hO : ∀ b,b < w.heap.size→O' b→O b) : ∀ (xs : List VV) (l : List Value),VV.ak xs=true→bI w O μ xs l→bI w O' μ' xs l
 | [],l,_,h=>by simpa [bI] using h
 | x::xs,l,hp,h=>by
  simp only [bI] at h ⊢
  simp only [VV.ak,Bool.and_eq_true] at hp
  obtain ⟨y,ys,rfl,h1,h2⟩:=h
  exact ⟨y,ys,rfl,VR.pure hO x y hp.1 h1,bI.pure hO xs ys hp.2 h2⟩
theorem VC.pure {w : World} {O O' : Nat→Prop} {μ μ' : List Loc} (hO : ∀ b,b < w.heap.size→O' b→O b) : ∀ (xs : List VV) (b o : Nat),VV.ak xs=true→VC w O μ xs b o→VC w O' μ' xs b o
 | [],_,_,_,_=>by simp [VC]
 | x::xs,b,o,hp,h=>by
  simp only [VC] at h ⊢
  simp only [VV.ak,Bool.and_eq_true] at hp
  obtain ⟨⟨v,hv,h1⟩,h2⟩:=h
  exact ⟨⟨v,hv,VR.pure hO x v hp.1 h1⟩,VC.pure hO xs b (o+1) hp.2 h2⟩
end
def fz : Nat→Store→VV→Option VV
 | 0,_,x=>if x.isPure then some x else none
 | n+1,σ,x=>if x.isPure then some x else
  match x with
  | .ptr cells off=>(cells.mapM (fz n σ)).map (.ptr · off)
  | .sl k cells tight=>(cells.mapM (fz n σ)).map (.sl k · tight)
  | .agg cells=>(cells.mapM (fz n σ)).map .agg
  | .tup cells=>(cells.mapM (fz n σ)).map .tup
  | .ifc t y=>(fz n σ y).map (.ifc t)
  | .fn f first caps=>do some (.fn f (← first.mapM (fz n σ)) (← caps.mapM (fz n σ)))
  | .mptr id off=>match σ[id]? with
   | some (.kH cells)=>(cells.mapM (fz n σ)).map (.ptr · off)
   | _=>none
  | .bZ id off k sz=>match σ[id]? with
   | some (.kH cells)=>if off+k*sz≤cells.length then (((cells.drop off).take (k*sz)).mapM (fz n σ)).map (.sl k · false) else none
   | _=>none
  | _=>none
theorem lu {α β : Type} {f : α→Option β} : ∀ {l : List α} {m : List β},l.mapM f=some m→m.length=l.length∧∀ (i : Nat) (y : β),m[i]?=some y→∃ x,l[i]?=some x∧f x=some y
 | [],m,h=>by simp at h;subst h;simp
 | x::l,m,h=>by
  simp only [List.mapM_cons,Option.bind_eq_bind,Option.bind_eq_some_iff,Option.pure_def,Option.some.injEq] at h
  obtain ⟨y,hy,ys,hys,rfl⟩:=h
  obtain ⟨h1,h2⟩:=lu hys
  refine ⟨by simp [h1],fun i z hz=>?_⟩
  cases i with
  | zero=>simp at hz;subst hz;exact ⟨x,rfl,hy⟩
  | succ i=>simpa using h2 i z (by simpa using hz)
theorem ET {w : World} {O : Nat→Prop} {μ : List Loc} {σ : Store} (hs : ∀ (id : Nat) (cells : List VV) (L : Loc),σ[id]?=some (.kH cells)→μ[id]?=some L→xG w O μ L (.kH cells)) :
  ∀ (n : Nat) (x y : VV) (v : Value),fz n σ x=some y→VR w O μ x v→VR w O μ y v
 | 0,x,y,v,h,hr=>by
  simp only [fz] at h
  split at h
  ·cases h;exact hr
  ·cases h
 | n+1,x,y,v,h,hr=>by
  simp only [fz] at h
  split at h
  ·cases h;exact hr
  have hcs : ∀ {cells cells' : List VV} {b o : Nat},cells.mapM (fz n σ)=some cells'→VC w O μ cells b o→VC w O μ cells' b o:=by
   intro cells cells' b o hm hc
   rw [iU] at hc ⊢
   intro i z hz
   obtain ⟨x,hx,hfx⟩:=(lu hm).2 i z hz
   obtain ⟨u,hu,hru⟩:=hc i x hx
   exact ⟨u,hu,ET hs n x z u hfx hru⟩
  have hrs : ∀ {xs xs' : List VV} {l : List Value},xs.mapM (fz n σ)=some xs'→bI w O μ xs l→bI w O μ xs' l:=by
   intro xs xs' l hm hc
   rw [jf] at hc ⊢
   refine ⟨by rw [(lu hm).1];exact hc.1,fun i z u hz hu=>?_⟩
   obtain ⟨x,hx,hfx⟩:=(lu hm).2 i z hz
   exact ET hs n x z u hfx (hc.2 i x u hx hu)
  have hnil : ∀ {cells cells' : List VV},cells.mapM (fz n σ)=some cells'→cells=[]→cells'=[]:=by
   intro cells cells' hm he;subst he;simpa using hm.symm
  split at h
  ·rename_i cells off _
   simp only [Option.map_eq_some_iff] at h
   obtain ⟨cells',hm,rfl⟩:=h
   simp only [VR] at hr ⊢
   obtain ⟨b,base,rfl,ho,hc⟩:=hr
   exact ⟨b,base,rfl,ho.imp (hnil hm) (fun z=>z),hcs hm hc⟩
  ·rename_i k cells tight _
   simp only [Option.map_eq_some_iff] at h
   obtain ⟨cells',hm,rfl⟩:=h
   simp only [VR] at hr ⊢
   rcases hr with ⟨b,o,cap,rfl,h1,h2,ho,hc⟩ | ⟨rfl,rfl,h⟩
   ·exact .inl ⟨b,o,cap,rfl,h1,h2,ho.imp (hnil hm) (fun z=>z),hcs hm hc⟩
   ·exact .inr ⟨rfl,hnil hm rfl,h⟩
  ·rename_i cells _
   simp only [Option.map_eq_some_iff] at h
   obtain ⟨cells',hm,rfl⟩:=h
   simp only [VR] at hr ⊢
   obtain ⟨a,rfl,h1⟩:=hr
   exact ⟨a,rfl,hrs hm h1⟩
  ·rename_i cells _
   simp only [Option.map_eq_some_iff] at h
   obtain ⟨cells',hm,rfl⟩:=h
   simp only [VR] at hr ⊢
   obtain ⟨a,rfl,h1⟩:=hr
   exact ⟨a,rfl,hrs hm h1⟩
  ·rename_i t z _
   simp only [Option.map_eq_some_iff] at h
   obtain ⟨z',hm,rfl⟩:=h
   simp only [VR] at hr ⊢
   obtain ⟨u,rfl,h1⟩:=hr
   exact ⟨u,rfl,ET hs n z z' u hm h1⟩
  ·rename_i f first caps _
   simp only [Option.bind_eq_bind,Option.bind_eq_some_iff,Option.some.injEq] at h
   obtain ⟨f',hf',c',hc',rfl⟩:=h
   simp only [VR] at hr ⊢
   obtain ⟨a,c,rfl,hf,h1,h2⟩:=hr
   exact ⟨a,c,rfl,hf,hrs hf' h1,hrs hc' h2⟩
  ·rename_i oid off _
   split at h
   ·rename_i cells hid
    simp only [Option.map_eq_some_iff] at h
    obtain ⟨cells',hm,rfl⟩:=h
    simp only [VR] at hr ⊢
    obtain ⟨L,hL,rfl⟩:=hr
    obtain ⟨h1,h2,h3⟩:=hs oid cells L hid hL
    exact ⟨L.block,L.base,rfl,h2.imp (hnil hm) (fun z=>z),hcs hm h3⟩
   ·cases h
  ·rename_i oid off k sz _
   split at h
   ·rename_i cells hid
    split at h
    ·rename_i hle
     simp only [Option.map_eq_some_iff] at h
     obtain ⟨cells',hm,rfl⟩:=h
     simp only [VR] at hr ⊢
     obtain ⟨L,cap,hL,rfl,h4,h5⟩:=hr
     obtain ⟨h1,h2,h3⟩:=hs oid cells L hid hL
     refine .inl ⟨L.block,L.base+off,cap,rfl,h4,by simp, ?_,hcs hm ((h3.drop off).take (k*sz))⟩
     rcases h2 with rfl | h2
     ·exact .inl (hnil hm (by simp))
     ·exact .inr h2
    ·cases h
   ·cases h
  ·cases h
end Go.V
