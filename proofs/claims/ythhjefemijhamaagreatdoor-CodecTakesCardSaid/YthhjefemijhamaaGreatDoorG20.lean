/- Texts F21 F22 F23 F24 F25. -/
import Derived.Test.YthhjefemijhamaaGreatDoorG19
set_option linter.unusedVariables false
set_option linter.unusedSimpArgs false
namespace Go.V
open Go.Proofs
set_option maxRecDepth 100000
def FC (fv : VV) (xs : List VV) (σ : Store) (R : dX→Store→Prop) : Prop:=match fv with
 | .fn (.func g) first caps=>au Tryz.prog g=true∧CV Tryz.prog G0 g (first++xs++caps) σ R
 | .yield id=>YV Tryz.prog G0 id xs σ R
 | _=>False
theorem jM {fv : VV} {xs : List VV} {σ : Store} {R : dX→Store→Prop} {d : Option Nat} {r : List VO} {Q : Out→Env→Store→Prop} {ρ : Env} (h : FC fv xs σ R)
  (hr : ∀ c σ',R c σ'→aO (fun x σ'=>dQ Tryz.prog G0 r Q (eP ρ d x) σ') (fun x σ'=>Q (.panic x) ρ σ') c σ') : H8 Tryz.prog G0 fv xs d r Q ρ σ:=by
 unfold FC at h
 unfold H8
 split at h
 ·exact ⟨h.1,h.2.mono hr⟩
 ·exact h.mono hr
 ·exact h.elim
theorem FC.mono {fv : VV} {xs : List VV} {σ : Store} {R R' : dX→Store→Prop} (h : FC fv xs σ R) (hr : ∀ c σ',R c σ'→R' c σ') : FC fv xs σ R':=by
 unfold FC at h ⊢
 split at h
 ·exact ⟨h.1,h.2.mono hr⟩
 ·exact h.mono hr
 ·exact h.elim
section
variable {σ : Store} {a b c e o : Obj} {τ : Store}
theorem Wj : (σ++a::τ)[σ.length]?=some a:=by simp
theorem Ws : (σ++a::b::τ)[σ.length+1]?=some b:=by simp
theorem Wp : (σ++a::b::c::τ)[σ.length+(1+1)]?=some c:=by simp
theorem VA : (σ++a::b::c::e::τ)[σ.length+(1+1+1)]?=some e:=by simp
theorem Xg : (σ++a::τ).set σ.length o=σ++o::τ:=by simp
theorem Vz : (σ++a::b::τ).set (σ.length+1) o=σ++a::o::τ:=by simp [List.set_append]
theorem Xc : (σ++a::b::c::τ).set (σ.length+(1+1)) o=σ++a::b::o::τ:=by simp [List.set_append]
theorem WR : (σ++a::b::c::e::τ).set (σ.length+(1+1+1)) o=σ++a::b::c::o::τ:=by simp [List.set_append]
end
theorem SS : (∀ (α : Type) (a b c : List α),a++b++c=a++(b++c))∧(∀ (α : Type) (x : α) (a b : List α),(x::a)++b=x::(a++b))∧(∀ (α : Type) (a : List α),[]++a=a)∧(∀ (α : Type) (a b : List α),(a++b).length=a.length+b.length)∧(∀ (α : Type) (x : α) (a : List α),(x::a).length=a.length+1)∧(∀ α : Type,([] : List α).length=0)∧(∀ n : Nat,0+n=n) ∧
  (∀ (σ τ : Store) a,(σ++a::τ)[σ.length]?=some a)∧(∀ (σ τ : Store) a b,(σ++a::b::τ)[σ.length+1]?=some b)∧(∀ (σ τ : Store) a b c,(σ++a::b::c::τ)[σ.length+(1+1)]?=some c)∧(∀ (σ τ : Store) a b c e,(σ++a::b::c::e::τ)[σ.length+(1+1+1)]?=some e) ∧
  (∀ (σ τ : Store) a o,(σ++a::τ).set σ.length o=σ++o::τ)∧(∀ (σ τ : Store) a b o,(σ++a::b::τ).set (σ.length+1) o=σ++a::o::τ)∧(∀ (σ τ : Store) a b c o,(σ++a::b::c::τ).set (σ.length+(1+1)) o=σ++a::b::o::τ)∧(∀ (σ τ : Store) a b c e o,(σ++a::b::c::e::τ).set (σ.length+(1+1+1)) o=σ++a::b::c::o::τ) :=
 ⟨fun _=>List.append_assoc,fun _ _ _ _=>rfl,fun _ _=>rfl,fun _ _ _=>List.length_append,fun _ _ _=>rfl,fun _=>rfl,Nat.zero_add,fun _ _ _=>Wj,fun _ _ _ _=>Ws,fun _ _ _ _ _=>Wp,fun _ _ _ _ _ _=>VA,fun _ _ _ _=>Xg,fun _ _ _ _ _=>Vz,fun _ _ _ _ _ _=>Xc,fun _ _ _ _ _ _ _=>WR⟩
abbrev DS:=Nat→Prop
structure Low (D : DS) (σ σ' : Store) : Prop where
 len : σ.length≤σ'.length
 same : ∀ id,D id→σ'[id]?=σ[id]?
structure High (D : DS) (σ σ' : Store) : Prop where
 len : σ.length≤σ'.length
 same : ∀ id,id < σ.length→¬ D id→σ'[id]?=σ[id]?
def Grow (D : DS) (σ : Store) (D' : DS) : Prop:=∀ id,D' id→D id∨σ.length≤id
theorem High.refl (D : DS) (σ : Store) : High D σ σ:=⟨Nat.le_refl _,fun _ _ _=>rfl⟩
theorem High.snoc (D : DS) (σ τ : Store) : High D σ (σ++τ):=⟨by simp,fun id h _=>List.getElem?_append_left h⟩
theorem Low.snoc {D : DS} {σ τ : Store} (h : ∀ id,D id→id < σ.length) : Low D σ (σ++τ):=⟨by simp,fun id hi=>List.getElem?_append_left (h id hi)⟩
theorem Low.trans {D : DS} {a b c : Store} (h : Low D a b) (h' : Low D b c) : Low D a c:=⟨Nat.le_trans h.1 h'.1,fun id h1=>(h'.2 id h1).trans (h.2 id h1)⟩
theorem Low.set {D : DS} {σ : Store} {x : Nat} {o : Obj} (h : ¬ D x) : Low D σ (σ.set x o):=⟨by simp,fun id hi=>List.getElem?_set_ne (fun e=>h (by rw [e];exact hi))⟩
theorem Grow.refl (D : DS) (σ : Store) : Grow D σ D:=fun _ h=>.inl h
def Done (J : Nat→DS→Store→Prop) (k : Nat) (D : DS) (σ σ' : Store) : Prop:=∃ D',J k D' σ'∧Grow D σ D'∧High D σ σ'
theorem Done.refl {J : Nat→DS→Store→Prop} {k : Nat} {D : DS} {σ : Store} (h : J k D σ) : Done J k D σ σ:=⟨D,h,.refl _ _,.refl _ _⟩
theorem Done.trans {J : Nat→DS→Store→Prop} {k : Nat} {D D1 : DS} {σ σ1 σ2 : Store} (h1 : Grow D σ D1) (h2 : High D σ σ1) (h : Done J k D1 σ1 σ2) : Done J k D σ σ2:=by
 obtain ⟨D2,j,g,hh⟩:=h
 have l:=h2.len
 refine ⟨D2,j,fun id hd=>?_,⟨Nat.le_trans h2.len hh.len,fun id hi hn=>?_⟩⟩
 ·rcases g id hd with g | g
  ·exact h1 id g
  ·exact .inr (Nat.le_trans l g)
 ·rw [hh.same id (Nat.lt_of_lt_of_le hi l) (fun hd=>(h1 id hd).elim hn (fun g=>by omega)),h2.same id hi hn]
theorem Done.app {J : Nat→DS→Store→Prop} {k : Nat} {D : DS} {σ τ σ' : Store} (h : Done J k D (σ++τ) σ') : Done J k D σ σ' :=
 Done.trans (.refl _ _) (.snoc _ _ _) h
structure Cls (fv : VV) (J : Nat→DS→Store→Prop) (A : Nat→List VV→Prop) (lo hi : Nat) (res : VV) : Prop where
 dom : ∀ i D σ,J i D σ→∀ id,D id→id < σ.length
 low : ∀ i D σ σ',J i D σ→Low D σ σ'→J i D σ'
 call : ∀ i D σ args,lo≤i→i < hi→A i args→J i D σ→FC fv args σ fun c σ'=>c=.ret res∧Done J (i+1) D σ σ'
theorem Cls.snoc {fv : VV} {J : Nat→DS→Store→Prop} {A : Nat→List VV→Prop} {lo hi : Nat} {res : VV} (h : Cls fv J A lo hi res) {i : Nat} {D : DS} {σ : Store} (hJ : J i D σ) (τ : Store) : J i D (σ++τ):=h.low _ _ _ _ hJ (.snoc (h.dom _ _ _ hJ))
theorem Cls.sub {fv : VV} {J : Nat→DS→Store→Prop} {A A' : Nat→List VV→Prop} {lo hi lo' hi' : Nat} {res : VV} (h : Cls fv J A lo hi res) (h1 : lo≤lo') (h2 : hi'≤hi) (he : ∀ i args,lo'≤i→i < hi'→A' i args→A i args) : Cls fv J A' lo' hi' res :=
 ⟨h.dom,h.low,fun i D σ args a b c d=>h.call i D σ args (Nat.le_trans h1 a) (Nat.lt_of_lt_of_le b h2) (he i args a b c) d⟩
def wz (xs : List (List VV)) (a : Nat) (i : Nat) (args : List VV) : Prop:=args=[.int .i64 i,.agg (xs.getD (i-a) [])]
theorem Ec {xs : List (List VV)} {a i : Nat} (h : i < xs.length) : wz xs a (a+i) [.int .i64 (a+i : Nat),.agg xs[i]]:=by
 simp [wz,List.getD_eq_getElem?_getD,h]
theorem Yk (d : Nat) : ∀ (v : VV) (xs : List (List VV)) (a : Nat) (fv : VV) (J : Nat→DS→Store→Prop) (D : DS) (σ : Store),RN d v xs→a+xs.length≤1000000→Cls fv J (wz xs a) a (a+xs.length) (.bool true)→J a D σ →
  CV Tryz.prog G0 133 [v,.int .i64 a,fv] σ fun c σ'=>c=.ret (.bool true)∧Done J (a+xs.length) D σ σ':=by
 induction d with
 | zero=>intro v xs a fv J D σ h;have:=h.ne;omega
 | succ d ih =>
  intro v xs a fv J D σ h hl hC hJ
  have hnx:=List.length_pos_iff.2 h.ne.1
  have hBx:=h.ne.2.2.1
  rcases h.inv with ⟨h1,w,hw,rfl⟩ | ⟨e,w,ks,h1,he,hk,hk2,rfl,rfl⟩
  ·obtain ⟨t,rfl⟩:=hw.iO h.ne.1
   refine cv e133 (by simp) ?_
   simp only [go_sem,seval,c133]
   refine bY (M:=fun ρ σ'=>ρ.get 0=.ptr [.int .i64 xs.length,.int .i64 1,.nils,.sl xs.length xs.flatten t] 0∧ρ.get 2=fv∧Done J (a+xs.length) D σ σ') ?_ ?_
   rotate_left
   ·refine aG (fun m ρ σ'=>∃ i : Nat,m=xs.length-i∧i≤xs.length∧ρ.get 0=.ptr [.int .i64 xs.length,.int .i64 1,.nils,.sl xs.length xs.flatten t] 0∧ρ.get 1=.int .i64 a∧ρ.get 2=fv∧ρ.get 14=.sl xs.length xs.flatten t∧ρ.get 15=.int .i64 xs.length∧ρ.get 16=.int .i64 i∧Done J (a+i) D σ σ') (n:=xs.length) ?_ ⟨0,rfl,by omega,rfl,rfl,rfl,rfl,rfl,rfl,.refl hJ⟩
    rintro m ρ σ' ⟨i,rfl,hi,q0,q1,q2,q14,q15,q16,hJi⟩
    simp only [go_sem,seval,q0,q1,q2,q14,q15,q16]
    refine aj (fun hc=>?_) (fun hc=>?_)
    ·have hc' : i < xs.length:=by simpa using hc
     have c1 : (0 : Int)≤(i : Int):=by omega
     have c2 : (i : Int) < (xs.length : Int):=by omega
     have c3 : i*11+11≤xs.flatten.length:=by rw [hBx.flat];omega
     have c4 : (xs.flatten.drop (i*11)).take 11=xs[i]:=hBx.wG hc'
     have c5 : IntKind.i64.wrap ((a : Int)+i)=((a+i : Nat) : Int):=by rw [iw (by omega)];omega
     have c6 : IntKind.i64.wrap ((i : Int)+1)=((i+1 : Nat) : Int):=by rw [iw (by omega)];omega
     have c7 : xs[i].length=11:=hBx.len _ (List.getElem_mem _)
     have c8 : xs[i].all VV.aF=true:=hBx.cell _ (List.getElem_mem _)
     have c9 : xs[i].take 11=xs[i]:=List.take_of_length_le (by omega)
     simp only [go_sem,seval,q0,q1,q2,q14,q15,q16,c1,c2,c3,c4,c5,c7,c8,c9,Int.toNat_natCast,SS]
     obtain ⟨D1,j1,g1,hh1⟩:=hJi
     have hcall:=hC.call (a+i) D1 (σ'++[.own xs[i]]) _ (by omega) (by omega) (Ec hc') (hC.snoc j1 _)
     refine jM hcall ?_
     rintro _ σ₂ ⟨rfl,hJ2⟩
     have hJ2:=Done.trans g1 hh1 hJ2.app
     simp only [go_sem,seval,aO,q0,q1,q2,q14,q15,q16,c6,Bool.not_true]
     refine ⟨xs.length-(i+1),by omega,i+1, ?_⟩
     and_intros
     all_goals first | rfl | omega | exact hJ2 | assumption
    ·have hc' : i=xs.length:=by simp at hc;omega
     subst hc'
     simp only [go_sem,seval,q0,q1,q2,q14,q15,q16]
     exact hJi
   ·rintro ρ σ' ⟨q0,q2,hJ'⟩
    simp only [go_sem,seval,q0,q2]
    refine aG (fun m ρ σ'=>ρ.get 33=.int .i64 0∧ρ.get 34=.int .i64 0∧Done J (a+xs.length) D σ σ') (n:=0) ?_ ⟨rfl,rfl,hJ'⟩
    rintro m ρ σ' ⟨q33,q34,hJ'⟩
    simp only [go_sem,seval,q33,q34]
    exact hJ'
  ·obtain rfl : e=d:=by omega
   obtain ⟨t,rfl⟩:=hk.iO (by intro e;rw [e] at hk2;simp at hk2)
   have hkl:=KL.oK hk.rn
   refine cv e133 (by simp) ?_
   simp only [go_sem,seval,c133]
   refine bY (M:=fun ρ σ'=>ρ.get 0=.ptr [.int .i64 (aI ks).length,.int .i64 (e+1 : Nat),.sl ks.length (ks.map (·.1)) t,.nils] 0∧ρ.get 1=.int .i64 a∧ρ.get 2=fv∧Done J a D σ σ') ?_ ?_
   rotate_left
   ·refine aG (fun m ρ σ'=>ρ.get 0=.ptr [.int .i64 (aI ks).length,.int .i64 (e+1 : Nat),.sl ks.length (ks.map (·.1)) t,.nils] 0∧ρ.get 1=.int .i64 a∧ρ.get 2=fv∧ρ.get 15=.int .i64 0∧ρ.get 16=.int .i64 0∧Done J a D σ σ') (n:=0) ?_ ⟨rfl,rfl,rfl,rfl,rfl,.refl hJ⟩
    rintro m ρ σ' ⟨q0,q1,q2,q15,q16,hJ'⟩
    simp only [go_sem,seval,q15,q16]
    exact ⟨q0,q1,q2,hJ'⟩
   ·rintro ρ σ' ⟨q0,q1,q2,hJ'⟩
    simp only [go_sem,seval,q0,q1,q2]
    refine aG (fun m ρ σ'=>∃ i : Nat,m=ks.length-i∧i≤ks.length∧ρ.get 1=.int .i64 (a+(aI (ks.take i)).length : Nat)∧ρ.get 2=fv∧ρ.get 32=.sl ks.length (ks.map (·.1)) t∧ρ.get 33=.int .i64 ks.length∧ρ.get 34=.int .i64 i∧Done J (a+(aI (ks.take i)).length) D σ σ') (n:=ks.length) ?_ ⟨0,rfl,by omega,by simp [aI,Env.get,q1],q2,rfl,rfl,rfl,by simpa [aI] using hJ'⟩
    rintro m ρ σ' ⟨i,rfl,hi,q1,q2,q32,q33,q34,hJi⟩
    simp only [go_sem,seval,q1,q2,q32,q33,q34]
    refine aj (fun hc=>?_) (fun hc=>?_)
    ·have hc' : i < ks.length:=by simpa using hc
     obtain ⟨ka,kb,hkc⟩:=(hk.rn ks[i] (List.getElem_mem hc')).cells
     have g : (ks.map (·.1)).getD i .undef=.ptr [.int .i64 ks[i].2.length,.int .i64 e,ka,kb] 0:=by
      rw [List.getD_eq_getElem?_getD,List.getElem?_map,List.getElem?_eq_getElem hc'];exact hkc
     have hs1:=gV ks i hc'
     have hs2:=iE ks (i+1)
     have c1 : (0 : Int)≤(i : Int):=by omega
     have c2 : (i : Int) < (ks.length : Int):=by omega
     have c3 : i < (ks.map (·.1)).length:=by simpa using hc'
     have c5 : IntKind.i64.wrap (((a+(aI (ks.take i)).length : Nat) : Int)+(ks[i].2.length : Int))=((a+(aI (ks.take (i+1))).length : Nat) : Int):=by rw [iw (by omega)];omega
     have c6 : IntKind.i64.wrap ((i : Int)+1)=((i+1 : Nat) : Int):=by rw [iw (by omega)];omega
     have n1 : i*1=i:=by omega
     simp only [go_sem,seval,q1,q2,q32,q33,q34,c1,c2,c3,g,n1,Int.toNat_natCast]
     obtain ⟨D1,j1,g1,hh1⟩:=hJi
     have hkid:=ih ks[i].1 ks[i].2 (a+(aI (ks.take i)).length) fv J D1 σ' (hk.rn _ (List.getElem_mem hc')) (by omega) (hC.sub (by omega) (by omega) (fun j args h1 h2 h3=>by
      simp only [wz] at h3 ⊢
      rw [h3]
      congr 3
      have e1 : aI ks=aI (ks.take i)++(ks[i].2++aI (ks.drop (i+1))):=by
       conv=>lhs;rw [← List.take_append_drop i ks,dN,List.drop_eq_getElem_cons hc',dV]
      have e2 : j-(a+(aI (ks.take i)).length)=j-a-(aI (ks.take i)).length:=by omega
      rw [e2,e1,List.getD_eq_getElem?_getD,List.getD_eq_getElem?_getD,List.getElem?_append_right (by omega),List.getElem?_append_left (by omega)])) j1
     rw [hkc] at hkid
     refine CV.mono hkid ?_
     rintro _ σ₂ ⟨rfl,hJ2⟩
     have hJ2:=Done.trans g1 hh1 hJ2
     simp only [go_sem,seval,aO,q1,q2,q32,q33,q34,c5,c6,Bool.not_true]
     refine ⟨ks.length-(i+1),by omega,i+1, ?_⟩
     and_intros
     all_goals first | rfl | omega | (have:=hJ2;rwa [Nat.add_assoc,← hs1] at this) | assumption
    ·have hc' : i=ks.length:=by simp at hc;omega
     subst hc'
     rw [List.take_length] at hJi
     simp only [go_sem,seval,q1,q2,q32,q33,q34]
     exact hJi
end Go.V
namespace Go.V
open Go.Proofs
set_option maxRecDepth 100000
theorem RP.cell {v : VV} {xs : List (List VV)} (h : RP v xs) : v.aF=true:=by
 rcases h with ⟨rfl,_⟩ | ⟨d,h⟩
 ·rfl
 ·exact h.cell
theorem OW (root : VV) (xs : List (List VV)) (h : RP root xs) : PV Tryz.prog G0 92 [.agg [root]] (.fn (.func 132) [] [.ptr [root] 0]):=by
 have hp:=h.pure
 refine pv e92 (by simp) (by simp [VV.ak,VV.isPure,hp]) (by simp [VV.ak,VV.isPure,hp]) ?_
 have hc:=h.cell
 simp only [go_sem,seval] at hc
 simp only [go_sem,seval,c92,hc]
 refine ⟨_,2,rfl, ?_⟩
 simp only [fz,VV.isPure,VV.ak]
 simp [fz,VV.isPure,VV.ak,Obj.fr,hp]
theorem KT (root : VV) (xs : List (List VV)) (h : RP root xs) (fv : VV) (J : Nat→DS→Store→Prop) (D : DS) (σ : Store) (hl : xs.length≤1000000) (hC : Cls fv J (wz xs 0) 0 xs.length (.bool true)) (hJ : J 0 D σ) :
  CV Tryz.prog G0 132 [fv,.ptr [root] 0] σ fun c σ'=>c=.ret (.tup [])∧Done J xs.length D σ σ':=by
 refine cv e132 (by simp) ?_
 rcases h with ⟨rfl,rfl⟩ | ⟨d,h⟩
 ·simp only [go_sem,seval,c132]
  exact .refl hJ
 ·obtain ⟨a,b,hr⟩:=h.cells
  have:=Yk d root xs 0 fv J D σ h (by omega) (by simpa using hC) hJ
  subst hr
  simp only [go_sem,seval,c132]
  refine CV.mono this ?_
  rintro _ σ' ⟨rfl,h1⟩
  simp only [go_sem,seval,aO]
  simpa using h1
def I8 (sk si : Int) (st : Bs) (k : Int) (root : VV) (seed bits n : Int) (hr : VV) (below more : Int) : VV :=
 .agg [.int .i64 sk,.int .i64 si,.str st,.int .i64 k,root,.int .u64 seed,.int .i64 bits,.int .i64 n,hr,.int .i64 below,.int .i64 more]
def qg (xs : List (List VV)) (i : Nat) (args : List VV) : Prop:=args=[.agg [.int .i64 0,.int .i64 i,.str []],.agg (xs.getD i [])]
theorem NY {xs : List (List VV)} {i : Nat} (h : i < xs.length) : qg xs i [.agg [.int .i64 0,.int .i64 i,.str []],.agg xs[i]]:=by
 simp [qg,List.getD_eq_getElem?_getD,h]
theorem qL (sk si : Int) (st : Bs) (root : VV) (xs : List (List VV)) (h : RP root xs) (seed bits m : Int) (hr : VV) (hhr : hr.aF=true) (below more : Int) (g : FuncId) (hg : au Tryz.prog g=true) (caps : List VV) (J : Nat→DS→Store→Prop) (D : DS) (σ : Store) (hl : xs.length≤1000000)
  (hC : Cls (.fn (.func g) [] caps) J (qg xs) 0 xs.length (.tup [])) (hJ : J 0 D σ) :
  CV Tryz.prog G0 54 [I8 sk si st 4 root seed bits m hr below more,.fn (.func g) [] caps] σ fun c σ'=>c=.ret (.tup [])∧Done J xs.length D σ σ':=by
 refine cv e54 (by simp) ?_
 have hc:=h.cell
 simp only [go_sem,seval] at hc
 simp only [go_sem,seval] at hhr
 simp only [go_sem,seval,c54,I8,hc,hhr,SS]
 refine ah (OW root xs h) ?_<;>simp only [go_sem,seval,SS]
 intro l hl'
 obtain ⟨L,hL⟩ : ∃ L,L=σ.length:=⟨_,rfl⟩
 rw [← hL]
 have hdom:=hC.dom _ _ _ hJ
 refine CV.mono (KT root xs h (.yield (L+3)) (fun i D' τ=>∃ D,(∀ id,D' id↔D id∨(L≤id∧id < L+4))∧(∀ id,L≤id→id < L+4→¬ D id)∧J i D τ∧L+4≤τ.length∧τ[L+1]?=some (.own [.fn (.func g) [] caps])∧(∃ j : Int,τ[L+2]?=some (.own [.int .i64 0,.int .i64 j,.str []]))∧τ[L+3]?=some (.loop l))
  (fun id=>D id∨(L≤id∧id < L+4)) _ hl ⟨?_, ?_, ?_⟩ ⟨D,fun _=>.rfl,fun id h1 h2 h3=>by have:=hdom id h3;omega,hC.snoc hJ _,by simp [hL],by simp [hL],⟨0,by simp [hL]⟩,by simp [hL]⟩) ?_
 ·rintro i D' τ ⟨D,d1,d2,h1,h2,_⟩ id hid
  rcases (d1 id).1 hid with h | h
  ·exact hC.dom _ _ _ h1 id h
  ·omega
 ·rintro i D' τ τ' ⟨D,d1,d2,h1,h2,h3,⟨j,h4⟩,h5⟩ hlow
  have hs : ∀ id,L≤id→id < L+4→τ'[id]?=τ[id]?:=fun id a b=>hlow.same id ((d1 id).2 (.inr ⟨a,b⟩))
  exact ⟨D,d1,d2,hC.low _ _ _ _ h1 ⟨hlow.len,fun id hid=>hlow.same id ((d1 id).2 (.inl hid))⟩,Nat.le_trans h2 hlow.len,(hs _ (by omega) (by omega)).trans h3,⟨j,(hs _ (by omega) (by omega)).trans h4⟩,(hs _ (by omega) (by omega)).trans h5⟩
 ·rintro i D' τ args _ hi hit ⟨D,d1,d2,h1,h2,h3,⟨j,h4⟩,h5⟩
  have e : wz xs 0 i [.int .i64 i,.agg xs[i]]:=by have:=Ec (a:=0) hi;simpa using this
  obtain rfl : args=[.int .i64 i,.agg xs[i]]:=by unfold wz at hit e;rw [hit,e]
  have hB:=h.blk
  have c7 : xs[i].length=11:=hB.len _ (List.getElem_mem _)
  have c8 : xs[i].all VV.aF=true:=hB.cell _ (List.getElem_mem _)
  have c9 : xs[i].take 11=xs[i]:=List.take_of_length_le (by omega)
  refine Nk mix h5 hl' rfl (by decide) ?_
  simp only [go_sem,seval,sK,SS,c7,c8,c9]
  refine ⟨by rw [List.getElem?_append_left (by omega)];exact h5, ?_⟩
  rw [← hL]
  have hdomt:=hC.dom _ _ _ h1
  obtain ⟨τ1,hτ1⟩ : ∃ τ1,τ1=(τ++[Obj.own xs[i]]).set (L+3) (.loop { l with state:=.busy }):=⟨_,rfl⟩
  rw [← hτ1]
  have j1 : J i D τ1:=by rw [hτ1];exact hC.low _ _ _ _ (hC.snoc h1 _) (.set (d2 _ (by omega) (by omega)))
  have g0 : τ1.length=τ.length+1:=by rw [hτ1];simp
  have g1 : τ1[L+1]?=some (.own [.fn (.func g) [] caps]):=by rw [hτ1,List.getElem?_set_ne (by omega),List.getElem?_append_left (by omega)];exact h3
  have g2 : τ1[L+2]?=some (.own [.int .i64 0,.int .i64 j,.str []]):=by rw [hτ1,List.getElem?_set_ne (by omega),List.getElem?_append_left (by omega)];exact h4
  have g3 : τ1[L+3]?=some (.loop { l with state:=.busy }):=by rw [hτ1,List.getElem?_set_self (by simp;omega)]
  have g4 : τ1[τ.length]?=some (.own xs[i]):=by rw [hτ1,List.getElem?_set_ne (by omega)];simp
  have g6 : ∀ id,id < τ.length→id≠L+3→τ1[id]?=τ[id]?:=fun id h1 h2=>by rw [hτ1,List.getElem?_set_ne (by omega),List.getElem?_append_left (by omega)]
  clear hτ1
  simp only [go_sem,seval,g2,SS]
  obtain ⟨τ2,hτ2⟩ : ∃ τ2,τ2=τ1.set (L+2) (.own [.int .i64 0,.int .i64 i,.str []]):=⟨_,rfl⟩
  rw [← hτ2]
  have j2 : J i D τ2:=by rw [hτ2];exact hC.low _ _ _ _ j1 (.set (d2 _ (by omega) (by omega)))
  have k0 : τ2.length=τ.length+1:=by rw [hτ2];simp [g0]
  have k1 : τ2[L+1]?=some (.own [.fn (.func g) [] caps]):=by rw [hτ2,List.getElem?_set_ne (by omega)];exact g1
  have k2 : τ2[L+2]?=some (.own [.int .i64 0,.int .i64 i,.str []]):=by rw [hτ2,List.getElem?_set_self (by omega)]
  have k3 : τ2[L+3]?=some (.loop { l with state:=.busy }):=by rw [hτ2,List.getElem?_set_ne (by omega)];exact g3
  have k4 : τ2[τ.length]?=some (.own xs[i]):=by rw [hτ2,List.getElem?_set_ne (by omega)];exact g4
  have k6 : ∀ id,id < τ.length→id≠L+3→id≠L+2→τ2[id]?=τ[id]?:=fun id h1 h2 h3=>by rw [hτ2,List.getElem?_set_ne (by omega)];exact g6 id h1 h2
  clear hτ2
  simp only [go_sem,seval,k1,k2,k4,c7,c8,c9,SS]
  refine jM (hC.call i D τ2 _ (by omega) hi (NY hi) j2) ?_
  rintro _ τ3 ⟨rfl,D3,hJ3,hG3,hH3⟩
  simp only [go_sem,seval,aO,vG]
  have hD3 : ∀ id,L≤id→id < L+4→¬ D3 id:=fun id a b c=>by
   rcases hG3 id c with c | c
   ·exact d2 id a b c
   ·omega
  have m0:=hH3.len
  have m3:=(hH3.same (L+3) (by omega) (d2 _ (by omega) (by omega))).trans k3
  refine ⟨m3,fun id=>D3 id∨(L≤id∧id < L+4),⟨D3,fun _=>.rfl,hD3,hC.low _ _ _ _ hJ3 (.set (hD3 _ (by omega) (by omega))),by simp;omega, ?_,⟨i, ?_⟩, ?_⟩,fun id hid=>?_,⟨by simp;omega,fun id a b=>?_⟩⟩
  ·rw [List.getElem?_set_ne (by omega),hH3.same _ (by omega) (d2 _ (by omega) (by omega))];exact k1
  ·rw [List.getElem?_set_ne (by omega),hH3.same _ (by omega) (d2 _ (by omega) (by omega))];exact k2
  ·rw [List.getElem?_set_self (by omega)]
  ·rcases hid with hid | hid
   ·rcases hG3 id hid with h | h
    ·exact .inl ((d1 id).2 (.inl h))
    ·exact .inr (by omega)
   ·exact .inl ((d1 id).2 (.inr hid))
  ·have b' : ¬ D id∧¬ (L≤id∧id < L+4):=⟨fun h=>b ((d1 id).2 (.inl h)),fun h=>b ((d1 id).2 (.inr h))⟩
   rw [List.getElem?_set_ne (by omega),hH3.same _ (by omega) b'.1,k6 id a (by omega) (by omega)]
 ·rintro _ τ ⟨rfl,D',⟨D2,d1,d2,h1,h2,h3,⟨j,h4⟩,h5⟩,hG,hH⟩
  refine ⟨l,h5,by rw [hl'.st];simp, ?_⟩
  rw [hl'.pe]
  simp only [go_sem,seval,BH]
  refine ⟨D2,hC.low _ _ _ _ h1 (.set (d2 _ (by omega) (by omega))),fun id hid=>?_,⟨by simp;omega,fun id a b=>?_⟩⟩
  ·rcases hG id ((d1 id).2 (.inl hid)) with (h | h) | h
   ·exact .inl h
   ·exact .inr (by omega)
   ·refine .inr ?_
    simp only [List.length_append] at h;omega
  ·rw [List.getElem?_set_ne (by omega),hH.same id (by simp;omega) (fun h=>h.elim b (fun h=>by omega)),List.getElem?_append_left a]
end Go.V
namespace Go.V
open Go.Proofs
set_option maxRecDepth 100000
structure Vl where
 sk : Int
 si : Int
 st : Bs
 k : Int
 root : VV
 seed : Int
 bits : Int
 n : Int
 hr : VV
 below : Nat
 more : Nat
def Vl.cells (x : Vl) : List VV:=[.int .i64 x.sk,.int .i64 x.si,.str x.st,.int .i64 x.k,x.root,.int .u64 x.seed,.int .i64 x.bits,.int .i64 x.n,x.hr,.int .i64 x.below,.int .i64 x.more]
def Vl.vv (x : Vl) : VV:=.agg x.cells
structure Vl.ok (x : Vl) : Prop where
 rp : x.root.isPure=true
 rc : x.root.aF=true
 hp : x.hr.isPure=true
 hc : x.hr.aF=true
 hb : x.below≤1000000
 hm : x.more≤1000000
theorem Vl.ok.pure {x : Vl} (h : x.ok) : VV.ak x.cells=true:=by simp [Vl.cells,VV.ak,VV.isPure,h.rp,h.hp]
theorem Vl.ok.cell {x : Vl} (h : x.ok) : aU x.cells=true:=by
 have h1:=h.rc
 have h2:=h.hc
 simp only [Vl.cells,aU,List.all_cons,List.all_nil,h1,h2];rfl
theorem Vl.ok.blk {x : Vl} (h : x.ok) : dS 11 [x.cells]:=⟨by simp [Vl.cells],by simp [h.pure],by simp [h.cell]⟩
def Vl.zero : Vl:=⟨0,0,[],0,.nilp,0,0,0,.nilp,0,0⟩
theorem Fv (x : Vl) (h : x.ok) : PV Tryz.prog G0 26 [x.vv] (.int .i64 (x.below+1 : Nat)):=by
 refine pv e26 (by simp) (by simp [VV.ak,VV.isPure,Vl.vv,h.pure]) rfl ?_
 have h1:=h.rc
 have h2:=h.hc
 have h3:=h.hb
 simp only [go_sem,seval] at h1
 simp only [go_sem,seval] at h2
 have e1 : IntKind.i64.wrap ((x.below : Int)+1)=((x.below+1 : Nat) : Int):=by rw [iw (by omega)];omega
 simp only [go_sem,seval,c26,Vl.vv,Vl.cells,h1,h2,e1]
 exact fin (by rfl) rfl
theorem Gy (x : Vl) (h : x.ok) : PV Tryz.prog G0 28 [x.vv] (.int .i64 (x.more+1 : Nat)):=by
 refine pv e28 (by simp) (by simp [VV.ak,VV.isPure,Vl.vv,h.pure]) rfl ?_
 have h1:=h.rc
 have h2:=h.hc
 have h3:=h.hm
 simp only [go_sem,seval] at h1
 simp only [go_sem,seval] at h2
 have e1 : IntKind.i64.wrap ((x.more : Int)+1)=((x.more+1 : Nat) : Int):=by rw [iw (by omega)];omega
 simp only [go_sem,seval,c28,Vl.vv,Vl.cells,h1,h2,e1]
 exact fin (by rfl) rfl
theorem yT (root : VV) (xs : List (List VV)) (h : RP root xs) : PV Tryz.prog G0 51 [.agg [root]] (.int .i64 xs.length):=by
 have hp:=h.pure
 refine pv e51 (by simp) (by simp [VV.ak,VV.isPure,hp]) rfl ?_
 rcases h with ⟨rfl,rfl⟩ | ⟨d,h⟩
 ·simp only [go_sem,seval,c51]
  exact fin (by rfl) rfl
 ·obtain ⟨a,b,rfl⟩:=h.cells
  simp only [go_sem,seval,c51]
  exact fin (by rfl) rfl
theorem O1 (seed bits n : Int) (hr : VV) (hp : hr.isPure=true) (hc : hr.aF=true) : PV Tryz.prog G0 52 [.agg [.int .u64 seed,.int .i64 bits,.int .i64 n,hr]] (.int .i64 n):=by
 refine pv e52 (by simp) (by simp [VV.ak,VV.isPure,hp]) rfl ?_
 simp only [go_sem,seval] at hc
 simp only [go_sem,seval,c52,hc]
 exact fin (by rfl) rfl
theorem RJ (x : Vl) (h : x.ok) (xs : List (List VV)) (hR : RP x.root xs) (n : Nat) (hn : x.n=n) (hl : xs.length+n≤1000000) : PV Tryz.prog G0 27 [x.vv] (.int .i64 (xs.length+n : Nat)):=by
 refine pv e27 (by simp) (by simp [VV.ak,VV.isPure,Vl.vv,h.pure]) rfl ?_
 have h1:=h.rc
 have h2:=h.hc
 simp only [go_sem,seval] at h1
 simp only [go_sem,seval] at h2
 have e1 : IntKind.i64.wrap ((xs.length : Int)+(n : Int))=((xs.length+n : Nat) : Int):=by rw [iw (by omega)];omega
 simp only [go_sem,seval,c27,Vl.vv,Vl.cells,h1,h2,hn]
 refine aC (yT _ _ hR) (by simp only [go_sem,seval,h1,h2,hn]) ?_<;>simp only [go_sem,seval,h1,h2,hn]
 refine aC (O1 x.seed x.bits n x.hr h.hp h.hc) (by simp only [go_sem,seval,h1,h2,hn,e1]) ?_<;>simp only [go_sem,seval,h1,h2,hn,e1]
 exact fin (by rfl) rfl
theorem LJ (x y : Vl) (h : x.ok) (hy : y.ok) (hm : x.more+y.more+1≤1000000) (hb : y.below+1≤1000000) : PV Tryz.prog G0 179 [x.vv,y.vv] ({ x with below:=max x.below (y.below+1),more:=x.more+(y.more+1) } : Vl).vv:=by
 have hok : ({ x with below:=max x.below (y.below+1),more:=x.more+(y.more+1) } : Vl).ok:=⟨h.rp,h.rc,h.hp,h.hc,by have:=h.hb;simp only;omega,by simp only;omega⟩
 refine pv e179 (by simp) (by simp [VV.ak,VV.isPure,Vl.vv,h.pure,hy.pure]) (by simp [VV.isPure,Vl.vv,hok.pure]) ?_
 have h1:=h.rc
 have h2:=h.hc
 have h3:=hy.rc
 have h4:=hy.hc
 simp only [go_sem,seval] at h1
 simp only [go_sem,seval] at h2
 simp only [go_sem,seval] at h3
 simp only [go_sem,seval] at h4
 simp only [go_sem,seval,c179,Vl.vv,Vl.cells,h1,h2,h3,h4]
 have e2 : rZ true (.int .i64 x.below) (.int .i64 (y.below+1 : Nat))=some (.int .i64 (max x.below (y.below+1) : Nat)):=by
  have e0 : (if ((y.below+1 : Nat) : Int) > (x.below : Int) then ((y.below+1 : Nat) : Int) else (x.below : Int))=((max x.below (y.below+1) : Nat) : Int):=by split<;>omega
  simp only [rZ,if_true,e0]
 have e3 : IntKind.i64.wrap ((x.more : Int)+(y.more+1 : Nat))=((x.more+(y.more+1) : Nat) : Int):=by rw [iw (by omega)];omega
 refine aC (Fv y hy) (by simp only [go_sem,seval,h1,h2,h3,h4,e2]) ?_<;>simp only [go_sem,seval,h1,h2,h3,h4,e2]
 refine aC (Gy y hy) (by simp only [go_sem,seval,h1,h2,h3,h4,e3]) ?_<;>simp only [go_sem,seval,h1,h2,h3,h4,e3]
 exact fin (by have:=hok.pure;simp only [VV.isPure];exact this) rfl
theorem AP (x : Vl) (h : x.ok) : PV Tryz.prog G0 178 [x.vv] (if x.below+1 > 64 then .tup [Vl.zero.vv,.int .i64 7] else if x.more+1 > 16384 then .tup [Vl.zero.vv,.int .i64 8] else .tup [x.vv,.int .i64 0]):=by
 have hpu : (if x.below+1 > 64 then VV.tup [Vl.zero.vv,.int .i64 7] else if x.more+1 > 16384 then .tup [Vl.zero.vv,.int .i64 8] else .tup [x.vv,.int .i64 0]).isPure=true:=by
  split
  ·rfl
  ·split
   ·rfl
   ·simp [VV.isPure,VV.ak,Vl.vv,h.pure]
 refine pv e178 (by simp) (by simp [VV.ak,VV.isPure,Vl.vv,h.pure]) hpu ?_
 have h1:=h.rc
 have h2:=h.hc
 simp only [go_sem,seval] at h1
 simp only [go_sem,seval] at h2
 simp only [go_sem,seval,c178,Vl.vv,Vl.cells,h1,h2]
 refine ah (Fv x h) ?_<;>simp only [go_sem,seval,h1,h2]
 refine aj (fun hc=>?_) (fun hc=>?_)
 ·have hc' : x.below+1 > 64:=by simp at hc;omega
  simp only [go_sem,seval,h1,h2]
  rw [if_pos hc'] at hpu ⊢
  exact fin hpu rfl
 ·have hc' : ¬ x.below+1 > 64:=by simp at hc;omega
  simp only [go_sem,seval,h1,h2]
  rw [if_neg hc'] at hpu ⊢
  refine ah (Gy x h) ?_<;>simp only [go_sem,seval,h1,h2]
  refine aj (fun hd=>?_) (fun hd=>?_)
  ·have hd' : x.more+1 > 16384:=by simp at hd;omega
   simp only [go_sem,seval,h1,h2]
   rw [if_pos hd'] at hpu ⊢
   exact fin hpu rfl
  ·have hd' : ¬ x.more+1 > 16384:=by simp at hd;omega
   simp only [go_sem,seval,h1,h2]
   rw [if_neg hd'] at hpu ⊢
   exact fin hpu rfl
end Go.V
namespace Go.V
open Go.Proofs
set_option maxRecDepth 100000
theorem eH {v : VV} (h : v.aF=true) : v.yc=false:=by cases v<;>first | rfl | cases h
theorem cellC {v : VV} (h : v.aF=true) : v.cells=[v]:=by cases v<;>first | rfl | cases h
theorem TT (v : VV) (xs : List (List VV)) (i : Nat) (h : RP v xs) (hi : i≤xs.length) (hl : xs.length≤1000000) : yE v xs i:=by
 rcases h with ⟨rfl,rfl⟩ | ⟨d,h⟩
 ·refine ⟨.nilp,.nilp,.inl ⟨rfl,by simp⟩,.inl ⟨rfl,by simp⟩, ?_⟩
  refine pv e196 (by simp) rfl rfl ?_
  simp only [go_sem,seval,c196]
  exact fin (by rfl) rfl
 ·exact WH d v xs i h hi hl
theorem Gm (root : VV) (xs : List (List VV)) (h : RP root xs) (x : List VV) (hx : dS 11 [x]) (i : Nat) (hi : i≤xs.length) (hl : xs.length+1≤1000000) : ∃ r,RP r (xs.take i++[x]++xs.drop i)∧PV Tryz.prog G0 177 [.agg [root],.int .i64 i,.agg x] (.tup [.agg [r],.int .i64 0]):=by
 obtain ⟨a,b,ha,hb,hP⟩:=TT root xs i h hi (by omega)
 obtain ⟨lf,hlf,hP1,hlf1⟩:=yQ (.sl 1 x true) [x] (fH.of hx rfl (by simp))
 obtain ⟨j,hj,hP2⟩:=FT a lf _ _ ha hlf (by simp;omega)
 obtain ⟨r,hr,hP3⟩:=FT j b _ _ hj hb (by simp;omega)
 refine ⟨r,hr, ?_⟩
 have hp:=h.pure
 have hc:=h.cell
 have hrp:=hr.pure
 have hrc:=hr.cell
 have hru:=eH hrc
 have hrl:=cellC hrc
 simp only [go_sem,seval] at hru
 simp only [go_sem,seval] at hrl
 have c7 : x.length=11:=hx.len x (by simp)
 have c8 : x.all VV.aF=true:=hx.cell x (by simp)
 have c9 : x.take 11=x:=List.take_of_length_le (by omega)
 have c10 : VV.ak x=true:=hx.pure x (by simp)
 have b1 : decide ((i : Int) < 0)=false:=by simp
 have b2 : decide ((xs.length : Int) < i)=false:=decide_eq_false (by omega)
 refine pv e177 (by simp) (by simp [VV.ak,VV.isPure,hp,c10]) (by simp [VV.ak,VV.isPure,hrp]) ?_
 simp only [go_sem,seval] at hc
 simp only [go_sem,seval] at hrc
 simp only [go_sem,seval,c177,hc,c7,c8,c9,b1]
 refine ah (yT root xs h) ?_<;>simp only [go_sem,seval,hc,c7,c8,c9,b1,b2]
 refine ah (hP) ?_<;>simp only [go_sem,seval,hc,c7,c8,c9]
 refine ah (hP1) ?_<;>simp only [go_sem,seval,hc,c7,c8,c9]
 refine ah (hP2) ?_<;>simp only [go_sem,seval,hc,c7,c8,c9]
 refine ah (hP3) ?_<;>simp only [go_sem,seval,hc,hrc,hru,hrl,c7,c8,c9]
 have hpu : (VV.tup [.agg [r],.int .i64 0]).isPure=true:=by simp [VV.ak,VV.isPure,hrp]
 exact fin hpu rfl
theorem Po (x y : Vl) (h : x.ok) (hy : y.ok) (hk : x.k=4) (xs : List (List VV)) (hR : RP x.root xs) (i : Nat) (hi : i≤xs.length) (hl : xs.length+1≤1000000) (hm : x.more+y.more+1≤1000000) (hb : y.below+1≤1000000) :
  ∃ r,RP r (xs.take i++[y.cells]++xs.drop i)∧PV Tryz.prog G0 140 [x.vv,.int .i64 i,y.vv]
   (if max x.below (y.below+1)+1 > 64 then .tup [Vl.zero.vv,.int .i64 7] else if x.more+(y.more+1)+1 > 16384 then .tup [Vl.zero.vv,.int .i64 8] else .tup [({ x with root:=r,below:=max x.below (y.below+1),more:=x.more+(y.more+1) } : Vl).vv,.int .i64 0]):=by
 obtain ⟨r,hr,hP⟩:=Gm x.root xs hR y.cells hy.blk i hi hl
 refine ⟨r,hr, ?_⟩
 have hok1 : ({ x with root:=r } : Vl).ok:=⟨hr.pure,hr.cell,h.hp,h.hc,h.hb,h.hm⟩
 have hok2 : ({ x with root:=r,below:=max x.below (y.below+1),more:=x.more+(y.more+1) } : Vl).ok:=⟨hr.pure,hr.cell,h.hp,h.hc,by have:=h.hb;simp only;omega,by simp only;omega⟩
 have hW:=LJ { x with root:=r } y hok1 hy hm hb
 simp only [Vl.vv,Vl.cells,hk] at hW
 have hI:=AP _ hok2
 generalize hz : (if max x.below (y.below+1)+1 > 64 then VV.tup [Vl.zero.vv,.int .i64 7] else if x.more+(y.more+1)+1 > 16384 then .tup [Vl.zero.vv,.int .i64 8] else .tup [({ x with root:=r,below:=max x.below (y.below+1),more:=x.more+(y.more+1) } : Vl).vv,.int .i64 0])=z
 rw [show (if ({ x with root:=r,below:=max x.below (y.below+1),more:=x.more+(y.more+1) } : Vl).below+1 > 64 then VV.tup [Vl.zero.vv,.int .i64 7] else if ({ x with root:=r,below:=max x.below (y.below+1),more:=x.more+(y.more+1) } : Vl).more+1 > 16384 then .tup [Vl.zero.vv,.int .i64 8] else .tup [({ x with root:=r,below:=max x.below (y.below+1),more:=x.more+(y.more+1) } : Vl).vv,.int .i64 0])=z from hz] at hI
 simp only [Vl.vv,Vl.cells,hk] at hI
 have hzz : ∃ zs e,z=.tup [.agg zs,.int .i64 e]∧zs.length=11∧VV.ak zs=true∧aU zs=true:=by
  rw [← hz]
  split
  ·exact ⟨_,_,rfl,rfl,rfl,rfl⟩
  ·split
   ·exact ⟨_,_,rfl,rfl,rfl,rfl⟩
   ·exact ⟨_,_,rfl,rfl,hok2.pure,hok2.cell⟩
 obtain ⟨zs,e,rfl,z1,z2,z3⟩:=hzz
 clear hz
 have h1:=h.rc
 have h2:=h.hc
 have h3:=hy.rc
 have h4:=hy.hc
 have h5:=hr.cell
 simp only [go_sem,seval] at h1
 simp only [go_sem,seval] at h2
 simp only [go_sem,seval] at h3
 simp only [go_sem,seval] at h4
 simp only [go_sem,seval] at h5
 have hpu : (VV.tup [.agg zs,.int .i64 e]).isPure=true:=by simp [VV.isPure,VV.ak,z2]
 refine pv e140 (by simp) (by simp [VV.ak,VV.isPure,Vl.vv,h.pure,hy.pure]) hpu ?_
 have b1 : ((4 : Int) == 4)=true:=by decide
 simp only [go_sem,seval,c140,Vl.vv,Vl.cells,hk,h1,h2,h3,h4,h5]
 have z4 : zs.all VV.aF=true:=z3
 have z5 : zs.take 11=zs:=List.take_of_length_le (by omega)
 refine ah (hP) ?_<;>simp only [go_sem,seval,h1,h2,h3,h4,h5]
 refine ah (hW) ?_<;>simp only [go_sem,seval,h1,h2,h3,h4,h5,Vl.vv,Vl.cells]
 refine ah (hI) ?_<;>simp only [go_sem,seval,h1,h2,h3,h4,h5,z1,z4,z5]
 exact fin hpu rfl
end Go.V
namespace Go.V
open Go.Proofs
set_option maxRecDepth 100000
structure Ch (S : Nat→Prop) (σ σ' : Store) : Prop where
 len : σ.length≤σ'.length
 same : ∀ id,id < σ.length→¬ S id→σ'[id]?=σ[id]?
theorem Ch.refl (S : Nat→Prop) (σ : Store) : Ch S σ σ:=⟨Nat.le_refl _,fun _ _ _=>rfl⟩
theorem Ch.trans {S : Nat→Prop} {a b c : Store} (h : Ch S a b) (h' : Ch S b c) : Ch S a c:=⟨Nat.le_trans h.len h'.len,fun id h1 h2=>(h'.same id (Nat.lt_of_lt_of_le h1 h.len) h2).trans (h.same id h1 h2)⟩
theorem Ch.mono {S S' : Nat→Prop} {a b : Store} (h : Ch S a b) (hs : ∀ i,S i→S' i) : Ch S' a b:=⟨h.len,fun id h1 h2=>h.same id h1 fun h3=>h2 (hs id h3)⟩
theorem Ch.snoc (S : Nat→Prop) (σ τ : Store) : Ch S σ (σ++τ):=⟨by simp,fun id h _=>List.getElem?_append_left h⟩
theorem Ch.app {S : Nat→Prop} {σ σ' τ : Store} (h : Ch S (σ++τ) σ') : Ch S σ σ':=(Ch.snoc S σ τ).trans h
theorem Ch.set {S : Nat→Prop} {σ : Store} {id : Nat} {o : Obj} (h : S id) : Ch S σ (σ.set id o):=⟨by simp,fun j _ hj=>List.getElem?_set_ne (fun e=>by subst e;exact hj h)⟩
def RD (seed bits : Int) (s : Bs) (a : Int) (n : Nat) : Obj:=.own [.int .u64 seed,.int .i64 bits,.str s,.int .i64 a,.int .i64 n]
def wR (c p : Int) : VV:=.ifc 109 (.agg [dL c p])
def aT (s : Bs) (a : Int) : Lx:=match cZ s a with
 | .tok 0 _ _ _ _=>.err 10 s.length
 | x=>x
def vP : Lx→dX
 | .tok k a e n t=>.ret (dW k a e n t)
 | .err c p=>.panic (wR c p)
def vJ : Option TypeDesc→Bool
 | some (.interface _)=>true
 | _=>false
@[go_sem] theorem XA {e : _} : vJ (some (.interface e))=true:=rfl
theorem qw {o : Option TypeDesc} (h : vJ o=true) : ∃ e,o=some (.interface e):=by
 unfold vJ at h
 split at h
 ·exact ⟨_,rfl⟩
 ·cases h
section
variable {P : Program} {t u : TypeId} {x : Operand} {v : VV} {w : Value} {σ : Store}
@[go_sem] theorem aaJ (h : vJ (P.underlying t)=true) : kU P .eql t x (.const w) (.ifc u v) .nili σ=okV (.bool false) σ:=by
 obtain ⟨e,he⟩:=qw h;simp [kU,VV.ql,VV.fC,VV.isAgg,CO,he,okV]
@[go_sem] theorem aaU (h : vJ (P.underlying t)=true) : kU P .neq t x (.const w) (.ifc u v) .nili σ=okV (.bool true) σ:=by
 obtain ⟨e,he⟩:=qw h;simp [kU,VV.ql,VV.fC,VV.isAgg,CO,he,okV]
@[go_sem] theorem aa2 (h : vJ (P.underlying t)=true) : kU P .eql t x (.const w) .nili .nili σ=okV (.bool true) σ:=by
 obtain ⟨e,he⟩:=qw h;simp [kU,VV.ql,VV.fC,VV.isAgg,CO,he,okV,qC]
@[go_sem] theorem aaW (h : vJ (P.underlying t)=true) : kU P .neq t x (.const w) .nili .nili σ=okV (.bool false) σ:=by
 obtain ⟨e,he⟩:=qw h;simp [kU,VV.ql,VV.fC,VV.isAgg,CO,he,okV,qC]
end
theorem kE (e a : Int) : (dL e a).aF=true:=by unfold dL;split<;>rfl
theorem oW {e : Int} (a : Int) (h : e≠0) : ∃ v,dL e a=.ifc 135 v:=by unfold dL;rw [if_neg h];exact ⟨_,rfl⟩
theorem kK {s : Bs} {a : Int} {c p : Nat} (h : cZ s a=.err c p) : c≠0:=by
 unfold cZ at h
 split at h
 ·cases h;decide
 ·unfold nZ at h
  split at h
  ·cases h
  ·unfold Ik at h
   split at h
   ·split at h
    ·cases h
    ·rename_i hh;cases h;exact hh
   ·split at h
    ·cases h
    ·split at h
     ·split at h
      ·cases h
      ·rename_i hh;cases h;exact hh
     ·split at h
      ·cases h
      ·cases h;decide
theorem jo (c p : Int) (σ : Store) : CV Tryz.prog G0 96 [.int .i64 c,.int .i64 p] σ fun r σ'=>r=.panic (wR c p)∧σ'=σ:=by
 refine cv e96 (by simp) ?_
 have h1:=eH (kE c p)
 have h2:=cellC (kE c p)
 have h3:=kE c p
 simp only [go_sem,seval] at h1
 simp only [go_sem,seval] at h2
 simp only [go_sem,seval] at h3
 simp only [go_sem,seval,c96]
 refine ah (wK c p) ?_<;>simp only [go_sem,seval,h1,h2,h3]
 rfl
theorem Fb (id : Nat) (seed bits : Int) (s : Bs) (a : Int) (n : Nat) (σ : Store) (hσ : σ[id]?=some (RD seed bits s a n)) (ha : -9223372036854775808≤a∧a≤9223372036854775807) (hs : s.length≤10000000) :
  CV Tryz.prog G0 136 [.mptr id 0] σ fun r σ'=>r=vP (aT s a)∧Ch (fun _=>False) σ σ':=by
 refine cv e136 (by simp) ?_
 have hid:=(List.getElem?_eq_some_iff.1 hσ).1
 have hσ' : ∀ τ,(σ++τ)[id]?=some (RD seed bits s a n):=fun τ=>by rw [List.getElem?_append_left hid];exact hσ
 unfold RD at hσ'
 simp only [go_sem,seval,c136,hσ',SS]
 have hN:=P9 s a ha hs
 unfold aT
 cases hL : cZ s a with
 | err c p =>
  rw [hL] at hN
  obtain ⟨v,hv⟩:=oW (e:=c) p (by have:=kK hL;omega)
  simp only [X4,hv] at hN
  refine fZ (hN) ?_<;>simp only [go_sem,seval,hσ',SS,oU,dW]
  simp only [go_sem,seval,vP,wR,hv]
  exact .snoc _ _ _
 | tok k x e i t =>
  rw [hL] at hN
  simp only [X4,dW] at hN
  refine fZ (hN) ?_<;>simp only [go_sem,seval,hσ',SS]
  refine aj (fun hc=>?_) (fun hc=>?_)
  ·have hk : k=0:=by simp at hc;omega
   subst hk
   simp only [go_sem,seval,hσ',SS]
   refine CV.mono (jo 10 s.length _) ?_
   rintro _ σ' ⟨rfl,rfl⟩
   simp only [go_sem,seval,aO]
   exact ⟨rfl,.snoc _ _ _⟩
  ·have hk : k≠0:=by simp at hc;omega
   simp only [go_sem,seval,hσ',SS]
   refine ⟨?_,.snoc _ _ _⟩
   cases k with
   | zero=>exact absurd rfl hk
   | succ k=>rfl
def Gone (id : Nat) (seed bits : Int) (s : Bs) (n : Nat) (e : Int) (σ σ' : Store) : Prop:=Ch (·=id) σ σ'∧σ'[id]?=some (RD seed bits s e n)
theorem Ei {s : Bs} {a : Int} {k x e : Nat} {i : Int} {t : Bs} (h : aT s a=.tok k x e i t) : k≠0∧cZ s a=.tok k x e i t:=by
 unfold aT at h
 cases hL : cZ s a with
 | err c p=>rw [hL] at h;cases h
 | tok k' x' e' i' t' =>
  rw [hL] at h
  cases k' with
  | zero=>cases h
  | succ k'=>cases h;exact ⟨by omega,rfl⟩
theorem QJ (id : Nat) (seed bits : Int) (s : Bs) (a : Int) (n : Nat) (σ : Store) (hσ : σ[id]?=some (RD seed bits s a n)) (ha : -9223372036854775808≤a∧a≤9223372036854775807) (hs : s.length≤10000000) :
  CV Tryz.prog G0 94 [.mptr id 0] σ fun r σ'=>r=vP (aT s a)∧Ch (·=id) σ σ'∧(∀ k x e i t,aT s a=.tok k x e i t→Gone id seed bits s n e σ σ'):=by
 refine cv e94 (by simp) ?_
 have hid:=(List.getElem?_eq_some_iff.1 hσ).1
 simp only [go_sem,seval,c94,SS]
 refine CV.mono (Fb id seed bits s a n _ (by rw [List.getElem?_append_left hid];exact hσ) ha hs) ?_
 rintro _ σ1 ⟨rfl,hC⟩
 have hσ1 : σ1[id]?=some (RD seed bits s a n):=by rw [hC.same id (by simp;omega) (by simp),List.getElem?_append_left hid];exact hσ
 cases hL : aT s a with
 | err c p =>
  simp only [go_sem,seval,vP,aO]
  refine ⟨(hC.app).mono (fun _ h=>h.elim), ?_⟩
  intro k x e i t h
  cases h
 | tok k x e i t =>
  have hlen:=hC.len
  simp only [List.length_append,List.length_cons,List.length_nil] at hlen
  have hz : σ1[σ.length]?=some (.own [.int .i64 0,.int .i64 0,.int .i64 0,.int .i64 0,.str []]):=by rw [hC.same _ (by simp) (by simp)];simp
  obtain ⟨σ2,h2⟩ : ∃ σ2,σ2=σ1++[Obj.own [.int .i64 k,.int .i64 x,.int .i64 e,.int .i64 i,.str t]]:=⟨_,rfl⟩
  have g0 : σ2.length=σ1.length+1:=by rw [h2];simp
  have g1 : σ2[id]?=some (RD seed bits s a n):=by rw [h2,List.getElem?_append_left (by omega)];exact hσ1
  have g2 : σ2[σ.length]?=some (.own [.int .i64 0,.int .i64 0,.int .i64 0,.int .i64 0,.str []]):=by rw [h2,List.getElem?_append_left (by omega)];exact hz
  have g3 : σ2[σ1.length]?=some (.own [.int .i64 k,.int .i64 x,.int .i64 e,.int .i64 i,.str t]):=by rw [h2];simp
  have g4 : ∀ j,j < σ.length→j≠id→σ2[j]?=σ[j]?:=fun j hj hne=>by rw [h2,List.getElem?_append_left (by omega),hC.same j (by simp;omega) (by simp),List.getElem?_append_left hj]
  unfold RD at g1
  simp only [go_sem,seval,vP,aO,dW,SS,← h2,g1,g3]
  obtain ⟨σ3,h3⟩ : ∃ σ3,σ3=σ2.set id (RD seed bits s e n):=⟨_,rfl⟩
  have k0 : σ3.length=σ1.length+1:=by rw [h3];simp [g0]
  have k1 : σ3[id]?=some (RD seed bits s e n):=by rw [h3,List.getElem?_set_self (by omega)]
  have k2 : σ3[σ.length]?=some (.own [.int .i64 0,.int .i64 0,.int .i64 0,.int .i64 0,.str []]):=by rw [h3,List.getElem?_set_ne (by omega)];exact g2
  have k3 : σ3[σ1.length]?=some (.own [.int .i64 k,.int .i64 x,.int .i64 e,.int .i64 i,.str t]):=by rw [h3,List.getElem?_set_ne (by omega)];exact g3
  have k4 : ∀ j,j < σ.length→j≠id→σ3[j]?=σ[j]?:=fun j hj hne=>by rw [h3,List.getElem?_set_ne (by omega)];exact g4 j hj hne
  unfold RD at h3
  have k5 : σ.length < σ3.length:=by omega
  simp only [go_sem,seval,← h3,k2,k3,List.getElem?_set_self k5]
  have hch : Ch (·=id) σ (σ3.set σ.length (.own [.int .i64 k,.int .i64 x,.int .i64 e,.int .i64 i,.str t])):=⟨by simp;omega,fun j hj hne=>by rw [List.getElem?_set_ne (by omega)];exact k4 j hj hne⟩
  refine ⟨hch, ?_⟩
  rintro k' x' e' i' t' hh
  cases hh
  exact ⟨hch,by rw [List.getElem?_set_ne (by omega)];exact k1⟩
end Go.V
