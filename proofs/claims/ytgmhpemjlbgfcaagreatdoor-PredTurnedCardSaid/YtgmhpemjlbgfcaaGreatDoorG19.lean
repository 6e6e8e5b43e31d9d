/- Texts F22 F23 F24 F25 F27 F28. -/
import Derived.Test.YtgmhpemjlbgfcaaGreatDoorG18
set_option linter.unusedVariables false
set_option linter.unusedSimpArgs false
namespace Go.V
open Go.Proofs
set_option maxRecDepth 100000
theorem RP.cell {v : VV} {xs : List (List VV)} (h : RP v xs) : v.aC=true:=by
 rcases h with ⟨rfl,_⟩ | ⟨d,h⟩
 ·rfl
 ·exact h.cell
theorem KU (root : VV) (xs : List (List VV)) (h : RP root xs) : PV Tryz.prog G0 95 [.agg [root]] (.fn (.func 141) [] [.ptr [root] 0]):=by
 have hp:=h.pure
 refine pv e95 (by simp) (by simp [VV.ak,VV.isPure,hp]) (by simp [VV.ak,VV.isPure,hp]) ?_
 have hc:=h.cell
 simp only [go_sem,seval] at hc
 simp only [go_sem,seval,c95,hc]
 refine ⟨_,2,rfl, ?_⟩
 simp only [fz,VV.isPure,VV.ak]
 simp [fz,VV.isPure,VV.ak,Obj.fr,hp]
theorem Ig (root : VV) (xs : List (List VV)) (h : RP root xs) (fv : VV) (J : Nat→DS→Store→Prop) (D : DS) (σ : Store) (hl : xs.length≤1000000) (hC : Cls fv J (tK xs 0) 0 xs.length (.bool true)) (hJ : J 0 D σ) :
  CV Tryz.prog G0 141 [fv,.ptr [root] 0] σ fun c σ'=>c=.ret (.tup [])∧Done J xs.length D σ σ':=by
 refine cv e141 (by simp) ?_
 rcases h with ⟨rfl,rfl⟩ | ⟨d,h⟩
 ·simp only [go_sem,seval,c141]
  exact .refl hJ
 ·obtain ⟨a,b,hr⟩:=h.cells
  have:=Ut d root xs 0 fv J D σ h (by omega) (by simpa using hC) hJ
  subst hr
  simp only [go_sem,seval,c141]
  refine CV.mono this ?_
  rintro _ σ' ⟨rfl,h1⟩
  simp only [go_sem,seval,gZ]
  simpa using h1
def Zk (sk si : Int) (st : Bs) (k : Int) (root : VV) (seed bits n : Int) (hr : VV) (below more : Int) : VV :=
 .agg [.int .i64 sk,.int .i64 si,.str st,.int .i64 k,root,.int .u64 seed,.int .i64 bits,.int .i64 n,hr,.int .i64 below,.int .i64 more]
def tN (xs : List (List VV)) (i : Nat) (args : List VV) : Prop:=args=[.agg [.int .i64 0,.int .i64 i,.str []],.agg (xs.getD i [])]
theorem KT {xs : List (List VV)} {i : Nat} (h : i < xs.length) : tN xs i [.agg [.int .i64 0,.int .i64 i,.str []],.agg xs[i]]:=by
 simp [tN,List.getD_eq_getElem?_getD,h]
theorem tu (sk si : Int) (st : Bs) (root : VV) (xs : List (List VV)) (h : RP root xs) (seed bits m : Int) (hr : VV) (hhr : hr.aC=true) (below more : Int) (g : FuncId) (hg : ay Tryz.prog g=true) (caps : List VV) (J : Nat→DS→Store→Prop) (D : DS) (σ : Store) (hl : xs.length≤1000000)
  (hC : Cls (.fn (.func g) [] caps) J (tN xs) 0 xs.length (.tup [])) (hJ : J 0 D σ) :
  CV Tryz.prog G0 49 [Zk sk si st 4 root seed bits m hr below more,.fn (.func g) [] caps] σ fun c σ'=>c=.ret (.tup [])∧Done J xs.length D σ σ':=by
 refine cv e49 (by simp) ?_
 have hc:=h.cell
 simp only [go_sem,seval] at hc
 simp only [go_sem,seval] at hhr
 simp only [go_sem,seval,c49,Zk,hc,hhr,SS]
 refine ah (KU root xs h) ?_<;>simp only [go_sem,seval,SS]
 intro l hl'
 obtain ⟨L,hL⟩ : ∃ L,L=σ.length:=⟨_,rfl⟩
 rw [← hL]
 have hdom:=hC.dom _ _ _ hJ
 refine CV.mono (Ig root xs h (.yield (L+3)) (fun i D' τ=>∃ D,(∀ id,D' id↔D id∨(L≤id∧id < L+4))∧(∀ id,L≤id→id < L+4→¬ D id)∧J i D τ∧L+4≤τ.length∧τ[L+1]?=some (.own [.fn (.func g) [] caps])∧(∃ j : Int,τ[L+2]?=some (.own [.int .i64 0,.int .i64 j,.str []]))∧τ[L+3]?=some (.loop l))
  (fun id=>D id∨(L≤id∧id < L+4)) _ hl ⟨?_, ?_, ?_⟩ ⟨D,fun _=>.rfl,fun id h1 h2 h3=>by have:=hdom id h3;omega,hC.snoc hJ _,by simp [hL],by simp [hL],⟨0,by simp [hL]⟩,by simp [hL]⟩) ?_
 ·rintro i D' τ ⟨D,d1,d2,h1,h2,_⟩ id hid
  rcases (d1 id).1 hid with h | h
  ·exact hC.dom _ _ _ h1 id h
  ·omega
 ·rintro i D' τ τ' ⟨D,d1,d2,h1,h2,h3,⟨j,h4⟩,h5⟩ hlow
  have hs : ∀ id,L≤id→id < L+4→τ'[id]?=τ[id]?:=fun id a b=>hlow.same id ((d1 id).2 (.inr ⟨a,b⟩))
  exact ⟨D,d1,d2,hC.low _ _ _ _ h1 ⟨hlow.len,fun id hid=>hlow.same id ((d1 id).2 (.inl hid))⟩,Nat.le_trans h2 hlow.len,(hs _ (by omega) (by omega)).trans h3,⟨j,(hs _ (by omega) (by omega)).trans h4⟩,(hs _ (by omega) (by omega)).trans h5⟩
 ·rintro i D' τ args _ hi hit ⟨D,d1,d2,h1,h2,h3,⟨j,h4⟩,h5⟩
  have e : tK xs 0 i [.int .i64 i,.agg xs[i]]:=by have:=AA (a:=0) hi;simpa using this
  obtain rfl : args=[.int .i64 i,.agg xs[i]]:=by unfold tK at hit e;rw [hit,e]
  have hB:=h.blk
  have c7 : xs[i].length=11:=hB.len _ (List.getElem_mem _)
  have c8 : xs[i].all VV.aC=true:=hB.cell _ (List.getElem_mem _)
  have c9 : xs[i].take 11=xs[i]:=List.take_of_length_le (by omega)
  refine DV mix h5 hl' rfl (by decide) ?_
  simp only [go_sem,seval,oK,SS,c7,c8,c9]
  refine ⟨by rw [List.getElem?_append_left (by omega)];exact h5, ?_⟩
  rw [← hL]
  have hdomt:=hC.dom _ _ _ h1
  obtain ⟨τ1,hτ1⟩ : ∃ τ1,τ1=(τ++[Obj.own xs[i]]).set (L+3) (.loop { l with state:=.busy }):=⟨_,rfl⟩
  rw [← hτ1]
  have j1 : J i D τ1:=by rw [hτ1];exact hC.low _ _ _ _ (hC.snoc h1 _) (.set (d2 _ (by omega) (by omega)))
  have g0 : τ1.length=τ.length+1:=by rw [hτ1];simp
  have g1 : τ1[L+1]?=some (.own [.fn (.func g) [] caps]):=by rw [hτ1,List.getElem?_set_ne (by omega),List.getElem?_append_left (by omega)];exact h3
  have g2 : τ1[L+2]?=some (.own [.int .i64 0,.int .i64 j,.str []]):=by rw [hτ1,List.getElem?_set_ne (by omega),List.getElem?_append_left (by omega)];exact h4
  have g3 : τ1[L+3]?=some (.loop { l with state:=.busy }):=by rw [hτ1,List.getElem?_set_self (by simp;omega)]
  have g4 : τ1[τ.length]?=some (.own xs[i]):=by rw [hτ1,List.getElem?_set_ne (by omega)];simp
  have g6 : ∀ id,id < τ.length→id≠L+3→τ1[id]?=τ[id]?:=fun id h1 h2=>by rw [hτ1,List.getElem?_set_ne (by omega),List.getElem?_append_left (by omega)]
  clear hτ1
  simp only [go_sem,seval,g2,SS]
  obtain ⟨τ2,hτ2⟩ : ∃ τ2,τ2=τ1.set (L+2) (.own [.int .i64 0,.int .i64 i,.str []]):=⟨_,rfl⟩
  rw [← hτ2]
  have j2 : J i D τ2:=by rw [hτ2];exact hC.low _ _ _ _ j1 (.set (d2 _ (by omega) (by omega)))
  have k0 : τ2.length=τ.length+1:=by rw [hτ2];simp [g0]
  have k1 : τ2[L+1]?=some (.own [.fn (.func g) [] caps]):=by rw [hτ2,List.getElem?_set_ne (by omega)];exact g1
  have k2 : τ2[L+2]?=some (.own [.int .i64 0,.int .i64 i,.str []]):=by rw [hτ2,List.getElem?_set_self (by omega)]
  have k3 : τ2[L+3]?=some (.loop { l with state:=.busy }):=by rw [hτ2,List.getElem?_set_ne (by omega)];exact g3
  have k4 : τ2[τ.length]?=some (.own xs[i]):=by rw [hτ2,List.getElem?_set_ne (by omega)];exact g4
  have k6 : ∀ id,id < τ.length→id≠L+3→id≠L+2→τ2[id]?=τ[id]?:=fun id h1 h2 h3=>by rw [hτ2,List.getElem?_set_ne (by omega)];exact g6 id h1 h2
  clear hτ2
  simp only [go_sem,seval,k1,k2,k4,c7,c8,c9,SS]
  refine kC (hC.call i D τ2 _ (by omega) hi (KT hi) j2) ?_
  rintro _ τ3 ⟨rfl,D3,hJ3,hG3,hH3⟩
  simp only [go_sem,seval,gZ,pI]
  have hD3 : ∀ id,L≤id→id < L+4→¬ D3 id:=fun id a b c=>by
   rcases hG3 id c with c | c
   ·exact d2 id a b c
   ·omega
  have m0:=hH3.len
  have m3:=(hH3.same (L+3) (by omega) (d2 _ (by omega) (by omega))).trans k3
  refine ⟨m3,fun id=>D3 id∨(L≤id∧id < L+4),⟨D3,fun _=>.rfl,hD3,hC.low _ _ _ _ hJ3 (.set (hD3 _ (by omega) (by omega))),by simp;omega, ?_,⟨i, ?_⟩, ?_⟩,fun id hid=>?_,⟨by simp;omega,fun id a b=>?_⟩⟩
  ·rw [List.getElem?_set_ne (by omega),hH3.same _ (by omega) (d2 _ (by omega) (by omega))];exact k1
  ·rw [List.getElem?_set_ne (by omega),hH3.same _ (by omega) (d2 _ (by omega) (by omega))];exact k2
  ·rw [List.getElem?_set_self (by omega)]
  ·rcases hid with hid | hid
   ·rcases hG3 id hid with h | h
    ·exact .inl ((d1 id).2 (.inl h))
    ·exact .inr (by omega)
   ·exact .inl ((d1 id).2 (.inr hid))
  ·have b' : ¬ D id∧¬ (L≤id∧id < L+4):=⟨fun h=>b ((d1 id).2 (.inl h)),fun h=>b ((d1 id).2 (.inr h))⟩
   rw [List.getElem?_set_ne (by omega),hH3.same _ (by omega) b'.1,k6 id a (by omega) (by omega)]
 ·rintro _ τ ⟨rfl,D',⟨D2,d1,d2,h1,h2,h3,⟨j,h4⟩,h5⟩,hG,hH⟩
  refine ⟨l,h5,by rw [hl'.st];simp, ?_⟩
  rw [hl'.pe]
  simp only [go_sem,seval,xq]
  refine ⟨D2,hC.low _ _ _ _ h1 (.set (d2 _ (by omega) (by omega))),fun id hid=>?_,⟨by simp;omega,fun id a b=>?_⟩⟩
  ·rcases hG id ((d1 id).2 (.inl hid)) with (h | h) | h
   ·exact .inl h
   ·exact .inr (by omega)
   ·refine .inr ?_
    simp only [List.length_append] at h;omega
  ·rw [List.getElem?_set_ne (by omega),hH.same id (by simp;omega) (fun h=>h.elim b (fun h=>by omega)),List.getElem?_append_left a]
end Go.V
namespace Go.V
open Go.Proofs
set_option maxRecDepth 100000
structure Vl where
 sk : Int
 si : Int
 st : Bs
 k : Int
 root : VV
 seed : Int
 bits : Int
 n : Int
 hr : VV
 below : Nat
 more : Nat
def Vl.cells (x : Vl) : List VV:=[.int .i64 x.sk,.int .i64 x.si,.str x.st,.int .i64 x.k,x.root,.int .u64 x.seed,.int .i64 x.bits,.int .i64 x.n,x.hr,.int .i64 x.below,.int .i64 x.more]
def Vl.vv (x : Vl) : VV:=.agg x.cells
structure Vl.ok (x : Vl) : Prop where
 rp : x.root.isPure=true
 rc : x.root.aC=true
 hp : x.hr.isPure=true
 hc : x.hr.aC=true
 hb : x.below≤1000000
 hm : x.more≤1000000
theorem Vl.ok.pure {x : Vl} (h : x.ok) : VV.ak x.cells=true:=by simp [Vl.cells,VV.ak,VV.isPure,h.rp,h.hp]
theorem Vl.ok.cell {x : Vl} (h : x.ok) : aQ x.cells=true:=by
 have h1:=h.rc
 have h2:=h.hc
 simp only [Vl.cells,aQ,List.all_cons,List.all_nil,h1,h2];rfl
theorem Vl.ok.blk {x : Vl} (h : x.ok) : dh 11 [x.cells]:=⟨by simp [Vl.cells],by simp [h.pure],by simp [h.cell]⟩
def Vl.zero : Vl:=⟨0,0,[],0,.nilp,0,0,0,.nilp,0,0⟩
theorem PZ (x : Vl) (h : x.ok) : PV Tryz.prog G0 209 [x.vv] (.int .i64 (x.below+1 : Nat)):=by
 refine pv e209 (by simp) (by simp [VV.ak,VV.isPure,Vl.vv,h.pure]) rfl ?_
 have h1:=h.rc
 have h2:=h.hc
 have h3:=h.hb
 simp only [go_sem,seval] at h1
 simp only [go_sem,seval] at h2
 have e1 : IntKind.i64.wrap ((x.below : Int)+1)=((x.below+1 : Nat) : Int):=by rw [iw (by omega)];omega
 simp only [go_sem,seval,c209,Vl.vv,Vl.cells,h1,h2,e1]
 exact fin (by rfl) rfl
theorem Rf (x : Vl) (h : x.ok) : PV Tryz.prog G0 210 [x.vv] (.int .i64 (x.more+1 : Nat)):=by
 refine pv e210 (by simp) (by simp [VV.ak,VV.isPure,Vl.vv,h.pure]) rfl ?_
 have h1:=h.rc
 have h2:=h.hc
 have h3:=h.hm
 simp only [go_sem,seval] at h1
 simp only [go_sem,seval] at h2
 have e1 : IntKind.i64.wrap ((x.more : Int)+1)=((x.more+1 : Nat) : Int):=by rw [iw (by omega)];omega
 simp only [go_sem,seval,c210,Vl.vv,Vl.cells,h1,h2,e1]
 exact fin (by rfl) rfl
theorem Bf (root : VV) (xs : List (List VV)) (h : RP root xs) : PV Tryz.prog G0 85 [.agg [root]] (.int .i64 xs.length):=by
 have hp:=h.pure
 refine pv e85 (by simp) (by simp [VV.ak,VV.isPure,hp]) rfl ?_
 rcases h with ⟨rfl,rfl⟩ | ⟨d,h⟩
 ·simp only [go_sem,seval,c85]
  exact fin (by rfl) rfl
 ·obtain ⟨a,b,rfl⟩:=h.cells
  simp only [go_sem,seval,c85]
  exact fin (by rfl) rfl
theorem Ba (seed bits n : Int) (hr : VV) (hp : hr.isPure=true) (hc : hr.aC=true) : PV Tryz.prog G0 86 [.agg [.int .u64 seed,.int .i64 bits,.int .i64 n,hr]] (.int .i64 n):=by
 refine pv e86 (by simp) (by simp [VV.ak,VV.isPure,hp]) rfl ?_
 simp only [go_sem,seval] at hc
 simp only [go_sem,seval,c86,hc]
 exact fin (by rfl) rfl
theorem O7 (x : Vl) (h : x.ok) (xs : List (List VV)) (hR : RP x.root xs) (n : Nat) (hn : x.n=n) (hl : xs.length+n≤1000000) : PV Tryz.prog G0 43 [x.vv] (.int .i64 (xs.length+n : Nat)):=by
 refine pv e43 (by simp) (by simp [VV.ak,VV.isPure,Vl.vv,h.pure]) rfl ?_
 have h1:=h.rc
 have h2:=h.hc
 simp only [go_sem,seval] at h1
 simp only [go_sem,seval] at h2
 have e1 : IntKind.i64.wrap ((xs.length : Int)+(n : Int))=((xs.length+n : Nat) : Int):=by rw [iw (by omega)];omega
 simp only [go_sem,seval,c43,Vl.vv,Vl.cells,h1,h2,hn]
 refine aj (Bf _ _ hR) (by simp only [go_sem,seval,h1,h2,hn]) ?_<;>simp only [go_sem,seval,h1,h2,hn]
 refine aj (Ba x.seed x.bits n x.hr h.hp h.hc) (by simp only [go_sem,seval,h1,h2,hn,e1]) ?_<;>simp only [go_sem,seval,h1,h2,hn,e1]
 exact fin (by rfl) rfl
end Go.V
namespace Go.V
open Go.Proofs
set_option maxRecDepth 100000
theorem iq {v : VV} (h : v.aC=true) : v.uD=false:=by cases v<;>first | rfl | cases h
theorem cellC {v : VV} (h : v.aC=true) : v.cells=[v]:=by cases v<;>first | rfl | cases h
end Go.V
namespace Go.V
open Go.Proofs
set_option maxRecDepth 100000
structure Ch (S : Nat→Prop) (σ σ' : Store) : Prop where
 len : σ.length≤σ'.length
 same : ∀ id,id < σ.length→¬ S id→σ'[id]?=σ[id]?
theorem Ch.refl (S : Nat→Prop) (σ : Store) : Ch S σ σ:=⟨Nat.le_refl _,fun _ _ _=>rfl⟩
theorem Ch.trans {S : Nat→Prop} {a b c : Store} (h : Ch S a b) (h' : Ch S b c) : Ch S a c:=⟨Nat.le_trans h.len h'.len,fun id h1 h2=>(h'.same id (Nat.lt_of_lt_of_le h1 h.len) h2).trans (h.same id h1 h2)⟩
theorem Ch.mono {S S' : Nat→Prop} {a b : Store} (h : Ch S a b) (hs : ∀ i,S i→S' i) : Ch S' a b:=⟨h.len,fun id h1 h2=>h.same id h1 fun h3=>h2 (hs id h3)⟩
theorem Ch.snoc (S : Nat→Prop) (σ τ : Store) : Ch S σ (σ++τ):=⟨by simp,fun id h _=>List.getElem?_append_left h⟩
theorem Ch.app {S : Nat→Prop} {σ σ' τ : Store} (h : Ch S (σ++τ) σ') : Ch S σ σ':=(Ch.snoc S σ τ).trans h
theorem Ch.set {S : Nat→Prop} {σ : Store} {id : Nat} {o : Obj} (h : S id) : Ch S σ (σ.set id o):=⟨by simp,fun j _ hj=>List.getElem?_set_ne (fun e=>by subst e;exact hj h)⟩
def Nc (s : Bs) (a : Int) : Lx:=match Cj s a with
 | .tok 0 _ _ _ _=>.err 10 s.length
 | x=>x
def Ul : Option TypeDesc→Bool
 | some (.interface _)=>true
 | _=>false
@[go_sem] theorem Tc {e : _} : Ul (some (.interface e))=true:=rfl
theorem Kt {o : Option TypeDesc} (h : Ul o=true) : ∃ e,o=some (.interface e):=by
 unfold Ul at h
 split at h
 ·exact ⟨_,rfl⟩
 ·cases h
section
variable {P : Program} {t u : TypeId} {x : Operand} {v : VV} {w : Value} {σ : Store}
@[go_sem] theorem aaP (h : Ul (P.underlying t)=true) : lV P .eql t x (.const w) (.ifc u v) .nili σ=okV (.bool false) σ:=by
 obtain ⟨e,he⟩:=Kt h;simp [lV,VV.tZ,VV.gK,VV.isAgg,Ci,he,okV]
@[go_sem] theorem aaU (h : Ul (P.underlying t)=true) : lV P .neq t x (.const w) (.ifc u v) .nili σ=okV (.bool true) σ:=by
 obtain ⟨e,he⟩:=Kt h;simp [lV,VV.tZ,VV.gK,VV.isAgg,Ci,he,okV]
@[go_sem] theorem aaR (h : Ul (P.underlying t)=true) : lV P .eql t x (.const w) .nili .nili σ=okV (.bool true) σ:=by
 obtain ⟨e,he⟩:=Kt h;simp [lV,VV.tZ,VV.gK,VV.isAgg,Ci,he,okV,vK]
@[go_sem] theorem aaT (h : Ul (P.underlying t)=true) : lV P .neq t x (.const w) .nili .nili σ=okV (.bool false) σ:=by
 obtain ⟨e,he⟩:=Kt h;simp [lV,VV.tZ,VV.gK,VV.isAgg,Ci,he,okV,vK]
end
end Go.V
namespace Go.V
open Go.Proofs
set_option maxRecDepth 100000
def maxD (l : List Vl) : Nat:=l.foldl (fun m x=>max m (x.below+1)) 0
def dw (l : List Vl) : Nat:=l.foldl (fun m x=>m+(x.more+1)) 0
theorem Lr (l : List Vl) (x : Vl) : maxD (l++[x])=max (maxD l) (x.below+1):=by simp [maxD]
theorem KF (l : List Vl) (x : Vl) : dw (l++[x])=dw l+(x.more+1):=by simp [dw]
theorem jH (l : List Vl) (i : Nat) (h : i < l.length) : dw (l.take (i+1))=dw (l.take i)+(l[i].more+1):=by rw [List.take_succ_eq_append_getElem h,KF]
theorem jG (l : List Vl) (i : Nat) (h : i < l.length) : maxD (l.take (i+1))=max (maxD (l.take i)) (l[i].below+1):=by rw [List.take_succ_eq_append_getElem h,Lr]
theorem Yy (l m : List Vl) : dw (l++m)=dw l+dw m:=by
 have key : ∀ (m : List Vl) (a : Nat),m.foldl (fun m x=>m+(x.more+1)) a=a+m.foldl (fun m x=>m+(x.more+1)) 0:=by
  intro m
  induction m with
  | nil=>intro a;rfl
  | cons x m ih=>intro a;rw [List.foldl_cons,List.foldl_cons,ih,ih (0+_)];omega
 unfold dw
 rw [List.foldl_append,key]
theorem kT (l : List Vl) (i : Nat) : dw (l.take i)≤dw l:=by
 conv=>rhs;rw [← List.take_append_drop i l,Yy]
 omega
theorem kR (l : List Vl) (i : Nat) : maxD (l.take i)≤maxD l:=by
 have key : ∀ (m : List Vl) (a : Nat),a≤m.foldl (fun m x=>max m (x.below+1)) a:=by
  intro m
  induction m with
  | nil=>intro a;exact Nat.le_refl _
  | cons x m ih=>intro a;exact Nat.le_trans (Nat.le_max_left _ _) (ih _)
 conv=>rhs;rw [← List.take_append_drop i l]
 unfold maxD
 rw [List.foldl_append]
 exact key _ _
section
variable {σ τ : Store} {id : Nat} {o o' a b c : Obj}
theorem BJ (h : id < σ.length) : (σ++τ).set id o=σ.set id o++τ:=by rw [List.set_append];simp [h]
theorem Dj (h : id < σ.length) : (σ.set id o++τ)[id]?=some o:=by rw [List.getElem?_append_left (by simpa using h)];simp [h]
theorem xY (h : id < σ.length) : (σ.set id o++τ).set id o'=σ.set id o'++τ:=by rw [List.set_append];simp [h]
theorem yg : (σ.set id o++a::τ)[σ.length]?=some a:=by rw [List.getElem?_append_right (by simp)];simp
theorem xK : (σ.set id o++a::b::τ)[σ.length+1]?=some b:=by rw [List.getElem?_append_right (by simp)];simp
end
theorem yT (id : Nat) (x y : Vl) (hx : x.ok) (hy : y.ok) (hm : x.more+y.more+1≤1000000) (hb : y.below+1≤1000000) (kd i : Int) (t : Bs) (σ : Store) (hσ : σ[id]?=some (.own x.cells)) :
  CV Tryz.prog G0 208 [.agg [.int .i64 kd,.int .i64 i,.str t],y.vv,.mptr id 0] σ fun c σ'=>c=.ret (.tup [])∧σ'[id]?=some (.own ({ x with below:=max x.below (y.below+1),more:=x.more+(y.more+1) } : Vl).cells)∧High (·=id) σ σ':=by
 have hlt:=(List.getElem?_eq_some_iff.1 hσ).1
 have h1:=hx.rc
 have h2:=hx.hc
 have h3:=hy.rc
 have h4:=hy.hc
 simp only [go_sem,seval] at h1
 simp only [go_sem,seval] at h2
 simp only [go_sem,seval] at h3
 simp only [go_sem,seval] at h4
 have hσ' : ∀ τ,(σ++τ)[id]?=some (.own x.cells):=fun τ=>by rw [List.getElem?_append_left hlt];exact hσ
 unfold Vl.cells at hσ'
 refine cv e208 (by simp) ?_
 have e0 : (if ((y.below+1 : Nat) : Int) > (x.below : Int) then ((y.below+1 : Nat) : Int) else (x.below : Int))=((max x.below (y.below+1) : Nat) : Int):=by split<;>omega
 have e2 : pU true (.int .i64 x.below) (.int .i64 (y.below+1 : Nat))=some (.int .i64 (max x.below (y.below+1) : Nat)):=by
  simp only [pU,if_true,e0]
 have e3 : IntKind.i64.wrap ((x.more : Int)+(y.more+1 : Nat))=((x.more+(y.more+1) : Nat) : Int):=by rw [iw (by omega)];omega
 simp only [go_sem,seval,c208,Vl.vv,Vl.cells,h1,h2,h3,h4,hσ',SS]
 refine aj (PZ y hy) (by simp only [go_sem,seval,h1,h2,h3,h4,hσ',e2,BJ hlt,Dj hlt,xY hlt,yg,xK,List.length_set,SS]) ?_<;>simp only [go_sem,seval,h1,h2,h3,h4,hσ',e2,BJ hlt,Dj hlt,xY hlt,yg,xK,List.length_set,SS]
 refine aj (Rf y hy) (by simp only [go_sem,seval,h1,h2,h3,h4,hσ',e3,BJ hlt,Dj hlt,xY hlt,yg,xK,List.length_set,SS]) ?_<;>simp only [go_sem,seval,h1,h2,h3,h4,hσ',e3,BJ hlt,Dj hlt,xY hlt,yg,xK,List.length_set,SS]
 exact ⟨by simp,fun j h1 h2=>by rw [List.getElem?_append_left (by simpa using h1),List.getElem?_set_ne (by omega)]⟩
theorem Aa (x : Vl) (hx : x.ok) (hk : x.k=4) (items : List Vl) (hi : ∀ y ∈ items,y.ok) (hR : RP x.root (items.map (·.cells))) (hl : items.length≤1000000) (hs : dw items≤1000000) (hd : maxD items≤1000000) :
  PV Tryz.prog G0 169 [x.vv] ({ x with below:=maxD items,more:=dw items } : Vl).vv:=by
 have hok : ({ x with below:=maxD items,more:=dw items } : Vl).ok:=⟨hx.rp,hx.rc,hx.hp,hx.hc,hd,hs⟩
 refine pv e169 (by simp) (by simp [VV.ak,VV.isPure,Vl.vv,hx.pure]) (by simp only [VV.isPure,Vl.vv];exact hok.pure) ?_
 have h1:=hx.rc
 have h2:=hx.hc
 simp only [go_sem,seval] at h1
 simp only [go_sem,seval] at h2
 simp only [go_sem,seval,c169,Vl.vv,Vl.cells,hk,h1,h2]
 have hlen : (items.map (·.cells)).length=items.length:=by simp
 refine CV.mono (tu x.sk x.si x.st x.root (items.map (·.cells)) hR x.seed x.bits x.n x.hr hx.hc 0 0 208 qV [.mptr 0 0]
  (fun i D σ'=>(∀ id,D id↔id=0)∧σ'[0]?=some (.own ({ x with below:=maxD (items.take i),more:=dw (items.take i) } : Vl).cells)) (·=0) _ (by rw [hlen];exact hl) ⟨?_, ?_, ?_⟩ ⟨fun _=>.rfl,by simp [Vl.cells,maxD,dw,hk]⟩) ?_
 ·rintro i D σ ⟨hD,h⟩ id hid
  obtain rfl:=(hD id).1 hid
  exact (List.getElem?_eq_some_iff.1 h).1
 ·rintro i D σ σ' ⟨hD,h⟩ hlow
  exact ⟨hD,by rw [hlow.same 0 ((hD 0).2 rfl)];exact h⟩
 ·rintro i D σ args _ hi' hst ⟨hD,h⟩
  rw [hlen] at hi'
  have hc:=yT 0 { x with below:=maxD (items.take i),more:=dw (items.take i) } items[i] ⟨hx.rp,hx.rc,hx.hp,hx.hc, ?_, ?_⟩ (hi _ (List.getElem_mem _)) ?_ ?_ 0 i [] σ h
  ·refine ⟨qV, ?_⟩
   have : args=[.agg [.int .i64 0,.int .i64 i,.str []],items[i].vv]:=by unfold tN at hst;rw [hst];simp [List.getD_eq_getElem?_getD,hi',Vl.vv]
   rw [this]
   refine CV.mono hc ?_
   rintro _ σ' ⟨rfl,a,b⟩
   refine ⟨rfl,D,⟨hD, ?_⟩,.refl _ _,⟨b.len,fun id h1 h2=>b.same id h1 (fun e=>h2 ((hD id).2 e))⟩⟩
   rw [a,jG _ _ hi',jH _ _ hi']
  ·have:=kR items i;simp only;omega
  ·have:=kT items i;simp only;omega
  ·have h1:=kT items (i+1)
   rw [jH _ _ hi'] at h1
   simp only;omega
  ·have h1:=kR items (i+1)
   rw [jG _ _ hi'] at h1
   omega
 ·rintro _ σ' ⟨rfl,D',⟨hD,h3⟩,hG,hH⟩
  rw [hlen,List.take_length] at h3
  have h4 : σ'[1]?=some (.own [.int .i64 0,.int .i64 0,.str [],.int .i64 0,.nilp,.int .u64 0,.int .i64 0,.int .i64 0,.nilp,.int .i64 0,.int .i64 0]):=by
   rw [hH.same 1 (by simp) (by simp)];simp
  have h5:=(List.getElem?_eq_some_iff.1 h4).1
  unfold Vl.cells at h3
  simp only [go_sem,seval,gZ,h1,h2,h3,h4,List.getElem?_set_self h5,hk]
  have:=hok.pure
  simp only [Vl.cells,hk] at this
  refine fin (by simp only [VV.isPure];exact this) rfl
end Go.V
namespace Go.V
open Go.Proofs
set_option maxRecDepth 100000
theorem EY {σ : Store} {n m : Int} (e : n=m) : ∃ z k,gY.ret (.int .i64 n)=gY.ret z∧fz k σ z=some (.int .i64 m):=by subst e;exact fin (by rfl) rfl
def qm (k i : Int) (t : Bs) : Int :=
 if k=3 then (if i=0 then 0 else 1)
 else if k=1 then (if t=[] then (if i=0∨i=1 then 0 else 4) else 1)
 else if k=2 then (if t=[] then 0 else 1)
 else if k=0 then (if i=0∧t=[] then 0 else 1)
 else 3
theorem Wv (k i k' i' : Int) (t t' : Bs) : Ci Tryz.prog 9 37 (.agg [.int .i64 k,.int .i64 i,.str t]) (.agg [.int .i64 k',.int .i64 i',.str t'])=some (k == k' && (i == i' && t == t')):=by
 rw [Ci.eq_def]
 simp only [OV,PD,List.foldr,partOf,L9,NJ,LV,List.getElem?_cons_zero,List.getElem?_cons_succ]
 rw [Ci.eq_def,Ci.eq_def,Ci.eq_def]
 simp [Qi,RI,QK]
theorem rZ (x y : Operand) (k i k' i' : Int) (t t' : Bs) (σ : Store) : lV Tryz.prog .neq 37 x y (.agg [.int .i64 k,.int .i64 i,.str t]) (.agg [.int .i64 k',.int .i64 i',.str t']) σ=okV (.bool (!(k == k' && (i == i' && t == t')))) σ:=by
 simp only [lV,VV.tZ,VV.gK,VV.isAgg,Om,Wv,Option.map_some,okV]
 rfl
theorem Ea (k i : Int) (t : Bs) : PV Tryz.prog G0 77 [.agg [.int .i64 k,.int .i64 i,.str t]] (.int .i64 (qm k i t)):=by
 refine pv e77 (by simp) rfl rfl ?_
 by_cases h3 : k=3
 ·subst h3
  by_cases hi : i=0
  ·subst hi
   have hE : (!((3 : Int) == 3 && ((0 : Int) == 0 && t == t)))=false:=by simp
   simp only [go_sem,seval,c77,rZ,hE]
   exact fin (by rfl) rfl
  ·have hE : (!((3 : Int) == 3 && ((0 : Int) == i && t == t)))=true:=by simp;exact fun h=>hi h.symm
   simp only [go_sem,seval] at hE
   simp only [go_sem,seval,c77,rZ,hE]
   refine EY ?_
   simp [qm,hi]
 have b3 : (k == 3)=false:=by simpa using h3
 by_cases h1 : k=1
 ·subst h1
  by_cases ht : t=[]
  ·subst ht
   have hE : (!((1 : Int) == 1 && (i == i && ([] : Bs) == [])))=false:=by simp
   by_cases hn : i < 0
   ·have hn' : decide (i < 0)=true:=by simpa using hn
    simp only [go_sem,seval,c77,rZ,hE,hn']
    refine EY ?_
    have : ¬ (i=0∨i=1):=by omega
    simp [qm,this]
   ·have hn' : decide (i < 0)=false:=by simpa using hn
    by_cases hm : 1 < i
    ·have hm' : decide (1 < i)=true:=by simpa using hm
     simp only [go_sem,seval,c77,rZ,hE,hn',hm']
     refine EY ?_
     have : ¬ (i=0∨i=1):=by omega
     simp [qm,this]
    ·have hm' : decide (1 < i)=false:=by simpa using hm
     simp only [go_sem,seval,c77,rZ,hE,hn',hm']
     refine EY ?_
     have : i=0∨i=1:=by omega
     simp [qm,this]
  ·have hE : (!((1 : Int) == 1 && (i == i && ([] : Bs) == t)))=true:=by simp;exact ht
   simp only [go_sem,seval] at hE
   simp only [go_sem,seval,c77,rZ,hE]
   refine EY ?_
   simp [qm,ht]
 have b1 : (k == 1)=false:=by simpa using h1
 by_cases h2 : k=2
 ·subst h2
  by_cases ht : t=[]
  ·subst ht
   have hE : (!((2 : Int) == 2 && (i == i && ([] : Bs) == [])))=false:=by simp
   simp only [go_sem,seval,c77,rZ,hE]
   exact fin (by rfl) rfl
  ·have hE : (!((2 : Int) == 2 && (i == i && ([] : Bs) == t)))=true:=by simp;exact ht
   simp only [go_sem,seval] at hE
   simp only [go_sem,seval,c77,rZ,hE]
   refine EY ?_
   simp [qm,ht]
 have b2 : (k == 2)=false:=by simpa using h2
 by_cases h0 : k=0
 ·subst h0
  by_cases hh : i=0∧t=[]
  ·obtain ⟨rfl,rfl⟩:=hh
   have hE : (!((0 : Int) == 0 && ((0 : Int) == 0 && ([] : Bs) == [])))=false:=by simp
   simp only [go_sem,seval,c77,rZ,hE]
   exact fin (by rfl) rfl
  ·have hE : (!((0 : Int) == 0 && ((0 : Int) == i && ([] : Bs) == t)))=true:=by
    cases hi : ((0 : Int) == i)<;>cases ht : (([] : Bs) == t)<;>simp_all
   simp only [go_sem,seval] at hE
   simp only [go_sem,seval,c77,rZ,hE]
   refine EY ?_
   simp [qm,hh]
 have b0 : (k == 0)=false:=by simpa using h0
 simp only [go_sem,seval,c77,b3,b1,b2,b0]
 refine EY ?_
 simp [qm,h3,h1,h2,h0]
def JH (k i : Int) (t : Bs) : Vl:=⟨k,i,t,k,.nilp,0,0,0,.nilp,0,0⟩
theorem N9 (k i : Int) (t : Bs) : (JH k i t).ok:=⟨rfl,rfl,rfl,rfl,by simp [JH],by simp [JH]⟩
theorem Q9 (k i : Int) (t : Bs) : PV Tryz.prog G0 120 [.agg [.int .i64 k,.int .i64 i,.str t]] (JH k i t).vv:=by
 refine pv e120 (by simp) rfl rfl ?_
 simp only [go_sem,seval,c120]
 exact fin (by rfl) rfl
theorem aay (k i : Int) (t : Bs) : PV Tryz.prog G0 132 [.agg [.int .i64 k,.int .i64 i,.str t]] (if qm k i t=0 then .tup [(JH k i t).vv,.int .i64 0] else .tup [Vl.zero.vv,.int .i64 (qm k i t)]):=by
 have hp : (if qm k i t=0 then VV.tup [(JH k i t).vv,.int .i64 0] else .tup [Vl.zero.vv,.int .i64 (qm k i t)]).isPure=true:=by split<;>rfl
 refine pv e132 (by simp) rfl hp ?_
 simp only [go_sem,seval,c132]
 refine ah (Ea k i t) ?_<;>simp only [go_sem,seval]
 by_cases hc : qm k i t=0
 ·rw [if_pos hc] at hp ⊢
  have hb : (qm k i t != 0)=false:=by simpa using hc
  simp only [go_sem,seval,hb]
  refine ah (Q9 k i t) ?_<;>simp only [go_sem,seval,Vl.vv,Vl.cells,JH]
  exact fin hp rfl
 ·rw [if_neg hc] at hp ⊢
  have hb : (qm k i t != 0)=true:=by simpa using hc
  simp only [go_sem,seval,hb]
  exact fin hp rfl
theorem OY (root : VV) (items : List Vl) (hi : ∀ y ∈ items,y.ok) (hR : RP root (items.map (·.cells))) (hl : items.length≤1000000) (hs : dw items≤1000000) (hd : maxD items≤1000000) :
  PV Tryz.prog G0 121 [.agg [root]] (⟨0,0,[],4,root,0,0,0,.nilp,maxD items,dw items⟩ : Vl).vv:=by
 have hok : (⟨0,0,[],4,root,0,0,0,.nilp,0,0⟩ : Vl).ok:=⟨hR.pure,hR.cell,rfl,rfl,by simp,by simp⟩
 have hok2 : (⟨0,0,[],4,root,0,0,0,.nilp,maxD items,dw items⟩ : Vl).ok:=⟨hR.pure,hR.cell,rfl,rfl,hd,hs⟩
 have hP:=Aa ⟨0,0,[],4,root,0,0,0,.nilp,0,0⟩ hok rfl items hi hR hl hs hd
 have h1:=hR.cell
 have h2:=iq h1
 have h3:=cellC h1
 simp only [go_sem,seval] at h1
 simp only [go_sem,seval] at h2
 simp only [go_sem,seval] at h3
 have hpu:=hok2.pure
 refine pv e121 (by simp) (by simp [VV.ak,VV.isPure,hR.pure]) (by simp only [VV.isPure,Vl.vv];exact hpu) ?_
 simp only [go_sem,seval,c121,h1,h2,h3]
 refine ah (hP) ?_<;>simp only [go_sem,seval,Vl.vv,Vl.cells,h1,h2,h3]
 exact fin (by simp only [VV.isPure];exact hpu) rfl
end Go.V
