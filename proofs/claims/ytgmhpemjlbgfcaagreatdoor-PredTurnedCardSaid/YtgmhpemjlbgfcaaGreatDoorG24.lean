/- Texts F43 F44. -/
import Derived.Test.YtgmhpemjlbgfcaaGreatDoorG21
set_option linter.unusedVariables false
set_option linter.unusedSimpArgs false
namespace Go.V
open Go.Proofs
set_option maxRecDepth 100000
theorem XA : G0 4=some (jX.map fun n=>.int .u8 n):=rfl
theorem UZ {i : Nat} (h : i < 32) : ∃ z : Int,(jX.map fun n=>VV.int .u8 n).getD i .undef=.int .u8 z∧0≤z∧z≤31:=by
 have key : ∀ i : Fin 32,∃ z : Int,(jX.map fun n=>VV.int .u8 n).getD i .undef=.int .u8 z∧0≤z∧z≤31:=by
  intro i
  refine ⟨jX.getD i 0, ?_, ?_⟩
  ·revert i;intro i;match i with | ⟨i,hi⟩=>rw [List.getD_eq_getElem?_getD,List.getElem?_map];rw [List.getD_eq_getElem?_getD,List.getElem?_eq_getElem (by simpa [jX] using hi)];rfl
  ·revert i;decide
 exact key ⟨i,h⟩
def S9 (a b : Int) : Int:=IntKind.u32.wrap ↑(BitVec.ofInt 32 a &&& BitVec.ofInt 32 b).toNat
theorem Nw {a b : Int} : zh .and .u32 a b=some (True,.int .u32 (S9 a b)):=rfl
theorem Qw (x : Int) : ∃ z : Int,0≤z∧z≤32∧PV Tryz.prog G0 243 [.int .u32 x] (.int .i64 z):=by
 by_cases h0 : x=0
 ·subst h0
  refine ⟨32,by omega,by omega, ?_⟩
  refine pv e243 (by simp) rfl rfl ?_
  simp only [go_sem,seval,c243]
  exact fin (by rfl) rfl
 ·have b0 : (x == 0)=false:=by simpa using h0
  obtain ⟨u,hu⟩ : ∃ u,u=IntKind.u32.wrap (S9 x (IntKind.u32.wrap (0-x))*125613361):=⟨_,rfl⟩
  have hu' : 0≤u∧u < 4294967296:=by rw [hu,DX];omega
  obtain ⟨w,hw⟩ : ∃ w : Int,w=u / 134217728:=⟨_,rfl⟩
  have hw' : 0≤w∧w < 32:=by omega
  have e1 : u.fdiv (2 ^ min 27 32)=w:=by
   rw [Int.fdiv_eq_ediv_of_nonneg _ (by decide),hw];rfl
  obtain ⟨z,hz,hz1,hz2⟩:=UZ (i:=w.toNat) (by omega)
  refine ⟨z,by omega,by omega, ?_⟩
  refine pv e243 (by simp) rfl rfl ?_
  have e2 : IntKind.i64.wrap z=z:=iw (by omega)
  have w1 : 0≤w:=hw'.1
  have w2 : w < 32:=hw'.2
  have n1 : 0+w.toNat*1=w.toNat:=by omega
  have n2 : w.toNat*1=w.toNat:=by omega
  have n3 : w.toNat < (List.map (fun n=>VV.int IntKind.u8 n) jX).length:=by simp [jX];omega
  simp only [go_sem,seval,↓Nw,c243,b0,XA,← hu,e1,w1,w2,Nat.mul_one,Nat.zero_add,n3,hz,e2]
  exact fin (by rfl) rfl
def Q8 (xs : List (List VV)) (i : Nat) (args : List VV) : Prop:=∃ z : Int,args=[.int .i64 z,.agg (xs.getD i [])]
theorem Bc (x : Int) (l : VV) (xs : List (List VV)) (h : dG 13 l xs) (fv : VV) (J : Nat→DS→Store→Prop) (D : DS) (σ : Store) (hl : xs.length≤1000000) (hC : Cls fv J (Q8 xs) 0 xs.length (.bool true)) (hJ : J 0 D σ) :
  CV Tryz.prog G0 242 [fv,.ptr [.int .u32 x,l] 0] σ fun c σ'=>c=.ret (.tup [])∧Done J xs.length D σ σ':=by
 refine cv e242 (by simp) ?_
 have hB:=h.blk
 have hlc:=h.cell
 simp only [go_sem,seval] at hlc
 simp only [go_sem,seval,c242,hlc,h.aT fA]
 refine aF (fun m ρ σ'=>∃ (i : Nat) (y : Int),m=xs.length-i∧i≤xs.length∧ρ.get 0=fv∧ρ.get 3=.int .u32 y∧ρ.get 10=l∧ρ.get 11=.int .i64 xs.length∧ρ.get 12=.int .i64 i∧Done J i D σ σ') (n:=xs.length) ?_ ⟨0,x,rfl,by omega,rfl,rfl,rfl,rfl,rfl,.refl hJ⟩
 rintro m ρ σ' ⟨i,y,rfl,hi,q0,q3,q10,q11,q12,hJi⟩
 simp only [go_sem,seval,q0,q3,q10,q11,q12]
 refine aG (fun hc=>?_) (fun hc=>?_)
 ·have hc' : i < xs.length:=by simpa using hc
  obtain ⟨t,rfl⟩:=h.fP (by intro e;rw [e] at hc';simp at hc')
  have c1 : (0 : Int)≤(i : Int):=by omega
  have c2 : (i : Int) < (xs.length : Int):=by omega
  have c3 : i*13+13≤xs.flatten.length:=by rw [hB.flat];omega
  have c4 : (xs.flatten.drop (i*13)).take 13=xs[i]:=hB.og hc'
  have c6 : IntKind.i64.wrap ((i : Int)+1)=((i+1 : Nat) : Int):=by rw [iw (by omega)];omega
  have c7 : xs[i].length=13:=hB.len _ (List.getElem_mem _)
  have c8 : xs[i].all VV.aC=true:=hB.cell _ (List.getElem_mem _)
  have c9 : xs[i].take 13=xs[i]:=List.take_of_length_le (by omega)
  obtain ⟨z,hz0,hz1,hz⟩:=Qw y
  simp only [go_sem,seval,q0,q3,q10,q11,q12,c1,c2,c3,c4,c7,c8,c9,Int.toNat_natCast,SS]
  refine ah (hz) ?_<;>simp only [go_sem,seval,q0,q3,q10,q11,q12,c7,c8,c9,SS]
  obtain ⟨D1,j1,g1,hh1⟩:=hJi
  have hcall:=hC.call i D1 (σ'++[.own xs[i]]) [.int .i64 z,.agg xs[i]] (by omega) hc' ⟨z,by simp [List.getD_eq_getElem?_getD,hc']⟩ (hC.snoc j1 _)
  refine kC hcall ?_
  rintro _ σ₂ ⟨rfl,hJ2⟩
  simp only [go_sem,seval,gZ,q0,q3,q10,q11,q12,c6,Bool.not_true]
  refine ⟨xs.length-(i+1),by omega,i+1,_,rfl,by omega,rfl,rfl,Done.trans g1 hh1 hJ2.app⟩
 ·have hc' : i=xs.length:=by simp at hc;omega
  subst hc'
  simp only [go_sem,seval,q0,q3,q10,q11,q12]
  exact hJi
end Go.V
namespace Go.V
open Go.Proofs
set_option maxRecDepth 100000
def Sl.EO : Sl→Option Sl
 | .no=>none
 | s=>some s
def Sl.DL (s : Sl) : List VV:=s.cells.getD []
def Vo (S : Nat→Sl) : List Sl:=(List.range 32).filterMap fun i=>(S i).EO
theorem xQ (S : Nat→Sl) : ∀ R : List Nat,R.filterMap (fun i=>(S i).cells)=(R.filterMap fun i=>(S i).EO).map Sl.DL∧R.flatMap (fun i=>(S i).ps)=(R.filterMap fun i=>(S i).EO).flatMap Sl.ps ∧
  (∀ s ∈ R.filterMap (fun i=>(S i).EO),s≠.no∧∃ i ∈ R,S i=s)
 | []=>by simp
 | i::R=>by
  obtain ⟨h1,h2,h3⟩:=xQ S R
  cases hS : S i with
  | no =>
   rw [List.filterMap_cons_none (by rw [hS];rfl),List.filterMap_cons_none (by rw [hS];rfl),List.flatMap_cons,hS]
   exact ⟨h1,h2,fun s hs=>⟨(h3 s hs).1,by obtain ⟨j,hj,e⟩:=(h3 s hs).2;exact ⟨j,by simp [hj],e⟩⟩⟩
  | lone p =>
   rw [List.filterMap_cons_some (by rw [hS];rfl),List.filterMap_cons_some (by rw [hS];rfl),List.flatMap_cons,hS,List.map_cons,List.flatMap_cons,h1,h2]
   refine ⟨rfl,rfl,fun s hs=>?_⟩
   rcases List.mem_cons.1 hs with rfl | hs
   ·exact ⟨by simp,i,by simp,hS⟩
   ·exact ⟨(h3 s hs).1,by obtain ⟨j,hj,e⟩:=(h3 s hs).2;exact ⟨j,by simp [hj],e⟩⟩
  | sub v ps =>
   rw [List.filterMap_cons_some (by rw [hS];rfl),List.filterMap_cons_some (by rw [hS];rfl),List.flatMap_cons,hS,List.map_cons,List.flatMap_cons,h1,h2]
   refine ⟨rfl,rfl,fun s hs=>?_⟩
   rcases List.mem_cons.1 hs with rfl | hs
   ·exact ⟨by simp,i,by simp,hS⟩
   ·exact ⟨(h3 s hs).1,by obtain ⟨j,hj,e⟩:=(h3 s hs).2;exact ⟨j,by simp [hj],e⟩⟩
theorem EH (S : Nat→Sl) : slotsOf (fun i=>(S i).cells)=(Vo S).map Sl.DL:=(xQ S (List.range 32)).1
theorem JL (S : Nat→Sl) : iW S=(Vo S).flatMap Sl.ps:=(xQ S (List.range 32)).2.1
theorem Qa (S : Nat→Sl) {s : Sl} (h : s ∈ Vo S) : s≠.no∧∃ i,i < 32∧S i=s:=by
 obtain ⟨h1,i,hi,h2⟩:=(xQ S (List.range 32)).2.2 s h
 exact ⟨h1,i,List.mem_range.1 hi,h2⟩
theorem QB (S : Nat→Sl) : (Vo S).length≤32:=by
 have:=List.length_filterMap_le (fun i=>(S i).EO) (List.range 32)
 simpa [Vo] using this
def mG (ss : List Sl) (k : Nat) : Nat:=((ss.take k).flatMap Sl.ps).length
theorem J8 (ss : List Sl) (k : Nat) (h : k < ss.length) : mG ss (k+1)=mG ss k+ss[k].ps.length:=by
 unfold mG
 rw [List.take_succ_eq_append_getElem h,List.flatMap_append,List.length_append]
 simp
theorem MH (ss : List Sl) : mG ss ss.length=(ss.flatMap Sl.ps).length:=by unfold mG;rw [List.take_length]
theorem P7 (ss : List Sl) (k : Nat) : mG ss k≤(ss.flatMap Sl.ps).length:=by
 unfold mG
 conv=>rhs;rw [← List.take_append_drop k ss,List.flatMap_append,List.length_append]
 omega
theorem EZ (ss : List Sl) (k j : Nat) (h : k < ss.length) (hj : j < ss[k].ps.length) : (ss.flatMap Sl.ps)[mG ss k+j]?=some ss[k].ps[j]:=by
 have e : ss.flatMap Sl.ps=(ss.take k).flatMap Sl.ps++(ss[k].ps++(ss.drop (k+1)).flatMap Sl.ps):=by
  conv=>lhs;rw [← List.take_append_drop k ss,List.flatMap_append,List.drop_eq_getElem_cons h,List.flatMap_cons]
 rw [e,List.getElem?_append_right (by unfold mG;omega)]
 unfold mG
 rw [Nat.add_sub_cancel_left,List.getElem?_append_left hj,List.getElem?_eq_getElem hj]
def AO (ps : List iE) (a i : Nat) (args : List VV) : Prop:=args=[.agg (au (ps.getD (i-a) ([],Vl.zero)))]
theorem uY {ps : List iE} {a j : Nat} (h : j < ps.length) : AO ps a (a+j) [.agg (au ps[j])]:=by
 unfold AO
 rw [Nat.add_sub_cancel_left,List.getD_eq_getElem?_getD,List.getElem?_eq_getElem h];rfl
theorem D7 {ps : List iE} {a j : Nat} (h : j < ps.length) {args : List VV} (ha : AO ps a (a+j) args) : args=[.agg (au ps[j])]:=by
 have:=uY (a:=a) h
 unfold AO at this ha
 rw [ha,this]
theorem Fg (x : Int) (l : VV) (hp : l.isPure=true) (hc : l.aC=true) : PV Tryz.prog G0 225 [.agg [.int .u32 x,l]] (.fn (.func 242) [] [.ptr [.int .u32 x,l] 0]):=by
 refine pv e225 (by simp) (by simp [VV.ak,VV.isPure,hp]) (by simp [VV.ak,VV.isPure,hp]) ?_
 simp only [go_sem,seval] at hc
 simp only [go_sem,seval,c225,hc]
 refine ⟨_,2,rfl, ?_⟩
 simp [fz,VV.isPure,VV.ak,Obj.fr,hp]
def YS (v : VV) (ps : List iE) : Prop:=∀ (a : Nat) (g : FuncId) (caps : List VV) (J : Nat→DS→Store→Prop) (D : DS) (σ : Store),ay Tryz.prog g=true→Cls (.fn (.func g) [] caps) J (AO ps a) a (a+ps.length) (.tup [])→J a D σ →
 CV Tryz.prog G0 184 [v,.fn (.func g) [] caps] σ fun c σ'=>c=.ret (.tup [])∧Done J (a+ps.length) D σ σ'
theorem uH {p : iE} (h : p.2.ok) : (au p).all VV.aC=true:=(mM h).cell _ (by simp)
set_option maxHeartbeats 1000000 in
theorem Ro (x : Nat) (l : VV) (S : Nat→Sl) (hR : kN (fun i=>(S i).cells) x l) (h1 : ∀ i p,i < 32→S i=.lone p→p.2.ok) (h2 : ∀ i v ps,i < 32→S i=.sub v ps→YS v ps∧∃ cells,v=.ptr cells 0) : YS (.ptr [.int .u32 x,l,.nils] 0) (iW S):=by
 intro a g caps J D σ hg hC hJ
 obtain ⟨L,hL⟩ : ∃ L,L=σ.length:=⟨_,rfl⟩
 have hlc:=hR.sl.cell
 have hsl:=hR.sl
 have hdom:=hC.dom _ _ _ hJ
 rw [EH] at hsl
 rw [JL] at hC ⊢
 have hss:=QB S
 have hmem:=fun s=>Qa S (s:=s)
 obtain ⟨ss,hse⟩ : ∃ ss,ss=Vo S:=⟨_,rfl⟩
 rw [← hse] at hsl hC hss hmem ⊢
 refine cv e184 (by simp) ?_
 simp only [go_sem,seval] at hlc
 simp only [go_sem,seval,c184,hlc]
 refine bf (M:=fun ρ σ'=>ρ.get 0=.ptr [.int .u32 x,l,.nils] 0∧ρ.get 3=.mptr L 0∧σ'=σ++[.own [.fn (.func g) [] caps]]) ?_ ?_
 rotate_left
 ·refine aF (fun m ρ σ'=>ρ.get 0=.ptr [.int .u32 x,l,.nils] 0∧ρ.get 3=.mptr L 0∧ρ.get 14=.int .i64 0∧ρ.get 15=.int .i64 0∧σ'=σ++[.own [.fn (.func g) [] caps]]) (n:=0) ?_ ⟨rfl,by rw [hL];rfl,rfl,rfl,rfl⟩
  rintro m ρ σ' ⟨q0,q3,q14,q15,rfl⟩
  simp only [go_sem,seval,q14,q15]
  exact ⟨q0,q3⟩
 ·rintro ρ σ' ⟨q0,q3,rfl⟩
  simp only [go_sem,seval,q0,q3,hlc]
  refine ah (Fg x l hR.sl.pure hR.sl.cell) ?_<;>simp only [go_sem,seval]
  intro lp hlp
  simp only [List.length_append,List.length_cons,List.length_nil]
  rw [← hL]
  refine CV.mono (Bc x l (ss.map Sl.DL) hsl (.yield (L+1)) (fun k D' τ=>∃ D,(∀ id,D' id↔D id∨(L≤id∧id < L+2))∧(∀ id,L≤id→id < L+2→¬ D id)∧J (a+mG ss k) D τ∧L+2≤τ.length∧τ[L]?=some (.own [.fn (.func g) [] caps])∧τ[L+1]?=some (.loop lp)) (fun id=>D id∨(L≤id∧id < L+2)) _ (by simp;omega) ⟨?_, ?_, ?_⟩
   ⟨D,fun _=>.rfl,fun id h1 h2 h3=>by have:=hdom id h3;omega,by simpa [mG] using hC.snoc hJ [_,_],by simp [hL],by simp [hL],by simp [hL]⟩) ?_
  ·rintro i D' τ ⟨D,d1,d2,b1,b2,_⟩ id hid
   rcases (d1 id).1 hid with h | h
   ·exact hC.dom _ _ _ b1 id h
   ·omega
  ·rintro i D' τ τ' ⟨D,d1,d2,b1,b2,b3,b4⟩ hlow
   have hs : ∀ id,L≤id→id < L+2→τ'[id]?=τ[id]?:=fun id a b=>hlow.same id ((d1 id).2 (.inr ⟨a,b⟩))
   exact ⟨D,d1,d2,hC.low _ _ _ _ b1 ⟨hlow.len,fun id hid=>hlow.same id ((d1 id).2 (.inl hid))⟩,Nat.le_trans b2 hlow.len,(hs _ (by omega) (by omega)).trans b3,(hs _ (by omega) (by omega)).trans b4⟩
  ·rintro i D' τ args _ hi ⟨z,rfl⟩ ⟨D,d1,d2,b1,b2,b3,b4⟩
   have hi' : i < ss.length:=by simpa using hi
   have hB:=hsl.blk
   have hg' : (ss.map Sl.DL).getD i []=ss[i].DL:=by rw [List.getD_eq_getElem?_getD,List.getElem?_map,List.getElem?_eq_getElem hi'];rfl
   have hme : ss[i].DL ∈ ss.map Sl.DL:=List.mem_map.2 ⟨_,List.getElem_mem hi',rfl⟩
   have c7 : ss[i].DL.length=13:=hB.len _ hme
   have c8 : ss[i].DL.all VV.aC=true:=hB.cell _ hme
   have c9 : ss[i].DL.take 13=ss[i].DL:=List.take_of_length_le (by omega)
   rw [hg']
   refine DV mix b4 hlp rfl (by decide) ?_
   simp only [go_sem,seval,oK,SS,c7,c8,c9]
   refine ⟨by rw [List.getElem?_append_left (by omega)];exact b4, ?_⟩
   have hdomt:=hC.dom _ _ _ b1
   obtain ⟨τ1,hτ1⟩ : ∃ τ1,τ1=(τ++[Obj.own ss[i].DL]).set (L+1) (.loop { lp with state:=.busy }):=⟨_,rfl⟩
   rw [← hτ1]
   have hJ1 : J (a+mG ss i) D τ1:=by rw [hτ1];exact hC.low _ _ _ _ (hC.snoc b1 _) (.set (d2 _ (by omega) (by omega)))
   have g0 : τ1.length=τ.length+1:=by rw [hτ1];simp
   have g1 : τ1[L]?=some (.own [.fn (.func g) [] caps]):=by rw [hτ1,List.getElem?_set_ne (by omega),List.getElem?_append_left (by omega)];exact b3
   have g3 : τ1[L+1]?=some (.loop { lp with state:=.busy }):=by rw [hτ1,List.getElem?_set_self (by simp;omega)]
   have g4 : τ1[τ.length]?=some (.own ss[i].DL):=by rw [hτ1,List.getElem?_set_ne (by omega)];simp
   have g6 : ∀ id,id < τ.length→id≠L+1→τ1[id]?=τ[id]?:=fun id h1 h2=>by rw [hτ1,List.getElem?_set_ne (by omega),List.getElem?_append_left (by omega)]
   clear hτ1
   obtain ⟨hno,j,hj,hSj⟩:=hmem _ (List.getElem_mem hi')
   have hsucc:=J8 ss i hi'
   have hle:=P7 ss (i+1)
   have hend : ∀ τ3,Done J (a+mG ss (i+1)) D τ1 τ3→τ3[L+1]?=some (.loop { lp with state:=.busy })∧Done (fun k D' τ=>∃ D,(∀ id,D' id↔D id∨(L≤id∧id < L+2))∧(∀ id,L≤id→id < L+2→¬ D id)∧J (a+mG ss k) D τ∧L+2≤τ.length∧τ[L]?=some (.own [.fn (.func g) [] caps])∧τ[L+1]?=some (.loop lp)) (i+1) D' τ (τ3.set (L+1) (.loop lp)):=by
    rintro τ3 ⟨D3,hJ3,hG3,hH3⟩
    have hD3 : ∀ id,L≤id→id < L+2→¬ D3 id:=fun id a b c=>by
     rcases hG3 id c with c | c
     ·exact d2 id a b c
     ·omega
    have m0:=hH3.len
    have m3:=(hH3.same (L+1) (by omega) (d2 _ (by omega) (by omega))).trans g3
    refine ⟨m3,fun id=>D3 id∨(L≤id∧id < L+2),⟨D3,fun _=>.rfl,hD3,hC.low _ _ _ _ hJ3 (.set (hD3 _ (by omega) (by omega))),by simp;omega, ?_, ?_⟩,fun id hid=>?_,⟨by simp;omega,fun id a b=>?_⟩⟩
    ·rw [List.getElem?_set_ne (by omega),hH3.same _ (by omega) (d2 _ (by omega) (by omega))];exact g1
    ·rw [List.getElem?_set_self (by omega)]
    ·rcases hid with hid | hid
     ·rcases hG3 id hid with h | h
      ·exact .inl ((d1 id).2 (.inl h))
      ·exact .inr (by omega)
     ·exact .inl ((d1 id).2 (.inr hid))
    ·have b' : ¬ D id∧¬ (L≤id∧id < L+2):=⟨fun h=>b ((d1 id).2 (.inl h)),fun h=>b ((d1 id).2 (.inr h))⟩
     rw [List.getElem?_set_ne (by omega),hH3.same _ (by omega) b'.1,g6 id a (by omega)]
   cases hs : ss[i] with
   | no=>exact absurd hs hno
   | lone p =>
    have hpo:=h1 j p hj (by rw [hSj,hs])
    have hce : ss[i].DL=au p++[.nilp]:=by rw [hs];rfl
    have hps : ss[i].ps=[p]:=by rw [hs];rfl
    rw [hce] at g4
    rw [hps] at hsucc
    simp only [List.length_cons,List.length_nil] at hsucc
    have d7 : (au p).length=12:=rfl
    have d8:=uH hpo
    have d9 : (au p).take 12=au p:=rfl
    have d10 : (au p++[VV.nilp]).take 12=au p:=rfl
    have d11 : (au p++[VV.nilp]).length=13:=rfl
    have d12 : (au p++[VV.nilp]).getD 12 .undef=.nilp:=rfl
    have hlt : mG ss i < (ss.flatMap Sl.ps).length:=by omega
    have hat:=uY (a:=a) hlt
    have hgp:=EZ ss i 0 hi' (by rw [hps];simp)
    rw [Nat.add_zero,List.getElem?_eq_getElem hlt,Option.some.injEq] at hgp
    rw [hgp,show ss[i].ps[0]'(by rw [hps];simp)=p by simp [hps]] at hat
    have hcall:=hC.call (a+mG ss i) D τ1 _ (by omega) (by omega) hat hJ1
    simp only [go_sem,seval,q3,g1,g4,d7,d8,d9,d10,d11,d12]
    refine kC hcall ?_
    rintro _ τ3 ⟨rfl,hJ3⟩
    simp only [go_sem,seval,gZ,pI]
    exact hend τ3 (by rw [hsucc,← Nat.add_assoc];exact hJ3)
   | sub v ps =>
    obtain ⟨hE,cells,rfl⟩:=h2 j v ps hj (by rw [hSj,hs])
    have hce : ss[i].DL=.str []::(Vl.zero.cells++[.ptr cells 0]):=by rw [hs];rfl
    have hps : ss[i].ps=ps:=by rw [hs];rfl
    rw [hce] at g4
    rw [hps] at hsucc
    have d11 : (VV.str []::(Vl.zero.cells++[VV.ptr cells 0])).length=13:=rfl
    have d12 : (VV.str []::(Vl.zero.cells++[VV.ptr cells 0])).getD 12 .undef=.ptr cells 0:=rfl
    simp only [go_sem,seval,q3,g1,g4,d11,d12]
    refine CV.mono (hE (a+mG ss i) g caps J D τ1 hg (hC.sub (by omega) (by omega) (fun k args k1 k2 k3=>?_)) hJ1) ?_
    ·obtain ⟨k',rfl⟩ : ∃ k',k=a+mG ss i+k':=⟨k-(a+mG ss i),by omega⟩
     have hk' : k' < ps.length:=by omega
     have hgp:=EZ ss i k' hi' (by rw [hps];exact hk')
     rw [List.getElem?_eq_getElem (by omega),Option.some.injEq] at hgp
     rw [D7 hk' k3,Nat.add_assoc]
     have hat:=uY (a:=a) (ps:=ss.flatMap Sl.ps) (j:=mG ss i+k') (by omega)
     rw [hgp] at hat
     simpa [hps] using hat
    ·rintro _ τ3 ⟨rfl,hJ3⟩
     simp only [go_sem,seval,gZ,pI]
     exact hend τ3 (by rw [hsucc,← Nat.add_assoc];exact hJ3)
  ·rintro _ τ ⟨rfl,D',⟨D2,d1,d2,b1,b2,b3,b4⟩,hG,hH⟩
   refine ⟨lp,b4,by rw [hlp.st];simp, ?_⟩
   rw [hlp.pe]
   simp only [go_sem,seval,xq]
   rw [List.length_map,MH] at b1
   refine ⟨D2,hC.low _ _ _ _ b1 (.set (d2 _ (by omega) (by omega))),fun id hid=>?_,⟨by simp;omega,fun id a b=>?_⟩⟩
   ·rcases hG id ((d1 id).2 (.inl hid)) with (h | h) | h
    ·exact .inl h
    ·exact .inr (by omega)
    ·refine .inr ?_
     simp only [List.length_append] at h;omega
   ·rw [List.getElem?_set_ne (by omega),hH.same id (by simp;omega) (fun h=>h.elim b (fun h=>by omega))]
    simp [List.getElem?_append_left a]
end Go.V
