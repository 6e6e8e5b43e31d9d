/- Texts F154 F155. -/
import Derived.Test.YtgmhpemjlbgfcaaGreatDoorG45
import Derived.Test.YtgmhpemjlbgfcaaGreatDoorG48
set_option linter.unusedVariables false
set_option linter.unusedSimpArgs false
namespace Go.V
open Go.Proofs
set_option maxRecDepth 100000
def Rq (l : List Am) : Bool:=l.all (fun a=>yV a.p && decide (a.ct.length≤300)) && decide (l.length≤100)
theorem Zx (l : List Am) (v : VV) (cs : List (List VV)) (hv : dG 6 v cs) (hl : YX l cs) (hll : l.length≤9223372036854775807) : PV Tryz.prog G0 11 [v] (.bool (Rq l)):=by
 have hvp:=hv.pure
 have hvc:=hv.cell
 simp only [go_sem,seval] at hvc
 have lp : ∀ {σ},aT Tryz.prog 25 v σ=okV (.int .i64 l.length) σ:=by intro σ;rw [hv.aT Dp,hl.1]
 have a0 : ∀ j : Nat,(0 : Int)≤(j : Int):=fun j=>by omega
 refine pv e11 (by simp) (by simp only [VV.ak,VV.isPure,hvp];rfl) rfl ?_
 simp only [go_sem,seval,c11,hvc,lp]
 refine bf (M:=fun ρ τ=>ρ.get 0=v∧∀ (i : Nat) (h : i < l.length),(yV l[i].p && decide (l[i].ct.length≤300))=true) ?_ ?_
 ·rintro ρ τ ⟨q0,hall⟩
  simp only [go_sem,seval,q0,lp]
  refine fin (by rfl) ?_
  have e : l.all (fun a=>yV a.p && decide (a.ct.length≤300))=true:=by
   rw [List.all_eq_true]
   intro s hs
   obtain ⟨i,hi,rfl⟩:=List.getElem_of_mem hs
   exact hall i hi
  unfold Rq
  rw [e,Bool.true_and]
  congr 1
  rw [decide_eq_decide]
  omega
 refine aF (fun m ρ τ=>∃ j : Nat,m=l.length-j∧j≤l.length∧(∀ (i : Nat) (h : i < l.length),i < j→(yV l[i].p && decide (l[i].ct.length≤300))=true)∧ρ.get 0=v∧ρ.get 5=v∧ρ.get 6=.int .i64 l.length∧ρ.get 7=.int .i64 j) (n:=l.length) ?_ ⟨0,rfl,by omega,fun _ _ h=>absurd h (Nat.not_lt_zero _),rfl,rfl,rfl,rfl⟩
 rintro m ρ τ ⟨j,rfl,hj,hall,q0,q5,q6,q7⟩
 by_cases hc' : j < l.length
 rotate_left
 ·have a5 : decide ((j : Int) < (l.length : Int))=false:=decide_eq_false (by omega)
  simp only [go_sem,seval,q0,q6,q7,a5]
  exact fun i h=>hall i h (by omega)
 have hcs : j < cs.length:=by rw [hl.1];exact hc'
 obtain ⟨tg,hit,a3,a4⟩:=hv.jr hcs
 rw [hl.1] at hit
 have a2 : (j : Int) < (l.length : Int):=by omega
 have a5 : decide ((j : Int) < (l.length : Int))=true:=decide_eq_true a2
 have a6 : IntKind.i64.wrap ((j : Int)+1)=((j+1 : Nat) : Int):=by rw [iw (by omega)];omega
 have hA:=hl.2 j hc' hcs
 obtain ⟨s1,s0,s2⟩:=hA.cells
 have s3 : cs[j].take 6=cs[j]:=List.take_of_length_le (by omega)
 have bad : (yV l[j].p && decide (l[j].ct.length≤300))=false→Rq l=false:=fun h=>by
  unfold Rq
  rw [List.all_eq_false.2 ⟨_,List.getElem_mem hc',by rw [h];decide⟩,Bool.false_and]
 have good : (yV l[j].p && decide (l[j].ct.length≤300))=true→∀ (i : Nat) (h : i < l.length),i < j+1→(yV l[i].p && decide (l[i].ct.length≤300))=true:=fun h i hi h1=>by
  rcases Nat.lt_succ_iff_lt_or_eq.1 h1 with h1 | rfl
  ·exact hall i hi h1
  ·exact h
 generalize cs[j]=cc at *
 generalize l[j]=a at *
 cases hA with
 | @mk pw hpw hpl hpi hpci =>
 have hS:=Qu a.p pw hpw hpl
 have tA0 : (τ++[Obj.own (a.cells pw)])[τ.length]?=some (.own (a.cells pw)):=by simp
 have g1 : (a.cells pw).getD 1 .undef=pw:=rfl
 have g5 : (a.cells pw).getD 5 .undef=.str a.ct:=rfl
 have hpc:=hpw.cell
 simp only [go_sem,seval] at hpc
 cases hs : yV a.p with
 | false =>
  rw [hs] at hS
  rw [bad (by rw [hs];rfl)]
  simp only [go_sem,seval,q0,q5,q6,q7,hit,a0,a2,a3,a4,a5,Int.toNat_natCast,s1,s2,s3,tA0,g1,SS]
  (first | refine ah (hS) ?_ | refine aK (hS) ?_ | refine aI (hS) ?_ | refine aj (hS) (by simp only [go_sem,seval,q0,Bool.not_false]) ?_ | refine aj (hS) ?_ ?_)<;>simp only [go_sem,seval,q0,Bool.not_false]
  exact fin (by rfl) rfl
 | true =>
 rw [hs] at hS
 by_cases ht : a.ct.length≤300
 ·have b : decide ((300 : Int) < (a.ct.length : Int))=false:=decide_eq_false (by omega)
  simp only [go_sem,seval,q0,q5,q6,q7,hit,a0,a2,a3,a4,a5,Int.toNat_natCast,s1,s2,s3,tA0,g1,SS]
  (first | refine ah (hS) ?_ | refine aK (hS) ?_ | refine aI (hS) ?_ | refine aj (hS) (by simp only [go_sem,seval,q0,q5,q6,q7,Bool.not_true,s1,tA0,g5,b,a6]) ?_ | refine aj (hS) ?_ ?_)<;>simp only [go_sem,seval,q0,q5,q6,q7,Bool.not_true,s1,tA0,g5,b,a6]
  exact ⟨l.length-(j+1),by omega,j+1,rfl,by omega,good (by rw [hs];simpa using ht),hit,hit,rfl⟩
 ·have b : decide ((300 : Int) < (a.ct.length : Int))=true:=decide_eq_true (by omega)
  rw [bad (by rw [hs];simpa using ht)]
  simp only [go_sem,seval,q0,q5,q6,q7,hit,a0,a2,a3,a4,a5,Int.toNat_natCast,s1,s2,s3,tA0,g1,SS]
  (first | refine ah (hS) ?_ | refine aK (hS) ?_ | refine aI (hS) ?_ | refine aj (hS) (by simp only [go_sem,seval,q0,q5,q6,q7,Bool.not_true,s1,tA0,g5,b]) ?_ | refine aj (hS) ?_ ?_)<;>simp only [go_sem,seval,q0,q5,q6,q7,Bool.not_true,s1,tA0,g5,b]
  exact fin (by rfl) rfl
theorem ZI.blk {a : Am} {c : List VV} (h : ZI a c) : dh 6 [c]:=by
 obtain ⟨h1,h2,h3⟩:=h.cells
 exact ⟨by simpa using h1,by simpa using h2,by simpa [aQ] using h3⟩
theorem YX.app {a b : List Am} {ca cb : List (List VV)} (ha : YX a ca) (hb : YX b cb) : YX (a++b) (ca++cb):=by
 refine ⟨by simp [ha.1,hb.1],fun j h h'=>?_⟩
 by_cases hlt : j < a.length
 ·rw [List.getElem_append_left hlt,List.getElem_append_left (by rw [ha.1];exact hlt)]
  exact ha.2 j hlt _
 ·rw [List.getElem_append_right (by omega),List.getElem_append_right (by rw [ha.1];omega)]
  have:=ha.1
  simp only [this]
  exact hb.2 _ _ _
theorem YX.one {a : Am} {c : List VV} (h : ZI a c) : YX [a] [c]:=⟨rfl,fun j h1 h2=>by
 have : j=0:=by simpa using h1
 subst this;exact h⟩
end Go.V
namespace Go.V
open Go.Proofs
set_option maxRecDepth 100000
theorem dG.Yv {k : Nat} {v : VV} {xs : List (List VV)} (h : dG k v xs) : v.cells=[v]:=by cases h<;>rfl
def FV (l : List Am) (v : VV) : Prop:=∃ cs,dG 6 v cs∧YX l cs
theorem IW {v : T} {X : Vl} (hv : oL v X) (hX : X.ok) {l : List Am} {lv : VV} (h : FV l lv) (hb : ∀ a ∈ l,Z5 a) (hg : Ij l) (hl : l.length≤64) :
  PV Tryz.prog G0 15 [lv,X.vv] (.tup [.bool (holdsA l v),.nili]):=by
 obtain ⟨cs,h1,h2⟩:=h
 have:=aap hv hX l lv cs h1 h2 hb (by omega)
 rw [if_pos ((Zb l).2 ⟨hl,hg⟩)] at this
 exact this
theorem ZM {l : List Am} (h : Rq l=true) : (∀ a ∈ l,Z5 a)∧l.length≤100:=by
 unfold Rq at h
 rw [Bool.and_eq_true,List.all_eq_true] at h
 refine ⟨fun a ha=>?_,by simpa using h.2⟩
 have h1:=h.1 a ha
 rw [Bool.and_eq_true] at h1
 have h2:=h1.1
 unfold yV at h2
 rw [Bool.and_eq_true,List.all_eq_true] at h2
 have h3 : a.p.length≤60:=by simpa using h2.2
 have h4 : a.ct.length≤300:=by simpa using h1.2
 exact ⟨by omega,fun s hs=>by
  have : s.t.length≤400:=by simpa using h2.1 s hs
  omega,by omega⟩
end Go.V
