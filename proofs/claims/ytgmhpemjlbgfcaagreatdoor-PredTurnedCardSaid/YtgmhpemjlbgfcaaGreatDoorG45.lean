/- Texts F133 F134 F135 F136 F140 F141 F142 F143. -/
import Derived.Test.YtgmhpemjlbgfcaaGreatDoorG17
import Derived.Test.YtgmhpemjlbgfcaaGreatDoorG19
import Derived.Test.YtgmhpemjlbgfcaaGreatDoorG36
import Derived.Test.YtgmhpemjlbgfcaaGreatDoorG38
import Derived.Test.YtgmhpemjlbgfcaaGreatDoorG39
import Derived.Test.YtgmhpemjlbgfcaaGreatDoorG41
import Derived.Test.YtgmhpemjlbgfcaaGreatDoorG42
set_option linter.unusedVariables false
set_option linter.unusedSimpArgs false
namespace Go.V
open Go.Proofs
set_option maxRecDepth 100000
def zt : List VV:=[.int .i64 0,.int .i64 0,.str [],.nils,.nils]
def Xh : Option (List VV)→VV→Prop
 | some c,R=>R=.tup [.agg c,.int .i64 0]
 | none,R=>∃ e : Int,e≠0∧R=.tup [.agg zt,.int .i64 e]
end Go.V
namespace Go.V
open Go.Proofs
set_option maxRecDepth 100000
def TC (c : List VV) (n : Nat) : Prop:=c.length=5∧VV.ak c=true∧c.all VV.aC=true∧∃ cs,dG 5 (c.getD 4 .undef) cs∧cs.length=n
def Vq (c : List VV) (n : Nat) (s : Sg) (o : Option (List VV)) : Prop :=
 if s.k=0 then ∃ R,Xh o R∧PV Tryz.prog G0 46 [.agg c,lJ 1 0 s.t] R
 else if s.k=1 then match gV s.i n with
  | none=>o=none
  | some j=>∃ R,Xh o R∧PV Tryz.prog G0 46 [.agg c,lJ 0 j []] R
 else o=none
inductive Lu : List VV→List Sg→Option (List VV)→Prop
 | nil {c : List VV} {n : Nat} : TC c n→Lu c [] (some c)
 | stop {c : List VV} {n : Nat} {s : Sg} {r : List Sg} : TC c n→n≤1000000→Vq c n s none→Lu c (s::r) none
 | go {c d : List VV} {n : Nat} {s : Sg} {r : List Sg} {o : Option (List VV)} : TC c n→n≤1000000→Vq c n s (some d)→Lu d r o→Lu c (s::r) o
theorem Lu.cells {c : List VV} {r : List Sg} {o : Option (List VV)} (h : Lu c r o) : c.length=5∧VV.ak c=true∧c.all VV.aC=true:=by
 cases h with
 | nil h=>exact ⟨h.1,h.2.1,h.2.2.1⟩
 | stop h=>exact ⟨h.1,h.2.1,h.2.2.1⟩
 | go h=>exact ⟨h.1,h.2.1,h.2.2.1⟩
theorem Lu.pure {c : List VV} {r : List Sg} {o : Option (List VV)} (h : Lu c r o) : ∀ d,o=some d→VV.ak d=true:=by
 induction h with
 | nil h=>rintro d ⟨⟩;exact h.2.1
 | stop _ _ _=>rintro d ⟨⟩
 | go _ _ _ _ ih=>exact ih
end Go.V
namespace Go.V
open Go.Proofs
set_option maxRecDepth 100000
mutual
theorem EL : ∀ (x : Tr) (d : Nat) (l m n : Int),l≤m→x.small d l=(n,true)→x.small d m=(n+(m-l),true)
 | .node k i t ks xs,d,l,m,n,h,hs=>by
  unfold Tr.small at hs ⊢
  split at hs
  ·simp at hs
  rename_i hc
  rw [if_neg (fun h'=>hc (by
   rcases h' with h' | h' | h' | h' | h'
   ·left;omega
   ·right;left;omega
   ·right;right;left;omega
   ·right;right;right;left;omega
   ·right;right;right;right;exact h'))]
  have:=BF xs (d+1) (l-1) (m-1) n (by omega) hs
  rw [this,show m-1-(l-1)=m-l by omega]
theorem BF : ∀ (xs : List Tr) (d : Nat) (l m n : Int),l≤m→Tr.smalls xs d l=(n,true)→Tr.smalls xs d m=(n+(m-l),true)
 | [],d,l,m,n,h,hs=>by
  simp only [Tr.smalls,Prod.mk.injEq,and_true] at hs ⊢
  omega
 | x::xs,d,l,m,n,h,hs=>by
  unfold Tr.smalls at hs ⊢
  split at hs
  ·rename_i l' e
   rw [EL x d l m l' h e]
   have:=BF xs d l' (l'+(m-l)) n (by omega) hs
   simp only [this,show l'+(m-l)-l'=m-l by omega]
  ·simp at hs
end
theorem D9 {x : Tr} (h : (x.small 0 200).2=true) : (x.small 0 400).2=true:=by
 rw [EL x 0 200 400 (x.small 0 200).1 (by omega) (by rw [← h])]
theorem Ie {x : Tr} {c : List VV} (h : kV x c) : PV Tryz.prog G0 33 [.agg c,.int .i64 200] (.bool (x.small 0 200).2):=by
 obtain ⟨x1,x2,x3⟩:=h.cells
 have x4 : c.take 5=c:=List.take_of_length_le (by omega)
 have hs:=IG x c 0 200 h (by omega) (by omega) (by omega)
 refine pv e33 (by simp) (by simp only [VV.ak,VV.isPure,x2];rfl) rfl ?_
 simp only [go_sem,seval,c33,x1,x3,x4]
 (first | refine ah (hs) ?_ | refine aK (hs) ?_ | refine aI (hs) ?_ | refine aj (hs) (by simp only [go_sem,seval]) ?_ | refine aj (hs) ?_ ?_)<;>simp only [go_sem,seval]
 exact fin (by rfl) rfl
def Tr.right (x : Tr) : Bool:=(x.small 0 200).2 && (FD (x.mk 1 0) == 0)
theorem Sr {x : Tr} {c : List VV} (h : kV x c) (hO : jk x) (tg : Bool) : PV Tryz.prog G0 12 [.sl 1 c tg] (.bool x.right):=by
 obtain ⟨x1,x2,x3⟩:=h.cells
 have x4 : c.take 5=c:=List.take_of_length_le (by omega)
 have x5 : (c.drop 0).take 5=c:=by rw [List.drop_zero];exact x4
 have hS:=Ie h
 have g1 : 0+5≤c.length:=by omega
 refine pv e12 (by simp) (by simp only [VV.ak,VV.isPure,x2];rfl) rfl ?_
 simp only [go_sem,seval,c12,x1]
 refine iH ?_
 simp only [go_sem,seval,x1,x3,x4,x5,g1]
 cases hs : (x.small 0 200).2 with
 | false =>
  rw [hs] at hS
  have e : x.right=false:=by unfold Tr.right;rw [hs];rfl
  (first | refine ah (hS) ?_ | refine aK (hS) ?_ | refine aI (hS) ?_ | refine aj (hS) (by simp only [go_sem,seval,Bool.not_false]) ?_ | refine aj (hS) ?_ ?_)<;>simp only [go_sem,seval,Bool.not_false]
  exact fin (by rfl) (by rw [e])
 | true =>
  rw [hs] at hS
  have hC:=KE h hO (Tr.CO (D9 hs))
  (first | refine ah (hS) ?_ | refine aK (hS) ?_ | refine aI (hS) ?_ | refine aj (hS) (by simp only [go_sem,seval,Bool.not_true,x1,x3,x4]) ?_ | refine aj (hS) ?_ ?_)<;>simp only [go_sem,seval,Bool.not_true,x1,x3,x4]
  cases hb : (FD (x.mk 1 0) == 0) with
  | false =>
   have e : x.right=false:=by unfold Tr.right;rw [hs,hb];rfl
   (first | refine ah (hC) ?_ | refine aK (hC) ?_ | refine aI (hC) ?_ | refine aj (hC) (by simp only [go_sem,seval,bne,hb,Bool.not_false]) ?_ | refine aj (hC) ?_ ?_)<;>simp only [go_sem,seval,bne,hb,Bool.not_false]
   exact fin (by rfl) (by rw [e])
  | true =>
   have e : x.right=true:=by unfold Tr.right;rw [hs,hb];rfl
   (first | refine ah (hC) ?_ | refine aK (hC) ?_ | refine aI (hC) ?_ | refine aj (hC) (by simp only [go_sem,seval,bne,hb,Bool.not_true]) ?_ | refine aj (hC) ?_ ?_)<;>simp only [go_sem,seval,bne,hb,Bool.not_true]
   refine iH ?_
   simp only [go_sem,seval]
   exact fin (by rfl) (by rw [e])
def yV (l : List Sg) : Bool:=l.all (fun s=>decide (s.t.length≤400)) && decide (l.length≤60)
theorem Qu (path : List Sg) (pw : VV) (hp : dG 5 pw (path.map Sg.cells)) (hl : path.length≤9223372036854775807) : PV Tryz.prog G0 17 [pw] (.bool (yV path)):=by
 have hpp:=hp.pure
 have hpc:=hp.cell
 simp only [go_sem,seval] at hpc
 have lp : ∀ {σ},aT Tryz.prog 51 pw σ=okV (.int .i64 path.length) σ:=by intro σ;rw [hp.aT zF];simp
 have a0 : ∀ j : Nat,(0 : Int)≤(j : Int):=fun j=>by omega
 refine pv e17 (by simp) (by simp only [VV.ak,VV.isPure,hpp];rfl) rfl ?_
 simp only [go_sem,seval,c17,hpc,lp]
 refine bf (M:=fun ρ τ=>ρ.get 0=pw∧∀ (i : Nat) (h : i < path.length),path[i].t.length≤400) ?_ ?_
 ·rintro ρ τ ⟨q0,hall⟩
  simp only [go_sem,seval,q0,lp]
  refine fin (by rfl) ?_
  have e : path.all (fun s=>decide (s.t.length≤400))=true:=by
   rw [List.all_eq_true]
   intro s hs
   obtain ⟨i,hi,rfl⟩:=List.getElem_of_mem hs
   simpa using hall i hi
  unfold yV
  rw [e,Bool.true_and]
  congr 1
  rw [decide_eq_decide]
  omega
 refine aF (fun m ρ τ=>∃ j : Nat,m=path.length-j∧j≤path.length∧(∀ (i : Nat) (h : i < path.length),i < j→path[i].t.length≤400)∧ρ.get 0=pw∧ρ.get 5=pw∧ρ.get 6=.int .i64 path.length∧ρ.get 7=.int .i64 j) (n:=path.length) ?_ ⟨0,rfl,by omega,fun _ _ h=>absurd h (Nat.not_lt_zero _),rfl,rfl,rfl,rfl⟩
 rintro m ρ τ ⟨j,rfl,hj,hall,q0,q5,q6,q7⟩
 by_cases hc' : j < path.length
 rotate_left
 ·have a5 : decide ((j : Int) < (path.length : Int))=false:=decide_eq_false (by omega)
  simp only [go_sem,seval,q0,q6,q7,a5]
  exact fun i h=>hall i h (by omega)
 obtain ⟨tg,hit,a3,a4⟩:=hp.jr (j:=j) (by simpa using hc')
 rw [List.getElem_map] at a4
 rw [List.length_map] at hit
 have a2 : (j : Int) < (path.length : Int):=by omega
 have a5 : decide ((j : Int) < (path.length : Int))=true:=decide_eq_true a2
 have a6 : IntKind.i64.wrap ((j : Int)+1)=((j+1 : Nat) : Int):=by rw [iw (by omega)];omega
 have s1 : path[j].cells.length=5:=rfl
 have s2 : path[j].cells.all VV.aC=true:=rfl
 have s3 : path[j].cells.take 5=path[j].cells:=rfl
 have s5 : path[j].cells.getD 4 .undef=.str path[j].t:=rfl
 by_cases ht : path[j].t.length≤400
 ·have b : decide ((400 : Int) < (path[j].t.length : Int))=false:=decide_eq_false (by omega)
  simp only [go_sem,seval,q0,q5,q6,q7,hit,a0,a2,a3,a4,a5,a6,Int.toNat_natCast,s1,s2,s3,s5,b,SS]
  refine ⟨path.length-(j+1),by omega,j+1,rfl,by omega,fun i h h1=>?_,rfl⟩
  rcases Nat.lt_succ_iff_lt_or_eq.1 h1 with h1 | rfl
  ·exact hall i h h1
  ·exact ht
 ·have b : decide ((400 : Int) < (path[j].t.length : Int))=true:=decide_eq_true (by omega)
  simp only [go_sem,seval,q0,q5,q6,q7,hit,a0,a2,a3,a4,a5,a6,Int.toNat_natCast,s1,s2,s3,s5,b,SS]
  refine fin (by rfl) ?_
  have e : path.all (fun s=>decide (s.t.length≤400))=false:=by
   rw [List.all_eq_false]
   exact ⟨_,List.getElem_mem hc',by simpa using ht⟩
  unfold yV
  rw [e,Bool.false_and]
theorem QM {x : Tr} {c : List VV} (h : kV x c) (hO : jk x) (hS : FY x) (seed bits : Int) {v : T} (hmv : x.mk 1 0=(v.nd,.ok v)) (σ : Store) :
  CV Tryz.prog G0 14 [.agg [.int .u64 seed,.int .i64 bits],.agg c] σ fun r σ'=>∃ X : Vl,oL v X∧X.ok∧r=.ret X.vv∧Ch (fun _=>False) σ σ':=by
 obtain ⟨x1,x2,x3⟩:=h.cells
 have x4 : c.take 5=c:=List.take_of_length_le (by omega)
 refine cv e14 (by simp) ?_
 simp only [go_sem,seval,c14,x1,x3,x4,SS]
 refine CV.mono (XI h hO hS seed bits _) ?_
 rintro r σ' hr
 rw [hmv] at hr
 obtain ⟨X,hvX,hXo,_,_,rfl,hch⟩:=hr
 have d1 : X.cells.length=11:=rfl
 have d2 : X.cells.all VV.aC=true:=hXo.cell
 have d3 : X.cells.take 11=X.cells:=rfl
 have hl:=hch.len
 have l3 : σ.length+(1+1) < σ'.length:=by simp at hl;omega
 have r3 : σ'[σ.length+(1+1)]?=some (.own [.int .i64 0,.int .i64 0,.str [],.int .i64 0,.nilp,.int .u64 0,.int .i64 0,.int .i64 0,.nilp,.int .i64 0,.int .i64 0]):=by rw [hch.same _ (by simp) (by simp)];simp
 have r4 : ∀ υ,(σ'++υ)[σ.length+(1+1)]?=some (.own [.int .i64 0,.int .i64 0,.str [],.int .i64 0,.nilp,.int .u64 0,.int .i64 0,.int .i64 0,.nilp,.int .i64 0,.int .i64 0]):=fun υ=>by rw [List.getElem?_append_left l3];exact r3
 have gs : ∀ (υ : Store) (o : Obj),((σ'++υ).set (σ.length+(1+1)) o)[σ.length+(1+1)]?=some o:=fun υ o=>List.getElem?_set_self (by simp;omega)
 simp only [go_sem,seval,gZ,Vl.vv,r4,gs,d1,d2,d3,SS]
 refine ⟨X,hvX,hXo,rfl,⟨by simp at hl ⊢;omega,fun i hi _=>?_⟩⟩
 rw [List.getElem?_set_ne (by omega),List.getElem?_append_left (by omega),hch.same i (by simp;omega) (by simp),List.getElem?_append_left hi]
end Go.V
namespace Go.V
open Go.Proofs
set_option maxRecDepth 100000
theorem JQ (x y : Operand) (a b : Bool) (σ : Store) : lV Tryz.prog .eql 4 x y (.bool a) (.bool b) σ=okV (.bool (a == b)) σ:=by
 simp [lV,VV.tZ,VV.gK,VV.isAgg,Ci,QT,okV]
end Go.V
namespace Go.V
open Go.Proofs
set_option maxRecDepth 100000
inductive Fa (k : Nat) (σ : Store) : VV→List (List VV)→Prop
 | nil : Fa k σ .nils []
 | own {id : Nat} {cells : List VV} {xs : List (List VV)} : dh k xs→σ[id]?=some (.own cells)→cells.take (xs.length*k)=xs.flatten→xs.length*k≤cells.length→Fa k σ (.bZ id 0 xs.length k) xs
theorem Fa.blk {k : Nat} {σ : Store} {v : VV} {xs : List (List VV)} (h : Fa k σ v xs) : dh k xs:=by
 cases h with
 | nil=>exact .nil
 | own h _ _=>exact h
theorem Fa.shape {k : Nat} {σ : Store} {v : VV} {xs : List (List VV)} (h : Fa k σ v xs) : v=.nils∨∃ i n,v=.bZ i 0 n k:=by
 cases h with
 | nil=>exact .inl rfl
 | own=>exact .inr ⟨_,_,rfl⟩
theorem Fa.cell {k : Nat} {σ : Store} {v : VV} {xs : List (List VV)} (h : Fa k σ v xs) : v.aC=true:=by cases h<;>rfl
theorem Fa.keep {k : Nat} {σ σ' : Store} {v : VV} {xs : List (List VV)} (h : Fa k σ v xs) (hs : ∀ id o n z,v=.bZ id o n z→σ'[id]?=σ[id]?) : Fa k σ' v xs:=by
 cases h with
 | nil=>exact .nil
 | own h h1 h2 h3=>exact .own h (by rw [hs _ _ _ _ rfl];exact h1) h2 h3
theorem Fa.dom {k : Nat} {σ : Store} {v : VV} {xs : List (List VV)} (h : Fa k σ v xs) {id o n z : Nat} (e : v=.bZ id o n z) : id < σ.length:=by
 cases h with
 | nil=>cases e
 | own h h1 h2=>cases e;exact (List.getElem?_eq_some_iff.1 h1).1
theorem Fa.snoc {k : Nat} {σ : Store} {v : VV} {xs : List (List VV)} (h : Fa k σ v xs) (τ : Store) : Fa k (σ++τ) v xs:=h.keep fun id o n z e=>List.getElem?_append_left (h.dom e)
theorem Fa.aT {k : Nat} {σ : Store} {v : VV} {xs : List (List VV)} (h : Fa k σ v xs) {t e : TypeId} (ht : iF Tryz.prog t=some e) {σ' : Store} : aT Tryz.prog t v σ'=okV (.int .i64 xs.length) σ':=by
 cases h with
 | nil=>exact qw (by simp [ht])
 | own h h1 h2=>exact y9 (by simp [ht])
theorem Fa.row {k : Nat} {σ : Store} {v : VV} {xs : List (List VV)} (h : Fa k σ v xs) (hne : xs≠[]) : ∃ id cells,v=.bZ id 0 xs.length k∧σ[id]?=some (.own cells)∧cells.take (xs.length*k)=xs.flatten∧xs.length*k≤cells.length:=by
 cases h with
 | nil=>exact absurd rfl hne
 | own h h1 h2 h3=>exact ⟨_,_,rfl,h1,h2,h3⟩
theorem Fa.at {k : Nat} {σ : Store} {v : VV} {xs : List (List VV)} (h : Fa k σ v xs) {j : Nat} (hj : j < xs.length) : ∃ id cells,v=.bZ id 0 xs.length k∧σ[id]?=some (.own cells)∧j*k+k≤cells.length∧(cells.drop (j*k)).take k=xs[j]:=by
 obtain ⟨id,cells,h1,h2,h3,h4⟩:=h.row (by intro e;rw [e] at hj;simp at hj)
 have hm : j*k+k≤xs.length*k:=by rw [← Nat.succ_mul];exact Nat.mul_le_mul_right _ hj
 refine ⟨id,cells,h1,h2,by omega, ?_⟩
 have hf:=h.blk.og hj
 rw [← h3,List.drop_take,List.take_take,Nat.min_eq_left (by omega)] at hf
 exact hf
theorem Fa.cut {k : Nat} {σ : Store} {v : VV} {xs : List (List VV)} (h : Fa k σ v xs) (m : Nat) (hm : m≤xs.length) (hk : 0 < k) {t e : TypeId} (ht : iF Tryz.prog t=some e) (hz : eH Tryz.prog e=some k) {σ' : Store} :
  ∃ p v',p∧dX Tryz.prog t v none (some (m : Int)) none σ'=some ⟨p,v',σ'⟩∧Fa k σ v' (xs.take m)∧(v'=v∨∃ id o n z n' o' z',v=.bZ id o n z∧v'=.bZ id o' n' z'):=by
 cases h with
 | nil =>
  obtain rfl : m=0:=by simpa using hm
  have e : dX Tryz.prog t .nils none (some ((0 : Nat) : Int)) none σ'=some ⟨(bounds 0 none (some ((0 : Nat) : Int))).1∧(none : Option Int)=none,.nils,σ'⟩:=by simp only [dX,ht,hz]
  exact ⟨_,_,by simp [bounds],e,by simp;exact .nil,.inl rfl⟩
 | @own id cells xs h h1 h2 h3 =>
  have hl : (xs.take m).length=m:=by simp;omega
  have e : dX Tryz.prog t (.bZ id 0 xs.length k) none (some (m : Int)) none σ'=some ⟨(bounds xs.length none (some (m : Int))).1∧0 < k,.bZ id 0 m k,σ'⟩:=by simp [dX,ht,hz,bounds]
  refine ⟨_,_,⟨by simp [bounds];omega,hk⟩,e, ?_,.inr ⟨_,_,_,_,_,_,_,rfl,rfl⟩⟩
  ·have:=Fa.own (k:=k) (σ:=σ) (id:=id) (cells:=cells) (xs:=xs.take m) (h.take m) h1 ?_ ?_
   ·rw [hl] at this;exact this
   ·rw [hl]
    have hmm : m*k≤xs.length*k:=Nat.mul_le_mul_right _ hm
    have:=congrArg (List.take (m*k)) h2
    rw [List.take_take,Nat.min_eq_left hmm] at this
    rw [this]
    have e2 : xs.flatten=(xs.take m).flatten++(xs.drop m).flatten:=by rw [← List.flatten_append,List.take_append_drop]
    rw [e2,List.take_append_of_le_length (by rw [(h.take m).flat,hl];exact Nat.le_refl _),List.take_of_length_le (by rw [(h.take m).flat,hl];exact Nat.le_refl _)]
   ·rw [hl]
    have hmm : m*k≤xs.length*k:=Nat.mul_le_mul_right _ hm
    omega
theorem Fa.step {k : Nat} {σ : Store} {v x : VV} {xs ys : List (List VV)} (h : Fa k σ v xs) {t tx e : TypeId} {by_ : Nat} {z : List VV} (ht : iF Tryz.prog t=some e) (hk : eH Tryz.prog e=some k) (hy : Yr Tryz.prog e=some by_) (hz : bG Tryz.prog e=some z) (hzk : z.length=k) (hk0 : 0 < k) (hb : by_≤1000) (hC : dh k ys) (hne : ys≠[]) (hl : xs.length+ys.length≤1000000)
  (hx : aJ Tryz.prog σ k tx x=some (ys.length,ys.flatten)) {d : Nat} {r : List VO} {Q : Out→Env→Store→Prop} {ρ : Env} (hn : ∀ v' σ',Fa k σ' v' (xs++ys)→Kept σ v σ'→New σ v v'→bM Tryz.prog G0 r Q ((d,v')::ρ) σ') : eF Tryz.prog G0 (bF Tryz.prog t tx v x σ) (some d) r Q ρ:=by
 have h0 : ys.length≠0:=by simpa using hne
 have hbb:=Nat.mul_le_mul hl hb
 cases h with
 | nil =>
  simp only [bF,ht,hk,hy,hz,hx,if_neg h0]
  simp only [List.length_nil,Nat.zero_add] at hl hbb
  refine ⟨⟨by omega,by rw [Nat.zero_add];omega,hC.flat,hk0,hC.xg,hzk⟩, ?_⟩
  refine hn _ _ ?_ ⟨by simp,fun j hj _=>List.getElem?_append_left hj⟩ (fun id o n z e=>by cases e;exact .inl (Nat.le_refl _))
  have e1 : (σ++[Obj.own ys.flatten])[σ.length]?=some (.own ys.flatten):=by simp
  exact .own hC e1 (by rw [← hC.flat,List.take_length]) (by rw [hC.flat];exact Nat.le_refl _)
 | @own id cells xs h h1 h2 h3 =>
  have hlt:=(List.getElem?_eq_some_iff.1 h1).1
  simp only [bF,ht,hk,hy,hz,hx,h1,if_true,List.drop_zero,h2]
  have hall : aQ xs.flatten=true:=h.xg
  refine ⟨⟨⟨by omega,by omega,hC.flat,hk0,hC.xg,hzk⟩,by omega,hall⟩, ?_⟩
  have hBB : dh k (xs++ys):=h.append hC
  have:=hn (.bZ σ.length 0 (xs++ys).length k) (σ.set id .dead++[.own (xs++ys).flatten]) ?_ ?_ ?_
  ·rw [List.length_append,List.flatten_append] at this;exact this
  ·refine .own hBB (cells:=(xs++ys).flatten) (by simp) (by rw [← hBB.flat,List.take_length]) (by rw [hBB.flat];exact Nat.le_refl _)
  ·refine ⟨by simp,fun j hj hne=>?_⟩
   rw [List.getElem?_append_left (by simpa using hj),List.getElem?_set_ne (fun e=>hne _ _ _ (by rw [e]))]
  ·exact fun id o n z e=>by cases e;exact .inl (Nat.le_refl _)
end Go.V
namespace Go.V
open Go.Proofs
set_option maxRecDepth 100000
def bb (l : List Bool) : List (List VV):=l.map fun b=>[VV.bool b]
theorem YH (l : List Bool) : (bb l).length=l.length:=by simp [bb]
theorem ZY (l : List Bool) : dh 1 (bb l):=by
 refine ⟨fun x hx=>?_,fun x hx=>?_,fun x hx=>?_⟩<;>obtain ⟨p,hp,rfl⟩:=List.mem_map.1 hx<;>rfl
theorem aam (l : List Bool) : (bb l).flatten=l.map VV.bool:=by
 induction l with
 | nil=>rfl
 | cons b l ih=>simp only [bb,List.map_cons,List.flatten_cons] at *;rw [ih];rfl
theorem Y5 (x y : Operand) (a b : Bool) (σ : Store) : lV Tryz.prog .neq 4 x y (.bool a) (.bool b) σ=okV (.bool (!(a == b))) σ:=by
 simp [lV,VV.tZ,VV.gK,VV.isAgg,Ci,QT,okV]
def CX (st : List Bool) (n : Nat) (truth : Bool) : Option (List Bool):=if st.length < n then none else if (st.drop (st.length-n)).all (fun b=>b == truth)=true then some (st.take (st.length-n)) else none
theorem aao (mid : Nat) (v : VV) (st : List Bool) (σ : Store) (hm : σ[mid]?=some (.own [v])) (hP : Fa 1 σ v (bb st)) (hl : st.length≤1000) (n : Nat) (hn : 0 < n) (hn2 : n≤10) (truth : Bool) :
  CV Tryz.prog G0 79 [.mptr mid 0,.int .i64 n,.bool truth] σ fun r σ'=>match CX st n truth with
   | none=>r=.ret (.bool false)∧σ'=σ
   | some st'=>r=.ret (.bool true)∧∃ v',σ'=σ.set mid (.own [v'])∧Fa 1 σ v' (bb st')∧(∀ id o n z,v'=.bZ id o n z→∃ o' n' z',v=.bZ id o' n' z'):=by
 have hc:=hP.cell
 simp only [go_sem,seval] at hc
 have hle : ∀ {σ'},aT Tryz.prog 85 v σ'=okV (.int .i64 st.length) σ':=by intro σ';rw [hP.aT JW,YH]
 refine cv e79 (by simp) ?_
 have e1 : IntKind.i64.wrap ((st.length : Int)-(n : Int))=(st.length : Int)-(n : Int):=iw (by omega)
 unfold CX
 by_cases h1 : st.length < n
 ·have b1 : decide ((st.length : Int)-(n : Int) < 0)=true:=decide_eq_true (by omega)
  rw [if_pos h1]
  simp only [go_sem,seval,c79,hm,hc,hle,e1,b1]
 rw [if_neg h1]
 have b1 : decide ((st.length : Int)-(n : Int) < 0)=false:=decide_eq_false (by omega)
 have hne : st≠[]:=by intro e;rw [e] at h1;simp at h1;omega
 obtain ⟨id,cells,rfl,hid,htk,hcl⟩:=hP.row (by simpa [bb] using hne)
 rw [YH] at htk hcl hc hm hle hP ⊢
 rw [aam,Nat.mul_one] at htk
 obtain ⟨m,hmm⟩ : ∃ m : Nat,m=st.length-n:=⟨_,rfl⟩
 have e2 : (st.length : Int)-(n : Int)=(m : Int):=by omega
 rw [e2] at e1 b1
 rw [← hmm]
 have e3 : dX Tryz.prog 85 (.bZ id 0 st.length 1) (some (m : Int)) none none σ=some ⟨(bounds st.length (some (m : Int)) none).1∧0 < 1,.bZ id m n 1,σ⟩:=by
  simp only [dX,JW,Zg,bounds,Option.getD_some,Option.getD_none,Int.toNat_natCast,Nat.mul_one,Nat.zero_add]
  rw [if_pos ⟨trivial,trivial⟩,if_neg (by omega),show st.length-m=n by omega]
 have e4 : (bounds st.length (some (m : Int)) none).1∧0 < 1:=by simp [bounds];omega
 have hel : ∀ j,j < st.length→cells.getD j .undef=.bool (st.getD j false):=by
  intro j hj
  have:=congrArg (·[j]?) htk
  simp only [List.getElem?_take_of_lt hj,List.getElem?_map] at this
  rw [List.getD_eq_getElem?_getD,this,List.getElem?_eq_getElem hj]
  simp [List.getD_eq_getElem?_getD,hj]
 have hcl' : st.length≤cells.length:=by simpa using hcl
 have h11 : (0 : Nat) < 1:=by decide
 simp only [go_sem,seval,c79,hm,hle,e1,e2,b1,QL,e3]
 refine ⟨⟨⟨by omega,by omega⟩,Int.le_refl _⟩, ?_⟩
 refine bf (M:=fun ρ τ=>ρ.get 0=.mptr mid 0∧ρ.get 7=.int .i64 m∧τ=σ∧(st.drop m).all (fun b=>b == truth)=true) ?_ ?_
 ·rintro ρ τ ⟨q0,q7,rfl,hall⟩
  obtain ⟨p,v',hp,he,hPP,hvv⟩:=hP.cut m (by rw [YH];omega) (by decide) JW Zg (σ':=τ)
  have hlt:=(List.getElem?_eq_some_iff.1 hm).1
  rw [if_pos hall]
  have fin2 : p∧gY.ret (.bool true)=gY.ret (.bool true)∧∃ v'',τ.set mid (.own [v'])=τ.set mid (.own [v''])∧Fa 1 τ v'' (bb (st.take m))∧∀ id' o n' z,v''=.bZ id' o n' z→∃ o' n'' z',VV.bZ id 0 st.length 1=.bZ id' o' n'' z':=by
   refine ⟨hp,rfl,v',rfl, ?_, ?_⟩
   ·have : (bb st).take m=bb (st.take m):=by simp [bb]
    rw [← this];exact hPP
   ·intro id' o n' z hv
    rcases hvv with rfl | ⟨i1,o1,n1,z1,n2,o2,z2,h1,h2⟩
    ·exact ⟨_,_,_,hv⟩
    ·cases h1
     rw [h2] at hv
     cases hv
     exact ⟨_,_,_,rfl⟩
  rcases hPP.shape with rfl | ⟨i0,n0,rfl⟩
  ·simp only [go_sem,seval,q0,q7,hm,QL,he]
   exact ⟨fin2.1,fin2.2.2⟩
  ·simp only [go_sem,seval,q0,q7,hm,QL,he]
   exact ⟨fin2.1,fin2.2.2⟩
 refine aF (fun k ρ τ=>∃ j : Nat,k=n-j∧j≤n∧(∀ i,i < j→st.getD (m+i) false=truth)∧ρ.get 0=.mptr mid 0∧ρ.get 2=.bool truth∧ρ.get 7=.int .i64 m∧ρ.get 24=.bZ id m n 1∧ρ.get 25=.int .i64 n∧ρ.get 26=.int .i64 j∧τ=σ) (n:=n) ?_ ⟨0,rfl,by omega,fun _ h=>absurd h (Nat.not_lt_zero _),rfl,rfl,rfl,rfl,rfl,rfl,rfl⟩
 rintro k ρ τ ⟨j,rfl,hj,hall,q0,q2,q7,q24,q25,q26,rfl⟩
 by_cases hc' : j < n
 rotate_left
 ·have a5 : decide ((j : Int) < (n : Int))=false:=decide_eq_false (by omega)
  simp only [go_sem,seval,q0,q7,q25,q26,a5]
  rw [List.all_eq_true]
  intro b hb
  obtain ⟨i,hi,rfl⟩:=List.getElem_of_mem hb
  simp only [List.length_drop] at hi
  have:=hall i (by omega)
  rw [List.getD_eq_getElem?_getD,List.getElem?_eq_getElem (by omega)] at this
  simpa using this
 have a5 : decide ((j : Int) < (n : Int))=true:=decide_eq_true (by omega)
 have a0 : (0 : Int)≤(j : Int):=by omega
 have a2 : (j : Int) < (n : Int):=by omega
 have a6 : IntKind.i64.wrap ((j : Int)+1)=((j+1 : Nat) : Int):=by rw [iw (by omega)];omega
 have hg:=hel (m+j) (by omega)
 have hg2 : m+j < cells.length:=by omega
 by_cases hb : st.getD (m+j) false=truth
 ·rw [hb] at hg
  simp only [go_sem,seval,q0,q2,q7,q24,q25,q26,a0,a2,a5,a6,Int.toNat_natCast,Nat.mul_one,hid,hg,hg2,Y5,beq_self_eq_true,Bool.not_true]
  refine ⟨n-(j+1),by omega,j+1,rfl,by omega,fun i h=>?_,rfl⟩
  rcases Nat.lt_succ_iff_lt_or_eq.1 h with h | rfl
  ·exact hall i h
  ·exact hb
 ·have nb : (st.getD (m+j) false == truth)=false:=by simpa using hb
  simp only [go_sem,seval,q0,q2,q7,q24,q25,q26,a0,a2,a5,a6,Int.toNat_natCast,Nat.mul_one,hid,hg,hg2,Y5,nb,Bool.not_false]
  have hno : ¬ (st.drop m).all (fun b=>b == truth)=true:=by
   rw [List.all_eq_true]
   intro h
   have h1:=h (st.getD (m+j) false) (by
    rw [List.getD_eq_getElem?_getD,List.getElem?_eq_getElem (by omega),Option.getD_some]
    exact List.mem_iff_getElem.2 ⟨j,by simp;omega,by simp⟩)
   rw [nb] at h1;cases h1
  rw [if_neg hno]
  trivial
end Go.V
namespace Go.V
open Go.Proofs
set_option maxRecDepth 100000
structure Am where
 k : Int
 p : List Sg
 op : Int
 ck : Int
 ci : Int
 ct : Bs
def Am.cells (a : Am) (pw : VV) : List VV:=[.int .i64 a.k,pw,.int .i64 a.op,.int .i64 a.ck,.int .i64 a.ci,.str a.ct]
def CW (st : List Bool) (k : Int) : Option (List Bool) :=
 if k=5 then (CX st 2 false).map (·++[true]) else if k=6 then (CX st 1 true).map (·++[true]) else if k=7∨k=8 then (CX st 2 true).map (·++[true]) else some (st++[decide (k=4)])
theorem YK {st st' : List Bool} {n : Nat} {b : Bool} (h : CX st n b=some st') : st'.length≤st.length:=by
 unfold CX at h
 split at h
 ·cases h
 ·split at h
  ·cases h;simp
  ·cases h
theorem ZU {σ : Store} (b : Bool) : aJ Tryz.prog σ 1 85 (.sl 1 [.bool b] true)=some ((bb [b]).length,(bb [b]).flatten):=by
 have hB : dh 1 (bb [b]):=ZY _
 have:=(dG.sl (bb [b]) true hB).src (P:=Tryz.prog) (σ:=σ) JW
 simpa [bb] using this
theorem aaJ (mid : Nat) (v : VV) (st : List Bool) (σ : Store) (hm : σ[mid]?=some (.own [v])) (hP : Fa 1 σ v (bb st)) (hl : st.length≤1000) (hne : ∀ id o n z,v=.bZ id o n z→id≠mid) (a : Am) (pw : VV) (hpc : pw.aC=true) :
  CV Tryz.prog G0 37 [.mptr mid 0,.agg (a.cells pw)] σ fun r σ'=>match CW st a.k with
   | none=>r=.ret (.bool false)
   | some st'=>r=.ret (.bool true)∧∃ v',σ'[mid]?=some (.own [v'])∧Fa 1 σ' v' (bb st')∧∀ id o n z,v'=.bZ id o n z→id≠mid:=by
 have hml:=(List.getElem?_eq_some_iff.1 hm).1
 have h1 : ∀ υ,(σ++υ)[mid]?=some (.own [v]):=fun υ=>by rw [List.getElem?_append_left hml];exact hm
 have hP1:=fun υ=>hP.snoc υ
 simp only [go_sem,seval] at hpc
 refine cv e37 (by simp) ?_
 refine eU (M:=fun ρ τ=>ρ.get 0=.mptr mid 0∧ρ.get 3=.mptr σ.length 0∧τ=σ++[.own (a.cells pw)]) ?_ ?_
 ·simp only [go_sem,seval,c37,Am.cells,hpc]
 rintro ρ _ ⟨q0,q3,rfl⟩
 refine eU (M:=fun ρ τ=>ρ.get 0=.mptr mid 0∧ρ.get 3=.mptr σ.length 0∧ρ.get 5=.bool true∧ρ.get 6=.bool true∧τ=σ++[.own (a.cells pw)]) ?_ ?_
 ·simp only [go_sem,seval,q0,q3]
 rintro ρ _ ⟨q0,q3,q5,q6,rfl⟩
 have hcell : ∀ υ,(σ++[Obj.own (a.cells pw)]++υ)[σ.length]?=some (.own (a.cells pw)):=fun υ=>by rw [List.append_assoc];simp
 have hcell0 : (σ++[Obj.own (a.cells pw)])[σ.length]?=some (.own (a.cells pw)):=by simp
 have g0 : (a.cells pw).getD 0 .undef=.int .i64 a.k:=rfl
 have g1 : (a.cells pw).length=6:=rfl
 refine eU (M:=fun ρ τ=>∃ u s b t,ρ.get 0=.mptr mid 0∧ρ.get 5=.bool b∧ρ.get 6=.bool t∧τ[mid]?=some (.own [u])∧Fa 1 τ u (bb s)∧(∀ id o n z,u=.bZ id o n z→id≠mid)∧CW st a.k=(if b=true then some (s++[t]) else none)∧s.length≤1000) ?_ ?_
 ·have take : ∀ (n : Nat) (hn : 0 < n) (hn2 : n≤10) (tr : Bool) (R : gY→Store→Prop),CW st a.k=(CX st n tr).map (·++[true])→(∀ r τ,(∃ u s b,r=.ret (.bool b)∧τ[mid]?=some (.own [u])∧Fa 1 τ u (bb s)∧(∀ id o n z,u=.bZ id o n z→id≠mid)∧CW st a.k=(if b=true then some (s++[true]) else none)∧s.length≤1000)→R r τ)→CV Tryz.prog G0 79 [.mptr mid 0,.int .i64 n,.bool tr] (σ++[.own (a.cells pw)]) R:=by
   intro n hn hn2 tr R hd hR
   refine CV.mono (aao mid v st _ (h1 _) (hP1 _) hl n hn hn2 tr) ?_
   rintro r τ h
   refine hR r τ ?_
   cases ht : CX st n tr with
   | none =>
    rw [ht] at h hd
    obtain ⟨rfl,rfl⟩:=h
    exact ⟨v,st,false,rfl,h1 _,hP1 _,hne,by rw [hd];rfl,hl⟩
   | some st' =>
    rw [ht] at h hd
    obtain ⟨rfl,v',rfl,hP',hv'⟩:=h
    have hml2 : mid < (σ++[Obj.own (a.cells pw)]).length:=by simp;omega
    refine ⟨v',st',true,rfl,List.getElem?_set_self hml2,hP'.keep fun id o n z e=>?_,fun id o n z e=>?_,by rw [hd];rfl,by have:=YK ht;omega⟩
    ·obtain ⟨o',n',z',e'⟩:=hv' id o n z e
     exact List.getElem?_set_ne (fun h=>hne _ _ _ _ e' h.symm)
    ·obtain ⟨o',n',z',e'⟩:=hv' id o n z e
     exact hne _ _ _ _ e'
  have m2 : ((2 : Nat) : Int)=2:=rfl
  have m1 : ((1 : Nat) : Int)=1:=rfl
  by_cases k5 : a.k=5
  ·have b5 : (a.k == 5)=true:=by simpa using k5
   have T:=take 2 (by decide) (by decide) false
   rw [m2] at T
   simp only [go_sem,seval,q0,q3,q5,q6,hcell0,g0,g1,b5]
   refine T _ (by unfold CW;rw [if_pos k5]) ?_
   rintro r τ ⟨u,s,b,rfl,t0,tP,tn,td,tl⟩
   simp only [go_sem,seval,gZ,q0,q6]
   exact ⟨u,s,b,true,rfl,rfl,t0,tP,tn,td,tl⟩
  have b5 : (a.k == 5)=false:=by simpa using k5
  by_cases k6 : a.k=6
  ·have b6 : (a.k == 6)=true:=by simpa using k6
   have T:=take 1 (by decide) (by decide) true
   rw [m1] at T
   simp only [go_sem,seval,q0,q3,q5,q6,hcell0,g0,g1,b5,b6]
   refine T _ (by unfold CW;rw [if_neg k5,if_pos k6]) ?_
   rintro r τ ⟨u,s,b,rfl,t0,tP,tn,td,tl⟩
   simp only [go_sem,seval,gZ,q0,q6]
   exact ⟨u,s,b,true,rfl,rfl,t0,tP,tn,td,tl⟩
  have b6 : (a.k == 6)=false:=by simpa using k6
  by_cases k7 : a.k=7
  ·have b7 : (a.k == 7)=true:=by simpa using k7
   have T:=take 2 (by decide) (by decide) true
   rw [m2] at T
   simp only [go_sem,seval,q0,q3,q5,q6,hcell0,g0,g1,b5,b6,b7]
   refine T _ (by unfold CW;rw [if_neg k5,if_neg k6,if_pos (.inl k7)]) ?_
   rintro r τ ⟨u,s,b,rfl,t0,tP,tn,td,tl⟩
   simp only [go_sem,seval,gZ,q0,q6]
   exact ⟨u,s,b,true,rfl,rfl,t0,tP,tn,td,tl⟩
  have b7 : (a.k == 7)=false:=by simpa using k7
  by_cases k8 : a.k=8
  ·have b8 : (a.k == 8)=true:=by simpa using k8
   have T:=take 2 (by decide) (by decide) true
   rw [m2] at T
   simp only [go_sem,seval,q0,q3,q5,q6,hcell0,g0,g1,b5,b6,b7,b8]
   refine T _ (by unfold CW;rw [if_neg k5,if_neg k6,if_pos (.inr k8)]) ?_
   rintro r τ ⟨u,s,b,rfl,t0,tP,tn,td,tl⟩
   simp only [go_sem,seval,gZ,q0,q6]
   exact ⟨u,s,b,true,rfl,rfl,t0,tP,tn,td,tl⟩
  have b8 : (a.k == 8)=false:=by simpa using k8
  have hd : CW st a.k=some (st++[decide (a.k=4)]):=by unfold CW;rw [if_neg k5,if_neg k6,if_neg (by omega)]
  by_cases k4 : a.k=4
  ·have b4 : (a.k == 4)=true:=by simpa using k4
   simp only [go_sem,seval,q0,q3,q5,q6,hcell0,g0,g1,b5,b6,b7,b8,b4]
   exact ⟨v,st,true,true,rfl,rfl,h1 _,hP1 _,hne,by rw [hd];simp [k4],hl⟩
  ·have b4 : (a.k == 4)=false:=by simpa using k4
   simp only [go_sem,seval,q0,q3,q5,q6,hcell0,g0,g1,b5,b6,b7,b8,b4]
   exact ⟨v,st,true,false,rfl,rfl,h1 _,hP1 _,hne,by rw [hd];simp [k4],hl⟩
 rintro ρ τ ⟨u,s,b,t,q0,q5,q6,t0,tP,tn,td,tl⟩
 rw [td]
 have hml2:=(List.getElem?_eq_some_iff.1 t0).1
 rcases tP.shape with rfl | ⟨i0,n0,rfl⟩
 all_goals
  simp only [go_sem,seval,q0,q5,q6,t0]
  refine tP.step (ys:=bb [t]) JW Zg aak ZP rfl (by decide) (by decide) (ZY _) (by simp [bb]) (by simp [bb];omega) (ZU t) fun v' σ' hP' hK hN=>?_
  have hm' : σ'[mid]?=τ[mid]?:=hK.2 mid hml2 (fun o n z e=>tn _ _ _ _ e rfl)
  rw [t0] at hm'
  have hml3:=(List.getElem?_eq_some_iff.1 hm').1
  have hvn : ∀ id o n z,v'=.bZ id o n z→id≠mid:=fun id o n z e=>by
   rcases hN id o n z e with h | ⟨o',n',z',e'⟩
   ·omega
   ·exact tn _ _ _ _ e'
  have fin2 : (match if b=true then some (s++[t]) else none with
   | none=>gY.ret (VV.bool b)=.ret (.bool false)
   | some st'=>gY.ret (VV.bool b)=.ret (.bool true)∧∃ v'',(σ'.set mid (.own [v']))[mid]?=some (.own [v''])∧Fa 1 (σ'.set mid (.own [v'])) v'' (bb st')∧∀ id o n z,v''=.bZ id o n z→id≠mid):=by
   cases b with
   | false=>rfl
   | true =>
    refine ⟨rfl,v',List.getElem?_set_self hml3, ?_,hvn⟩
    have e : bb s++bb [t]=bb (s++[t]):=by simp [bb]
    rw [e] at hP'
    exact hP'.keep fun id o n z e=>List.getElem?_set_ne (fun h=>hvn _ _ _ _ e h.symm)
  rcases hP'.shape with rfl | ⟨i1,n1,rfl⟩
  all_goals
   simp only [go_sem,seval,q0,q5,hm']
   exact fin2
end Go.V
namespace Go.V
open Go.Proofs
set_option maxRecDepth 100000
theorem aaL (k a b c k' a' b' c' : Int) (t t' : Bs) : Ci Tryz.prog 9 99 (.agg [.int .i64 k,.int .i64 a,.int .i64 b,.int .i64 c,.str t]) (.agg [.int .i64 k',.int .i64 a',.int .i64 b',.int .i64 c',.str t'])=some (k == k' && (a == a' && (b == b' && (c == c' && t == t')))):=by
 rw [Ci.eq_def]
 simp only [aai,aah,List.foldr,partOf,L9,LV,List.getElem?_cons_zero,List.getElem?_cons_succ]
 rw [Ci.eq_def,Ci.eq_def,Ci.eq_def,Ci.eq_def,Ci.eq_def]
 simp [Qi,QK]
theorem Za (x y : Operand) (k a b c k' a' b' c' : Int) (t t' : Bs) (σ : Store) : lV Tryz.prog .neq 99 x y (.agg [.int .i64 k,.int .i64 a,.int .i64 b,.int .i64 c,.str t]) (.agg [.int .i64 k',.int .i64 a',.int .i64 b',.int .i64 c',.str t']) σ=okV (.bool (!(k == k' && (a == a' && (b == b' && (c == c' && t == t')))))) σ:=by
 simp only [lV,VV.tZ,VV.gK,VV.isAgg,aae,aaL,Option.map_some,okV]
 rfl
def Sg.bare (s : Sg) : Bool:=if s.k=0 then s.i == 0 && (s.lo == 0 && s.hi == 0) else if s.k=1 then s.lo == 0 && (s.hi == 0 && s.t == []) else false
theorem aav (s : Sg) (hk : s.k=0∨s.k=1) : PV Tryz.prog G0 118 [.agg s.cells] (.int .i64 (if s.bare=true then 0 else 1)):=by
 obtain ⟨k,a,b,c,t⟩:=s
 simp only at hk
 refine pv e118 (by simp) rfl rfl ?_
 rcases hk with rfl | rfl
 ·have hE : (!((0 : Int) == 0 && (a == 0 && (b == 0 && (c == 0 && ([] : Bs) == [])))))=!(⟨0,a,b,c,t⟩ : Sg).bare:=by simp [Sg.bare]
  generalize (⟨0,a,b,c,t⟩ : Sg).bare=r at *
  simp only [go_sem,seval] at hE
  cases r with
  | true =>
   simp only [go_sem,seval,c118,Sg.cells,Za,hE,Bool.not_true]
   exact fin (by rfl) rfl
  | false =>
   simp only [go_sem,seval,c118,Sg.cells,Za,hE,Bool.not_false]
   exact fin (by rfl) rfl
 ·have hE : (!((1 : Int) == 1 && ((0 : Int) == 0 && (b == 0 && (c == 0 && t == [])))))=!(⟨1,a,b,c,t⟩ : Sg).bare:=by simp [Sg.bare]
  generalize (⟨1,a,b,c,t⟩ : Sg).bare=r at *
  simp only [go_sem,seval] at hE
  cases r with
  | true =>
   simp only [go_sem,seval,c118,Sg.cells,Za,hE,Bool.not_true]
   exact fin (by rfl) rfl
  | false =>
   simp only [go_sem,seval,c118,Sg.cells,Za,hE,Bool.not_false]
   exact fin (by rfl) rfl
def NQ (l : List Sg) : Bool:=decide (l.length≤32) && l.all Sg.bare
theorem aax (path : List Sg) (pw : VV) (hp : dG 5 pw (path.map Sg.cells)) (hl : path.length≤9223372036854775807) (hk : ∀ s ∈ path,s.k=0∨s.k=1) :
  ∃ c p,(c=0↔NQ path=true)∧PV Tryz.prog G0 78 [pw] (zD c p):=by
 have hpp:=hp.pure
 have hpc:=hp.cell
 simp only [go_sem,seval] at hpc
 have lp : ∀ {σ},aT Tryz.prog 51 pw σ=okV (.int .i64 path.length) σ:=by intro σ;rw [hp.aT zF];simp
 have a0 : ∀ j : Nat,(0 : Int)≤(j : Int):=fun j=>by omega
 have hfp : ∀ c p,(zD c p).isPure=true:=fun c p=>by unfold zD;split<;>rfl
 by_cases hlen : path.length≤32
 rotate_left
 ·refine ⟨14,32,by simp [NQ,hlen],pv e78 (by simp) (by simp only [VV.ak,VV.isPure,hpp];rfl) (hfp _ _) ?_⟩
  have b1 : decide ((32 : Int) < (path.length : Int))=true:=decide_eq_true (by omega)
  simp only [go_sem,seval,c78,hpc,lp,b1]
  (first | refine ah (uh 14 32) ?_ | refine aK (uh 14 32) ?_ | refine aI (uh 14 32) ?_ | refine aj (uh 14 32) (by simp only [go_sem,seval]) ?_ | refine aj (uh 14 32) ?_ ?_)<;>simp only [go_sem,seval]
  exact fin (hfp _ _) rfl
 have b1 : decide ((32 : Int) < (path.length : Int))=false:=decide_eq_false (by omega)
 have first : (∀ (i : Nat) (h : i < path.length),path[i].bare=true)∨∃ (i : Nat) (h : i < path.length),path[i].bare=false∧∀ (i' : Nat) (h : i' < path.length),i' < i→path[i'].bare=true:=by
  clear hp lp hl hlen b1 hk
  induction path with
  | nil=>exact .inl fun i h=>absurd h (Nat.not_lt_zero _)
  | cons s r ih =>
   cases hs : s.bare with
   | false=>exact .inr ⟨0,by simp,hs,fun i' _ h=>absurd h (Nat.not_lt_zero _)⟩
   | true =>
    rcases ih with h | ⟨i,hi,h1,h2⟩
    ·exact .inl fun i hi=>by cases i with | zero=>exact hs | succ i=>exact h i (by simpa using hi)
    ·exact .inr ⟨i+1,by simpa using hi,h1,fun i' hi' h=>by cases i' with | zero=>exact hs | succ i'=>exact h2 i' (by simpa using hi') (by omega)⟩
 have hloop : ∀ (c p : Int),((∀ (i : Nat) (h : i < path.length),path[i].bare=true)→c=0∧p=0)→(∀ (i : Nat) (h : i < path.length),path[i].bare=false→(∀ (i' : Nat) (h : i' < path.length),i' < i→path[i'].bare=true)→c=1∧p=i)→PV Tryz.prog G0 78 [pw] (zD c p):=by
  intro c p hall hone
  refine pv e78 (by simp) (by simp only [VV.ak,VV.isPure,hpp];rfl) (hfp _ _) ?_
  simp only [go_sem,seval,c78,hpc,lp,b1]
  refine bf (M:=fun ρ τ=>∀ (i : Nat) (h : i < path.length),path[i].bare=true) ?_ ?_
  ·rintro ρ τ h
   obtain ⟨rfl,rfl⟩:=hall h
   simp only [go_sem,seval]
   exact fin (hfp _ _) rfl
  refine aF (fun m ρ τ=>∃ j : Nat,m=path.length-j∧j≤path.length∧(∀ (i : Nat) (h : i < path.length),i < j→path[i].bare=true)∧ρ.get 10=pw∧ρ.get 11=.int .i64 path.length∧ρ.get 12=.int .i64 j) (n:=path.length) ?_ ⟨0,rfl,by omega,fun _ _ h=>absurd h (Nat.not_lt_zero _),rfl,rfl,rfl⟩
  rintro m ρ τ ⟨j,rfl,hj,hb,q10,q11,q12⟩
  by_cases hc' : j < path.length
  rotate_left
  ·have a5 : decide ((j : Int) < (path.length : Int))=false:=decide_eq_false (by omega)
   simp only [go_sem,seval,q11,q12,a5]
   exact fun i h=>hb i h (by omega)
  obtain ⟨tg,hit,a3,a4⟩:=hp.jr (j:=j) (by simpa using hc')
  rw [List.getElem_map] at a4
  rw [List.length_map] at hit
  have a2 : (j : Int) < (path.length : Int):=by omega
  have a5 : decide ((j : Int) < (path.length : Int))=true:=decide_eq_true a2
  have a6 : IntKind.i64.wrap ((j : Int)+1)=((j+1 : Nat) : Int):=by rw [iw (by omega)];omega
  have hW:=aav path[j] (hk _ (List.getElem_mem hc'))
  have hs : ∀ i (h : i < path.length),i=j→path[i].bare=path[j].bare:=fun i h e=>by subst e;rfl
  have s1 : path[j].cells.length=5:=rfl
  have s2 : path[j].cells.all VV.aC=true:=rfl
  have s3 : path[j].cells.take 5=path[j].cells:=rfl
  cases hbj : path[j].bare with
  | true =>
   rw [hbj,if_pos rfl] at hW
   simp only [go_sem,seval,q10,q11,q12,hit,a0,a2,a3,a4,a5,a6,Int.toNat_natCast,s1,s2,s3,SS]
   (first | refine ah (hW) ?_ | refine aK (hW) ?_ | refine aI (hW) ?_ | refine aj (hW) (by simp only [go_sem,seval,q10,q11,q12,a6]) ?_ | refine aj (hW) ?_ ?_)<;>simp only [go_sem,seval,q10,q11,q12,a6]
   refine ⟨path.length-(j+1),by omega,j+1,rfl,by omega,fun i h h1=>?_,hit,rfl⟩
   rcases Nat.lt_succ_iff_lt_or_eq.1 h1 with h1 | h1
   ·exact hb i h h1
   ·rw [hs i h h1];exact hbj
  | false =>
   rw [hbj,if_neg (by decide)] at hW
   obtain ⟨rfl,rfl⟩:=hone j hc' hbj hb
   simp only [go_sem,seval,q10,q11,q12,hit,a0,a2,a3,a4,a5,a6,Int.toNat_natCast,s1,s2,s3,SS]
   (first | refine ah (hW) ?_ | refine aK (hW) ?_ | refine aI (hW) ?_ | refine aj (hW) (by simp only [go_sem,seval,q10,q11,q12,a6]) ?_ | refine aj (hW) ?_ ?_)<;>simp only [go_sem,seval,q10,q11,q12,a6]
   (first | refine ah (uh 1 j) ?_ | refine aK (uh 1 j) ?_ | refine aI (uh 1 j) ?_ | refine aj (uh 1 j) (by simp only [go_sem,seval]) ?_ | refine aj (uh 1 j) ?_ ?_)<;>simp only [go_sem,seval]
   exact fin (hfp _ _) rfl
 rcases first with h | ⟨i,hi,h1,h2⟩
 ·refine ⟨0,0, ?_,hloop 0 0 (fun _=>⟨rfl,rfl⟩) (fun i hi h1 _=>by rw [h i hi] at h1;cases h1)⟩
  simp only [NQ,hlen,decide_true,Bool.true_and,true_iff,List.all_eq_true]
  intro s hs
  obtain ⟨i,hi,rfl⟩:=List.getElem_of_mem hs
  exact h i hi
 ·refine ⟨1,i, ?_,hloop 1 i (fun h=>by rw [h i hi] at h1;cases h1) (fun i' hi' g1 g2=>?_)⟩
  ·simp only [NQ,Bool.and_eq_true,List.all_eq_true]
   constructor
   ·intro h;cases h
   ·rintro ⟨_,h⟩
    have:=h _ (List.getElem_mem hi)
    rw [h1] at this;cases this
  ·rcases Nat.lt_trichotomy i' i with h | h | h
   ·rw [h2 i' hi' h] at g1;cases g1
   ·exact ⟨rfl,by rw [h]⟩
   ·rw [g2 i hi h] at h1;cases h1
end Go.V
