/- Texts F133 F134 F135. -/
import Derived.Test.YtgmhpemjlbgfcaaGreatDoorG36
import Derived.Test.YtgmhpemjlbgfcaaGreatDoorG39
import Derived.Test.YtgmhpemjlbgfcaaGreatDoorG42
set_option linter.unusedVariables false
set_option linter.unusedSimpArgs false
namespace Go.V
open Go.Proofs
set_option maxRecDepth 100000
def zt : List VV:=[.int .i64 0,.int .i64 0,.str [],.nils,.nils]
theorem DI (k i : Int) (t : Bs) (kv iv : VV) (hkp : kv.isPure=true) (hip : iv.isPure=true) (hkc : kv.aC=true) (hic : iv.aC=true) (sk ix : Int) (tt : Bs) (h : sk=0∨sk=1) :
  PV Tryz.prog G0 90 [.agg [.int .i64 k,.int .i64 i,.str t,kv,iv],lJ sk ix tt] (.int .i64 (if k=sk+4 then 0 else 3)):=by
 refine pv e90 (by simp) (by simp only [VV.ak,VV.isPure,hkp,hip];rfl) rfl ?_
 simp only [go_sem,seval] at hkc
 simp only [go_sem,seval] at hic
 rcases h with rfl | rfl
 ·by_cases hk : k=4
  ·have b : (k == 4)=true:=by simpa using hk
   simp only [go_sem,seval,c90,hkc,hic,b]
   exact fin (by rfl) (by rw [if_pos (by omega)])
  ·have b : (k == 4)=false:=by simpa using hk
   simp only [go_sem,seval,c90,hkc,hic,b]
   exact fin (by rfl) (by rw [if_neg (by omega)])
 ·by_cases hk : k=5
  ·have b : (k == 5)=true:=by simpa using hk
   simp only [go_sem,seval,c90,hkc,hic,b]
   exact fin (by rfl) (by rw [if_pos (by omega)])
  ·have b : (k == 5)=false:=by simpa using hk
   simp only [go_sem,seval,c90,hkc,hic,b]
   exact fin (by rfl) (by rw [if_neg (by omega)])
theorem Uu (i : Int) (t : Bs) (kv iv : VV) (cs : List (List VV)) (hkp : kv.isPure=true) (hkc : kv.aC=true) (hi : dG 5 iv cs) (hl : cs.length≤1000000) (jj : Nat) (hj : jj < cs.length) :
  PV Tryz.prog G0 91 [.agg [.int .i64 4,.int .i64 i,.str t,kv,iv],lJ 0 jj []] (.int .i64 jj):=by
 have hip:=hi.pure
 have hic:=hi.cell
 have li : ∀ {σ},aT Tryz.prog 27 iv σ=okV (.int .i64 cs.length) σ:=by intro σ;rw [hi.aT bK]
 have a0 : ∀ j : Nat,(0 : Int)≤(j : Int):=fun j=>by omega
 refine pv e91 (by simp) (by simp only [VV.ak,VV.isPure,hkp,hip];rfl) rfl ?_
 simp only [go_sem,seval] at hkc
 simp only [go_sem,seval] at hic
 simp only [go_sem,seval,c91,hkc,hic,li]
 refine aF (fun m ρ τ=>∃ j : Nat,m=cs.length-j∧j≤jj∧ρ.get 2=.mptr 0 0∧ρ.get 3=.mptr 1 0∧ρ.get 8=iv∧ρ.get 9=.int .i64 cs.length∧ρ.get 10=.int .i64 j∧τ[0]?=some (.own [.int .i64 4,.int .i64 i,.str t,kv,iv])∧τ[1]?=some (.own [.int .i64 0,.int .i64 jj,.str []])) (n:=cs.length) ?_ ⟨0,rfl,by omega,rfl,rfl,rfl,rfl,rfl,rfl,rfl⟩
 rintro m ρ τ ⟨j,rfl,hjj,q2,q3,q8,q9,q10,t0,t1⟩
 have l0:=(List.getElem?_eq_some_iff.1 t0).1
 have l1:=(List.getElem?_eq_some_iff.1 t1).1
 have t0' : ∀ υ,(τ++υ)[0]?=some (.own [.int .i64 4,.int .i64 i,.str t,kv,iv]):=fun υ=>by rw [List.getElem?_append_left l0];exact t0
 have t1' : ∀ υ,(τ++υ)[1]?=some (.own [.int .i64 0,.int .i64 jj,.str []]):=fun υ=>by rw [List.getElem?_append_left l1];exact t1
 have hc' : j < cs.length:=by omega
 obtain ⟨tg,hit,a3,a4⟩:=hi.jr hc'
 have x1:=hi.blk.len _ (List.getElem_mem hc')
 have x3 : cs[j].all VV.aC=true:=hi.blk.cell _ (List.getElem_mem hc')
 have x4 : cs[j].take 5=cs[j]:=List.take_of_length_le (by omega)
 have a2 : (j : Int) < (cs.length : Int):=by omega
 have a5 : decide ((j : Int) < (cs.length : Int))=true:=decide_eq_true a2
 have a6 : IntKind.i64.wrap ((j : Int)+1)=((j+1 : Nat) : Int):=by rw [iw (by omega)];omega
 by_cases he : j=jj
 ·subst he
  simp only [go_sem,seval,q2,q3,q8,q9,q10,hit,a0,a2,a3,a4,a5,x1,x3,x4,t0',t1',Int.toNat_natCast,beq_self_eq_true,SS]
  exact fin (by rfl) rfl
 ·have b : ((j : Int) == (jj : Int))=false:=by rw [beq_eq_false_iff_ne];omega
  simp only [go_sem,seval,q2,q3,q8,q9,q10,hit,a0,a2,a3,a4,a5,a6,x1,x3,x4,t0',t1',Int.toNat_natCast,b,SS]
  exact ⟨cs.length-(j+1),by omega,j+1,rfl,by omega,rfl⟩
theorem Gu (i : Int) (t : Bs) (kv iv : VV) (keys : List Bs) (cs : List (List VV)) (hk : dG 1 kv (keys.map fun b=>[VV.str b])) (hi : dG 5 iv cs) (hl : cs.length≤1000000) (hkl : keys.length=cs.length) (tt : Bs) (o : Option Nat)
  (ho : match o with | some jj=>∃ h : jj < keys.length,keys[jj]=tt∧∀ (i : Nat) (h : i < keys.length),i < jj→keys[i]≠tt | none=>∀ (i : Nat) (h : i < keys.length),keys[i]≠tt) :
  PV Tryz.prog G0 91 [.agg [.int .i64 5,.int .i64 i,.str t,kv,iv],lJ 1 0 tt] (.int .i64 (match o with | some jj=>jj | none=>-1)):=by
 have hkp:=hk.pure
 have hkc:=hk.cell
 have hip:=hi.pure
 have hic:=hi.cell
 have li : ∀ {σ},aT Tryz.prog 27 iv σ=okV (.int .i64 cs.length) σ:=by intro σ;rw [hi.aT bK]
 have a0 : ∀ j : Nat,(0 : Int)≤(j : Int):=fun j=>by omega
 refine pv e91 (by simp) (by simp only [VV.ak,VV.isPure,hkp,hip];rfl) rfl ?_
 simp only [go_sem,seval] at hkc
 simp only [go_sem,seval] at hic
 simp only [go_sem,seval,c91,hkc,hic,li]
 refine bf (M:=fun ρ τ=>o=none) ?_ ?_
 ·rintro ρ τ rfl
  simp only [go_sem,seval]
  exact fin (by rfl) rfl
 refine aF (fun m ρ τ=>∃ j : Nat,m=cs.length-j∧j≤cs.length∧(∀ (i : Nat) (h : i < keys.length),i < j→keys[i]≠tt)∧ρ.get 2=.mptr 0 0∧ρ.get 3=.mptr 1 0∧ρ.get 8=iv∧ρ.get 9=.int .i64 cs.length∧ρ.get 10=.int .i64 j∧τ[0]?=some (.own [.int .i64 5,.int .i64 i,.str t,kv,iv])∧τ[1]?=some (.own [.int .i64 1,.int .i64 0,.str tt])) (n:=cs.length) ?_ ⟨0,rfl,by omega,fun _ _ h=>absurd h (Nat.not_lt_zero _),rfl,rfl,rfl,rfl,rfl,rfl,rfl⟩
 rintro m ρ τ ⟨j,rfl,hjl,hne,q2,q3,q8,q9,q10,t0,t1⟩
 have l0:=(List.getElem?_eq_some_iff.1 t0).1
 have l1:=(List.getElem?_eq_some_iff.1 t1).1
 have t0' : ∀ υ,(τ++υ)[0]?=some (.own [.int .i64 5,.int .i64 i,.str t,kv,iv]):=fun υ=>by rw [List.getElem?_append_left l0];exact t0
 have t1' : ∀ υ,(τ++υ)[1]?=some (.own [.int .i64 1,.int .i64 0,.str tt]):=fun υ=>by rw [List.getElem?_append_left l1];exact t1
 by_cases hc' : j < cs.length
 rotate_left
 ·have a5 : decide ((j : Int) < (cs.length : Int))=false:=decide_eq_false (by omega)
  simp only [go_sem,seval,q9,q10,a5]
  cases o with
  | none=>rfl
  | some jj =>
   obtain ⟨h,h1,_⟩:=ho
   exact absurd h1 (hne jj h (by omega))
 have hck : j < keys.length:=by omega
 obtain ⟨tg,hit,a3,a4⟩:=hi.jr hc'
 obtain ⟨tg',hkt,b3,b4⟩:=hk.uP hck
 have x1:=hi.blk.len _ (List.getElem_mem hc')
 have x3 : cs[j].all VV.aC=true:=hi.blk.cell _ (List.getElem_mem hc')
 have x4 : cs[j].take 5=cs[j]:=List.take_of_length_le (by omega)
 have a2 : (j : Int) < (cs.length : Int):=by omega
 have b2 : (j : Int) < (keys.length : Int):=by omega
 have a5 : decide ((j : Int) < (cs.length : Int))=true:=decide_eq_true a2
 have a6 : IntKind.i64.wrap ((j : Int)+1)=((j+1 : Nat) : Int):=by rw [iw (by omega)];omega
 by_cases he : keys[j]=tt
 ·have b : (keys[j] == tt)=true:=by simpa using he
  have hoj : o=some j:=by
   cases o with
   | none=>exact absurd he (ho j hck)
   | some jj =>
    obtain ⟨h,h1,h2⟩:=ho
    rcases Nat.lt_trichotomy j jj with h3 | rfl | h3
    ·exact absurd he (h2 j hck h3)
    ·rfl
    ·exact absurd h1 (hne jj h h3)
  subst hoj
  simp only [go_sem,seval,q2,q3,q8,q9,q10,hit,hkt,a0,a2,a3,a4,a5,b2,b3,b4,x1,x3,x4,t0',t1',Int.toNat_natCast,b,SS]
  exact fin (by rfl) rfl
 ·have b : (keys[j] == tt)=false:=by simpa using he
  simp only [go_sem,seval,q2,q3,q8,q9,q10,hit,hkt,a0,a2,a3,a4,a5,a6,b2,b3,b4,x1,x3,x4,t0',t1',Int.toNat_natCast,b,SS]
  refine ⟨cs.length-(j+1),by omega,j+1,rfl,by omega,fun i h h1=>?_,rfl⟩
  rcases Nat.lt_succ_iff_lt_or_eq.1 h1 with h1 | rfl
  ·exact hne i h h1
  ·exact he
def Xh : Option (List VV)→VV→Prop
 | some c,R=>R=.tup [.agg c,.int .i64 0]
 | none,R=>∃ e : Int,e≠0∧R=.tup [.agg zt,.int .i64 e]
theorem qm (k i : Int) (t : Bs) (kv iv : VV) (hkp : kv.isPure=true) (hip : iv.isPure=true) (hkc : kv.aC=true) (hic : iv.aC=true) (sk ix : Int) (tt : Bs) (h : sk=0∨sk=1) (hne : k≠sk+4) :
  PV Tryz.prog G0 46 [.agg [.int .i64 k,.int .i64 i,.str t,kv,iv],lJ sk ix tt] (.tup [.agg zt,.int .i64 3]):=by
 have hF:=DI k i t kv iv hkp hip hkc hic sk ix tt h
 rw [if_neg hne] at hF
 refine pv e46 (by simp) (by simp only [VV.ak,VV.isPure,hkp,hip];rfl) rfl ?_
 simp only [go_sem,seval] at hkc
 simp only [go_sem,seval] at hic
 simp only [go_sem,seval,c46,hkc,hic]
 (first | refine ah (hF) ?_ | refine aK (hF) ?_ | refine aI (hF) ?_ | refine aj (hF) (by simp only [go_sem,seval,hkc,hic]) ?_ | refine aj (hF) ?_ ?_)<;>simp only [go_sem,seval,hkc,hic]
 exact fin (by rfl) rfl
theorem FP (k i : Int) (t : Bs) (kv iv : VV) (cs : List (List VV)) (hkp : kv.isPure=true) (hkc : kv.aC=true) (hi : dG 5 iv cs) (hl : cs.length≤1000000) (sk ix : Int) (tt : Bs) (h : sk=0∨sk=1) (hkk : k=sk+4) (jj : Nat) (hj : jj < cs.length)
  (hA : PV Tryz.prog G0 91 [.agg [.int .i64 k,.int .i64 i,.str t,kv,iv],lJ sk ix tt] (.int .i64 jj)) :
  PV Tryz.prog G0 46 [.agg [.int .i64 k,.int .i64 i,.str t,kv,iv],lJ sk ix tt] (.tup [.agg cs[jj],.int .i64 0]):=by
 have hip:=hi.pure
 have hic:=hi.cell
 have hF:=DI k i t kv iv hkp hip hkc hic sk ix tt h
 rw [if_pos hkk] at hF
 obtain ⟨tg,hit,a3,a4⟩:=hi.jr hj
 have x1:=hi.blk.len _ (List.getElem_mem hj)
 have x2 : VV.ak cs[jj]=true:=hi.blk.pure _ (List.getElem_mem hj)
 have x3 : cs[jj].all VV.aC=true:=hi.blk.cell _ (List.getElem_mem hj)
 have x4 : cs[jj].take 5=cs[jj]:=List.take_of_length_le (by omega)
 have a0 : (0 : Int)≤(jj : Int):=by omega
 have a2 : (jj : Int) < (cs.length : Int):=by omega
 have a7 : decide ((jj : Int) < 0)=false:=decide_eq_false (by omega)
 have hpr : (VV.tup [.agg cs[jj],.int .i64 0]).isPure=true:=by simp only [VV.isPure,VV.ak,x2];rfl
 refine pv e46 (by simp) (by simp only [VV.ak,VV.isPure,hkp,hip];rfl) hpr ?_
 simp only [go_sem,seval] at hkc
 simp only [go_sem,seval] at hic
 simp only [go_sem,seval,c46,hkc,hic]
 (first | refine ah (hF) ?_ | refine aK (hF) ?_ | refine aI (hF) ?_ | refine aj (hF) (by simp only [go_sem,seval,hkc,hic]) ?_ | refine aj (hF) ?_ ?_)<;>simp only [go_sem,seval,hkc,hic]
 (first | refine ah (hA) ?_ | refine aK (hA) ?_ | refine aI (hA) ?_ | refine aj (hA) (by simp only [go_sem,seval,hkc,hic,a7,hit,a0,a2,a3,a4,x1,x3,x4,Int.toNat_natCast]) ?_ | refine aj (hA) ?_ ?_)<;>simp only [go_sem,seval,hkc,hic,a7,hit,a0,a2,a3,a4,x1,x3,x4,Int.toNat_natCast]
 exact fin hpr rfl
theorem zD (k i : Int) (t : Bs) (kv iv : VV) (hkp : kv.isPure=true) (hip : iv.isPure=true) (hkc : kv.aC=true) (hic : iv.aC=true) (sk ix : Int) (tt : Bs) (h : sk=0∨sk=1) (hkk : k=sk+4)
  (hA : PV Tryz.prog G0 91 [.agg [.int .i64 k,.int .i64 i,.str t,kv,iv],lJ sk ix tt] (.int .i64 (-1))) :
  PV Tryz.prog G0 46 [.agg [.int .i64 k,.int .i64 i,.str t,kv,iv],lJ sk ix tt] (.tup [.agg zt,.int .i64 5]):=by
 have hF:=DI k i t kv iv hkp hip hkc hic sk ix tt h
 rw [if_pos hkk] at hF
 refine pv e46 (by simp) (by simp only [VV.ak,VV.isPure,hkp,hip];rfl) rfl ?_
 simp only [go_sem,seval] at hkc
 simp only [go_sem,seval] at hic
 simp only [go_sem,seval,c46,hkc,hic]
 (first | refine ah (hF) ?_ | refine aK (hF) ?_ | refine aI (hF) ?_ | refine aj (hF) (by simp only [go_sem,seval,hkc,hic]) ?_ | refine aj (hF) ?_ ?_)<;>simp only [go_sem,seval,hkc,hic]
 (first | refine ah (hA) ?_ | refine aK (hA) ?_ | refine aI (hA) ?_ | refine aj (hA) (by simp only [go_sem,seval,hkc,hic]) ?_ | refine aj (hA) ?_ ?_)<;>simp only [go_sem,seval,hkc,hic]
 exact fin (by rfl) rfl
theorem Fa {α : Type} : ∀ (l : List (Bs × α)) (k : Bs),(∃ (j : Nat) (h : j < l.length),lk l k=some l[j].2∧l[j].1=k∧∀ (i : Nat) (h : i < l.length),i < j→l[i].1≠k)∨(lk l k=none∧∀ p ∈ l,p.1≠k)
 | [],k=>.inr ⟨rfl,by simp⟩
 | p::l,k=>by
  by_cases h : p.1=k
  ·exact .inl ⟨0,by simp,by simp [lk,h],h,fun i _ h=>absurd h (Nat.not_lt_zero _)⟩
  ·have e : lk (p::l) k=lk l k:=by simp [lk,List.find?_cons,h]
   rcases Fa l k with ⟨j,hj,h1,h2,h3⟩ | ⟨h1,h2⟩
   ·refine .inl ⟨j+1,by simpa using hj,by rw [e];exact h1,h2,fun i hi hij=>?_⟩
    cases i with
    | zero=>exact h
    | succ i=>exact h3 i (by simpa using hi) (by omega)
   ·exact .inr ⟨by rw [e];exact h1,fun q hq=>by
     rcases List.mem_cons.1 hq with rfl | hq
     ·exact h
     ·exact h2 q hq⟩
theorem WA : ∀ {v : T} {c : List VV},kV v.tree c→v.nd≤1000000→∀ (t : Bs),
  ∃ o R,(match v.atKey t with | some w=>∃ c',o=some c'∧kV w.tree c' | none=>o=none)∧Xh o R∧PV Tryz.prog G0 46 [.agg c,lJ 1 0 t] R
 | .sc k i t',c,h,hn,t=>by
  simp only [T.tree] at h
  cases h with
  | node h1 h2 h3 h4 h5 h6 h7 =>
  by_cases hk : k=5
  ·subst hk
   have l2:=h2.len
   have hA:=Gu i t' _ _ [] _ h1 h3 (by simp at l2;simp [l2]) (by simpa using l2.symm) t none (by simp)
   exact ⟨none,_,rfl,⟨5,by decide,rfl⟩,zD _ _ _ _ _ h1.pure h3.pure h1.cell h3.cell 1 0 t (.inr rfl) rfl hA⟩
  ·exact ⟨none,_,rfl,⟨3,by decide,rfl⟩,qm _ _ _ _ _ h1.pure h3.pure h1.cell h3.cell 1 0 t (.inr rfl) (by omega)⟩
 | .vec l,c,h,hn,t=>by
  simp only [T.tree] at h
  cases h with
  | node h1 h2 h3 h4 h5 =>
  exact ⟨none,_,rfl,⟨3,by decide,rfl⟩,qm _ _ _ _ _ h1.pure h3.pure h1.cell h3.cell 1 0 t (.inr rfl) (by decide)⟩
 | .set l,c,h,hn,t=>by
  simp only [T.tree] at h
  cases h with
  | node h1 h2 h3 h4 h5 =>
  exact ⟨none,_,rfl,⟨3,by decide,rfl⟩,qm _ _ _ _ _ h1.pure h3.pure h1.cell h3.cell 1 0 t (.inr rfl) (by decide)⟩
 | .map l,c,h,hn,t=>by
  simp only [T.tree] at h
  simp only [T.nd] at hn
  have hll:=uU l
  cases h with
  | node h1 h2 h3 h4 h5 =>
  have l2:=h2.len
  simp only [fM,List.length_map] at l2
  simp only [T.atKey]
  rcases Fa l t with ⟨j,hj,g1,g2,g3⟩ | ⟨g1,g2⟩
  ·rw [g1]
   have hA:=Gu 0 [] _ _ _ _ h1 h3 (by omega) (by rw [List.length_map];exact l2.symm) t (some j) ⟨by simpa using hj,by simpa using g2,fun i h h'=>by simpa using g3 i (by simpa using h) h'⟩
   refine ⟨some _,_,⟨_,rfl, ?_⟩,rfl,FP _ _ _ _ _ _ h1.pure h1.cell h3 (by omega) 1 0 t (.inr rfl) rfl j (by omega) hA⟩
   have:=h2.get j (by simpa [fM] using hj) (by omega)
   simpa [fM] using this
  ·rw [g1]
   have hA:=Gu 0 [] _ _ _ _ h1 h3 (by omega) (by rw [List.length_map];exact l2.symm) t none (fun i h=>by simpa using g2 _ (List.getElem_mem (by simpa using h)))
   exact ⟨none,_,rfl,⟨5,by decide,rfl⟩,zD _ _ _ _ _ h1.pure h3.pure h1.cell h3.cell 1 0 t (.inr rfl) rfl hA⟩
theorem Xr : ∀ {v : T} {c : List VV},kV v.tree c→v.nd≤1000000→∀ (j : Nat),j < v.len →
  ∃ o R,(match v.OH j with | some w=>∃ c',o=some c'∧kV w.tree c' | none=>o=none)∧Xh o R∧PV Tryz.prog G0 46 [.agg c,lJ 0 j []] R
 | .sc k i t',c,h,hn,j,hj=>absurd hj (Nat.not_lt_zero _)
 | .map l,c,h,hn,j,hj=>by
  simp only [T.tree] at h
  cases h with
  | node h1 h2 h3 h4 h5 =>
  exact ⟨none,_,rfl,⟨3,by decide,rfl⟩,qm _ _ _ _ _ h1.pure h3.pure h1.cell h3.cell 0 j [] (.inl rfl) (by decide)⟩
 | .set l,c,h,hn,j,hj=>by
  simp only [T.tree] at h
  cases h with
  | node h1 h2 h3 h4 h5 =>
  exact ⟨none,_,rfl,⟨3,by decide,rfl⟩,qm _ _ _ _ _ h1.pure h3.pure h1.cell h3.cell 0 j [] (.inl rfl) (by decide)⟩
 | .vec l,c,h,hn,j,hj=>by
  simp only [T.tree] at h
  simp only [T.nd] at hn
  simp only [T.len] at hj
  have hll:=mD l
  cases h with
  | node h1 h2 h3 h4 h5 =>
  have l2:=h2.len
  simp only [dn,List.length_map] at l2
  simp only [T.OH,List.getElem?_eq_getElem hj]
  have hA:=Uu 0 [] _ _ _ h1.pure h1.cell h3 (by omega) j (by omega)
  refine ⟨some _,_,⟨_,rfl, ?_⟩,rfl,FP _ _ _ _ _ _ h1.pure h1.cell h3 (by omega) 0 j [] (.inl rfl) rfl j (by omega) hA⟩
  have:=h2.get j (by simpa [dn] using hj) (by omega)
  simpa [dn] using this
end Go.V
namespace Go.V
open Go.Proofs
set_option maxRecDepth 100000
def TC (c : List VV) (n : Nat) : Prop:=c.length=5∧VV.ak c=true∧c.all VV.aC=true∧∃ cs,dG 5 (c.getD 4 .undef) cs∧cs.length=n
def Vq (c : List VV) (n : Nat) (s : Sg) (o : Option (List VV)) : Prop :=
 if s.k=0 then ∃ R,Xh o R∧PV Tryz.prog G0 46 [.agg c,lJ 1 0 s.t] R
 else if s.k=1 then match gV s.i n with
  | none=>o=none
  | some j=>∃ R,Xh o R∧PV Tryz.prog G0 46 [.agg c,lJ 0 j []] R
 else o=none
inductive Lu : List VV→List Sg→Option (List VV)→Prop
 | nil {c : List VV} {n : Nat} : TC c n→Lu c [] (some c)
 | stop {c : List VV} {n : Nat} {s : Sg} {r : List Sg} : TC c n→n≤1000000→Vq c n s none→Lu c (s::r) none
 | go {c d : List VV} {n : Nat} {s : Sg} {r : List Sg} {o : Option (List VV)} : TC c n→n≤1000000→Vq c n s (some d)→Lu d r o→Lu c (s::r) o
theorem Lu.cells {c : List VV} {r : List Sg} {o : Option (List VV)} (h : Lu c r o) : c.length=5∧VV.ak c=true∧c.all VV.aC=true:=by
 cases h with
 | nil h=>exact ⟨h.1,h.2.1,h.2.2.1⟩
 | stop h=>exact ⟨h.1,h.2.1,h.2.2.1⟩
 | go h=>exact ⟨h.1,h.2.1,h.2.2.1⟩
theorem Lu.pure {c : List VV} {r : List Sg} {o : Option (List VV)} (h : Lu c r o) : ∀ d,o=some d→VV.ak d=true:=by
 induction h with
 | nil h=>rintro d ⟨⟩;exact h.2.1
 | stop _ _ _=>rintro d ⟨⟩
 | go _ _ _ _ ih=>exact ih
theorem OX {v : T} {c : List VV} (h : kV v.tree c) : TC c v.len:=by
 obtain ⟨x1,x2,x3⟩:=h.cells
 refine ⟨x1,x2,x3, ?_⟩
 cases v with
 | sc k i t =>
  simp only [T.tree] at h
  cases h with
  | node h1 h2 h3=>exact ⟨_,h3,by rw [h2.len];rfl⟩
 | vec l =>
  simp only [T.tree] at h
  cases h with
  | node h1 h2 h3=>exact ⟨_,h3,by rw [h2.len];simp [dn,T.len]⟩
 | map l =>
  simp only [T.tree] at h
  cases h with
  | node h1 h2 h3=>exact ⟨_,h3,by rw [h2.len];simp [fM,T.len]⟩
 | set l =>
  simp only [T.tree] at h
  cases h with
  | node h1 h2 h3=>exact ⟨_,h3,by rw [h2.len];simp [dn,T.len]⟩
theorem Uh (v : T) : v.len≤v.nd:=by
 cases v with
 | sc=>simp [T.len]
 | vec l=>have:=mD l;simp only [T.len,T.nd];omega
 | map l=>have:=uU l;simp only [T.len,T.nd];omega
 | set l=>have:=mD l;simp only [T.len,T.nd];omega
theorem Ve {v : T} {c : List VV} (h : kV v.tree c) (hn : v.nd≤1000000) (s : Sg) : ∃ o,Vq c v.len s o∧(match v.step s with | some w=>∃ d,o=some d∧kV w.tree d | none=>o=none):=by
 unfold Vq T.step
 by_cases hk : s.k=0
 ·simp only [if_pos hk]
  obtain ⟨o,R,h1,h2,h3⟩:=WA h hn s.t
  exact ⟨o,⟨R,h2,h3⟩,h1⟩
 ·simp only [if_neg hk]
  cases hp : gV s.i v.len with
  | none =>
   refine ⟨none, ?_,rfl⟩
   split<;>rfl
  | some j =>
   by_cases h1 : s.k=1
   ·simp only [if_pos h1]
    obtain ⟨o,R,g1,g2,g3⟩:=Xr h hn j (AY hp)
    exact ⟨o,⟨R,g2,g3⟩,g1⟩
   ·simp only [if_neg h1]
    exact ⟨none,rfl,rfl⟩
theorem Ob : ∀ (r : List Sg) {v : T} {c : List VV},kV v.tree c→v.nd≤1000000→∃ o,Lu c r o∧(match v.walk r with | some w=>∃ d,o=some d∧kV w.tree d | none=>o=none)
 | [],v,c,h,hn=>⟨some c,.nil (OX h),⟨c,rfl,h⟩⟩
 | s::r,v,c,h,hn=>by
  obtain ⟨o,h1,h2⟩:=Ve h hn s
  have hl:=Uh v
  unfold T.walk
  cases hw : v.step s with
  | none =>
   rw [hw] at h2
   subst h2
   exact ⟨none,.stop (OX h) (by omega) h1,rfl⟩
  | some w =>
   rw [hw] at h2
   obtain ⟨d,rfl,hd⟩:=h2
   obtain ⟨o,g1,g2⟩:=Ob r hd (by have:=Jv hw;omega)
   exact ⟨o,.go (OX h) (by omega) h1 g1,g2⟩
def TN : Option (List VV)→VV
 | some c=>.tup [.agg c,.bool true]
 | none=>.tup [.agg zt,.bool false]
theorem Uf {x : List VV} (path : List Sg) (pw : VV) (hp : dG 5 pw (path.map Sg.cells)) (hl : path.length≤1000000) (hi : ∀ s ∈ path,s.in) {o : Option (List VV)} (hw : Lu x path o) : PV Tryz.prog G0 19 [.agg x,pw] (TN o):=by
 have hoo:=hw.pure
 have hpo : (TN o).isPure=true:=by
  cases o with
  | none=>rfl
  | some y=>simp only [TN,VV.isPure,VV.ak,hoo y rfl];rfl
 have hpp:=hp.pure
 have hpc:=hp.cell
 simp only [go_sem,seval] at hpc
 have lp : ∀ {σ},aT Tryz.prog 51 pw σ=okV (.int .i64 path.length) σ:=by intro σ;rw [hp.aT zF];simp
 have a0 : ∀ j : Nat,(0 : Int)≤(j : Int):=fun j=>by omega
 obtain ⟨d1,d0,d2⟩:=hw.cells
 have d3 : x.take 5=x:=List.take_of_length_le (by omega)
 refine pv e19 (by simp) (by simp only [VV.ak,VV.isPure,d0,hpp];rfl) hpo ?_
 simp only [go_sem,seval,c19,d1,d2,d3,hpc,lp]
 refine bf (M:=fun ρ τ=>∃ y : List VV,y.length=5∧y.all VV.aC=true∧o=some y∧ρ.get 2=.mptr 0 0∧ρ.get 4=.mptr 1 0∧τ[0]?=some (.own y)∧τ[1]?=some (.own zt)) ?_ ?_
 ·rintro ρ τ ⟨y,f1,f2,rfl,q2,q4,t0,t1⟩
  have f3 : y.take 5=y:=List.take_of_length_le (by omega)
  rw [zt] at t1
  have l1:=(List.getElem?_eq_some_iff.1 t1).1
  simp only [go_sem,seval,q2,q4,t0,t1,f1,f2,f3,List.getElem?_set_self l1]
  exact fin hpo rfl
 refine aF (fun m ρ τ=>∃ (j : Nat) (y : List VV),m=path.length-j∧j≤path.length∧Lu y (path.drop j) o∧ρ.get 2=.mptr 0 0∧ρ.get 4=.mptr 1 0∧ρ.get 13=pw∧ρ.get 14=.int .i64 path.length∧ρ.get 15=.int .i64 j∧τ[0]?=some (.own y)∧τ[1]?=some (.own zt)) (n:=path.length) ?_ ⟨0,x,rfl,by omega,hw,rfl,rfl,rfl,rfl,rfl,rfl,rfl⟩
 rintro m ρ τ ⟨j,y,rfl,hj,hwy,q2,q4,q13,q14,q15,t0,t1⟩
 obtain ⟨f1,f0,f2⟩:=hwy.cells
 have f3 : y.all VV.aC=true:=f2
 have f4 : y.take 5=y:=List.take_of_length_le (by omega)
 have l0:=(List.getElem?_eq_some_iff.1 t0).1
 have l1:=(List.getElem?_eq_some_iff.1 t1).1
 have t0' : ∀ υ,(τ++υ)[0]?=some (.own y):=fun υ=>by rw [List.getElem?_append_left l0];exact t0
 have t1' : ∀ υ,(τ++υ)[1]?=some (.own zt):=fun υ=>by rw [List.getElem?_append_left l1];exact t1
 simp only [go_sem,seval,q14,q15]
 refine aG (fun hc=>?_) (fun hc=>?_)
 rotate_left
 ·have hjl : j=path.length:=by simp at hc;omega
  rw [hjl,List.drop_length] at hwy
  cases hwy
  simp only [go_sem,seval,q2,q4]
  exact ⟨y,f1,f3,rfl,t0,t1⟩
 have hc' : j < path.length:=by simpa using hc
 obtain ⟨tg,hit,a3,a4⟩:=hp.jr (j:=j) (by simpa using hc')
 rw [List.getElem_map] at a4
 rw [List.length_map] at hit
 have a2 : (j : Int) < (path.length : Int):=by omega
 have a6 : IntKind.i64.wrap ((j : Int)+1)=((j+1 : Nat) : Int):=by rw [iw (by omega)];omega
 have hsi:=hi _ (List.getElem_mem hc')
 rw [List.drop_eq_getElem_cons hc'] at hwy
 generalize path[j]=s at *
 have s1 : s.cells.length=5:=rfl
 have s2 : s.cells.all VV.aC=true:=rfl
 have s3 : s.cells.take 5=s.cells:=rfl
 have s4 : s.cells.drop 0=s.cells:=rfl
 have s5 : s.cells.getD 4 .undef=.str s.t:=rfl
 have s6 : s.cells.getD 0 .undef=.int .i64 s.k:=rfl
 have s7 : s.cells.getD 1 .undef=.int .i64 s.i:=rfl
 have l0' : 0 < τ.length:=l0
 have l1' : 1 < τ.length:=l1
 obtain ⟨oo,n,hn,hTC,hsf,hnext⟩ : ∃ oo n,n≤1000000∧TC y n∧Vq y n s oo∧(match oo with | some z=>Lu z (path.drop (j+1)) o | none=>o=none):=by
  cases hwy with
  | stop h hn h1=>exact ⟨none,_,hn,h,h1,rfl⟩
  | go h hn h1 h2=>exact ⟨_,_,hn,h,h1,h2⟩
 have gs : ∀ (υ : Store) (c : Obj),((τ++υ).set 1 c)[1]?=some c:=fun υ c=>List.getElem?_set_self (by simp;omega)
 obtain ⟨_,_,_,cs,hsl,hcl⟩:=hTC
 have l4 : ∀ {σ},aT Tryz.prog 27 (y.getD 4 .undef) σ=okV (.int .i64 n) σ:=by intro σ;rw [hsl.aT bK,hcl]
 unfold Vq at hsf
 by_cases hk : s.k=0
 ·rw [if_pos hk] at hsf
  obtain ⟨R,hR,hP⟩:=hsf
  have n1 : (s.k == 0)=true:=by simpa using hk
  simp only [go_sem,seval,q2,q4,q13,q14,q15,hit,a0,a2,a3,a4,a6,Int.toNat_natCast,s1,s2,s3,s4,s5,s6,s7,t0',t1',f1,f3,f4,l4,n1,SS]
  cases oo with
  | none =>
   obtain ⟨e,he,rfl⟩:=hR
   subst hnext
   have n2 : (e == 0)=false:=by simpa using he
   simp only [zt] at hP
   rw [zt] at t1'
   (first | refine ah (hP) ?_ | refine aK (hP) ?_ | refine aI (hP) ?_ | refine aj (hP) (by simp only [go_sem,seval,q2,q4,q13,q14,q15,hit,a0,a2,a3,a4,a6,Int.toNat_natCast,s1,s2,s3,s4,s5,s6,s7,t0',t1',f1,f3,f4,l4,n1,bne,n2,Bool.not_false,l1',gs,SS]) ?_ | refine aj (hP) ?_ ?_)<;>simp only [go_sem,seval,q2,q4,q13,q14,q15,hit,a0,a2,a3,a4,a6,Int.toNat_natCast,s1,s2,s3,s4,s5,s6,s7,t0',t1',f1,f3,f4,l4,n1,bne,n2,Bool.not_false,l1',gs,SS]
   exact fin hpo rfl
  | some z =>
   obtain rfl:=hR
   have hwz:=hnext
   obtain ⟨z1,z2,z3⟩:=hwz.cells
   have z4 : z.take 5=z:=List.take_of_length_le (by omega)
   (first | refine ah (hP) ?_ | refine aK (hP) ?_ | refine aI (hP) ?_ | refine aj (hP) (by simp only [go_sem,seval,q2,q4,q13,q14,q15,hit,a0,a2,a3,a4,a6,Int.toNat_natCast,s1,s2,s3,s4,s5,s6,s7,t0',t1',f1,f3,f4,l4,n1,bne,beq_self_eq_true,Bool.not_true,z1,z3,z4,l0',SS]) ?_ | refine aj (hP) ?_ ?_)<;>simp only [go_sem,seval,q2,q4,q13,q14,q15,hit,a0,a2,a3,a4,a6,Int.toNat_natCast,s1,s2,s3,s4,s5,s6,s7,t0',t1',f1,f3,f4,l4,n1,bne,beq_self_eq_true,Bool.not_true,z1,z3,z4,l0',SS]
   refine ⟨path.length-(j+1),by omega,j+1,z,rfl,by omega,hwz,rfl, ?_, ?_⟩
   ·rw [List.getElem?_set_self (by simp),List.drop_eq_nil_of_le (by omega),List.append_nil]
   ·rw [List.getElem?_set_ne (by decide)];exact t1' _
 ·rw [if_neg hk] at hsf
  have n1 : (s.k == 0)=false:=by simpa using hk
  by_cases hk1 : s.k=1
  rotate_left
  ·rw [if_neg hk1] at hsf
   subst hsf hnext
   have n3 : (s.k == 1)=false:=by simpa using hk1
   rw [zt] at t1'
   simp only [go_sem,seval,q2,q4,q13,q14,q15,hit,a0,a2,a3,a4,a6,Int.toNat_natCast,s1,s2,s3,s4,s5,s6,s7,t0',t1',f1,f3,f4,l4,n1,n3,l1',gs,SS]
   exact fin hpo rfl
  rw [if_pos hk1] at hsf
  have n3 : (s.k == 1)=true:=by simpa using hk1
  have hPl:=NQ s.i n hn hsi
  simp only [go_sem,seval,q2,q4,q13,q14,q15,hit,a0,a2,a3,a4,a6,Int.toNat_natCast,s1,s2,s3,s4,s5,s6,s7,t0',t1',f1,f3,f4,l4,n1,n3,SS]
  cases hp' : gV s.i n with
  | none =>
   rw [hp'] at hsf hPl
   simp only at hsf
   subst hsf hnext
   simp only [lF] at hPl
   rw [zt] at t1'
   (first | refine ah (hPl) ?_ | refine aK (hPl) ?_ | refine aI (hPl) ?_ | refine aj (hPl) (by simp only [go_sem,seval,q2,q4,q13,q14,q15,hit,a0,a2,a3,a4,a6,Int.toNat_natCast,s1,s2,s3,s4,s5,s6,s7,t0',t1',f1,f3,f4,l4,n1,n3,Bool.not_false,l1',gs,SS]) ?_ | refine aj (hPl) ?_ ?_)<;>simp only [go_sem,seval,q2,q4,q13,q14,q15,hit,a0,a2,a3,a4,a6,Int.toNat_natCast,s1,s2,s3,s4,s5,s6,s7,t0',t1',f1,f3,f4,l4,n1,n3,Bool.not_false,l1',gs,SS]
   exact fin hpo rfl
  | some jj =>
   rw [hp'] at hsf hPl
   simp only at hsf
   simp only [lF] at hPl
   obtain ⟨R,hR,hP⟩:=hsf
   (first | refine ah (hPl) ?_ | refine aK (hPl) ?_ | refine aI (hPl) ?_ | refine aj (hPl) (by simp only [go_sem,seval,q2,q4,q13,q14,q15,hit,a0,a2,a3,a4,a6,Int.toNat_natCast,s1,s2,s3,s4,s5,s6,s7,t0',t1',f1,f3,f4,l4,n1,n3,Bool.not_true,Bool.not_false,SS]) ?_ | refine aj (hPl) ?_ ?_)<;>simp only [go_sem,seval,q2,q4,q13,q14,q15,hit,a0,a2,a3,a4,a6,Int.toNat_natCast,s1,s2,s3,s4,s5,s6,s7,t0',t1',f1,f3,f4,l4,n1,n3,Bool.not_true,Bool.not_false,SS]
   cases oo with
   | none =>
    obtain ⟨e,he,rfl⟩:=hR
    subst hnext
    have n2 : (e == 0)=false:=by simpa using he
    simp only [zt] at hP
    rw [zt] at t1'
    (first | refine ah (hP) ?_ | refine aK (hP) ?_ | refine aI (hP) ?_ | refine aj (hP) (by simp only [go_sem,seval,q2,q4,q13,q14,q15,hit,a0,a2,a3,a4,a6,Int.toNat_natCast,s1,s2,s3,s4,s5,s6,s7,t0',t1',f1,f3,f4,l4,n1,n3,bne,n2,Bool.not_false,l1',gs,SS]) ?_ | refine aj (hP) ?_ ?_)<;>simp only [go_sem,seval,q2,q4,q13,q14,q15,hit,a0,a2,a3,a4,a6,Int.toNat_natCast,s1,s2,s3,s4,s5,s6,s7,t0',t1',f1,f3,f4,l4,n1,n3,bne,n2,Bool.not_false,l1',gs,SS]
    exact fin hpo rfl
   | some z =>
    obtain rfl:=hR
    have hwz:=hnext
    obtain ⟨z1,z2,z3⟩:=hwz.cells
    have z4 : z.take 5=z:=List.take_of_length_le (by omega)
    (first | refine ah (hP) ?_ | refine aK (hP) ?_ | refine aI (hP) ?_ | refine aj (hP) (by simp only [go_sem,seval,q2,q4,q13,q14,q15,hit,a0,a2,a3,a4,a6,Int.toNat_natCast,s1,s2,s3,s4,s5,s6,s7,t0',t1',f1,f3,f4,l4,n1,n3,bne,beq_self_eq_true,Bool.not_true,z1,z3,z4,l0',SS]) ?_ | refine aj (hP) ?_ ?_)<;>simp only [go_sem,seval,q2,q4,q13,q14,q15,hit,a0,a2,a3,a4,a6,Int.toNat_natCast,s1,s2,s3,s4,s5,s6,s7,t0',t1',f1,f3,f4,l4,n1,n3,bne,beq_self_eq_true,Bool.not_true,z1,z3,z4,l0',SS]
    refine ⟨path.length-(j+1),by omega,j+1,z,rfl,by omega,hwz,rfl, ?_, ?_⟩
    ·rw [List.getElem?_set_self (by simp),List.drop_eq_nil_of_le (by omega),List.append_nil]
    ·rw [List.getElem?_set_ne (by decide)];exact t1' _
end Go.V
namespace Go.V
open Go.Proofs
set_option maxRecDepth 100000
mutual
theorem EL : ∀ (x : Tr) (d : Nat) (l m n : Int),l≤m→x.small d l=(n,true)→x.small d m=(n+(m-l),true)
 | .node k i t ks xs,d,l,m,n,h,hs=>by
  unfold Tr.small at hs ⊢
  split at hs
  ·simp at hs
  rename_i hc
  rw [if_neg (fun h'=>hc (by
   rcases h' with h' | h' | h' | h' | h'
   ·left;omega
   ·right;left;omega
   ·right;right;left;omega
   ·right;right;right;left;omega
   ·right;right;right;right;exact h'))]
  have:=BF xs (d+1) (l-1) (m-1) n (by omega) hs
  rw [this,show m-1-(l-1)=m-l by omega]
theorem BF : ∀ (xs : List Tr) (d : Nat) (l m n : Int),l≤m→Tr.smalls xs d l=(n,true)→Tr.smalls xs d m=(n+(m-l),true)
 | [],d,l,m,n,h,hs=>by
  simp only [Tr.smalls,Prod.mk.injEq,and_true] at hs ⊢
  omega
 | x::xs,d,l,m,n,h,hs=>by
  unfold Tr.smalls at hs ⊢
  split at hs
  ·rename_i l' e
   rw [EL x d l m l' h e]
   have:=BF xs d l' (l'+(m-l)) n (by omega) hs
   simp only [this,show l'+(m-l)-l'=m-l by omega]
  ·simp at hs
end
theorem D9 {x : Tr} (h : (x.small 0 200).2=true) : (x.small 0 400).2=true:=by
 rw [EL x 0 200 400 (x.small 0 200).1 (by omega) (by rw [← h])]
theorem Ie {x : Tr} {c : List VV} (h : kV x c) : PV Tryz.prog G0 33 [.agg c,.int .i64 200] (.bool (x.small 0 200).2):=by
 obtain ⟨x1,x2,x3⟩:=h.cells
 have x4 : c.take 5=c:=List.take_of_length_le (by omega)
 have hs:=IG x c 0 200 h (by omega) (by omega) (by omega)
 refine pv e33 (by simp) (by simp only [VV.ak,VV.isPure,x2];rfl) rfl ?_
 simp only [go_sem,seval,c33,x1,x3,x4]
 (first | refine ah (hs) ?_ | refine aK (hs) ?_ | refine aI (hs) ?_ | refine aj (hs) (by simp only [go_sem,seval]) ?_ | refine aj (hs) ?_ ?_)<;>simp only [go_sem,seval]
 exact fin (by rfl) rfl
def Tr.right (x : Tr) : Bool:=(x.small 0 200).2 && (FD (x.mk 1 0) == 0)
theorem Sr {x : Tr} {c : List VV} (h : kV x c) (hO : jk x) (tg : Bool) : PV Tryz.prog G0 12 [.sl 1 c tg] (.bool x.right):=by
 obtain ⟨x1,x2,x3⟩:=h.cells
 have x4 : c.take 5=c:=List.take_of_length_le (by omega)
 have x5 : (c.drop 0).take 5=c:=by rw [List.drop_zero];exact x4
 have hS:=Ie h
 have g1 : 0+5≤c.length:=by omega
 refine pv e12 (by simp) (by simp only [VV.ak,VV.isPure,x2];rfl) rfl ?_
 simp only [go_sem,seval,c12,x1]
 refine iH ?_
 simp only [go_sem,seval,x1,x3,x4,x5,g1]
 cases hs : (x.small 0 200).2 with
 | false =>
  rw [hs] at hS
  have e : x.right=false:=by unfold Tr.right;rw [hs];rfl
  (first | refine ah (hS) ?_ | refine aK (hS) ?_ | refine aI (hS) ?_ | refine aj (hS) (by simp only [go_sem,seval,Bool.not_false]) ?_ | refine aj (hS) ?_ ?_)<;>simp only [go_sem,seval,Bool.not_false]
  exact fin (by rfl) (by rw [e])
 | true =>
  rw [hs] at hS
  have hC:=KE h hO (Tr.CO (D9 hs))
  (first | refine ah (hS) ?_ | refine aK (hS) ?_ | refine aI (hS) ?_ | refine aj (hS) (by simp only [go_sem,seval,Bool.not_true,x1,x3,x4]) ?_ | refine aj (hS) ?_ ?_)<;>simp only [go_sem,seval,Bool.not_true,x1,x3,x4]
  cases hb : (FD (x.mk 1 0) == 0) with
  | false =>
   have e : x.right=false:=by unfold Tr.right;rw [hs,hb];rfl
   (first | refine ah (hC) ?_ | refine aK (hC) ?_ | refine aI (hC) ?_ | refine aj (hC) (by simp only [go_sem,seval,bne,hb,Bool.not_false]) ?_ | refine aj (hC) ?_ ?_)<;>simp only [go_sem,seval,bne,hb,Bool.not_false]
   exact fin (by rfl) (by rw [e])
  | true =>
   have e : x.right=true:=by unfold Tr.right;rw [hs,hb];rfl
   (first | refine ah (hC) ?_ | refine aK (hC) ?_ | refine aI (hC) ?_ | refine aj (hC) (by simp only [go_sem,seval,bne,hb,Bool.not_true]) ?_ | refine aj (hC) ?_ ?_)<;>simp only [go_sem,seval,bne,hb,Bool.not_true]
   refine iH ?_
   simp only [go_sem,seval]
   exact fin (by rfl) (by rw [e])
def yV (l : List Sg) : Bool:=l.all (fun s=>decide (s.t.length≤400)) && decide (l.length≤60)
theorem Qu (path : List Sg) (pw : VV) (hp : dG 5 pw (path.map Sg.cells)) (hl : path.length≤9223372036854775807) : PV Tryz.prog G0 17 [pw] (.bool (yV path)):=by
 have hpp:=hp.pure
 have hpc:=hp.cell
 simp only [go_sem,seval] at hpc
 have lp : ∀ {σ},aT Tryz.prog 51 pw σ=okV (.int .i64 path.length) σ:=by intro σ;rw [hp.aT zF];simp
 have a0 : ∀ j : Nat,(0 : Int)≤(j : Int):=fun j=>by omega
 refine pv e17 (by simp) (by simp only [VV.ak,VV.isPure,hpp];rfl) rfl ?_
 simp only [go_sem,seval,c17,hpc,lp]
 refine bf (M:=fun ρ τ=>ρ.get 0=pw∧∀ (i : Nat) (h : i < path.length),path[i].t.length≤400) ?_ ?_
 ·rintro ρ τ ⟨q0,hall⟩
  simp only [go_sem,seval,q0,lp]
  refine fin (by rfl) ?_
  have e : path.all (fun s=>decide (s.t.length≤400))=true:=by
   rw [List.all_eq_true]
   intro s hs
   obtain ⟨i,hi,rfl⟩:=List.getElem_of_mem hs
   simpa using hall i hi
  unfold yV
  rw [e,Bool.true_and]
  congr 1
  rw [decide_eq_decide]
  omega
 refine aF (fun m ρ τ=>∃ j : Nat,m=path.length-j∧j≤path.length∧(∀ (i : Nat) (h : i < path.length),i < j→path[i].t.length≤400)∧ρ.get 0=pw∧ρ.get 5=pw∧ρ.get 6=.int .i64 path.length∧ρ.get 7=.int .i64 j) (n:=path.length) ?_ ⟨0,rfl,by omega,fun _ _ h=>absurd h (Nat.not_lt_zero _),rfl,rfl,rfl,rfl⟩
 rintro m ρ τ ⟨j,rfl,hj,hall,q0,q5,q6,q7⟩
 by_cases hc' : j < path.length
 rotate_left
 ·have a5 : decide ((j : Int) < (path.length : Int))=false:=decide_eq_false (by omega)
  simp only [go_sem,seval,q0,q6,q7,a5]
  exact fun i h=>hall i h (by omega)
 obtain ⟨tg,hit,a3,a4⟩:=hp.jr (j:=j) (by simpa using hc')
 rw [List.getElem_map] at a4
 rw [List.length_map] at hit
 have a2 : (j : Int) < (path.length : Int):=by omega
 have a5 : decide ((j : Int) < (path.length : Int))=true:=decide_eq_true a2
 have a6 : IntKind.i64.wrap ((j : Int)+1)=((j+1 : Nat) : Int):=by rw [iw (by omega)];omega
 have s1 : path[j].cells.length=5:=rfl
 have s2 : path[j].cells.all VV.aC=true:=rfl
 have s3 : path[j].cells.take 5=path[j].cells:=rfl
 have s5 : path[j].cells.getD 4 .undef=.str path[j].t:=rfl
 by_cases ht : path[j].t.length≤400
 ·have b : decide ((400 : Int) < (path[j].t.length : Int))=false:=decide_eq_false (by omega)
  simp only [go_sem,seval,q0,q5,q6,q7,hit,a0,a2,a3,a4,a5,a6,Int.toNat_natCast,s1,s2,s3,s5,b,SS]
  refine ⟨path.length-(j+1),by omega,j+1,rfl,by omega,fun i h h1=>?_,rfl⟩
  rcases Nat.lt_succ_iff_lt_or_eq.1 h1 with h1 | rfl
  ·exact hall i h h1
  ·exact ht
 ·have b : decide ((400 : Int) < (path[j].t.length : Int))=true:=decide_eq_true (by omega)
  simp only [go_sem,seval,q0,q5,q6,q7,hit,a0,a2,a3,a4,a5,a6,Int.toNat_natCast,s1,s2,s3,s5,b,SS]
  refine fin (by rfl) ?_
  have e : path.all (fun s=>decide (s.t.length≤400))=false:=by
   rw [List.all_eq_false]
   exact ⟨_,List.getElem_mem hc',by simpa using ht⟩
  unfold yV
  rw [e,Bool.false_and]
theorem QM {x : Tr} {c : List VV} (h : kV x c) (hO : jk x) (hS : FY x) (seed bits : Int) {v : T} (hmv : x.mk 1 0=(v.nd,.ok v)) (σ : Store) :
  CV Tryz.prog G0 14 [.agg [.int .u64 seed,.int .i64 bits],.agg c] σ fun r σ'=>∃ X : Vl,oL v X∧X.ok∧r=.ret X.vv∧Ch (fun _=>False) σ σ':=by
 obtain ⟨x1,x2,x3⟩:=h.cells
 have x4 : c.take 5=c:=List.take_of_length_le (by omega)
 refine cv e14 (by simp) ?_
 simp only [go_sem,seval,c14,x1,x3,x4,SS]
 refine CV.mono (XI h hO hS seed bits _) ?_
 rintro r σ' hr
 rw [hmv] at hr
 obtain ⟨X,hvX,hXo,_,_,rfl,hch⟩:=hr
 have d1 : X.cells.length=11:=rfl
 have d2 : X.cells.all VV.aC=true:=hXo.cell
 have d3 : X.cells.take 11=X.cells:=rfl
 have hl:=hch.len
 have l3 : σ.length+(1+1) < σ'.length:=by simp at hl;omega
 have r3 : σ'[σ.length+(1+1)]?=some (.own [.int .i64 0,.int .i64 0,.str [],.int .i64 0,.nilp,.int .u64 0,.int .i64 0,.int .i64 0,.nilp,.int .i64 0,.int .i64 0]):=by rw [hch.same _ (by simp) (by simp)];simp
 have r4 : ∀ υ,(σ'++υ)[σ.length+(1+1)]?=some (.own [.int .i64 0,.int .i64 0,.str [],.int .i64 0,.nilp,.int .u64 0,.int .i64 0,.int .i64 0,.nilp,.int .i64 0,.int .i64 0]):=fun υ=>by rw [List.getElem?_append_left l3];exact r3
 have gs : ∀ (υ : Store) (o : Obj),((σ'++υ).set (σ.length+(1+1)) o)[σ.length+(1+1)]?=some o:=fun υ o=>List.getElem?_set_self (by simp;omega)
 simp only [go_sem,seval,gZ,Vl.vv,r4,gs,d1,d2,d3,SS]
 refine ⟨X,hvX,hXo,rfl,⟨by simp at hl ⊢;omega,fun i hi _=>?_⟩⟩
 rw [List.getElem?_set_ne (by omega),List.getElem?_append_left (by omega),hch.same i (by simp;omega) (by simp),List.getElem?_append_left hi]
end Go.V
