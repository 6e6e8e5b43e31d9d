/- Texts F95 F96 F97. -/
import Derived.Test.YthhjefemijhamaaGreatDoorG46
import Derived.Test.YthhjefemijhamaaGreatDoorG50
set_option linter.unusedVariables false
set_option linter.unusedSimpArgs false
namespace Go.V
open Go.Proofs
set_option maxRecDepth 100000
theorem p_rown (k i : Int) (t : Bs) (keys : List Bs) (n : Nat) (kv iv : VV) (cs : List (List VV)) (hk : SlV 1 kv (keys.map fun b=>[VV.str b])) (hcl : cs.length=n) (hi : SlV 5 iv cs) (hkl : keys.length≤100000) (hil : n≤100000) :
  PV Tryz.prog G0 62 [.agg [.int .i64 k,.int .i64 i,.str t,kv,iv]] (.int .i64 (ownV k i t keys n)):=by
 have hkp:=hk.pure
 have hip:=hi.pure
 have hkc:=hk.cell
 have hic:=hi.cell
 have hksl : ∀ {σ},evLen Tryz.prog 25 kv σ=okV (.int .i64 keys.length) σ:=by intro σ;rw [hk.evLen k_tsl_25];simp
 have hisl : ∀ {σ},evLen Tryz.prog 26 iv σ=okV (.int .i64 n) σ:=by intro σ;rw [hi.evLen k_tsl_26,hcl]
 have hPl:=p_rPlain k i t kv iv hkp hip hkc hic
 have hS:=p_rCheck k i t
 refine pv e62 (by simp) (by simp only [VV.arePure,VV.isPure,hkp,hip];rfl) rfl ?_
 simp only [go_sem,seval] at hkc
 simp only [go_sem,seval] at hic
 obtain ⟨E,hE⟩ : ∃ E,E=ownV k i t keys n:=⟨_,rfl⟩
 rw [← hE]
 have bt : (t == [])=decide (t=[]):=by by_cases h : t=[]<;>simp [h]
 by_cases k0 : k < 0
 ·have b0 : decide (k < 0)=true:=decide_eq_true k0
  simp only [go_sem,seval,c62,hkc,hic,b0]
  exact fin (by rfl) (by rw [hE];unfold ownV;rw [if_neg (by omega),if_neg (by omega),if_neg (by omega)])
 have b0 : decide (k < 0)=false:=decide_eq_false k0
 by_cases k6 : 6 < k
 ·have b6 : decide (6 < k)=true:=decide_eq_true k6
  simp only [go_sem,seval,c62,hkc,hic,b0,b6]
  exact fin (by rfl) (by rw [hE];unfold ownV;rw [if_neg (by omega),if_neg (by omega),if_neg (by omega)])
 have b6 : decide (6 < k)=false:=decide_eq_false k6
 by_cases k3 : k≤3
 ·have b3 : decide (k≤3)=true:=decide_eq_true k3
  have hown : ownV k i t keys n=if 0 < keys.length+n then 1 else checkS k i t:=by
   unfold ownV;rw [if_neg (by omega),if_neg (by omega),if_pos (by omega)]
  by_cases d1 : 0 < keys.length
  ·have e1 : decide ((0 : Int) < (keys.length : Int))=true:=decide_eq_true (by omega)
   simp only [go_sem,seval,c62,hkc,hic,b0,b6,b3,hksl,hisl,e1]
   exact fin (by rfl) (by rw [hE,hown,if_pos (by omega)])
  have e1 : decide ((0 : Int) < (keys.length : Int))=false:=decide_eq_false (by omega)
  by_cases d2 : 0 < n
  ·have e2 : decide ((0 : Int) < (n : Int))=true:=decide_eq_true (by omega)
   simp only [go_sem,seval,c62,hkc,hic,b0,b6,b3,hksl,hisl,e1,e2]
   exact fin (by rfl) (by rw [hE,hown,if_pos (by omega)])
  have e2 : decide ((0 : Int) < (n : Int))=false:=decide_eq_false (by omega)
  simp only [go_sem,seval,c62,hkc,hic,b0,b6,b3,hksl,hisl,e1,e2]
  (first | refine callO_pure (hPl) ?_ | refine dpureO_of (hPl) ?_ | refine dpureO_save (hPl) ?_ | refine dcallO_pure (hPl) (by simp only [go_sem,seval]) ?_ | refine dcallO_pure (hPl) ?_ ?_)<;>simp only [go_sem,seval]
  (first | refine callO_pure (hS) ?_ | refine dpureO_of (hS) ?_ | refine dpureO_save (hS) ?_ | refine dcallO_pure (hS) (by simp only [go_sem,seval]) ?_ | refine dcallO_pure (hS) ?_ ?_)<;>simp only [go_sem,seval]
  exact fin (by rfl) (by rw [hE,hown,if_neg (by omega)])
 have b3 : decide (k≤3)=false:=decide_eq_false k3
 have hk456 : k=4∨k=5∨k=6:=by omega
 have bad : ∀ P : (i≠0∨t≠[])∨(k=5∧keys.length≠n)∨(k≠5∧0 < keys.length),VV.int .i64 1=VV.int .i64 E:=by
  intro hP
  rw [hE]
  unfold ownV
  by_cases h5 : k=5
  ·rw [if_pos h5]
   split
   ·rfl
   ·split
    ·rfl
    ·rename_i a b
     exfalso
     rcases hP with h | h | h
     ·exact b h
     ·exact a h.2
     ·exact h.1 h5
  ·rw [if_neg h5,if_pos (by omega),if_pos]
   rcases hP with h | h | h
   ·exact .inr h
   ·exact absurd h.1 h5
   ·exact .inl h.2
 by_cases d1 : i=0
 rotate_left
 ·have e1 : (i == 0)=false:=by simpa using d1
  simp only [go_sem,seval,c62,hkc,hic,b0,b6,b3,bne,e1,Bool.not_false]
  exact fin (by rfl) (bad (.inl (.inl d1)))
 by_cases d2 : t=[]
 rotate_left
 ·have e1 : (i == 0)=true:=by simpa using d1
  have e2 : (t == [])=false:=by simpa using d2
  simp only [go_sem,seval,c62,hkc,hic,b0,b6,b3,bne,e1,e2,Bool.not_false,Bool.not_true]
  exact fin (by rfl) (bad (.inl (.inr d2)))
 subst d1 d2
 by_cases d3 : (k=5∧keys.length≠n)∨(k≠5∧0 < keys.length)
 ·rcases d3 with ⟨d3,d4⟩ | ⟨d3,d4⟩
  ·have e3 : (k == 5)=true:=by simpa using d3
   have e4 : ((keys.length : Int) == (n : Int))=false:=by simp;omega
   simp only [go_sem,seval,c62,hkc,hic,b0,b6,b3,bne,e3,e4,hksl,hisl,Bool.not_false,Bool.not_true,beq_self_eq_true]
   exact fin (by rfl) (bad (.inr (.inl ⟨d3,d4⟩)))
  ·have e3 : (k == 5)=false:=by simpa using d3
   have e4 : decide ((0 : Int) < (keys.length : Int))=true:=decide_eq_true (by omega)
   simp only [go_sem,seval,c62,hkc,hic,b0,b6,b3,bne,e3,e4,hksl,hisl,Bool.not_false,Bool.not_true,beq_self_eq_true]
   exact fin (by rfl) (bad (.inr (.inr ⟨d3,d4⟩)))
 have good : ∀ b : Bool,(b=true↔keys.Nodup)→VV.int .i64 (if b=true then 0 else 6)=VV.int .i64 E:=by
  intro b hb
  have hnz : ¬ ((0 : Int)≠0∨([] : Bs)≠[]):=by simp
  rw [hE]
  unfold ownV
  by_cases h5 : k=5
  ·rw [if_pos h5,if_neg (fun h=>d3 (.inl ⟨h5,h⟩)),if_neg hnz]
   by_cases hn : keys.Nodup
   ·rw [if_pos (hb.2 hn),if_neg (ddK_nodup hn)]
   ·rw [if_neg (fun h=>hn (hb.1 h)),if_pos (ddK_dup hn)]
  ·have hz : keys=[]:=List.eq_nil_of_length_eq_zero (by
    refine Classical.byContradiction fun h=>d3 (.inr ⟨h5,by omega⟩))
   subst hz
   rw [if_neg h5,if_pos (show k=4∨k=6 by omega),if_neg (show ¬ (0 < ([] : List Bs).length∨(0 : Int)≠0∨([] : Bs)≠[]) by simp),if_pos (hb.2 List.nodup_nil)]
 refine wpV_seq_cut (M:=fun ρ τ=>ρ.get 1=.mptr 0 0∧τ=[.own [.int .i64 k,.int .i64 0,.str [],kv,iv]]) ?_ ?_
 ·simp only [go_sem,seval,hkc,hic]
 rintro ρ _ ⟨q1,rfl⟩
 refine wpV_seq_cut (M:=fun ρ τ=>ρ.get 1=.mptr 0 0∧τ=[.own [.int .i64 k,.int .i64 0,.str [],kv,iv]]) ?_ ?_
 ·by_cases h5 : k=5
  ·have e3 : (k == 5)=true:=by simpa using h5
   have e4 : ((keys.length : Int) == (n : Int))=true:=by
    have : keys.length=n:=Classical.byContradiction fun h=>d3 (.inl ⟨h5,h⟩)
    simp;omega
   simp only [go_sem,seval,q1,hkc,hic,b0,b6,b3,bne,e3,e4,hksl,hisl,Bool.not_false,Bool.not_true,beq_self_eq_true]
  ·have e3 : (k == 5)=false:=by simpa using h5
   have e4 : decide ((0 : Int) < (keys.length : Int))=false:=decide_eq_false fun h=>d3 (.inr ⟨h5,by omega⟩)
   simp only [go_sem,seval,q1,hkc,hic,b0,b6,b3,bne,e3,e4,hksl,hisl,Bool.not_false,Bool.not_true,beq_self_eq_true]
 rintro ρ _ ⟨q1,rfl⟩
 simp only [go_sem,seval,q1,hkc,hic,hksl]
 refine wpV_cutB (M:=fun ρ τ=>Apart keys keys.length) ?_ ?_
 ·rintro ρ τ hA
  simp only [go_sem,seval]
  exact fin (by rfl) (good true ⟨fun _=>hA.nodup,fun _=>rfl⟩)
 refine wpV_loop_inv (fun m ρ τ=>∃ a : Nat,m=keys.length-a∧a≤keys.length∧Apart keys a∧ρ.get 1=.mptr 0 0∧ρ.get 66=.int .i64 keys.length∧ρ.get 67=.int .i64 a∧τ=[.own [.int .i64 k,.int .i64 0,.str [],kv,iv]]) (n:=keys.length) ?_ ⟨0,rfl,by omega,fun x y _ _ _ h=>absurd h (Nat.not_lt_zero _),q1,rfl,rfl,rfl⟩
 rintro m ρ _ ⟨a,rfl,ha,hA,q1,q66,q67,rfl⟩
 simp only [go_sem,seval,q66,q67]
 refine condO_split (fun hc=>?_) (fun hc=>?_)
 rotate_left
 ·have hc' : a=keys.length:=by simp at hc;omega
  subst hc'
  simp only [go_sem,seval,q1]
  exact hA
 have hc' : a < keys.length:=by simpa using hc
 have w6 : IntKind.i64.wrap ((a : Int)+1)=((a+1 : Nat) : Int):=by rw [iw (by omega)];omega
 simp only [go_sem,seval,q1,q66,q67]
 refine wpV_loop_inv (fun m ρ τ=>∃ b : Nat,m=a-b∧b≤a∧(∀ (x : Nat) (hx : x < keys.length),x < b→keys[x]≠keys[a])∧ρ.get 1=.mptr 0 0∧ρ.get 3=.int .i64 a∧ρ.get 66=.int .i64 keys.length∧ρ.get 67=.int .i64 a∧ρ.get 70=.int .i64 a∧ρ.get 71=.int .i64 b∧τ=[.own [.int .i64 k,.int .i64 0,.str [],kv,iv]]) (n:=a) ?_ ⟨0,rfl,by omega,fun x _ h=>absurd h (Nat.not_lt_zero _),q1,rfl,q66,q67,rfl,rfl,rfl⟩
 rintro m ρ _ ⟨b,rfl,hb,hB,q1,q3,q66,q67,q70,q71,rfl⟩
 simp only [go_sem,seval,q70,q71]
 refine condO_split (fun hc2=>?_) (fun hc2=>?_)
 rotate_left
 ·have hb' : b=a:=by simp at hc2;omega
  subst hb'
  simp only [go_sem,seval,q1,q66,q67,w6]
  refine ⟨keys.length-(b+1),by omega,b+1,rfl,by omega,fun x y hx hy hxy hy1=>?_,rfl⟩
  by_cases hyb : y < b
  ·exact hA x y hx hy hxy hyb
  ·obtain rfl : y=b:=by omega
   exact hB x hx (by omega)
 have hb' : b < a:=by simpa using hc2
 have hbl : b < keys.length:=by omega
 have w7 : IntKind.i64.wrap ((b : Int)+1)=((b+1 : Nat) : Int):=by rw [iw (by omega)];omega
 obtain ⟨tg,hkt,c3,c4⟩:=hk.strAt hc'
 obtain ⟨_,_,d3',d4⟩:=hk.strAt hbl
 have c1 : (0 : Int)≤(a : Int):=by omega
 have c2 : (a : Int) < (keys.length : Int):=by omega
 have d1 : (0 : Int)≤(b : Int):=by omega
 have d2 : (b : Int) < (keys.length : Int):=by omega
 by_cases he : keys[a]=keys[b]
 ·have e9 : (keys[a] == keys[b])=true:=by simpa using he
  simp only [go_sem,seval,q1,q3,q66,q67,q70,q71,hkt,c1,c2,c3,c4,d1,d2,d3',d4,e9,Int.toNat_natCast]
  exact fin (by rfl) (good false ⟨(by simp),fun hn=>absurd he.symm (nodup_apart hn keys.length b a hbl hc' hb' hc')⟩)
 ·have e9 : (keys[a] == keys[b])=false:=by simpa using he
  simp only [go_sem,seval,q1,q3,q66,q67,q70,q71,hkt,c1,c2,c3,c4,d1,d2,d3',d4,e9,w7,Int.toNat_natCast]
  refine ⟨a-(b+1),by omega,b+1,rfl,by omega,fun x hx hxb=>?_,rfl⟩
  by_cases hxb' : x < b
  ·exact hB x hx hxb'
  ·obtain rfl : x=b:=by omega
   exact fun h=>he h.symm
end Go.V
namespace Go.V
open Go.Proofs
set_option maxRecDepth 100000
theorem GSl.msl {k : Nat} {σ : Store} {v : VV} {xs : List (List VV)} (h : GSl k σ v xs) (hne : xs≠[]) : ∃ id,v=.msl id 0 xs.length k∧σ[id]?=some (.own xs.flatten):=by
 cases h with
 | own hB h=>exact ⟨_,rfl,h⟩
 | _=>exact absurd rfl hne
theorem GSl.evLen {k : Nat} {σ : Store} {v : VV} {xs : List (List VV)} (h : GSl k σ v xs) {t e : TypeId} (ht : tsl Tryz.prog t=some e) {σ' : Store} : evLen Tryz.prog t v σ'=okV (.int .i64 xs.length) σ':=by
 cases h with
 | nil=>exact evLenS_nils (by simp [ht])
 | emp=>exact evLenS_sl (by simp [ht])
 | own=>exact evLenS_msl (by simp [ht])
theorem look_node (k i : Int) (t : Bs) (keys : List Bs) (items : List Tr) (kv iv : VV) (cs : List (List VV)) (hk : SlV 1 kv (keys.map fun b=>[VV.str b])) (hcs : TrVs items cs) (hi : SlV 5 iv cs) (hOK : TrOK (.node k i t keys items)) (hSm : TrS (.node k i t keys items)) (q n : Nat) (hq : q≤65) (hn : n≤16384)
  (ih : ∀ (j : Nat) (h : j < items.length) (h' : j < cs.length) (n : Nat),q≤64→n≤16384→PV Tryz.prog G0 40 [.agg cs[j],.int .i64 (q+1 : Nat),.int .i64 n] (.tup [.int .i64 (items[j].mk (q+1) n).1,.int .i64 (mkE (items[j].mk (q+1) n))])) :
  PV Tryz.prog G0 40 [.agg [.int .i64 k,.int .i64 i,.str t,kv,iv],.int .i64 q,.int .i64 n] (.tup [.int .i64 ((Tr.node k i t keys items).mk q n).1,.int .i64 (mkE ((Tr.node k i t keys items).mk q n))]):=by
 obtain ⟨htl,hkl2,hkl,hil,hSi⟩ : t.length≤200∧(∀ k ∈ keys,k.length≤200)∧keys.length≤450∧items.length≤400∧∀ x ∈ items,TrS x:=by cases hSm;exact ⟨‹_›,‹_›,‹_›,‹_›,‹_›⟩
 have hOi : ∀ x ∈ items,TrOK x:=by cases hOK;assumption
 have hkp:=hk.pure
 have hip:=hi.pure
 have hkc:=hk.cell
 have hic:=hi.cell
 have hcl:=hcs.len
 have hisl : ∀ {σ},evLen Tryz.prog 26 iv σ=okV (.int .i64 items.length) σ:=by intro σ;rw [hi.evLen k_tsl_26,hcl]
 have hO:=p_rown k i t keys items.length kv iv cs hk hcl hi (by omega) (by omega)
 have w1 : IntKind.i64.wrap ((n : Int)+1)=((n+1 : Nat) : Int):=by rw [iw (by omega)];omega
 have wq : IntKind.i64.wrap ((q : Int)+1)=((q+1 : Nat) : Int):=by rw [iw (by omega)];omega
 refine pv e40 (by simp) (by simp only [VV.arePure,VV.isPure,hkp,hip];rfl) rfl ?_
 simp only [go_sem,seval] at hkc
 simp only [go_sem,seval] at hic
 obtain ⟨M,hM⟩ : ∃ M,M=Tr.mk (.node k i t keys items) q n:=⟨_,rfl⟩
 rw [← hM]
 unfold Tr.mk at hM
 by_cases c1 : 64 < q
 ·have b1 : decide ((64 : Int) < (q : Int))=true:=decide_eq_true (by omega)
  rw [if_pos c1] at hM
  subst hM
  simp only [go_sem,seval,c40,hkc,hic,w1,b1,mkE]
  exact fin (by rfl) rfl
 have b1 : decide ((64 : Int) < (q : Int))=false:=decide_eq_false (by omega)
 rw [if_neg c1] at hM
 by_cases c2 : 16384 < n+1
 ·have b2 : decide ((16384 : Int) < ((n+1 : Nat) : Int))=true:=decide_eq_true (by omega)
  rw [if_pos c2] at hM
  subst hM
  simp only [go_sem,seval,c40,hkc,hic,w1,b1,b2,mkE]
  exact fin (by rfl) rfl
 have b2 : decide ((16384 : Int) < ((n+1 : Nat) : Int))=false:=decide_eq_false (by omega)
 rw [if_neg c2] at hM
 by_cases c3 : ownV k i t keys items.length=0
 rotate_left
 ·have b3 : (ownV k i t keys items.length == 0)=false:=by simpa using c3
  rw [if_pos c3] at hM
  subst hM
  simp only [go_sem,seval,c40,hkc,hic,w1,b1,b2,mkE]
  (first | refine callO_pure (hO) ?_ | refine dpureO_of (hO) ?_ | refine dpureO_save (hO) ?_ | refine dcallO_pure (hO) (by simp only [go_sem,seval,b3,bne,Bool.not_false]) ?_ | refine dcallO_pure (hO) ?_ ?_)<;>simp only [go_sem,seval,b3,bne,Bool.not_false]
  exact fin (by rfl) rfl
 have b3 : (ownV k i t keys items.length == 0)=true:=by simpa using c3
 rw [if_neg (by simpa using c3)] at hM
 simp only [go_sem,seval,c40,hkc,hic,w1,b1,b2]
 (first | refine callO_pure (hO) ?_ | refine dpureO_of (hO) ?_ | refine dpureO_save (hO) ?_ | refine dcallO_pure (hO) (by simp only [go_sem,seval,b3,bne,Bool.not_true,hisl,hkc,hic]) ?_ | refine dcallO_pure (hO) ?_ ?_)<;>simp only [go_sem,seval,b3,bne,Bool.not_true,hisl,hkc,hic]
 by_cases c4 : k < 4
 ·rw [if_pos c4] at hM
  have hnil : items=[]:=by
   unfold ownV at c3
   rw [if_neg (by omega),if_neg (by omega)] at c3
   split at c3
   ·split at c3
    ·omega
    ·exact List.eq_nil_of_length_eq_zero (by omega)
   ·omega
  subst hnil
  subst hM
  have b6 : (k == 6)=false:=by simp;omega
  refine wpV_loop ?_
  simp only [go_sem,seval,hkc,hic,b6,bne,Bool.not_false,mkE,List.length_nil]
  exact fin (by rfl) rfl
 rw [if_neg c4] at hM
 refine wpV_cutB (M:=fun ρ τ=>∃ (vs : List T) (n' : Nat),Tr.mks items (q+1) (n+1)=(n',.inl vs)∧ρ.get 2=.int .i64 n'∧ρ.get 3=.mptr 0 0∧τ[0]?=some (.own [.int .i64 k,.int .i64 i,.str t,kv,iv])) ?_ ?_
 rotate_left
 ·refine wpV_loop_inv (fun m ρ τ=>∃ (j : Nat) (vs : List T) (n' : Nat),m=items.length-j∧j≤items.length∧n'≤16384∧MksAt items (q+1) (n+1) j n' vs∧ρ.get 1=.int .i64 q∧ρ.get 2=.int .i64 n'∧ρ.get 3=.mptr 0 0∧ρ.get 32=iv∧ρ.get 33=.int .i64 items.length∧ρ.get 34=.int .i64 j∧τ[0]?=some (.own [.int .i64 k,.int .i64 i,.str t,kv,iv])) (n:=items.length) ?_ ⟨0,[],n+1,rfl,by omega,by omega,.zero,rfl,rfl,rfl,rfl,rfl,rfl,rfl⟩
  rintro m ρ τ ⟨j,vs,n',rfl,hj,hn',hAt,q1,q2,q3,q32,q33,q34,t0⟩
  simp only [go_sem,seval,q32,q33,q34]
  refine condO_split (fun hc=>?_) (fun hc=>?_)
  rotate_left
  ·have hc' : j=items.length:=by simp at hc;omega
   subst hc'
   simp only [go_sem,seval,q1,q2,q3]
   exact ⟨vs,n',hAt.all,rfl,t0⟩
  have hc' : j < items.length:=by simpa using hc
  have hcj : j < cs.length:=by omega
  obtain ⟨tg,hit,a3,a4⟩:=hi.cellsAt hcj
  rw [hcl] at hit
  have x1:=hi.blk.len _ (List.getElem_mem hcj)
  have x3 : cs[j].all VV.isCell=true:=hi.blk.cell _ (List.getElem_mem hcj)
  have x4 : cs[j].take 5=cs[j]:=List.take_of_length_le (by omega)
  have a1 : (0 : Int)≤(j : Int):=by omega
  have a2 : (j : Int) < (items.length : Int):=by omega
  have a6 : IntKind.i64.wrap ((j : Int)+1)=((j+1 : Nat) : Int):=by rw [iw (by omega)];omega
  have t0' : ∀ υ,(τ++υ)[0]?=some (.own [.int .i64 k,.int .i64 i,.str t,kv,iv]):=fun υ=>by rw [List.getElem?_append_left (List.getElem?_eq_some_iff.1 t0).1];exact t0
  have hih:=ih j hc' hcj n' (by omega) hn'
  obtain ⟨MR,hMR⟩ : ∃ M,M=items[j].mk (q+1) n':=⟨_,rfl⟩
  rw [← hMR] at hih
  obtain ⟨n1,R⟩:=MR
  simp only [go_sem,seval,q1,q2,q3,q32,q33,q34,hit,a1,a2,a3,a4,x1,x3,x4,wq,Int.toNat_natCast,SS]
  cases R with
  | er e =>
   have be : (e == 0)=false:=by simpa using mk_er items[j] (q+1) n' n1 e hMR.symm
   rw [hAt.er hc' hMR.symm] at hM
   simp only at hM
   subst hM
   (first | refine callO_pure (hih) ?_ | refine dpureO_of (hih) ?_ | refine dpureO_save (hih) ?_ | refine dcallO_pure (hih) (by simp only [go_sem,seval,q1,q2,q3,q32,q33,q34,mkE,be,bne,Bool.not_false]) ?_ | refine dcallO_pure (hih) ?_ ?_)<;>simp only [go_sem,seval,q1,q2,q3,q32,q33,q34,mkE,be,bne,Bool.not_false]
   exact fin (by rfl) rfl
  | ok v =>
   have hn1:=(mk_good items[j] (q+1) n' n1 v (hOi _ (List.getElem_mem hc')) hMR.symm).2.2
   (first | refine callO_pure (hih) ?_ | refine dpureO_of (hih) ?_ | refine dpureO_save (hih) ?_ | refine dcallO_pure (hih) (by simp only [go_sem,seval,q1,q2,q3,q32,q33,q34,mkE,beq_self_eq_true,bne,Bool.not_true,a6]) ?_ | refine dcallO_pure (hih) ?_ ?_)<;>simp only [go_sem,seval,q1,q2,q3,q32,q33,q34,mkE,beq_self_eq_true,bne,Bool.not_true,a6]
   exact ⟨items.length-(j+1),by omega,j+1,_,n1,rfl,by omega,hn1,hAt.ok hc' hMR.symm,rfl,hit,rfl,by rw [← hit];exact t0' _⟩
 rintro ρ τ ⟨vs,n',hm,q2,q3,t0⟩
 rw [hm] at hM
 simp only at hM
 obtain ⟨m1,m2⟩:=mks_get hm
 by_cases h6 : k=6
 rotate_left
 ·have b6 : (k == 6)=false:=by simpa using h6
  have : M=(n',.ok (if k=4 then .vec vs else .map (insL (keys.zip vs)))):=by
   rw [hM]
   unfold partsR
   split
   ·rfl
   ·have h5 : k=5:=by
     unfold ownV at c3
     refine Classical.byContradiction fun h=>?_
     rw [if_neg h,if_neg (by omega),if_neg (by omega)] at c3
     omega
    rw [if_pos h5]
  subst this
  simp only [go_sem,seval,q2,q3,t0,hkc,hic,b6,bne,Bool.not_false,mkE]
  exact fin (by rfl) rfl
 have b6 : (k == 6)=true:=by simpa using h6
 have hm' : M=(n',if (insL (vs.map fun v=>(v.key,v))).length < vs.length then .er 6 else .ok (.set ((insL (vs.map fun v=>(v.key,v))).map (·.2)))):=by
  rw [hM];unfold partsR;rw [if_neg (by omega),if_neg (by omega)]
 obtain ⟨L,hL⟩ : ∃ L,L=vs.map T.key:=⟨_,rfl⟩
 have hLl : L.length=items.length:=by rw [hL,List.length_map,m1]
 have good : ∀ b : Bool,(b=true↔L.Nodup)→VV.tup [.int .i64 n',.int .i64 (if b=true then 0 else 6)]=VV.tup [.int .i64 M.1,.int .i64 (mkE M)]:=by
  intro b hb
  rw [hL] at hb
  by_cases hn : (vs.map T.key).Nodup
  ·rw [hm',if_neg (fun h=>set_dup.1 h hn),if_pos (hb.2 hn)];rfl
  ·rw [hm',if_pos (set_dup.2 hn),if_neg (fun h=>hn (hb.1 h))];rfl
 obtain ⟨g1,g2,g3,g4⟩:=mks_good items _ _ _ _ hOi hm (by omega)
 have hsm:=mks_sm items _ _ _ _ hOi hSi hm
 simp only [go_sem,seval,q2,q3,t0,hkc,hic,b6,bne,Bool.not_true,hisl]
 refine wpV_cutB (M:=fun ρ τ=>ρ.get 2=.int .i64 n'∧GSl 1 τ (ρ.get 12) (L.map fun b=>[VV.str b])) ?_ ?_
 rotate_left
 ·refine wpV_loop_inv (fun m ρ τ=>∃ j : Nat,m=items.length-j∧j≤items.length∧GSl 1 τ (ρ.get 12) ((L.take j).map fun b=>[VV.str b])∧ρ.get 2=.int .i64 n'∧ρ.get 56=iv∧ρ.get 57=.int .i64 items.length∧ρ.get 58=.int .i64 j) (n:=items.length) ?_ ⟨0,rfl,by omega,.nil,q2,rfl,rfl,rfl⟩
  rintro m ρ τ ⟨j,rfl,hj,hG,q2,q56,q57,q58⟩
  simp only [go_sem,seval,q56,q57,q58]
  refine condO_split (fun hc=>?_) (fun hc=>?_)
  rotate_left
  ·have hc' : j=L.length:=by simp at hc;omega
   rw [hc',List.take_length] at hG
   simp only [go_sem,seval,q2]
   exact hG
  have hc' : j < items.length:=by simpa using hc
  have hcj : j < cs.length:=by omega
  have hjL : j < L.length:=by omega
  have hjv : j < vs.length:=by omega
  obtain ⟨tg,hit,a3,a4⟩:=hi.cellsAt hcj
  rw [hcl] at hit
  have x1:=hi.blk.len _ (List.getElem_mem hcj)
  have x3 : cs[j].all VV.isCell=true:=hi.blk.cell _ (List.getElem_mem hcj)
  have x4 : cs[j].take 5=cs[j]:=List.take_of_length_le (by omega)
  have a1 : (0 : Int)≤(j : Int):=by omega
  have a2 : (j : Int) < (items.length : Int):=by omega
  have a6 : IntKind.i64.wrap ((j : Int)+1)=((j+1 : Nat) : Int):=by rw [iw (by omega)];omega
  obtain ⟨na,nb,hab⟩:=m2 j hc' hjv
  obtain ⟨c',hT,hCan⟩:=p_cansT items cs hcs hOi hSi j hc' hcj _ _ _ _ hab
  have hmem : vs[j] ∈ vs:=List.getElem_mem hjv
  have hKey:=p_keyT vs[j] c' (q+1) hT (hsm _ hmem) (wfs_mem g1 _ hmem) (by have:=nds_mem hmem;omega)
  have hLj : vs[j].key=L[j]:=by simp [hL]
  rw [hLj] at hKey
  have hB1 : Blk 1 [[VV.str L[j]]]:=strBlk [(L[j],())]
  simp only [go_sem,seval,q2,q56,q57,q58,hit,a1,a2,a3,a4,x1,x3,x4,Int.toNat_natCast,SS]
  (first | refine callO_pure (hCan) ?_ | refine dpureO_of (hCan) ?_ | refine dpureO_save (hCan) ?_ | refine dcallO_pure (hCan) (by simp only [go_sem,seval,q2,q56,q57,q58]) ?_ | refine dcallO_pure (hCan) ?_ ?_)<;>simp only [go_sem,seval,q2,q56,q57,q58]
  (first | refine callO_pure (hKey) ?_ | refine dpureO_of (hKey) ?_ | refine dpureO_save (hKey) ?_ | refine dcallO_pure (hKey) (by simp only [go_sem,seval,q2,q56,q57,q58]) ?_ | refine dcallO_pure (hKey) ?_ ?_)<;>simp only [go_sem,seval,q2,q56,q57,q58]
  refine (hG.snoc [.own cs[j]]).step (ys:=[[VV.str L[j]]]) k_tsl_25 k_tsz_9 k_tby_9 k_tzero_9 rfl (by decide) (by decide) hB1 (by simp;omega) ((SlV.sl [[VV.str L[j]]] true hB1).src k_tsl_25) fun w σ' g K N=>?_
  simp only [go_sem,seval,q2,q56,q57,q58,a6]
  exact ⟨items.length-(j+1),by omega,j+1,rfl,by omega,by rw [List.take_succ_eq_append_getElem hjL,List.map_append];exact g,hit,rfl⟩
 rintro ρ τ ⟨q2,hG⟩
 have hlen : ∀ {σ'},evLen Tryz.prog 25 (ρ.get 12) σ'=okV (.int .i64 L.length) σ':=by intro σ';rw [hG.evLen k_tsl_25];simp
 obtain ⟨w,hw⟩ : ∃ w,w=ρ.get 12:=⟨_,rfl⟩
 rw [← hw] at hG hlen
 simp only [go_sem,seval,q2,← hw,hlen]
 refine wpV_cutB (M:=fun ρ τ=>ρ.get 2=.int .i64 n'∧Apart L L.length) ?_ ?_
 ·rintro ρ τ ⟨q2,hA⟩
  simp only [go_sem,seval,q2]
  exact fin (by rfl) (good true ⟨fun _=>hA.nodup,fun _=>rfl⟩)
 refine wpV_loop_inv (fun m ρ τ=>∃ a : Nat,m=L.length-a∧a≤L.length∧Apart L a∧ρ.get 2=.int .i64 n'∧ρ.get 12=w∧ρ.get 70=.int .i64 L.length∧ρ.get 71=.int .i64 a∧GSl 1 τ w (L.map fun b=>[VV.str b])) (n:=L.length) ?_ ⟨0,rfl,by omega,fun x y _ _ _ h=>absurd h (Nat.not_lt_zero _),q2,hw.symm,rfl,rfl,hG⟩
 rintro m ρ τ ⟨a,rfl,ha,hA,q2,q12,q70,q71,hG⟩
 simp only [go_sem,seval,q70,q71]
 refine condO_split (fun hc=>?_) (fun hc=>?_)
 rotate_left
 ·have hc' : a=L.length:=by simp at hc;omega
  subst hc'
  simp only [go_sem,seval,q2]
  exact hA
 have hc' : a < L.length:=by simpa using hc
 have w6 : IntKind.i64.wrap ((a : Int)+1)=((a+1 : Nat) : Int):=by rw [iw (by omega)];omega
 simp only [go_sem,seval,q2,q12,q70,q71]
 refine wpV_loop_inv (fun m ρ τ=>∃ b : Nat,m=a-b∧b≤a∧(∀ (x : Nat) (hx : x < L.length),x < b→L[x]≠L[a])∧ρ.get 2=.int .i64 n'∧ρ.get 12=w∧ρ.get 15=.int .i64 a∧ρ.get 70=.int .i64 L.length∧ρ.get 71=.int .i64 a∧ρ.get 74=.int .i64 a∧ρ.get 75=.int .i64 b∧GSl 1 τ w (L.map fun b=>[VV.str b])) (n:=a) ?_ ⟨0,rfl,by omega,fun x _ h=>absurd h (Nat.not_lt_zero _),q2,q12,rfl,q70,q71,rfl,rfl,hG⟩
 rintro m ρ τ ⟨b,rfl,hb,hB,q2,q12,q15,q70,q71,q74,q75,hG⟩
 simp only [go_sem,seval,q74,q75]
 refine condO_split (fun hc2=>?_) (fun hc2=>?_)
 rotate_left
 ·have hb' : b=a:=by simp at hc2;omega
  subst hb'
  simp only [go_sem,seval,q2,q12,q70,q71,w6]
  refine ⟨L.length-(b+1),by omega,b+1,rfl,by omega,fun x y hx hy hxy hy1=>?_,rfl,hG⟩
  by_cases hyb : y < b
  ·exact hA x y hx hy hxy hyb
  ·obtain rfl : y=b:=by omega
   exact hB x hx (by omega)
 have hb' : b < a:=by simpa using hc2
 have hbl : b < L.length:=by omega
 have w7 : IntKind.i64.wrap ((b : Int)+1)=((b+1 : Nat) : Int):=by rw [iw (by omega)];omega
 obtain ⟨id,hwm,hid⟩:=hG.msl (by intro e;have:=congrArg List.length e;simp at this;rw [this] at hbl;simp at hbl)
 rw [List.length_map] at hwm
 have hSl : SlV 1 (.sl (L.map fun b=>[VV.str b]).length (L.map fun b=>[VV.str b]).flatten false) (L.map fun b=>[VV.str b]):=SlV.of hG.blk rfl rfl
 obtain ⟨_,_,c3,c4⟩:=hSl.strAt hc'
 obtain ⟨_,_,d3,d4⟩:=hSl.strAt hbl
 have c1 : (0 : Int)≤(a : Int):=by omega
 have c2 : (a : Int) < (L.length : Int):=by omega
 have d1 : (0 : Int)≤(b : Int):=by omega
 have d2 : (b : Int) < (L.length : Int):=by omega
 by_cases he : L[a]=L[b]
 ·have e9 : (L[a] == L[b])=true:=by simpa using he
  simp only [go_sem,seval,q2,q12,q15,q70,q71,q74,q75,hwm,hid,c1,c2,c3,c4,d1,d2,d3,d4,e9,Nat.zero_add,Int.toNat_natCast]
  exact fin (by rfl) (good false ⟨(by simp),fun hn=>absurd he.symm (nodup_apart hn L.length b a hbl hc' hb' hc')⟩)
 ·have e9 : (L[a] == L[b])=false:=by simpa using he
  simp only [go_sem,seval,q2,q12,q15,q70,q71,q74,q75,hwm,hid,c1,c2,c3,c4,d1,d2,d3,d4,e9,w7,Nat.zero_add,Int.toNat_natCast]
  refine ⟨a-(b+1),by omega,b+1,rfl,by omega,fun x hx hxb=>?_,rfl,by rw [← hwm];exact hG⟩
  by_cases hxb' : x < b
  ·exact hB x hx hxb'
  ·obtain rfl : x=b:=by omega
   exact fun h=>he h.symm
mutual
theorem p_look : ∀ (x : Tr) (c : List VV),TrV x c→TrOK x→TrS x→∀ (q n : Nat),q≤65→n≤16384→PV Tryz.prog G0 40 [.agg c,.int .i64 q,.int .i64 n] (.tup [.int .i64 (x.mk q n).1,.int .i64 (mkE (x.mk q n))])
 | .node k i t keys items,c,h,hO,hS,q,n,hq,hn=>by
  cases h with
  | node h1 h2 h3 h4 h5 =>
  have hOi : ∀ x ∈ items,TrOK x:=by cases hO;assumption
  have hSi : ∀ x ∈ items,TrS x:=by cases hS;assumption
  exact look_node k i t keys items _ _ _ h1 h2 h3 hO hS q n hq hn fun j h h' n hq hn=>p_looks items _ h2 hOi hSi j h h' (q+1) n (by omega) hn
theorem p_looks : ∀ (l : List Tr) (cs : List (List VV)),TrVs l cs→(∀ x ∈ l,TrOK x)→(∀ x ∈ l,TrS x)→∀ (j : Nat) (h : j < l.length) (h' : j < cs.length) (q n : Nat),q≤65→n≤16384→PV Tryz.prog G0 40 [.agg cs[j],.int .i64 q,.int .i64 n] (.tup [.int .i64 (l[j].mk q n).1,.int .i64 (mkE (l[j].mk q n))])
 | x::l,c::cs,.cons h1 h2,hO,hS,0,_,_,q,n,hq,hn=>p_look x c h1 (hO x (by simp)) (hS x (by simp)) q n hq hn
 | x::l,c::cs,.cons h1 h2,hO,hS,j+1,h,h',q,n,hq,hn=>p_looks l cs h2 (fun y hy=>hO y (by simp [hy])) (fun y hy=>hS y (by simp [hy])) j (by simpa using h) (by simpa using h') q n hq hn
end
theorem p_rCheckT {x : Tr} {c : List VV} (h : TrV x c) (hO : TrOK x) (hS : TrS x) : PV Tryz.prog G0 15 [.agg c] (.int .i64 (mkE (x.mk 1 0))):=by
 obtain ⟨x1,x2,x3⟩:=h.cells
 have x4 : c.take 5=c:=List.take_of_length_le (by omega)
 have hL:=p_look x c h hO hS 1 0 (by omega) (by omega)
 refine pv e15 (by simp) (by simp only [VV.arePure,VV.isPure,x2];rfl) rfl ?_
 simp only [go_sem,seval,c15,x1,x3,x4]
 (first | refine callO_pure (hL) ?_ | refine dpureO_of (hL) ?_ | refine dpureO_save (hL) ?_ | refine dcallO_pure (hL) (by simp only [go_sem,seval]) ?_ | refine dcallO_pure (hL) ?_ ?_)<;>simp only [go_sem,seval]
 exact fin (by rfl) rfl
end Go.V
namespace Go.V
open Go.Proofs
set_option maxRecDepth 100000
theorem l_Encodes (s1 b1 : Int) {x : Tr} {c : List VV} (hx : TrV x c) (hOx : TrOK x) : PV Tryz.prog G0 3 [.agg [.int .u64 s1,.int .i64 b1],.agg c] (.bool true):=by
 have hL:=p_live
 obtain ⟨x1,x2,x3⟩:=hx.cells
 have x4 : c.take 5=c:=List.take_of_length_le (by omega)
 have hSx:=p_Small hx
 refine pv e3 (by simp) (by simp only [VV.arePure,VV.isPure,x2];rfl) rfl ?_
 cases hsx : (x.small 0 400).2 with
 | false =>
  rw [hsx] at hSx
  simp only [go_sem,seval,c3,x1,x3,x4]
  (first | refine callO_pure (hL) ?_ | refine dpureO_of (hL) ?_ | refine dpureO_save (hL) ?_ | refine dcallO_pure (hL) (by simp only [go_sem,seval,Bool.not_true,Bool.not_false,x1,x3,x4]) ?_ | refine dcallO_pure (hL) ?_ ?_)<;>simp only [go_sem,seval,Bool.not_true,Bool.not_false,x1,x3,x4]
  (first | refine callO_pure (hSx) ?_ | refine dpureO_of (hSx) ?_ | refine dpureO_save (hSx) ?_ | refine dcallO_pure (hSx) (by simp only [go_sem,seval,Bool.not_true,Bool.not_false]) ?_ | refine dcallO_pure (hSx) ?_ ?_)<;>simp only [go_sem,seval,Bool.not_true,Bool.not_false]
  (first | refine callO_pure (hL) ?_ | refine dpureO_of (hL) ?_ | refine dpureO_save (hL) ?_ | refine dcallO_pure (hL) (by simp only [go_sem,seval]) ?_ | refine dcallO_pure (hL) ?_ ?_)<;>simp only [go_sem,seval]
  exact fin (by rfl) rfl
 | true =>
 rw [hsx] at hSx
 have hTx:=Tr.small_S hsx
 have hCx:=p_rCheckT hx hOx hTx
 by_cases e1 : mkE (x.mk 1 0)=0
 rotate_left
 ·have be : (mkE (x.mk 1 0) == 0)=false:=by simpa using e1
  simp only [go_sem,seval,c3,x1,x3,x4]
  (first | refine callO_pure (hL) ?_ | refine dpureO_of (hL) ?_ | refine dpureO_save (hL) ?_ | refine dcallO_pure (hL) (by simp only [go_sem,seval,Bool.not_true,Bool.not_false,x1,x3,x4]) ?_ | refine dcallO_pure (hL) ?_ ?_)<;>simp only [go_sem,seval,Bool.not_true,Bool.not_false,x1,x3,x4]
  (first | refine callO_pure (hSx) ?_ | refine dpureO_of (hSx) ?_ | refine dpureO_save (hSx) ?_ | refine dcallO_pure (hSx) (by simp only [go_sem,seval,Bool.not_true,Bool.not_false,x1,x3,x4]) ?_ | refine dcallO_pure (hSx) ?_ ?_)<;>simp only [go_sem,seval,Bool.not_true,Bool.not_false,x1,x3,x4]
  (first | refine callO_pure (hCx) ?_ | refine dpureO_of (hCx) ?_ | refine dpureO_save (hCx) ?_ | refine dcallO_pure (hCx) (by simp only [go_sem,seval,Bool.not_true,Bool.not_false,bne,be]) ?_ | refine dcallO_pure (hCx) ?_ ?_)<;>simp only [go_sem,seval,Bool.not_true,Bool.not_false,bne,be]
  (first | refine callO_pure (hL) ?_ | refine dpureO_of (hL) ?_ | refine dpureO_save (hL) ?_ | refine dcallO_pure (hL) (by simp only [go_sem,seval]) ?_ | refine dcallO_pure (hL) ?_ ?_)<;>simp only [go_sem,seval]
  exact fin (by rfl) rfl
 obtain ⟨v,hmv,hvw,hvn,hvk,hve⟩:=mk_ok hOx hsx e1
 rw [e1] at hCx
 obtain ⟨c',hT,hCan⟩:=p_canT x c hx hOx hTx 1 0 _ _ hmv
 have hEn:=p_encT v c' 1 hT (mk_sm x 1 0 _ _ hOx hTx hmv) hvw (by omega)
 refine wpV_seq_cut (M:=fun ρ τ=>ρ.get 2=.mptr 0 0∧ρ.get 3=.mptr 1 0∧τ=[.own [.int .u64 s1,.int .i64 b1],.own c]) ?_ ?_
 ·simp only [go_sem,seval,x1,x3,x4]
 rintro ρ _ ⟨q2,q3,rfl⟩
 refine wpV_seq_cut (M:=fun ρ τ=>ρ.get 2=.mptr 0 0∧ρ.get 3=.mptr 1 0∧τ=[.own [.int .u64 s1,.int .i64 b1],.own c]) ?_ ?_
 ·simp only [go_sem,seval,q2,q3]
  (first | refine callO_pure (hL) ?_ | refine dpureO_of (hL) ?_ | refine dpureO_save (hL) ?_ | refine dcallO_pure (hL) (by simp only [go_sem,seval,Bool.not_true,Bool.not_false,q2,q3,x1,x3,x4]) ?_ | refine dcallO_pure (hL) ?_ ?_)<;>simp only [go_sem,seval,Bool.not_true,Bool.not_false,q2,q3,x1,x3,x4]
  (first | refine callO_pure (hSx) ?_ | refine dpureO_of (hSx) ?_ | refine dpureO_save (hSx) ?_ | refine dcallO_pure (hSx) (by simp only [go_sem,seval,Bool.not_true,Bool.not_false,q2,q3,x1,x3,x4]) ?_ | refine dcallO_pure (hSx) ?_ ?_)<;>simp only [go_sem,seval,Bool.not_true,Bool.not_false,q2,q3,x1,x3,x4]
  (first | refine callO_pure (hCx) ?_ | refine dpureO_of (hCx) ?_ | refine dpureO_save (hCx) ?_ | refine dcallO_pure (hCx) (by simp only [go_sem,seval,Bool.not_true,Bool.not_false,bne,beq_self_eq_true,q2,q3]) ?_ | refine dcallO_pure (hCx) ?_ ?_)<;>simp only [go_sem,seval,Bool.not_true,Bool.not_false,bne,beq_self_eq_true,q2,q3]
 rintro ρ _ ⟨q2,q3,rfl⟩
 refine wpV_seq_cut (M:=fun ρ τ=>∃ (X : Vl) (k : Nat),RVl v X∧X.ok∧ρ.get 3=.mptr 1 0∧τ[1]?=some (.own c)∧ρ.get 5=.mptr k 0∧ρ.get 6=.int .i64 0∧τ[k]?=some (.own X.cells)) ?_ ?_
 ·simp only [go_sem,seval,q2,q3,x1,x3,x4]
  refine CV.mono (c_Of hx hOx hTx s1 b1 _) ?_
  rintro r σ' hr
  rw [hmv] at hr
  obtain ⟨X,hvX,hXo,_,_,rfl,hch⟩:=hr
  have d1 : X.cells.length=11:=rfl
  have d2 : X.cells.all VV.isCell=true:=hXo.cell
  have d3 : X.cells.take 11=X.cells:=rfl
  have hl:=hch.len
  simp only [List.length_cons,List.length_nil] at hl
  simp only [go_sem,seval,resK,Vl.vv,q2,q3,d1,d2,d3,SS]
  exact ⟨X,σ'.length,hvX,hXo,by rw [List.getElem?_append_left (by omega),hch.same _ (by simp) id];rfl,rfl,by simp⟩
 rintro ρ τ ⟨X,k,hvX,hXo,q3,t1,q5,q6,tk⟩
 have hEx:=p_Encode hvX hXo (by omega)
 simp only [Vl.vv] at hEx
 have d1 : X.cells.length=11:=rfl
 have d2 : X.cells.all VV.isCell=true:=hXo.cell
 have d3 : X.cells.take 11=X.cells:=rfl
 refine wpV_seq_cut (M:=fun ρ τ=>ρ.get 4=.bool true) ?_ ?_
 ·simp only [go_sem,seval,q3,q5,q6,t1,tk,x1,x3,x4,d1,d2,d3]
  (first | refine callO_pure (hEx) ?_ | refine dpureO_of (hEx) ?_ | refine dpureO_save (hEx) ?_ | refine dcallO_pure (hEx) (by simp only [go_sem,seval,q3,q5,q6,t1,tk,x1,x3,x4,d1,d2,d3]) ?_ | refine dcallO_pure (hEx) ?_ ?_)<;>simp only [go_sem,seval,q3,q5,q6,t1,tk,x1,x3,x4,d1,d2,d3]
  (first | refine callO_pure (hCan) ?_ | refine dpureO_of (hCan) ?_ | refine dpureO_save (hCan) ?_ | refine dcallO_pure (hCan) (by simp only [go_sem,seval,q3,q5,q6,t1,tk,x1,x3,x4,d1,d2,d3]) ?_ | refine dcallO_pure (hCan) ?_ ?_)<;>simp only [go_sem,seval,q3,q5,q6,t1,tk,x1,x3,x4,d1,d2,d3]
  (first | refine callO_pure (hEn) ?_ | refine dpureO_of (hEn) ?_ | refine dpureO_save (hEn) ?_ | refine dcallO_pure (hEn) (by simp only [go_sem,seval,beq_self_eq_true]) ?_ | refine dcallO_pure (hEn) ?_ ?_)<;>simp only [go_sem,seval,beq_self_eq_true]
 rintro ρ τ h4
 simp only [go_sem,seval,h4]
 exact fin (by rfl) rfl
end Go.V
