/- Texts F89. -/
import Derived.Test.YthhjefemijhamaaGreatDoorG42
import Derived.Test.YthhjefemijhamaaGreatDoorG43
import Derived.Test.YthhjefemijhamaaGreatDoorG47
set_option linter.unusedVariables false
set_option linter.unusedSimpArgs false
namespace Go.V
open Go.Proofs
set_option maxRecDepth 100000
theorem rdP_totG (s : Bs) (m : Nat) : ∃ f R,m≤f∧rdP f s=some R:=by
 obtain ⟨R,hR⟩:=rd_tot (2*(s.length+1)+2+m) s 0 0 1 .val (by simp only [Md.isVal,if_true];omega)
 refine ⟨2*(s.length+1)+2+m, ?_⟩
 unfold rdP
 split
 ·exact ⟨_,by omega,rfl⟩
 ·rw [hR]
  cases R with
  | er c p=>exact ⟨_,by omega,rfl⟩
  | ok v e n =>
   simp only
   cases lexNext s e with
   | err c p=>exact ⟨_,by omega,rfl⟩
   | tok k x e i t=>simp only;split<;>exact ⟨_,by omega,rfl⟩
theorem mk_big {k i : Int} {t : Bs} {keys : List Bs} {items : List Tr} {q n n' : Nat} {v : T} (h : (Tr.node k i t keys items).mk q n=(n',.ok v)) (hk : ¬ k < 3) : v.big:=by
 unfold Tr.mk at h
 repeat' split at h
 all_goals first
  | (cases h;done)
  | (simp only [Prod.mk.injEq,MkR.ok.injEq] at h;obtain ⟨_,rfl⟩:=h;simp only [T.big];omega)
  | skip
 simp only [Prod.mk.injEq] at h
 obtain ⟨_,h⟩:=h
 unfold partsR at h
 repeat' split at h
 all_goals first
  | (cases h;done)
  | (cases h;trivial)
theorem big_len {v : T} (h : v.big) : 2≤v.enc.length:=by
 cases v with
 | sc k i t =>
  simp only [T.big] at h
  subst h
  have : scEnc 3 i t=quoteS t:=by unfold scEnc;rw [if_neg (by decide),if_neg (by decide),if_neg (by decide)]
  simp only [T.enc,this,quoteS,List.length_cons,List.length_append,List.length_nil];omega
 | _=>simp only [T.enc,List.length_cons,List.length_append,List.length_nil];omega
theorem l_Cut (s1 b1 : Int) {x : Tr} {c : List VV} (cut : Int) (hx : TrV x c) (hOx : TrOK x) : PV Tryz.prog G0 8 [.agg [.int .u64 s1,.int .i64 b1],.agg c,.int .i64 cut] (.bool true):=by
 have hL:=p_live
 obtain ⟨x1,x2,x3⟩:=hx.cells
 have x4 : c.take 5=c:=List.take_of_length_le (by omega)
 have hSx:=p_Small hx
 refine pv e8 (by simp) (by simp only [VV.arePure,VV.isPure,x2];rfl) rfl ?_
 cases hsx : (x.small 0 400).2 with
 | false =>
  rw [hsx] at hSx
  simp only [go_sem,seval,c8,x1,x3,x4]
  (first | refine callO_pure (hL) ?_ | refine dpureO_of (hL) ?_ | refine dpureO_save (hL) ?_ | refine dcallO_pure (hL) (by simp only [go_sem,seval,Bool.not_true,Bool.not_false,x1,x3,x4]) ?_ | refine dcallO_pure (hL) ?_ ?_)<;>simp only [go_sem,seval,Bool.not_true,Bool.not_false,x1,x3,x4]
  (first | refine callO_pure (hSx) ?_ | refine dpureO_of (hSx) ?_ | refine dpureO_save (hSx) ?_ | refine dcallO_pure (hSx) (by simp only [go_sem,seval,Bool.not_true,Bool.not_false]) ?_ | refine dcallO_pure (hSx) ?_ ?_)<;>simp only [go_sem,seval,Bool.not_true,Bool.not_false]
  (first | refine callO_pure (hL) ?_ | refine dpureO_of (hL) ?_ | refine dpureO_save (hL) ?_ | refine dcallO_pure (hL) (by simp only [go_sem,seval]) ?_ | refine dcallO_pure (hL) ?_ ?_)<;>simp only [go_sem,seval]
  exact fin (by rfl) rfl
 | true =>
 rw [hsx] at hSx
 have hTx:=Tr.small_S hsx
 have hCx:=p_vCheck hx hOx hTx
 by_cases e1 : mkE (x.mk 1 0)=0
 rotate_left
 ·have be : (mkE (x.mk 1 0) == 0)=false:=by simpa using e1
  simp only [go_sem,seval,c8,x1,x3,x4]
  (first | refine callO_pure (hL) ?_ | refine dpureO_of (hL) ?_ | refine dpureO_save (hL) ?_ | refine dcallO_pure (hL) (by simp only [go_sem,seval,Bool.not_true,Bool.not_false,x1,x3,x4]) ?_ | refine dcallO_pure (hL) ?_ ?_)<;>simp only [go_sem,seval,Bool.not_true,Bool.not_false,x1,x3,x4]
  (first | refine callO_pure (hSx) ?_ | refine dpureO_of (hSx) ?_ | refine dpureO_save (hSx) ?_ | refine dcallO_pure (hSx) (by simp only [go_sem,seval,Bool.not_true,Bool.not_false,x1,x3,x4]) ?_ | refine dcallO_pure (hSx) ?_ ?_)<;>simp only [go_sem,seval,Bool.not_true,Bool.not_false,x1,x3,x4]
  (first | refine callO_pure (hCx) ?_ | refine dpureO_of (hCx) ?_ | refine dpureO_save (hCx) ?_ | refine dcallO_pure (hCx) (by simp only [go_sem,seval,Bool.not_true,Bool.not_false,bne,be]) ?_ | refine dcallO_pure (hCx) ?_ ?_)<;>simp only [go_sem,seval,Bool.not_true,Bool.not_false,bne,be]
  (first | refine callO_pure (hL) ?_ | refine dpureO_of (hL) ?_ | refine dpureO_save (hL) ?_ | refine dcallO_pure (hL) (by simp only [go_sem,seval]) ?_ | refine dcallO_pure (hL) ?_ ?_)<;>simp only [go_sem,seval]
  exact fin (by rfl) rfl
 obtain ⟨v,hmv,hvw,hvn,hvk,hve⟩:=mk_ok hOx hsx e1
 rw [e1] at hCx
 obtain ⟨k,i,t,keys,items,kv,iv,hxe,hce⟩ : ∃ (k i : Int) (t : Bs) (keys : List Bs) (items : List Tr) (kv iv : VV),x=.node k i t keys items∧c=[.int .i64 k,.int .i64 i,.str t,kv,iv]:=by
  cases hx;exact ⟨_,_,_,_,_,_,_,rfl,rfl⟩
 have ck : c.getD 0 .undef=.int .i64 k:=by rw [hce];rfl
 by_cases hk : k < 3
 ·have bk : decide (k < 3)=true:=decide_eq_true hk
  simp only [go_sem,seval,c8,x1,x3,x4]
  (first | refine callO_pure (hL) ?_ | refine dpureO_of (hL) ?_ | refine dpureO_save (hL) ?_ | refine dcallO_pure (hL) (by simp only [go_sem,seval,Bool.not_true,Bool.not_false,x1,x3,x4]) ?_ | refine dcallO_pure (hL) ?_ ?_)<;>simp only [go_sem,seval,Bool.not_true,Bool.not_false,x1,x3,x4]
  (first | refine callO_pure (hSx) ?_ | refine dpureO_of (hSx) ?_ | refine dpureO_save (hSx) ?_ | refine dcallO_pure (hSx) (by simp only [go_sem,seval,Bool.not_true,Bool.not_false,x1,x3,x4]) ?_ | refine dcallO_pure (hSx) ?_ ?_)<;>simp only [go_sem,seval,Bool.not_true,Bool.not_false,x1,x3,x4]
  (first | refine callO_pure (hCx) ?_ | refine dpureO_of (hCx) ?_ | refine dpureO_save (hCx) ?_ | refine dcallO_pure (hCx) (by simp only [go_sem,seval,Bool.not_true,Bool.not_false,bne,beq_self_eq_true,x1,x3,x4,ck,bk]) ?_ | refine dcallO_pure (hCx) ?_ ?_)<;>simp only [go_sem,seval,Bool.not_true,Bool.not_false,bne,beq_self_eq_true,x1,x3,x4,ck,bk]
  (first | refine callO_pure (hL) ?_ | refine dpureO_of (hL) ?_ | refine dpureO_save (hL) ?_ | refine dcallO_pure (hL) (by simp only [go_sem,seval]) ?_ | refine dcallO_pure (hL) ?_ ?_)<;>simp only [go_sem,seval]
  exact fin (by rfl) rfl
 have bk : decide (k < 3)=false:=decide_eq_false hk
 have hbig : v.big:=mk_big (by rw [← hxe];exact hmv) hk
 have hlen2:=big_len hbig
 refine wpV_seq_cut (M:=fun ρ τ=>ρ.get 2=.int .i64 cut∧ρ.get 3=.mptr 0 0∧ρ.get 4=.mptr 1 0∧τ=[.own [.int .u64 s1,.int .i64 b1],.own c]) ?_ ?_
 ·simp only [go_sem,seval,x1,x3,x4]
 rintro ρ _ ⟨q2,q3,q4,rfl⟩
 refine wpV_seq_cut (M:=fun ρ τ=>ρ.get 2=.int .i64 cut∧ρ.get 3=.mptr 0 0∧ρ.get 4=.mptr 1 0∧τ=[.own [.int .u64 s1,.int .i64 b1],.own c]) ?_ ?_
 ·simp only [go_sem,seval,q2,q3,q4]
  (first | refine callO_pure (hL) ?_ | refine dpureO_of (hL) ?_ | refine dpureO_save (hL) ?_ | refine dcallO_pure (hL) (by simp only [go_sem,seval,Bool.not_true,Bool.not_false,q2,q3,q4,x1,x3,x4]) ?_ | refine dcallO_pure (hL) ?_ ?_)<;>simp only [go_sem,seval,Bool.not_true,Bool.not_false,q2,q3,q4,x1,x3,x4]
  (first | refine callO_pure (hSx) ?_ | refine dpureO_of (hSx) ?_ | refine dpureO_save (hSx) ?_ | refine dcallO_pure (hSx) (by simp only [go_sem,seval,Bool.not_true,Bool.not_false,q2,q3,q4,x1,x3,x4]) ?_ | refine dcallO_pure (hSx) ?_ ?_)<;>simp only [go_sem,seval,Bool.not_true,Bool.not_false,q2,q3,q4,x1,x3,x4]
  (first | refine callO_pure (hCx) ?_ | refine dpureO_of (hCx) ?_ | refine dpureO_save (hCx) ?_ | refine dcallO_pure (hCx) (by simp only [go_sem,seval,Bool.not_true,Bool.not_false,bne,beq_self_eq_true,q2,q3,q4,x1,x3,x4,ck,bk]) ?_ | refine dcallO_pure (hCx) ?_ ?_)<;>simp only [go_sem,seval,Bool.not_true,Bool.not_false,bne,beq_self_eq_true,q2,q3,q4,x1,x3,x4,ck,bk]
 rintro ρ _ ⟨q2,q3,q4,rfl⟩
 refine wpV_seq_cut (M:=fun ρ τ=>∃ (X : Vl) (k : Nat),RVl v X∧X.ok∧ρ.get 2=.int .i64 cut∧ρ.get 3=.mptr 0 0∧τ[0]?=some (.own [.int .u64 s1,.int .i64 b1])∧ρ.get 7=.mptr k 0∧τ[k]?=some (.own X.cells)) ?_ ?_
 ·simp only [go_sem,seval,q2,q3,q4,x1,x3,x4]
  refine CV.mono (c_Of hx hOx hTx s1 b1 _) ?_
  rintro r σ' hr
  rw [hmv] at hr
  obtain ⟨X,hvX,hXo,_,_,rfl,hch⟩:=hr
  have d1 : X.cells.length=11:=rfl
  have d2 : X.cells.all VV.isCell=true:=hXo.cell
  have d3 : X.cells.take 11=X.cells:=rfl
  have hl:=hch.len
  simp only [List.length_cons,List.length_nil] at hl
  simp only [go_sem,seval,resK,Vl.vv,q2,q3,d1,d2,d3,SS]
  exact ⟨X,σ'.length,hvX,hXo,by rw [List.getElem?_append_left (by omega),hch.same _ (by simp) id];rfl,rfl,by simp⟩
 rintro ρ τ ⟨X,k,hvX,hXo,q2,q3,t0,q7,tk⟩
 have hEx:=p_Encode hvX hXo (by omega)
 simp only [Vl.vv] at hEx
 have d1 : X.cells.length=11:=rfl
 have d2 : X.cells.all VV.isCell=true:=hXo.cell
 have d3 : X.cells.take 11=X.cells:=rfl
 refine wpV_seq_cut (M:=fun ρ τ=>ρ.get 2=.int .i64 cut∧ρ.get 3=.mptr 0 0∧τ[0]?=some (.own [.int .u64 s1,.int .i64 b1])∧ρ.get 9=.str v.enc) ?_ ?_
 ·simp only [go_sem,seval,q2,q3,q7,tk,d1,d2,d3]
  (first | refine callO_pure (hEx) ?_ | refine dpureO_of (hEx) ?_ | refine dpureO_save (hEx) ?_ | refine dcallO_pure (hEx) (by simp only [go_sem,seval,q2,q3,t0]) ?_ | refine dcallO_pure (hEx) ?_ ?_)<;>simp only [go_sem,seval,q2,q3,t0]
 rintro ρ τ ⟨q2,q3,t0,q9⟩
 by_cases hcut : cut < 0∨(v.enc.length : Int)≤cut
 ·have b9 : decide ((2 : Int)≤(v.enc.length : Int))=true:=decide_eq_true (by omega)
  by_cases h0 : cut < 0
  ·have b0 : decide (cut < 0)=true:=decide_eq_true h0
   simp only [go_sem,seval,q2,q3,q9,b0,b9]
   exact fin (by rfl) rfl
  ·have b0 : decide (cut < 0)=false:=decide_eq_false h0
   have b5 : decide ((v.enc.length : Int)≤cut)=true:=decide_eq_true (by omega)
   simp only [go_sem,seval,q2,q3,q9,b0,b5,b9]
   exact fin (by rfl) rfl
 have b0 : decide (cut < 0)=false:=decide_eq_false (by omega)
 have b5 : decide ((v.enc.length : Int)≤cut)=false:=decide_eq_false (by omega)
 refine wpV_seq_cut (M:=fun ρ τ=>ρ.get 2=.int .i64 cut∧ρ.get 3=.mptr 0 0∧τ[0]?=some (.own [.int .u64 s1,.int .i64 b1])∧ρ.get 9=.str v.enc) ?_ ?_
 ·simp only [go_sem,seval,q2,q3,q9,t0,b0,b5]
 rintro ρ τ ⟨q2,q3,t0,q9⟩
 obtain ⟨m,rfl⟩ : ∃ m : Nat,cut=(m : Int):=⟨cut.toNat,by omega⟩
 have hm : m < v.enc.length:=by omega
 obtain ⟨f,R,hf,hR⟩:=rdP_totG (v.enc.take m) v.enc.length
 obtain ⟨e,p,rfl⟩ : ∃ e p,R=.er e p:=by
  cases R with
  | er e p=>exact ⟨e,p,rfl⟩
  | ok w n'=>exact absurd hR (enc_cut hvw (by omega) hbig hm hf w n')
 have hc:=rdP_err hR
 have hp:=rdP_place hR
 rw [List.length_take] at hp
 obtain ⟨Y,hY,hPY⟩:=p_PParse f s1 b1 (v.enc.take m) _ (by rw [List.length_take];omega) hR
 simp only [pzR] at hPY
 have hLast:=p_Last e p (by omega)
 obtain ⟨w,hw⟩:=faultV_ne (e:=e) p (by omega)
 rw [hw] at hLast hPY
 have hK:=p_vKind Vl.zero zero_ok
 simp only [Vl.vv] at hK hPY
 have z1 : Vl.zero.cells.length=11:=rfl
 have z2 : Vl.zero.cells.all VV.isCell=true:=rfl
 have z3 : Vl.zero.cells.take 11=Vl.zero.cells:=rfl
 have z4 : Vl.zero.k=0:=rfl
 rw [z4] at hK
 have b3 : decide ((p : Int)≤(m : Int))=true:=decide_eq_true (by omega)
 have c1 : (m : Int)≤(v.enc.length : Int):=by omega
 have c0 : (0 : Int)≤(m : Int):=by omega
 have t0' : ∀ a,(τ++[a])[0]?=some (.own [.int .u64 s1,.int .i64 b1]):=fun a=>by rw [List.getElem?_append_left (List.getElem?_eq_some_iff.1 t0).1];exact t0
 refine wpV_seq_cut (M:=fun ρ τ=>ρ.get 2=.int .i64 m∧ρ.get 11=.ifc 135 w∧∃ k,ρ.get 10=.mptr k 0∧τ[k]?=some (.own Vl.zero.cells)) ?_ ?_
 ·simp only [go_sem,seval,q2,q3,t0,q9,c0,c1,Int.toNat_natCast,Nat.sub_zero]
  (first | refine callO_pure (hPY) ?_ | refine dpureO_of (hPY) ?_ | refine dpureO_save (hPY) ?_ | refine dcallO_pure (hPY) (by simp only [go_sem,seval,q2,q3,t0',q9,c0,c1,Int.toNat_natCast,Nat.sub_zero,z1,z2,z3,SS]) ?_ | refine dcallO_pure (hPY) ?_ ?_)<;>simp only [go_sem,seval,q2,q3,t0',q9,c0,c1,Int.toNat_natCast,Nat.sub_zero,z1,z2,z3,SS]
  exact ⟨τ.length,rfl,by simp⟩
 rintro ρ τ ⟨q2,q11,k2,q10,tk⟩
 simp only [go_sem,seval,q2,q10,q11]
 (first | refine callO_pure (hLast) ?_ | refine dpureO_of (hLast) ?_ | refine dpureO_save (hLast) ?_ | refine dcallO_pure (hLast) (by simp only [go_sem,seval,q2,q10,q11,tk,z1,z2,z3]) ?_ | refine dcallO_pure (hLast) ?_ ?_)<;>simp only [go_sem,seval,q2,q10,q11,tk,z1,z2,z3]
 (first | refine callO_pure (hK) ?_ | refine dpureO_of (hK) ?_ | refine dpureO_save (hK) ?_ | refine dcallO_pure (hK) (by simp only [go_sem,seval,q2,q10,q11,b3]) ?_ | refine dcallO_pure (hK) ?_ ?_)<;>simp only [go_sem,seval,q2,q10,q11,b3]
 exact fin (by rfl) rfl
end Go.V
