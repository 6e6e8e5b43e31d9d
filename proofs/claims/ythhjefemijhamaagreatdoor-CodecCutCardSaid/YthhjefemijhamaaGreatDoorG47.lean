/- Texts F88. -/
import Derived.Test.YthhjefemijhamaaGreatDoorG43
import Derived.Test.YthhjefemijhamaaGreatDoorG46
set_option linter.unusedVariables false
set_option linter.unusedSimpArgs false
namespace Go.V
open Go.Proofs
set_option maxRecDepth 100000
theorem Tr.small_S {x : Tr} (h : (x.small 0 400).2=true) : TrS x:=(small_TrS x 0 400 (x.small 0 400).1 (by omega) (by rw [← h])).1
theorem mk_ok {x : Tr} (hO : TrOK x) (hS : (x.small 0 400).2=true) (h : mkE (x.mk 1 0)=0) : ∃ v,x.mk 1 0=(v.nd,.ok v)∧v.wf 1∧v.nd≤400∧v.key.length≤400000∧v.enc.length≤1200000:=by
 obtain ⟨M,hM⟩ : ∃ M,M=x.mk 1 0:=⟨_,rfl⟩
 rw [← hM] at h ⊢
 obtain ⟨n1,R⟩:=M
 cases R with
 | er e=>exact absurd h (mk_er x 1 0 n1 e hM.symm)
 | ok v =>
  obtain ⟨h1,h2,h3⟩:=mk_good x 1 0 n1 v hO hM.symm
  have hs:=mk_sm x 1 0 n1 v hO (Tr.small_S hS) hM.symm
  have hl:=key_le v hs
  have h4:=mk_small x 0 400 (x.small 0 400).1 1 0 n1 _ (by omega) (by rw [← hS]) hM.symm
  have h5:=(small_le x 0 400 (by omega)).1
  exact ⟨v,by rw [h2,Nat.zero_add],h1,by omega,by omega,by omega⟩
theorem one_eq {v w : T} (hv : v.wf 1) (hw : w.wf 1) (hn : v.nd≤16384) (hm : w.nd≤16384) : ((v.enc == w.enc) == (v.key == w.key))=true:=by
 by_cases h : v=w
 ·subst h;simp
 ·have h1 : (v.enc == w.enc)=false:=by simpa using fun e=>h (enc_inj hv hw hn hm e)
  have h2 : (v.key == w.key)=false:=by simpa using fun e=>h (key_inj hv hw e)
  rw [h1,h2];rfl
theorem eqs_boolB (x y : Operand) (a b : Bool) (σ : Store) : evEq Tryz.prog .eql 4 x y (.bool a) (.bool b) σ=okV (.bool (a == b)) σ:=by
 simp [evEq,VV.eqOK,VV.isNilIfc,VV.isAgg,eqV,k_und_4,okV]
theorem l_One (s1 b1 s2 b2 : Int) {x y : Tr} {c d : List VV} (hx : TrV x c) (hy : TrV y d) (hOx : TrOK x) (hOy : TrOK y) :
  PV Tryz.prog G0 7 [.agg [.int .u64 s1,.int .i64 b1],.agg [.int .u64 s2,.int .i64 b2],.agg c,.agg d] (.bool true):=by
 have hL:=p_live
 obtain ⟨x1,x2,x3⟩:=hx.cells
 have x4 : c.take 5=c:=List.take_of_length_le (by omega)
 obtain ⟨y1,y2,y3⟩:=hy.cells
 have y4 : d.take 5=d:=List.take_of_length_le (by omega)
 have hSx:=p_Small hx
 have hSy:=p_Small hy
 refine pv e7 (by simp) (by simp only [VV.arePure,VV.isPure,x2,y2];rfl) rfl ?_
 cases hsx : (x.small 0 400).2 with
 | false =>
  rw [hsx] at hSx
  simp only [go_sem,seval,c7,x1,x3,x4,y1,y3,y4]
  (first | refine callO_pure (hL) ?_ | refine dpureO_of (hL) ?_ | refine dpureO_save (hL) ?_ | refine dcallO_pure (hL) (by simp only [go_sem,seval,Bool.not_true,Bool.not_false,x1,x3,x4,y1,y3,y4]) ?_ | refine dcallO_pure (hL) ?_ ?_)<;>simp only [go_sem,seval,Bool.not_true,Bool.not_false,x1,x3,x4,y1,y3,y4]
  (first | refine callO_pure (hSx) ?_ | refine dpureO_of (hSx) ?_ | refine dpureO_save (hSx) ?_ | refine dcallO_pure (hSx) (by simp only [go_sem,seval,Bool.not_true,Bool.not_false]) ?_ | refine dcallO_pure (hSx) ?_ ?_)<;>simp only [go_sem,seval,Bool.not_true,Bool.not_false]
  (first | refine callO_pure (hL) ?_ | refine dpureO_of (hL) ?_ | refine dpureO_save (hL) ?_ | refine dcallO_pure (hL) (by simp only [go_sem,seval]) ?_ | refine dcallO_pure (hL) ?_ ?_)<;>simp only [go_sem,seval]
  exact fin (by rfl) rfl
 | true =>
 rw [hsx] at hSx
 cases hsy : (y.small 0 400).2 with
 | false =>
  rw [hsy] at hSy
  simp only [go_sem,seval,c7,x1,x3,x4,y1,y3,y4]
  (first | refine callO_pure (hL) ?_ | refine dpureO_of (hL) ?_ | refine dpureO_save (hL) ?_ | refine dcallO_pure (hL) (by simp only [go_sem,seval,Bool.not_true,Bool.not_false,x1,x3,x4,y1,y3,y4]) ?_ | refine dcallO_pure (hL) ?_ ?_)<;>simp only [go_sem,seval,Bool.not_true,Bool.not_false,x1,x3,x4,y1,y3,y4]
  (first | refine callO_pure (hSx) ?_ | refine dpureO_of (hSx) ?_ | refine dpureO_save (hSx) ?_ | refine dcallO_pure (hSx) (by simp only [go_sem,seval,Bool.not_true,Bool.not_false,y1,y3,y4]) ?_ | refine dcallO_pure (hSx) ?_ ?_)<;>simp only [go_sem,seval,Bool.not_true,Bool.not_false,y1,y3,y4]
  (first | refine callO_pure (hSy) ?_ | refine dpureO_of (hSy) ?_ | refine dpureO_save (hSy) ?_ | refine dcallO_pure (hSy) (by simp only [go_sem,seval,Bool.not_true,Bool.not_false]) ?_ | refine dcallO_pure (hSy) ?_ ?_)<;>simp only [go_sem,seval,Bool.not_true,Bool.not_false]
  (first | refine callO_pure (hL) ?_ | refine dpureO_of (hL) ?_ | refine dpureO_save (hL) ?_ | refine dcallO_pure (hL) (by simp only [go_sem,seval]) ?_ | refine dcallO_pure (hL) ?_ ?_)<;>simp only [go_sem,seval]
  exact fin (by rfl) rfl
 | true =>
 rw [hsy] at hSy
 have hTx:=Tr.small_S hsx
 have hTy:=Tr.small_S hsy
 have hCx:=p_vCheck hx hOx hTx
 have hCy:=p_vCheck hy hOy hTy
 by_cases e1 : mkE (x.mk 1 0)=0
 rotate_left
 ·have be : (mkE (x.mk 1 0) == 0)=false:=by simpa using e1
  simp only [go_sem,seval,c7,x1,x3,x4,y1,y3,y4]
  (first | refine callO_pure (hL) ?_ | refine dpureO_of (hL) ?_ | refine dpureO_save (hL) ?_ | refine dcallO_pure (hL) (by simp only [go_sem,seval,Bool.not_true,Bool.not_false,x1,x3,x4,y1,y3,y4]) ?_ | refine dcallO_pure (hL) ?_ ?_)<;>simp only [go_sem,seval,Bool.not_true,Bool.not_false,x1,x3,x4,y1,y3,y4]
  (first | refine callO_pure (hSx) ?_ | refine dpureO_of (hSx) ?_ | refine dpureO_save (hSx) ?_ | refine dcallO_pure (hSx) (by simp only [go_sem,seval,Bool.not_true,Bool.not_false,y1,y3,y4]) ?_ | refine dcallO_pure (hSx) ?_ ?_)<;>simp only [go_sem,seval,Bool.not_true,Bool.not_false,y1,y3,y4]
  (first | refine callO_pure (hSy) ?_ | refine dpureO_of (hSy) ?_ | refine dpureO_save (hSy) ?_ | refine dcallO_pure (hSy) (by simp only [go_sem,seval,Bool.not_true,Bool.not_false,x1,x3,x4]) ?_ | refine dcallO_pure (hSy) ?_ ?_)<;>simp only [go_sem,seval,Bool.not_true,Bool.not_false,x1,x3,x4]
  (first | refine callO_pure (hCx) ?_ | refine dpureO_of (hCx) ?_ | refine dpureO_save (hCx) ?_ | refine dcallO_pure (hCx) (by simp only [go_sem,seval,Bool.not_true,Bool.not_false,bne,be]) ?_ | refine dcallO_pure (hCx) ?_ ?_)<;>simp only [go_sem,seval,Bool.not_true,Bool.not_false,bne,be]
  (first | refine callO_pure (hL) ?_ | refine dpureO_of (hL) ?_ | refine dpureO_save (hL) ?_ | refine dcallO_pure (hL) (by simp only [go_sem,seval]) ?_ | refine dcallO_pure (hL) ?_ ?_)<;>simp only [go_sem,seval]
  exact fin (by rfl) rfl
 by_cases e2 : mkE (y.mk 1 0)=0
 rotate_left
 ·have be : (mkE (y.mk 1 0) == 0)=false:=by simpa using e2
  have be1 : (mkE (x.mk 1 0) == 0)=true:=by simpa using e1
  simp only [go_sem,seval,c7,x1,x3,x4,y1,y3,y4]
  (first | refine callO_pure (hL) ?_ | refine dpureO_of (hL) ?_ | refine dpureO_save (hL) ?_ | refine dcallO_pure (hL) (by simp only [go_sem,seval,Bool.not_true,Bool.not_false,x1,x3,x4,y1,y3,y4]) ?_ | refine dcallO_pure (hL) ?_ ?_)<;>simp only [go_sem,seval,Bool.not_true,Bool.not_false,x1,x3,x4,y1,y3,y4]
  (first | refine callO_pure (hSx) ?_ | refine dpureO_of (hSx) ?_ | refine dpureO_save (hSx) ?_ | refine dcallO_pure (hSx) (by simp only [go_sem,seval,Bool.not_true,Bool.not_false,y1,y3,y4]) ?_ | refine dcallO_pure (hSx) ?_ ?_)<;>simp only [go_sem,seval,Bool.not_true,Bool.not_false,y1,y3,y4]
  (first | refine callO_pure (hSy) ?_ | refine dpureO_of (hSy) ?_ | refine dpureO_save (hSy) ?_ | refine dcallO_pure (hSy) (by simp only [go_sem,seval,Bool.not_true,Bool.not_false,x1,x3,x4]) ?_ | refine dcallO_pure (hSy) ?_ ?_)<;>simp only [go_sem,seval,Bool.not_true,Bool.not_false,x1,x3,x4]
  (first | refine callO_pure (hCx) ?_ | refine dpureO_of (hCx) ?_ | refine dpureO_save (hCx) ?_ | refine dcallO_pure (hCx) (by simp only [go_sem,seval,Bool.not_true,Bool.not_false,bne,be1,y1,y3,y4]) ?_ | refine dcallO_pure (hCx) ?_ ?_)<;>simp only [go_sem,seval,Bool.not_true,Bool.not_false,bne,be1,y1,y3,y4]
  (first | refine callO_pure (hCy) ?_ | refine dpureO_of (hCy) ?_ | refine dpureO_save (hCy) ?_ | refine dcallO_pure (hCy) (by simp only [go_sem,seval,Bool.not_true,Bool.not_false,bne,be]) ?_ | refine dcallO_pure (hCy) ?_ ?_)<;>simp only [go_sem,seval,Bool.not_true,Bool.not_false,bne,be]
  (first | refine callO_pure (hL) ?_ | refine dpureO_of (hL) ?_ | refine dpureO_save (hL) ?_ | refine dcallO_pure (hL) (by simp only [go_sem,seval]) ?_ | refine dcallO_pure (hL) ?_ ?_)<;>simp only [go_sem,seval]
  exact fin (by rfl) rfl
 obtain ⟨v,hmv,hvw,hvn,hvk,hve⟩:=mk_ok hOx hsx e1
 obtain ⟨w,hmw,hww,hwn,hwk,hwe⟩:=mk_ok hOy hsy e2
 rw [e1] at hCx
 rw [e2] at hCy
 have hone:=one_eq hvw hww (by omega) (by omega)
 refine wpV_seq_cut (M:=fun ρ τ=>ρ.get 4=.mptr 0 0∧ρ.get 5=.mptr 1 0∧ρ.get 6=.mptr 2 0∧ρ.get 7=.mptr 3 0∧τ=[.own [.int .u64 s1,.int .i64 b1],.own [.int .u64 s2,.int .i64 b2],.own c,.own d]) ?_ ?_
 ·simp only [go_sem,seval,x1,x3,x4,y1,y3,y4]
 rintro ρ _ ⟨q4,q5,q6,q7,rfl⟩
 refine wpV_seq_cut (M:=fun ρ τ=>ρ.get 4=.mptr 0 0∧ρ.get 5=.mptr 1 0∧ρ.get 6=.mptr 2 0∧ρ.get 7=.mptr 3 0∧τ=[.own [.int .u64 s1,.int .i64 b1],.own [.int .u64 s2,.int .i64 b2],.own c,.own d]) ?_ ?_
 ·simp only [go_sem,seval,q4,q5,q6,q7]
  (first | refine callO_pure (hL) ?_ | refine dpureO_of (hL) ?_ | refine dpureO_save (hL) ?_ | refine dcallO_pure (hL) (by simp only [go_sem,seval,Bool.not_true,Bool.not_false,q4,q5,q6,q7,x1,x3,x4,y1,y3,y4]) ?_ | refine dcallO_pure (hL) ?_ ?_)<;>simp only [go_sem,seval,Bool.not_true,Bool.not_false,q4,q5,q6,q7,x1,x3,x4,y1,y3,y4]
  (first | refine callO_pure (hSx) ?_ | refine dpureO_of (hSx) ?_ | refine dpureO_save (hSx) ?_ | refine dcallO_pure (hSx) (by simp only [go_sem,seval,Bool.not_true,Bool.not_false,q4,q5,q6,q7,y1,y3,y4]) ?_ | refine dcallO_pure (hSx) ?_ ?_)<;>simp only [go_sem,seval,Bool.not_true,Bool.not_false,q4,q5,q6,q7,y1,y3,y4]
  (first | refine callO_pure (hSy) ?_ | refine dpureO_of (hSy) ?_ | refine dpureO_save (hSy) ?_ | refine dcallO_pure (hSy) (by simp only [go_sem,seval,Bool.not_true,Bool.not_false,q4,q5,q6,q7,x1,x3,x4]) ?_ | refine dcallO_pure (hSy) ?_ ?_)<;>simp only [go_sem,seval,Bool.not_true,Bool.not_false,q4,q5,q6,q7,x1,x3,x4]
  (first | refine callO_pure (hCx) ?_ | refine dpureO_of (hCx) ?_ | refine dpureO_save (hCx) ?_ | refine dcallO_pure (hCx) (by simp only [go_sem,seval,Bool.not_true,Bool.not_false,bne,beq_self_eq_true,q4,q5,q6,q7,y1,y3,y4]) ?_ | refine dcallO_pure (hCx) ?_ ?_)<;>simp only [go_sem,seval,Bool.not_true,Bool.not_false,bne,beq_self_eq_true,q4,q5,q6,q7,y1,y3,y4]
  (first | refine callO_pure (hCy) ?_ | refine dpureO_of (hCy) ?_ | refine dpureO_save (hCy) ?_ | refine dcallO_pure (hCy) (by simp only [go_sem,seval,Bool.not_true,Bool.not_false,bne,beq_self_eq_true,q4,q5,q6,q7]) ?_ | refine dcallO_pure (hCy) ?_ ?_)<;>simp only [go_sem,seval,Bool.not_true,Bool.not_false,bne,beq_self_eq_true,q4,q5,q6,q7]
 rintro ρ _ ⟨q4,q5,q6,q7,rfl⟩
 refine wpV_seq_cut (M:=fun ρ τ=>∃ (X : Vl) (k : Nat),RVl v X∧X.ok∧ρ.get 5=.mptr 1 0∧ρ.get 7=.mptr 3 0∧τ[1]?=some (.own [.int .u64 s2,.int .i64 b2])∧τ[3]?=some (.own d)∧ρ.get 9=.mptr k 0∧τ[k]?=some (.own X.cells)) ?_ ?_
 ·simp only [go_sem,seval,q4,q5,q6,q7,x1,x3,x4]
  refine CV.mono (c_Of hx hOx hTx s1 b1 _) ?_
  rintro r σ' hr
  rw [hmv] at hr
  obtain ⟨X,hvX,hXo,_,_,rfl,hch⟩:=hr
  have d1 : X.cells.length=11:=rfl
  have d2 : X.cells.all VV.isCell=true:=hXo.cell
  have d3 : X.cells.take 11=X.cells:=rfl
  have hl:=hch.len
  simp only [List.length_cons,List.length_nil] at hl
  simp only [go_sem,seval,resK,Vl.vv,q5,q7,d1,d2,d3,SS]
  exact ⟨X,σ'.length,hvX,hXo,by rw [List.getElem?_append_left (by omega),hch.same _ (by simp) id];rfl,by rw [List.getElem?_append_left (by omega),hch.same _ (by simp) id];rfl,rfl,by simp⟩
 rintro ρ τ ⟨X,k,hvX,hXo,q5,q7,t1,t3,q9,tk⟩
 have hkl:=(List.getElem?_eq_some_iff.1 tk).1
 refine wpV_seq_cut (M:=fun ρ τ=>∃ (Y : Vl) (k2 : Nat),RVl w Y∧Y.ok∧ρ.get 9=.mptr k 0∧ρ.get 11=.mptr k2 0∧τ[k]?=some (.own X.cells)∧τ[k2]?=some (.own Y.cells)) ?_ ?_
 ·simp only [go_sem,seval,q5,q7,q9,t1,t3,y1,y3,y4]
  refine CV.mono (c_Of hy hOy hTy s2 b2 _) ?_
  rintro r σ' hr
  rw [hmw] at hr
  obtain ⟨Y,hvY,hYo,_,_,rfl,hch⟩:=hr
  have d1 : Y.cells.length=11:=rfl
  have d2 : Y.cells.all VV.isCell=true:=hYo.cell
  have d3 : Y.cells.take 11=Y.cells:=rfl
  have hl:=hch.len
  simp only [go_sem,seval,resK,Vl.vv,q9,d1,d2,d3,SS]
  exact ⟨Y,σ'.length,hvY,hYo,rfl,by rw [List.getElem?_append_left (by omega),hch.same _ hkl id];exact tk,by simp⟩
 rintro ρ τ ⟨Y,k2,hvY,hYo,q9,q11,tk,tk2⟩
 have hEx:=p_Encode hvX hXo (by omega)
 have hEy:=p_Encode hvY hYo (by omega)
 have hKx:=p_VKey hvX hXo (by omega)
 have hKy:=p_VKey hvY hYo (by omega)
 simp only [Vl.vv] at hEx hEy hKx hKy
 have d1 : X.cells.length=11:=rfl
 have d2 : X.cells.all VV.isCell=true:=hXo.cell
 have d3 : X.cells.take 11=X.cells:=rfl
 have f1 : Y.cells.length=11:=rfl
 have f2 : Y.cells.all VV.isCell=true:=hYo.cell
 have f3 : Y.cells.take 11=Y.cells:=rfl
 refine wpV_seq_cut (M:=fun ρ τ=>ρ.get 8=.bool true) ?_ ?_
 ·simp only [go_sem,seval,q9,q11,tk,tk2,d1,d2,d3,f1,f2,f3]
  (first | refine callO_pure (hEx) ?_ | refine dpureO_of (hEx) ?_ | refine dpureO_save (hEx) ?_ | refine dcallO_pure (hEx) (by simp only [go_sem,seval,q9,q11,tk,tk2,d1,d2,d3,f1,f2,f3]) ?_ | refine dcallO_pure (hEx) ?_ ?_)<;>simp only [go_sem,seval,q9,q11,tk,tk2,d1,d2,d3,f1,f2,f3]
  (first | refine callO_pure (hEy) ?_ | refine dpureO_of (hEy) ?_ | refine dpureO_save (hEy) ?_ | refine dcallO_pure (hEy) (by simp only [go_sem,seval,q9,q11,tk,tk2,d1,d2,d3,f1,f2,f3]) ?_ | refine dcallO_pure (hEy) ?_ ?_)<;>simp only [go_sem,seval,q9,q11,tk,tk2,d1,d2,d3,f1,f2,f3]
  (first | refine callO_pure (hKx) ?_ | refine dpureO_of (hKx) ?_ | refine dpureO_save (hKx) ?_ | refine dcallO_pure (hKx) (by simp only [go_sem,seval,q9,q11,tk,tk2,d1,d2,d3,f1,f2,f3]) ?_ | refine dcallO_pure (hKx) ?_ ?_)<;>simp only [go_sem,seval,q9,q11,tk,tk2,d1,d2,d3,f1,f2,f3]
  (first | refine callO_pure (hKy) ?_ | refine dpureO_of (hKy) ?_ | refine dpureO_save (hKy) ?_ | refine dcallO_pure (hKy) (by simp only [go_sem,seval,q9,q11,tk,tk2,eqs_boolB,hone]) ?_ | refine dcallO_pure (hKy) ?_ ?_)<;>simp only [go_sem,seval,q9,q11,tk,tk2,eqs_boolB,hone]
 rintro ρ τ h8
 simp only [go_sem,seval,h8]
 exact fin (by rfl) rfl
end Go.V
