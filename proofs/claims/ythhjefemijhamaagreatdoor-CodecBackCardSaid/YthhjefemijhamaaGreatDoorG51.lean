/- Texts F101. -/
import Derived.Test.YthhjefemijhamaaGreatDoorG45
import Derived.Test.YthhjefemijhamaaGreatDoorG50
set_option linter.unusedVariables false
set_option linter.unusedSimpArgs false
namespace Go.V
open Go.Proofs
set_option maxRecDepth 100000
def tkR (X : Vl) : Rs→VV
 | .er c p=>.tup [Vl.zero.vv,.int .i64 0,faultV c p]
 | .ok _ e _=>.tup [X.vv,.int .i64 e,.nili]
theorem p_PTake (f : Nat) (seed bits : Int) (s : Bs) (a : Int) (R : Rs) (ha : inI64 a) (hs : s.length≤10000000) (hrd : rd f s a 0 1 .val=some R) :
  ∃ X,RdV s 1 0 R X∧PV Tryz.prog G0 34 [.agg [.int .u64 seed,.int .i64 bits],.str s,.int .i64 a] (tkR X R):=by
 obtain ⟨X,h1,h2⟩:=c_Take f seed bits s a R ha hs hrd
 have hp : (tkR X R).isPure=true:=by
  cases R with
  | er c p=>simp only [tkR,VV.isPure,VV.arePure,faultV_pure];rfl
  | ok v e n=>simp only [tkR,VV.isPure,VV.arePure,Vl.vv,h1.2.1.pure];rfl
 refine ⟨X,h1,G0p,rfl,hp,CV.mono (h2 []) ?_⟩
 rintro r σ1 h
 cases R with
 | er c p=>exact ⟨_,0,h.1,fz_pure hp⟩
 | ok v e n=>exact ⟨_,0,h.1,fz_pure hp⟩
def blanksOf (n : Int) : Bs:=([32,10,9,13,32,32] : Bs).take (1+n % 6).toNat
theorem l_Back (s1 b1 s2 b2 : Int) (n : Int) (hn : 0≤n∧n≤255) {x y : Tr} {c d : List VV} (hx : TrV x c) (hy : TrV y d) (hOx : TrOK x) (hOy : TrOK y) :
  PV Tryz.prog G0 11 [.agg [.int .u64 s1,.int .i64 b1],.agg [.int .u64 s2,.int .i64 b2],.agg c,.agg d,.int .u8 n] (.bool true):=by
 have hL:=p_live
 obtain ⟨x1,x2,x3⟩:=hx.cells
 have x4 : c.take 5=c:=List.take_of_length_le (by omega)
 obtain ⟨y1,y2,y3⟩:=hy.cells
 have y4 : d.take 5=d:=List.take_of_length_le (by omega)
 have hSx:=p_Small hx
 have hSy:=p_Small hy
 refine pv e11 (by simp) (by simp only [VV.arePure,VV.isPure,x2,y2];rfl) rfl ?_
 cases hsx : (x.small 0 400).2 with
 | false =>
  rw [hsx] at hSx
  simp only [go_sem,seval,c11,x1,x3,x4,y1,y3,y4]
  (first | refine callO_pure (hL) ?_ | refine dpureO_of (hL) ?_ | refine dpureO_save (hL) ?_ | refine dcallO_pure (hL) (by simp only [go_sem,seval,Bool.not_true,Bool.not_false,x1,x3,x4,y1,y3,y4]) ?_ | refine dcallO_pure (hL) ?_ ?_)<;>simp only [go_sem,seval,Bool.not_true,Bool.not_false,x1,x3,x4,y1,y3,y4]
  (first | refine callO_pure (hSx) ?_ | refine dpureO_of (hSx) ?_ | refine dpureO_save (hSx) ?_ | refine dcallO_pure (hSx) (by simp only [go_sem,seval,Bool.not_true,Bool.not_false]) ?_ | refine dcallO_pure (hSx) ?_ ?_)<;>simp only [go_sem,seval,Bool.not_true,Bool.not_false]
  (first | refine callO_pure (hL) ?_ | refine dpureO_of (hL) ?_ | refine dpureO_save (hL) ?_ | refine dcallO_pure (hL) (by simp only [go_sem,seval]) ?_ | refine dcallO_pure (hL) ?_ ?_)<;>simp only [go_sem,seval]
  exact fin (by rfl) rfl
 | true =>
 rw [hsx] at hSx
 cases hsy : (y.small 0 400).2 with
 | false =>
  rw [hsy] at hSy
  simp only [go_sem,seval,c11,x1,x3,x4,y1,y3,y4]
  (first | refine callO_pure (hL) ?_ | refine dpureO_of (hL) ?_ | refine dpureO_save (hL) ?_ | refine dcallO_pure (hL) (by simp only [go_sem,seval,Bool.not_true,Bool.not_false,x1,x3,x4,y1,y3,y4]) ?_ | refine dcallO_pure (hL) ?_ ?_)<;>simp only [go_sem,seval,Bool.not_true,Bool.not_false,x1,x3,x4,y1,y3,y4]
  (first | refine callO_pure (hSx) ?_ | refine dpureO_of (hSx) ?_ | refine dpureO_save (hSx) ?_ | refine dcallO_pure (hSx) (by simp only [go_sem,seval,Bool.not_true,Bool.not_false,y1,y3,y4]) ?_ | refine dcallO_pure (hSx) ?_ ?_)<;>simp only [go_sem,seval,Bool.not_true,Bool.not_false,y1,y3,y4]
  (first | refine callO_pure (hSy) ?_ | refine dpureO_of (hSy) ?_ | refine dpureO_save (hSy) ?_ | refine dcallO_pure (hSy) (by simp only [go_sem,seval,Bool.not_true,Bool.not_false]) ?_ | refine dcallO_pure (hSy) ?_ ?_)<;>simp only [go_sem,seval,Bool.not_true,Bool.not_false]
  (first | refine callO_pure (hL) ?_ | refine dpureO_of (hL) ?_ | refine dpureO_save (hL) ?_ | refine dcallO_pure (hL) (by simp only [go_sem,seval]) ?_ | refine dcallO_pure (hL) ?_ ?_)<;>simp only [go_sem,seval]
  exact fin (by rfl) rfl
 | true =>
 rw [hsy] at hSy
 have hTx:=Tr.small_S hsx
 have hTy:=Tr.small_S hsy
 have hCx:=p_vCheck hx hOx hTx
 have hCy:=p_vCheck hy hOy hTy
 by_cases e1 : mkE (x.mk 1 0)=0
 rotate_left
 ·have be : (mkE (x.mk 1 0) == 0)=false:=by simpa using e1
  simp only [go_sem,seval,c11,x1,x3,x4,y1,y3,y4]
  (first | refine callO_pure (hL) ?_ | refine dpureO_of (hL) ?_ | refine dpureO_save (hL) ?_ | refine dcallO_pure (hL) (by simp only [go_sem,seval,Bool.not_true,Bool.not_false,x1,x3,x4,y1,y3,y4]) ?_ | refine dcallO_pure (hL) ?_ ?_)<;>simp only [go_sem,seval,Bool.not_true,Bool.not_false,x1,x3,x4,y1,y3,y4]
  (first | refine callO_pure (hSx) ?_ | refine dpureO_of (hSx) ?_ | refine dpureO_save (hSx) ?_ | refine dcallO_pure (hSx) (by simp only [go_sem,seval,Bool.not_true,Bool.not_false,y1,y3,y4]) ?_ | refine dcallO_pure (hSx) ?_ ?_)<;>simp only [go_sem,seval,Bool.not_true,Bool.not_false,y1,y3,y4]
  (first | refine callO_pure (hSy) ?_ | refine dpureO_of (hSy) ?_ | refine dpureO_save (hSy) ?_ | refine dcallO_pure (hSy) (by simp only [go_sem,seval,Bool.not_true,Bool.not_false,x1,x3,x4]) ?_ | refine dcallO_pure (hSy) ?_ ?_)<;>simp only [go_sem,seval,Bool.not_true,Bool.not_false,x1,x3,x4]
  (first | refine callO_pure (hCx) ?_ | refine dpureO_of (hCx) ?_ | refine dpureO_save (hCx) ?_ | refine dcallO_pure (hCx) (by simp only [go_sem,seval,Bool.not_true,Bool.not_false,bne,be]) ?_ | refine dcallO_pure (hCx) ?_ ?_)<;>simp only [go_sem,seval,Bool.not_true,Bool.not_false,bne,be]
  (first | refine callO_pure (hL) ?_ | refine dpureO_of (hL) ?_ | refine dpureO_save (hL) ?_ | refine dcallO_pure (hL) (by simp only [go_sem,seval]) ?_ | refine dcallO_pure (hL) ?_ ?_)<;>simp only [go_sem,seval]
  exact fin (by rfl) rfl
 by_cases e2 : mkE (y.mk 1 0)=0
 rotate_left
 ·have be : (mkE (y.mk 1 0) == 0)=false:=by simpa using e2
  have be1 : (mkE (x.mk 1 0) == 0)=true:=by simpa using e1
  simp only [go_sem,seval,c11,x1,x3,x4,y1,y3,y4]
  (first | refine callO_pure (hL) ?_ | refine dpureO_of (hL) ?_ | refine dpureO_save (hL) ?_ | refine dcallO_pure (hL) (by simp only [go_sem,seval,Bool.not_true,Bool.not_false,x1,x3,x4,y1,y3,y4]) ?_ | refine dcallO_pure (hL) ?_ ?_)<;>simp only [go_sem,seval,Bool.not_true,Bool.not_false,x1,x3,x4,y1,y3,y4]
  (first | refine callO_pure (hSx) ?_ | refine dpureO_of (hSx) ?_ | refine dpureO_save (hSx) ?_ | refine dcallO_pure (hSx) (by simp only [go_sem,seval,Bool.not_true,Bool.not_false,y1,y3,y4]) ?_ | refine dcallO_pure (hSx) ?_ ?_)<;>simp only [go_sem,seval,Bool.not_true,Bool.not_false,y1,y3,y4]
  (first | refine callO_pure (hSy) ?_ | refine dpureO_of (hSy) ?_ | refine dpureO_save (hSy) ?_ | refine dcallO_pure (hSy) (by simp only [go_sem,seval,Bool.not_true,Bool.not_false,x1,x3,x4]) ?_ | refine dcallO_pure (hSy) ?_ ?_)<;>simp only [go_sem,seval,Bool.not_true,Bool.not_false,x1,x3,x4]
  (first | refine callO_pure (hCx) ?_ | refine dpureO_of (hCx) ?_ | refine dpureO_save (hCx) ?_ | refine dcallO_pure (hCx) (by simp only [go_sem,seval,Bool.not_true,Bool.not_false,bne,be1,y1,y3,y4]) ?_ | refine dcallO_pure (hCx) ?_ ?_)<;>simp only [go_sem,seval,Bool.not_true,Bool.not_false,bne,be1,y1,y3,y4]
  (first | refine callO_pure (hCy) ?_ | refine dpureO_of (hCy) ?_ | refine dpureO_save (hCy) ?_ | refine dcallO_pure (hCy) (by simp only [go_sem,seval,Bool.not_true,Bool.not_false,bne,be]) ?_ | refine dcallO_pure (hCy) ?_ ?_)<;>simp only [go_sem,seval,Bool.not_true,Bool.not_false,bne,be]
  (first | refine callO_pure (hL) ?_ | refine dpureO_of (hL) ?_ | refine dpureO_save (hL) ?_ | refine dcallO_pure (hL) (by simp only [go_sem,seval]) ?_ | refine dcallO_pure (hL) ?_ ?_)<;>simp only [go_sem,seval]
  exact fin (by rfl) rfl
 obtain ⟨v,hmv,hvw,hvn,hvk,hve⟩:=mk_ok hOx hsx e1
 obtain ⟨w,hmw,hww,hwn,hwk,hwe⟩:=mk_ok hOy hsy e2
 rw [e1] at hCx
 rw [e2] at hCy
 have hvs:=mk_sm x 1 0 _ v hOx hTx hmv
 have hvl:=enc_le v hvs
 have hRp:=rdP_back hvw (by omega) (by omega)
 have hbl : (blanksOf n).length≤6:=by unfold blanksOf;simp;omega
 have hst : Stop (blanksOf n++w.enc):=by
  unfold blanksOf
  obtain ⟨m,hm⟩ : ∃ m : Nat,(1+n % 6).toNat=m+1:=⟨(n % 6).toNat,by omega⟩
  rw [hm]
  exact .cons (by decide) (by decide)
 have hRt:=(rd_back v.enc.length).1 v (v.enc++blanksOf n++w.enc) 0 0 1 (blanksOf n++w.enc) hvw (by omega) (by simp) hst (Nat.le_refl _)
 obtain ⟨Z,hZ,hTk⟩:=p_PTake _ s2 b2 (v.enc++blanksOf n++w.enc) 0 _ ⟨by decide,by decide⟩ (by simp;omega) hRt
 obtain ⟨hvZ,hZo,_⟩:=hZ
 refine wpV_seq_cut (M:=fun ρ τ=>ρ.get 4=.int .u8 n∧ρ.get 5=.mptr 0 0∧ρ.get 6=.mptr 1 0∧ρ.get 7=.mptr 2 0∧ρ.get 8=.mptr 3 0∧τ=[.own [.int .u64 s1,.int .i64 b1],.own [.int .u64 s2,.int .i64 b2],.own c,.own d]) ?_ ?_
 ·simp only [go_sem,seval,x1,x3,x4,y1,y3,y4]
 rintro ρ _ ⟨q4,q5,q6,q7,q8,rfl⟩
 refine wpV_seq_cut (M:=fun ρ τ=>ρ.get 4=.int .u8 n∧ρ.get 5=.mptr 0 0∧ρ.get 6=.mptr 1 0∧ρ.get 7=.mptr 2 0∧ρ.get 8=.mptr 3 0∧τ=[.own [.int .u64 s1,.int .i64 b1],.own [.int .u64 s2,.int .i64 b2],.own c,.own d]) ?_ ?_
 ·simp only [go_sem,seval,q4,q5,q6,q7,q8]
  (first | refine callO_pure (hL) ?_ | refine dpureO_of (hL) ?_ | refine dpureO_save (hL) ?_ | refine dcallO_pure (hL) (by simp only [go_sem,seval,Bool.not_true,Bool.not_false,q4,q5,q6,q7,q8,x1,x3,x4,y1,y3,y4]) ?_ | refine dcallO_pure (hL) ?_ ?_)<;>simp only [go_sem,seval,Bool.not_true,Bool.not_false,q4,q5,q6,q7,q8,x1,x3,x4,y1,y3,y4]
  (first | refine callO_pure (hSx) ?_ | refine dpureO_of (hSx) ?_ | refine dpureO_save (hSx) ?_ | refine dcallO_pure (hSx) (by simp only [go_sem,seval,Bool.not_true,Bool.not_false,q4,q5,q6,q7,q8,y1,y3,y4]) ?_ | refine dcallO_pure (hSx) ?_ ?_)<;>simp only [go_sem,seval,Bool.not_true,Bool.not_false,q4,q5,q6,q7,q8,y1,y3,y4]
  (first | refine callO_pure (hSy) ?_ | refine dpureO_of (hSy) ?_ | refine dpureO_save (hSy) ?_ | refine dcallO_pure (hSy) (by simp only [go_sem,seval,Bool.not_true,Bool.not_false,q4,q5,q6,q7,q8,x1,x3,x4]) ?_ | refine dcallO_pure (hSy) ?_ ?_)<;>simp only [go_sem,seval,Bool.not_true,Bool.not_false,q4,q5,q6,q7,q8,x1,x3,x4]
  (first | refine callO_pure (hCx) ?_ | refine dpureO_of (hCx) ?_ | refine dpureO_save (hCx) ?_ | refine dcallO_pure (hCx) (by simp only [go_sem,seval,Bool.not_true,Bool.not_false,bne,beq_self_eq_true,q4,q5,q6,q7,q8,y1,y3,y4]) ?_ | refine dcallO_pure (hCx) ?_ ?_)<;>simp only [go_sem,seval,Bool.not_true,Bool.not_false,bne,beq_self_eq_true,q4,q5,q6,q7,q8,y1,y3,y4]
  (first | refine callO_pure (hCy) ?_ | refine dpureO_of (hCy) ?_ | refine dpureO_save (hCy) ?_ | refine dcallO_pure (hCy) (by simp only [go_sem,seval,Bool.not_true,Bool.not_false,bne,beq_self_eq_true,q4,q5,q6,q7,q8]) ?_ | refine dcallO_pure (hCy) ?_ ?_)<;>simp only [go_sem,seval,Bool.not_true,Bool.not_false,bne,beq_self_eq_true,q4,q5,q6,q7,q8]
 rintro ρ _ ⟨q4,q5,q6,q7,q8,rfl⟩
 refine wpV_seq_cut (M:=fun ρ τ=>∃ (X : Vl) (k : Nat),RVl v X∧X.ok∧ρ.get 4=.int .u8 n∧ρ.get 5=.mptr 0 0∧ρ.get 6=.mptr 1 0∧ρ.get 8=.mptr 3 0∧τ[0]?=some (.own [.int .u64 s1,.int .i64 b1])∧τ[1]?=some (.own [.int .u64 s2,.int .i64 b2])∧τ[3]?=some (.own d)∧ρ.get 11=.mptr k 0∧τ[k]?=some (.own X.cells)) ?_ ?_
 ·simp only [go_sem,seval,q4,q5,q6,q7,q8,x1,x3,x4]
  refine CV.mono (c_Of hx hOx hTx s1 b1 _) ?_
  rintro r σ' hr
  rw [hmv] at hr
  obtain ⟨X,hvX,hXo,_,_,rfl,hch⟩:=hr
  have d1 : X.cells.length=11:=rfl
  have d2 : X.cells.all VV.isCell=true:=hXo.cell
  have d3 : X.cells.take 11=X.cells:=rfl
  have hl:=hch.len
  simp only [List.length_cons,List.length_nil] at hl
  simp only [go_sem,seval,resK,Vl.vv,q4,q5,q6,q8,d1,d2,d3,SS]
  exact ⟨X,σ'.length,hvX,hXo,by rw [List.getElem?_append_left (by omega),hch.same _ (by simp) id];rfl,by rw [List.getElem?_append_left (by omega),hch.same _ (by simp) id];rfl,by rw [List.getElem?_append_left (by omega),hch.same _ (by simp) id];rfl,rfl,by simp⟩
 rintro ρ τ ⟨X,k,hvX,hXo,q4,q5,q6,q8,t0,t1,t3,q11,tk⟩
 have hkl:=(List.getElem?_eq_some_iff.1 tk).1
 have hl1:=(List.getElem?_eq_some_iff.1 t1).1
 refine wpV_seq_cut (M:=fun ρ τ=>∃ (Y : Vl) (k2 : Nat),RVl w Y∧Y.ok∧ρ.get 4=.int .u8 n∧ρ.get 6=.mptr 1 0∧ρ.get 11=.mptr k 0∧ρ.get 13=.mptr k2 0∧τ[1]?=some (.own [.int .u64 s2,.int .i64 b2])∧τ[k]?=some (.own X.cells)∧τ[k2]?=some (.own Y.cells)) ?_ ?_
 ·simp only [go_sem,seval,q4,q5,q6,q8,q11,t0,t1,t3,y1,y3,y4]
  refine CV.mono (c_Of hy hOy hTy s1 b1 _) ?_
  rintro r σ' hr
  rw [hmw] at hr
  obtain ⟨Y,hvY,hYo,_,_,rfl,hch⟩:=hr
  have d1 : Y.cells.length=11:=rfl
  have d2 : Y.cells.all VV.isCell=true:=hYo.cell
  have d3 : Y.cells.take 11=Y.cells:=rfl
  have hl:=hch.len
  simp only [go_sem,seval,resK,Vl.vv,q4,q6,q11,d1,d2,d3,SS]
  exact ⟨Y,σ'.length,hvY,hYo,rfl,by rw [List.getElem?_append_left (by omega),hch.same _ hl1 id];exact t1,by rw [List.getElem?_append_left (by omega),hch.same _ hkl id];exact tk,by simp⟩
 rintro ρ τ ⟨Y,k2,hvY,hYo,q4,q6,q11,q13,t1,tk,tk2⟩
 have hEx:=p_Encode hvX hXo (by omega)
 have hEy:=p_Encode hvY hYo (by omega)
 simp only [Vl.vv] at hEx hEy
 have d1 : X.cells.length=11:=rfl
 have d2 : X.cells.all VV.isCell=true:=hXo.cell
 have d3 : X.cells.take 11=X.cells:=rfl
 have f1 : Y.cells.length=11:=rfl
 have f2 : Y.cells.all VV.isCell=true:=hYo.cell
 have f3 : Y.cells.take 11=Y.cells:=rfl
 refine wpV_seq_cut (M:=fun ρ τ=>ρ.get 4=.int .u8 n∧ρ.get 6=.mptr 1 0∧ρ.get 11=.mptr k 0∧ρ.get 13=.mptr k2 0∧ρ.get 15=.str v.enc∧τ[1]?=some (.own [.int .u64 s2,.int .i64 b2])∧τ[k]?=some (.own X.cells)∧τ[k2]?=some (.own Y.cells)) ?_ ?_
 ·simp only [go_sem,seval,q4,q6,q11,q13,tk,d1,d2,d3]
  (first | refine callO_pure (hEx) ?_ | refine dpureO_of (hEx) ?_ | refine dpureO_save (hEx) ?_ | refine dcallO_pure (hEx) (by simp only [go_sem,seval,q4,q6,q11,q13]) ?_ | refine dcallO_pure (hEx) ?_ ?_)<;>simp only [go_sem,seval,q4,q6,q11,q13]
  exact ⟨t1,tk,tk2⟩
 rintro ρ τ ⟨q4,q6,q11,q13,q15,t1,tk,tk2⟩
 have hkl:=(List.getElem?_eq_some_iff.1 tk).1
 have hkl2:=(List.getElem?_eq_some_iff.1 tk2).1
 have hl1:=(List.getElem?_eq_some_iff.1 t1).1
 refine wpV_seq_cut (M:=fun ρ τ=>∃ (U : Vl) (k3 : Nat),RVl v U∧U.ok∧ρ.get 4=.int .u8 n∧ρ.get 6=.mptr 1 0∧ρ.get 11=.mptr k 0∧ρ.get 13=.mptr k2 0∧ρ.get 15=.str v.enc∧ρ.get 16=.mptr k3 0∧ρ.get 17=.nili∧τ[1]?=some (.own [.int .u64 s2,.int .i64 b2])∧τ[k]?=some (.own X.cells)∧τ[k2]?=some (.own Y.cells)∧τ[k3]?=some (.own U.cells)) ?_ ?_
 ·simp only [go_sem,seval,q4,q6,q11,q13,q15,t1]
  refine CV.mono (c_Parse _ s2 b2 v.enc _ _ (by omega) hRp) ?_
  rintro _ σ' ⟨U,hvU,hUo,_,_,_,rfl,hch⟩
  have g1 : U.cells.length=11:=rfl
  have g2 : U.cells.all VV.isCell=true:=hUo.cell
  have g3 : U.cells.take 11=U.cells:=rfl
  have hl:=hch.len
  simp only [go_sem,seval,resK,Vl.vv,q4,q6,q11,q13,q15,g1,g2,g3,SS]
  exact ⟨U,σ'.length,hvU,hUo,rfl,by rw [List.getElem?_append_left (by omega),hch.same _ hl1 id];exact t1,by rw [List.getElem?_append_left (by omega),hch.same _ hkl id];exact tk,by rw [List.getElem?_append_left (by omega),hch.same _ hkl2 id];exact tk2,by simp⟩
 rintro ρ τ ⟨U,k3,hvU,hUo,q4,q6,q11,q13,q15,q16,q17,t1,tk,tk2,tk3⟩
 have g1 : U.cells.length=11:=rfl
 have g2 : U.cells.all VV.isCell=true:=hUo.cell
 have g3 : U.cells.take 11=U.cells:=rfl
 have z1 : Z.cells.length=11:=rfl
 have z2 : Z.cells.all VV.isCell=true:=hZo.cell
 have z3 : Z.cells.take 11=Z.cells:=rfl
 obtain ⟨cX,hcX,hTX⟩:=p_Tree hvX hXo
 obtain ⟨cU,hcU,hTU⟩:=p_Tree hvU hUo
 obtain ⟨cZ,hcZ,hTZ⟩:=p_Tree hvZ hZo
 have hSU:=p_Same v cU cX hcU hcX (by omega)
 have hSZ:=p_Same v cZ cX hcZ hcX (by omega)
 have hCan:=p_Canon _ v.enc _ (by omega) hRp
 have hCan' : PV Tryz.prog G0 22 [.str v.enc] (.bool true):=by simpa using hCan
 simp only [Vl.vv] at hTX hTU hTZ
 refine wpV_seq_cut (M:=fun ρ τ=>ρ.get 4=.int .u8 n∧ρ.get 6=.mptr 1 0∧ρ.get 11=.mptr k 0∧ρ.get 13=.mptr k2 0∧ρ.get 15=.str v.enc∧τ[1]?=some (.own [.int .u64 s2,.int .i64 b2])∧τ[k]?=some (.own X.cells)∧τ[k2]?=some (.own Y.cells)) ?_ ?_
 ·simp only [go_sem,seval,q4,q6,q11,q13,q15,q16,q17,tk,tk3,d1,d2,d3,g1,g2,g3]
  (first | refine callO_pure (hTU) ?_ | refine dpureO_of (hTU) ?_ | refine dpureO_save (hTU) ?_ | refine dcallO_pure (hTU) (by simp only [go_sem,seval,q4,q6,q11,q13,q15,q16,q17,tk,tk3,d1,d2,d3,g1,g2,g3]) ?_ | refine dcallO_pure (hTU) ?_ ?_)<;>simp only [go_sem,seval,q4,q6,q11,q13,q15,q16,q17,tk,tk3,d1,d2,d3,g1,g2,g3]
  (first | refine callO_pure (hTX) ?_ | refine dpureO_of (hTX) ?_ | refine dpureO_save (hTX) ?_ | refine dcallO_pure (hTX) (by simp only [go_sem,seval,q4,q6,q11,q13,q15,q16,q17]) ?_ | refine dcallO_pure (hTX) ?_ ?_)<;>simp only [go_sem,seval,q4,q6,q11,q13,q15,q16,q17]
  (first | refine callO_pure (hSU) ?_ | refine dpureO_of (hSU) ?_ | refine dpureO_save (hSU) ?_ | refine dcallO_pure (hSU) (by simp only [go_sem,seval,q4,q6,q11,q13,q15,q16,q17,Bool.not_true]) ?_ | refine dcallO_pure (hSU) ?_ ?_)<;>simp only [go_sem,seval,q4,q6,q11,q13,q15,q16,q17,Bool.not_true]
  (first | refine callO_pure (hCan') ?_ | refine dpureO_of (hCan') ?_ | refine dpureO_save (hCan') ?_ | refine dcallO_pure (hCan') (by simp only [go_sem,seval,q4,q6,q11,q13,q15,q16,q17,Bool.not_true]) ?_ | refine dcallO_pure (hCan') ?_ ?_)<;>simp only [go_sem,seval,q4,q6,q11,q13,q15,q16,q17,Bool.not_true]
  exact ⟨t1,tk,tk2⟩
 rintro ρ τ ⟨q4,q6,q11,q13,q15,t1,tk,tk2⟩
 refine wpV_seq_cut (M:=fun ρ τ=>∃ k4 : Nat,ρ.get 11=.mptr k 0∧ρ.get 15=.str v.enc∧ρ.get 17=.nili∧ρ.get 18=.mptr k4 0∧ρ.get 19=.int .i64 v.enc.length∧τ[k]?=some (.own X.cells)∧τ[k4]?=some (.own Z.cells)) ?_ ?_
 ·have w6 : IntKind.u8.wrap (1+n.tmod 6)=1+n % 6:=by
   rw [Int.tmod_eq_emod_of_nonneg hn.1,wu8];omega
  have ebl : List.take ((1+n % 6).toNat-0) [32,10,9,13,32,32]=blanksOf n:=rfl
  have w7 : 1+n % 6≤6:=by omega
  have hl1:=(List.getElem?_eq_some_iff.1 t1).1
  have hkl:=(List.getElem?_eq_some_iff.1 tk).1
  have hkl2:=(List.getElem?_eq_some_iff.1 tk2).1
  simp only [go_sem,seval,q4,q6,q11,q13,q15,t1,tk2,f1,f2,f3,w6,ebl]
  have w8 : 0≤1+n % 6:=by omega
  have t1' : ∀ υ,(τ++υ)[1]?=some (.own [.int .u64 s2,.int .i64 b2]):=fun υ=>by rw [List.getElem?_append_left hl1];exact t1
  have tk' : ∀ υ,(τ++υ)[k]?=some (.own X.cells):=fun υ=>by rw [List.getElem?_append_left hkl];exact tk
  have tk2' : ∀ υ,(τ++υ)[k2]?=some (.own Y.cells):=fun υ=>by rw [List.getElem?_append_left hkl2];exact tk2
  have hTk' : PV Tryz.prog G0 34 [.agg [.int .u64 s2,.int .i64 b2],.str (v.enc++blanksOf n++w.enc),.int .i64 0] (.tup [.agg Z.cells,.int .i64 v.enc.length,.nili]):=by
   have:=hTk
   simp only [tkR,Vl.vv,Nat.zero_add] at this
   exact this
  refine ⟨⟨w8,w7⟩,by omega, ?_⟩
  (first | refine callO_pure (hEy) ?_ | refine dpureO_of (hEy) ?_ | refine dpureO_save (hEy) ?_ | refine dcallO_pure (hEy) (by simp only [go_sem,seval,q4,q6,q11,q13,q15,t1,tk2,f1,f2,f3,w6,ebl]) ?_ | refine dcallO_pure (hEy) ?_ ?_)<;>simp only [go_sem,seval,q4,q6,q11,q13,q15,t1,tk2,f1,f2,f3,w6,ebl]
  refine ⟨by simp only [List.length_append];omega, ?_⟩
  (first | refine callO_pure (hTk') ?_ | refine dpureO_of (hTk') ?_ | refine dpureO_save (hTk') ?_ | refine dcallO_pure (hTk') (by simp only [go_sem,seval,q4,q6,q11,q13,q15,t1',tk2',f1,f2,f3,w6,ebl,w7,w8,z1,z2,z3,SS]) ?_ | refine dcallO_pure (hTk') ?_ ?_)<;>simp only [go_sem,seval,q4,q6,q11,q13,q15,t1',tk2',f1,f2,f3,w6,ebl,w7,w8,z1,z2,z3,SS]
  exact ⟨τ.length,rfl,tk' _,by simp⟩
 rintro ρ τ ⟨k4,q11,q15,q17,q18,q19,tk,tk4⟩
 refine wpV_seq_cut (M:=fun ρ τ=>ρ.get 10=.bool true) ?_ ?_
 ·simp only [go_sem,seval,q11,q15,q17,q18,q19,tk,tk4,d1,d2,d3,z1,z2,z3,beq_self_eq_true]
  (first | refine callO_pure (hTZ) ?_ | refine dpureO_of (hTZ) ?_ | refine dpureO_save (hTZ) ?_ | refine dcallO_pure (hTZ) (by simp only [go_sem,seval,q11,q15,q17,q18,q19,tk,tk4,d1,d2,d3,z1,z2,z3]) ?_ | refine dcallO_pure (hTZ) ?_ ?_)<;>simp only [go_sem,seval,q11,q15,q17,q18,q19,tk,tk4,d1,d2,d3,z1,z2,z3]
  (first | refine callO_pure (hTX) ?_ | refine dpureO_of (hTX) ?_ | refine dpureO_save (hTX) ?_ | refine dcallO_pure (hTX) (by simp only [go_sem,seval,q11,q15,q17,q18,q19]) ?_ | refine dcallO_pure (hTX) ?_ ?_)<;>simp only [go_sem,seval,q11,q15,q17,q18,q19]
  (first | refine callO_pure (hSZ) ?_ | refine dpureO_of (hSZ) ?_ | refine dpureO_save (hSZ) ?_ | refine dcallO_pure (hSZ) (by simp only [go_sem,seval,q11,q15,q17,q18,q19]) ?_ | refine dcallO_pure (hSZ) ?_ ?_)<;>simp only [go_sem,seval,q11,q15,q17,q18,q19]
 rintro ρ τ h10
 simp only [go_sem,seval,h10]
 exact fin (by rfl) rfl
end Go.V
