/- Texts F79. -/
import Derived.Test.YthhjefemijhamaaGreatDoorG47
set_option linter.unusedVariables false
set_option linter.unusedSimpArgs false
namespace Go.V
open Go.Proofs
set_option maxRecDepth 100000
theorem eqs_bool (x y : Operand) (a b : Bool) (σ : Store) : evEq Tryz.prog .eql 4 x y (.bool a) (.bool b) σ=okV (.bool (a == b)) σ:=by
 simp [evEq,VV.eqOK,VV.isNilIfc,VV.isAgg,eqV,k_und_4,okV]
theorem canon_draw {ρ : Env} {τ : Store} {k k2 : Nat} {s E K : Bs} {X Y : List VV} {Q : Out→Env→Store→Prop} (q1 : ρ.get 1=.str s) (q5 : ρ.get 5=.mptr k 0) (q6 : ρ.get 6=.nili) (q9 : ρ.get 9=.str E) (q10 : ρ.get 10=.mptr k2 0) (hx : τ[k]?=some (.own X)) (d1 : X.length=11) (d2 : X.all VV.isCell=true) (d3 : X.take 11=X) (hy : τ[k2]?=some (.own Y)) (e1 : Y.length=11) (e2 : Y.all VV.isCell=true) (e3 : Y.take 11=Y)
  (hKx : PV Tryz.prog G0 24 [.agg X] (.str K)) (hKy : PV Tryz.prog G0 24 [.agg Y] (.str K)) (hCan2 : PV Tryz.prog G0 22 [.str E] (.bool true)) (hCan : PV Tryz.prog G0 22 [.str s] (.bool (E == s))) (hQ : ∀ ρ',ρ'.get 4=.bool true→Q .normal ρ' τ) : wpV Tryz.prog G0 (.draw [⟨0,some 61,.move (.tmp 6),50,none,false,[],false⟩,⟨1,some 62,.binOp .eql 50 (.tmp 61) (.const .nilIface) 50,4,none,false,[],false⟩,⟨2,some 63,.move (.tmp 62),4,none,false,[],false⟩,⟨3,some 64,.load 42 (.tmp 5),42,some (63,true),false,[],false⟩,⟨5,some 66,.load 42 (.tmp 10),42,some (63,true),false,[],true⟩,⟨4,some 65,.call ⟨.value (.func 24),#[.tmp 64],#[42]⟩,9,some (63,true),true,[5],false⟩,⟨6,some 67,.call ⟨.value (.func 24),#[.tmp 66],#[42]⟩,9,some (63,true),true,[],false⟩,⟨7,some 68,.binOp .eql 9 (.tmp 65) (.tmp 67) 9,4,some (63,true),false,[],false⟩,⟨8,some 69,.pick (.tmp 63) (.tmp 68) (.const (.bool false)),4,none,false,[],false⟩,⟨9,some 70,.move (.tmp 69),4,none,false,[],false⟩,⟨10,some 71,.move (.tmp 9),9,some (70,true),false,[],false⟩,⟨11,some 72,.call ⟨.value (.func 22),#[.tmp 71],#[9]⟩,4,some (70,true),true,[],false⟩,⟨12,some 73,.pick (.tmp 70) (.tmp 72) (.const (.bool false)),4,none,false,[],false⟩,⟨13,some 74,.move (.tmp 73),4,none,false,[],false⟩,⟨14,some 75,.move (.tmp 1),9,some (74,true),false,[],false⟩,⟨16,some 77,.move (.tmp 9),9,some (74,true),false,[],false⟩,⟨17,some 78,.move (.tmp 1),9,some (74,true),false,[],false⟩,⟨18,some 79,.binOp .eql 9 (.tmp 77) (.tmp 78) 9,4,some (74,true),false,[],false⟩,⟨15,some 76,.call ⟨.value (.func 22),#[.tmp 75],#[9]⟩,4,some (74,true),true,[],false⟩,⟨19,some 80,.binOp .eql 4 (.tmp 76) (.tmp 79) 4,4,some (74,true),false,[],false⟩,⟨20,some 81,.pick (.tmp 74) (.tmp 80) (.const (.bool false)),4,none,false,[],false⟩,⟨21,some 4,.assign (.tmp 81),4,none,false,[],false⟩]) Q ρ τ:=by
 simp only [go_sem,seval,q1,q5,q6,q9,q10,hx,hy,d1,d2,d3,e1,e2,e3]
 (first | refine callO_pure (hKx) ?_ | refine dpureO_of (hKx) ?_ | refine dpureO_save (hKx) ?_ | refine dcallO_pure (hKx) (by simp only [go_sem,seval,q1,q5,q6,q9,q10,hx,hy,d1,d2,d3,e1,e2,e3]) ?_ | refine dcallO_pure (hKx) ?_ ?_)<;>simp only [go_sem,seval,q1,q5,q6,q9,q10,hx,hy,d1,d2,d3,e1,e2,e3]
 (first | refine callO_pure (hKy) ?_ | refine dpureO_of (hKy) ?_ | refine dpureO_save (hKy) ?_ | refine dcallO_pure (hKy) (by simp only [go_sem,seval,q1,q5,q6,q9,q10,hx,hy,d1,d2,d3,e1,e2,e3]) ?_ | refine dcallO_pure (hKy) ?_ ?_)<;>simp only [go_sem,seval,q1,q5,q6,q9,q10,hx,hy,d1,d2,d3,e1,e2,e3]
 (first | refine callO_pure (hCan2) ?_ | refine dpureO_of (hCan2) ?_ | refine dpureO_save (hCan2) ?_ | refine dcallO_pure (hCan2) (by simp only [go_sem,seval,q1,q5,q6,q9,q10]) ?_ | refine dcallO_pure (hCan2) ?_ ?_)<;>simp only [go_sem,seval,q1,q5,q6,q9,q10]
 (first | refine callO_pure (hCan) ?_ | refine dpureO_of (hCan) ?_ | refine dpureO_save (hCan) ?_ | refine dcallO_pure (hCan) (by simp only [go_sem,seval,q1,q5,q6,q9,q10,eqs_bool,beq_self_eq_true]) ?_ | refine dcallO_pure (hCan) ?_ ?_)<;>simp only [go_sem,seval,q1,q5,q6,q9,q10,eqs_bool,beq_self_eq_true]
 exact hQ _ rfl
theorem l_Canon (seed bits : Int) (s : Bs) : PV Tryz.prog G0 4 [.agg [.int .u64 seed,.int .i64 bits],.str s] (.bool true):=by
 have hL:=p_live
 refine pv e4 (by simp) rfl rfl ?_
 by_cases h1 : 4000 < s.length
 ·have b1 : decide ((4000 : Int) < (s.length : Int))=true:=decide_eq_true (by omega)
  simp only [go_sem,seval,c4]
  (first | refine callO_pure (hL) ?_ | refine dpureO_of (hL) ?_ | refine dpureO_save (hL) ?_ | refine dcallO_pure (hL) (by simp only [go_sem,seval,Bool.not_true,b1]) ?_ | refine dcallO_pure (hL) ?_ ?_)<;>simp only [go_sem,seval,Bool.not_true,b1]
  (first | refine callO_pure (hL) ?_ | refine dpureO_of (hL) ?_ | refine dpureO_save (hL) ?_ | refine dcallO_pure (hL) (by simp only [go_sem,seval]) ?_ | refine dcallO_pure (hL) ?_ ?_)<;>simp only [go_sem,seval]
  exact fin (by rfl) rfl
 have b1 : decide ((4000 : Int) < (s.length : Int))=false:=decide_eq_false (by omega)
 obtain ⟨f,R,hR⟩:=rdP_tot s
 have hCan:=p_Canon f s R (by omega) hR
 refine wpV_seq_cut (M:=fun ρ τ=>ρ.get 1=.str s∧ρ.get 2=.mptr 0 0∧τ=[.own [.int .u64 seed,.int .i64 bits]]) ?_ ?_
 ·simp only [go_sem,seval]
 rintro ρ _ ⟨q1,q2,rfl⟩
 refine wpV_seq_cut (M:=fun ρ τ=>ρ.get 1=.str s∧ρ.get 2=.mptr 0 0∧τ=[.own [.int .u64 seed,.int .i64 bits]]) ?_ ?_
 ·simp only [go_sem,seval,q1,q2]
  (first | refine callO_pure (hL) ?_ | refine dpureO_of (hL) ?_ | refine dpureO_save (hL) ?_ | refine dcallO_pure (hL) (by simp only [go_sem,seval,Bool.not_true,Bool.not_false,b1,q1,q2]) ?_ | refine dcallO_pure (hL) ?_ ?_)<;>simp only [go_sem,seval,Bool.not_true,Bool.not_false,b1,q1,q2]
 rintro ρ _ ⟨q1,q2,rfl⟩
 cases R with
 | er c p =>
  have hc:=rdP_err hR
  have hp:=rdP_place hR
  have hLast:=p_Last c p (by omega)
  have hK:=p_vKind Vl.zero zero_ok
  obtain ⟨w,hw⟩:=faultV_ne (e:=c) p (by omega)
  rw [hw] at hLast
  simp only [Vl.vv] at hK
  have z1 : Vl.zero.cells.length=11:=rfl
  have z2 : Vl.zero.cells.all VV.isCell=true:=rfl
  have z3 : Vl.zero.cells.take 11=Vl.zero.cells:=rfl
  have z4 : Vl.zero.k=0:=rfl
  rw [z4] at hK
  have b2 : decide ((0 : Int)≤(p : Int))=true:=decide_eq_true (by omega)
  have b3 : decide ((p : Int)≤(s.length : Int))=true:=decide_eq_true (by omega)
  simp only [go_sem,seval,q1,q2]
  refine CV.mono (c_Parse f seed bits s _ _ (by omega) hR) ?_
  rintro _ σ1 ⟨rfl,hC⟩
  simp only [go_sem,seval,resK,Vl.vv,hw,z1,z2,z3,q1,q2,SS]
  (first | refine callO_pure (hLast) ?_ | refine dpureO_of (hLast) ?_ | refine dpureO_save (hLast) ?_ | refine dcallO_pure (hLast) (by simp only [go_sem,seval,z1,z2,z3,q1,q2,SS]) ?_ | refine dcallO_pure (hLast) ?_ ?_)<;>simp only [go_sem,seval,z1,z2,z3,q1,q2,SS]
  (first | refine callO_pure (hCan) ?_ | refine dpureO_of (hCan) ?_ | refine dpureO_save (hCan) ?_ | refine dcallO_pure (hCan) (by simp only [go_sem,seval,z1,z2,z3,b2,b3,q1,q2,SS]) ?_ | refine dcallO_pure (hCan) ?_ ?_)<;>simp only [go_sem,seval,z1,z2,z3,b2,b3,q1,q2,SS]
  (first | refine callO_pure (hK) ?_ | refine dpureO_of (hK) ?_ | refine dpureO_save (hK) ?_ | refine dcallO_pure (hK) (by simp only [go_sem,seval,b2,b3]) ?_ | refine dcallO_pure (hK) ?_ ?_)<;>simp only [go_sem,seval,b2,b3]
  exact fin (by rfl) rfl
 | ok v n =>
  obtain ⟨g1,g2,g3,g4,g5⟩:=rdP_good hR
  have hR2:=rdP_back g1 (by omega) (by omega)
  have hCan2:=p_Canon _ v.enc _ (by omega) hR2
  refine wpV_seq_cut (M:=fun ρ τ=>ρ.get 1=.str s∧ρ.get 2=.mptr 0 0∧ρ.get 6=.nili∧τ[0]?=some (.own [.int .u64 seed,.int .i64 bits])∧∃ k x,ρ.get 5=.mptr k 0∧RVl v x∧x.ok∧τ[k]?=some (.own x.cells)) ?_ ?_
  ·simp only [go_sem,seval,q1,q2]
   refine CV.mono (c_Parse f seed bits s _ _ (by omega) hR) ?_
   rintro _ σ1 ⟨x,hv,hxo,hxb,hxn,hn,rfl,hC⟩
   have d1 : x.cells.length=11:=rfl
   have d2 : x.cells.all VV.isCell=true:=hxo.cell
   have d3 : x.cells.take 11=x.cells:=rfl
   have hx0 : ∀ τ,(σ1++τ)[0]?=some (.own [.int .u64 seed,.int .i64 bits]):=fun τ=>by
    have h0:=hC.same 0 (by simp) (by simp)
    rw [List.getElem?_append_left (List.getElem?_eq_some_iff.1 h0).1];exact h0
   simp only [go_sem,seval,resK,Vl.vv,d1,d2,d3,q1,q2,SS]
   exact ⟨hx0 _,_,x,rfl,hv,hxo,by simp⟩
  rintro ρ τ ⟨q1,q2,q6,hc0,k,x,q5,hv,hxo,hx⟩
  have d1 : x.cells.length=11:=rfl
  have d2 : x.cells.all VV.isCell=true:=hxo.cell
  have d3 : x.cells.take 11=x.cells:=rfl
  have hE:=p_Encode hv hxo (by omega)
  simp only [Vl.vv] at hE
  refine wpV_seq_cut (M:=fun ρ τ'=>ρ.get 1=.str s∧ρ.get 2=.mptr 0 0∧ρ.get 5=.mptr k 0∧τ'[0]?=some (.own [.int .u64 seed,.int .i64 bits])∧τ'[k]?=some (.own x.cells)) ?_ ?_
  ·simp only [go_sem,seval,q1,q2,q5,q6]
   exact ⟨hc0,hx⟩
  rintro ρ τ ⟨q1,q2,q5,hc0,hx⟩
  refine wpV_seq_cut (M:=fun ρ τ'=>ρ.get 1=.str s∧ρ.get 2=.mptr 0 0∧ρ.get 5=.mptr k 0∧ρ.get 9=.str v.enc∧τ'[0]?=some (.own [.int .u64 seed,.int .i64 bits])∧τ'[k]?=some (.own x.cells)) ?_ ?_
  ·simp only [go_sem,seval,q1,q2,q5,hx,d1,d2,d3]
   (first | refine callO_pure (hE) ?_ | refine dpureO_of (hE) ?_ | refine dpureO_save (hE) ?_ | refine dcallO_pure (hE) (by simp only [go_sem,seval,q1,q2,q5]) ?_ | refine dcallO_pure (hE) ?_ ?_)<;>simp only [go_sem,seval,q1,q2,q5]
   exact ⟨hc0,hx⟩
  rintro ρ τ ⟨q1,q2,q5,q9,hc0,hx⟩
  refine wpV_seq_cut (M:=fun ρ τ'=>ρ.get 1=.str s∧ρ.get 5=.mptr k 0∧ρ.get 9=.str v.enc∧ρ.get 6=.nili∧τ'[k]?=some (.own x.cells)∧∃ k2 y,ρ.get 10=.mptr k2 0∧RVl v y∧y.ok∧τ'[k2]?=some (.own y.cells)) ?_ ?_
  ·simp only [go_sem,seval,q1,q2,q5,q9,hc0]
   refine CV.mono (c_Parse _ seed bits v.enc _ _ (by omega) hR2) ?_
   rintro _ σ2 ⟨y,hy,hyo,hyb,hyn,hn2,rfl,hC2⟩
   have e1 : y.cells.length=11:=rfl
   have e2 : y.cells.all VV.isCell=true:=hyo.cell
   have e3 : y.cells.take 11=y.cells:=rfl
   have hx2 : ∀ υ,(σ2++υ)[k]?=some (.own x.cells):=fun υ=>by
    have h0:=hC2.same k (List.getElem?_eq_some_iff.1 hx).1 (by simp)
    rw [hx] at h0
    rw [List.getElem?_append_left (List.getElem?_eq_some_iff.1 h0).1];exact h0
   simp only [go_sem,seval,resK,Vl.vv,e1,e2,e3,q1,q5,q9,SS]
   exact ⟨hx2 _,_,y,rfl,hy,hyo,by simp⟩
  rintro ρ τ2 ⟨q1,q5,q9,q6,hx2,k2,y,q10,hy,hyo,hy2⟩
  have e1 : y.cells.length=11:=rfl
  have e2 : y.cells.all VV.isCell=true:=hyo.cell
  have e3 : y.cells.take 11=y.cells:=rfl
  have hKx:=p_VKey hv hxo (by omega)
  have hKy:=p_VKey hy hyo (by omega)
  simp only [Vl.vv] at hKx hKy
  have hCan2' : PV Tryz.prog G0 22 [.str v.enc] (.bool true):=by simpa using hCan2
  refine wpV_seq_cut (M:=fun ρ τ=>ρ.get 4=.bool true) (canon_draw q1 q5 q6 q9 q10 hx2 d1 d2 d3 hy2 e1 e2 e3 hKx hKy hCan2' hCan fun ρ' h=>h) ?_
  rintro ρ τ h4
  simp only [go_sem,seval,h4]
  exact fin (by rfl) rfl
end Go.V
