/- Texts F109. -/
import Derived.Test.YthhjefemijhamaaGreatDoorG47
import Derived.Test.YthhjefemijhamaaGreatDoorG49
import Derived.Test.YthhjefemijhamaaGreatDoorG51
set_option linter.unusedVariables false
set_option linter.unusedSimpArgs false
namespace Go.V
open Go.Proofs
set_option maxRecDepth 100000
theorem U8 (f : Nat) : VQ f:=by
 induction f using Nat.strongRecOn with
 | ind f ih=>exact UN f fun g e=>Xe g fun h hh=>ih h (by omega)
theorem Ch.none {υ τ : Store} {id : Nat} (h : Ch (·=id) υ τ) {σ ρ : Store} (e : υ=σ++ρ) (hi : σ.length≤id) : Ch (fun _=>False) σ τ:=by
 subst e
 refine ⟨by have:=h.len;simp at this;omega,fun j hj _=>?_⟩
 rw [h.same j (by simp;omega) (by omega),List.getElem?_append_left hj]
theorem Ch.NG {σ υ : Store} (h : Ch (fun _=>False) σ υ) {k : Nat} {o : Obj} (hk : σ.length≤k) : Ch (fun _=>False) σ (υ.set k o):=h.rW hk
def TkC (σ : Store) : Rs→dX→Store→Prop
 | .er c p,r,σ'=>c≠0∧r=.ret (.tup [.agg z5,.int .i64 0,.int .i64 p,.int .i64 c])∧Ch (fun _=>False) σ σ'
 | .ok v e _,r,σ'=>(v.wf 1∧v.nd≤16384∧v.yh 4000)∧(∃ cc,rJ v.tree cc∧r=.ret (.tup [.agg cc,.int .i64 e,.int .i64 0,.int .i64 0]))∧Ch (fun _=>False) σ σ'
theorem Ns (f : Nat) (s : Bs) (a : Int) (R : Rs) (ha : lY a) (hs : s.length≤4000) (hrd : rd f s a 0 1 .val=some R) (σ : Store) : CV Tryz.prog G0 35 [.str s,.int .i64 a] σ (TkC σ R):=by
 refine cv e35 (by simp) ?_
 simp only [go_sem,seval,c35,SS]
 refine CV.mono (U8 f (σ.length+1) s a 0 1 0 0 R _ (fun _=>ha) hs (by omega) (by omega) (by omega) (fun _=>rfl) (by simp [gZ]) (FD hrd)) ?_
 intro r τ hX
 obtain ⟨X,cs,y,hT,rfl,hch,hres⟩ : ∃ (X : Tr) (cs : List VV) (y : Int),rJ X cs∧r=.ret (.tup [.agg cs,.int .i64 y])∧Ch (·=σ.length+1) (σ++[.own z5,.own (gZ s a 0 0 0)]) τ∧((∃ v e n',R=.ok v e n'∧oV X∧nS 4000 X∧X.mk 1 0=(n',.ok v)∧τ[σ.length+1]?=some (.own (gZ s e n' 0 0)))∨(∃ c p,R=.er c p∧c≠0∧∃ a' n2 : Int,τ[σ.length+1]?=some (.own (gZ s a' n2 p c)))):=by
  cases R with
  | ok v e n' =>
   obtain ⟨X,cx,hT,hO,hL,hm,rfl,e1,e2⟩:=hX
   exact ⟨X,cx,_,hT,rfl,e2,.inl ⟨v,e,n',rfl,hO,hL,hm,e1⟩⟩
  | er c p =>
   obtain ⟨hc,⟨X,cx,y,hT,rfl⟩,a',n2,e1,e2⟩:=hX
   exact ⟨X,cx,y,hT,rfl,e2,.inr ⟨c,p,rfl,hc,a',n2,e1⟩⟩
 clear hX
 obtain ⟨x1,x2,x3⟩:=hT.cells
 have x4 : cs.take 5=cs:=List.take_of_length_le (by omega)
 have t4:=hch.get (k:=σ.length) (o:=.own z5) (by simp) (by omega)
 have l4:=(List.getElem?_eq_some_iff.1 t4).1
 have hcn:=hch.none rfl (Nat.le_succ _)
 have t4' : ∀ υ,(τ++υ)[σ.length]?=some (.own z5):=fun υ=>by rw [List.getElem?_append_left l4];exact t4
 have s4 : ∀ υ o,((τ++υ).set σ.length o)[σ.length]?=some o:=fun υ o=>List.getElem?_set_self (by simp;omega)
 rcases hres with ⟨v,e,n',rfl,hO,hL,hm,e1⟩ | ⟨c,p,rfl,hc,a',n2,e1⟩
 ·have l1:=(List.getElem?_eq_some_iff.1 e1).1
  unfold gZ at e1
  have e1' : ∀ υ,(τ++υ)[σ.length+1]?=some (.own [.str s,.int .i64 e,.int .i64 n',.int .i64 0,.int .i64 0]):=fun υ=>by rw [List.getElem?_append_left l1];exact e1
  have s1 : ∀ υ o,((τ++υ).set σ.length o)[σ.length+1]?=some (.own [.str s,.int .i64 e,.int .i64 n',.int .i64 0,.int .i64 0]):=fun υ o=>by rw [List.getElem?_set_ne (by omega)];exact e1' υ
  have s9 : ∀ o,((τ++[Obj.own cs]).set σ.length o)[τ.length]?=some (.own cs):=fun o=>by rw [List.getElem?_set_ne (by omega)];simp
  obtain ⟨cc,hTc,hCan⟩:=LQ X cs hT hO hL _ _ _ _ hm
  obtain ⟨y1,y2,y3⟩:=hTc.cells
  have y4 : cc.take 5=cc:=List.take_of_length_le (by omega)
  obtain ⟨w1,w2,w3⟩:=zX _ _ _ _ _ hO hm
  simp only [go_sem,seval,aO,x1,x3,x4,e1',t4',SS]
  refine aC (hCan) (by simp only [go_sem,seval,e1',t4',s1,s4,s9,x1,x3,x4,y1,y3,y4,SS]) ?_<;>simp only [go_sem,seval,e1',t4',s1,s4,s9,x1,x3,x4,y1,y3,y4,SS]
  exact ⟨⟨w1,by omega,Qj _ _ _ _ _ hO hL hm⟩,⟨cc,hTc,rfl⟩,((hcn.trans (Ch.snoc _ _ _)).NG (Nat.le_refl _))⟩
 ·have l1:=(List.getElem?_eq_some_iff.1 e1).1
  unfold gZ at e1
  have e1' : ∀ υ,(τ++υ)[σ.length+1]?=some (.own [.str s,.int .i64 a',.int .i64 n2,.int .i64 p,.int .i64 c]):=fun υ=>by rw [List.getElem?_append_left l1];exact e1
  have s1 : ∀ υ o,((τ++υ).set σ.length o)[σ.length+1]?=some (.own [.str s,.int .i64 a',.int .i64 n2,.int .i64 p,.int .i64 c]):=fun υ o=>by rw [List.getElem?_set_ne (by omega)];exact e1' υ
  have b : ((c : Int) != 0)=true:=by simp [hc]
  simp only [go_sem,seval,aO,x1,x3,x4,e1',t4',s1,s4,b,SS]
  exact ⟨hc,rfl,((hcn.trans (Ch.snoc _ _ _)).NG (Nat.le_refl _))⟩
def PrC (σ : Store) : Pr→dX→Store→Prop
 | .er c p,r,σ'=>c≠0∧r=.ret (.tup [.agg z5,.int .i64 p,.int .i64 c])∧Ch (fun _=>False) σ σ'
 | .ok v _,r,σ'=>(v.wf 1∧v.nd≤16384∧v.yh 4000)∧(∃ cc,rJ v.tree cc∧r=.ret (.tup [.agg cc,.int .i64 0,.int .i64 0]))∧Ch (fun _=>False) σ σ'
theorem H9 (f : Nat) (s : Bs) (R : Pr) (hs : s.length≤4000) (hrd : Ey f s=some R) (σ : Store) : CV Tryz.prog G0 30 [.str s] σ (PrC σ R):=by
 unfold Ey at hrd
 rw [if_neg (by omega)] at hrd
 have b0 : decide ((1048576 : Int) < (s.length : Int))=false:=decide_eq_false (by omega)
 obtain ⟨R0,hr0⟩ : ∃ R0,rd f s 0 0 1 .val=some R0:=by
  cases h : rd f s 0 0 1 .val with
  | none=>rw [h] at hrd;cases hrd
  | some R0=>exact ⟨R0,rfl⟩
 rw [hr0] at hrd
 refine cv e30 (by simp) ?_
 simp only [go_sem,seval,c30,b0,SS]
 refine CV.mono (Ns f s 0 R0 ⟨by omega,by omega⟩ hs hr0 _) ?_
 intro r τ hX
 cases R0 with
 | er c p =>
  cases hrd
  obtain ⟨hc,rfl,hch⟩:=hX
  have t2:=hch.get (k:=σ.length) (o:=.own z5) (by simp) (by simp)
  have l2:=(List.getElem?_eq_some_iff.1 t2).1
  have t2' : ∀ υ,(τ++υ)[σ.length]?=some (.own z5):=fun υ=>by rw [List.getElem?_append_left l2];exact t2
  have s2 : ∀ υ o,((τ++υ).set σ.length o)[σ.length]?=some o:=fun υ o=>List.getElem?_set_self (by simp;omega)
  have b : ((c : Int) != 0)=true:=by simp [hc]
  simp only [go_sem,seval,aO,t2',s2,b,SS]
  exact ⟨hc,rfl,(hch.app.trans (Ch.snoc _ _ _)).NG (Nat.le_refl _)⟩
 | ok v e n =>
  simp only at hrd
  obtain ⟨hv,⟨cc,hT,rfl⟩,hch⟩:=hX
  have t2:=hch.get (k:=σ.length) (o:=.own z5) (by simp) (by simp)
  have l2:=(List.getElem?_eq_some_iff.1 t2).1
  have t2' : ∀ υ,(τ++υ)[σ.length]?=some (.own z5):=fun υ=>by rw [List.getElem?_append_left l2];exact t2
  have s2 : ∀ υ o,((τ++υ).set σ.length o)[σ.length]?=some o:=fun υ o=>List.getElem?_set_self (by simp;omega)
  obtain ⟨x1,x2,x3⟩:=hT.cells
  have x4 : cc.take 5=cc:=List.take_of_length_le (by omega)
  have he:=(sH f hr0).2
  have hN:=Nc s e ⟨by omega,by omega⟩ (by omega)
  cases hx : cZ s e with
  | err c p =>
   rw [hx] at hrd hN
   cases hrd
   have hc:=kK hx
   have b : ((c : Int) != 0)=true:=by simp [hc]
   simp only [Zz,oU,dW] at hN
   simp only [go_sem,seval,aO,t2',s2,x1,x3,x4,bne,beq_self_eq_true,Bool.not_true,SS]
   refine ah (hN) ?_<;>simp only [go_sem,seval,t2',s2,b,SS]
   exact ⟨hc,rfl,(hch.app.trans (Ch.snoc _ _ _)).NG (Nat.le_refl _)⟩
  | tok k x e2 i t =>
   rw [hx] at hrd hN
   simp only [Zz,dW] at hN
   simp only at hrd
   by_cases hk : k=0
   ·rw [if_pos hk] at hrd
    cases hrd
    have b : ((k : Int) != 0)=false:=by simp [hk]
    simp only [go_sem,seval,aO,t2',s2,x1,x3,x4,bne,beq_self_eq_true,Bool.not_true,SS]
    refine ah (hN) ?_<;>simp only [go_sem,seval,t2',s2,b,x1,x3,x4,SS]
    exact ⟨hv,⟨cc,hT,rfl⟩,(hch.app.trans (Ch.snoc _ _ _)).NG (Nat.le_refl _)⟩
   ·rw [if_neg hk] at hrd
    cases hrd
    have b : ((k : Int) != 0)=true:=by simp [hk]
    have s3 : ∀ y z o,((τ++[y,z]).set σ.length o)[τ.length+1]?=some z:=fun y z o=>by rw [List.getElem?_set_ne (by omega)];simp [List.getElem?_append_right]
    simp only [go_sem,seval,aO,t2',s2,x1,x3,x4,bne,beq_self_eq_true,Bool.not_true,SS]
    refine ah (hN) ?_<;>simp only [go_sem,seval,t2',s2,s3,b,SS]
    exact ⟨by decide,rfl,(hch.app.trans (Ch.snoc _ _ _)).NG (Nat.le_refl _)⟩
theorem Sr (f : Nat) (s : Bs) (R : Pr) (hs : s.length≤4000) (hrd : Ey f s=some R) : PV Tryz.prog G0 33 [.str s] (.bool (match R with | .ok v _=>v.enc == s | .er _ _=>false)):=by
 refine pv e33 (by simp) rfl rfl ?_
 simp only [go_sem,seval,c33,SS]
 refine CV.mono (H9 f s R hs hrd []) ?_
 intro r τ hX
 cases R with
 | er c p =>
  obtain ⟨hc,rfl,hch⟩:=hX
  have b : ((c : Int) == 0)=false:=by simp [hc]
  simp only [go_sem,seval,aO,b,SS]
  exact fin (by rfl) rfl
 | ok v n =>
  obtain ⟨⟨v1,v2,v3⟩,⟨cc,hT,rfl⟩,hch⟩:=hX
  obtain ⟨x1,x2,x3⟩:=hT.cells
  have x4 : cc.take 5=cc:=List.take_of_length_le (by omega)
  have hE:=Kt v cc 1 hT v3 v1 (by omega)
  simp only [go_sem,seval,aO,x1,x3,x4,beq_self_eq_true,SS]
  refine ah (hE) ?_<;>simp only [go_sem,seval,SS]
  exact fin (by rfl) rfl
theorem Qm (s1 b1 : Int) (s : Bs) : PV Tryz.prog G0 9 [.agg [.int .u64 s1,.int .i64 b1],.str s] (.bool true):=by
 have hL:=Qh
 refine pv e9 (by simp) rfl rfl ?_
 by_cases h4 : 4000 < s.length
 ·have b : decide ((4000 : Int) < (s.length : Int))=true:=decide_eq_true (by omega)
  simp only [go_sem,seval,c9]
  refine ah (hL) ?_<;>simp only [go_sem,seval,Bool.not_true,Bool.not_false,b]
  refine ah (hL) ?_<;>simp only [go_sem,seval]
  exact fin (by rfl) rfl
 have b : decide ((4000 : Int) < (s.length : Int))=false:=decide_eq_false (by omega)
 obtain ⟨f,R,hrd⟩:=Vr s
 obtain ⟨X,hX,hP⟩:=RQ f s1 b1 s R (by omega) hrd
 obtain ⟨w,hC,hC'⟩ : ∃ w,PV Tryz.prog G0 22 [.str s] (.bool w)∧PV Tryz.prog G0 33 [.str s] (.bool w):=⟨_,EX f s R (by omega) hrd,Sr f s R (by omega) hrd⟩
 obtain ⟨v0,X0,c,p,hv,hXo,hnd,hpz,hPr⟩ : ∃ (v0 : T) (X0 : Vl) (c p : Nat),zD v0 X0∧X0.ok∧v0.nd≤100000∧UC X R=.tup [X0.vv,dL c p]∧∀ σ r σ',PrC σ R r σ'→∃ cc,rJ v0.tree cc∧r=.ret (.tup [.agg cc,.int .i64 p,.int .i64 c])∧Ch (fun _=>False) σ σ':=by
  cases R with
  | er c p=>exact ⟨_,_,c,p,H7,MZ,by simp [T.nd],rfl,fun σ r σ' h=>⟨_,Gl,h.2⟩⟩
  | ok v n =>
   obtain ⟨h1,h2,_,h3,h4⟩:=hX
   have:=(QM hrd).2.1
   exact ⟨v,X,0,0,h1,h2,by omega,rfl,fun σ r σ' h=>by obtain ⟨_,⟨cc,h5,h6⟩,h7⟩:=h;exact ⟨cc,h5,h6,h7⟩⟩
 rw [hpz] at hP
 obtain ⟨c1,hT1,hTr⟩:=SC hv hXo
 have hAt:=XZ c p p c
 have eAt : (if (c : Int)=0 then ((c : Int) == 0) else ((c : Int) == c && (p : Int) == p))=true:=by split<;>simp_all
 rw [eAt] at hAt
 obtain ⟨x1,x2,x3⟩:=hT1.cells
 have x4 : c1.take 5=c1:=List.take_of_length_le (by omega)
 have d1 : X0.cells.length=11:=rfl
 have d2 : X0.cells.all VV.aF=true:=hXo.cell
 have d3 : X0.cells.take 11=X0.cells:=rfl
 have fc:=kE c p
 have fu:=eH fc
 have fc2:=cellC fc
 simp only [go_sem,seval] at fc
 simp only [go_sem,seval] at fu
 simp only [go_sem,seval] at fc2
 simp only [Vl.vv] at hP hTr
 simp only [go_sem,seval,c9]
 refine ah (hL) ?_<;>simp only [go_sem,seval,Bool.not_true,Bool.not_false,b]
 refine ah (hP) ?_<;>simp only [go_sem,seval,d1,d2,d3,fc,fu,fc2,SS]
 refine CV.mono (H9 f s R (by omega) hrd _) ?_
 intro r τ h
 obtain ⟨cc,hT2,rfl,hch⟩:=hPr _ _ _ h
 obtain ⟨y1,y2,y3⟩:=hT2.cells
 have y4 : cc.take 5=cc:=List.take_of_length_le (by omega)
 have hS:=EW v0 c1 cc hT1 hT2 hnd
 have t5:=hch.get (k:=1) (o:=.own X0.cells) (by simp) id
 have l5:=(List.getElem?_eq_some_iff.1 t5).1
 have t5' : ∀ υ,(τ++υ)[1]?=some (.own X0.cells):=fun υ=>by rw [List.getElem?_append_left l5];exact t5
 simp only [go_sem,seval,aO,t5',y1,y3,y4,d1,d2,d3,fc,fu,fc2,SS]
 refine aC (hTr) (by simp only [go_sem,seval,t5',x1,x3,x4,y1,y3,y4,d1,d2,d3,SS]) ?_<;>simp only [go_sem,seval,t5',x1,x3,x4,y1,y3,y4,d1,d2,d3,SS]
 refine aC (hS) (by simp only [go_sem,seval,t5',fc,fu,fc2,SS]) ?_<;>simp only [go_sem,seval,t5',fc,fu,fc2,SS]
 refine aC (hAt) (by simp only [go_sem,seval,t5',fc,fu,fc2,SS]) ?_<;>simp only [go_sem,seval,t5',fc,fu,fc2,SS]
 refine aC (hC) (by simp only [go_sem,seval,SS]) ?_<;>simp only [go_sem,seval,SS]
 have hE : ∀ {x y : Operand} {σ},kU Tryz.prog .eql 4 x y (.bool w) (.bool w) σ=okV (.bool true) σ:=by intro x y σ;simp [kU,VV.ql,VV.fC,VV.isAgg,CO,WB,okV]
 refine aC (hC') (by simp only [go_sem,seval,hE,SS]) ?_<;>simp only [go_sem,seval,hE,SS]
 exact fin (by rfl) rfl
theorem Xf (s1 b1 : Int) (s : Bs) (a : Int) (ha : lY a) : PV Tryz.prog G0 10 [.agg [.int .u64 s1,.int .i64 b1],.str s,.int .i64 a] (.bool true):=by
 have hL:=Qh
 refine pv e10 (by simp) rfl rfl ?_
 by_cases h4 : 4000 < s.length
 ·have b : decide ((4000 : Int) < (s.length : Int))=true:=decide_eq_true (by omega)
  simp only [go_sem,seval,c10]
  refine ah (hL) ?_<;>simp only [go_sem,seval,Bool.not_true,Bool.not_false,b]
  refine ah (hL) ?_<;>simp only [go_sem,seval]
  exact fin (by rfl) rfl
 have b : decide ((4000 : Int) < (s.length : Int))=false:=decide_eq_false (by omega)
 obtain ⟨f,R,hrd⟩ : ∃ f R,rd f s a 0 1 .val=some R:=⟨_,BU _ s a 0 1 .val (Nat.lt_succ_self _)⟩
 obtain ⟨X,hX,hP⟩:=Vs f s1 b1 s a R ha (by omega) hrd
 obtain ⟨v0,X0,c,p,e,hv,hXo,hnd,hpz,hPr⟩ : ∃ (v0 : T) (X0 : Vl) (c p e : Nat),zD v0 X0∧X0.ok∧v0.nd≤100000∧ZW X R=.tup [X0.vv,.int .i64 e,dL c p]∧∀ σ r σ',TkC σ R r σ'→∃ cc,rJ v0.tree cc∧r=.ret (.tup [.agg cc,.int .i64 e,.int .i64 p,.int .i64 c])∧Ch (fun _=>False) σ σ':=by
  cases R with
  | er c p=>exact ⟨_,_,c,p,0,H7,MZ,by simp [T.nd],rfl,fun σ r σ' h=>⟨_,Gl,h.2⟩⟩
  | ok v e n =>
   obtain ⟨h1,h2,_,h3,h4,_⟩:=hX
   have:=(wP f hrd trivial).2
   exact ⟨v,X,0,0,e,h1,h2,by simp [Md.nd] at this;omega,rfl,fun σ r σ' h=>by obtain ⟨_,⟨cc,h5,h6⟩,h7⟩:=h;exact ⟨cc,h5,h6,h7⟩⟩
 rw [hpz] at hP
 obtain ⟨c1,hT1,hTr⟩:=SC hv hXo
 have hAt:=XZ c p p c
 have eAt : (if (c : Int)=0 then ((c : Int) == 0) else ((c : Int) == c && (p : Int) == p))=true:=by split<;>simp_all
 rw [eAt] at hAt
 obtain ⟨x1,x2,x3⟩:=hT1.cells
 have x4 : c1.take 5=c1:=List.take_of_length_le (by omega)
 have d1 : X0.cells.length=11:=rfl
 have d2 : X0.cells.all VV.aF=true:=hXo.cell
 have d3 : X0.cells.take 11=X0.cells:=rfl
 have fc:=kE c p
 have fu:=eH fc
 have fc2:=cellC fc
 simp only [go_sem,seval] at fc
 simp only [go_sem,seval] at fu
 simp only [go_sem,seval] at fc2
 simp only [Vl.vv] at hP hTr
 simp only [go_sem,seval,c10]
 refine ah (hL) ?_<;>simp only [go_sem,seval,Bool.not_true,Bool.not_false,b]
 refine ah (hP) ?_<;>simp only [go_sem,seval,d1,d2,d3,fc,fu,fc2,SS]
 refine CV.mono (Ns f s a R ha (by omega) hrd _) ?_
 intro r τ h
 obtain ⟨cc,hT2,rfl,hch⟩:=hPr _ _ _ h
 obtain ⟨y1,y2,y3⟩:=hT2.cells
 have y4 : cc.take 5=cc:=List.take_of_length_le (by omega)
 have hS:=EW v0 c1 cc hT1 hT2 hnd
 have t5:=hch.get (k:=1) (o:=.own X0.cells) (by simp) id
 have l5:=(List.getElem?_eq_some_iff.1 t5).1
 have t5' : ∀ υ,(τ++υ)[1]?=some (.own X0.cells):=fun υ=>by rw [List.getElem?_append_left l5];exact t5
 simp only [go_sem,seval,aO,t5',y1,y3,y4,d1,d2,d3,fc,fu,fc2,SS]
 refine aC (hTr) (by simp only [go_sem,seval,t5',x1,x3,x4,y1,y3,y4,d1,d2,d3,SS]) ?_<;>simp only [go_sem,seval,t5',x1,x3,x4,y1,y3,y4,d1,d2,d3,SS]
 refine aC (hS) (by simp only [go_sem,seval,t5',fc,fu,fc2,beq_self_eq_true,SS]) ?_<;>simp only [go_sem,seval,t5',fc,fu,fc2,beq_self_eq_true,SS]
 refine aC (hAt) (by simp only [go_sem,seval,SS]) ?_<;>simp only [go_sem,seval,SS]
 exact fin (by rfl) rfl
end Go.V
