/- Texts F136. -/
import Derived.Test.YtgmhpemjlbgfcaaGreatDoorG38
import Derived.Test.YtgmhpemjlbgfcaaGreatDoorG40
import Derived.Test.YtgmhpemjlbgfcaaGreatDoorG41
import Derived.Test.YtgmhpemjlbgfcaaGreatDoorG45
set_option linter.unusedVariables false
set_option linter.unusedSimpArgs false
namespace Go.V
open Go.Proofs
set_option maxRecDepth 100000
theorem I7 : ∀ (r : List Sg) (v w : T),v.walk r=some w→w.nd≤v.nd
 | [],v,w,h=>by cases h;exact Nat.le_refl _
 | s::r,v,w,h=>by
  unfold T.walk at h
  split at h
  ·cases h
  ·rename_i u hu
   have h1:=Jv hu
   have h2:=I7 r u w h
   omega
theorem JQ (x y : Operand) (a b : Bool) (σ : Store) : lV Tryz.prog .eql 4 x y (.bool a) (.bool b) σ=okV (.bool (a == b)) σ:=by
 simp [lV,VV.tZ,VV.gK,VV.isAgg,Ci,QT,okV]
theorem JW {v : T} {X : Vl} {c : List VV} (hX : oL v X) (hXo : X.ok) (hT : kV v.tree c) (hn : v.nd≤400) (path : List Sg) (pw : VV) (hp : dG 5 pw (path.map Sg.cells)) (hl : path.length≤60) (ht : ∀ s ∈ path,s.t.length≤400) (hi : ∀ s ∈ path,s.in) :
  ∃ (w : T) (Y : Vl) (D : List VV) (b : Bool),oL w Y∧Y.ok∧kV w.tree D∧w.nd≤400∧PV Tryz.prog G0 18 [X.vv,pw] (.tup [Y.vv,.bool b])∧PV Tryz.prog G0 19 [.agg c,pw] (.tup [.agg D,.bool b]):=by
 obtain ⟨o,h1,h2⟩:=TB path hX hXo fun s h=>by have:=ht s h;omega
 obtain ⟨o',g1,g2⟩:=Ob path hT (by omega)
 have hP:=Wi hXo path pw hp (by omega) hi h1
 have hPt:=Uf path pw hp (by omega) hi g1
 cases hw : v.walk path with
 | none =>
  rw [hw] at h2 g2
  simp only at h2 g2
  subst h2 g2
  exact ⟨.sc 0 0 [],Vl.zero,zt,false,.sc 0 0 [] rfl (by simp) (by decide),N9 0 0 [],by simp only [T.tree];exact .node .nil .nil .nil (by simp) (by simp) (by decide) (by decide) (by decide) (by decide),by simp [T.nd],hP,hPt⟩
 | some w =>
  rw [hw] at h2 g2
  obtain ⟨y,rfl,hy,hyo⟩:=h2
  obtain ⟨d,rfl,hd⟩:=g2
  exact ⟨w,y,d,true,hy,hyo,hd,by have:=I7 path v w hw;omega,hP,hPt⟩
theorem Rq (s1 b1 : Int) {x : Tr} {c : List VV} (hx : kV x c) (hOx : jk x) (path : List Sg) (pw : VV) (hp : dG 5 pw (path.map Sg.cells)) (hl : path.length≤9223372036854775807) (hi : ∀ s ∈ path,s.in) :
  PV Tryz.prog G0 5 [.agg [.int .u64 s1,.int .i64 b1],.agg c,pw] (.bool true):=by
 have hL:=UY
 obtain ⟨x1,x2,x3⟩:=hx.cells
 have x4 : c.take 5=c:=List.take_of_length_le (by omega)
 have hSh:=Qu path pw hp hl
 have hpp:=hp.pure
 have hpc:=hp.cell
 simp only [go_sem,seval] at hpc
 refine pv e5 (by simp) (by simp only [VV.ak,VV.isPure,x2,hpp];rfl) rfl ?_
 have hRt:=Sr hx hOx true
 cases hr : x.right with
 | false =>
  rw [hr] at hRt
  simp only [go_sem,seval,c5,x1,x3,x4,hpc]
  (first | refine ah (hL) ?_ | refine aK (hL) ?_ | refine aI (hL) ?_ | refine aj (hL) (by simp only [go_sem,seval,Bool.not_true,Bool.not_false,x1,x3,x4,hpc]) ?_ | refine aj (hL) ?_ ?_)<;>simp only [go_sem,seval,Bool.not_true,Bool.not_false,x1,x3,x4,hpc]
  (first | refine ah (hRt) ?_ | refine aK (hRt) ?_ | refine aI (hRt) ?_ | refine aj (hRt) (by simp only [go_sem,seval,Bool.not_true,Bool.not_false]) ?_ | refine aj (hRt) ?_ ?_)<;>simp only [go_sem,seval,Bool.not_true,Bool.not_false]
  (first | refine ah (hL) ?_ | refine aK (hL) ?_ | refine aI (hL) ?_ | refine aj (hL) (by simp only [go_sem,seval]) ?_ | refine aj (hL) ?_ ?_)<;>simp only [go_sem,seval]
  exact fin (by rfl) rfl
 | true =>
 rw [hr] at hRt
 cases hsh : yV path with
 | false =>
  rw [hsh] at hSh
  simp only [go_sem,seval,c5,x1,x3,x4,hpc]
  (first | refine ah (hL) ?_ | refine aK (hL) ?_ | refine aI (hL) ?_ | refine aj (hL) (by simp only [go_sem,seval,Bool.not_true,Bool.not_false,x1,x3,x4,hpc]) ?_ | refine aj (hL) ?_ ?_)<;>simp only [go_sem,seval,Bool.not_true,Bool.not_false,x1,x3,x4,hpc]
  (first | refine ah (hRt) ?_ | refine aK (hRt) ?_ | refine aI (hRt) ?_ | refine aj (hRt) (by simp only [go_sem,seval,Bool.not_true,Bool.not_false,hpc]) ?_ | refine aj (hRt) ?_ ?_)<;>simp only [go_sem,seval,Bool.not_true,Bool.not_false,hpc]
  (first | refine ah (hSh) ?_ | refine aK (hSh) ?_ | refine aI (hSh) ?_ | refine aj (hSh) (by simp only [go_sem,seval,Bool.not_true,Bool.not_false]) ?_ | refine aj (hSh) ?_ ?_)<;>simp only [go_sem,seval,Bool.not_true,Bool.not_false]
  (first | refine ah (hL) ?_ | refine aK (hL) ?_ | refine aI (hL) ?_ | refine aj (hL) (by simp only [go_sem,seval]) ?_ | refine aj (hL) ?_ ?_)<;>simp only [go_sem,seval]
  exact fin (by rfl) rfl
 | true =>
 rw [hsh] at hSh
 unfold Tr.right at hr
 rw [Bool.and_eq_true] at hr
 have hs4:=D9 hr.1
 have e1 : FD (x.mk 1 0)=0:=by simpa using hr.2
 have hTx:=Tr.CO hs4
 obtain ⟨v,hmv,hvw,hvn,hvk,hve⟩:=VK hOx hs4 e1
 obtain ⟨c',hT,hCan⟩:=Oj x c hx hOx (hTx.mono (by decide)) 1 0 _ _ hmv
 unfold yV at hsh
 rw [Bool.and_eq_true,List.all_eq_true] at hsh
 have hpl : path.length≤60:=by simpa using hsh.2
 have hpt : ∀ s ∈ path,s.t.length≤400:=fun s hs=>by simpa using hsh.1 s hs
 refine eU (M:=fun ρ τ=>ρ.get 2=pw∧ρ.get 3=.mptr 0 0∧ρ.get 4=.mptr 1 0∧τ=[.own [.int .u64 s1,.int .i64 b1],.own c]) ?_ ?_
 ·simp only [go_sem,seval,x1,x3,x4,hpc]
 rintro ρ _ ⟨q2,q3,q4,rfl⟩
 refine eU (M:=fun ρ τ=>ρ.get 2=pw∧ρ.get 3=.mptr 0 0∧ρ.get 4=.mptr 1 0∧τ[0]?=some (.own [.int .u64 s1,.int .i64 b1])∧τ[1]?=some (.own c)) ?_ ?_
 ·simp only [go_sem,seval,q2,q3,q4]
  (first | refine ah (hL) ?_ | refine aK (hL) ?_ | refine aI (hL) ?_ | refine aj (hL) (by simp only [go_sem,seval,Bool.not_true,Bool.not_false,q2,q3,q4,x1,x3,x4,hpc]) ?_ | refine aj (hL) ?_ ?_)<;>simp only [go_sem,seval,Bool.not_true,Bool.not_false,q2,q3,q4,x1,x3,x4,hpc]
  (first | refine ah (hRt) ?_ | refine aK (hRt) ?_ | refine aI (hRt) ?_ | refine aj (hRt) (by simp only [go_sem,seval,Bool.not_true,Bool.not_false,q2,q3,q4,hpc]) ?_ | refine aj (hRt) ?_ ?_)<;>simp only [go_sem,seval,Bool.not_true,Bool.not_false,q2,q3,q4,hpc]
  (first | refine ah (hSh) ?_ | refine aK (hSh) ?_ | refine aI (hSh) ?_ | refine aj (hSh) (by simp only [go_sem,seval,Bool.not_true,Bool.not_false,q2,q3,q4]) ?_ | refine aj (hSh) ?_ ?_)<;>simp only [go_sem,seval,Bool.not_true,Bool.not_false,q2,q3,q4]
 rintro ρ τ ⟨q2,q3,q4,t0,t1⟩
 have l1:=(List.getElem?_eq_some_iff.1 t1).1
 refine eU (M:=fun ρ τ=>∃ (w : T) (Y : Vl) (D : List VV) (b : Bool) (k : Nat),oL w Y∧Y.ok∧kV w.tree D∧w.nd≤400∧PV Tryz.prog G0 19 [.agg c',pw] (.tup [.agg D,.bool b])∧ρ.get 2=pw∧ρ.get 4=.mptr 1 0∧ρ.get 7=.mptr k 0∧ρ.get 8=.bool b∧τ[1]?=some (.own c)∧τ[k]?=some (.own Y.cells)) ?_ ?_
 ·simp only [go_sem,seval,q2,q3,q4,t0,t1,x1,x3,x4,hpc]
  refine CV.mono (QM hx hOx hTx s1 b1 hmv _) ?_
  rintro r σ' ⟨X,hvX,hXo,rfl,hch⟩
  obtain ⟨w,Y,D,b,hwY,hYo,hwD,hwn,hPA,hPt⟩:=JW hvX hXo hT hvn path pw hp hpl hpt hi
  have d1 : X.cells.length=11:=rfl
  have d2 : X.cells.all VV.aC=true:=hXo.cell
  have d3 : X.cells.take 11=X.cells:=rfl
  have f1 : Y.cells.length=11:=rfl
  have f2 : Y.cells.all VV.aC=true:=hYo.cell
  have f3 : Y.cells.take 11=Y.cells:=rfl
  have hl:=hch.len
  simp only [Vl.vv] at hPA
  simp only [go_sem,seval,gZ,Vl.vv,q2,q4,d1,d2,d3,hpc,SS]
  (first | refine ah (hPA) ?_ | refine aK (hPA) ?_ | refine aI (hPA) ?_ | refine aj (hPA) (by simp only [go_sem,seval,q2,q4,f1,f2,f3,hpc,SS]) ?_ | refine aj (hPA) ?_ ?_)<;>simp only [go_sem,seval,q2,q4,f1,f2,f3,hpc,SS]
  exact ⟨w,Y,D,b,σ'.length,hwY,hYo,hwD,hwn,hPt,rfl,rfl,by rw [List.getElem?_append_left (by omega),hch.same _ l1 id];exact t1,by simp⟩
 rintro ρ τ ⟨w,Y,D,b,k,hwY,hYo,hwD,hwn,hPt,q2,q4,q7,q8,t1,tk⟩
 have hkl:=(List.getElem?_eq_some_iff.1 tk).1
 obtain ⟨y1,y2,y3⟩:=hT.cells
 have y4 : c'.take 5=c':=List.take_of_length_le (by omega)
 obtain ⟨z1,z2,z3⟩:=hwD.cells
 have z4 : D.take 5=D:=List.take_of_length_le (by omega)
 refine eU (M:=fun ρ τ=>∃ k' : Nat,ρ.get 7=.mptr k 0∧ρ.get 8=.bool b∧ρ.get 9=.mptr k' 0∧ρ.get 10=.bool b∧τ[k]?=some (.own Y.cells)∧τ[k']?=some (.own D)) ?_ ?_
 ·simp only [go_sem,seval,q2,q4,q7,q8,t1,x1,x3,x4,hpc]
  (first | refine ah (hCan) ?_ | refine aK (hCan) ?_ | refine aI (hCan) ?_ | refine aj (hCan) (by simp only [go_sem,seval,q2,q4,q7,q8,t1,y1,y3,y4,hpc]) ?_ | refine aj (hCan) ?_ ?_)<;>simp only [go_sem,seval,q2,q4,q7,q8,t1,y1,y3,y4,hpc]
  (first | refine ah (hPt) ?_ | refine aK (hPt) ?_ | refine aI (hPt) ?_ | refine aj (hPt) (by simp only [go_sem,seval,q2,q4,q7,q8,z1,z3,z4,hpc,SS]) ?_ | refine aj (hPt) ?_ ?_)<;>simp only [go_sem,seval,q2,q4,q7,q8,z1,z3,z4,hpc,SS]
  exact ⟨τ.length,rfl,by rw [List.getElem?_append_left hkl];exact tk,by simp⟩
 rintro ρ τ ⟨k',q7,q8,q9,q10,tk,tk'⟩
 obtain ⟨cY,hcY,hTY⟩:=Uk hwY hYo
 have hSS:=Ij w cY D hcY hwD (by omega)
 have f1 : Y.cells.length=11:=rfl
 have f2 : Y.cells.all VV.aC=true:=hYo.cell
 have f3 : Y.cells.take 11=Y.cells:=rfl
 obtain ⟨w1,w2,w3⟩:=hcY.cells
 have w4 : cY.take 5=cY:=List.take_of_length_le (by omega)
 simp only [Vl.vv] at hTY
 refine eU (M:=fun ρ τ=>ρ.get 6=.bool true) ?_ ?_
 ·simp only [go_sem,seval,q7,q8,q9,q10,tk,tk',f1,f2,f3,z1,z3,z4,JQ,beq_self_eq_true]
  (first | refine ah (hTY) ?_ | refine aK (hTY) ?_ | refine aI (hTY) ?_ | refine aj (hTY) (by simp only [go_sem,seval,q7,q8,q9,q10,tk,tk',f1,f2,f3,z1,z3,z4]) ?_ | refine aj (hTY) ?_ ?_)<;>simp only [go_sem,seval,q7,q8,q9,q10,tk,tk',f1,f2,f3,z1,z3,z4]
  (first | refine ah (hSS) ?_ | refine aK (hSS) ?_ | refine aI (hSS) ?_ | refine aj (hSS) (by simp only [go_sem,seval]) ?_ | refine aj (hSS) ?_ ?_)<;>simp only [go_sem,seval]
 rintro ρ τ h6
 simp only [go_sem,seval,h6]
 exact fin (by rfl) rfl
end Go.V
