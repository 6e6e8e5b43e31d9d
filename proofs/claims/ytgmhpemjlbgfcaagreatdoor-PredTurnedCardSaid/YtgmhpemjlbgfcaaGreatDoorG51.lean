/- Texts L32 F156 F157. -/
import Derived.Test.YtgmhpemjlbgfcaaGreatDoorG39
import Derived.Test.YtgmhpemjlbgfcaaGreatDoorG49
set_option linter.unusedVariables false
set_option linter.unusedSimpArgs false
namespace Go.V
theorem cu (a b : Int) : DI b a=-DI a b:=by
 rcases Fe a b with ⟨h,h1⟩ | ⟨h,h1⟩ | ⟨h,h1⟩<;>rcases Fe b a with ⟨g,g1⟩ | ⟨g,g1⟩ | ⟨g,g1⟩<;>omega
theorem YW (a b : Bs) : tH b a=-tH a b:=by
 rcases Yp a b with ⟨h,h1⟩ | ⟨h,h1⟩ | ⟨h,h1⟩<;>rcases Yp b a with ⟨g,g1⟩ | ⟨g,g1⟩ | ⟨g,g1⟩<;>first
  | omega
  | (exfalso;have:=Eb h1;rw [g1] at this;cases this)
  | (exfalso;rw [g1] at h1;rw [jA] at h1;cases h1)
  | (exfalso;rw [h1] at g1;rw [jA] at g1;cases g1)
theorem Zp (k i : Int) (t : Bs) (k' i' : Int) (t' : Bs) : Ve k' i' t' k i t=-Ve k i t k' i' t':=by
 unfold Ve
 rw [cu k k',cu i i',YW t t']
 split<;>split<;>first
  | rfl
  | omega
  | (split<;>split<;>first | rfl | omega)
mutual
theorem T.um : ∀ v w : T,w.ord v=-v.ord w
 | .sc k i t,.sc k' i' t'=>by simp only [T.ord];exact Zp _ _ _ _ _ _
 | .vec l,.vec m=>by simp only [T.ord];exact T.BN l m
 | .map l,.map m=>by simp only [T.ord];exact T.YT l m
 | .set l,.set m=>by simp only [T.ord];exact T.BN l m
 | .sc _ _ _,.vec _=>by simp only [T.ord];exact cu _ _
 | .sc _ _ _,.map _=>by simp only [T.ord];exact cu _ _
 | .sc _ _ _,.set _=>by simp only [T.ord];exact cu _ _
 | .vec _,.sc _ _ _=>by simp only [T.ord];exact cu _ _
 | .vec _,.map _=>by simp only [T.ord];exact cu _ _
 | .vec _,.set _=>by simp only [T.ord];exact cu _ _
 | .map _,.sc _ _ _=>by simp only [T.ord];exact cu _ _
 | .map _,.vec _=>by simp only [T.ord];exact cu _ _
 | .map _,.set _=>by simp only [T.ord];exact cu _ _
 | .set _,.sc _ _ _=>by simp only [T.ord];exact cu _ _
 | .set _,.vec _=>by simp only [T.ord];exact cu _ _
 | .set _,.map _=>by simp only [T.ord];exact cu _ _
theorem T.BN : ∀ l m : List T,T.Zt m l=-T.Zt l m
 | [],[]=>by simp only [T.Zt,Int.neg_zero]
 | [],_::_=>by simp [T.Zt]
 | _::_,[]=>by simp [T.Zt]
 | x::l,y::m=>by
  simp only [T.Zt]
  rw [T.um x y,T.BN l m]
  split<;>split<;>omega
theorem T.YT : ∀ l m : List (Bs × T),T.ZB m l=-T.ZB l m
 | [],[]=>by simp only [T.ZB,Int.neg_zero]
 | [],_::_=>by simp [T.ZB]
 | _::_,[]=>by simp [T.ZB]
 | p::l,q::m=>by
  simp only [T.ZB]
  rw [T.um p.2 q.2,T.YT l m,YW p.1 q.1]
  split<;>split<;>first
   | omega
   | (split<;>split<;>omega)
end
end Go.V
namespace Go.V
open Go.Proofs
set_option maxRecDepth 100000
def Y8 (op : Int) : Am:=⟨5,[],op,0,0,[]⟩
theorem ZO {op : Int} (h : 0≤op∧op≤5) : (Y8 op).right=true:=by
 unfold Am.right Am.extra Am.ZR Am.noC Y8
 simp [qm,NQ,h.1,h.2]
theorem Zf {x y : Am} (hx : x.k≤3) (hy : y.k≤3) {op : Int} (h : 0≤op∧op≤5) : Ij [x,y,Y8 op]↔x.right=true∧y.right=true:=by
 unfold Ij
 have d : ∀ {a : Am} (st : List Bool),a.k≤3→CW st a.k=some (st++[false]):=fun st h=>by
  unfold CW
  rw [if_neg (by omega),if_neg (by omega),if_neg (by omega)]
  congr 3
  rw [decide_eq_false_iff_not];omega
 simp only [Zj,d _ hx,d _ hy,ZO h,if_true]
 have e : CW [false,false] (Y8 op).k=some [true]:=rfl
 simp only [List.nil_append,List.cons_append,e]
 constructor
 ·intro h
  split at h
  ·rename_i h1
   split at h
   ·rename_i h2;exact ⟨h1,h2⟩
   ·cases h
  ·cases h
 ·intro h;rw [if_pos h.1,if_pos h.2]
theorem two_holds {x y : Am} (hx : x.k≤3) (hy : y.k≤3) (op : Int) (v : T) : holdsA [x,y,Y8 op] v=Y7 op (singleR x v) (singleR y v):=by
 refine Yu (i:=tr (Y7 op (singleR x v) (singleR y v))) (r:=[]) ?_
 simp only [Zy]
 have e : ∀ {a : Am} (st : List Jv),a.k≤3→Zh v st a=singleR a v::st:=fun st h=>by
  unfold Zh
  rw [if_neg (by omega),if_neg (by omega),if_neg (by omega),if_neg (by omega)]
 rw [e _ hx,e _ hy]
 unfold Zh
 rw [if_pos (show (Y8 op).k=5 from rfl)];rfl
theorem ZK (i j : Jv) : j.same i=i.same j:=by
 unfold Jv.same
 rw [T.um i.t j.t]
 have : (-i.t.ord j.t == 0)=(i.t.ord j.t == 0):=by rw [Bool.eq_iff_iff];simp
 rw [this]
 cases i.there<;>cases j.there<;>rfl
theorem ZE (i j : Jv) : j.ahead i=-i.ahead j:=by
 unfold Jv.ahead
 rw [T.um i.t j.t]
 have : (j.there && i.there && (j.t.kq == i.t.kq))=(i.there && j.there && (i.t.kq == j.t.kq)):=by
  rw [Bool.eq_iff_iff];simp only [Bool.and_eq_true,beq_iff_eq];constructor
  ·rintro ⟨⟨a,b⟩,c⟩;exact ⟨⟨b,a⟩,c.symm⟩
  ·rintro ⟨⟨a,b⟩,c⟩;exact ⟨⟨b,a⟩,c.symm⟩
 rw [this]
 split<;>omega
theorem Xr {i j : Jv} (h : i.ahead j≠0) : i.same j=false:=by
 unfold Jv.ahead at h
 split at h
 ·rename_i h1
  simp only [Bool.and_eq_true] at h1
  unfold Jv.same
  rw [h1.1.1,h1.1.2]
  simpa using h
 ·exact absurd rfl h
theorem Zv {i j : Jv} (h : i.same j=true) : i.there=j.there:=by
 unfold Jv.same at h
 simp only [Bool.and_eq_true,beq_iff_eq] at h
 exact h.1
theorem turned (i j : Jv) : (Y7 0 i j == Y7 1 i j)=false∧(Y7 0 i j != Y7 0 j i)=false∧(Y7 2 i j != Y7 4 j i)=false∧(Y7 3 i j != Y7 5 j i)=false ∧
  (Y7 2 i j && (Y7 0 i j || Y7 4 i j || !Y7 3 i j))=false∧((Y7 3 i j && Y7 5 i j) == (Y7 0 i j && Y7 3 i j))=true:=by
 simp only [Y7,ZK i j,ZE i j]
 simp only [show ((1 : Int)=0)=False by simp,show ((2 : Int)=0)=False by simp,show ((2 : Int)=1)=False by simp,show ((3 : Int)=0)=False by simp,show ((3 : Int)=1)=False by simp,show ((3 : Int)=2)=False by simp,show ((4 : Int)=0)=False by simp,show ((4 : Int)=1)=False by simp,show ((4 : Int)=2)=False by simp,show ((4 : Int)=3)=False by simp,show ((5 : Int)=0)=False by simp,show ((5 : Int)=1)=False by simp,show ((5 : Int)=2)=False by simp,show ((5 : Int)=3)=False by simp,show ((5 : Int)=4)=False by simp,if_true,if_false]
 have e1 : decide (0 < -i.ahead j)=decide (i.ahead j < 0):=by rw [decide_eq_decide];omega
 rw [e1]
 rcases Int.lt_trichotomy (i.ahead j) 0 with h | h | h
 ·have hs:=Xr (i:=i) (j:=j) (by omega)
  rw [hs,decide_eq_true h,decide_eq_false (by omega : ¬ 0 < i.ahead j)]
  simp
 ·rw [decide_eq_false (by omega : ¬ i.ahead j < 0),decide_eq_false (by omega : ¬ 0 < i.ahead j)]
  cases hs : i.same j with
  | false=>simp
  | true=>rw [Zv hs];cases j.there<;>simp
 ·have hs:=Xr (i:=i) (j:=j) (by omega)
  rw [hs,decide_eq_true h,decide_eq_false (by omega : ¬ i.ahead j < 0)]
  simp
end Go.V
namespace Go.V
open Go.Proofs
set_option maxRecDepth 100000
theorem ZW (x y : Operand) (a b : Bool) (σ : Store) : lV Tryz.prog .neq 4 x y (.bool a) (.bool b) σ=okV (.bool (a != b)) σ:=by
 cases a<;>cases b<;>simp [lV,VV.tZ,VV.gK,VV.isAgg,Ci,QT,okV]
theorem Z4 {x y : Am} {cx cy : List VV} (hx : ZI x cx) (hy : ZI y cy) : FV [x,y] (.sl 2 (cx++cy) true)∧∀ op : Int,FV [x,y,Y8 op] (.sl 3 (cx++(cy++[.int .i64 5,.nils,.int .i64 op,.int .i64 0,.int .i64 0,.str []])) true):=by
 have h2:=(YX.one hx).app (.one hy)
 have hB:=hx.blk.append hy.blk
 refine ⟨⟨[cx,cy],dG.of hB rfl (by simp),h2⟩,fun op=>?_⟩
 have hc : ZI (Y8 op) [.int .i64 5,.nils,.int .i64 op,.int .i64 0,.int .i64 0,.str []]:=.mk .nil (by simp [Y8]) (fun s h=>by simp [Y8] at h) (by simp [Y8])
 exact ⟨[cx,cy,_],dG.of (hB.append hc.blk) rfl (by simp),h2.app (.one hc)⟩
theorem ckF {l : List Am} {lv : VV} (h : FV l lv) (hl : l.length≤64) : PV Tryz.prog G0 13 [lv] (zD (WA l).1 (WA l).2):=by
 obtain ⟨cs,h1,h2⟩:=h
 exact aaC l lv cs h1 h2 (by omega)
theorem tk6 {Y : List VV} (h : Y.length=6) (w : List VV) : (Y++w).take 6=Y:=by rw [List.take_append_of_le_length (by omega),List.take_of_length_le (by omega)]
theorem aaf {Y : List VV} (h : Y.length=6) (w : List VV) : (Y++w).drop 12=w.drop 6:=by rw [List.drop_append,List.drop_eq_nil_of_le (by omega),List.nil_append,h]
theorem aat {Y Z : List VV} (h : Y.length=6) (h' : Z.length=6) (w : List VV) : (Y++(Z++w)).take 12=Y++Z:=by
 rw [← List.append_assoc,List.take_append_of_le_length (by simp;omega),List.take_of_length_le (by simp;omega)]
theorem aaj {Y Z : List VV} (h : Y.length=6) (h' : Z.length=6) (w : List VV) : (Y++(Z++w)).drop 18=w.drop 6:=by
 rw [← List.append_assoc,List.drop_append,List.drop_eq_nil_of_le (by simp;omega),List.nil_append,List.length_append,h,h']
theorem ZX (s1 b1 : Int) {x : Tr} {c : List VV} (hx : kV x c) (hOx : jk x) (y z : Am) (py pz : VV) (hy : ZI y (y.cells py)) (hz : ZI z (z.cells pz)) :
  PV Tryz.prog G0 4 [.agg [.int .u64 s1,.int .i64 b1],.agg (y.cells py),.agg (z.cells pz),.agg c] (.bool true):=by
 have hL:=UY
 obtain ⟨x1,x2,x3⟩:=hx.cells
 have x4 : c.take 5=c:=List.take_of_length_le (by omega)
 obtain ⟨y1,y2,y3⟩:=hy.cells
 obtain ⟨z1,z2,z3⟩:=hz.cells
 obtain ⟨FS,FA⟩:=Z4 hy hz
 obtain ⟨-,FB⟩:=Z4 hz hy
 obtain ⟨cs2,hs2,hv2⟩:=id FS
 have hSh:=Zx [y,z] _ cs2 hs2 hv2 (by simp)
 have hRt:=Sr hx hOx true
 have ypc : py.aC=true:=by
  have:=y3
  simp only [Am.cells,List.all_cons,Bool.and_eq_true] at this
  exact this.2.1
 have zpc : pz.aC=true:=by
  have:=z3
  simp only [Am.cells,List.all_cons,Bool.and_eq_true] at this
  exact this.2.1
 simp only [go_sem,seval] at ypc zpc
 have yk : (y.cells py).getD 0 .undef=.int .i64 y.k:=rfl
 have zk : (z.cells pz).getD 0 .undef=.int .i64 z.k:=rfl
 have y4 : (y.cells py).take 6=y.cells py:=List.take_of_length_le (by omega)
 have z4 : (z.cells pz).take 6=z.cells pz:=List.take_of_length_le (by omega)
 refine pv e4 (by simp) (by simp only [VV.ak,VV.isPure,x2,y2,z2];rfl) rfl ?_
 refine eU (M:=fun ρ τ=>ρ.get 4=.mptr 0 0∧ρ.get 5=.mptr 1 0∧ρ.get 6=.mptr 2 0∧ρ.get 7=.mptr 3 0∧τ=[.own [.int .u64 s1,.int .i64 b1],.own (y.cells py),.own (z.cells pz),.own c]) ?_ ?_
 ·simp only [go_sem,seval,c4,x1,x3,x4,y1,y3,y4,z1,z3,z4,SS]
 rintro ρ _ ⟨q4,q5,q6,q7,rfl⟩
 have g1:=tk6 y1
 have g2:=tk6 z1
 have g3:=aaf y1
 have g4:=aaf z1
 have g5:=aat y1 z1
 have g6:=aat z1 y1
 have g7:=aaj y1 z1
 have g8:=aaj z1 y1
 cases rs : Rq [y,z] with
 | false =>
  rw [rs] at hSh
  simp only [go_sem,seval,q4,q5,q6,q7]
  (first | refine ah (hL) ?_ | refine aK (hL) ?_ | refine aI (hL) ?_ | refine aj (hL) (by simp only [go_sem,seval,Bool.not_true,Bool.not_false,q4,q5,q6,q7,y1,y3,y4,z1,z3,z4,yk,zk,g1,g2,g3,g4,List.length_append,List.append_nil,Nat.reduceAdd,Nat.reduceLT]) ?_ | refine aj (hL) ?_ ?_)<;>simp only [go_sem,seval,Bool.not_true,Bool.not_false,q4,q5,q6,q7,y1,y3,y4,z1,z3,z4,yk,zk,g1,g2,g3,g4,List.length_append,List.append_nil,Nat.reduceAdd,Nat.reduceLT]
  (first | refine ah (hSh) ?_ | refine aK (hSh) ?_ | refine aI (hSh) ?_ | refine aj (hSh) (by simp only [go_sem,seval,Bool.not_true,Bool.not_false,q4,q5,q6,q7,y1,y3,y4,z1,z3,z4,yk,zk,g1,g2,g3,g4,List.length_append,List.append_nil,Nat.reduceAdd,Nat.reduceLT]) ?_ | refine aj (hSh) ?_ ?_)<;>simp only [go_sem,seval,Bool.not_true,Bool.not_false,q4,q5,q6,q7,y1,y3,y4,z1,z3,z4,yk,zk,g1,g2,g3,g4,List.length_append,List.append_nil,Nat.reduceAdd,Nat.reduceLT]
  (first | refine ah (hL) ?_ | refine aK (hL) ?_ | refine aI (hL) ?_ | refine aj (hL) (by simp only [go_sem,seval]) ?_ | refine aj (hL) ?_ ?_)<;>simp only [go_sem,seval]
  exact fin (by rfl) rfl
 | true =>
 rw [rs] at hSh
 obtain ⟨hBB,-⟩:=ZM rs
 by_cases ky : y.k≤3
 rotate_left
 ·have b1 : decide ((3 : Int) < y.k)=true:=decide_eq_true (by omega)
  simp only [go_sem,seval,q4,q5,q6,q7]
  (first | refine ah (hL) ?_ | refine aK (hL) ?_ | refine aI (hL) ?_ | refine aj (hL) (by simp only [go_sem,seval,Bool.not_true,Bool.not_false,q4,q5,q6,q7,y1,y3,y4,z1,z3,z4,yk,zk,g1,g2,g3,g4,List.length_append,List.append_nil,Nat.reduceAdd,Nat.reduceLT]) ?_ | refine aj (hL) ?_ ?_)<;>simp only [go_sem,seval,Bool.not_true,Bool.not_false,q4,q5,q6,q7,y1,y3,y4,z1,z3,z4,yk,zk,g1,g2,g3,g4,List.length_append,List.append_nil,Nat.reduceAdd,Nat.reduceLT]
  (first | refine ah (hSh) ?_ | refine aK (hSh) ?_ | refine aI (hSh) ?_ | refine aj (hSh) (by simp only [go_sem,seval,Bool.not_true,Bool.not_false,q4,q5,q6,q7,y1,y3,y4,z1,z3,z4,yk,zk,g1,g2,g3,g4,List.length_append,List.append_nil,Nat.reduceAdd,Nat.reduceLT,b1]) ?_ | refine aj (hSh) ?_ ?_)<;>simp only [go_sem,seval,Bool.not_true,Bool.not_false,q4,q5,q6,q7,y1,y3,y4,z1,z3,z4,yk,zk,g1,g2,g3,g4,List.length_append,List.append_nil,Nat.reduceAdd,Nat.reduceLT,b1]
  (first | refine ah (hL) ?_ | refine aK (hL) ?_ | refine aI (hL) ?_ | refine aj (hL) (by simp only [go_sem,seval]) ?_ | refine aj (hL) ?_ ?_)<;>simp only [go_sem,seval]
  exact fin (by rfl) rfl
 have by1 : decide ((3 : Int) < y.k)=false:=decide_eq_false (by omega)
 by_cases kz : z.k≤3
 rotate_left
 ·have b1 : decide ((3 : Int) < z.k)=true:=decide_eq_true (by omega)
  simp only [go_sem,seval,q4,q5,q6,q7]
  (first | refine ah (hL) ?_ | refine aK (hL) ?_ | refine aI (hL) ?_ | refine aj (hL) (by simp only [go_sem,seval,Bool.not_true,Bool.not_false,q4,q5,q6,q7,y1,y3,y4,z1,z3,z4,yk,zk,g1,g2,g3,g4,List.length_append,List.append_nil,Nat.reduceAdd,Nat.reduceLT]) ?_ | refine aj (hL) ?_ ?_)<;>simp only [go_sem,seval,Bool.not_true,Bool.not_false,q4,q5,q6,q7,y1,y3,y4,z1,z3,z4,yk,zk,g1,g2,g3,g4,List.length_append,List.append_nil,Nat.reduceAdd,Nat.reduceLT]
  (first | refine ah (hSh) ?_ | refine aK (hSh) ?_ | refine aI (hSh) ?_ | refine aj (hSh) (by simp only [go_sem,seval,Bool.not_true,Bool.not_false,q4,q5,q6,q7,y1,y3,y4,z1,z3,z4,yk,zk,g1,g2,g3,g4,List.length_append,List.append_nil,Nat.reduceAdd,Nat.reduceLT,by1,b1]) ?_ | refine aj (hSh) ?_ ?_)<;>simp only [go_sem,seval,Bool.not_true,Bool.not_false,q4,q5,q6,q7,y1,y3,y4,z1,z3,z4,yk,zk,g1,g2,g3,g4,List.length_append,List.append_nil,Nat.reduceAdd,Nat.reduceLT,by1,b1]
  (first | refine ah (hL) ?_ | refine aK (hL) ?_ | refine aI (hL) ?_ | refine aj (hL) (by simp only [go_sem,seval]) ?_ | refine aj (hL) ?_ ?_)<;>simp only [go_sem,seval]
  exact fin (by rfl) rfl
 have bz1 : decide ((3 : Int) < z.k)=false:=decide_eq_false (by omega)
 cases hr : x.right with
 | false =>
  rw [hr] at hRt
  simp only [go_sem,seval,q4,q5,q6,q7]
  (first | refine ah (hL) ?_ | refine aK (hL) ?_ | refine aI (hL) ?_ | refine aj (hL) (by simp only [go_sem,seval,Bool.not_true,Bool.not_false,q4,q5,q6,q7,y1,y3,y4,z1,z3,z4,yk,zk,g1,g2,g3,g4,List.length_append,List.append_nil,Nat.reduceAdd,Nat.reduceLT]) ?_ | refine aj (hL) ?_ ?_)<;>simp only [go_sem,seval,Bool.not_true,Bool.not_false,q4,q5,q6,q7,y1,y3,y4,z1,z3,z4,yk,zk,g1,g2,g3,g4,List.length_append,List.append_nil,Nat.reduceAdd,Nat.reduceLT]
  (first | refine ah (hSh) ?_ | refine aK (hSh) ?_ | refine aI (hSh) ?_ | refine aj (hSh) (by simp only [go_sem,seval,Bool.not_true,Bool.not_false,q4,q5,q6,q7,y1,y3,y4,z1,z3,z4,yk,zk,g1,g2,g3,g4,List.length_append,List.append_nil,Nat.reduceAdd,Nat.reduceLT,by1,bz1,x1,x3,x4]) ?_ | refine aj (hSh) ?_ ?_)<;>simp only [go_sem,seval,Bool.not_true,Bool.not_false,q4,q5,q6,q7,y1,y3,y4,z1,z3,z4,yk,zk,g1,g2,g3,g4,List.length_append,List.append_nil,Nat.reduceAdd,Nat.reduceLT,by1,bz1,x1,x3,x4]
  (first | refine ah (hRt) ?_ | refine aK (hRt) ?_ | refine aI (hRt) ?_ | refine aj (hRt) (by simp only [go_sem,seval,Bool.not_true,Bool.not_false]) ?_ | refine aj (hRt) ?_ ?_)<;>simp only [go_sem,seval,Bool.not_true,Bool.not_false]
  (first | refine ah (hL) ?_ | refine aK (hL) ?_ | refine aI (hL) ?_ | refine aj (hL) (by simp only [go_sem,seval]) ?_ | refine aj (hL) ?_ ?_)<;>simp only [go_sem,seval]
  exact fin (by rfl) rfl
 | true =>
 rw [hr] at hRt
 unfold Tr.right at hr
 rw [Bool.and_eq_true] at hr
 have hs4:=D9 hr.1
 have e1 : FD (x.mk 1 0)=0:=by simpa using hr.2
 have hTx:=Tr.CO hs4
 obtain ⟨v,hmv,hvw,hvn,hvk,hve⟩:=VK hOx hs4 e1
 refine eU (M:=fun ρ τ=>ρ.get 4=.mptr 0 0∧ρ.get 5=.mptr 1 0∧ρ.get 6=.mptr 2 0∧ρ.get 7=.mptr 3 0∧τ[0]?=some (.own [.int .u64 s1,.int .i64 b1])∧τ[1]?=some (.own (y.cells py))∧τ[2]?=some (.own (z.cells pz))∧τ[3]?=some (.own c)) ?_ ?_
 ·simp only [go_sem,seval,q4,q5,q6,q7]
  (first | refine ah (hL) ?_ | refine aK (hL) ?_ | refine aI (hL) ?_ | refine aj (hL) (by simp only [go_sem,seval,Bool.not_true,Bool.not_false,q4,q5,q6,q7,y1,y3,y4,z1,z3,z4,yk,zk,g1,g2,g3,g4,List.length_append,List.append_nil,Nat.reduceAdd,Nat.reduceLT]) ?_ | refine aj (hL) ?_ ?_)<;>simp only [go_sem,seval,Bool.not_true,Bool.not_false,q4,q5,q6,q7,y1,y3,y4,z1,z3,z4,yk,zk,g1,g2,g3,g4,List.length_append,List.append_nil,Nat.reduceAdd,Nat.reduceLT]
  (first | refine ah (hSh) ?_ | refine aK (hSh) ?_ | refine aI (hSh) ?_ | refine aj (hSh) (by simp only [go_sem,seval,Bool.not_true,Bool.not_false,q4,q5,q6,q7,y1,y3,y4,z1,z3,z4,yk,zk,g1,g2,g3,g4,List.length_append,List.append_nil,Nat.reduceAdd,Nat.reduceLT,by1,bz1,x1,x3,x4]) ?_ | refine aj (hSh) ?_ ?_)<;>simp only [go_sem,seval,Bool.not_true,Bool.not_false,q4,q5,q6,q7,y1,y3,y4,z1,z3,z4,yk,zk,g1,g2,g3,g4,List.length_append,List.append_nil,Nat.reduceAdd,Nat.reduceLT,by1,bz1,x1,x3,x4]
  (first | refine ah (hRt) ?_ | refine aK (hRt) ?_ | refine aI (hRt) ?_ | refine aj (hRt) (by simp only [go_sem,seval,Bool.not_true,Bool.not_false,q4,q5,q6,q7]) ?_ | refine aj (hRt) ?_ ?_)<;>simp only [go_sem,seval,Bool.not_true,Bool.not_false,q4,q5,q6,q7]
 rintro ρ τ ⟨q4,q5,q6,q7,t0,t1,t2,t3⟩
 have l3:=(List.getElem?_eq_some_iff.1 t3).1
 refine eU (M:=fun ρ τ=>∃ (X : Vl) (k : Nat),oL v X∧X.ok∧3 < k∧ρ.get 5=.mptr 1 0∧ρ.get 6=.mptr 2 0∧ρ.get 9=.mptr k 0∧τ[1]?=some (.own (y.cells py))∧τ[2]?=some (.own (z.cells pz))∧τ[k]?=some (.own X.cells)) ?_ ?_
 ·simp only [go_sem,seval,q4,q5,q6,q7,t0,t3,x1,x3,x4]
  refine CV.mono (QM hx hOx hTx s1 b1 hmv _) ?_
  rintro r σ' ⟨X,hvX,hXo,rfl,hch⟩
  have d1 : X.cells.length=11:=rfl
  have d2 : X.cells.all VV.aC=true:=hXo.cell
  have d3 : X.cells.take 11=X.cells:=rfl
  have hl:=hch.len
  simp only [go_sem,seval,gZ,Vl.vv,q5,q6,d1,d2,d3,SS]
  exact ⟨X,σ'.length,hvX,hXo,by omega,rfl,by rw [List.getElem?_append_left (by omega),hch.same _ (by omega) id];exact t1,by rw [List.getElem?_append_left (by omega),hch.same _ (by omega) id];exact t2,by simp⟩
 rintro ρ τ ⟨X,k,hvX,hXo,hk,q5,q6,q9,t1,t2,tk⟩
 have d1 : X.cells.length=11:=rfl
 have d2 : X.cells.all VV.aC=true:=hXo.cell
 have d3 : X.cells.take 11=X.cells:=rfl
 have lk:=(List.getElem?_eq_some_iff.1 tk).1
 obtain ⟨N,hN⟩ : ∃ N,N=τ.length:=⟨_,rfl⟩
 refine eU (M:=fun ρ τ=>ρ.get 5=.mptr 1 0∧ρ.get 6=.mptr 2 0∧ρ.get 9=.mptr k 0∧ρ.get 10=.mptr N 0∧ρ.get 11=.mptr (N+1) 0∧τ[1]?=some (.own (y.cells py))∧τ[2]?=some (.own (z.cells pz))∧τ[k]?=some (.own X.cells)∧τ[N]?=some (.own [.bool false,.bool false,.bool false,.bool false,.bool false,.bool false])∧τ[N+1]?=some (.own [.bool false,.bool false,.bool false,.bool false,.bool false,.bool false])) ?_ ?_
 ·simp only [go_sem,seval,q5,q6,q9,SS]
  refine ⟨by rw [hN],by rw [hN],by rw [List.getElem?_append_left (by omega)];exact t1,by rw [List.getElem?_append_left (by omega)];exact t2,by rw [List.getElem?_append_left (by omega)];exact tk,by rw [hN];simp,by rw [hN,List.getElem?_append_right (by omega)];simp⟩
 clear t1 t2 tk
 rintro ρ τ ⟨q5,q6,q9,q10,q11,t1,t2,tk,tA,tB⟩
 have hkN : k < N:=by omega
 clear hN lk l3
 refine eU (M:=fun ρ τ=>∃ (s0 s1 s2 s3 s4 s5 r0 r1 r2 r3 r4 r5 : Bool),(s0 == s1)=false∧(s0 != r0)=false∧(s2 != r4)=false∧(s3 != r5)=false∧(s2 && (s0 || s4 || !s3))=false∧((s3 && s5) == (s0 && s3))=true∧ρ.get 10=.mptr N 0∧ρ.get 11=.mptr (N+1) 0∧τ[N]?=some (.own [.bool s0,.bool s1,.bool s2,.bool s3,.bool s4,.bool s5])∧τ[N+1]?=some (.own [.bool r0,.bool r1,.bool r2,.bool r3,.bool r4,.bool r5])) ?_ ?_
 rotate_left
 ·rintro ρ τ ⟨s0,s1,s2,s3,s4,s5,r0,r1,r2,r3,r4,r5,e1,e2,e3,e4,e5,e6,q10,q11,tA,tB⟩
  refine eU (M:=fun ρ τ=>ρ.get 10=.mptr N 0∧τ[N]?=some (.own [.bool s0,.bool s1,.bool s2,.bool s3,.bool s4,.bool s5])) ?_ ?_
  ·simp only [go_sem,seval,q10,q11,tA,tB,JQ,ZW,e1,e2,e3,e4]
  clear tA tB q10 q11
  rintro ρ τ ⟨q10,tA⟩
  refine eU (M:=fun ρ τ=>ρ.get 10=.mptr N 0∧τ[N]?=some (.own [.bool s0,.bool s1,.bool s2,.bool s3,.bool s4,.bool s5])) ?_ ?_
  ·cases s2 with
   | false=>simp only [go_sem,seval,q10,tA]
   | true =>
    obtain ⟨rfl,rfl,rfl⟩ : s0=false∧s4=false∧s3=true:=by
     clear tA
     revert e5;cases s0<;>cases s4<;>cases s3<;>simp
    simp only [go_sem,seval,q10,tA,Bool.not_true]
  clear tA q10
  rintro ρ τ ⟨q10,tA⟩
  clear e1 e2 e3 e4 e5
  cases s3<;>cases s0<;>cases s5<;>first
   | (exfalso;revert e6;decide)
   | (simp only [go_sem,seval,q10,tA,JQ,beq_self_eq_true];exact fin (by rfl) rfl)
 by_cases hg : y.right=true∧z.right=true
 rotate_left
 ·have bad : ∀ {a b : Am} (op : Int),a.k≤3→b.k≤3→0≤op∧op≤5→¬ (a.right=true∧b.right=true)→(WA [a,b,Y8 op]).1≠0:=fun op ha hb ho hn he=>hn ((Zf ha hb ho).1 ((Zb _).1 he).2)
  have hCa:=ckF (FA 0) (by simp)
  have hCb:=ckF (FB 0) (by simp)
  rw [Ob _ (bad 0 ky kz (by decide) hg)] at hCa
  rw [Ob _ (bad 0 kz ky (by decide) fun h=>hg ⟨h.2,h.1⟩)] at hCb
  simp only [go_sem,seval,q5,q6,q9,q10,q11]
  refine bf (M:=fun _ _=>False) (fun _ _ h=>h.elim) ?_
  refine aF (fun m ρ τ'=>m=0∧τ'=τ∧ρ.get 5=.mptr 1 0∧ρ.get 6=.mptr 2 0∧ρ.get 46=.int .i64 0) (n:=0) ?_ ⟨rfl,rfl,by simp only [go_sem,seval,q5],by simp only [go_sem,seval,q6],rfl⟩
  rintro m ρ τ' ⟨rfl,rfl,q5,q6,q46⟩
  simp only [go_sem,seval,q5,q6,q46,t1,t2,y1,y3,y4,z1,z3,z4,g1,g2,g3,g4,g5,g6,g7,g8,List.length_append,List.append_assoc,List.append_nil,Nat.reduceAdd,Nat.reduceLT]
  (first | refine ah (hCa) ?_ | refine aK (hCa) ?_ | refine aI (hCa) ?_ | refine aj (hCa) (by simp only [go_sem,seval,q5,q6,q46,t1,t2]) ?_ | refine aj (hCa) ?_ ?_)<;>simp only [go_sem,seval,q5,q6,q46,t1,t2]
  (first | refine ah (hCb) ?_ | refine aK (hCb) ?_ | refine aI (hCb) ?_ | refine aj (hCb) (by simp only [go_sem,seval]) ?_ | refine aj (hCb) ?_ ?_)<;>simp only [go_sem,seval]
  exact fin (by rfl) rfl
 have good : ∀ {a b : Am} (op : Int),a.k≤3→b.k≤3→0≤op∧op≤5→(a.right=true∧b.right=true)→Ij [a,b,Y8 op]:=fun op ha hb ho hn=>(Zf ha hb ho).2 hn
 have BB : ∀ {a b : Am} (op : Int),Z5 a→Z5 b→∀ q ∈ [a,b,Y8 op],Z5 q:=fun op ha hb q hq=>by
  simp only [List.mem_cons,List.not_mem_nil,or_false] at hq
  rcases hq with rfl | rfl | rfl
  ·exact ha
  ·exact hb
  ·exact ⟨by simp [Y8],fun s h=>by simp [Y8] at h,by simp [Y8]⟩
 have By:=hBB y (by simp)
 have Bz:=hBB z (by simp)
 obtain ⟨f,hf⟩ : ∃ f : Int→Bool,f=fun op=>Y7 op (singleR y v) (singleR z v):=⟨_,rfl⟩
 obtain ⟨g,hgf⟩ : ∃ g : Int→Bool,g=fun op=>Y7 op (singleR z v) (singleR y v):=⟨_,rfl⟩
 have HA : ∀ op : Int,0≤op∧op≤5→PV Tryz.prog G0 15 [.sl 3 (y.cells py++(z.cells pz++[.int .i64 5,.nils,.int .i64 op,.int .i64 0,.int .i64 0,.str []])) true,X.vv] (.tup [.bool (f op),.nili]):=fun op ho=>by
  have:=IW hvX hXo (FA op) (BB op By Bz) (good op ky kz ho hg) (by simp)
  rw [two_holds ky kz] at this
  rw [hf];exact this
 have HB : ∀ op : Int,0≤op∧op≤5→PV Tryz.prog G0 15 [.sl 3 (z.cells pz++(y.cells py++[.int .i64 5,.nils,.int .i64 op,.int .i64 0,.int .i64 0,.str []])) true,X.vv] (.tup [.bool (g op),.nili]):=fun op ho=>by
  have:=IW hvX hXo (FB op) (BB op Bz By) (good op kz ky ho ⟨hg.2,hg.1⟩) (by simp)
  rw [two_holds kz ky] at this
  rw [hgf];exact this
 have CA : ∀ op : Int,0≤op∧op≤5→PV Tryz.prog G0 13 [.sl 3 (y.cells py++(z.cells pz++[.int .i64 5,.nils,.int .i64 op,.int .i64 0,.int .i64 0,.str []])) true] .nili:=fun op ho=>by
  have:=ckF (FA op) (by simp)
  rwa [show zD (WA [y,z,Y8 op]).1 (WA [y,z,Y8 op]).2=.nili by unfold zD;rw [if_pos ((Zb _).2 ⟨by simp,good op ky kz ho hg⟩)]] at this
 simp only [Vl.vv] at HA HB
 simp only [go_sem,seval,q5,q6,q9,q10,q11]
 refine bf (M:=fun ρ τ=>∃ (s0 s1 s2 s3 s4 s5 r0 r1 r2 r3 r4 r5 : Bool),(s0 == s1)=false∧(s0 != r0)=false∧(s2 != r4)=false∧(s3 != r5)=false∧(s2 && (s0 || s4 || !s3))=false∧((s3 && s5) == (s0 && s3))=true∧ρ.get 10=.mptr N 0∧ρ.get 11=.mptr (N+1) 0∧τ[N]?=some (.own [.bool s0,.bool s1,.bool s2,.bool s3,.bool s4,.bool s5])∧τ[N+1]?=some (.own [.bool r0,.bool r1,.bool r2,.bool r3,.bool r4,.bool r5])) (fun _ _ h=>h) ?_
 refine aF (fun m ρ τ'=>∃ (j : Nat) (A B : List VV),m=6-j∧j≤6∧A.length=6∧B.length=6∧(∀ i : Nat,i < j→A[i]?=some (.bool (f i))∧B[i]?=some (.bool (g i)))∧ρ.get 5=.mptr 1 0∧ρ.get 6=.mptr 2 0∧ρ.get 9=.mptr k 0∧ρ.get 10=.mptr N 0∧ρ.get 11=.mptr (N+1) 0∧ρ.get 46=.int .i64 j∧τ'[1]?=some (.own (y.cells py))∧τ'[2]?=some (.own (z.cells pz))∧τ'[k]?=some (.own X.cells)∧τ'[N]?=some (.own A)∧τ'[N+1]?=some (.own B)) (n:=6) ?_
  ⟨0,_,_,rfl,by omega,rfl,rfl,fun _ h=>absurd h (Nat.not_lt_zero _),by simp only [go_sem,seval,q5],by simp only [go_sem,seval,q6],by simp only [go_sem,seval,q9],by simp only [go_sem,seval,q10],by simp only [go_sem,seval,q11],rfl,t1,t2,tk,tA,tB⟩
 clear q5 q6 q9 q10 q11 t1 t2 tk tA tB
 rintro m ρ τ ⟨j,A,B,rfl,hj,hA,hB,hAB,q5,q6,q9,q10,q11,q46,t1,t2,tk,tA,tB⟩
 by_cases hc' : j < 6
 rotate_left
 ·obtain rfl : j=6:=by omega
  have a5 : decide (((6 : Nat) : Int) < 6)=false:=by decide
  simp only [go_sem,seval,q46,a5]
  have six : ∀ (L : List VV) (h : Int→Bool),L.length=6→(∀ i : Nat,i < 6→L[i]?=some (.bool (h i)))→L=[.bool (h 0),.bool (h 1),.bool (h 2),.bool (h 3),.bool (h 4),.bool (h 5)]:=fun L h hL hh=>by
   match L,hL with
   | [a,b,c,d,e,f],_ =>
    have h0:=hh 0 (by decide)
    have h1:=hh 1 (by decide)
    have h2:=hh 2 (by decide)
    have h3:=hh 3 (by decide)
    have h4:=hh 4 (by decide)
    have h5:=hh 5 (by decide)
    simp at h0 h1 h2 h3 h4 h5
    rw [h0,h1,h2,h3,h4,h5]
  rw [six A f hA fun i hi=>(hAB i hi).1] at tA
  rw [six B g hB fun i hi=>(hAB i hi).2] at tB
  obtain ⟨e1,e2,e3,e4,e5,e6⟩:=turned (singleR y v) (singleR z v)
  rw [hf] at tA
  rw [hgf] at tB
  exact ⟨_,_,_,_,_,_,_,_,_,_,_,_,e1,e2,e3,e4,e5,e6,q10,q11,tA,tB⟩
 have jo : (0 : Int)≤(j : Int)∧(j : Int)≤5:=by omega
 have a0 : (0 : Int)≤(j : Int):=by omega
 have a2 : (j : Int) < 6:=by omega
 have a5 : decide ((j : Int) < 6)=true:=decide_eq_true a2
 have a6 : IntKind.i64.wrap ((j : Int)+1)=((j+1 : Nat) : Int):=by rw [iw (by omega)];omega
 have hA1 : 0+j+1≤A.length:=by omega
 have hB1 : 0+j+1≤B.length:=by omega
 have hB2 : j+1≤B.length:=by omega
 have hCA:=CA j jo
 have hHA:=HA j jo
 have hHB:=HB j jo
 have lA:=(List.getElem?_eq_some_iff.1 tA).1
 have lB:=(List.getElem?_eq_some_iff.1 tB).1
 refine eU (M:=fun ρ' τ'=>ρ'.get 5=.mptr 1 0∧ρ'.get 6=.mptr 2 0∧ρ'.get 9=.mptr k 0∧ρ'.get 10=.mptr N 0∧ρ'.get 11=.mptr (N+1) 0∧ρ'.get 46=.int .i64 j∧ρ'.get 47=.bool true∧τ'=τ) ?_ ?_
 ·simp only [go_sem,seval,q5,q6,q9,q10,q11,q46,a5]
 rintro ρ τ ⟨q5,q6,q9,q10,q11,q46,q47,rfl⟩
 refine eU (M:=fun ρ' τ'=>ρ'.get 5=.mptr 1 0∧ρ'.get 6=.mptr 2 0∧ρ'.get 9=.mptr k 0∧ρ'.get 10=.mptr N 0∧ρ'.get 11=.mptr (N+1) 0∧ρ'.get 46=.int .i64 j∧τ'=τ) ?_ ?_
 ·simp only [go_sem,seval,q5,q6,q9,q10,q11,q46,q47]
 rintro ρ τ ⟨q5,q6,q9,q10,q11,q46,rfl⟩
 refine eU (M:=fun ρ' τ'=>ρ'.get 5=.mptr 1 0∧ρ'.get 6=.mptr 2 0∧ρ'.get 9=.mptr k 0∧ρ'.get 10=.mptr N 0∧ρ'.get 11=.mptr (N+1) 0∧ρ'.get 46=.int .i64 j∧τ'=(τ.set N (.own (A.take j++(.bool (f j)::A.drop (j+1))))).set (N+1) (.own (B.take j++(.bool (g j)::B.drop (j+1))))) ?_ ?_
 rotate_left
 ·rintro ρ τ' ⟨q5,q6,q9,q10,q11,q46,rfl⟩
  simp only [go_sem,seval,q46,a6]
  have upd : ∀ (L : List VV) (h : Int→Bool),L.length=6→(∀ i : Nat,i < j→L[i]?=some (.bool (h i)))→(L.take j++(VV.bool (h j)::L.drop (j+1))).length=6∧∀ i : Nat,i < j+1→(L.take j++(VV.bool (h j)::L.drop (j+1)))[i]?=some (.bool (h i)):=fun L h hL hh=>by
   refine ⟨by simp;omega,fun i hi=>?_⟩
   by_cases h1 : i < j
   ·rw [List.getElem?_append_left (by simp;omega),List.getElem?_take_of_lt h1];exact hh i h1
   ·obtain rfl : i=j:=by omega
    rw [List.getElem?_append_right (by simp;omega),List.length_take,Nat.min_eq_left (by omega),Nat.sub_self];rfl
  obtain ⟨u1,u2⟩:=upd A f hA fun i hi=>(hAB i hi).1
  obtain ⟨w1,w2⟩:=upd B g hB fun i hi=>(hAB i hi).2
  have ne : ∀ (i : Nat) (o o' : Obj),i≠N→i≠N+1→((τ.set N o).set (N+1) o')[i]?=τ[i]?:=fun i o o' h h'=>by rw [List.getElem?_set_ne (by omega),List.getElem?_set_ne (by omega)]
  exact ⟨6-(j+1),by omega,j+1,_,_,rfl,by omega,u1,w1,fun i hi=>⟨u2 i hi,w2 i hi⟩,q5,q6,q9,q10,q11,rfl,by rw [ne 1 _ _ (by omega) (by omega)];exact t1,by rw [ne 2 _ _ (by omega) (by omega)];exact t2,by rw [ne k _ _ (by omega) (by omega)];exact tk,by rw [List.getElem?_set_ne (by omega),List.getElem?_set_self (by omega)],by rw [List.getElem?_set_self (by simpa using lB)]⟩
 rw [JZ]
 have tB' : ∀ o,(τ.set N o)[N+1]?=some (.own B):=fun o=>by rw [List.getElem?_set_ne (by omega)];exact tB
 have t1' : ∀ o,(τ.set N o)[1]?=some (.own (y.cells py)):=fun o=>by rw [List.getElem?_set_ne (by omega)];exact t1
 have tk' : ∀ o,(τ.set N o)[k]?=some (.own X.cells):=fun o=>by rw [List.getElem?_set_ne (by omega)];exact tk
 simp only [go_sem,seval,q5,q6,q9,q10,q11,q46,t1,t2,y1,y3,y4,z1,z3,z4,g1,g2,g3,g4,g5,g6,g7,g8,List.length_append,List.append_assoc,List.append_nil,Nat.reduceAdd,Nat.reduceLT]
 (first | refine ah (hCA) ?_ | refine aK (hCA) ?_ | refine aI (hCA) ?_ | refine aj (hCA) (by simp only [go_sem,seval,q5,q6,q9,q10,q11,q46,tk,d1,d2,d3]) ?_ | refine aj (hCA) ?_ ?_)<;>simp only [go_sem,seval,q5,q6,q9,q10,q11,q46,tk,d1,d2,d3]
 (first | refine ah (hHA) ?_ | refine aK (hHA) ?_ | refine aI (hHA) ?_ | refine aj (hHA) (by simp only [go_sem,seval,q5,q6,q9,q10,q11,q46,tk,tA,a0,a2,Int.toNat_natCast,hA1,tk',d1,d2,d3,Nat.mul_one]) ?_ | refine aj (hHA) ?_ ?_)<;>simp only [go_sem,seval,q5,q6,q9,q10,q11,q46,tk,tA,a0,a2,Int.toNat_natCast,hA1,tk',d1,d2,d3,Nat.mul_one]
 (first | refine ah (hHB) ?_ | refine aK (hHB) ?_ | refine aI (hHB) ?_ | refine aj (hHB) (by simp only [go_sem,seval,q5,q6,q9,q10,q11,q46,tB',a0,a2,Int.toNat_natCast,hB1,hB2,Nat.mul_one,Nat.zero_add]) ?_ | refine aj (hHB) ?_ ?_)<;>simp only [go_sem,seval,q5,q6,q9,q10,q11,q46,tB',a0,a2,Int.toNat_natCast,hB1,hB2,Nat.mul_one,Nat.zero_add]
end Go.V
