/- Texts F151 F152 F153. -/
import Derived.Test.YtgmhpemjlbgfcaaGreatDoorG47
set_option linter.unusedVariables false
set_option linter.unusedSimpArgs false
namespace Go.V
open Go.Proofs
set_option maxRecDepth 100000
theorem aaM : G0 1=some (predNames.map .str):=rfl
theorem Eu (X : Vl) (p q : VV) : (X.cells++[p,q]).length=13:=rfl
theorem TN (X : Vl) (p q : VV) : (X.cells++[p,q]).take 11=X.cells:=rfl
theorem Uf (X : Vl) (p q : VV) : (X.cells++[p,q]).drop 12=[q]:=rfl
theorem FP (X : Vl) (p q : VV) : (X.cells++[p,q]).take 13=X.cells++[p,q]:=rfl
theorem Gj {X : Vl} (h : X.ok) (a b : Bool) : (X.cells++[VV.bool a,VV.bool b]).all VV.aC=true:=by
 have:=h.cell;unfold aQ at this;rw [List.all_append,this];rfl
theorem Au {X : Vl} (h : X.ok) (a b : Bool) : (VV.agg (X.cells++[.bool a,.bool b])).isPure=true:=by simp only [VV.isPure,iC,h.pure];rfl
theorem YD (k i : Int) (t : Bs) (h : qm k i t=0) : PV Tryz.prog G0 84 [.agg [.int .i64 k,.int .i64 i,.str t]] (.agg ((JH k i t).cells++[.bool true,.bool false])):=by
 have hP:=aay k i t
 rw [if_pos h] at hP
 obtain ⟨X,hX⟩ : ∃ X,X=JH k i t:=⟨_,rfl⟩
 have hXo : X.ok:=by rw [hX];exact N9 k i t
 rw [← hX] at hP ⊢
 have d1 : X.cells.length=11:=rfl
 have d2 : X.cells.all VV.aC=true:=hXo.cell
 have d3 : X.cells.take 11=X.cells:=rfl
 have d4 : X.cells.drop 0=X.cells:=rfl
 simp only [Vl.vv] at hP
 have n13 : ¬ 13 < 12:=by decide
 refine pv e84 (by simp) rfl (Au hXo _ _) ?_
 simp only [go_sem,seval,c84]
 (first | refine ah (hP) ?_ | refine aK (hP) ?_ | refine aI (hP) ?_ | refine aj (hP) (by simp only [go_sem,seval,d1,d2,d3,d4,Eu,TN,Uf,FP,Gj hXo]) ?_ | refine aj (hP) ?_ ?_)<;>simp only [go_sem,seval,d1,d2,d3,d4,Eu,TN,Uf,FP,Gj hXo]
 exact fin (Au hXo _ _) rfl
def singleR (a : Am) (v : T) : Jv:=if a.k=1 then ⟨.sc a.ck a.ci a.ct,true,false⟩ else match v.walk a.p with
 | none=>zI
 | some w=>if a.k=4 then ⟨.sc 0 0 [],false,true⟩ else if a.k=2 then (if 4≤w.kq then ⟨.sc 2 w.len [],true,false⟩ else zI) else if a.k=3 then ⟨.sc 3 0 (predNames.getD w.kq.toNat []),true,false⟩ else ⟨w,true,false⟩
theorem Y9 {k i : Int} {t : Bs} (h : qm k i t=0) (ht : t.length≤10000000) (hi : -9223372036854775808≤i∧i≤9223372036854775807) (a b : Bool) : Zi ⟨.sc k i t,a,b⟩ ((JH k i t).cells++[.bool a,.bool b]):=.mk (.sc k i t h ht hi) (N9 k i t)
theorem ZL (a b : Bool) : Zi ⟨.sc 0 0 [],a,b⟩ (Vl.zero.cells++[.bool a,.bool b]):=Y9 (k:=0) (i:=0) (t:=[]) rfl (by simp) (by decide) a b
theorem aac {v : T} {X : Vl} (hv : oL v X) (hX : X.ok) (a : Am) (pw : VV) (hp : dG 5 pw (a.p.map Sg.cells)) (hl : a.p.length≤1000000) (hi : ∀ s ∈ a.p,s.in) (ht : ∀ s ∈ a.p,s.t.length≤1000000000) (hc : a.k=1→qm a.ck a.ci a.ct=0) (hct : a.ct.length≤10000000) (hci : -9223372036854775808≤a.ci∧a.ci≤9223372036854775807) :
  ∃ c,Zi (singleR a v) c∧PV Tryz.prog G0 41 [.agg (a.cells pw),X.vv] (.agg c):=by
 obtain ⟨cs,hcs⟩ : ∃ cs,cs=a.cells pw:=⟨_,rfl⟩
 have g1 : cs.length=6:=by rw [hcs];rfl
 have g2 : cs.all VV.aC=true:=by rw [hcs];simp only [Am.cells,List.all_cons,List.all_nil,hp.cell];rfl
 have g3 : cs.take 6=cs:=List.take_of_length_le (by omega)
 have g4 : cs.getD 0 .undef=.int .i64 a.k:=by rw [hcs];rfl
 have g5 : cs.getD 1 .undef=pw:=by rw [hcs];rfl
 have g7 : (cs.drop 3).take 3=[.int .i64 a.ck,.int .i64 a.ci,.str a.ct]:=by rw [hcs];rfl
 have g8 : VV.ak cs=true:=by rw [hcs];simp only [Am.cells,VV.ak,VV.isPure,hp.pure];rfl
 have d1 : X.cells.length=11:=rfl
 have d2 : X.cells.all VV.aC=true:=hX.cell
 have d3 : X.cells.take 11=X.cells:=rfl
 have hargs : VV.ak [.agg cs,X.vv]=true:=by simp only [VV.ak,VV.isPure,g8,Vl.vv,hX.pure];rfl
 have n13 : ¬ 13 < 12:=by decide
 have hzz : Vl.zero.cells++[VV.bool false,VV.bool false]=[.int .i64 0,.int .i64 0,.str [],.int .i64 0,.nilp,.int .u64 0,.int .i64 0,.int .i64 0,.nilp,.int .i64 0,.int .i64 0,.bool false,.bool false]:=rfl
 rw [← hcs]
 unfold singleR
 by_cases h1 : a.k=1
 ·rw [if_pos h1]
  have hPl:=YD a.ck a.ci a.ct (hc h1)
  have hok:=N9 a.ck a.ci a.ct
  have hit:=Y9 (hc h1) hct hci true false
  have b1 : (a.k == 1)=true:=by simpa using h1
  obtain ⟨S,hS⟩ : ∃ S,S=JH a.ck a.ci a.ct:=⟨_,rfl⟩
  rw [← hS] at hPl hok hit
  refine ⟨_,hit,pv e41 (by simp) hargs (Au hok _ _) ?_⟩
  simp only [go_sem,seval,c41,Vl.vv,d1,d2,d3,g1,g2,g3,g4,g7,b1]
  (first | refine ah (hPl) ?_ | refine aK (hPl) ?_ | refine aI (hPl) ?_ | refine aj (hPl) (by simp only [go_sem,seval,Eu,FP,Gj hok]) ?_ | refine aj (hPl) ?_ ?_)<;>simp only [go_sem,seval,Eu,FP,Gj hok]
  exact fin (Au hok _ _) rfl
 rw [if_neg h1]
 have b1 : (a.k == 1)=false:=by simpa using h1
 obtain ⟨o,hw,hm⟩:=TB a.p hv hX ht
 have hA:=Wi hX a.p pw hp hl hi hw
 simp only [Vl.vv] at hA
 cases hwk : v.walk a.p with
 | none =>
  rw [hwk] at hm
  simp only at hm
  subst hm
  simp only [atR,Vl.vv] at hA
  obtain ⟨Z,hZ⟩ : ∃ Z,Z=Vl.zero:=⟨_,rfl⟩
  have hZo : Z.ok:=by rw [hZ];exact N9 0 0 []
  have hit:=ZL false false
  rw [← hZ] at hA hit
  have z1 : Z.cells.length=11:=rfl
  have z2 : Z.cells.all VV.aC=true:=hZo.cell
  have z3 : Z.cells.take 11=Z.cells:=rfl
  have z4 : Z.cells.drop 0=Z.cells:=rfl
  have hz2 : Z.cells++[VV.bool false,VV.bool false]=[.int .i64 0,.int .i64 0,.str [],.int .i64 0,.nilp,.int .u64 0,.int .i64 0,.int .i64 0,.nilp,.int .i64 0,.int .i64 0,.bool false,.bool false]:=by rw [hZ];rfl
  refine ⟨_,hit,pv e41 (by simp) hargs (Au hZo _ _) ?_⟩
  by_cases h4 : a.k=4
  ·have b4 : (a.k == 4)=true:=by simpa using h4
   simp only [go_sem,seval,c41,Vl.vv,d1,d2,d3,g1,g2,g3,g4,g5,b1]
   (first | refine ah (hA) ?_ | refine aK (hA) ?_ | refine aI (hA) ?_ | refine aj (hA) (by simp only [go_sem,seval,b4,z1,z2,z3,z4,g1,g4]) ?_ | refine aj (hA) ?_ ?_)<;>simp only [go_sem,seval,b4,z1,z2,z3,z4,g1,g4]
   exact fin (Au hZo _ _) (by rw [hz2])
  have b4 : (a.k == 4)=false:=by simpa using h4
  by_cases h2 : a.k=2
  ·have b2 : (a.k == 2)=true:=by simpa using h2
   simp only [go_sem,seval,c41,Vl.vv,d1,d2,d3,g1,g2,g3,g4,g5,b1]
   (first | refine ah (hA) ?_ | refine aK (hA) ?_ | refine aI (hA) ?_ | refine aj (hA) (by simp only [go_sem,seval,b4,b2,z1,z2,z3,z4,g1,g4]) ?_ | refine aj (hA) ?_ ?_)<;>simp only [go_sem,seval,b4,b2,z1,z2,z3,z4,g1,g4]
   exact fin (Au hZo _ _) (by rw [hz2])
  have b2 : (a.k == 2)=false:=by simpa using h2
  by_cases h3 : a.k=3
  ·have b3 : (a.k == 3)=true:=by simpa using h3
   simp only [go_sem,seval,c41,Vl.vv,d1,d2,d3,g1,g2,g3,g4,g5,b1]
   (first | refine ah (hA) ?_ | refine aK (hA) ?_ | refine aI (hA) ?_ | refine aj (hA) (by simp only [go_sem,seval,b4,b2,b3,z1,z2,z3,z4,g1,g4]) ?_ | refine aj (hA) ?_ ?_)<;>simp only [go_sem,seval,b4,b2,b3,z1,z2,z3,z4,g1,g4]
   exact fin (Au hZo _ _) (by rw [hz2])
  have b3 : (a.k == 3)=false:=by simpa using h3
  simp only [go_sem,seval,c41,Vl.vv,d1,d2,d3,g1,g2,g3,g4,g5,b1]
  (first | refine ah (hA) ?_ | refine aK (hA) ?_ | refine aI (hA) ?_ | refine aj (hA) (by simp only [go_sem,seval,b4,b2,b3,z1,z2,z3,z4,g1,g4,Eu,TN,Uf,FP,Gj hZo]) ?_ | refine aj (hA) ?_ ?_)<;>simp only [go_sem,seval,b4,b2,b3,z1,z2,z3,z4,g1,g4,Eu,TN,Uf,FP,Gj hZo]
  exact fin (Au hZo _ _) rfl
 | some w =>
  rw [hwk] at hm
  obtain ⟨y,rfl,hy,hyo⟩:=hm
  simp only [atR,Vl.vv] at hA
  have z1 : y.cells.length=11:=rfl
  have z2 : y.cells.all VV.aC=true:=hyo.cell
  have z3 : y.cells.take 11=y.cells:=rfl
  have z4 : y.cells.drop 0=y.cells:=rfl
  have hyk:=Uu y hyo
  rw [YM hy] at hyk
  obtain ⟨hlen,hyl⟩:=QX hy hyo
  simp only [Vl.vv] at hyk hyl
  simp only
  by_cases h4 : a.k=4
  ·rw [if_pos h4]
   have b4 : (a.k == 4)=true:=by simpa using h4
   obtain ⟨Z,hZ⟩ : ∃ Z,Z=Vl.zero:=⟨_,rfl⟩
   have hZo : Z.ok:=by rw [hZ];exact N9 0 0 []
   have hit:=ZL false true
   rw [← hZ] at hit
   have hz2 : Z.cells++[VV.bool false,VV.bool true]=[.int .i64 0,.int .i64 0,.str [],.int .i64 0,.nilp,.int .u64 0,.int .i64 0,.int .i64 0,.nilp,.int .i64 0,.int .i64 0,.bool false,.bool true]:=by rw [hZ];rfl
   refine ⟨_,hit,pv e41 (by simp) hargs (Au hZo _ _) ?_⟩
   simp only [go_sem,seval,c41,Vl.vv,d1,d2,d3,g1,g2,g3,g4,g5,b1]
   (first | refine ah (hA) ?_ | refine aK (hA) ?_ | refine aI (hA) ?_ | refine aj (hA) (by simp only [go_sem,seval,b4,z1,z2,z3,z4,g1,g4]) ?_ | refine aj (hA) ?_ ?_)<;>simp only [go_sem,seval,b4,z1,z2,z3,z4,g1,g4]
   exact fin (Au hZo _ _) (by rw [hz2])
  rw [if_neg h4]
  have b4 : (a.k == 4)=false:=by simpa using h4
  by_cases h2 : a.k=2
  ·rw [if_pos h2]
   have b2 : (a.k == 2)=true:=by simpa using h2
   by_cases hk4 : 4≤w.kq
   ·rw [if_pos hk4]
    have bk : decide (4≤w.kq)=true:=decide_eq_true hk4
    have hck : qm 2 w.len []=0:=by simp [qm]
    have hPl:=YD 2 w.len [] hck
    have hok:=N9 2 w.len []
    have hit:=Y9 hck (by simp) (by omega) true false
    obtain ⟨S,hS⟩ : ∃ S,S=JH 2 w.len []:=⟨_,rfl⟩
    rw [← hS] at hPl hok hit
    refine ⟨_,hit,pv e41 (by simp) hargs (Au hok _ _) ?_⟩
    simp only [go_sem,seval,c41,Vl.vv,d1,d2,d3,g1,g2,g3,g4,g5,b1]
    (first | refine ah (hA) ?_ | refine aK (hA) ?_ | refine aI (hA) ?_ | refine aj (hA) (by simp only [go_sem,seval,b4,b2,z1,z2,z3,z4,g1,g4]) ?_ | refine aj (hA) ?_ ?_)<;>simp only [go_sem,seval,b4,b2,z1,z2,z3,z4,g1,g4]
    (first | refine ah (hyk) ?_ | refine aK (hyk) ?_ | refine aI (hyk) ?_ | refine aj (hyk) (by simp only [go_sem,seval,bk,z1,z2,z3,z4]) ?_ | refine aj (hyk) ?_ ?_)<;>simp only [go_sem,seval,bk,z1,z2,z3,z4]
    (first | refine ah (hyl) ?_ | refine aK (hyl) ?_ | refine aI (hyl) ?_ | refine aj (hyl) (by simp only [go_sem,seval]) ?_ | refine aj (hyl) ?_ ?_)<;>simp only [go_sem,seval]
    (first | refine ah (hPl) ?_ | refine aK (hPl) ?_ | refine aI (hPl) ?_ | refine aj (hPl) (by simp only [go_sem,seval,Eu,FP,Gj hok]) ?_ | refine aj (hPl) ?_ ?_)<;>simp only [go_sem,seval,Eu,FP,Gj hok]
    exact fin (Au hok _ _) rfl
   ·rw [if_neg hk4]
    have bk : decide (4≤w.kq)=false:=decide_eq_false hk4
    obtain ⟨Z,hZ⟩ : ∃ Z,Z=Vl.zero:=⟨_,rfl⟩
    have hZo : Z.ok:=by rw [hZ];exact N9 0 0 []
    have hit:=ZL false false
    rw [← hZ] at hit
    have hz2 : Z.cells++[VV.bool false,VV.bool false]=[.int .i64 0,.int .i64 0,.str [],.int .i64 0,.nilp,.int .u64 0,.int .i64 0,.int .i64 0,.nilp,.int .i64 0,.int .i64 0,.bool false,.bool false]:=by rw [hZ];rfl
    refine ⟨_,hit,pv e41 (by simp) hargs (Au hZo _ _) ?_⟩
    simp only [go_sem,seval,c41,Vl.vv,d1,d2,d3,g1,g2,g3,g4,g5,b1]
    (first | refine ah (hA) ?_ | refine aK (hA) ?_ | refine aI (hA) ?_ | refine aj (hA) (by simp only [go_sem,seval,b4,b2,z1,z2,z3,z4,g1,g4]) ?_ | refine aj (hA) ?_ ?_)<;>simp only [go_sem,seval,b4,b2,z1,z2,z3,z4,g1,g4]
    (first | refine ah (hyk) ?_ | refine aK (hyk) ?_ | refine aI (hyk) ?_ | refine aj (hyk) (by simp only [go_sem,seval,bk,z1,z2,z3,z4]) ?_ | refine aj (hyk) ?_ ?_)<;>simp only [go_sem,seval,bk,z1,z2,z3,z4]
    exact fin (Au hZo _ _) (by rw [hz2])
  rw [if_neg h2]
  have b2 : (a.k == 2)=false:=by simpa using h2
  by_cases h3 : a.k=3
  ·rw [if_pos h3]
   have b3 : (a.k == 3)=true:=by simpa using h3
   have hkr : 0≤w.kq∧w.kq≤6:=by
    cases hy with
    | sc k i t h1=>have:=AB h1;simp only [T.kq];omega
    | vec=>simp [T.kq]
    | map=>simp [T.kq]
    | set=>simp [T.kq]
   have hn7 : w.kq.toNat < predNames.length:=by have : predNames.length=7:=rfl;omega
   have hnl : (predNames.getD w.kq.toNat []).length≤10000000:=by
    have : ∀ n,n < 7→(predNames.getD n []).length≤10000000:=by decide
    exact this _ hn7
   have hck : qm 3 0 (predNames.getD w.kq.toNat [])=0:=by simp [qm]
   have hPl:=YD 3 0 (predNames.getD w.kq.toNat []) hck
   have hok:=N9 3 0 (predNames.getD w.kq.toNat [])
   have hit:=Y9 hck hnl (by decide) true false
   have hgt : (predNames.map VV.str).getD w.kq.toNat .undef=.str (predNames.getD w.kq.toNat []):=by
    rw [List.getD_eq_getElem?_getD,List.getElem?_map,List.getElem?_eq_getElem hn7,List.getD_eq_getElem?_getD,List.getElem?_eq_getElem hn7];rfl
   have hk0 : (0 : Int)≤w.kq:=hkr.1
   have hn77 : w.kq.toNat < 7:=hn7
   have hk7 : w.kq < 7:=by omega
   have hpl7 : predNames.length=7:=rfl
   obtain ⟨S,hS⟩ : ∃ S,S=JH 3 0 (predNames.getD w.kq.toNat []):=⟨_,rfl⟩
   rw [← hS] at hPl hok hit
   refine ⟨_,hit,pv e41 (by simp) hargs (Au hok _ _) ?_⟩
   simp only [go_sem,seval,c41,Vl.vv,d1,d2,d3,g1,g2,g3,g4,g5,b1]
   (first | refine ah (hA) ?_ | refine aK (hA) ?_ | refine aI (hA) ?_ | refine aj (hA) (by simp only [go_sem,seval,b4,b2,b3,z1,z2,z3,z4,g1,g4]) ?_ | refine aj (hA) ?_ ?_)<;>simp only [go_sem,seval,b4,b2,b3,z1,z2,z3,z4,g1,g4]
   (first | refine ah (hyk) ?_ | refine aK (hyk) ?_ | refine aI (hyk) ?_ | refine aj (hyk) (by simp only [go_sem,seval,aaM,hgt,hk0,hk7,List.length_map,hpl7,Nat.mul_one,Nat.zero_add,hn77]) ?_ | refine aj (hyk) ?_ ?_)<;>simp only [go_sem,seval,aaM,hgt,hk0,hk7,List.length_map,hpl7,Nat.mul_one,Nat.zero_add,hn77]
   (first | refine ah (hPl) ?_ | refine aK (hPl) ?_ | refine aI (hPl) ?_ | refine aj (hPl) (by simp only [go_sem,seval,Eu,FP,Gj hok]) ?_ | refine aj (hPl) ?_ ?_)<;>simp only [go_sem,seval,Eu,FP,Gj hok]
   exact fin (Au hok _ _) rfl
  rw [if_neg h3]
  have b3 : (a.k == 3)=false:=by simpa using h3
  refine ⟨_,.mk hy hyo,pv e41 (by simp) hargs (Au hyo _ _) ?_⟩
  simp only [go_sem,seval,c41,Vl.vv,d1,d2,d3,g1,g2,g3,g4,g5,b1]
  (first | refine ah (hA) ?_ | refine aK (hA) ?_ | refine aI (hA) ?_ | refine aj (hA) (by simp only [go_sem,seval,b4,b2,b3,z1,z2,z3,z4,g1,g4,Eu,TN,Uf,FP,Gj hyo]) ?_ | refine aj (hA) ?_ ?_)<;>simp only [go_sem,seval,b4,b2,b3,z1,z2,z3,z4,g1,g4,Eu,TN,Uf,FP,Gj hyo]
  exact fin (Au hyo _ _) rfl
end Go.V
namespace Go.V
open Go.Proofs
set_option maxRecDepth 100000
def tr (b : Bool) : Jv:=⟨.sc 0 0 [],false,b⟩
def Zh (v : T) (st : List Jv) (a : Am) : List Jv :=
 if a.k=5 then (match st with | b::x::r=>tr (Y7 a.op x b)::r | _=>[])
 else if a.k=6 then (match st with | x::r=>tr (!x.holds)::r | _=>[])
 else if a.k=7 then (match st with | b::x::r=>tr (x.holds && b.holds)::r | _=>[])
 else if a.k=8 then (match st with | b::x::r=>tr (x.holds || b.holds)::r | _=>[])
 else singleR a v::st
def Zy (v : T) : List Am→List Jv→List Jv
 | [],st=>st
 | a::l,st=>Zy v l (Zh v st a)
def holdsA (l : List Am) (v : T) : Bool:=match Zy v l [] with
 | i::_=>i.holds
 | []=>false
def Z5 (a : Am) : Prop:=a.p.length≤1000000∧(∀ s ∈ a.p,s.t.length≤1000000000)∧a.ct.length≤10000000
theorem Uh {st st' : List Bool} {n : Nat} {b : Bool} (h : CX st n b=some st') : n≤st.length∧st'.length+n=st.length:=by
 unfold CX at h
 split at h
 ·cases h
 ·split at h
  ·cases h;simp;omega
  ·cases h
theorem Uk {st st' : List Bool} {a : Am} {v : T} {its : List Jv} (h : CW st a.k=some st') (hl : st.length=its.length) : (Zh v its a).length=st'.length∧(a.k=5→∃ b x r,its=b::x::r)∧(a.k=6→∃ x r,its=x::r)∧(a.k=7∨a.k=8→∃ b x r,its=b::x::r):=by
 have two : 2≤its.length→∃ b x r,its=b::x::r:=fun h=>by
  match its,h with
  | b::x::r,_=>exact ⟨b,x,r,rfl⟩
 unfold CW at h
 unfold Zh
 split at h
 ·rename_i h5
  rw [Option.map_eq_some_iff] at h
  obtain ⟨s,h1,rfl⟩:=h
  have h2:=Uh h1
  obtain ⟨b,x,r,rfl⟩:=two (by omega)
  refine ⟨?_,fun _=>⟨b,x,r,rfl⟩,fun h=>by omega,fun h=>by omega⟩
  rw [if_pos h5];simp at hl ⊢;omega
 ·split at h
  ·rename_i h5 h6
   rw [Option.map_eq_some_iff] at h
   obtain ⟨s,h1,rfl⟩:=h
   have h2:=Uh h1
   obtain ⟨x,r,rfl⟩ : ∃ x r,its=x::r:=by
    match its,(show 1≤its.length by omega) with
    | x::r,_=>exact ⟨x,r,rfl⟩
   refine ⟨?_,fun h=>by omega,fun _=>⟨x,r,rfl⟩,fun h=>by omega⟩
   rw [if_neg h5,if_pos h6];simp at hl ⊢;omega
  ·split at h
   ·rename_i h5 h6 h7
    rw [Option.map_eq_some_iff] at h
    obtain ⟨s,h1,rfl⟩:=h
    have h2:=Uh h1
    obtain ⟨b,x,r,rfl⟩:=two (by omega)
    refine ⟨?_,fun h=>by omega,fun h=>by omega,fun _=>⟨b,x,r,rfl⟩⟩
    rw [if_neg h5,if_neg h6]
    rcases h7 with h7 | h7
    ·rw [if_pos h7];simp at hl ⊢;omega
    ·rw [if_neg (by omega),if_pos h7];simp at hl ⊢;omega
   ·rename_i h5 h6 h7
    cases h
    refine ⟨?_,fun h=>by omega,fun h=>by omega,fun h=>by omega⟩
    rw [if_neg h5,if_neg h6,if_neg (by omega),if_neg (by omega)];simp;omega
def YU (b : Bool) : List VV:=[.int .i64 0,.int .i64 0,.str [],.int .i64 0,.nilp,.int .u64 0,.int .i64 0,.int .i64 0,.nilp,.int .i64 0,.int .i64 0,.bool false,.bool b]
theorem aaI (b : Bool) : Zi (tr b) (YU b):=ZL false b
theorem Gu {i : Jv} {c : List VV} (h : Zi i c) : c.getD 12 .undef=.bool i.holds:=by cases h;rfl
theorem aaQ {σ : Store} {y : List VV} (hC : dh 13 [y]) : aJ Tryz.prog σ 13 91 (.sl 1 y true)=some ([y].length,[y].flatten):=by
 have:=(dG.sl [y] true hC).src (P:=Tryz.prog) (σ:=σ) YB
 simpa using this
theorem aap {v : T} {X : Vl} (hv : oL v X) (hX : X.ok) (l : List Am) (lv : VV) (acs : List (List VV)) (hlv : dG 6 lv acs) (hl : YX l acs) (hlb : ∀ a ∈ l,Z5 a) (hll : l.length≤9223372036854775807) :
  PV Tryz.prog G0 15 [lv,X.vv] (if (WA l).1=0 then .tup [.bool (holdsA l v),.nili] else .tup [.bool false,zD (WA l).1 (WA l).2]):=by
 have hvp:=hlv.pure
 have hvc:=hlv.cell
 simp only [go_sem,seval] at hvc
 have lp : ∀ {σ},aT Tryz.prog 25 lv σ=okV (.int .i64 l.length) σ:=by intro σ;rw [hlv.aT Dp,hl.1]
 have a0 : ∀ j : Nat,(0 : Int)≤(j : Int):=fun j=>by omega
 have hfp : ∀ c p,(zD c p).isPure=true:=fun c p=>by unfold zD;split<;>rfl
 have d1 : X.cells.length=11:=rfl
 have d2 : X.cells.all VV.aC=true:=hX.cell
 have d3 : X.cells.take 11=X.cells:=rfl
 have hck:=aaC l lv acs hlv hl hll
 have hargs : VV.ak [lv,X.vv]=true:=by simp only [VV.ak,VV.isPure,Vl.vv,hX.pure,hvp];rfl
 by_cases he : (WA l).1=0
 rotate_left
 ·rw [if_neg he]
  have hpr : (VV.tup [.bool false,zD (WA l).1 (WA l).2]).isPure=true:=by simp only [VV.isPure,VV.ak,hfp];rfl
  refine pv e15 (by simp) hargs hpr ?_
  rw [Ob _ he] at hck hpr ⊢
  simp only [go_sem,seval,c15,Vl.vv,d1,d2,d3,hvc]
  (first | refine ah (hck) ?_ | refine aK (hck) ?_ | refine aI (hck) ?_ | refine aj (hck) (by simp only [go_sem,seval]) ?_ | refine aj (hck) ?_ ?_)<;>simp only [go_sem,seval]
  exact fin hpr rfl
 rw [if_pos he]
 have hn : zD (WA l).1 (WA l).2=.nili:=by unfold zD;rw [if_pos he]
 rw [hn] at hck
 have hlen : l.length≤64:=by
  rcases Nat.lt_or_ge 64 l.length with h | h
  ·exfalso;unfold WA at he;rw [if_pos h] at he;cases he
  ·exact h
 have hgo : (JG l 0 []).1=0:=by unfold WA at he;rw [if_neg (by omega)] at he;exact he
 refine pv e15 (by simp) hargs rfl ?_
 refine eU (M:=fun ρ τ=>ρ.get 0=lv∧ρ.get 3=.mptr 0 0∧τ=[.own X.cells]) ?_ ?_
 ·simp only [go_sem,seval,c15,Vl.vv,d1,d2,d3,hvc]
 rintro ρ _ ⟨q0,q3,rfl⟩
 refine eU (M:=fun ρ τ=>ρ.get 0=lv∧ρ.get 3=.mptr 0 0∧τ=[.own X.cells]) ?_ ?_
 ·simp only [go_sem,seval,q0,q3]
  (first | refine ah (hck) ?_ | refine aK (hck) ?_ | refine aI (hck) ?_ | refine aj (hck) (by simp only [go_sem,seval,q0,q3]) ?_ | refine aj (hck) ?_ ?_)<;>simp only [go_sem,seval,q0,q3]
 rintro ρ _ ⟨q0,q3,rfl⟩
 refine eU (M:=fun ρ τ=>ρ.get 0=lv∧ρ.get 3=.mptr 0 0∧ρ.get 7=.mptr 1 0∧τ=[.own X.cells,.own [.nils]]) ?_ ?_
 ·simp only [go_sem,seval,q0,q3]
 rintro ρ _ ⟨q0,q3,q7,rfl⟩
 refine eU (M:=fun ρ τ=>ρ.get 0=lv∧ρ.get 3=.mptr 0 0∧ρ.get 7=.mptr 1 0∧ρ.get 8=.fn (.func 39) [] [.mptr 1 0]∧τ=[.own X.cells,.own [.nils]]) ?_ ?_
 ·simp only [go_sem,seval,q0,q3,q7]
 rintro ρ _ ⟨q0,q3,q7,q8,rfl⟩
 simp only [go_sem,seval,q0,q3,q7,q8,lp]
 refine bf (M:=fun ρ τ=>∃ (st : List Jv) (cs : List (List VV)) (u : VV),Zy v l []=st∧st.length=1∧ρ.get 7=.mptr 1 0∧τ[1]?=some (.own [u])∧Fa 13 τ u cs∧Yw st.reverse cs) ?_ ?_
 ·rintro ρ τ ⟨st,cs,u,hev,h1,q7,t1,hP,hI⟩
  obtain ⟨i,rfl⟩ : ∃ i,st=[i]:=by
   match st,h1 with
   | [i],_=>exact ⟨i,rfl⟩
  have hcl : cs.length=1:=by rw [hI.1];rfl
  have hi:=hI.2 0 (by simp) (by omega)
  simp only [List.reverse_singleton,List.getElem_cons_zero] at hi
  obtain ⟨id,cells,rfl,hid,hcl2,hat⟩:=hP.at (j:=0) (by omega)
  have hg : cells.getD 12 .undef=.bool i.holds:=by
   have h2:=Gu hi
   have h3:=congrArg (·[12]?) hat
   simp only [Nat.zero_mul,List.drop_zero] at h3
   rw [List.getElem?_take_of_lt (by decide)] at h3
   rw [List.getD_eq_getElem?_getD] at h2 ⊢
   rw [h3];exact h2
  have hg0 : 12 < cells.length:=by omega
  have e : holdsA l v=i.holds:=by unfold holdsA;rw [hev]
  rw [hcl] at t1
  simp only [go_sem,seval,q7,t1,hid,hg,hg0]
  exact fin (by rfl) (by rw [e])
 refine aF (fun m ρ τ=>∃ (j : Nat) (st : List Jv) (bl : List Bool) (cs : List (List VV)) (u : VV),m=l.length-j∧j≤l.length∧st.length≤j∧bl.length=st.length∧(JG (l.drop j) j bl).1=0∧Zy v l []=Zy v (l.drop j) st ∧
   ρ.get 3=.mptr 0 0∧ρ.get 7=.mptr 1 0∧ρ.get 8=.fn (.func 39) [] [.mptr 1 0]∧ρ.get 21=lv∧ρ.get 22=.int .i64 l.length∧ρ.get 23=.int .i64 j∧τ[0]?=some (.own X.cells)∧τ[1]?=some (.own [u])∧Fa 13 τ u cs∧Yw st.reverse cs∧∀ i o n z,u=.bZ i o n z→i≠0∧i≠1) (n:=l.length) ?_
  ⟨0,[],[],[],.nils,rfl,by omega,by simp,rfl,hgo,rfl,by simp only [go_sem,seval,q3],by simp only [go_sem,seval,q7],by simp only [go_sem,seval,q8],rfl,rfl,rfl,rfl,rfl,.nil,⟨rfl,fun _ h=>absurd h (Nat.not_lt_zero _)⟩,fun _ _ _ _ h=>by cases h⟩
 rintro m ρ τ ⟨j,st,bl,cs,u,rfl,hj,hsl,hbl,hgo,hev,q3,q7,q8,q21,q22,q23,t0,t1,hP,hI,hne⟩
 by_cases hc' : j < l.length
 rotate_left
 ·have a5 : decide ((j : Int) < (l.length : Int))=false:=decide_eq_false (by omega)
  rw [List.drop_eq_nil_of_le (by omega)] at hgo hev
  have hb1 : bl=[true]:=by
   unfold JG at hgo
   split at hgo
   ·assumption
   ·cases hgo
  subst hb1
  simp only [go_sem,seval,q7,q22,q23,a5]
  exact ⟨st,cs,u,hev,by simpa using hbl.symm,t1,hP,hI⟩
 have hcs' : j < acs.length:=by rw [hl.1];exact hc'
 obtain ⟨tg,hit,a3,a4⟩:=hlv.jr hcs'
 rw [hl.1] at hit
 have a2 : (j : Int) < (l.length : Int):=by omega
 have a5 : decide ((j : Int) < (l.length : Int))=true:=decide_eq_true a2
 have a6 : IntKind.i64.wrap ((j : Int)+1)=((j+1 : Nat) : Int):=by rw [iw (by omega)];omega
 have hA:=hl.2 j hc' hcs'
 have hAB:=hlb _ (List.getElem_mem hc')
 obtain ⟨s1,s0,s2⟩:=hA.cells
 have s3 : acs[j].take 6=acs[j]:=List.take_of_length_le (by omega)
 rw [List.drop_eq_getElem_cons hc'] at hgo hev
 generalize acs[j]=ac at *
 generalize l[j]=a at *
 unfold JG at hgo
 split at hgo
 rotate_left
 ·cases hgo
 rename_i hr
 cases hd : CW bl a.k with
 | none=>rw [hd] at hgo;cases hgo
 | some bl' =>
 rw [hd] at hgo
 simp only at hgo
 obtain ⟨hln,h5s,h6s,h7s⟩:=Uk (v:=v) hd hbl
 simp only [Zy] at hev
 have hdl:=YZ hd
 have l1:=(List.getElem?_eq_some_iff.1 t1).1
 obtain ⟨N,hN⟩ : ∃ N,N=τ.length:=⟨_,rfl⟩
 refine eU (M:=fun ρ' τ'=>ρ'.get 3=.mptr 0 0∧ρ'.get 7=.mptr 1 0∧ρ'.get 8=.fn (.func 39) [] [.mptr 1 0]∧ρ'.get 21=lv∧ρ'.get 22=.int .i64 l.length∧ρ'.get 23=.int .i64 j∧ρ'.get 24=.bool true∧τ'=τ) ?_ ?_
 ·simp only [go_sem,seval,q3,q7,q8,q21,q22,q23,a5]
 rintro ρ τ ⟨q3,q7,q8,q21,q22,q23,q24,rfl⟩
 refine eU (M:=fun ρ' τ'=>ρ'.get 3=.mptr 0 0∧ρ'.get 7=.mptr 1 0∧ρ'.get 8=.fn (.func 39) [] [.mptr 1 0]∧ρ'.get 21=lv∧ρ'.get 22=.int .i64 l.length∧ρ'.get 23=.int .i64 j∧τ'=τ) ?_ ?_
 ·simp only [go_sem,seval,q3,q7,q8,q21,q22,q23,q24]
 rintro ρ τ ⟨q3,q7,q8,q21,q22,q23,rfl⟩
 refine eU (M:=fun ρ' τ'=>ρ'.get 3=.mptr 0 0∧ρ'.get 7=.mptr 1 0∧ρ'.get 8=.fn (.func 39) [] [.mptr 1 0]∧ρ'.get 21=lv∧ρ'.get 22=.int .i64 l.length∧ρ'.get 23=.int .i64 j∧∃ (cs' : List (List VV)) (u' : VV),τ'[0]?=some (.own X.cells)∧τ'[1]?=some (.own [u'])∧Fa 13 τ' u' cs'∧Yw (Zh v st a).reverse cs'∧∀ i o n z,u'=.bZ i o n z→i≠0∧i≠1) ?_ ?_
 rotate_left
 ·rintro ρ τ' ⟨q3,q7,q8,q21,q22,q23,cs',u',t0',t1',hP',hI',hne'⟩
  simp only [go_sem,seval,q3,q7,q8,q21,q22,q23,a6]
  exact ⟨l.length-(j+1),by omega,j+1,Zh v st a,bl',cs',u',rfl,by omega,by omega,by omega,hgo,hev,rfl,t0',t1',hP',hI',hne'⟩
 rw [JZ]
 refine eU (M:=fun ρ' τ'=>ρ'.get 3=.mptr 0 0∧ρ'.get 7=.mptr 1 0∧ρ'.get 8=.fn (.func 39) [] [.mptr 1 0]∧ρ'.get 21=lv∧ρ'.get 22=.int .i64 l.length∧ρ'.get 23=.int .i64 j∧ρ'.get 10=.mptr N 0∧τ'=τ++[.own ac]) ?_ ?_
 ·simp only [go_sem,seval,q3,q7,q8,q21,q22,q23,hit,a0,a2,a3,a4,Int.toNat_natCast,s1,s2,s3,SS]
  rw [hN]
 rintro ρ _ ⟨q3,q7,q8,q21,q22,q23,q10,rfl⟩
 refine eU (M:=fun ρ' τ'=>ρ'.get 3=.mptr 0 0∧ρ'.get 7=.mptr 1 0∧ρ'.get 8=.fn (.func 39) [] [.mptr 1 0]∧ρ'.get 21=lv∧ρ'.get 22=.int .i64 l.length∧ρ'.get 23=.int .i64 j∧ρ'.get 10=.mptr N 0∧ρ'.get 11=.mptr (N+1) 0∧τ'=τ++[.own ac,.own (YU false)]) ?_ ?_
 ·simp only [go_sem,seval,q3,q7,q8,q10,q21,q22,q23,SS]
  exact ⟨by rw [hN],rfl⟩
 rintro ρ τ1 ⟨q3,q7,q8,q21,q22,q23,q10,q11,hτ1⟩
 have w0 : τ1[0]?=some (.own X.cells):=by rw [hτ1,List.getElem?_append_left (by omega)];exact t0
 have w1 : τ1[1]?=some (.own [u]):=by rw [hτ1,List.getElem?_append_left (by omega)];exact t1
 have wN : τ1[N]?=some (.own ac):=by rw [hτ1,hN];simp
 have wM : τ1[N+1]?=some (.own (YU false)):=by rw [hτ1,hN,List.getElem?_append_right (by omega)];simp
 have wP : Fa 13 τ1 u cs:=by rw [hτ1];exact hP.snoc _
 have wl : τ1.length=N+2:=by rw [hτ1,hN];simp
 have hne2 : ∀ i o n z,u=.bZ i o n z→i < N:=fun i o n z h=>by have:=hP.dom h;omega
 clear hτ1
 refine eU (M:=fun ρ' τ'=>ρ'.get 3=.mptr 0 0∧ρ'.get 7=.mptr 1 0∧ρ'.get 8=.fn (.func 39) [] [.mptr 1 0]∧ρ'.get 21=lv∧ρ'.get 22=.int .i64 l.length∧ρ'.get 23=.int .i64 j∧ρ'.get 11=.mptr (N+1) 0∧∃ (i : Jv) (s' : List Jv) (ci : List VV) (cs' : List (List VV)) (u' : VV),Zh v st a=i::s'∧Zi i ci∧Yw s'.reverse cs'∧τ'[0]?=some (.own X.cells)∧τ'[1]?=some (.own [u'])∧Fa 13 τ' u' cs'∧(∀ i o n z,u'=.bZ i o n z→i≠0∧i≠1)∧τ'[N+1]?=some (.own ci)) ?_ ?_
 rotate_left
 ·rintro ρ τ2 ⟨q3,q7,q8,q21,q22,q23,q11,i,s',ci,cs',u',hes,hci,hI',x0,x1,xP,xne,xM⟩
  obtain ⟨c1,c0,c2⟩:=hci.cells
  have c3 : ci.take 13=ci:=List.take_of_length_le (by omega)
  have y1:=(List.getElem?_eq_some_iff.1 x1).1
  have y0:=(List.getElem?_eq_some_iff.1 x0).1
  have hcl : cs'.length≤1000:=by
   have h2:=hI'.1
   rw [hes] at hln
   simp at h2 hln
   omega
  have fin2 : ∀ (v' : VV) (σ' : Store),Fa 13 σ' v' (cs'++[ci])→Kept τ2 u' σ'→New τ2 u' v'→σ'[1]?=some (.own [u'])∧(∃ (cs'' : List (List VV)) (u'' : VV),(σ'.set 1 (.own [v']))[0]?=some (.own X.cells)∧(σ'.set 1 (.own [v']))[1]?=some (.own [u''])∧Fa 13 (σ'.set 1 (.own [v'])) u'' cs''∧Yw (Zh v st a).reverse cs''∧∀ i o n z,u''=.bZ i o n z→i≠0∧i≠1):=by
   intro v' σ' hP' hK hN'
   have z1 : σ'[1]?=some (.own [u']):=by rw [hK.2 1 y1 (fun o n z e=>(xne _ _ _ _ e).2 rfl)];exact x1
   have z0 : σ'[0]?=some (.own X.cells):=by rw [hK.2 0 y0 (fun o n z e=>(xne _ _ _ _ e).1 rfl)];exact x0
   have hv' : ∀ i o n z,v'=.bZ i o n z→i≠0∧i≠1:=fun i o n z e=>by
    rcases hN' i o n z e with h | ⟨o',n',z',e'⟩
    ·omega
    ·exact xne _ _ _ _ e'
   refine ⟨z1,cs'++[ci],v',by rw [List.getElem?_set_ne (by decide)];exact z0,List.getElem?_set_self (List.getElem?_eq_some_iff.1 z1).1,hP'.keep fun i o n z e=>List.getElem?_set_ne (fun h=>(hv' _ _ _ _ e).2 h.symm), ?_,hv'⟩
   rw [hes,List.reverse_cons]
   exact hI'.snoc hci
  rcases xP.shape with rfl | ⟨i0,n0,rfl⟩
  all_goals
   simp only [go_sem,seval,q7,q11,x1,xM,c1,c2,c3]
   refine xP.step (ys:=[ci]) YB Z8 ZV ZF rfl (by decide) (by decide) hci.blk (by simp) (by simp;omega) (aaQ hci.blk) fun v' σ' hP' hK hN'=>?_
   obtain ⟨z1,hfin⟩:=fin2 v' σ' hP' hK hN'
   rcases hP'.shape with rfl | ⟨i1,n1,rfl⟩
   all_goals
    simp only [go_sem,seval,q3,q7,q8,q21,q22,q23,z1]
    exact hfin
 have g0 : ac.getD 0 .undef=.int .i64 a.k:=by cases hA;rfl
 have g6 : ac.getD 2 .undef=.int .i64 a.op:=by cases hA;rfl
 have hcsl : cs.length≤1000:=by have:=hI.1;simp at this;omega
 have finC : ∀ (τ2 : Store) (u2 : VV) (csX : List (List VV)) (s' : List Jv) (hb : Bool),Zh v st a=tr hb::s'→Yw s'.reverse csX→τ2[0]?=some (.own X.cells)→τ2[1]?=some (.own [u2])→Fa 13 τ2 u2 csX→(∀ i o n z,u2=.bZ i o n z→∃ o' n' z',u=.bZ i o' n' z')→τ2[N+1]?=some (.own (YU false)) →
   ∃ (i : Jv) (s' : List Jv) (ci : List VV) (cs' : List (List VV)) (u' : VV),Zh v st a=i::s'∧Zi i ci∧Yw s'.reverse cs'∧(τ2.set (N+1) (.own (YU hb)))[0]?=some (.own X.cells)∧(τ2.set (N+1) (.own (YU hb)))[1]?=some (.own [u'])∧Fa 13 (τ2.set (N+1) (.own (YU hb))) u' cs'∧(∀ i o n z,u'=.bZ i o n z→i≠0∧i≠1)∧(τ2.set (N+1) (.own (YU hb)))[N+1]?=some (.own ci):=by
  intro τ2 u2 csX s' hb he hIx x0 x1 xP xu xM
  refine ⟨tr hb,s',YU hb,csX,u2,he,aaI hb,hIx,by rw [List.getElem?_set_ne (by omega)];exact x0,by rw [List.getElem?_set_ne (by omega)];exact x1,xP.keep fun i o n z e=>?_,fun i o n z e=>?_,List.getElem?_set_self (List.getElem?_eq_some_iff.1 xM).1⟩
  ·obtain ⟨o',n',z',e'⟩:=xu _ _ _ _ e
   have:=hne2 _ _ _ _ e'
   exact List.getElem?_set_ne (by omega)
  ·obtain ⟨o',n',z',e'⟩:=xu _ _ _ _ e
   exact hne _ _ _ _ e'
 have hne1 : ∀ i o n z,u=.bZ i o n z→i≠1:=fun i o n z e=>(hne _ _ _ _ e).2
 by_cases k6 : a.k=6
 ·obtain ⟨x,r,rfl⟩:=h6s k6
  rw [List.reverse_cons] at hI
  obtain ⟨csA,cx,rfl,hIA,hix⟩:=hI.last
  obtain ⟨e1,e0,e2⟩:=hix.cells
  have e3:=Gu hix
  have b5 : (a.k == 5)=false:=by simp;omega
  have b6 : (a.k == 6)=true:=by simpa using k6
  simp only [go_sem,seval,q3,q7,q8,q10,q11,q21,q22,q23,wN,s1,g0,b5,b6,I7]
  refine CV.mono (YJ 1 u csA cx τ1 w1 wP hne1 (by simp at hcsl;omega)) ?_
  rintro _ τ2 ⟨rfl,hl2,⟨u2,x1,xP,xu⟩,xk⟩
  have x0 : τ2[0]?=some (.own X.cells):=by rw [xk 0 (by omega) (by decide)];exact w0
  have xM : τ2[N+1]?=some (.own (YU false)):=by rw [xk (N+1) (by omega) (by omega)];exact wM
  have xM':=xM
  unfold YU at xM'
  have fC:=finC τ2 u2 csA r (!x.holds) (by unfold Zh;rw [if_neg (by omega),if_pos k6]) hIA x0 x1 xP xu xM
  simp only [go_sem,seval,gZ,q3,q7,q8,q10,q11,q21,q22,q23,xM',e1,e3]
  exact fC
 have b6 : (a.k == 6)=false:=by simpa using k6
 by_cases k5 : a.k=5
 ·obtain ⟨b,x,r,rfl⟩:=h5s k5
  rw [List.reverse_cons,List.reverse_cons] at hI
  obtain ⟨csA,cb,rfl,hIA,hib⟩:=hI.last
  obtain ⟨csB,cx,rfl,hIB,hix⟩:=hIA.last
  obtain ⟨e1,e0,e2⟩:=hix.cells
  obtain ⟨f1,f0,f2⟩:=hib.cells
  have f4 : cb.take 13=cb:=List.take_of_length_le (by omega)
  have f5 : cb.drop 13=[]:=List.drop_eq_nil_of_le (by omega)
  have b5 : (a.k == 5)=true:=by simpa using k5
  have hSt:=aas a.op hix hib
  simp only [go_sem,seval,q3,q7,q8,q10,q11,q21,q22,q23,wN,s1,g0,b5,I7]
  refine CV.mono (YJ 1 u (csB++[cx]) cb τ1 w1 wP hne1 (by simp at hcsl ⊢;omega)) ?_
  rintro _ τ2 ⟨rfl,hl2,⟨u2,x1,xP,xu⟩,xk⟩
  have x0 : τ2[0]?=some (.own X.cells):=by rw [xk 0 (by omega) (by decide)];exact w0
  have xM : τ2[N+1]?=some (.own (YU false)):=by rw [xk (N+1) (by omega) (by omega)];exact wM
  have xN : τ2[N]?=some (.own ac):=by rw [xk N (by omega) (by omega)];exact wN
  have xN' : ∀ υ,(τ2++υ)[N]?=some (.own ac):=fun υ=>by rw [List.getElem?_append_left (by omega)];exact xN
  have hu1 : ∀ i o n z,u2=.bZ i o n z→i≠1:=fun i o n z e=>by obtain ⟨o',n',z',e'⟩:=xu _ _ _ _ e;exact hne1 _ _ _ _ e'
  simp only [go_sem,seval,gZ,q3,q7,q8,q10,q11,q21,q22,q23,f1,f2,f4,f5,I7,xN',g6,s1,SS]
  refine CV.mono (YJ 1 u2 csB cx _ (by rw [List.getElem?_append_left (by omega)];exact x1) (xP.snoc _) hu1 (by simp at hcsl;omega)) ?_
  rintro _ τ3 ⟨rfl,hl3,⟨u3,y1,yP,yu⟩,yk⟩
  simp only [List.length_append,List.length_cons,List.length_nil] at hl3 yk
  have y0 : τ3[0]?=some (.own X.cells):=by rw [yk 0 (by omega) (by decide),List.getElem?_append_left (by omega)];exact x0
  have yM : τ3[N+1]?=some (.own (YU false)):=by rw [yk (N+1) (by omega) (by omega),List.getElem?_append_left (by omega)];exact xM
  have yN : τ3[N]?=some (.own ac):=by rw [yk N (by omega) (by omega)];exact xN' _
  have yB : τ3[τ2.length]?=some (.own cb):=by rw [yk τ2.length (by omega) (by omega)];simp
  have yM':=yM
  unfold YU at yM'
  have fC:=finC τ3 u3 csB r (Y7 a.op x b) (by unfold Zh;rw [if_pos k5]) hIB y0 y1 yP (fun i o n z e=>by obtain ⟨o',n',z',e'⟩:=yu _ _ _ _ e;exact xu _ _ _ _ e') yM
  simp only [go_sem,seval,gZ,q3,q7,q8,q10,q11,q21,q22,q23,f1,f4,yN,yB,g6,s1]
  (first | refine ah (hSt) ?_ | refine aK (hSt) ?_ | refine aI (hSt) ?_ | refine aj (hSt) (by simp only [go_sem,seval,q3,q7,q8,q10,q11,q21,q22,q23,yM']) ?_ | refine aj (hSt) ?_ ?_)<;>simp only [go_sem,seval,q3,q7,q8,q10,q11,q21,q22,q23,yM']
  exact fC
 have b5 : (a.k == 5)=false:=by simpa using k5
 by_cases k7 : a.k=7
 ·obtain ⟨b,x,r,rfl⟩:=h7s (.inl k7)
  rw [List.reverse_cons,List.reverse_cons] at hI
  obtain ⟨csA,cb,rfl,hIA,hib⟩:=hI.last
  obtain ⟨csB,cx,rfl,hIB,hix⟩:=hIA.last
  obtain ⟨e1,e0,e2⟩:=hix.cells
  have e3:=Gu hix
  obtain ⟨f1,f0,f2⟩:=hib.cells
  have f3:=Gu hib
  have f4 : cb.take 13=cb:=List.take_of_length_le (by omega)
  have f5 : cb.drop 13=[]:=List.drop_eq_nil_of_le (by omega)
  have b7 : (a.k == 7)=true:=by simpa using k7
  simp only [go_sem,seval,q3,q7,q8,q10,q11,q21,q22,q23,wN,s1,g0,b5,b6,b7,I7]
  refine CV.mono (YJ 1 u (csB++[cx]) cb τ1 w1 wP hne1 (by simp at hcsl ⊢;omega)) ?_
  rintro _ τ2 ⟨rfl,hl2,⟨u2,x1,xP,xu⟩,xk⟩
  have x0 : τ2[0]?=some (.own X.cells):=by rw [xk 0 (by omega) (by decide)];exact w0
  have xM : τ2[N+1]?=some (.own (YU false)):=by rw [xk (N+1) (by omega) (by omega)];exact wM
  have hu1 : ∀ i o n z,u2=.bZ i o n z→i≠1:=fun i o n z e=>by obtain ⟨o',n',z',e'⟩:=xu _ _ _ _ e;exact hne1 _ _ _ _ e'
  simp only [go_sem,seval,gZ,q3,q7,q8,q10,q11,q21,q22,q23,f1,f2,f4,f5,I7,SS]
  refine CV.mono (YJ 1 u2 csB cx _ (by rw [List.getElem?_append_left (by omega)];exact x1) (xP.snoc _) hu1 (by simp at hcsl;omega)) ?_
  rintro _ τ3 ⟨rfl,hl3,⟨u3,y1,yP,yu⟩,yk⟩
  simp only [List.length_append,List.length_cons,List.length_nil] at hl3 yk
  have y0 : τ3[0]?=some (.own X.cells):=by rw [yk 0 (by omega) (by decide),List.getElem?_append_left (by omega)];exact x0
  have yM : τ3[N+1]?=some (.own (YU false)):=by rw [yk (N+1) (by omega) (by omega),List.getElem?_append_left (by omega)];exact xM
  have yB : τ3[τ2.length]?=some (.own cb):=by rw [yk τ2.length (by omega) (by omega)];simp
  have yM':=yM
  unfold YU at yM'
  have fC:=finC τ3 u3 csB r (x.holds && b.holds) (by unfold Zh;rw [if_neg (by omega),if_neg (by omega),if_pos k7]) hIB y0 y1 yP (fun i o n z e=>by obtain ⟨o',n',z',e'⟩:=yu _ _ _ _ e;exact xu _ _ _ _ e') yM
  cases hxh : x.holds with
  | true =>
   rw [hxh] at fC e3
   simp only [Bool.true_and,Bool.false_and] at fC
   simp only [go_sem,seval,gZ,q3,q7,q8,q10,q11,q21,q22,q23,yM',yB,e1,e3,f1,f3]
   exact fC
  | false =>
   rw [hxh] at fC e3
   simp only [Bool.true_and,Bool.false_and] at fC
   simp only [go_sem,seval,gZ,q3,q7,q8,q10,q11,q21,q22,q23,yM',yB,e1,e3,f1,f3]
   exact fC
 have b7 : (a.k == 7)=false:=by simpa using k7
 by_cases k8 : a.k=8
 ·obtain ⟨b,x,r,rfl⟩:=h7s (.inr k8)
  rw [List.reverse_cons,List.reverse_cons] at hI
  obtain ⟨csA,cb,rfl,hIA,hib⟩:=hI.last
  obtain ⟨csB,cx,rfl,hIB,hix⟩:=hIA.last
  obtain ⟨e1,e0,e2⟩:=hix.cells
  have e3:=Gu hix
  obtain ⟨f1,f0,f2⟩:=hib.cells
  have f3:=Gu hib
  have f4 : cb.take 13=cb:=List.take_of_length_le (by omega)
  have f5 : cb.drop 13=[]:=List.drop_eq_nil_of_le (by omega)
  have b8 : (a.k == 8)=true:=by simpa using k8
  simp only [go_sem,seval,q3,q7,q8,q10,q11,q21,q22,q23,wN,s1,g0,b5,b6,b7,b8,I7]
  refine CV.mono (YJ 1 u (csB++[cx]) cb τ1 w1 wP hne1 (by simp at hcsl ⊢;omega)) ?_
  rintro _ τ2 ⟨rfl,hl2,⟨u2,x1,xP,xu⟩,xk⟩
  have x0 : τ2[0]?=some (.own X.cells):=by rw [xk 0 (by omega) (by decide)];exact w0
  have xM : τ2[N+1]?=some (.own (YU false)):=by rw [xk (N+1) (by omega) (by omega)];exact wM
  have hu1 : ∀ i o n z,u2=.bZ i o n z→i≠1:=fun i o n z e=>by obtain ⟨o',n',z',e'⟩:=xu _ _ _ _ e;exact hne1 _ _ _ _ e'
  simp only [go_sem,seval,gZ,q3,q7,q8,q10,q11,q21,q22,q23,f1,f2,f4,f5,I7,SS]
  refine CV.mono (YJ 1 u2 csB cx _ (by rw [List.getElem?_append_left (by omega)];exact x1) (xP.snoc _) hu1 (by simp at hcsl;omega)) ?_
  rintro _ τ3 ⟨rfl,hl3,⟨u3,y1,yP,yu⟩,yk⟩
  simp only [List.length_append,List.length_cons,List.length_nil] at hl3 yk
  have y0 : τ3[0]?=some (.own X.cells):=by rw [yk 0 (by omega) (by decide),List.getElem?_append_left (by omega)];exact x0
  have yM : τ3[N+1]?=some (.own (YU false)):=by rw [yk (N+1) (by omega) (by omega),List.getElem?_append_left (by omega)];exact xM
  have yB : τ3[τ2.length]?=some (.own cb):=by rw [yk τ2.length (by omega) (by omega)];simp
  have yM':=yM
  unfold YU at yM'
  have fC:=finC τ3 u3 csB r (x.holds || b.holds) (by unfold Zh;rw [if_neg (by omega),if_neg (by omega),if_neg (by omega),if_pos k8]) hIB y0 y1 yP (fun i o n z e=>by obtain ⟨o',n',z',e'⟩:=yu _ _ _ _ e;exact xu _ _ _ _ e') yM
  cases hxh : x.holds with
  | true =>
   rw [hxh] at fC e3
   simp only [Bool.true_or,Bool.false_or] at fC
   simp only [go_sem,seval,gZ,q3,q7,q8,q10,q11,q21,q22,q23,yM',yB,e1,e3,f1,f3]
   exact fC
  | false =>
   rw [hxh] at fC e3
   simp only [Bool.true_or,Bool.false_or] at fC
   simp only [go_sem,seval,gZ,q3,q7,q8,q10,q11,q21,q22,q23,yM',yB,e1,e3,f1,f3]
   exact fC
 have b8 : (a.k == 8)=false:=by simpa using k8
 obtain ⟨c,hcI,hcP⟩ : ∃ c,Zi (singleR a v) c∧PV Tryz.prog G0 41 [.agg ac,X.vv] (.agg c):=by
  have hchk : a.k=1→qm a.ck a.ci a.ct=0:=fun _=>by
   unfold Am.right at hr
   simp only [Bool.and_eq_true] at hr
   simpa using hr.2.2.2.2.1
  cases hA with
  | @mk pw hpw hpl hpi hpci=>exact aac hv hX a pw hpw hAB.1 hpi hAB.2.1 hchk hAB.2.2 hpci
 obtain ⟨e1,e0,e2⟩:=hcI.cells
 have e3 : c.take 13=c:=List.take_of_length_le (by omega)
 have hes : Zh v st a=singleR a v::st:=by unfold Zh;rw [if_neg k5,if_neg k6,if_neg k7,if_neg k8]
 have wM':=wM
 unfold YU at wM'
 simp only [Vl.vv] at hcP
 simp only [go_sem,seval,q3,q7,q8,q10,q11,q21,q22,q23,wN,w0,s1,s2,s3,g0,b5,b6,b7,b8,d1,d2,d3]
 (first | refine ah (hcP) ?_ | refine aK (hcP) ?_ | refine aI (hcP) ?_ | refine aj (hcP) (by simp only [go_sem,seval,q3,q7,q8,q10,q11,q21,q22,q23,wM',e1,e2,e3,List.append_nil]) ?_ | refine aj (hcP) ?_ ?_)<;>simp only [go_sem,seval,q3,q7,q8,q10,q11,q21,q22,q23,wM',e1,e2,e3,List.append_nil]
 exact ⟨singleR a v,st,c,cs,u,hes,hcI,hI,by rw [List.getElem?_set_ne (by omega)];exact w0,by rw [List.getElem?_set_ne (by omega)];exact w1,wP.keep fun i o n z e=>List.getElem?_set_ne (by have:=hne2 _ _ _ _ e;omega),hne,List.getElem?_set_self (by omega)⟩
end Go.V
namespace Go.V
open Go.Proofs
set_option maxRecDepth 100000
def Zj : List Am→List Bool→Option (List Bool)
 | [],st=>some st
 | a::l,st=>if a.right=true then (match CW st a.k with
  | none=>none
  | some st'=>Zj l st') else none
def Ij (l : List Am) : Prop:=Zj l []=some [true]
theorem aaN (l : List Am) : ∀ (i : Nat) (st : List Bool),(JG l i st).1=0↔Zj l st=some [true]:=by
 induction l with
 | nil =>
  intro i st
  unfold JG Zj
  by_cases h : st=[true]
  ·simp [h]
  ·simp [h]
 | cons a l ih =>
  intro i st
  unfold JG Zj
  by_cases h : a.right=true
  ·rw [if_pos h,if_pos h]
   cases hd : CW st a.k with
   | none=>simp
   | some st'=>exact ih _ _
  ·rw [if_neg h,if_neg h];simp
theorem Zb (l : List Am) : (WA l).1=0↔l.length≤64∧Ij l:=by
 unfold WA
 by_cases h : 64 < l.length
 ·rw [if_pos h];constructor
  ·intro h;cases h
  ·intro h2;omega
 ·rw [if_neg h,aaN];exact ⟨fun h2=>⟨by omega,h2⟩,fun h2=>h2.2⟩
theorem Yu {l : List Am} {v : T} {i : Jv} {r : List Jv} (h : Zy v l []=i::r) : holdsA l v=i.holds:=by unfold holdsA;rw [h]
end Go.V
