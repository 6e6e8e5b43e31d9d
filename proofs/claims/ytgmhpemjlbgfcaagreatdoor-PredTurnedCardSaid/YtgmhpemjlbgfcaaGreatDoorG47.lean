/- Texts F148 F149 F150. -/
import Derived.Test.YtgmhpemjlbgfcaaGreatDoorG45
import Derived.Test.YtgmhpemjlbgfcaaGreatDoorG46
set_option linter.unusedVariables false
set_option linter.unusedSimpArgs false
namespace Go.V
open Go.Proofs
set_option maxRecDepth 100000
def Zd (m : Bool) (p q : St) : Int:=if m=true then tH p.t q.t else 0
def OX (m : Bool) : List (St × T)→List (St × T)→Int
 | [],[]=>0
 | [],_::_=>-1
 | _::_,[]=>1
 | p::l,q::r=>if Zd m p.1 q.1≠0 then Zd m p.1 q.1 else if p.2.ord q.2≠0 then p.2.ord q.2 else OX m l r
theorem Zq : ∀ l r : List (St × T),OX false l r=T.Zt (l.map (·.2)) (r.map (·.2))
 | [],[]=>by simp [OX,T.Zt]
 | [],_::_=>by simp [OX,T.Zt]
 | _::_,[]=>by simp [OX,T.Zt]
 | p::l,q::r=>by simp [OX,T.Zt,Zd,Zq l r]
theorem Zo : ∀ l r : List (St × T),OX true l r=T.ZB (l.map fun q=>(q.1.t,q.2)) (r.map fun q=>(q.1.t,q.2))
 | [],[]=>by simp [OX,T.ZB]
 | [],_::_=>by simp [OX,T.ZB]
 | _::_,[]=>by simp [OX,T.ZB]
 | p::l,q::r=>by simp [OX,T.ZB,Zd,Zo l r]
theorem YN : ∀ (ps : List St) (ys : List (T × Vl)),ps.length=ys.length→((ps.zip (ys.map (·.1))).map (·.2))=ys.map (·.1)
 | [],[],_=>rfl
 | _::ps,_::ys,h=>by simp only [List.map_cons,List.zip_cons_cons];rw [YN ps ys (by simpa using h)]
theorem YF : ∀ (ps : List St) (ys : List (T × Vl)),ps.length=ys.length→((ps.zip (ys.map (·.1))).map fun q=>(q.1.t,q.2))=(ps.zip ys).map fun q=>(q.1.t,q.2.1)
 | [],[],_=>rfl
 | _::ps,_::ys,h=>by simp only [List.map_cons,List.zip_cons_cons];rw [YF ps ys (by simpa using h)]
theorem YM {v : T} {x : Vl} (h : oL v x) : x.k=v.kq:=by cases h<;>rfl
theorem aaF {v w : T} (h : v.kq≠w.kq) : v.ord w=DI v.kq w.kq:=by
 cases v<;>cases w<;>simp only [T.ord]<;>first
  | rfl
  | (exfalso;exact h rfl)
  | (simp only [T.kq] at h ⊢
     unfold Ve
     rw [if_pos]
     unfold DI
     split
     ·decide
     ·split
      ·decide
      ·omega)
theorem aaz {v : T} {x : Vl} {ps : List St} {ys : List (T × Vl)} (h : Parts v x ps ys) {i : Nat} (hi : i < ys.length) : ys[i].1.nd < v.nd:=by
 rcases h.shape with ⟨_,e⟩ | ⟨_,e⟩ | ⟨_,e⟩
 ·rw [e];simp only [T.nd]
  have:=MG (l:=ys.map (·.1)) (v:=ys[i].1) (List.mem_map.2 ⟨_,List.getElem_mem hi,rfl⟩);omega
 ·rw [e];simp only [T.nd]
  have hl:=h.len
  have:=Pz (l:=(ps.zip ys).map fun q=>(q.1.t,q.2.1)) (p:=((ps[i]'(by omega)).t,ys[i].1)) (List.mem_map.2 ⟨(ps[i]'(by omega),ys[i]),List.mem_iff_getElem.2 ⟨i,by simp;omega,by simp⟩,rfl⟩)
  simp only at this;omega
 ·rw [e];simp only [T.nd]
  have:=MG (l:=ys.map (·.1)) (v:=ys[i].1) (List.mem_map.2 ⟨_,List.getElem_mem hi,rfl⟩);omega
theorem ZQ {v w : T} {x y : Vl} {ps qs : List St} {ys zs : List (T × Vl)} (h : Parts v x ps ys) (g : Parts w y qs zs) (hk : x.k=y.k) : v.ord w=OX (x.k == 5) (ps.zip (ys.map (·.1))) (qs.zip (zs.map (·.1))):=by
 rcases h.shape with ⟨a,e⟩ | ⟨a,e⟩ | ⟨a,e⟩<;>rcases g.shape with ⟨b,f⟩ | ⟨b,f⟩ | ⟨b,f⟩<;>first
  | (exfalso;omega)
  | (have hb : (x.k == 5)=false:=by simp;omega
     rw [hb,Zq,YN _ _ h.len,YN _ _ g.len,e,f]
     simp only [T.ord])
  | (have hb : (x.k == 5)=true:=by simp;omega
     rw [hb,Zo,YF _ _ h.len,YF _ _ g.len,e,f]
     simp only [T.ord])
theorem Zz : ∀ (n : Nat) {v w : T} {x y : Vl},v.nd≤n→oL v x→x.ok→oL w y→y.ok→PV Tryz.prog G0 83 [x.vv,y.vv] (.int .i64 (v.ord w)):=by
 intro n
 induction n with
 | zero =>
  intro v w x y hn
  exfalso
  have : 0 < v.nd:=by cases v<;>simp only [T.nd]<;>omega
  omega
 | succ n ih =>
 intro v w x y hn hv hx hw hy
 have hkx:=Uu x hx
 have hky:=Uu y hy
 have d1 : x.cells.length=11:=rfl
 have d2 : x.cells.all VV.aC=true:=hx.cell
 have d3 : x.cells.take 11=x.cells:=rfl
 have f1 : y.cells.length=11:=rfl
 have f2 : y.cells.all VV.aC=true:=hy.cell
 have f3 : y.cells.take 11=y.cells:=rfl
 have xk:=YM hv
 have yk:=YM hw
 have hsx:=Y4 x hx
 have hsy:=Y4 y hy
 simp only [Vl.vv] at hkx hky hsx hsy
 refine pv e83 (by simp) (by simp [VV.ak,VV.isPure,Vl.vv,hx.pure,hy.pure]) rfl ?_
 by_cases hk : x.k=y.k
 rotate_left
 ·have b : (x.k == y.k)=false:=by simpa using hk
  have hO:=Y3 x.k 0 y.k 0 [] []
  have e : Ve x.k 0 [] y.k 0 []=v.ord w:=by
   rw [aaF (by rw [← xk,← yk];exact hk),← xk,← yk]
   unfold Ve
   rw [if_pos]
   unfold DI
   split
   ·decide
   ·split
    ·decide
    ·omega
  rw [e] at hO
  simp only [go_sem,seval,c83,Vl.vv,d1,d2,d3,f1,f2,f3]
  (first | refine ah (hkx) ?_ | refine aK (hkx) ?_ | refine aI (hkx) ?_ | refine aj (hkx) (by simp only [go_sem,seval,d1,d2,d3,f1,f2,f3]) ?_ | refine aj (hkx) ?_ ?_)<;>simp only [go_sem,seval,d1,d2,d3,f1,f2,f3]
  (first | refine ah (hky) ?_ | refine aK (hky) ?_ | refine aI (hky) ?_ | refine aj (hky) (by simp only [go_sem,seval,bne,b,Bool.not_false,d1,d2,d3,f1,f2,f3]) ?_ | refine aj (hky) ?_ ?_)<;>simp only [go_sem,seval,bne,b,Bool.not_false,d1,d2,d3,f1,f2,f3]
  (first | refine ah (hkx) ?_ | refine aK (hkx) ?_ | refine aI (hkx) ?_ | refine aj (hkx) (by simp only [go_sem,seval,d1,d2,d3,f1,f2,f3]) ?_ | refine aj (hkx) ?_ ?_)<;>simp only [go_sem,seval,d1,d2,d3,f1,f2,f3]
  (first | refine ah (hky) ?_ | refine aK (hky) ?_ | refine aI (hky) ?_ | refine aj (hky) (by simp only [go_sem,seval,d1,d2,d3,f1,f2,f3]) ?_ | refine aj (hky) ?_ ?_)<;>simp only [go_sem,seval,d1,d2,d3,f1,f2,f3]
  (first | refine ah (hO) ?_ | refine aK (hO) ?_ | refine aI (hO) ?_ | refine aj (hO) (by simp only [go_sem,seval]) ?_ | refine aj (hO) ?_ ?_)<;>simp only [go_sem,seval]
  exact fin (by rfl) rfl
 have b : (x.k == y.k)=true:=by simpa using hk
 refine eU (M:=fun ρ τ=>ρ.get 2=.mptr 0 0∧ρ.get 3=.mptr 1 0∧τ=[.own x.cells,.own y.cells]) ?_ ?_
 ·simp only [go_sem,seval,c83,Vl.vv,d1,d2,d3,f1,f2,f3]
 rintro ρ _ ⟨q2,q3,rfl⟩
 refine eU (M:=fun ρ τ=>ρ.get 2=.mptr 0 0∧ρ.get 3=.mptr 1 0∧τ=[.own x.cells,.own y.cells]) ?_ ?_
 ·simp only [go_sem,seval,q2,q3,d1,d2,d3,f1,f2,f3]
  (first | refine ah (hkx) ?_ | refine aK (hkx) ?_ | refine aI (hkx) ?_ | refine aj (hkx) (by simp only [go_sem,seval,q2,q3,d1,d2,d3,f1,f2,f3]) ?_ | refine aj (hkx) ?_ ?_)<;>simp only [go_sem,seval,q2,q3,d1,d2,d3,f1,f2,f3]
  (first | refine ah (hky) ?_ | refine aK (hky) ?_ | refine aI (hky) ?_ | refine aj (hky) (by simp only [go_sem,seval,q2,q3,bne,b,Bool.not_true]) ?_ | refine aj (hky) ?_ ?_)<;>simp only [go_sem,seval,q2,q3,bne,b,Bool.not_true]
 rintro ρ _ ⟨q2,q3,rfl⟩
 rcases Zr hv hx with h4 | ⟨ps,ys,hPx⟩
 ·have b4 : decide (x.k < 4)=true:=decide_eq_true h4
  have b4' : decide (y.k < 4)=true:=decide_eq_true (by omega)
  rw [b4] at hsx
  rw [b4'] at hsy
  have hO:=Y3 x.sk x.si y.sk y.si x.st y.st
  have e : Ve x.sk x.si x.st y.sk y.si y.st=v.ord w:=by
   cases hv with
   | sc k i t h1 hb1 hi1 =>
    cases hw with
    | sc k' i' t' h2 hb2 hi2=>simp only [T.ord];rfl
    | vec=>simp only [JH] at hk h4;omega
    | map=>simp only [JH] at hk h4;omega
    | set=>simp only [JH] at hk h4;omega
   | vec=>simp only at h4;omega
   | map=>simp only at h4;omega
   | set=>simp only at h4;omega
  rw [e] at hO
  simp only [go_sem,seval,q2,q3,d1,d2,d3,f1,f2,f3]
  (first | refine ah (hsx) ?_ | refine aK (hsx) ?_ | refine aI (hsx) ?_ | refine aj (hsx) (by simp only [go_sem,seval,q2,q3,d1,d2,d3,f1,f2,f3]) ?_ | refine aj (hsx) ?_ ?_)<;>simp only [go_sem,seval,q2,q3,d1,d2,d3,f1,f2,f3]
  (first | refine ah (hsy) ?_ | refine aK (hsy) ?_ | refine aI (hsy) ?_ | refine aj (hsy) (by simp only [go_sem,seval,q2,q3]) ?_ | refine aj (hsy) ?_ ?_)<;>simp only [go_sem,seval,q2,q3]
  (first | refine ah (hO) ?_ | refine aK (hO) ?_ | refine aI (hO) ?_ | refine aj (hO) (by simp only [go_sem,seval]) ?_ | refine aj (hO) ?_ ?_)<;>simp only [go_sem,seval]
  exact fin (by rfl) rfl
 rcases Zr hw hy with h4 | ⟨qs,zs,hPy⟩
 ·exfalso;rcases hPx.shape with ⟨a,_⟩ | ⟨a,_⟩ | ⟨a,_⟩<;>omega
 have h4 : ¬ x.k < 4:=by rcases hPx.shape with ⟨a,_⟩ | ⟨a,_⟩ | ⟨a,_⟩<;>omega
 have b4 : decide (x.k < 4)=false:=decide_eq_false h4
 rw [b4] at hsx
 have hO:=ZQ hPx hPy hk
 obtain ⟨sx,hsl,hSx⟩:=hPx.steps
 obtain ⟨sy,hsl',hSy⟩:=hPy.steps
 have hxl:=hPx.len
 have hyl:=hPy.len
 have hxf:=hPx.few
 have hyf:=hPy.few
 simp only [Vl.vv] at hSx hSy
 have hsc:=hsl.cell
 have hsc':=hsl'.cell
 simp only [go_sem,seval] at hsc
 simp only [go_sem,seval] at hsc'
 have lx : ∀ {σ},aT Tryz.prog 206 sx σ=okV (.int .i64 ps.length) σ:=by intro σ;rw [hsl.aT wH];simp
 have ly : ∀ {σ},aT Tryz.prog 206 sy σ=okV (.int .i64 qs.length) σ:=by intro σ;rw [hsl'.aT wH];simp
 refine eU (M:=fun ρ τ=>ρ.get 2=.mptr 0 0∧ρ.get 3=.mptr 1 0∧τ[0]?=some (.own x.cells)∧τ[1]?=some (.own y.cells)) ?_ ?_
 ·simp only [go_sem,seval,q2,q3,d1,d2,d3,f1,f2,f3]
  (first | refine ah (hsx) ?_ | refine aK (hsx) ?_ | refine aI (hsx) ?_ | refine aj (hsx) (by simp only [go_sem,seval,q2,q3]) ?_ | refine aj (hsx) ?_ ?_)<;>simp only [go_sem,seval,q2,q3]
 rintro ρ τ ⟨q2,q3,t0,t1⟩
 refine eU (M:=fun ρ τ=>ρ.get 2=.mptr 0 0∧ρ.get 3=.mptr 1 0∧ρ.get 9=sx∧ρ.get 10=sy∧τ[0]?=some (.own x.cells)∧τ[1]?=some (.own y.cells)) ?_ ?_
 ·simp only [go_sem,seval,q2,q3,t0,t1,d1,d2,d3,f1,f2,f3]
  (first | refine ah (hSx) ?_ | refine aK (hSx) ?_ | refine aI (hSx) ?_ | refine aj (hSx) (by simp only [go_sem,seval,q2,q3,t0,t1,d1,d2,d3,f1,f2,f3]) ?_ | refine aj (hSx) ?_ ?_)<;>simp only [go_sem,seval,q2,q3,t0,t1,d1,d2,d3,f1,f2,f3]
  (first | refine ah (hSy) ?_ | refine aK (hSy) ?_ | refine aI (hSy) ?_ | refine aj (hSy) (by simp only [go_sem,seval,q2,q3,t0,t1]) ?_ | refine aj (hSy) ?_ ?_)<;>simp only [go_sem,seval,q2,q3,t0,t1]
 rintro ρ τ ⟨q2,q3,q9,q10,t0,t1⟩
 obtain ⟨N,hN⟩ : ∃ N : Nat,N=min ps.length qs.length:=⟨_,rfl⟩
 have em : pU false (.int .i64 ps.length) (.int .i64 qs.length)=some (.int .i64 N):=by
  simp only [pU,hN]
  congr 2
  simp only [Bool.false_eq_true,if_false]
  split<;>omega
 obtain ⟨L,hL⟩ : ∃ L,L=ps.zip (ys.map (·.1)):=⟨_,rfl⟩
 obtain ⟨R,hRR⟩ : ∃ R,R=qs.zip (zs.map (·.1)):=⟨_,rfl⟩
 have hLl : L.length=ps.length:=by rw [hL];simp;omega
 have hRl : R.length=qs.length:=by rw [hRR];simp;omega
 rw [← hL,← hRR] at hO
 simp only [go_sem,seval,q2,q3,q9,q10,t0,t1,lx,ly,em,Option.map_some]
 refine bf (M:=fun ρ τ=>v.ord w=OX (x.k == 5) (L.drop N) (R.drop N)∧ρ.get 9=sx∧ρ.get 10=sy) ?_ ?_
 ·rintro ρ τ ⟨he,q9,q10⟩
  rcases Nat.lt_trichotomy ps.length qs.length with hlt | heq | hgt
  ·have e : v.ord w=-1:=by
    rw [he,List.drop_eq_nil_of_le (by omega),List.drop_eq_getElem_cons (by omega)];simp [OX]
   have c1 : decide ((ps.length : Int) < (qs.length : Int))=true:=decide_eq_true (by omega)
   simp only [go_sem,seval,q9,q10,lx,ly,c1]
   exact fin (by rfl) (by rw [e])
  ·have e : v.ord w=0:=by
    rw [he,List.drop_eq_nil_of_le (by omega),List.drop_eq_nil_of_le (by omega)];simp [OX]
   have c1 : decide ((ps.length : Int) < (qs.length : Int))=false:=decide_eq_false (by omega)
   have c2 : decide ((qs.length : Int) < (ps.length : Int))=false:=decide_eq_false (by omega)
   simp only [go_sem,seval,q9,q10,lx,ly,c1,c2]
   exact fin (by rfl) (by rw [e])
  ·have e : v.ord w=1:=by
    rw [he,List.drop_eq_nil_of_le (show R.length≤N by omega),List.drop_eq_getElem_cons (by omega)];simp [OX]
   have c1 : decide ((ps.length : Int) < (qs.length : Int))=false:=decide_eq_false (by omega)
   have c2 : decide ((qs.length : Int) < (ps.length : Int))=true:=decide_eq_true (by omega)
   simp only [go_sem,seval,q9,q10,lx,ly,c1,c2]
   exact fin (by rfl) (by rw [e])
 refine aF (fun m ρ τ=>∃ j : Nat,m=N-j∧j≤N∧v.ord w=OX (x.k == 5) (L.drop j) (R.drop j)∧ρ.get 2=.mptr 0 0∧ρ.get 3=.mptr 1 0∧ρ.get 9=sx∧ρ.get 10=sy∧ρ.get 48=.int .i64 N∧ρ.get 49=.int .i64 j∧τ[0]?=some (.own x.cells)∧τ[1]?=some (.own y.cells)) (n:=N) ?_ ⟨0,rfl,by omega,by simpa using hO,by simp only [go_sem,seval,q2],by simp only [go_sem,seval,q3],by simp only [go_sem,seval,q9],by simp only [go_sem,seval,q10],rfl,rfl,t0,t1⟩
 rintro m ρ τ ⟨j,rfl,hj,he,q2,q3,q9,q10,q48,q49,t0,t1⟩
 by_cases hc' : j < N
 rotate_left
 ·have a5 : decide ((j : Int) < (N : Int))=false:=decide_eq_false (by omega)
  simp only [go_sem,seval,q9,q10,q48,q49,a5]
  rw [he,show j=N by omega]
 have hjp : j < ps.length:=by omega
 have hjq : j < qs.length:=by omega
 have hjy : j < ys.length:=by omega
 have hjz : j < zs.length:=by omega
 obtain ⟨tg,hit,a3,a4⟩:=hsl.jr (j:=j) (by simpa using hjp)
 obtain ⟨tg',hit',b3,b4⟩:=hsl'.jr (j:=j) (by simpa using hjq)
 rw [List.getElem_map] at a4 b4
 rw [List.length_map] at hit hit'
 have a0 : (0 : Int)≤(j : Int):=by omega
 have a2 : (j : Int) < (ps.length : Int):=by omega
 have b2 : (j : Int) < (qs.length : Int):=by omega
 have a5 : decide ((j : Int) < (N : Int))=true:=decide_eq_true (by omega)
 have a6 : IntKind.i64.wrap ((j : Int)+1)=((j+1 : Nat) : Int):=by rw [iw (by omega)];omega
 obtain ⟨gx1,gx2,gx3⟩:=hPx.get j hjp hjy
 obtain ⟨gy1,gy2,gy3⟩:=hPy.get j hjq hjz
 have hpx:=Z7 x ys[j].2 hx gx2 ps[j] gx1
 have hpy:=Z7 y zs[j].2 hy gy2 qs[j] gy1
 have hrec:=ih (by have:=aaz hPx hjy;omega) gx3 gx2 gy3 gy2
 have hTx:=aan x.k ps[j] qs[j]
 have eL : L.drop j=(ps[j],ys[j].1)::L.drop (j+1):=by
  rw [List.drop_eq_getElem_cons (by omega)];subst hL;simp
 have eR : R.drop j=(qs[j],zs[j].1)::R.drop (j+1):=by
  rw [List.drop_eq_getElem_cons (by omega)];subst hRR;simp
 rw [eL,eR] at he
 simp only [OX] at he
 have ek : (if x.k=5 then tH ps[j].t qs[j].t else 0)=Zd (x.k == 5) ps[j] qs[j]:=by
  unfold Zd;by_cases h : x.k=5<;>simp [h]
 rw [ek] at hTx
 have s1 : ∀ p : St,p.cells.length=3:=fun _=>rfl
 have s2 : ∀ p : St,p.cells.all VV.aC=true:=fun _=>rfl
 have s3 : ∀ p : St,p.cells.take 3=p.cells:=fun _=>rfl
 simp only [Vl.vv] at hpx hpy hrec
 by_cases hkz : Zd (x.k == 5) ps[j] qs[j]=0
 rotate_left
 ·rw [if_pos hkz] at he
  have n1 : (Zd (x.k == 5) ps[j] qs[j] == 0)=false:=by simpa using hkz
  simp only [go_sem,seval,q2,q3,q9,q10,q48,q49,t0,t1,hit,hit',a0,a2,a3,a4,a5,b2,b3,b4,Int.toNat_natCast,d1,d2,d3,f1,f2,f3,s1,s2,s3]
  (first | refine ah (hkx) ?_ | refine aK (hkx) ?_ | refine aI (hkx) ?_ | refine aj (hkx) (by simp only [go_sem,seval,q2,q3,q9,q10,q48,q49,t0,t1,hit,hit',a0,a2,a3,a4,a5,b2,b3,b4,Int.toNat_natCast,d1,d2,d3,f1,f2,f3,s1,s2,s3]) ?_ | refine aj (hkx) ?_ ?_)<;>simp only [go_sem,seval,q2,q3,q9,q10,q48,q49,t0,t1,hit,hit',a0,a2,a3,a4,a5,b2,b3,b4,Int.toNat_natCast,d1,d2,d3,f1,f2,f3,s1,s2,s3]
  (first | refine ah (hTx) ?_ | refine aK (hTx) ?_ | refine aI (hTx) ?_ | refine aj (hTx) (by simp only [go_sem,seval,bne,n1,Bool.not_false]) ?_ | refine aj (hTx) ?_ ?_)<;>simp only [go_sem,seval,bne,n1,Bool.not_false]
  exact fin (by rfl) (by rw [he])
 ·rw [if_neg (by omega)] at he
  have n1 : (Zd (x.k == 5) ps[j] qs[j] == 0)=true:=by simpa using hkz
  simp only [go_sem,seval,q2,q3,q9,q10,q48,q49,t0,t1,hit,hit',a0,a2,a3,a4,a5,b2,b3,b4,Int.toNat_natCast,d1,d2,d3,f1,f2,f3,s1,s2,s3]
  (first | refine ah (hkx) ?_ | refine aK (hkx) ?_ | refine aI (hkx) ?_ | refine aj (hkx) (by simp only [go_sem,seval,q2,q3,q9,q10,q48,q49,t0,t1,hit,hit',a0,a2,a3,a4,a5,b2,b3,b4,Int.toNat_natCast,d1,d2,d3,f1,f2,f3,s1,s2,s3]) ?_ | refine aj (hkx) ?_ ?_)<;>simp only [go_sem,seval,q2,q3,q9,q10,q48,q49,t0,t1,hit,hit',a0,a2,a3,a4,a5,b2,b3,b4,Int.toNat_natCast,d1,d2,d3,f1,f2,f3,s1,s2,s3]
  (first | refine ah (hTx) ?_ | refine aK (hTx) ?_ | refine aI (hTx) ?_ | refine aj (hTx) (by simp only [go_sem,seval,bne,n1,Bool.not_true,q2,q3,q9,q10,q48,q49,t0,t1,hit,hit',a0,a2,a3,a4,a5,b2,b3,b4,Int.toNat_natCast,d1,d2,d3,f1,f2,f3,s1,s2,s3]) ?_ | refine aj (hTx) ?_ ?_)<;>simp only [go_sem,seval,bne,n1,Bool.not_true,q2,q3,q9,q10,q48,q49,t0,t1,hit,hit',a0,a2,a3,a4,a5,b2,b3,b4,Int.toNat_natCast,d1,d2,d3,f1,f2,f3,s1,s2,s3]
  (first | refine ah (hpx) ?_ | refine aK (hpx) ?_ | refine aI (hpx) ?_ | refine aj (hpx) (by simp only [go_sem,seval,q2,q3,q9,q10,q48,q49,t0,t1,hit,hit',a0,a2,a3,a4,a5,b2,b3,b4,Int.toNat_natCast,d1,d2,d3,f1,f2,f3,s1,s2,s3]) ?_ | refine aj (hpx) ?_ ?_)<;>simp only [go_sem,seval,q2,q3,q9,q10,q48,q49,t0,t1,hit,hit',a0,a2,a3,a4,a5,b2,b3,b4,Int.toNat_natCast,d1,d2,d3,f1,f2,f3,s1,s2,s3]
  (first | refine ah (hpy) ?_ | refine aK (hpy) ?_ | refine aI (hpy) ?_ | refine aj (hpy) (by simp only [go_sem,seval,q2,q3,q9,q10,q48,q49,t0,t1]) ?_ | refine aj (hpy) ?_ ?_)<;>simp only [go_sem,seval,q2,q3,q9,q10,q48,q49,t0,t1]
  by_cases hoz : ys[j].1.ord zs[j].1=0
  rotate_left
  ·rw [if_pos hoz] at he
   have n2 : (ys[j].1.ord zs[j].1 == 0)=false:=by simpa using hoz
   (first | refine ah (hrec) ?_ | refine aK (hrec) ?_ | refine aI (hrec) ?_ | refine aj (hrec) (by simp only [go_sem,seval,bne,n2,Bool.not_false]) ?_ | refine aj (hrec) ?_ ?_)<;>simp only [go_sem,seval,bne,n2,Bool.not_false]
   exact fin (by rfl) (by rw [he])
  ·rw [if_neg (by omega)] at he
   have n2 : (ys[j].1.ord zs[j].1 == 0)=true:=by simpa using hoz
   (first | refine ah (hrec) ?_ | refine aK (hrec) ?_ | refine aI (hrec) ?_ | refine aj (hrec) (by simp only [go_sem,seval,bne,n2,Bool.not_true,q2,q3,q9,q10,q48,q49,a6]) ?_ | refine aj (hrec) ?_ ?_)<;>simp only [go_sem,seval,bne,n2,Bool.not_true,q2,q3,q9,q10,q48,q49,a6]
   exact ⟨N-(j+1),by omega,j+1,rfl,by omega,he,hit,hit',rfl,t0,t1⟩
end Go.V
namespace Go.V
open Go.Proofs
set_option maxRecDepth 100000
structure Jv where
 t : T
 there : Bool
 holds : Bool
inductive Zi : Jv→List VV→Prop
 | mk {t : T} {x : Vl} {a b : Bool} (h : oL t x) (hx : x.ok) : Zi ⟨t,a,b⟩ (x.cells++[.bool a,.bool b])
theorem Zi.cells {i : Jv} {c : List VV} (h : Zi i c) : c.length=13∧VV.ak c=true∧c.all VV.aC=true:=by
 cases h with
 | mk h hx =>
  refine ⟨rfl, ?_, ?_⟩
  ·rw [iC,hx.pure];rfl
  ·have:=hx.cell;unfold aQ at this;rw [List.all_append,this];rfl
theorem Zi.blk {i : Jv} {c : List VV} (h : Zi i c) : dh 13 [c]:=by
 obtain ⟨h1,h2,h3⟩:=h.cells
 exact ⟨by simpa using h1,by simpa using h2,by simpa [aQ] using h3⟩
def Yw (l : List Jv) (cs : List (List VV)) : Prop:=cs.length=l.length∧∀ (j : Nat) (h : j < l.length) (h' : j < cs.length),Zi l[j] cs[j]
theorem Yw.snoc {l : List Jv} {cs : List (List VV)} (h : Yw l cs) {i : Jv} {c : List VV} (hi : Zi i c) : Yw (l++[i]) (cs++[c]):=by
 refine ⟨by simp [h.1],fun j hj hj'=>?_⟩
 by_cases hlt : j < l.length
 ·rw [List.getElem_append_left hlt,List.getElem_append_left (by rw [h.1];exact hlt)]
  exact h.2 j hlt _
 ·have : j=l.length:=by simp at hj;omega
  subst this
  have e : (cs++[c])[l.length]=c:=by simp [← h.1]
  rw [e];simpa using hi
theorem Yw.last {l : List Jv} {i : Jv} {cs : List (List VV)} (h : Yw (l++[i]) cs) : ∃ cs' c,cs=cs'++[c]∧Yw l cs'∧Zi i c:=by
 have hl:=h.1
 simp at hl
 refine ⟨cs.take l.length,cs[l.length]'(by omega), ?_,⟨by simp;omega,fun j hj hj'=>?_⟩, ?_⟩
 ·rw [← List.take_succ_eq_append_getElem (by omega),List.take_of_length_le (by omega)]
 ·have:=h.2 j (by simp;omega) (by omega)
  rw [List.getElem_append_left hj] at this
  simpa using this
 ·have:=h.2 l.length (by simp) (by omega)
  simpa using this
def zI : Jv:=⟨.sc 0 0 [],false,false⟩
theorem YJ (id : Nat) (u : VV) (s : List (List VV)) (c : List VV) (σ : Store) (ht : σ[id]?=some (.own [u])) (hP : Fa 13 σ u (s++[c])) (hne : ∀ i o n z,u=.bZ i o n z→i≠id) (hl : s.length≤1000) :
  CV Tryz.prog G0 39 [.mptr id 0] σ fun r σ'=>r=.ret (.agg c)∧σ.length≤σ'.length∧(∃ u',σ'[id]?=some (.own [u'])∧Fa 13 σ' u' s∧∀ i o n z,u'=.bZ i o n z→∃ o' n' z',u=.bZ i o' n' z')∧∀ j,j < σ.length→j≠id→σ'[j]?=σ[j]?:=by
 have hlt:=(List.getElem?_eq_some_iff.1 ht).1
 obtain ⟨i0,cells,rfl,hid,hcl,hat⟩:=hP.at (j:=s.length) (by simp)
 have hc : (s++[c])[s.length]=c:=by simp
 rw [hc] at hat
 have hB:=hP.blk
 have c1 : c.length=13:=hB.len _ (by simp)
 have c2 : c.all VV.aC=true:=hB.cell _ (by simp)
 have c3 : c.take 13=c:=List.take_of_length_le (by omega)
 have hi0:=hne _ _ _ _ rfl
 have hilt:=(List.getElem?_eq_some_iff.1 hid).1
 have ht' : ∀ υ,(σ++υ)[id]?=some (.own [.bZ i0 0 (s++[c]).length 13]):=fun υ=>by rw [List.getElem?_append_left hlt];exact ht
 have hid' : ∀ υ,(σ++υ)[i0]?=some (.own cells):=fun υ=>by rw [List.getElem?_append_left hilt];exact hid
 have hle : ∀ {σ'},aT Tryz.prog 91 (.bZ i0 0 (s++[c]).length 13) σ'=okV (.int .i64 (s++[c]).length) σ':=by intro σ';rw [hP.aT YB]
 have e1 : IntKind.i64.wrap (((s.length+1 : Nat) : Int)-1)=(s.length : Int):=by rw [iw (by omega)];omega
 have a0 : (0 : Int)≤(s.length : Int):=by omega
 have a2 : (s.length : Int) < ((s.length+1 : Nat) : Int):=by omega
 have a7 : (s.length : Int)≤((s.length+1 : Nat) : Int):=by omega
 have hPP : ∀ τ,τ[i0]?=some (.own cells)→Fa 13 τ (.bZ i0 0 s.length 13) s:=fun τ h=>by
  obtain ⟨i1,Yv,h1,h2,h3,h4⟩:=hP.row (by simp)
  cases h1
  rw [hid] at h2
  cases h2
  simp at h3 h4
  refine .own ⟨fun x hx=>hB.len x (by simp [hx]),fun x hx=>hB.pure x (by simp [hx]),fun x hx=>hB.cell x (by simp [hx])⟩ h ?_ (by omega)
  have:=congrArg (List.take (s.length*13)) h3
  rw [List.take_take,Nat.min_eq_left (by omega)] at this
  rw [this,List.take_append_of_le_length,List.take_of_length_le]
  ·have hBs : dh 13 s:=⟨fun x hx=>hB.len x (by simp [hx]),fun x hx=>hB.pure x (by simp [hx]),fun x hx=>hB.cell x (by simp [hx])⟩
   rw [hBs.flat];exact Nat.le_refl _
  ·have hBs : dh 13 s:=⟨fun x hx=>hB.len x (by simp [hx]),fun x hx=>hB.pure x (by simp [hx]),fun x hx=>hB.cell x (by simp [hx])⟩
   rw [hBs.flat];exact Nat.le_refl _
 have gB : ∀ A B X : Obj,((σ++[A,B]).set id X)[σ.length+1]?=some B:=fun A B X=>by rw [List.getElem?_set_ne (by omega)];simp
 have gA : ∀ A B X : Obj,((σ++[A,B]).set id X)[σ.length]?=some A:=fun A B X=>by rw [List.getElem?_set_ne (by omega)];simp
 have gS : ∀ A B X Y : Obj,(((σ++[A,B]).set id X).set σ.length Y)[σ.length]?=some Y:=fun A B X Y=>List.getElem?_set_self (by simp)
 refine cv e39 (by simp) ?_
 simp only [go_sem,seval,c39,ht',hid',hle,e1,a0,a2,a7,hcl,hat,c1,c2,c3,Int.toNat_natCast,Nat.sub_zero,and_false,if_false,gA,gB,gS,SS]
 refine ⟨by simp,⟨.bZ i0 0 s.length 13,by rw [List.getElem?_set_ne (by omega),List.getElem?_set_self (by simp;omega)],hPP _ (by rw [List.getElem?_set_ne (by omega),List.getElem?_set_ne (fun h=>hi0 h.symm)];exact hid' _),fun i o n z h=>by cases h;exact ⟨_,_,_,rfl⟩⟩,fun j hj hne=>by rw [List.getElem?_set_ne (by omega),List.getElem?_set_ne (fun h=>hne h.symm),List.getElem?_append_left hj]⟩
end Go.V
namespace Go.V
open Go.Proofs
set_option maxRecDepth 100000
theorem aaq {v w : T} {x y : Vl} (hv : oL v x) (hx : x.ok) (hw : oL w y) (hy : y.ok) : PV Tryz.prog G0 81 [x.vv,y.vv] (.bool (v.ord w == 0)):=by
 have hO:=Zz _ (Nat.le_refl v.nd) hv hx hw hy
 have d1 : x.cells.length=11:=rfl
 have d2 : x.cells.all VV.aC=true:=hx.cell
 have d3 : x.cells.take 11=x.cells:=rfl
 have f1 : y.cells.length=11:=rfl
 have f2 : y.cells.all VV.aC=true:=hy.cell
 have f3 : y.cells.take 11=y.cells:=rfl
 simp only [Vl.vv] at hO
 refine pv e81 (by simp) (by simp [VV.ak,VV.isPure,Vl.vv,hx.pure,hy.pure]) rfl ?_
 simp only [go_sem,seval,c81,Vl.vv,d1,d2,d3,f1,f2,f3]
 (first | refine ah (hO) ?_ | refine aK (hO) ?_ | refine aI (hO) ?_ | refine aj (hO) (by simp only [go_sem,seval]) ?_ | refine aj (hO) ?_ ?_)<;>simp only [go_sem,seval]
 exact fin (by rfl) rfl
def Jv.same (a b : Jv) : Bool:=(a.there == b.there) && (!a.there || (a.t.ord b.t == 0))
def Jv.ahead (a b : Jv) : Int:=if (a.there && b.there && (a.t.kq == b.t.kq))=true then a.t.ord b.t else 0
def Y7 (op : Int) (a b : Jv) : Bool :=
 if op=0 then a.same b else if op=1 then !a.same b else if op=2 then decide (a.ahead b < 0) else if op=3 then decide (a.ahead b < 0) || (a.same b && a.there) else if op=4 then decide (0 < a.ahead b) else decide (0 < a.ahead b) || (a.same b && a.there)
theorem aas (op : Int) {i j : Jv} {ci cj : List VV} (hi : Zi i ci) (hj : Zi j cj) : PV Tryz.prog G0 40 [.int .i64 op,.agg ci,.agg cj] (.bool (Y7 op i j)):=by
 obtain ⟨m1,m0,m2⟩:=hi.cells
 obtain ⟨n1,n0,n2⟩:=hj.cells
 have m3 : ci.take 13=ci:=List.take_of_length_le (by omega)
 have n3 : cj.take 13=cj:=List.take_of_length_le (by omega)
 cases hi with
 | @mk v x a a' hv hx =>
 cases hj with
 | @mk w y b b' hw hy =>
 have hOS:=aaq hv hx hw hy
 have hO:=Zz _ (Nat.le_refl v.nd) hv hx hw hy
 have hkx:=Uu x hx
 have hky:=Uu y hy
 simp only [Vl.vv] at hOS hO hkx hky
 rw [YM hv] at hkx
 rw [YM hw] at hky
 refine pv e40 (by simp) (by simp only [VV.ak,VV.isPure,m0,n0];rfl) rfl ?_
 obtain ⟨c1,hc1⟩ : ∃ c1,c1=x.cells++[.bool a,.bool a']:=⟨_,rfl⟩
 obtain ⟨c2,hc2⟩ : ∃ c2,c2=y.cells++[.bool b,.bool b']:=⟨_,rfl⟩
 rw [← hc1] at m1 m2 m3 ⊢
 rw [← hc2] at n1 n2 n3 ⊢
 have g1 : (c1.drop 0).take 11=x.cells:=by rw [hc1];rfl
 have g2 : c1.getD 11 .undef=.bool a:=by rw [hc1];rfl
 have k1 : (c2.drop 0).take 11=y.cells:=by rw [hc2];rfl
 have k2 : c2.getD 11 .undef=.bool b:=by rw [hc2];rfl
 have g3 : c1.take 11=x.cells:=by rw [hc1];rfl
 have k3 : c2.take 11=y.cells:=by rw [hc2];rfl
 have d1 : x.cells.length=11:=rfl
 have d2 : x.cells.all VV.aC=true:=hx.cell
 have f1 : y.cells.length=11:=rfl
 have f2 : y.cells.all VV.aC=true:=hy.cell
 refine eU (M:=fun ρ τ=>ρ.get 0=.int .i64 op∧ρ.get 4=.mptr 0 0∧ρ.get 5=.mptr 1 0∧τ=[.own c1,.own c2]) ?_ ?_
 ·simp only [go_sem,seval,c40,m1,m2,m3,n1,n2,n3]
 rintro ρ _ ⟨q0,q4,q5,rfl⟩
 refine eU (M:=fun ρ τ=>ρ.get 0=.int .i64 op∧ρ.get 4=.mptr 0 0∧ρ.get 5=.mptr 1 0∧ρ.get 7=.bool (Jv.same ⟨v,a,a'⟩ ⟨w,b,b'⟩)∧τ=[.own c1,.own c2]) ?_ ?_
 ·cases a<;>cases b
  ·simp only [go_sem,seval,q0,q4,q5,m1,n1,g2,k2,JQ]
   rfl
  ·simp only [go_sem,seval,q0,q4,q5,m1,n1,g2,k2,JQ]
   rfl
  ·simp only [go_sem,seval,q0,q4,q5,m1,n1,g2,k2,JQ]
   rfl
  ·simp only [go_sem,seval,q0,q4,q5,m1,n1,g1,g2,g3,k1,k2,k3,JQ]
   (first | refine ah (hOS) ?_ | refine aK (hOS) ?_ | refine aI (hOS) ?_ | refine aj (hOS) (by simp only [go_sem,seval,q0,q4,q5]) ?_ | refine aj (hOS) ?_ ?_)<;>simp only [go_sem,seval,q0,q4,q5]
   rfl
 rintro ρ _ ⟨q0,q4,q5,q7,rfl⟩
 refine eU (M:=fun ρ τ=>ρ.get 0=.int .i64 op∧ρ.get 4=.mptr 0 0∧ρ.get 5=.mptr 1 0∧ρ.get 7=.bool (Jv.same ⟨v,a,a'⟩ ⟨w,b,b'⟩)∧ρ.get 8=.int .i64 0∧τ=[.own c1,.own c2]) ?_ ?_
 ·simp only [go_sem,seval,q0,q4,q5,q7]
 rintro ρ _ ⟨q0,q4,q5,q7,q8,rfl⟩
 refine eU (M:=fun ρ τ=>ρ.get 0=.int .i64 op∧ρ.get 4=.mptr 0 0∧ρ.get 7=.bool (Jv.same ⟨v,a,a'⟩ ⟨w,b,b'⟩)∧ρ.get 8=.int .i64 (Jv.ahead ⟨v,a,a'⟩ ⟨w,b,b'⟩)∧τ=[.own c1,.own c2]) ?_ ?_
 ·cases a<;>cases b
  ·simp only [go_sem,seval,q0,q4,q5,q7,q8,m1,n1,g2,k2]
   rfl
  ·simp only [go_sem,seval,q0,q4,q5,q7,q8,m1,n1,g2,k2]
   rfl
  ·simp only [go_sem,seval,q0,q4,q5,q7,q8,m1,n1,g2,k2]
   rfl
  ·cases hkk : (v.kq == w.kq) with
   | false =>
    simp only [go_sem,seval,q0,q4,q5,q7,q8,m1,n1,g1,g2,g3,k1,k2,k3]
    (first | refine ah (hkx) ?_ | refine aK (hkx) ?_ | refine aI (hkx) ?_ | refine aj (hkx) (by simp only [go_sem,seval,q0,q4,q5,q7,q8,m1,n1,g1,g2,g3,k1,k2,k3]) ?_ | refine aj (hkx) ?_ ?_)<;>simp only [go_sem,seval,q0,q4,q5,q7,q8,m1,n1,g1,g2,g3,k1,k2,k3]
    (first | refine ah (hky) ?_ | refine aK (hky) ?_ | refine aI (hky) ?_ | refine aj (hky) (by simp only [go_sem,seval,q0,q4,q5,q7,q8,hkk]) ?_ | refine aj (hky) ?_ ?_)<;>simp only [go_sem,seval,q0,q4,q5,q7,q8,hkk]
    simp [Jv.ahead,hkk]
   | true =>
    simp only [go_sem,seval,q0,q4,q5,q7,q8,m1,n1,g1,g2,g3,k1,k2,k3]
    (first | refine ah (hkx) ?_ | refine aK (hkx) ?_ | refine aI (hkx) ?_ | refine aj (hkx) (by simp only [go_sem,seval,q0,q4,q5,q7,q8,m1,n1,g1,g2,g3,k1,k2,k3]) ?_ | refine aj (hkx) ?_ ?_)<;>simp only [go_sem,seval,q0,q4,q5,q7,q8,m1,n1,g1,g2,g3,k1,k2,k3]
    (first | refine ah (hky) ?_ | refine aK (hky) ?_ | refine aI (hky) ?_ | refine aj (hky) (by simp only [go_sem,seval,q0,q4,q5,q7,q8,hkk,m1,n1,g1,g2,g3,k1,k2,k3]) ?_ | refine aj (hky) ?_ ?_)<;>simp only [go_sem,seval,q0,q4,q5,q7,q8,hkk,m1,n1,g1,g2,g3,k1,k2,k3]
    (first | refine ah (hO) ?_ | refine aK (hO) ?_ | refine aI (hO) ?_ | refine aj (hO) (by simp only [go_sem,seval,q0,q4,q5,q7,q8]) ?_ | refine aj (hO) ?_ ?_)<;>simp only [go_sem,seval,q0,q4,q5,q7,q8]
    simp [Jv.ahead,hkk]
 rintro ρ _ ⟨q0,q4,q7,q8,rfl⟩
 unfold Y7
 generalize Jv.same ⟨v,a,a'⟩ ⟨w,b,b'⟩=S at *
 generalize Jv.ahead ⟨v,a,a'⟩ ⟨w,b,b'⟩=A at *
 by_cases h0 : op=0
 ·have b0 : (op == 0)=true:=by simpa using h0
  simp only [go_sem,seval,q0,q4,q7,q8,b0]
  exact fin (by rfl) (by rw [if_pos h0])
 have b0 : (op == 0)=false:=by simpa using h0
 by_cases h1 : op=1
 ·have b1 : (op == 1)=true:=by simpa using h1
  simp only [go_sem,seval,q0,q4,q7,q8,b0,b1]
  exact fin (by rfl) (by rw [if_neg h0,if_pos h1])
 have b1 : (op == 1)=false:=by simpa using h1
 by_cases h2 : op=2
 ·have b2 : (op == 2)=true:=by simpa using h2
  simp only [go_sem,seval,q0,q4,q7,q8,b0,b1,b2]
  exact fin (by rfl) (by rw [if_neg h0,if_neg h1,if_pos h2])
 have b2 : (op == 2)=false:=by simpa using h2
 by_cases h3 : op=3
 ·have b3 : (op == 3)=true:=by simpa using h3
  cases hA : decide (A < 0)<;>cases S<;>cases a <;>
  (simp only [go_sem,seval,q0,q4,q7,q8,b0,b1,b2,b3,hA,m1,g2]
   exact fin (by rfl) (by rw [if_neg h0,if_neg h1,if_neg h2,if_pos h3];try rfl))
 have b3 : (op == 3)=false:=by simpa using h3
 by_cases h4 : op=4
 ·have b4 : (op == 4)=true:=by simpa using h4
  simp only [go_sem,seval,q0,q4,q7,q8,b0,b1,b2,b3,b4]
  exact fin (by rfl) (by rw [if_neg h0,if_neg h1,if_neg h2,if_neg h3,if_pos h4])
 have b4 : (op == 4)=false:=by simpa using h4
 cases hA : decide (0 < A)<;>cases S<;>cases a <;>
 (simp only [go_sem,seval,q0,q4,q7,q8,b0,b1,b2,b3,b4,hA,m1,g2]
  exact fin (by rfl) (by rw [if_neg h0,if_neg h1,if_neg h2,if_neg h3,if_neg h4];try rfl))
end Go.V
