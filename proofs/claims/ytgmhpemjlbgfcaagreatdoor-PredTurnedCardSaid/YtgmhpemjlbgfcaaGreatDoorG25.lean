/- Texts F45 F46 F47 F48 F49. -/
import Derived.Test.YtgmhpemjlbgfcaaGreatDoorG21
import Derived.Test.YtgmhpemjlbgfcaaGreatDoorG23
import Derived.Test.YtgmhpemjlbgfcaaGreatDoorG24
set_option linter.unusedVariables false
set_option linter.unusedSimpArgs false
namespace Go.V
open Go.Proofs
set_option maxRecDepth 100000
theorem MX (v : VV) (ps : List iE) (h : dG 12 v (ps.map au)) (hok : ∀ p ∈ ps,p.2.ok) (hl : ps.length≤1000000) : YS (.ptr [.int .u32 0,.nils,v] 0) ps:=by
 intro a g caps J D σ hg hC hJ
 obtain ⟨L,hL⟩ : ∃ L,L=σ.length:=⟨_,rfl⟩
 have hvc:=h.cell
 have hB:=h.blk
 have hml : (ps.map au).length=ps.length:=by simp
 refine cv e184 (by simp) ?_
 simp only [go_sem,seval] at hvc
 have hlen:=h.aT (σ:=σ++[Obj.own [VV.fn (Fn.func g) [] caps]]) iZ
 rw [hml] at hlen
 simp only [go_sem,seval,c184,hvc,hlen]
 refine bf (M:=fun ρ σ'=>ρ.get 0=.ptr [.int .u32 0,.nils,v] 0∧Done J (a+ps.length) D σ σ') ?_ ?_
 rotate_left
 ·refine aF (fun m ρ σ'=>∃ i : Nat,m=ps.length-i∧i≤ps.length∧ρ.get 0=.ptr [.int .u32 0,.nils,v] 0∧ρ.get 3=.mptr L 0∧ρ.get 13=v∧ρ.get 14=.int .i64 ps.length∧ρ.get 15=.int .i64 i∧(∃ D1,J (a+i) D1 σ'∧Grow D (σ++[.own [.fn (.func g) [] caps]]) D1∧High D (σ++[.own [.fn (.func g) [] caps]]) σ')) (n:=ps.length) ?_ ⟨0,rfl,by omega,rfl,by rw [hL];rfl,rfl,rfl,rfl,D,hC.snoc hJ _,.refl _ _,.refl _ _⟩
  rintro m ρ σ' ⟨i,rfl,hi,q0,q3,q13,q14,q15,D1,hJi,hG,hH⟩
  simp only [go_sem,seval,q0,q3,q13,q14,q15]
  refine aG (fun hc=>?_) (fun hc=>?_)
  ·have hc' : i < ps.length:=by simpa using hc
   have hLD : ¬ D L:=fun h=>by have:=hC.dom _ _ _ hJ L h;omega
   have hbox : σ'[L]?=some (.own [.fn (.func g) [] caps]):=by rw [hH.same L (by simp [hL]) hLD];simp [hL]
   obtain ⟨t,rfl⟩:=h.fP (by intro e;rw [e] at hml;simp at hml;omega)
   have hpo:=hok ps[i] (List.getElem_mem _)
   have c1 : (0 : Int)≤(i : Int):=by omega
   have c2 : (i : Int) < ((ps.map au).length : Int):=by omega
   have c3 : i*12+12≤(ps.map au).flatten.length:=by rw [hB.flat,hml];omega
   have c4 : ((ps.map au).flatten.drop (i*12)).take 12=au ps[i]:=by
    have:=hB.og (i:=i) (by omega)
    rw [this];simp
   have c6 : IntKind.i64.wrap ((i : Int)+1)=((i+1 : Nat) : Int):=by rw [iw (by omega)];omega
   have c7 : (au ps[i]).length=12:=rfl
   have c8:=uH hpo
   have c9 : (au ps[i]).take 12=au ps[i]:=rfl
   have hLl:=(List.getElem?_eq_some_iff.1 hbox).1
   have hbox' : (σ'++[Obj.own (au ps[i])])[L]?=some (.own [.fn (.func g) [] caps]):=by rw [List.getElem?_append_left hLl];exact hbox
   simp only [go_sem,seval,q0,q3,q13,q14,q15,c1,c2,c3,c4,c7,c8,c9,Int.toNat_natCast,hbox',SS]
   have hcall:=hC.call (a+i) D1 (σ'++[.own (au ps[i])]) _ (by omega) (by omega) (uY hc') (hC.snoc hJi _)
   refine kC hcall ?_
   rintro _ σ₂ ⟨rfl,hJ2⟩
   simp only [go_sem,seval,gZ,q0,q3,q13,q14,q15,c6]
   exact ⟨ps.length-(i+1),by omega,i+1,rfl,by omega,rfl,Done.trans hG hH hJ2.app⟩
  ·have hc' : i=ps.length:=by simp at hc;omega
   subst hc'
   simp only [go_sem,seval,q0,q3,q13,q14,q15]
   exact Done.app (τ:=[.own [.fn (.func g) [] caps]]) ⟨D1,hJi,hG,hH⟩
 ·rintro ρ σ' ⟨q0,D1,j1,hG1,hH1⟩
  simp only [go_sem,seval,q0]
  refine ah (Fg 0 .nils rfl rfl) ?_<;>simp only [go_sem,seval]
  intro lp hlp
  have hdom:=hC.dom _ _ _ j1
  refine CV.mono (Bc 0 .nils [] .nil (.yield σ'.length) (fun k D' τ=>∃ D2,(∀ id,D' id↔D2 id∨id=σ'.length)∧¬ D2 σ'.length∧J (a+ps.length) D2 τ∧τ[σ'.length]?=some (.loop lp)) (fun id=>D1 id∨id=σ'.length) _ (by simp) ⟨?_, ?_, ?_⟩ ⟨D1,fun _=>.rfl,fun h=>by have:=hdom _ h;omega,hC.snoc j1 _,by simp⟩) ?_
  ·rintro i D' τ ⟨D2,d1,d2,b1,b2⟩ id hid
   rcases (d1 id).1 hid with h | rfl
   ·exact hC.dom _ _ _ b1 id h
   ·exact (List.getElem?_eq_some_iff.1 b2).1
  ·rintro i D' τ τ' ⟨D2,d1,d2,b1,b2⟩ hlow
   exact ⟨D2,d1,d2,hC.low _ _ _ _ b1 ⟨hlow.len,fun id hid=>hlow.same id ((d1 id).2 (.inl hid))⟩,(hlow.same _ ((d1 _).2 (.inr rfl))).trans b2⟩
  ·intro i D' τ args _ hi
   simp at hi
  ·rintro _ τ ⟨rfl,D',⟨D2,d1,d2,b1,b4⟩,hG,hH⟩
   refine ⟨lp,b4,by rw [hlp.st];simp, ?_⟩
   rw [hlp.pe]
   simp only [go_sem,seval,xq]
   have hl1:=hH.len
   simp only [List.length_append,List.length_cons,List.length_nil] at hl1
   refine Done.trans hG1 hH1 ⟨D2,hC.low _ _ _ _ b1 (.set d2),fun id hid=>?_,⟨by simp;omega,fun id a b=>?_⟩⟩
   ·rcases hG id ((d1 id).2 (.inl hid)) with (h | h) | h
    ·exact .inl h
    ·exact .inr (by omega)
    ·refine .inr ?_
     simp only [List.length_append] at h;omega
   ·rw [List.getElem?_set_ne (by omega),hH.same id (by simp;omega) (fun h=>h.elim b (fun h=>by omega))]
    simp [List.getElem?_append_left a]
theorem Oy {sm : Bs→Int} {L : Nat} {c : Nat→Nat} {v : VV} {ps : List iE} (h : HN sm L c v ps) : (∀ p ∈ ps,p.2.ok)→ps.length≤1000000→YS v ps:=by
 induction h with
 | deep h=>exact fun hok hl=>MX _ _ h hok hl
 | @row L c x l S hL hR h1 h2 ih =>
  intro hok hl
  have hsub : ∀ i,i < 32→∀ p ∈ (S i).ps,p ∈ iW S:=fun i hi p hp=>List.mem_flatMap.2 ⟨i,List.mem_range.2 hi,hp⟩
  refine Ro x l S hR (fun i p hi hS=>hok p (hsub i hi p (by rw [hS];simp [Sl.ps]))) (fun i v ps hi hS=>⟨ih i v ps hi hS (fun p hp=>hok p (hsub i hi p (by rw [hS];exact hp))) ?_, ?_⟩)
  ·have:=(l9 S hi).length_eq
   rw [List.length_append,hS] at this
   simp only [Sl.ps] at this
   omega
  ·obtain ⟨_,_,_,rfl,_⟩:=(h2 i v ps hi hS).cells
   exact ⟨_,rfl⟩
theorem EF {P : Program} {t tx e : TypeId} {k by_ : Nat} {z : List VV} {σ : Store} {ys : List (List VV)} {x : VV} (ht : iF P t=some e) (hk : eH P e=some k) (hy : Yr P e=some by_) (hz : bG P e=some z) (hzk : z.length=k) (hk0 : 0 < k) (hb : by_≤1000) (hC : dh k ys) (hl : ys.length≤1000000) (hne : ys≠[])
  (hx : aJ P σ k tx x=some (ys.length,ys.flatten)) : ∃ p,p∧bF P t tx .nils x σ=some ⟨p,.bZ σ.length 0 ys.length k,σ++[.own ys.flatten]⟩:=by
 have hne' : ys.length≠0:=fun h=>hne (List.eq_nil_of_length_eq_zero h)
 refine ⟨_, ?_,by simp only [bF,ht,hk,hy,hz,hx,if_neg hne'];rfl⟩
 have:=Nat.mul_le_mul hl hb
 refine ⟨by omega, ?_,hC.flat,hk0,hC.xg,hzk⟩
 rw [Nat.zero_add];omega
theorem tq {t tx e : TypeId} {k by_ : Nat} {z : List VV} {σ : Store} {ys : List (List VV)} {x : VV} (ht : iF Tryz.prog t=some e) (hk : eH Tryz.prog e=some k) (hy : Yr Tryz.prog e=some by_) (hz : bG Tryz.prog e=some z) (hzk : z.length=k) (hk0 : 0 < k) (hb : by_≤1000) (hC : dh k ys) (hl : ys.length≤1000000) (hne : ys≠[])
  (hx : aJ Tryz.prog σ k tx x=some (ys.length,ys.flatten)) {d : Option Nat} {r : List VO} {Q : Out→Env→Store→Prop} {ρ : Env} (h : bM Tryz.prog G0 r Q (dB ρ d (.bZ σ.length 0 ys.length k)) (σ++[.own ys.flatten])) : eF Tryz.prog G0 (bF Tryz.prog t tx .nils x σ) d r Q ρ:=by
 obtain ⟨p,hp,he⟩:=EF ht hk hy hz hzk hk0 hb hC hl hne hx
 rw [he]
 exact ⟨hp,h⟩
theorem TT {σ : Store} {y : List VV} {tg : Bool} (hC : dh 12 [y]) : aJ Tryz.prog σ 12 225 (.sl 1 y tg)=some ([y].length,[y].flatten):=by
 have:=(dG.sl [y] tg hC).src (P:=Tryz.prog) (σ:=σ) iZ
 simpa using this
theorem Ny (id : Nat) (v : VV) (p : iE) (done : List iE) (σ : Store) (hp : p.2.ok) (hd : ∀ p ∈ done,p.2.ok) (hl : done.length+1≤1000000) (hσ : σ[id]?=some (.own [v])) (hv : (done=[]∧v=.nils)∨∃ jd,jd≠id∧v=.bZ jd 0 done.length 12∧σ[jd]?=some (.own (done.map au).flatten)) :
  CV Tryz.prog G0 185 [.agg (au p),.mptr id 0] σ fun c σ'=>c=.ret (.tup [])∧∃ jd,σ.length≤jd∧σ'[id]?=some (.own [.bZ jd 0 (done.length+1) 12])∧σ'[jd]?=some (.own ((done++[p]).map au).flatten)∧High (fun i=>i=id∨∃ n,v=.bZ i 0 n 12) σ σ':=by
 refine cv e185 (by simp) ?_
 have hlt:=(List.getElem?_eq_some_iff.1 hσ).1
 have hB:=Ah hd
 have hC:=mM hp
 have hσ' : ∀ τ,(σ++τ)[id]?=some (.own [v]):=fun τ=>by rw [List.getElem?_append_left hlt];exact hσ
 have d7 : (au p).length=12:=rfl
 have d8:=uH hp
 have d9 : (au p).take 12=au p:=rfl
 rcases hv with ⟨rfl,rfl⟩ | ⟨jd,hj,rfl,hjd⟩
 ·simp only [go_sem,seval,c185,hσ',d7,d8,d9,SS]
  refine tq (ys:=[au p]) iZ qK qM lX rfl (by decide) (by decide) hC (by simp) (by simp) (TT hC) ?_
  simp only [go_sem,seval,hσ',SS]
  refine ⟨σ.length+1,by omega, ?_, ?_,⟨by simp,fun i h1 h2=>?_⟩⟩
  ·rw [List.getElem?_set_self (by simp;omega)]
  ·rw [List.getElem?_set_ne (by omega)];simp
  ·rw [List.getElem?_set_ne (fun e=>h2 (.inl e.symm)),List.getElem?_append_left h1]
 ·have hjl:=(List.getElem?_eq_some_iff.1 hjd).1
  have hjd' : ∀ τ,(σ++τ)[jd]?=some (.own (done.map au).flatten):=fun τ=>by rw [List.getElem?_append_left hjl];exact hjd
  simp only [go_sem,seval,c185,hσ',d7,d8,d9,SS]
  refine jC (xs:=done.map au) (ys:=[au p]) iZ qK qM lX rfl (by decide) (by decide) (hjd' _) hB hC (by simpa using hl) (by simp) (TT hC) ?_
  have hτ : (List.set (σ++[Obj.own (au p)]) jd Obj.dead++[Obj.own (List.map au done++[au p]).flatten])[id]?=some (.own [.bZ jd 0 done.length 12]):=by
   rw [List.getElem?_append_left (by simp;omega),List.getElem?_set_ne (by omega)];exact hσ' _
  simp only [go_sem,seval,hτ,SS]
  refine ⟨σ.length+1,by omega, ?_, ?_,⟨by simp;omega,fun i h1 h2=>?_⟩⟩
  ·rw [List.getElem?_set_self (by simp;omega)];simp
  ·rw [List.getElem?_set_ne (by omega),List.getElem?_append_right (by simp)];simp
  ·rw [List.getElem?_set_ne (fun e=>h2 (.inl e.symm)),List.getElem?_append_left (by simp;omega),List.getElem?_set_ne (fun e=>h2 (.inr ⟨_,by rw [e]⟩)),List.getElem?_append_left h1]
end Go.V
namespace Go.V
open Go.Proofs
set_option maxRecDepth 100000
theorem Rh : PV Tryz.prog G0 186 [.nils,.fn (.func 187) [] []] (.tup []):=by
 have hins : PV Tryz.prog G0 244 [.nils,.int .i64 0,.int .i64 0,.fn (.func 187) [] []] (.tup []):=by
  refine pv e244 (by simp) rfl rfl ?_
  simp only [go_sem,seval,c244]
  refine iH ?_
  simp only [go_sem,seval]
  exact fin (by rfl) rfl
 have hlen : PV Tryz.prog G0 227 [.int .u64 0] (.int .i64 0):=by
  have h64 : PV Tryz.prog G0 253 [.int .u64 0] (.int .i64 0):=by
   refine pv e253 (by simp) rfl rfl ?_
   simp only [go_sem,seval,c253]
   exact ⟨by decide,fin (by rfl) (congrArg (VV.int .i64) (by decide))⟩
  refine pv e227 (by simp) rfl rfl ?_
  simp only [go_sem,seval,c227]
  refine ah (h64) ?_<;>simp only [go_sem,seval]
  exact fin (by rfl) rfl
 have hpdq : PV Tryz.prog G0 226 [.nils,.int .i64 0,.int .i64 0,.int .i64 0,.fn (.func 187) [] []] (.tup []):=by
  refine pv e226 (by simp) rfl rfl ?_
  simp only [go_sem,seval,c226]
  refine iH ?_
  simp only [go_sem,seval]
  refine ah (hins) ?_<;>simp only [go_sem,seval]
  exact fin (by rfl) rfl
 have w0 : IntKind.u64.wrap 0=0:=by decide
 refine pv e186 (by simp) rfl rfl ?_
 simp only [go_sem,seval,c186,w0]
 refine ah (hlen) ?_<;>simp only [go_sem,seval]
 refine ah (hpdq) ?_<;>simp only [go_sem,seval]
 exact fin (by rfl) rfl
def lQ (sm : Bs→Int) (hr : VV) (ps : List iE) : Prop:=(hr=.nilp∧ps=[])∨HN sm 0 (fun _=>0) hr ps
theorem lQ.pure {sm : Bs→Int} {hr : VV} {ps : List iE} (h : lQ sm hr ps) : hr.isPure=true:=by
 rcases h with ⟨rfl,_⟩ | h
 ·rfl
 ·exact h.pure
theorem lQ.cell {sm : Bs→Int} {hr : VV} {ps : List iE} (h : lQ sm hr ps) : hr.aC=true:=by
 rcases h with ⟨rfl,_⟩ | h
 ·rfl
 ·obtain ⟨_,_,_,rfl,_⟩:=h.cells;rfl
theorem lQ.nodup {sm : Bs→Int} {hr : VV} {ps : List iE} (h : lQ sm hr ps) : jI ps:=by
 rcases h with ⟨_,rfl⟩ | h
 ·exact .nil
 ·exact h.nodup
theorem IB : YS .nilp []:=by
 intro a g caps J D σ hg hC hJ
 refine cv e184 (by simp) ?_
 simp only [go_sem,seval,c184]
 exact Done.app (.refl (hC.snoc hJ _))
theorem lQ.each {sm : Bs→Int} {hr : VV} {ps : List iE} (h : lQ sm hr ps) (hok : ∀ p ∈ ps,p.2.ok) (hl : ps.length≤1000000) : YS hr ps:=by
 rcases h with ⟨rfl,rfl⟩ | h
 ·exact IB
 ·exact Oy h hok hl
def Dw (ps : List iE) (i : Nat) (D : DS) (τ : Store) : Prop:=∃ v,τ[1]?=some (.own [v])∧((i=0∧v=.nils∧∀ id,D id↔id=1)∨(0 < i∧∃ jd,jd≠1∧v=.bZ jd 0 i 12∧τ[jd]?=some (.own ((ps.take i).map au).flatten)∧∀ id,D id↔id=1∨id=jd))
theorem Dw.cls (ps : List iE) (hok : ∀ p ∈ ps,p.2.ok) (hl : ps.length≤1000000) : Cls (.fn (.func 185) [] [.mptr 1 0]) (Dw ps) (AO ps 0) 0 (0+ps.length) (.tup []):=by
 refine ⟨?_, ?_, ?_⟩
 ·rintro i D τ ⟨v,h1,⟨_,_,hD⟩ | ⟨_,jd,hj,_,h2,hD⟩⟩ id hid
  ·obtain rfl:=(hD id).1 hid
   exact (List.getElem?_eq_some_iff.1 h1).1
  ·rcases (hD id).1 hid with rfl | rfl
   ·exact (List.getElem?_eq_some_iff.1 h1).1
   ·exact (List.getElem?_eq_some_iff.1 h2).1
 ·rintro i D τ τ' ⟨v,h1,h⟩ hlow
  rcases h with ⟨a,b,hD⟩ | ⟨a,jd,hj,b,h2,hD⟩
  ·exact ⟨v,(hlow.same 1 ((hD 1).2 rfl)).trans h1,.inl ⟨a,b,hD⟩⟩
  ·exact ⟨v,(hlow.same 1 ((hD 1).2 (.inl rfl))).trans h1,.inr ⟨a,jd,hj,b,(hlow.same jd ((hD jd).2 (.inr rfl))).trans h2,hD⟩⟩
 ·rintro i D τ args _ hi ha ⟨v,h1,h⟩
  have hi' : i < ps.length:=by omega
  obtain rfl:=D7 hi' (by rw [Nat.zero_add];exact ha)
  have hcl : (ps.take i).length=i:=by simp;omega
  refine ⟨Bv, ?_⟩
  refine CV.mono (Ny 1 v ps[i] (ps.take i) τ (hok _ (List.getElem_mem _)) (fun p hp=>hok p (List.mem_of_mem_take hp)) (by omega) h1 ?_) ?_
  ·rcases h with ⟨rfl,b,_⟩ | ⟨a,jd,hj,b,h2,hD⟩
   ·exact .inl ⟨by simp,b⟩
   ·exact .inr ⟨jd,hj,by rw [hcl];exact b,h2⟩
  ·rintro _ τ' ⟨rfl,jd,hj,h3,h4,hH⟩
   rw [hcl] at h3
   have hl1:=(List.getElem?_eq_some_iff.1 h1).1
   refine ⟨rfl,fun id=>id=1∨id=jd,⟨_,h3,.inr ⟨by omega,jd,by omega,rfl, ?_,fun _=>.rfl⟩⟩,fun id hid=>?_,⟨hH.len,fun id a b=>hH.same id a fun hc=>?_⟩⟩
   ·rw [List.take_succ_eq_append_getElem hi'];exact h4
   ·rcases hid with rfl | rfl
    ·rcases h with ⟨_,_,hD⟩ | ⟨_,jd',_,_,_,hD⟩
     ·exact .inl ((hD 1).2 rfl)
     ·exact .inl ((hD 1).2 (.inl rfl))
    ·exact .inr hj
   ·rcases h with ⟨_,e,hD⟩ | ⟨_,jd',_,e,_,hD⟩
    ·rcases hc with rfl | ⟨n,hc⟩
     ·exact b ((hD _).2 rfl)
     ·rw [e] at hc;cases hc
    ·rcases hc with rfl | ⟨n,hc⟩
     ·exact b ((hD _).2 (.inl rfl))
     ·rw [e] at hc;cases hc;exact b ((hD _).2 (.inr rfl))
theorem QY {sm : Bs→Int} (seed bits m : Int) (hr : VV) (ps : List iE) (h : lQ sm hr ps) (hok : ∀ p ∈ ps,p.2.ok) (hl : ps.length≤1000000) :
  ∃ v : VV,dG 12 v ((kP ps).map au)∧PV Tryz.prog G0 144 [.agg [.int .u64 seed,.int .i64 bits,.int .i64 m,hr]] v:=by
 have hp:=h.pure
 have hc:=h.cell
 have hnd:=h.nodup
 have hsp:=kX hnd
 have hE:=fun σ=>h.each hok hl 0 185 [.mptr 1 0] (Dw ps) (·=1) σ Bv (Dw.cls ps hok hl)
 have hnul : ps=[]∨0 < ps.length:=by cases ps<;>simp
 rcases hnul with he | he
 ·subst he
  refine ⟨.nils,.nil, ?_⟩
  refine pv e144 (by simp) (by simp [VV.ak,VV.isPure,hp]) rfl ?_
  simp only [go_sem,seval] at hc
  simp only [go_sem,seval,c144,hc]
  refine CV.mono (hE _ ⟨.nils,rfl,.inl ⟨rfl,rfl,fun _=>.rfl⟩⟩) ?_
  rintro _ τ ⟨rfl,D',⟨v,h1,⟨_,rfl,_⟩ | ⟨h,_⟩⟩,_,hH⟩
  ·simp only [go_sem,seval,gZ,h1]
   refine ah (Rh) ?_<;>simp only [go_sem,seval,h1]
   exact fin (by rfl) rfl
  ·simp at h
 ·have hB:=Ah (ps:=kP ps) fun p hp=>hok p (hsp.mem_iff.1 hp)
  refine ⟨.sl ps.length ((kP ps).map au).flatten false,dG.of hB (by simp [hsp.length_eq]) rfl, ?_⟩
  refine pv e144 (by simp) (by simp [VV.ak,VV.isPure,hp]) (by simp only [VV.isPure];exact hB.pW) ?_
  simp only [go_sem,seval] at hc
  simp only [go_sem,seval,c144,hc]
  refine CV.mono (hE _ ⟨.nils,rfl,.inl ⟨rfl,rfl,fun _=>.rfl⟩⟩) ?_
  rintro _ τ ⟨rfl,D',⟨v,h1,⟨h,_⟩ | ⟨_,jd,hj,rfl,h2,_⟩⟩,_,hH⟩
  ·omega
  rw [Nat.zero_add] at h1 h2
  rw [List.take_length] at h2
  have hjl:=(List.getElem?_eq_some_iff.1 h2).1
  have hn0 : 0+ps.length=ps.length:=Nat.zero_add _
  simp only [go_sem,seval,gZ,h1,hn0]
  refine CV.mono (Uo jd ps.length ps hok τ h2 rfl he (by omega)) ?_
  rintro _ τ2 ⟨rfl,qs,hq1,hq2,rfl⟩
  have hqs : kP ps=qs:=I8 (QC hq2 (hnd.perm hq1.symm)) hq1
  have h3 : (τ.set jd (.own (qs.map au).flatten))[1]?=some (.own [.bZ jd 0 ps.length 12]):=by rw [List.getElem?_set_ne hj];exact h1
  simp only [go_sem,seval,gZ,h3]
  refine ⟨_,1,rfl, ?_⟩
  rw [hqs] at hB ⊢
  have:=BU (σ:=List.map Obj.fr (τ.set jd (.own (qs.map au).flatten))) (id:=jd) (n:=ps.length) (k:=12) (xs:=qs.map au) (by rw [List.getElem?_map,List.getElem?_set_self hjl];rfl) hB (by simp [hq1.length_eq])
  rw [this]
  simp [hq1.length_eq]
end Go.V
namespace Go.V
open Go.Proofs
set_option maxRecDepth 100000
theorem Zl (seed bits m : Int) (hr : VV) (hp : hr.isPure=true) (hc : hr.aC=true) : PV Tryz.prog G0 96 [.agg [.int .u64 seed,.int .i64 bits,.int .i64 m,hr]] (.fn (.func 143) [] [.ptr [.int .u64 seed,.int .i64 bits,.int .i64 m,hr] 0]):=by
 refine pv e96 (by simp) (by simp [VV.ak,VV.isPure,hp]) (by simp [VV.ak,VV.isPure,hp]) ?_
 simp only [go_sem,seval] at hc
 simp only [go_sem,seval,c96,hc]
 refine ⟨_,2,rfl, ?_⟩
 simp [fz,VV.isPure,VV.ak,Obj.fr,hp]
def yJ (qs : List iE) (i : Nat) (args : List VV) : Prop:=args=[.str (qs.getD i ([],Vl.zero)).1,(qs.getD i ([],Vl.zero)).2.vv]
theorem Y2 {qs : List iE} {i : Nat} (h : i < qs.length) : yJ qs i [.str qs[i].1,qs[i].2.vv]:=by
 simp [yJ,List.getD_eq_getElem?_getD,h]
theorem BD {qs : List iE} {i : Nat} (h : i < qs.length) {args : List VV} (ha : yJ qs i args) : args=[.str qs[i].1,qs[i].2.vv]:=by
 have:=Y2 h
 unfold yJ at this ha
 rw [ha,this]
theorem Ld {sm : Bs→Int} (seed bits m : Int) (hr : VV) (ps : List iE) (h : lQ sm hr ps) (hok : ∀ p ∈ ps,p.2.ok) (hl : ps.length≤1000000) (fv : VV) (J : Nat→DS→Store→Prop) (D : DS) (σ : Store) (hC : Cls fv J (yJ (kP ps)) 0 ps.length (.bool true)) (hJ : J 0 D σ) :
  CV Tryz.prog G0 143 [fv,.ptr [.int .u64 seed,.int .i64 bits,.int .i64 m,hr] 0] σ fun c σ'=>c=.ret (.tup [])∧Done J ps.length D σ σ':=by
 refine cv e143 (by simp) ?_
 obtain ⟨v,hv,hP⟩:=QY seed bits m hr ps h hok hl
 have hsp:=kX h.nodup
 have hsl:=hsp.length_eq
 have hoks : ∀ p ∈ kP ps,p.2.ok:=fun p hp=>hok p (hsp.mem_iff.1 hp)
 generalize kP ps=qs at *
 have hB:=hv.blk
 have hlc:=hv.cell
 have hhc:=h.cell
 have hml : (qs.map au).length=ps.length:=by simp [hsl]
 have hlen:=hv.aT (σ:=σ) iZ
 rw [hml] at hlen
 simp only [go_sem,seval] at hlc
 simp only [go_sem,seval] at hhc
 simp only [go_sem,seval,c143,hhc]
 refine ah (hP) ?_<;>simp only [go_sem,seval,hlen]
 refine aF (fun m ρ σ'=>∃ (i : Nat),m=ps.length-i∧i≤ps.length∧ρ.get 0=fv∧ρ.get 6=v∧ρ.get 7=.int .i64 ps.length∧ρ.get 8=.int .i64 i∧Done J i D σ σ') (n:=ps.length) ?_ ⟨0,rfl,by omega,rfl,rfl,rfl,rfl,.refl hJ⟩
 rintro m ρ σ' ⟨i,rfl,hi,q0,q6,q7,q8,hJi⟩
 simp only [go_sem,seval,q0,q6,q7,q8]
 refine aG (fun hc=>?_) (fun hc=>?_)
 ·have hc' : i < ps.length:=by simpa using hc
  have hq' : i < qs.length:=by omega
  obtain ⟨t,rfl⟩:=hv.fP (by intro e;rw [e] at hml;simp at hml;omega)
  have hpo:=hoks qs[i] (List.getElem_mem _)
  have c1 : (0 : Int)≤(i : Int):=by omega
  have c2 : (i : Int) < ((qs.map au).length : Int):=by omega
  have c3 : i*12+12≤(qs.map au).flatten.length:=by rw [hB.flat,hml];omega
  have c4 : ((qs.map au).flatten.drop (i*12)).take 12=au qs[i]:=by
   have:=hB.og (i:=i) (by omega)
   rw [this];simp
  have c6 : IntKind.i64.wrap ((i : Int)+1)=((i+1 : Nat) : Int):=by rw [iw (by omega)];omega
  have c7 : (au qs[i]).length=12:=rfl
  have c8:=uH hpo
  have c9 : (au qs[i]).take 12=au qs[i]:=rfl
  have d1 : (au qs[i]).getD 0 .undef=.str qs[i].1:=rfl
  have d2 : (List.drop 1 (au qs[i])).take 11=qs[i].2.cells:=rfl
  have d3:=hpo.cell
  have d4 : qs[i].2.cells.length=11:=rfl
  have d5 : qs[i].2.cells.all VV.aC=true:=d3
  have d6 : qs[i].2.cells.take 11=qs[i].2.cells:=rfl
  simp only [go_sem,seval,q0,q6,q7,q8,c1,c2,c3,c4,c7,c8,c9,d1,d2,d4,d5,d6,Int.toNat_natCast,SS]
  obtain ⟨D1,j1,g1,hh1⟩:=hJi
  refine kC (hC.call i D1 _ _ (by omega) hc' (Y2 hq') (hC.snoc j1 _)) ?_
  rintro _ σ₂ ⟨rfl,hJ2⟩
  simp only [go_sem,seval,gZ,q0,q6,q7,q8,c6,Bool.not_true]
  exact ⟨ps.length-(i+1),by omega,i+1,rfl,by omega,rfl,Done.trans g1 hh1 hJ2.app⟩
 ·have hc' : i=ps.length:=by simp at hc;omega
  subst hc'
  simp only [go_sem,seval,q0,q6,q7,q8]
  exact hJi
def mkArgs (k : Int) (qs : List iE) (i : Nat) (args : List VV) : Prop:=args=[.agg [.int .i64 (k-4),.int .i64 0,.str (qs.getD i ([],Vl.zero)).1],(qs.getD i ([],Vl.zero)).2.vv]
theorem wC {k : Int} {qs : List iE} {i : Nat} (h : i < qs.length) : mkArgs k qs i [.agg [.int .i64 (k-4),.int .i64 0,.str qs[i].1],qs[i].2.vv]:=by
 simp [mkArgs,List.getD_eq_getElem?_getD,h]
theorem nD {k : Int} {qs : List iE} {i : Nat} (h : i < qs.length) {args : List VV} (ha : mkArgs k qs i args) : args=[.agg [.int .i64 (k-4),.int .i64 0,.str qs[i].1],qs[i].2.vv]:=by
 have:=wC (k:=k) h
 unfold mkArgs at this ha
 rw [ha,this]
theorem lN {sm : Bs→Int} (k : Int) (hk : k=5∨k=6) (sk si : Int) (st : Bs) (root : VV) (hrt : root.aC=true) (seed bits m : Int) (hr : VV) (ps : List iE) (h : lQ sm hr ps) (hok : ∀ p ∈ ps,p.2.ok) (hl : ps.length≤1000000) (below more : Int) (g : FuncId) (hg : ay Tryz.prog g=true) (caps : List VV) (J : Nat→DS→Store→Prop) (D : DS) (σ : Store)
  (hC : Cls (.fn (.func g) [] caps) J (mkArgs k (kP ps)) 0 ps.length (.tup [])) (hJ : J 0 D σ) :
  CV Tryz.prog G0 49 [Zk sk si st k root seed bits m hr below more,.fn (.func g) [] caps] σ fun c σ'=>c=.ret (.tup [])∧Done J ps.length D σ σ':=by
 refine cv e49 (by simp) ?_
 have hc:=h.cell
 have hp:=h.pure
 have hhc:=hc
 have hhr:=hrt
 simp only [go_sem,seval] at hc
 simp only [go_sem,seval] at hhr
 obtain ⟨b4,b6,b5,b7⟩ : (k == 4)=false∧(k == 6)=decide (k=6)∧(k == 5)=decide (k=5)∧(k=5→k≠6):=by rcases hk with rfl | rfl<;>decide
 have hsp:=kX h.nodup
 have hsl:=hsp.length_eq
 have hoks : ∀ p ∈ kP ps,p.2.ok:=fun p hp=>hok p (hsp.mem_iff.1 hp)
 have hmA:=fun l'=>Ld seed bits m hr ps h hok hl (.yield l')
 generalize kP ps=qs at *
 rcases hk with rfl | rfl
 ·simp only [go_sem,seval,c49,Zk,hc,hhr,SS]
  refine ah (Zl seed bits m hr hp hhc) ?_<;>simp only [go_sem,seval,SS]
  intro l hl'
  obtain ⟨L,hL⟩ : ∃ L,L=σ.length:=⟨_,rfl⟩
  rw [← hL]
  have hdom:=hC.dom _ _ _ hJ
  refine CV.mono (hmA (L+3) (fun i D' τ=>∃ D,(∀ id,D' id↔D id∨(L≤id∧id < L+4))∧(∀ id,L≤id→id < L+4→¬ D id)∧J i D τ∧L+4≤τ.length∧τ[L+1]?=some (.own [.fn (.func g) [] caps])∧(∃ j : Bs,τ[L+2]?=some (.own [.int .i64 1,.int .i64 0,.str j]))∧τ[L+3]?=some (.loop l))
   (fun id=>D id∨(L≤id∧id < L+4)) _ ⟨?_, ?_, ?_⟩ ⟨D,fun _=>.rfl,fun id h1 h2 h3=>by have:=hdom id h3;omega,hC.snoc hJ _,by simp [hL],by simp [hL],⟨[],by simp [hL]⟩,by simp [hL]⟩) ?_
  ·rintro i D' τ ⟨D,d1,d2,h1,h2,_⟩ id hid
   rcases (d1 id).1 hid with h | h
   ·exact hC.dom _ _ _ h1 id h
   ·omega
  ·rintro i D' τ τ' ⟨D,d1,d2,h1,h2,h3,⟨j,h4⟩,h5⟩ hlow
   have hs : ∀ id,L≤id→id < L+4→τ'[id]?=τ[id]?:=fun id a b=>hlow.same id ((d1 id).2 (.inr ⟨a,b⟩))
   exact ⟨D,d1,d2,hC.low _ _ _ _ h1 ⟨hlow.len,fun id hid=>hlow.same id ((d1 id).2 (.inl hid))⟩,Nat.le_trans h2 hlow.len,(hs _ (by omega) (by omega)).trans h3,⟨j,(hs _ (by omega) (by omega)).trans h4⟩,(hs _ (by omega) (by omega)).trans h5⟩
  ·rintro i D' τ args _ hi hit ⟨D,d1,d2,h1,h2,h3,⟨j,h4⟩,h5⟩
   have hi' : i < qs.length:=by omega
   obtain rfl:=BD hi' hit
   have hpo:=hoks qs[i] (List.getElem_mem _)
   have c7 : qs[i].2.cells.length=11:=rfl
   have c8 : qs[i].2.cells.all VV.aC=true:=hpo.cell
   have c9 : qs[i].2.cells.take 11=qs[i].2.cells:=rfl
   refine DV mix h5 hl' rfl (by decide) ?_
   simp only [go_sem,seval,oK,Vl.vv,SS,c7,c8,c9]
   refine ⟨by rw [List.getElem?_append_left (by omega)];exact h5, ?_⟩
   rw [← hL]
   have hdomt:=hC.dom _ _ _ h1
   obtain ⟨τ1,hτ1⟩ : ∃ τ1,τ1=(τ++[Obj.own qs[i].2.cells]).set (L+3) (.loop { l with state:=.busy }):=⟨_,rfl⟩
   rw [← hτ1]
   have j1 : J i D τ1:=by rw [hτ1];exact hC.low _ _ _ _ (hC.snoc h1 _) (.set (d2 _ (by omega) (by omega)))
   have g0 : τ1.length=τ.length+1:=by rw [hτ1];simp
   have g1 : τ1[L+1]?=some (.own [.fn (.func g) [] caps]):=by rw [hτ1,List.getElem?_set_ne (by omega),List.getElem?_append_left (by omega)];exact h3
   have g2 : τ1[L+2]?=some (.own [.int .i64 1,.int .i64 0,.str j]):=by rw [hτ1,List.getElem?_set_ne (by omega),List.getElem?_append_left (by omega)];exact h4
   have g3 : τ1[L+3]?=some (.loop { l with state:=.busy }):=by rw [hτ1,List.getElem?_set_self (by simp;omega)]
   have g4 : τ1[τ.length]?=some (.own qs[i].2.cells):=by rw [hτ1,List.getElem?_set_ne (by omega)];simp
   have g6 : ∀ id,id < τ.length→id≠L+3→τ1[id]?=τ[id]?:=fun id h1 h2=>by rw [hτ1,List.getElem?_set_ne (by omega),List.getElem?_append_left (by omega)]
   clear hτ1
   simp only [go_sem,seval,g2,SS]
   obtain ⟨τ2,hτ2⟩ : ∃ τ2,τ2=τ1.set (L+2) (.own [.int .i64 1,.int .i64 0,.str qs[i].1]):=⟨_,rfl⟩
   rw [← hτ2]
   have j2 : J i D τ2:=by rw [hτ2];exact hC.low _ _ _ _ j1 (.set (d2 _ (by omega) (by omega)))
   have k0 : τ2.length=τ.length+1:=by rw [hτ2];simp [g0]
   have k1 : τ2[L+1]?=some (.own [.fn (.func g) [] caps]):=by rw [hτ2,List.getElem?_set_ne (by omega)];exact g1
   have k2 : τ2[L+2]?=some (.own [.int .i64 1,.int .i64 0,.str qs[i].1]):=by rw [hτ2,List.getElem?_set_self (by omega)]
   have k3 : τ2[L+3]?=some (.loop { l with state:=.busy }):=by rw [hτ2,List.getElem?_set_ne (by omega)];exact g3
   have k4 : τ2[τ.length]?=some (.own qs[i].2.cells):=by rw [hτ2,List.getElem?_set_ne (by omega)];exact g4
   have k6 : ∀ id,id < τ.length→id≠L+3→id≠L+2→τ2[id]?=τ[id]?:=fun id h1 h2 h3=>by rw [hτ2,List.getElem?_set_ne (by omega)];exact g6 id h1 h2
   clear hτ2
   simp only [go_sem,seval,k1,k2,k4,c7,c8,c9,SS]
   refine kC (hC.call i D τ2 _ (by omega) hi (wC hi') j2) ?_
   rintro _ τ3 ⟨rfl,D3,hJ3,hG3,hH3⟩
   simp only [go_sem,seval,gZ,pI]
   have hD3 : ∀ id,L≤id→id < L+4→¬ D3 id:=fun id a b c=>by
    rcases hG3 id c with c | c
    ·exact d2 id a b c
    ·omega
   have m0:=hH3.len
   have m3:=(hH3.same (L+3) (by omega) (d2 _ (by omega) (by omega))).trans k3
   refine ⟨m3,fun id=>D3 id∨(L≤id∧id < L+4),⟨D3,fun _=>.rfl,hD3,hC.low _ _ _ _ hJ3 (.set (hD3 _ (by omega) (by omega))),by simp;omega, ?_,⟨qs[i].1, ?_⟩, ?_⟩,fun id hid=>?_,⟨by simp;omega,fun id a b=>?_⟩⟩
   ·rw [List.getElem?_set_ne (by omega),hH3.same _ (by omega) (d2 _ (by omega) (by omega))];exact k1
   ·rw [List.getElem?_set_ne (by omega),hH3.same _ (by omega) (d2 _ (by omega) (by omega))];exact k2
   ·rw [List.getElem?_set_self (by omega)]
   ·rcases hid with hid | hid
    ·rcases hG3 id hid with h | h
     ·exact .inl ((d1 id).2 (.inl h))
     ·exact .inr (by omega)
    ·exact .inl ((d1 id).2 (.inr hid))
   ·have b' : ¬ D id∧¬ (L≤id∧id < L+4):=⟨fun h=>b ((d1 id).2 (.inl h)),fun h=>b ((d1 id).2 (.inr h))⟩
    rw [List.getElem?_set_ne (by omega),hH3.same _ (by omega) b'.1,k6 id a (by omega) (by omega)]
  ·rintro _ τ ⟨rfl,D',⟨D2,d1,d2,h1,h2,h3,⟨j,h4⟩,h5⟩,hG,hH⟩
   refine ⟨l,h5,by rw [hl'.st];simp, ?_⟩
   rw [hl'.pe]
   simp only [go_sem,seval,xq]
   refine ⟨D2,hC.low _ _ _ _ h1 (.set (d2 _ (by omega) (by omega))),fun id hid=>?_,⟨by simp;omega,fun id a b=>?_⟩⟩
   ·rcases hG id ((d1 id).2 (.inl hid)) with (h | h) | h
    ·exact .inl h
    ·exact .inr (by omega)
    ·refine .inr ?_
     simp only [List.length_append] at h;omega
   ·rw [List.getElem?_set_ne (by omega),hH.same id (by simp;omega) (fun h=>h.elim b (fun h=>by omega)),List.getElem?_append_left a]
 ·simp only [go_sem,seval,c49,Zk,hc,hhr,SS]
  refine ah (Zl seed bits m hr hp hhc) ?_<;>simp only [go_sem,seval,SS]
  intro l hl'
  obtain ⟨L,hL⟩ : ∃ L,L=σ.length:=⟨_,rfl⟩
  rw [← hL]
  have hdom:=hC.dom _ _ _ hJ
  refine CV.mono (hmA (L+3) (fun i D' τ=>∃ D,(∀ id,D' id↔D id∨(L≤id∧id < L+4))∧(∀ id,L≤id→id < L+4→¬ D id)∧J i D τ∧L+4≤τ.length∧τ[L+1]?=some (.own [.fn (.func g) [] caps])∧(∃ j : Bs,τ[L+2]?=some (.own [.int .i64 2,.int .i64 0,.str j]))∧τ[L+3]?=some (.loop l))
   (fun id=>D id∨(L≤id∧id < L+4)) _ ⟨?_, ?_, ?_⟩ ⟨D,fun _=>.rfl,fun id h1 h2 h3=>by have:=hdom id h3;omega,hC.snoc hJ _,by simp [hL],by simp [hL],⟨[],by simp [hL]⟩,by simp [hL]⟩) ?_
  ·rintro i D' τ ⟨D,d1,d2,h1,h2,_⟩ id hid
   rcases (d1 id).1 hid with h | h
   ·exact hC.dom _ _ _ h1 id h
   ·omega
  ·rintro i D' τ τ' ⟨D,d1,d2,h1,h2,h3,⟨j,h4⟩,h5⟩ hlow
   have hs : ∀ id,L≤id→id < L+4→τ'[id]?=τ[id]?:=fun id a b=>hlow.same id ((d1 id).2 (.inr ⟨a,b⟩))
   exact ⟨D,d1,d2,hC.low _ _ _ _ h1 ⟨hlow.len,fun id hid=>hlow.same id ((d1 id).2 (.inl hid))⟩,Nat.le_trans h2 hlow.len,(hs _ (by omega) (by omega)).trans h3,⟨j,(hs _ (by omega) (by omega)).trans h4⟩,(hs _ (by omega) (by omega)).trans h5⟩
  ·rintro i D' τ args _ hi hit ⟨D,d1,d2,h1,h2,h3,⟨j,h4⟩,h5⟩
   have hi' : i < qs.length:=by omega
   obtain rfl:=BD hi' hit
   have hpo:=hoks qs[i] (List.getElem_mem _)
   have c7 : qs[i].2.cells.length=11:=rfl
   have c8 : qs[i].2.cells.all VV.aC=true:=hpo.cell
   have c9 : qs[i].2.cells.take 11=qs[i].2.cells:=rfl
   refine DV mix h5 hl' rfl (by decide) ?_
   simp only [go_sem,seval,oK,Vl.vv,SS,c7,c8,c9]
   refine ⟨by rw [List.getElem?_append_left (by omega)];exact h5, ?_⟩
   rw [← hL]
   have hdomt:=hC.dom _ _ _ h1
   obtain ⟨τ1,hτ1⟩ : ∃ τ1,τ1=(τ++[Obj.own qs[i].2.cells]).set (L+3) (.loop { l with state:=.busy }):=⟨_,rfl⟩
   rw [← hτ1]
   have j1 : J i D τ1:=by rw [hτ1];exact hC.low _ _ _ _ (hC.snoc h1 _) (.set (d2 _ (by omega) (by omega)))
   have g0 : τ1.length=τ.length+1:=by rw [hτ1];simp
   have g1 : τ1[L+1]?=some (.own [.fn (.func g) [] caps]):=by rw [hτ1,List.getElem?_set_ne (by omega),List.getElem?_append_left (by omega)];exact h3
   have g2 : τ1[L+2]?=some (.own [.int .i64 2,.int .i64 0,.str j]):=by rw [hτ1,List.getElem?_set_ne (by omega),List.getElem?_append_left (by omega)];exact h4
   have g3 : τ1[L+3]?=some (.loop { l with state:=.busy }):=by rw [hτ1,List.getElem?_set_self (by simp;omega)]
   have g4 : τ1[τ.length]?=some (.own qs[i].2.cells):=by rw [hτ1,List.getElem?_set_ne (by omega)];simp
   have g6 : ∀ id,id < τ.length→id≠L+3→τ1[id]?=τ[id]?:=fun id h1 h2=>by rw [hτ1,List.getElem?_set_ne (by omega),List.getElem?_append_left (by omega)]
   clear hτ1
   simp only [go_sem,seval,g2,SS]
   obtain ⟨τ2,hτ2⟩ : ∃ τ2,τ2=τ1.set (L+2) (.own [.int .i64 2,.int .i64 0,.str qs[i].1]):=⟨_,rfl⟩
   rw [← hτ2]
   have j2 : J i D τ2:=by rw [hτ2];exact hC.low _ _ _ _ j1 (.set (d2 _ (by omega) (by omega)))
   have k0 : τ2.length=τ.length+1:=by rw [hτ2];simp [g0]
   have k1 : τ2[L+1]?=some (.own [.fn (.func g) [] caps]):=by rw [hτ2,List.getElem?_set_ne (by omega)];exact g1
   have k2 : τ2[L+2]?=some (.own [.int .i64 2,.int .i64 0,.str qs[i].1]):=by rw [hτ2,List.getElem?_set_self (by omega)]
   have k3 : τ2[L+3]?=some (.loop { l with state:=.busy }):=by rw [hτ2,List.getElem?_set_ne (by omega)];exact g3
   have k4 : τ2[τ.length]?=some (.own qs[i].2.cells):=by rw [hτ2,List.getElem?_set_ne (by omega)];exact g4
   have k6 : ∀ id,id < τ.length→id≠L+3→id≠L+2→τ2[id]?=τ[id]?:=fun id h1 h2 h3=>by rw [hτ2,List.getElem?_set_ne (by omega)];exact g6 id h1 h2
   clear hτ2
   simp only [go_sem,seval,k1,k2,k4,c7,c8,c9,SS]
   refine kC (hC.call i D τ2 _ (by omega) hi (wC hi') j2) ?_
   rintro _ τ3 ⟨rfl,D3,hJ3,hG3,hH3⟩
   simp only [go_sem,seval,gZ,pI]
   have hD3 : ∀ id,L≤id→id < L+4→¬ D3 id:=fun id a b c=>by
    rcases hG3 id c with c | c
    ·exact d2 id a b c
    ·omega
   have m0:=hH3.len
   have m3:=(hH3.same (L+3) (by omega) (d2 _ (by omega) (by omega))).trans k3
   refine ⟨m3,fun id=>D3 id∨(L≤id∧id < L+4),⟨D3,fun _=>.rfl,hD3,hC.low _ _ _ _ hJ3 (.set (hD3 _ (by omega) (by omega))),by simp;omega, ?_,⟨qs[i].1, ?_⟩, ?_⟩,fun id hid=>?_,⟨by simp;omega,fun id a b=>?_⟩⟩
   ·rw [List.getElem?_set_ne (by omega),hH3.same _ (by omega) (d2 _ (by omega) (by omega))];exact k1
   ·rw [List.getElem?_set_ne (by omega),hH3.same _ (by omega) (d2 _ (by omega) (by omega))];exact k2
   ·rw [List.getElem?_set_self (by omega)]
   ·rcases hid with hid | hid
    ·rcases hG3 id hid with h | h
     ·exact .inl ((d1 id).2 (.inl h))
     ·exact .inr (by omega)
    ·exact .inl ((d1 id).2 (.inr hid))
   ·have b' : ¬ D id∧¬ (L≤id∧id < L+4):=⟨fun h=>b ((d1 id).2 (.inl h)),fun h=>b ((d1 id).2 (.inr h))⟩
    rw [List.getElem?_set_ne (by omega),hH3.same _ (by omega) b'.1,k6 id a (by omega) (by omega)]
  ·rintro _ τ ⟨rfl,D',⟨D2,d1,d2,h1,h2,h3,⟨j,h4⟩,h5⟩,hG,hH⟩
   refine ⟨l,h5,by rw [hl'.st];simp, ?_⟩
   rw [hl'.pe]
   simp only [go_sem,seval,xq]
   refine ⟨D2,hC.low _ _ _ _ h1 (.set (d2 _ (by omega) (by omega))),fun id hid=>?_,⟨by simp;omega,fun id a b=>?_⟩⟩
   ·rcases hG id ((d1 id).2 (.inl hid)) with (h | h) | h
    ·exact .inl h
    ·exact .inr (by omega)
    ·refine .inr ?_
     simp only [List.length_append] at h;omega
   ·rw [List.getElem?_set_ne (by omega),hH.same id (by simp;omega) (fun h=>h.elim b (fun h=>by omega)),List.getElem?_append_left a]
end Go.V
namespace Go.V
open Go.Proofs
set_option maxRecDepth 100000
theorem Aw {l m : List Vl} (h : l.Perm m) : maxD l=maxD m:=by
 unfold maxD
 exact h.foldl_eq' (fun x _ y _ z=>by omega) 0
theorem A8 {l m : List Vl} (h : l.Perm m) : dw l=dw m:=by
 unfold dw
 exact h.foldl_eq' (fun x _ y _ z=>by omega) 0
abbrev oM (ps : List iE) : List Vl:=ps.map (·.2)
theorem zY {sm : Bs→Int} (x : Vl) (hx : x.ok) (hk : x.k=5∨x.k=6) (ps : List iE) (h : lQ sm x.hr ps) (hi : ∀ p ∈ ps,p.2.ok) (hl : ps.length≤1000000) (hs : dw (oM ps)≤1000000) (hd : maxD (oM ps)≤1000000) :
  PV Tryz.prog G0 169 [x.vv] ({ x with below:=maxD (oM ps),more:=dw (oM ps) } : Vl).vv:=by
 have hsp:=kX h.nodup
 have hoks : ∀ p ∈ kP ps,p.2.ok:=fun p hp=>hi p (hsp.mem_iff.1 hp)
 have hsl:=hsp.length_eq
 have e1 : maxD (oM ps)=maxD (oM (kP ps)):=(Aw (hsp.map _)).symm
 have e2 : dw (oM ps)=dw (oM (kP ps)):=(A8 (hsp.map _)).symm
 have hE:=fun J D σ=>lN x.k hk x.sk x.si x.st x.root hx.rc x.seed x.bits x.n x.hr ps h hi hl 0 0 208 qV [.mptr 0 0] J D σ
 rw [e1] at hd ⊢
 rw [e2] at hs ⊢
 generalize kP ps=qs at *
 have hok : ({ x with below:=maxD (oM qs),more:=dw (oM qs) } : Vl).ok:=⟨hx.rp,hx.rc,hx.hp,hx.hc,hd,hs⟩
 refine pv e169 (by simp) (by simp [VV.ak,VV.isPure,Vl.vv,hx.pure]) (by simp only [VV.isPure,Vl.vv];exact hok.pure) ?_
 have h1:=hx.rc
 have h2:=hx.hc
 simp only [go_sem,seval] at h1
 simp only [go_sem,seval] at h2
 simp only [go_sem,seval,c169,Vl.vv,Vl.cells,h1,h2]
 refine CV.mono (hE (fun i D σ'=>(∀ id,D id↔id=0)∧σ'[0]?=some (.own ({ x with below:=maxD ((oM qs).take i),more:=dw ((oM qs).take i) } : Vl).cells)) (·=0) _ ⟨?_, ?_, ?_⟩ ⟨fun _=>.rfl,by simp [Vl.cells,maxD,dw]⟩) ?_
 ·rintro i D σ ⟨hD,h⟩ id hid
  obtain rfl:=(hD id).1 hid
  exact (List.getElem?_eq_some_iff.1 h).1
 ·rintro i D σ σ' ⟨hD,h⟩ hlow
  exact ⟨hD,by rw [hlow.same 0 ((hD 0).2 rfl)];exact h⟩
 ·rintro i D σ args _ hi' hst ⟨hD,h⟩
  have hq' : i < qs.length:=by omega
  have hv' : i < (oM qs).length:=by simpa using hq'
  obtain rfl:=nD hq' hst
  have hc:=yT 0 { x with below:=maxD ((oM qs).take i),more:=dw ((oM qs).take i) } qs[i].2 ⟨hx.rp,hx.rc,hx.hp,hx.hc, ?_, ?_⟩ (hoks _ (List.getElem_mem _)) ?_ ?_ (x.k-4) 0 qs[i].1 σ h
  ·refine ⟨qV, ?_⟩
   refine CV.mono hc ?_
   rintro _ σ' ⟨rfl,a,b⟩
   refine ⟨rfl,D,⟨hD, ?_⟩,.refl _ _,⟨b.len,fun id h1 h2=>b.same id h1 (fun e=>h2 ((hD id).2 e))⟩⟩
   have e3 : (oM qs)[i]=qs[i].2:=by simp
   rw [a,jG _ _ hv',jH _ _ hv',e3]
  ·have:=kR (oM qs) i;simp only;omega
  ·have:=kT (oM qs) i;simp only;omega
  ·have h1:=kT (oM qs) (i+1)
   rw [jH _ _ hv'] at h1
   simp only [List.getElem_map] at h1 ⊢;omega
  ·have h1:=kR (oM qs) (i+1)
   rw [jG _ _ hv'] at h1
   simp only [List.getElem_map] at h1;omega
 ·rintro _ σ' ⟨rfl,D',⟨hD,h3⟩,hG,hH⟩
  rw [List.take_of_length_le (by simp;omega)] at h3
  have h4 : σ'[1]?=some (.own [.int .i64 0,.int .i64 0,.str [],.int .i64 0,.nilp,.int .u64 0,.int .i64 0,.int .i64 0,.nilp,.int .i64 0,.int .i64 0]):=by
   rw [hH.same 1 (by simp) (by simp)];simp
  have h5:=(List.getElem?_eq_some_iff.1 h4).1
  unfold Vl.cells at h3
  simp only [go_sem,seval,gZ,h1,h2,h3,h4,List.getElem?_set_self h5]
  have:=hok.pure
  simp only [Vl.cells] at this
  refine fin (by simp only [VV.isPure];exact this) rfl
end Go.V
namespace Go.V
open Go.Proofs
set_option maxRecDepth 100000
def rF {α : Type} : List (Bs × α)→Bs→Nat
 | [],_=>0
 | p::l,k=>if bl p.1 k=true then rF l k+1 else 0
theorem oW {α : Type} (k : Bs) : ∀ l : List (Bs × α),rF l k≤l.length
 | []=>Nat.le_refl _
 | p::l=>by
  have:=oW k l
  unfold rF
  split<;>simp<;>omega
theorem Cb {α : Type} (k : Bs) : ∀ {l : List (Bs × α)} (_ : iJ l) {h : Nat} (hh : h < l.length),bl l[h].1 k=true↔h < rF l k
 | p::l,hr,h,hh=>by
  obtain ⟨h1,h2⟩:=List.pairwise_cons.1 hr
  unfold rF
  cases h with
  | zero=>split<;>simp_all
  | succ h =>
   simp only [List.getElem_cons_succ]
   have hl : h < l.length:=by simpa using hh
   split
   ·rw [Cb k h2 hl];omega
   ·rename_i hb
    refine ⟨fun hc=>absurd (kE _ _ _ (h1 l[h] (List.getElem_mem _)) hc) hb,fun h=>by omega⟩
def hasK {α : Type} (l : List (Bs × α)) (k : Bs) : Bool:=match l[rF l k]? with
 | some p=>p.1 == k
 | none=>false
theorem Ja (p : iE) (h : p.2.ok) (k : Bs) : PV Tryz.prog G0 183 [.agg (au p),.str k] (.int .i64 (tH p.1 k)):=by
 have c7 : (au p).length=12:=rfl
 have c8:=uH h
 have hpu:=(mM h).pure _ (List.mem_singleton.2 rfl)
 refine pv e183 (by simp) (by simp [VV.ak,VV.isPure,hpu]) rfl ?_
 have d1 : (au p).getD 0 .undef=.str p.1:=rfl
 simp only [go_sem,seval,c183,c7,c8,d1]
 refine ah (IZ p.1 k) ?_<;>simp only [go_sem,seval]
 exact fin (by rfl) rfl
theorem Qs (x y : Bs) : decide (tH x y < 0)=bl x y:=by
 unfold tH
 split
 ·rename_i h;rw [h];rfl
 ·rename_i h
  have : bl x y=false:=by simpa using h
  rw [this]
  split<;>rfl
theorem RD (x y : Bs) : (tH x y == 0)=(x == y):=by
 unfold tH
 split
 ·rename_i h
  have:=uo h
  simp [this]
 ·rename_i h
  have h : bl x y=false:=by simpa using h
  rw [h]
  by_cases e : x=y
  ·subst e;simp
  ·simp [e]
theorem Bl : ay Tryz.prog 183=true:=by kernel_rfl
theorem Px (v : VV) (qs : List iE) (hv : dG 12 v (qs.map au)) (hok : ∀ p ∈ qs,p.2.ok) (hr : iJ qs) (hl : qs.length≤1000000) (k : Bs) :
  PV Tryz.prog G0 136 [v,.str k] (.tup [.int .i64 (rF qs k : Nat),.bool (hasK qs k)]):=by
 have hB:=hv.blk
 have hlc:=hv.cell
 have hml : (qs.map au).length=qs.length:=by simp
 have hle:=oW k qs
 have hbs : PV Tryz.prog G0 182 [v,.str k,.fn (.func 183) [] []] (.tup [.int .i64 (rF qs k : Nat),.bool (hasK qs k)]):=by
  have hlen:=hv.aT (σ:=[]) iZ
  rw [hml] at hlen
  refine pv e182 (by simp) (by simp [VV.ak,VV.isPure,hv.pure]) rfl ?_
  simp only [go_sem,seval] at hlc
  simp only [go_sem,seval,c182,hlen]
  refine bf (M:=fun ρ σ'=>ρ.get 0=v∧ρ.get 1=.str k∧ρ.get 2=.fn (.func 183) [] []∧ρ.get 8=.int .i64 qs.length∧ρ.get 9=.int .i64 (rF qs k : Nat)∧σ'=[]) ?_ ?_
  rotate_left
  ·refine aF (fun m ρ σ'=>∃ i j : Nat,m=j-i∧i≤rF qs k∧rF qs k≤j∧j≤qs.length∧ρ.get 0=v∧ρ.get 1=.str k∧ρ.get 2=.fn (.func 183) [] []∧ρ.get 8=.int .i64 qs.length∧ρ.get 9=.int .i64 i∧ρ.get 10=.int .i64 j∧σ'=[]) (n:=qs.length-0) ?_ ⟨0,qs.length,rfl,by omega,hle,Nat.le_refl _,rfl,rfl,rfl,rfl,rfl,rfl,rfl⟩
   rintro m ρ σ' ⟨i,j,rfl,hi,hj,hjl,q0,q1,q2,q8,q9,q10,rfl⟩
   simp only [go_sem,seval,q0,q1,q2,q8,q9,q10]
   refine aG (fun hc=>?_) (fun hc=>?_)
   ·have hc' : i < j:=by simpa using hc
    obtain ⟨h,hh⟩ : ∃ h,h=(i+j) / 2:=⟨_,rfl⟩
    have hhl : h < qs.length:=by omega
    have hpo:=hok qs[h] (List.getElem_mem _)
    obtain ⟨t,rfl⟩:=hv.fP (by intro e;rw [e] at hml;simp at hml;omega)
    have e1 : IntKind.i64.wrap ((i : Int)+j)=((i+j : Nat) : Int):=by rw [iw (by omega)];omega
    have e2 : IntKind.u64.wrap ((i+j : Nat) : Int)=((i+j : Nat) : Int):=by rw [uw (by omega)]
    have e3 : Int.fdiv ((i+j : Nat) : Int) (2 ^ min 1 64)=(h : Int):=by
     rw [Int.fdiv_eq_ediv_of_nonneg _ (by decide),hh];show ((i+j : Nat) : Int) / 2=_;omega
    have e4 : IntKind.i64.wrap (h : Int)=(h : Int):=by rw [iw (by omega)]
    have e5 : IntKind.i64.wrap ((h : Int)+1)=((h+1 : Nat) : Int):=by rw [iw (by omega)];omega
    have c1 : (0 : Int)≤(h : Int):=by omega
    have c2 : (h : Int) < ((qs.map au).length : Int):=by omega
    have c3 : h*12+12≤(qs.map au).flatten.length:=by rw [hB.flat,hml];omega
    have c4 : ((qs.map au).flatten.drop (h*12)).take 12=au qs[h]:=by
     have:=hB.og (i:=h) (by omega)
     rw [this];simp
    have c7 : (au qs[h]).length=12:=rfl
    have hP:=Ja qs[h] hpo k
    have hlt:=Cb k hr hhl
    simp only [go_sem,seval,q0,q1,q2,q8,q9,q10,e1,e2,e3,e4,c1,c2,c3,c4,c7,Int.toNat_natCast,Bl]
    refine ah (hP) ?_<;>simp only [go_sem,seval,q0,q1,q2,q8,q9,q10,Qs]
    refine aG (fun hd=>?_) (fun hd=>?_)
    ·simp only [go_sem,seval,q0,q1,q2,q8,q9,q10,e5]
     have:=hlt.1 hd
     exact ⟨j-(h+1),by omega,h+1,j,rfl,by omega,hj,hjl,rfl,rfl⟩
    ·simp only [go_sem,seval,q0,q1,q2,q8,q9,q10,e5]
     have : ¬ h < rF qs k:=fun h=>by rw [hlt.2 h] at hd;cases hd
     exact ⟨h-i,by omega,i,h,rfl,hi,by omega,by omega,rfl,rfl⟩
   ·have hc' : ¬ i < j:=by simpa using hc
    obtain rfl : i=rF qs k:=by omega
    simp only [go_sem,seval,q0,q1,q2,q8,q9,q10]
  ·rintro ρ σ' ⟨q0,q1,q2,q8,q9,rfl⟩
   simp only [go_sem,seval,q0,q1,q2,q8,q9]
   by_cases hl' : rF qs k < qs.length
   ·have b1 : decide (((rF qs k : Nat) : Int) < qs.length)=true:=decide_eq_true (by omega)
    obtain ⟨t,rfl⟩:=hv.fP (by intro e;rw [e] at hml;simp at hml;omega)
    have hpo:=hok qs[rF qs k] (List.getElem_mem _)
    have hP:=Ja qs[rF qs k] hpo k
    have c1 : (0 : Int)≤((rF qs k : Nat) : Int):=by omega
    have c2 : ((rF qs k : Nat) : Int) < ((qs.map au).length : Int):=by omega
    have c3 : rF qs k*12+12≤(qs.map au).flatten.length:=by rw [hB.flat,hml];omega
    have c4 : ((qs.map au).flatten.drop (rF qs k*12)).take 12=au qs[rF qs k]:=by
     have:=hB.og (i:=rF qs k) (by omega)
     rw [this];simp
    have c7 : (au qs[rF qs k]).length=12:=rfl
    have hk : hasK qs k=(qs[rF qs k].1 == k):=by unfold hasK;rw [List.getElem?_eq_getElem hl']
    simp only [go_sem,seval,q0,q1,q2,q8,q9,b1,c1,c2,c3,c4,c7,Int.toNat_natCast,Bl]
    refine ah (hP) ?_<;>simp only [go_sem,seval,q0,q1,q2,q8,q9,RD]
    rw [hk]
    exact fin (by rfl) rfl
   ·have b1 : decide (((rF qs k : Nat) : Int) < qs.length)=false:=decide_eq_false (by omega)
    have hk : hasK qs k=false:=by unfold hasK;rw [List.getElem?_eq_none (by omega)]
    simp only [go_sem,seval,q0,q1,q2,q8,q9,b1]
    rw [hk]
    exact fin (by rfl) rfl
 refine pv e136 (by simp) (by simp [VV.ak,VV.isPure,hv.pure]) rfl ?_
 simp only [go_sem,seval,c136]
 refine ah (hbs) ?_<;>simp only [go_sem,seval]
 exact fin (by rfl) rfl
end Go.V
