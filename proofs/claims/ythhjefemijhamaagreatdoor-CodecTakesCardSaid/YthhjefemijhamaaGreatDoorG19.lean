/- Texts F19 F20. -/
import Derived.Test.YthhjefemijhamaaGreatDoorG18
set_option linter.unusedVariables false
set_option linter.unusedSimpArgs false
namespace Go.V
open Go.Proofs
set_option maxRecDepth 100000
theorem RN.inv {d : Nat} {v : VV} {xs : List (List VV)} (h : RN d v xs) : (d=1∧∃ w,fH 11 w xs∧v=.ptr [.int .i64 xs.length,.int .i64 1,.nils,w] 0) ∨
  ∃ e w ks,d=e+1∧1≤e∧KL e w ks∧2≤ks.length∧xs=aI ks∧v=.ptr [.int .i64 xs.length,.int .i64 d,w,.nils] 0:=by
 cases h with
 | leaf h hne=>exact .inl ⟨rfl,_,h,rfl⟩
 | @inner d v ks h hk h2 =>
  refine .inr ⟨d,v,ks,rfl, ?_,⟨h,hk⟩,h2,rfl,rfl⟩
  match ks,h2 with
  | a::_,_=>exact (hk a (by simp)).ne.2.2.2.1
theorem LG (d : Nat) (a b : VV) (xs ys : List (List VV)) (ha : RN d a xs) (hb : RN d b ys) (hl : xs.length+ys.length≤1000000) : ∃ w rs,NL d w rs (xs++ys)∧PV Tryz.prog G0 158 [a,b] w:=by
 have hpa:=ha.ne.2.1
 have hpb:=hb.ne.2.1
 have hnx:=List.length_pos_iff.2 ha.ne.1
 have hny:=List.length_pos_iff.2 hb.ne.1
 have hN:=NL.two ha hb
 rcases ha.inv with ⟨rfl,v,hv,rfl⟩ | ⟨e,v,ks,rfl,he,hk,hk2,rfl,rfl⟩
 ·rcases hb.inv with ⟨_,w,hw,rfl⟩ | ⟨e,w,ks,h,he,_⟩
  rotate_left
  ·omega
  have hboth:=Bv v w xs ys hv hw hl
  obtain ⟨u,rs,hU,hP⟩:=Ud _ (xs++ys) (.sl _ false (hv.blk.append hw.blk)) (by intro e;have:=congrArg List.length e;rw [List.length_append,List.length_nil] at this;omega) (by rw [List.length_append];exact hl)
  have lv : ∀ {σ},cO Tryz.prog 120 v σ=okV (.int .i64 xs.length) σ:=hv.cO jc
  have lw : ∀ {σ},cO Tryz.prog 120 w σ=okV (.int .i64 ys.length) σ:=hw.cO jc
  by_cases h8 : 8≤xs.length∧8≤ys.length
  ·refine ⟨_,_,hN, ?_⟩
   refine pv e158 (by simp) (by simp only [VV.ak,hpa,hpb];rfl) hN.kl.sl.pure ?_
   have b1 : decide ((8 : Int)≤xs.length)=true:=by simp;omega
   have b2 : decide ((8 : Int)≤ys.length)=true:=by simp;omega
   simp only [go_sem,seval,c158,lv,lw,b1,b2]
   exact fin hN.kl.sl.pure rfl
  ·refine ⟨_,_,hU, ?_⟩
   refine pv e158 (by simp) (by simp only [VV.ak,hpa,hpb];rfl) hU.kl.sl.pure ?_
   simp only [go_sem,seval,c158,lv,lw]
   refine aS (fun hc=>?_) (fun hc=>?_)
   ·have b2 : decide ((8 : Int)≤ys.length)=false:=by simp at hc ⊢;omega
    simp only [go_sem,seval,lv,lw,b2,hc]
    refine aC (hboth) (by simp only [go_sem,seval]) ?_<;>simp only [go_sem,seval]
    refine aC (hP) (by simp only [go_sem,seval]) ?_<;>simp only [go_sem,seval]
    exact fin hU.kl.sl.pure rfl
   ·simp only [go_sem,seval,lv,lw,hc]
    refine aC (hboth) (by simp only [go_sem,seval]) ?_<;>simp only [go_sem,seval]
    refine aC (hP) (by simp only [go_sem,seval]) ?_<;>simp only [go_sem,seval]
    exact fin hU.kl.sl.pure rfl
 ·rcases hb.inv with ⟨h,_⟩ | ⟨e',w,js,h',_,hj,hj2,rfl,rfl⟩
  ·omega
  obtain rfl : e'=e:=by omega
  have hkl:=KL.oK hk.rn
  have hjl:=KL.oK hj.rn
  have hboth:=ru v w (aV ks) (aV js) hk.sl hj.sl (by rw [lG,lG];omega)
  have hKJ : KL e' (.sl (aV ks++aV js).length (aV ks++aV js).flatten false) (ks++js):=by
   refine ⟨?_,fun k hm=>(List.mem_append.1 hm).elim (hk.rn k) (hj.rn k)⟩
   have : aV (ks++js)=aV ks++aV js:=by simp [aV]
   rw [this]
   exact .sl _ _ (hk.blk.append hj.blk)
  obtain ⟨u,rs,hU,hP⟩:=BF e' _ _ hKJ (by rw [List.length_append];omega) (by rw [dN,List.length_append];exact hl)
  rw [dN] at hU
  have lv : ∀ {σ},cO Tryz.prog 143 v σ=okV (.int .i64 ks.length) σ:=by rw [← lG];exact hk.sl.cO je
  have lw : ∀ {σ},cO Tryz.prog 143 w σ=okV (.int .i64 js.length) σ:=by rw [← lG];exact hj.sl.cO je
  have h0 : (((e'+1 : Nat) : Int) == 1)=false:=by simp;omega
  by_cases h8 : 8≤ks.length∧8≤js.length
  ·refine ⟨_,_,hN, ?_⟩
   refine pv e158 (by simp) (by simp only [VV.ak,hpa,hpb];rfl) hN.kl.sl.pure ?_
   have b1 : decide ((8 : Int)≤ks.length)=true:=by simp;omega
   have b2 : decide ((8 : Int)≤js.length)=true:=by simp;omega
   simp only [go_sem,seval,c158,h0,lv,lw,b1,b2]
   exact fin hN.kl.sl.pure rfl
  ·refine ⟨_,_,hU, ?_⟩
   refine pv e158 (by simp) (by simp only [VV.ak,hpa,hpb];rfl) hU.kl.sl.pure ?_
   simp only [go_sem,seval,c158,h0,lv,lw]
   refine aS (fun hc=>?_) (fun hc=>?_)
   ·have b2 : decide ((8 : Int)≤js.length)=false:=by simp at hc ⊢;omega
    simp only [go_sem,seval,lv,lw,b2,hc]
    refine aC (hboth) (by simp only [go_sem,seval]) ?_<;>simp only [go_sem,seval]
    refine aC (hP) (by simp only [go_sem,seval]) ?_<;>simp only [go_sem,seval]
    exact fin hU.kl.sl.pure rfl
   ·simp only [go_sem,seval,lv,lw,hc]
    refine aC (hboth) (by simp only [go_sem,seval]) ?_<;>simp only [go_sem,seval]
    refine aC (hP) (by simp only [go_sem,seval]) ?_<;>simp only [go_sem,seval]
    exact fin hU.kl.sl.pure rfl
theorem Ui (a : VV) (da : Nat) : ∀ (d : Nat) (b : VV) (xs ys : List (List VV)),da=d→RN da a xs→∀ db,RN db b ys→db < da→xs.length+ys.length≤1000000→∃ w rs,NL da w rs (xs++ys)∧PV Tryz.prog G0 156 [a,b] w:=by
 intro d
 induction d generalizing a da with
 | zero=>intro b xs ys h ha;have:=ha.ne;omega
 | succ d ih =>
  intro b xs ys h ha db hb hlt hl
  rcases ha.inv with ⟨h1,_⟩ | ⟨e,v,ks,rfl,he,hk,hk2,rfl,rfl⟩
  ·have:=hb.ne;omega
  obtain rfl : e=d:=by omega
  have hpa:=ha.ne.2.1
  have hpb:=hb.ne.2.1
  have hkl:=KL.oK hk.rn
  have hnb:=hb.ne
  have hdb:=ha.ne.2.2.2.2
  obtain ⟨k,hke⟩ : ∃ k,k=ks[ks.length-1]'(by omega):=⟨_,rfl⟩
  have hkm : k ∈ ks:=hke ▸ List.getElem_mem _
  have hkr:=hk.rn k hkm
  have hks : ks=ks.take (ks.length-1)++[k]:=by
   rw [hke]
   have:=List.take_append_drop (ks.length-1) ks
   conv=>lhs;rw [← this]
   rw [List.drop_eq_getElem_cons (by omega),List.drop_eq_nil_of_le (by omega)]
  have hit : aI ks=aI (ks.take (ks.length-1))++k.2:=by
   conv=>lhs;rw [hks]
   rw [dN,dV];simp [aI]
  have hkll : k.2.length≤(aI ks).length:=by rw [hit,List.length_append];omega
  have hparts : ∃ w rs,NL e w rs (k.2++ys)∧((db=e∧PV Tryz.prog G0 158 [k.1,b] w)∨(db < e∧PV Tryz.prog G0 156 [k.1,b] w)):=by
   by_cases hde : db=e
   ·subst hde
    obtain ⟨w,rs,h1,h2⟩:=LG db k.1 b k.2 ys hkr hb (by omega)
    exact ⟨w,rs,h1,.inl ⟨rfl,h2⟩⟩
   ·obtain ⟨w,rs,h1,h2⟩:=ih k.1 e b k.2 ys rfl hkr db hb (by omega) (by omega)
    exact ⟨w,rs,h1,.inr ⟨by omega,h2⟩⟩
  obtain ⟨pv_,rs,hN,hcase⟩:=hparts
  obtain ⟨t,rfl⟩:=hk.iO (by intro e;rw [e] at hk2;simp at hk2)
  have hB:=hk.blk
  have hrl:=hN.hi
  have hboth:=fun va (h : fH 1 va ((aV ks).take (ks.length-1)))=>ru va pv_ ((aV ks).take (ks.length-1)) (aV rs) h hN.kl.sl (by rw [List.length_take,lG,lG];omega)
  have hKJ : KL e (.sl ((aV ks).take (ks.length-1)++aV rs).length ((aV ks).take (ks.length-1)++aV rs).flatten false) (ks.take (ks.length-1)++rs):=by
   refine ⟨?_,fun q hm=>(List.mem_append.1 hm).elim (fun h=>hk.rn q (List.mem_of_mem_take h)) (hN.kl.rn q)⟩
   have : aV (ks.take (ks.length-1)++rs)=(aV ks).take (ks.length-1)++aV rs:=by simp [aV,List.map_take]
   rw [this]
   exact .sl _ _ ((hB.take _).append hN.kl.blk)
  have hits : aI (ks.take (ks.length-1)++rs)=aI ks++ys:=by rw [dN,hN.its,hit,List.append_assoc]
  obtain ⟨u,us,hU,hP⟩:=BF e _ _ hKJ (by rw [List.length_append,List.length_take];have:=hN.lo;omega) (by rw [hits,List.length_append];exact hl)
  rw [hits] at hU
  refine ⟨_,_,hU, ?_⟩
  refine pv e156 (by simp) (by simp only [VV.ak,hpa,hpb];rfl) hU.kl.sl.pure ?_
  have e1 : IntKind.i64.wrap ((ks.length : Int)-1)=((ks.length-1 : Nat) : Int):=by rw [iw (by omega)];omega
  obtain ⟨ka,kb,hkc⟩:=hkr.cells
  obtain ⟨ba,bb,hbc⟩:=hb.cells
  have g : (ks.map (·.1)).getD (ks.length-1) .undef=.ptr [.int .i64 k.2.length,.int .i64 e,ka,kb] 0:=by
   rw [List.getD_eq_getElem?_getD,List.getElem?_map,List.getElem?_eq_getElem (by omega),← hke];exact hkc
  have b1 : (0 : Int)≤((ks.length-1 : Nat) : Int):=by omega
  have b2 : ((ks.length-1 : Nat) : Int) < (ks.length : Int):=by omega
  have b3 : ks.length-1 < (ks.map (·.1)).length:=by simp;omega
  subst hbc
  rw [hkc] at hcase
  have b4 : (ks.map (·.1)).length=ks.length:=by simp
  have e2 : ((ks.map (·.1)).take (ks.length-1))=((aV ks).take (ks.length-1)).flatten:=by rw [← kH,DN,List.map_take]
  have b5 : ((ks.length-1 : Nat) : Int)≤(ks.length : Int):=by omega
  have e3 : ((aV ks).take (ks.length-1)).length=ks.length-1:=by rw [List.length_take,lG];omega
  simp only [go_sem,seval,c156,e1,Int.toNat_natCast,Nat.mul_one,g,b1,b2,b3]
  refine aj (fun hc=>?_) (fun hc=>?_)
  ·rcases hcase with ⟨rfl,hglue⟩ | ⟨hne,_⟩
   rotate_left
   ·simp at hc;omega
   simp only [go_sem,seval,e1,Int.toNat_natCast,Nat.mul_one,g,b1,b2,b3]
   refine ah (hglue) ?_<;>simp only [go_sem,seval,e1,Int.toNat_natCast,Nat.sub_zero,Nat.mul_one,b1,b2,b3,b4,b5,e2]
   refine ah (hboth _ (fH.of (hB.take _) e3.symm rfl)) ?_<;>simp only [go_sem,seval]
   refine ah (hP) ?_<;>simp only [go_sem,seval]
   exact fin hU.kl.sl.pure rfl
  ·rcases hcase with ⟨rfl,_⟩ | ⟨hne,hbeh⟩
   ·simp at hc
   simp only [go_sem,seval,e1,Int.toNat_natCast,Nat.mul_one,g,b1,b2,b3]
   refine ah (hbeh) ?_<;>simp only [go_sem,seval,e1,Int.toNat_natCast,Nat.sub_zero,Nat.mul_one,b1,b2,b3,b4,b5,e2]
   refine ah (hboth _ (fH.of (hB.take _) e3.symm rfl)) ?_<;>simp only [go_sem,seval]
   refine ah (hP) ?_<;>simp only [go_sem,seval]
   exact fin hU.kl.sl.pure rfl
theorem Wy (b : VV) (db : Nat) : ∀ (d : Nat) (a : VV) (ys xs : List (List VV)),db=d→RN db b ys→∀ da,RN da a xs→da < db→xs.length+ys.length≤1000000→∃ w rs,NL db w rs (xs++ys)∧PV Tryz.prog G0 157 [a,b] w:=by
 intro d
 induction d generalizing b db with
 | zero=>intro a ys xs h hb;have:=hb.ne;omega
 | succ d ih =>
  intro a ys xs h hb da ha hlt hl
  rcases hb.inv with ⟨h1,_⟩ | ⟨e,v,ks,rfl,he,hk,hk2,rfl,rfl⟩
  ·have:=ha.ne;omega
  obtain rfl : e=d:=by omega
  have hpa:=ha.ne.2.1
  have hpb:=hb.ne.2.1
  have hkl:=KL.oK hk.rn
  have hna:=ha.ne
  have hdb:=hb.ne.2.2.2.2
  obtain ⟨k,hke⟩ : ∃ k,k=ks[0]'(by omega):=⟨_,rfl⟩
  have hkm : k ∈ ks:=hke ▸ List.getElem_mem _
  have hkr:=hk.rn k hkm
  have hks : ks=k::ks.drop 1:=by
   rw [hke]
   have:=List.drop_eq_getElem_cons (l:=ks) (i:=0) (by omega)
   simpa using this
  have hit : aI ks=k.2++aI (ks.drop 1):=by
   conv=>lhs;rw [hks]
   rw [dV]
  have hkll : k.2.length≤(aI ks).length:=by rw [hit,List.length_append];omega
  have hparts : ∃ w rs,NL e w rs (xs++k.2)∧((da=e∧PV Tryz.prog G0 158 [a,k.1] w)∨(da < e∧PV Tryz.prog G0 157 [a,k.1] w)):=by
   by_cases hde : da=e
   ·subst hde
    obtain ⟨w,rs,h1,h2⟩:=LG da a k.1 xs k.2 ha hkr (by omega)
    exact ⟨w,rs,h1,.inl ⟨rfl,h2⟩⟩
   ·obtain ⟨w,rs,h1,h2⟩:=ih k.1 e a k.2 xs rfl hkr da ha (by omega) (by omega)
    exact ⟨w,rs,h1,.inr ⟨by omega,h2⟩⟩
  obtain ⟨pv_,rs,hN,hcase⟩:=hparts
  obtain ⟨t,rfl⟩:=hk.iO (by intro e;rw [e] at hk2;simp at hk2)
  have hB:=hk.blk
  have hrl:=hN.hi
  have hboth:=fun va (h : fH 1 va ((aV ks).drop 1))=>ru pv_ va (aV rs) ((aV ks).drop 1) hN.kl.sl h (by rw [List.length_drop,lG,lG];omega)
  have hKJ : KL e (.sl (aV rs++(aV ks).drop 1).length (aV rs++(aV ks).drop 1).flatten false) (rs++ks.drop 1):=by
   refine ⟨?_,fun q hm=>(List.mem_append.1 hm).elim (hN.kl.rn q) (fun h=>hk.rn q (List.mem_of_mem_drop h))⟩
   have : aV (rs++ks.drop 1)=aV rs++(aV ks).drop 1:=by simp [aV,List.map_drop]
   rw [this]
   exact .sl _ _ (hN.kl.blk.append (hB.drop _))
  have hits : aI (rs++ks.drop 1)=xs++aI ks:=by rw [dN,hN.its,hit,List.append_assoc]
  obtain ⟨u,us,hU,hP⟩:=BF e _ _ hKJ (by rw [List.length_append,List.length_drop];have:=hN.lo;omega) (by rw [hits,List.length_append];exact hl)
  rw [hits] at hU
  refine ⟨_,_,hU, ?_⟩
  refine pv e157 (by simp) (by simp only [VV.ak,hpa,hpb];rfl) hU.kl.sl.pure ?_
  obtain ⟨ka,kb,hkc⟩:=hkr.cells
  obtain ⟨ba,bb,hbc⟩:=ha.cells
  have g : (ks.map (·.1)).getD 0 .undef=.ptr [.int .i64 k.2.length,.int .i64 e,ka,kb] 0:=by
   rw [List.getD_eq_getElem?_getD,List.getElem?_map,List.getElem?_eq_getElem (by omega),← hke];exact hkc
  have b2 : (0 : Int) < (ks.length : Int):=by omega
  have b3 : 0 < (ks.map (·.1)).length:=by simp;omega
  subst hbc
  rw [hkc] at hcase
  have b4 : (ks.map (·.1)).length=ks.length:=by simp
  have e3 : ((aV ks).drop 1).length=ks.length-1:=by rw [List.length_drop,lG]
  have e2 : ((ks.map (·.1)).drop 1).take (ks.length-1)=((aV ks).drop 1).flatten:=by rw [← kJ,DN,List.map_drop];exact List.take_of_length_le (by simp)
  have b5 : (1 : Int)≤(ks.length : Int):=by omega
  have b6 : (ks.length : Int)≤(ks.length : Int):=by omega
  simp only [go_sem,seval,c157,Int.toNat_natCast,Nat.mul_one,g,b2,b3]
  refine aj (fun hc=>?_) (fun hc=>?_)
  ·rcases hcase with ⟨rfl,hglue⟩ | ⟨hne,_⟩
   rotate_left
   ·simp at hc;omega
   simp only [go_sem,seval,Int.toNat_natCast,Nat.mul_one,g,b2,b3]
   refine ah (hglue) ?_<;>simp only [go_sem,seval,Int.toNat_natCast,Nat.sub_zero,Nat.mul_one,b2,b3,b4,b5,b6,e2]
   refine ah (hboth _ (fH.of (hB.drop _) e3.symm rfl)) ?_<;>simp only [go_sem,seval]
   refine ah (hP) ?_<;>simp only [go_sem,seval]
   exact fin hU.kl.sl.pure rfl
  ·rcases hcase with ⟨rfl,_⟩ | ⟨hne,hbeh⟩
   ·simp at hc
   simp only [go_sem,seval,Int.toNat_natCast,Nat.mul_one,g,b2,b3]
   refine ah (hbeh) ?_<;>simp only [go_sem,seval,Int.toNat_natCast,Nat.sub_zero,Nat.mul_one,b2,b3,b4,b5,b6,e2]
   refine ah (hboth _ (fH.of (hB.drop _) e3.symm rfl)) ?_<;>simp only [go_sem,seval]
   refine ah (hP) ?_<;>simp only [go_sem,seval]
   exact fin hU.kl.sl.pure rfl
end Go.V
namespace Go.V
open Go.Proofs
set_option maxRecDepth 100000
def vK : Option TypeDesc→Bool
 | some (.pointer _)=>true
 | _=>false
@[go_sem] theorem XL {e : TypeId} : vK (some (.pointer e))=true:=rfl
theorem qI {o : Option TypeDesc} (h : vK o=true) : ∃ e,o=some (.pointer e):=by
 unfold vK at h
 split at h
 ·exact ⟨_,rfl⟩
 ·cases h
section
variable {P : Program} {t : TypeId} {x y : Operand} {σ : Store} {cells : List VV} {off id : Nat}
@[go_sem] theorem aa8 (h : vK (P.underlying t)=true) : kU P .eql t x y .nilp .nilp σ=okV (.bool true) σ:=by
 obtain ⟨e,he⟩:=qI h;simp [kU,VV.ql,VV.fC,VV.isAgg,CO,he,okV]
@[go_sem] theorem aaZ (h : vK (P.underlying t)=true) : kU P .eql t x y (.ptr cells off) .nilp σ=okV (.bool false) σ:=by
 obtain ⟨e,he⟩:=qI h;simp [kU,VV.ql,VV.fC,VV.isAgg,CO,he,okV]
@[go_sem] theorem abj (h : vK (P.underlying t)=true) : kU P .neq t x y .nilp .nilp σ=okV (.bool false) σ:=by
 obtain ⟨e,he⟩:=qI h;simp [kU,VV.ql,VV.fC,VV.isAgg,CO,he,okV]
@[go_sem] theorem aaP (h : vK (P.underlying t)=true) : kU P .neq t x y (.ptr cells off) .nilp σ=okV (.bool true) σ:=by
 obtain ⟨e,he⟩:=qI h;simp [kU,VV.ql,VV.fC,VV.isAgg,CO,he,okV]
end
theorem RP.ptr {v : VV} {xs : List (List VV)} (h : RP v xs) : v=.nilp∧xs=[]∨∃ d,RN d v xs:=h
theorem RP.Qp {d : Nat} {ks : List Kd} {r : VV} (h : InR d ks r) (hk : ∀ k ∈ ks,RN d k.1 k.2) : RP r (aI ks):=by
 cases h with
 | nil h hr=>subst h hr;exact .inl ⟨rfl,rfl⟩
 | one k h hr=>subst h hr;exact .inr ⟨d,by simpa [aI] using hk k (by simp)⟩
 | many h hr=>exact .inr ⟨_,hr⟩
theorem LP (d : Nat) (w : VV) (rs : List Kd) (xs : List (List VV)) (h : NL d w rs xs) (hl : xs.length≤1000000) : ∃ r,RP r xs∧PV Tryz.prog G0 155 [w] r:=by
 obtain ⟨r,hr,hP⟩:=uj d w rs h.kl (by rw [h.its];exact hl)
 exact ⟨r,by have:=RP.Qp hr h.kl.rn;rwa [h.its] at this,hP⟩
theorem FT (a b : VV) (xs ys : List (List VV)) (ha : RP a xs) (hb : RP b ys) (hl : xs.length+ys.length≤1000000) : ∃ r,RP r (xs++ys)∧PV Tryz.prog G0 114 [a,b] r:=by
 have hpa:=ha.pure
 have hpb:=hb.pure
 rcases ha.ptr with ⟨rfl,rfl⟩ | ⟨da,ha'⟩
 ·refine ⟨b,hb, ?_⟩
  refine pv e114 (by simp) (by simp only [VV.ak,hpa,hpb];rfl) hpb ?_
  simp only [go_sem,seval,c114]
  exact fin hpb rfl
 obtain ⟨a1,a2,rfl⟩:=ha'.cells
 rcases hb.ptr with ⟨rfl,rfl⟩ | ⟨db,hb'⟩
 ·refine ⟨_,by simpa using ha, ?_⟩
  refine pv e114 (by simp) (by simp only [VV.ak,hpa,hpb];rfl) hpa ?_
  simp only [go_sem,seval,c114]
  exact fin hpa rfl
 obtain ⟨b1,b2,rfl⟩:=hb'.cells
 have hlx : (xs++ys).length≤1000000:=by rw [List.length_append];exact hl
 rcases Nat.lt_trichotomy da db with hlt | heq | hgt
 ·obtain ⟨w,rs,hN,hP⟩:=Wy _ db db _ ys xs rfl hb' da ha' hlt hl
  obtain ⟨r,hr,hP'⟩:=LP _ _ _ _ hN hlx
  refine ⟨r,hr, ?_⟩
  refine pv e114 (by simp) (by simp only [VV.ak,hpa,hpb];rfl) hr.pure ?_
  have h1 : decide ((db : Int) < da)=false:=by simp;omega
  have h2 : decide ((da : Int) < db)=true:=by simp;omega
  simp only [go_sem,seval,c114,h1,h2]
  refine ah (hP) ?_<;>simp only [go_sem,seval]
  refine ah (hP') ?_<;>simp only [go_sem,seval]
  exact fin hr.pure rfl
 ·subst heq
  obtain ⟨w,rs,hN,hP⟩:=LG da _ _ xs ys ha' hb' hl
  obtain ⟨r,hr,hP'⟩:=LP _ _ _ _ hN hlx
  refine ⟨r,hr, ?_⟩
  refine pv e114 (by simp) (by simp only [VV.ak,hpa,hpb];rfl) hr.pure ?_
  have h1 : decide ((da : Int) < da)=false:=by simp
  simp only [go_sem,seval,c114,h1]
  refine ah (hP) ?_<;>simp only [go_sem,seval]
  refine ah (hP') ?_<;>simp only [go_sem,seval]
  exact fin hr.pure rfl
 ·obtain ⟨w,rs,hN,hP⟩:=Ui _ da da _ xs ys rfl ha' db hb' hgt hl
  obtain ⟨r,hr,hP'⟩:=LP _ _ _ _ hN hlx
  refine ⟨r,hr, ?_⟩
  refine pv e114 (by simp) (by simp only [VV.ak,hpa,hpb];rfl) hr.pure ?_
  have h1 : decide ((db : Int) < da)=true:=by simp;omega
  simp only [go_sem,seval,c114,h1]
  refine ah (hP) ?_<;>simp only [go_sem,seval]
  refine ah (hP') ?_<;>simp only [go_sem,seval]
  exact fin hr.pure rfl
theorem YK (ks : List Kd) (i : Nat) (hi : i < (aI ks).length) : ∃ j,j < ks.length∧(aI (ks.take j)).length≤i∧∀ h : j < ks.length,i < (aI (ks.take j)).length+(ks[j]'h).2.length:=by
 induction ks generalizing i with
 | nil=>simp [aI] at hi
 | cons k ks ih =>
  by_cases h : i < k.2.length
  ·exact ⟨0,by simp,by simp [aI],fun _=>by simpa [aI] using h⟩
  ·rw [dV,List.length_append] at hi
   obtain ⟨j,h1,h2,h3⟩:=ih (i-k.2.length) (by omega)
   refine ⟨j+1,by simpa using h1, ?_,fun hh=>?_⟩
   ·rw [List.take_succ_cons,dV,List.length_append];omega
   ·have:=h3 h1
    rw [List.take_succ_cons,dV,List.length_append]
    simp only [List.getElem_cons_succ];omega
def yE (v : VV) (xs : List (List VV)) (i : Nat) : Prop:=∃ r s,RP r (xs.take i)∧RP s (xs.drop i)∧PV Tryz.prog G0 196 [v,.int .i64 i] (.tup [r,s])
theorem Je (d : Nat) (v : VV) (xs : List (List VV)) (i : Nat) (h : RN d v xs) (hi : i=0∨i=xs.length) : yE v xs i:=by
 have hp:=h.ne.2.1
 have hnx:=List.length_pos_iff.2 h.ne.1
 obtain ⟨v1,v2,hv⟩:=h.cells
 by_cases h0 : i=0
 ·subst h0
  refine ⟨.nilp,v,.inl ⟨rfl,rfl⟩,.inr ⟨_,h⟩, ?_⟩
  subst hv
  have hp2:=hp
  simp only [VV.isPure,VV.ak,Bool.and_true,Bool.true_and] at hp2
  refine pv e196 (by simp) (by simp only [VV.ak,hp];rfl) (by simp only [VV.isPure,VV.ak,hp2,Bool.and_true,Bool.true_and]) ?_
  simp only [go_sem,seval,c196]
  refine fin (by simp only [VV.isPure,VV.ak,hp2,Bool.and_true,Bool.true_and]) rfl
 by_cases hn : i=xs.length
 ·subst hn
  refine ⟨v,.nilp,by rw [List.take_length];exact .inr ⟨_,h⟩,by rw [List.drop_length];exact .inl ⟨rfl,rfl⟩, ?_⟩
  subst hv
  have hp2:=hp
  simp only [VV.isPure,VV.ak,Bool.and_true,Bool.true_and] at hp2
  refine pv e196 (by simp) (by simp only [VV.ak,hp];rfl) (by simp only [VV.isPure,VV.ak,hp2,Bool.and_true,Bool.true_and]) ?_
  have b0 : decide ((xs.length : Int)≤0)=false:=decide_eq_false (by omega)
  have b1 : decide ((xs.length : Int)≤xs.length)=true:=by simp
  simp only [go_sem,seval,c196,b0,b1]
  refine fin (by simp only [VV.isPure,VV.ak,hp2,Bool.and_true,Bool.true_and]) rfl
 omega
theorem Ue (w : VV) (xs : List (List VV)) (i : Nat) (h : RN 1 (.ptr [.int .i64 xs.length,.int .i64 1,.nils,w] 0) xs) (hw : fH 11 w xs) (h0 : ¬ i=0) (hn : ¬ i=xs.length) (hi : i≤xs.length) (hl : xs.length≤1000000) : yE (.ptr [.int .i64 xs.length,.int .i64 1,.nils,w] 0) xs i:=by
 have hp:=h.ne.2.1
 have b0 : decide ((i : Int)≤0)=false:=decide_eq_false (by omega)
 have b1 : decide ((xs.length : Int)≤i)=false:=decide_eq_false (by omega)
 have hB:=hw.blk
 obtain ⟨t,rfl⟩:=hw.iO h.ne.1
 obtain ⟨r,hr,hP,_⟩:=yQ _ _ (fH.sl (k:=11) (xs.take i) false (hB.take _))
 obtain ⟨s,hs,hP',_⟩:=yQ _ _ (fH.sl (k:=11) (xs.drop i) false (hB.drop _))
 refine ⟨r,s,hr,hs, ?_⟩
 refine pv e196 (by simp) (by simp only [VV.ak,hp];rfl) (by simp only [VV.isPure,VV.ak,hr.pure,hs.pure];rfl) ?_
 have b2 : (0 : Int)≤(i : Int):=by omega
 have b3 : (i : Int)≤(xs.length : Int):=by omega
 have b4 : (xs.length : Int)≤(xs.length : Int):=by omega
 have e2 : ((xs.drop i).flatten).take ((xs.length-i)*11)=(xs.drop i).flatten:=List.take_of_length_le (by rw [(hB.drop _).flat,List.length_drop];exact Nat.le_refl _)
 simp only [go_sem,seval,c196,b0,b1,b2,b3,b4,Int.toNat_natCast,Nat.sub_zero,hB.iU,hB.iV,hB.flat,e2]
 refine aC (Bv _ _ (xs.take i) [] (fH.of (hB.take _) (by rw [List.length_take];omega) rfl) .nil (by rw [List.length_take,List.length_nil];omega)) (by simp only [go_sem,seval,b0,b1,b2,b3,b4,Int.toNat_natCast,Nat.sub_zero,hB.iU,hB.iV,hB.flat,e2]) ?_<;>simp only [go_sem,seval,b0,b1,b2,b3,b4,Int.toNat_natCast,Nat.sub_zero,hB.iU,hB.iV,hB.flat,e2]
 refine aC (hP) (by simp only [go_sem,seval,b0,b1,b2,b3,b4,Int.toNat_natCast,Nat.sub_zero,hB.iU,hB.iV,hB.flat,e2]) ?_<;>simp only [go_sem,seval,b0,b1,b2,b3,b4,Int.toNat_natCast,Nat.sub_zero,hB.iU,hB.iV,hB.flat,e2]
 refine aC (Bv _ _ (xs.drop i) [] (fH.of (hB.drop _) (by rw [List.length_drop]) rfl) .nil (by rw [List.length_drop];simp;omega)) (by simp only [go_sem,seval,b0,b1,b2,b3,b4,Int.toNat_natCast,Nat.sub_zero,hB.iU,hB.iV,hB.flat,e2]) ?_<;>simp only [go_sem,seval,b0,b1,b2,b3,b4,Int.toNat_natCast,Nat.sub_zero,hB.iU,hB.iV,hB.flat,e2]
 refine aC (hP') (by simp only [go_sem,seval]) ?_<;>simp only [go_sem,seval]
 exact fin (by simp only [VV.isPure,VV.ak,hr.pure,hs.pure];rfl) rfl
theorem TV (e : Nat) (w : VV) (ks : List Kd) (i : Nat) (h : RN (e+1) (.ptr [.int .i64 (aI ks).length,.int .i64 (e+1 : Nat),w,.nils] 0) (aI ks)) (hk : KL e w ks) (hk2 : 2≤ks.length) (he : 1≤e) (h0 : ¬ i=0) (hn : ¬ i=(aI ks).length) (hi : i≤(aI ks).length) (hl : (aI ks).length≤1000000)
  (ih : ∀ k ∈ ks,∀ i,i≤k.2.length→yE k.1 k.2 i) : yE (.ptr [.int .i64 (aI ks).length,.int .i64 (e+1 : Nat),w,.nils] 0) (aI ks) i:=by
 have hp:=h.ne.2.1
 have b0 : decide ((i : Int)≤0)=false:=decide_eq_false (by omega)
 have b1 : decide (((aI ks).length : Int)≤i)=false:=decide_eq_false (by omega)
 have hB:=hk.blk
 have hkl:=KL.oK hk.rn
 obtain ⟨J,hJ,hJ1,hJ2⟩:=YK ks i (by omega)
 have hJ2:=hJ2 hJ
 obtain ⟨t,rfl⟩:=hk.iO (by intro e;rw [e] at hk2;simp at hk2)
 have hkr:=hk.rn ks[J] (List.getElem_mem _)
 have hsp : aI ks=aI (ks.take J)++(ks[J].2++aI (ks.drop (J+1))):=by
  conv=>lhs;rw [← List.take_append_drop J ks,dN,List.drop_eq_getElem_cons hJ,dV]
 have hlen:=congrArg List.length hsp
 rw [List.length_append,List.length_append] at hlen
 obtain ⟨i',hi'⟩ : ∃ i',i'=i-(aI (ks.take J)).length:=⟨_,rfl⟩
 obtain ⟨r1,s1,hr1,hs1,hP1⟩:=ih ks[J] (List.getElem_mem _) i' (by omega)
 have ha : KL e (.sl ((aV ks).take J).length ((aV ks).take J).flatten false) (ks.take J):=⟨by rw [← kH];exact .sl _ _ (by rw [kH];exact hB.take _),fun k hk'=>hk.rn k (List.mem_of_mem_take hk')⟩
 have hb : KL e (.sl ((aV ks).drop (J+1)).length ((aV ks).drop (J+1)).flatten false) (ks.drop (J+1)):=⟨by rw [← kJ];exact .sl _ _ (by rw [kJ];exact hB.drop _),fun k hk'=>hk.rn k (List.mem_of_mem_drop hk')⟩
 obtain ⟨r2,hr2,hP2⟩:=uj e _ _ ha (by omega)
 obtain ⟨s2,hs2,hP3⟩:=uj e _ _ hb (by omega)
 have hr2:=RP.Qp hr2 ha.rn
 have hs2:=RP.Qp hs2 hb.rn
 obtain ⟨r,hr,hP4⟩:=FT _ _ _ _ hr2 hr1 (by rw [List.length_take];omega)
 obtain ⟨s,hs,hP5⟩:=FT _ _ _ _ hs1 hs2 (by rw [List.length_drop];omega)
 have et : aI (ks.take J)++ks[J].2.take i'=(aI ks).take i:=by
  rw [hsp,List.take_append,List.take_of_length_le (by omega : (aI (ks.take J)).length≤i),← hi',List.take_append_of_le_length (by omega)]
 have ed : ks[J].2.drop i'++aI (ks.drop (J+1))=(aI ks).drop i:=by
  rw [hsp,List.drop_append,List.drop_of_length_le (by omega : (aI (ks.take J)).length≤i),← hi',List.drop_append_of_le_length (by omega)];rfl
 rw [et] at hr
 rw [ed] at hs
 refine ⟨r,s,hr,hs, ?_⟩
 refine pv e196 (by simp) (by simp only [VV.ak,hp];rfl) (by simp only [VV.isPure,VV.ak,hr.pure,hs.pure];rfl) ?_
 have b5 : (((e+1 : Nat) : Int) == 1)=false:=by simp;omega
 simp only [go_sem,seval,c196,b0,b1,b5]
 have hg : ∀ j (hj : j < ks.length),∃ a b,(ks.map (·.1)).getD j .undef=.ptr [.int .i64 ks[j].2.length,.int .i64 e,a,b] 0:=by
  intro j hj
  obtain ⟨a,b,hab⟩:=(hk.rn ks[j] (List.getElem_mem hj)).cells
  exact ⟨a,b,by rw [List.getD_eq_getElem?_getD,List.getElem?_map,List.getElem?_eq_getElem hj];exact hab⟩
 refine bY (M:=fun ρ σ=>ρ.get 0=.ptr [.int .i64 (aI ks).length,.int .i64 (e+1 : Nat),.sl ks.length (ks.map (·.1)) t,.nils] 0∧ρ.get 1=.int .i64 i'∧ρ.get 6=.int .i64 J∧σ=[]) ?_ ?_
 ·rintro ρ σ ⟨q0,q1,q6,rfl⟩
  obtain ⟨ka,kb,gJ⟩:=hg J hJ
  have gJ' : (ks.map (·.1)).getD J .undef=ks[J].1:=by rw [List.getD_eq_getElem?_getD,List.getElem?_map,List.getElem?_eq_getElem hJ];rfl
  have g':=gJ'.symm.trans gJ
  rw [g'] at hP1
  have c1 : (0 : Int)≤(J : Int):=by omega
  have c2 : (J : Int) < (ks.length : Int):=by omega
  have c3 : J < (ks.map (·.1)).length:=by simpa using hJ
  have c4 : (ks.map (·.1)).length=ks.length:=by simp
  have c5 : (J : Int)≤(ks.length : Int):=by omega
  have c6 : IntKind.i64.wrap ((J : Int)+1)=((J+1 : Nat) : Int):=by rw [iw (by omega)];omega
  have c7 : (0 : Int)≤((J+1 : Nat) : Int):=by omega
  have c8 : ((J+1 : Nat) : Int)≤(ks.length : Int):=by omega
  have c9 : (ks.length : Int)≤(ks.length : Int):=by omega
  have f1 : (ks.map (·.1)).take J=((aV ks).take J).flatten:=by rw [← kH,DN,List.map_take]
  have f2 : ((ks.map (·.1)).drop (J+1)).take (ks.length-(J+1))=((aV ks).drop (J+1)).flatten:=by rw [← kJ,DN,List.map_drop];exact List.take_of_length_le (by simp)
  have f3 : ((aV ks).take J).length=J:=by rw [List.length_take,lG];omega
  have f4 : ((aV ks).drop (J+1)).length=ks.length-(J+1):=by rw [List.length_drop,lG]
  have n1 : ((J : Nat) : Int).toNat=J:=by omega
  have n2 : ((J+1 : Nat) : Int).toNat=J+1:=by omega
  have n3 : J-0=J:=by omega
  have n4 : J*1=J:=by omega
  have n5 : (J+1)*1=J+1:=by omega
  have n6 : (ks.length-(J+1))*1=ks.length-(J+1):=by omega
  have n7 : ((ks.length : Nat) : Int).toNat=ks.length:=by omega
  have n8 : ks.length*1=ks.length:=by omega
  refine iD (M:=fun ρ σ=>ρ.get 0=.ptr [.int .i64 (aI ks).length,.int .i64 (e+1 : Nat),.sl ks.length (ks.map (·.1)) t,.nils] 0∧ρ.get 6=.int .i64 J∧ρ.get 7=r1∧ρ.get 8=s1∧σ=[]) ?_ ?_
  ·simp only [go_sem,seval,q0,q1,q6,n1,n4,gJ,c1,c2,c3]
   refine ah (hP1) ?_<;>simp only [go_sem,seval,q0,q1,q6]
  rintro ρ σ ⟨q0,q6,q7,q8,rfl⟩
  simp only [go_sem,seval,q0,q6,q7,q8,n1,n2,n3,n4,n5,n6,n7,n8,c1,c2,c3,c4,c5,c6,c7,c8,c9,f1,f2]
  refine aC (ru _ _ ((aV ks).take J) [] (fH.of (hB.take _) f3.symm rfl) .nil (by rw [f3];simp;omega)) (by simp only [go_sem,seval,q0,q6,q7,q8,n1,n2,n3,n4,n5,n6,n7,n8,gJ,c1,c2,c3,c4,c5,c6,c7,c8,c9,f1,f2]) ?_<;>simp only [go_sem,seval,q0,q6,q7,q8,n1,n2,n3,n4,n5,n6,n7,n8,gJ,c1,c2,c3,c4,c5,c6,c7,c8,c9,f1,f2]
  refine aC (hP2) (by simp only [go_sem,seval,q0,q6,q7,q8,n1,n2,n3,n4,n5,n6,n7,n8,gJ,c1,c2,c3,c4,c5,c6,c7,c8,c9,f1,f2]) ?_<;>simp only [go_sem,seval,q0,q6,q7,q8,n1,n2,n3,n4,n5,n6,n7,n8,gJ,c1,c2,c3,c4,c5,c6,c7,c8,c9,f1,f2]
  refine aC (hP4) (by simp only [go_sem,seval,q0,q6,q7,q8,n1,n2,n3,n4,n5,n6,n7,n8,gJ,c1,c2,c3,c4,c5,c6,c7,c8,c9,f1,f2]) ?_<;>simp only [go_sem,seval,q0,q6,q7,q8,n1,n2,n3,n4,n5,n6,n7,n8,gJ,c1,c2,c3,c4,c5,c6,c7,c8,c9,f1,f2]
  refine aC (ru _ _ ((aV ks).drop (J+1)) [] (fH.of (hB.drop _) f4.symm rfl) .nil (by rw [f4];simp;omega)) (by simp only [go_sem,seval,q0,q6,q7,q8,n1,n2,n3,n4,n5,n6,n7,n8,gJ,c1,c2,c3,c4,c5,c6,c7,c8,c9,f1,f2]) ?_<;>simp only [go_sem,seval,q0,q6,q7,q8,n1,n2,n3,n4,n5,n6,n7,n8,gJ,c1,c2,c3,c4,c5,c6,c7,c8,c9,f1,f2]
  refine aC (hP3) (by simp only [go_sem,seval,q0,q6,q7,q8]) ?_<;>simp only [go_sem,seval,q0,q6,q7,q8]
  refine aC (hP5) (by simp only [go_sem,seval,q0,q6,q7,q8]) ?_<;>simp only [go_sem,seval,q0,q6,q7,q8]
  exact fin (by simp only [VV.isPure,VV.ak,hr.pure,hs.pure];rfl) rfl
 ·refine aG (fun m ρ σ=>∃ j : Nat,m=J-j∧j≤J∧ρ.get 0=.ptr [.int .i64 (aI ks).length,.int .i64 (e+1 : Nat),.sl ks.length (ks.map (·.1)) t,.nils] 0∧ρ.get 1=.int .i64 (i-(aI (ks.take j)).length : Nat)∧ρ.get 6=.int .i64 j∧σ=[]) (n:=J) ?_ ⟨0,rfl,by omega,rfl,by simp [aI,Env.get],rfl,rfl⟩
  rintro m ρ σ ⟨j,rfl,hj,q0,q1,q6,rfl⟩
  have hjl : j < ks.length:=by omega
  obtain ⟨ka,kb,gj⟩:=hg j hjl
  have hs1:=gV ks j hjl
  have c1 : (0 : Int)≤(j : Int):=by omega
  have c2 : (j : Int) < (ks.length : Int):=by omega
  have c3 : j < (ks.map (·.1)).length:=by simpa using hjl
  have c6 : IntKind.i64.wrap ((j : Int)+1)=((j+1 : Nat) : Int):=by rw [iw (by omega)];omega
  have hmono : ∀ a b,a≤b→(aI (ks.take a)).length≤(aI (ks.take b)).length:=by
   intro a b hab
   have:=iE (ks.take b) a
   rwa [List.take_take,Nat.min_eq_left hab] at this
  simp only [go_sem,seval,q0,q1,q6,Int.toNat_natCast,Nat.mul_one,gj,c1,c2,c3]
  refine aj (fun hc=>?_) (fun hc=>?_)
  ·have hjJ : j < J:=by
    simp at hc
    rcases Nat.lt_or_ge j J with h | h
    ·exact h
    ·obtain rfl : j=J:=by omega
     omega
   have hm:=hmono (j+1) J hjJ
   have c7 : IntKind.i64.wrap (((i-(aI (ks.take j)).length : Nat) : Int)-(ks[j].2.length : Int))=((i-(aI (ks.take (j+1))).length : Nat) : Int):=by rw [iw (by omega)];omega
   simp only [go_sem,seval,q0,q1,q6,Int.toNat_natCast,Nat.mul_one,gj,c1,c2,c3,c6,c7]
   refine ⟨J-(j+1),by omega,j+1, ?_⟩
   and_intros
   all_goals first | rfl | omega | exact q0
  ·have hjJ : j=J:=by
    simp at hc
    rcases Nat.lt_or_ge j J with h | h
    ·have hm:=hmono (j+1) J h
     omega
    ·omega
   subst hjJ
   simp only [go_sem,seval,q0,q1,q6,← hi']
theorem WH (d : Nat) : ∀ (v : VV) (xs : List (List VV)) (i : Nat),RN d v xs→i≤xs.length→xs.length≤1000000→yE v xs i:=by
 induction d with
 | zero=>intro v xs i h;have:=h.ne;omega
 | succ d ih =>
  intro v xs i h hi hl
  by_cases h0 : i=0
  ·exact Je _ v xs i h (.inl h0)
  by_cases hn : i=xs.length
  ·exact Je _ v xs i h (.inr hn)
  rcases h.inv with ⟨h1,w,hw,rfl⟩ | ⟨e,w,ks,h1,he,hk,hk2,rfl,rfl⟩
  ·obtain rfl : d=0:=by omega
   exact Ue w xs i h hw h0 hn hi hl
  ·obtain rfl : e=d:=by omega
   refine TV e w ks i h hk hk2 he h0 hn hi hl fun k hm i hi=>ih k.1 k.2 i (hk.rn k hm) hi ?_
   obtain ⟨A,B,rfl⟩:=List.append_of_mem hm
   rw [dN,dV,List.length_append,List.length_append] at hl
   omega
end Go.V
