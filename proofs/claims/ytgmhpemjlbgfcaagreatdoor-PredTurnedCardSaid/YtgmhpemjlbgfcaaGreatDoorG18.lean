/- Texts F18 F19 F20 F21. -/
import Derived.Test.YtgmhpemjlbgfcaaGreatDoorG17
set_option linter.unusedVariables false
set_option linter.unusedSimpArgs false
namespace Go.V
open Go.Proofs
set_option maxRecDepth 100000
theorem dh.one {x : VV} (hp : x.isPure=true) (hc : x.aC=true) : dh 1 [[x]]:=⟨by simp,by simp [VV.ak,hp],by simp [aQ,hc]⟩
theorem dh.two {x y : VV} (hp : x.isPure=true) (hc : x.aC=true) (hp' : y.isPure=true) (hc' : y.aC=true) : dh 1 [[x],[y]]:=⟨by simp,by simp [VV.ak,hp,hp'],by simp [aQ,hc,hc']⟩
theorem RN.cell {d : Nat} {v : VV} {xs : List (List VV)} (h : RN d v xs) : v.aC=true:=by cases h<;>rfl
theorem KL.blk {d : Nat} {v : VV} {ks : List Kd} (h : KL d v ks) : dh 1 (aW ks):=h.sl.blk
theorem KL.one {d : Nat} {r : VV} {xs : List (List VV)} (h : RN d r xs) : KL d (.sl 1 [r] true) [(r,xs)]:=⟨dG.of (dh.one h.ne.2.1 h.cell) rfl rfl,by simpa using h⟩
theorem KL.two {d : Nat} {r s : VV} {xs ys : List (List VV)} (h : RN d r xs) (h' : RN d s ys) : KL d (.sl 2 [r,s] true) [(r,xs),(s,ys)]:=⟨dG.of (dh.two h.ne.2.1 h.cell h'.ne.2.1 h'.cell) rfl rfl,by simp [h,h']⟩
theorem pR (ks : List Kd) (i : Nat) : aW (ks.take i)=(aW ks).take i:=by simp [aW,List.map_take]
theorem ru (ks : List Kd) (i : Nat) : aW (ks.drop i)=(aW ks).drop i:=by simp [aW,List.map_drop]
structure NL (d : Nat) (v : VV) (rs : List Kd) (xs : List (List VV)) : Prop where
 kl : KL d v rs
 its : aO rs=xs
 lo : 1≤rs.length
 hi : rs.length≤2
theorem NL.one {d : Nat} {r : VV} {xs : List (List VV)} (h : RN d r xs) : NL d (.sl 1 [r] true) [(r,xs)] xs:=⟨.one h,by simp [aO],by simp,by simp⟩
theorem NL.two {d : Nat} {r s : VV} {xs ys : List (List VV)} (h : RN d r xs) (h' : RN d s ys) : NL d (.sl 2 [r,s] true) [(r,xs),(s,ys)] (xs++ys):=⟨.two h h',by simp [aO],by simp,by simp⟩
theorem NV (v : VV) (xs : List (List VV)) (h : dG 11 v xs) (hne : xs≠[]) (hl : xs.length≤1000000) : ∃ w rs,NL 1 w rs xs∧PV Tryz.prog G0 237 [v] w:=by
 by_cases hs : xs.length≤16
 ·obtain ⟨r,_,hP,hr⟩:=Dv v xs h
  have hr:=hr hne
  obtain ⟨_,_,rfl⟩:=hr.cells
  refine ⟨_,_,.one hr, ?_⟩
  refine pv e237 (by simp) (by simp [VV.ak,h.pure]) (NL.one hr).kl.sl.pure ?_
  have h0 : decide ((xs.length : Int)≤16)=true:=by simp;omega
  simp only [go_sem,seval,c237,h.aT dS,h0]
  refine ah (hP) ?_<;>simp only [go_sem,seval]
  exact fin (NL.one hr).kl.sl.pure rfl
 ·obtain ⟨t,rfl⟩:=h.fP hne
  have hB:=h.blk
  have ha : dG 11 (.sl (xs.take (xs.length / 2)).length (xs.take (xs.length / 2)).flatten false) (xs.take (xs.length / 2)):=.sl _ _ (hB.take _)
  have hb : dG 11 (.sl (xs.drop (xs.length / 2)).length (xs.drop (xs.length / 2)).flatten false) (xs.drop (xs.length / 2)):=.sl _ _ (hB.drop _)
  obtain ⟨r,_,hP,hr⟩:=Dv _ _ ha
  obtain ⟨s,_,hP',hs'⟩:=Dv _ _ hb
  have hr:=hr (by intro e;have:=congrArg List.length e;rw [List.length_take,List.length_nil] at this;omega)
  have hs':=hs' (by intro e;have:=congrArg List.length e;rw [List.length_drop,List.length_nil] at this;omega)
  obtain ⟨_,_,rfl⟩:=hr.cells
  obtain ⟨_,_,rfl⟩:=hs'.cells
  have hN:=NL.two hr hs'
  rw [List.take_append_drop] at hN
  refine ⟨_,_,hN, ?_⟩
  refine pv e237 (by simp) (by simp [VV.ak,h.pure]) hN.kl.sl.pure ?_
  have h0 : decide ((xs.length : Int)≤16)=false:=by simp;omega
  have e1 : IntKind.i64.wrap (Int.tdiv (xs.length : Int) 2)=((xs.length / 2 : Nat) : Int):=by rw [show (2 : Int)=((2 : Nat) : Int) from rfl,Tn,iw (by omega)]
  have e2 : ((xs.drop (xs.length / 2)).flatten).take ((xs.length-xs.length / 2)*11)=(xs.drop (xs.length / 2)).flatten:=List.take_of_length_le (by rw [(hB.drop _).flat,List.length_drop];exact Nat.le_refl _)
  have b1 : (0 : Int)≤((xs.length / 2 : Nat) : Int):=by omega
  have b2 : ((xs.length / 2 : Nat) : Int)≤(xs.length : Int):=by omega
  have b3 : (xs.length : Int)≤(xs.length : Int):=by omega
  simp only [go_sem,seval,c237,h0,e1,Int.toNat_natCast,Nat.sub_zero,hB.jB,hB.jD,e2,hB.flat,b1,b2,b3]
  refine aj (Cc _ _ (xs.take (xs.length / 2)) [] (dG.of (hB.take _) (by rw [List.length_take];omega) rfl) .nil (by rw [List.length_take];simp;omega)) (by simp only [go_sem,seval,e1,Int.toNat_natCast,Nat.sub_zero,hB.jB,hB.jD,e2,hB.flat,b1,b2,b3]) ?_<;>simp only [go_sem,seval,e1,Int.toNat_natCast,Nat.sub_zero,hB.jB,hB.jD,e2,hB.flat,b1,b2,b3]
  refine aj (hP) (by simp only [go_sem,seval,e1,Int.toNat_natCast,Nat.sub_zero,hB.jB,hB.jD,e2,hB.flat,b1,b2,b3]) ?_<;>simp only [go_sem,seval,e1,Int.toNat_natCast,Nat.sub_zero,hB.jB,hB.jD,e2,hB.flat,b1,b2,b3]
  refine aj (Cc _ _ (xs.drop (xs.length / 2)) [] (dG.of (hB.drop _) (by rw [List.length_drop]) rfl) .nil (by rw [List.length_drop];simp;omega)) (by simp only [go_sem,seval,e1,Int.toNat_natCast,Nat.sub_zero,hB.jB,hB.jD,e2,hB.flat,b1,b2,b3]) ?_<;>simp only [go_sem,seval,e1,Int.toNat_natCast,Nat.sub_zero,hB.jB,hB.jD,e2,hB.flat,b1,b2,b3]
  refine aj (hP') (by simp only [go_sem,seval]) ?_<;>simp only [go_sem,seval]
  exact fin hN.kl.sl.pure rfl
theorem Xc.rn {d : Nat} {ks : List Kd} {r : VV} (h : Xc d ks r) (h2 : 2≤ks.length) : RN (d+1) r (aO ks):=by
 cases h with
 | nil h _=>subst h;simp at h2
 | one k h _=>subst h;simp at h2
 | many _ h=>exact h
theorem YQ (d : Nat) (v : VV) (ks : List Kd) (h : KL d v ks) (h2 : 2≤ks.length) (hl : (aO ks).length≤1000000) : ∃ w rs,NL (d+1) w rs (aO ks)∧PV Tryz.prog G0 235 [v] w:=by
 have hkl:=KL.nK h.rn
 by_cases hs : ks.length≤16
 ·obtain ⟨r,hr,hP⟩:=xR d v ks h hl
  have hr:=hr.rn h2
  obtain ⟨_,_,rfl⟩:=hr.cells
  refine ⟨_,_,.one hr, ?_⟩
  refine pv e235 (by simp) (by simp [VV.ak,h.sl.pure]) (NL.one hr).kl.sl.pure ?_
  have h0 : decide ((ks.length : Int)≤16)=true:=by simp;omega
  simp only [go_sem,seval,c235,h.sl.aT iK,kJ,h0]
  refine ah (hP) ?_<;>simp only [go_sem,seval]
  exact fin (NL.one hr).kl.sl.pure rfl
 ·obtain ⟨t,rfl⟩:=h.sl.fP (by intro e;have:=congrArg List.length e;rw [kJ,List.length_nil] at this;omega)
  have hB:=h.blk
  have hl1 : (aO (ks.take (ks.length / 2))).length≤1000000:=Nat.le_trans (iR _ _) hl
  have hsum : aO (ks.take (ks.length / 2))++aO (ks.drop (ks.length / 2))=aO ks:=by rw [← dL,List.take_append_drop]
  have hl2 : (aO (ks.drop (ks.length / 2))).length≤1000000:=by have:=congrArg List.length hsum;rw [List.length_append] at this;omega
  have ha : KL d (.sl (aW (ks.take (ks.length / 2))).length (aW (ks.take (ks.length / 2))).flatten false) (ks.take (ks.length / 2)):=⟨.sl _ _ (by rw [pR];exact hB.take _),fun k hk=>h.rn k (List.mem_of_mem_take hk)⟩
  have hb : KL d (.sl (aW (ks.drop (ks.length / 2))).length (aW (ks.drop (ks.length / 2))).flatten false) (ks.drop (ks.length / 2)):=⟨.sl _ _ (by rw [ru];exact hB.drop _),fun k hk=>h.rn k (List.mem_of_mem_drop hk)⟩
  obtain ⟨r,hr,hP⟩:=xR _ _ _ ha hl1
  obtain ⟨s,hs',hP'⟩:=xR _ _ _ hb hl2
  have hr:=hr.rn (by rw [List.length_take];omega)
  have hs':=hs'.rn (by rw [List.length_drop];omega)
  obtain ⟨_,_,rfl⟩:=hr.cells
  obtain ⟨_,_,rfl⟩:=hs'.cells
  have hN:=NL.two hr hs'
  rw [hsum] at hN
  refine ⟨_,_,hN, ?_⟩
  refine pv e235 (by simp) (by simp [VV.ak,h.sl.pure]) hN.kl.sl.pure ?_
  rw [pR] at hP
  rw [ru] at hP'
  have h0 : decide ((ks.length : Int)≤16)=false:=by simp;omega
  have e1 : IntKind.i64.wrap (Int.tdiv (ks.length : Int) 2)=((ks.length / 2 : Nat) : Int):=by rw [show (2 : Int)=((2 : Nat) : Int) from rfl,Tn,iw (by omega)]
  have hdl : ((aW ks).drop (ks.length / 2)).length=ks.length-ks.length / 2:=by rw [List.length_drop,kJ]
  have e2 : (((aW ks).drop (ks.length / 2)).flatten).take ((ks.length-ks.length / 2)*1)=((aW ks).drop (ks.length / 2)).flatten:=List.take_of_length_le (by rw [(hB.drop _).flat,hdl];exact Nat.le_refl _)
  have b1 : (0 : Int)≤((ks.length / 2 : Nat) : Int):=by omega
  have b2 : ((ks.length / 2 : Nat) : Int)≤(ks.length : Int):=by omega
  have b3 : (ks.length : Int)≤(ks.length : Int):=by omega
  have b4:=hB.flat
  rw [kJ] at b4
  simp only [go_sem,seval,c235,kJ,h0,e1,Int.toNat_natCast,Nat.sub_zero,hB.jB,hB.jD,e2,b4,b1,b2,b3]
  refine aj (uz _ _ ((aW ks).take (ks.length / 2)) [] (dG.of (hB.take _) (by rw [List.length_take,kJ];omega) rfl) .nil (by rw [List.length_take,kJ];simp;omega)) (by simp only [go_sem,seval,kJ,e1,Int.toNat_natCast,Nat.sub_zero,hB.jB,hB.jD,e2,b4,b1,b2,b3]) ?_<;>simp only [go_sem,seval,kJ,e1,Int.toNat_natCast,Nat.sub_zero,hB.jB,hB.jD,e2,b4,b1,b2,b3]
  refine aj (hP) (by simp only [go_sem,seval,kJ,e1,Int.toNat_natCast,Nat.sub_zero,hB.jB,hB.jD,e2,b4,b1,b2,b3]) ?_<;>simp only [go_sem,seval,kJ,e1,Int.toNat_natCast,Nat.sub_zero,hB.jB,hB.jD,e2,b4,b1,b2,b3]
  refine aj (uz _ _ ((aW ks).drop (ks.length / 2)) [] (dG.of (hB.drop _) hdl.symm rfl) .nil (by rw [hdl];simp;omega)) (by simp only [go_sem,seval,kJ,e1,Int.toNat_natCast,Nat.sub_zero,hB.jB,hB.jD,e2,b4,b1,b2,b3]) ?_<;>simp only [go_sem,seval,kJ,e1,Int.toNat_natCast,Nat.sub_zero,hB.jB,hB.jD,e2,b4,b1,b2,b3]
  refine aj (hP') (by simp only [go_sem,seval]) ?_<;>simp only [go_sem,seval]
  exact fin hN.kl.sl.pure rfl
end Go.V
namespace Go.V
open Go.Proofs
set_option maxRecDepth 100000
theorem RN.inv {d : Nat} {v : VV} {xs : List (List VV)} (h : RN d v xs) : (d=1∧∃ w,dG 11 w xs∧v=.ptr [.int .i64 xs.length,.int .i64 1,.nils,w] 0) ∨
  ∃ e w ks,d=e+1∧1≤e∧KL e w ks∧2≤ks.length∧xs=aO ks∧v=.ptr [.int .i64 xs.length,.int .i64 d,w,.nils] 0:=by
 cases h with
 | leaf h hne=>exact .inl ⟨rfl,_,h,rfl⟩
 | @inner d v ks h hk h2 =>
  refine .inr ⟨d,v,ks,rfl, ?_,⟨h,hk⟩,h2,rfl,rfl⟩
  match ks,h2 with
  | a::_,_=>exact (hk a (by simp)).ne.2.2.2.1
theorem Ht (d : Nat) (a b : VV) (xs ys : List (List VV)) (ha : RN d a xs) (hb : RN d b ys) (hl : xs.length+ys.length≤1000000) : ∃ w rs,NL d w rs (xs++ys)∧PV Tryz.prog G0 214 [a,b] w:=by
 have hpa:=ha.ne.2.1
 have hpb:=hb.ne.2.1
 have hnx:=List.length_pos_iff.2 ha.ne.1
 have hny:=List.length_pos_iff.2 hb.ne.1
 have hN:=NL.two ha hb
 rcases ha.inv with ⟨rfl,v,hv,rfl⟩ | ⟨e,v,ks,rfl,he,hk,hk2,rfl,rfl⟩
 ·rcases hb.inv with ⟨_,w,hw,rfl⟩ | ⟨e,w,ks,h,he,_⟩
  rotate_left
  ·omega
  have hboth:=Cc v w xs ys hv hw hl
  obtain ⟨u,rs,hU,hP⟩:=NV _ (xs++ys) (.sl _ false (hv.blk.append hw.blk)) (by intro e;have:=congrArg List.length e;rw [List.length_append,List.length_nil] at this;omega) (by rw [List.length_append];exact hl)
  have lv : ∀ {σ},aT Tryz.prog 196 v σ=okV (.int .i64 xs.length) σ:=hv.aT dS
  have lw : ∀ {σ},aT Tryz.prog 196 w σ=okV (.int .i64 ys.length) σ:=hw.aT dS
  by_cases h8 : 8≤xs.length∧8≤ys.length
  ·refine ⟨_,_,hN, ?_⟩
   refine pv e214 (by simp) (by simp only [VV.ak,hpa,hpb];rfl) hN.kl.sl.pure ?_
   have b1 : decide ((8 : Int)≤xs.length)=true:=by simp;omega
   have b2 : decide ((8 : Int)≤ys.length)=true:=by simp;omega
   simp only [go_sem,seval,c214,lv,lw,b1,b2]
   exact fin hN.kl.sl.pure rfl
  ·refine ⟨_,_,hU, ?_⟩
   refine pv e214 (by simp) (by simp only [VV.ak,hpa,hpb];rfl) hU.kl.sl.pure ?_
   simp only [go_sem,seval,c214,lv,lw]
   refine wZ (fun hc=>?_) (fun hc=>?_)
   ·have b2 : decide ((8 : Int)≤ys.length)=false:=by simp at hc ⊢;omega
    simp only [go_sem,seval,lv,lw,b2,hc]
    refine aj (hboth) (by simp only [go_sem,seval]) ?_<;>simp only [go_sem,seval]
    refine aj (hP) (by simp only [go_sem,seval]) ?_<;>simp only [go_sem,seval]
    exact fin hU.kl.sl.pure rfl
   ·simp only [go_sem,seval,lv,lw,hc]
    refine aj (hboth) (by simp only [go_sem,seval]) ?_<;>simp only [go_sem,seval]
    refine aj (hP) (by simp only [go_sem,seval]) ?_<;>simp only [go_sem,seval]
    exact fin hU.kl.sl.pure rfl
 ·rcases hb.inv with ⟨h,_⟩ | ⟨e',w,js,h',_,hj,hj2,rfl,rfl⟩
  ·omega
  obtain rfl : e'=e:=by omega
  have hkl:=KL.nK hk.rn
  have hjl:=KL.nK hj.rn
  have hboth:=uz v w (aW ks) (aW js) hk.sl hj.sl (by rw [kJ,kJ];omega)
  have hKJ : KL e' (.sl (aW ks++aW js).length (aW ks++aW js).flatten false) (ks++js):=by
   refine ⟨?_,fun k hm=>(List.mem_append.1 hm).elim (hk.rn k) (hj.rn k)⟩
   have : aW (ks++js)=aW ks++aW js:=by simp [aW]
   rw [this]
   exact .sl _ _ (hk.blk.append hj.blk)
  obtain ⟨u,rs,hU,hP⟩:=YQ e' _ _ hKJ (by rw [List.length_append];omega) (by rw [dL,List.length_append];exact hl)
  rw [dL] at hU
  have lv : ∀ {σ},aT Tryz.prog 211 v σ=okV (.int .i64 ks.length) σ:=by rw [← kJ];exact hk.sl.aT iK
  have lw : ∀ {σ},aT Tryz.prog 211 w σ=okV (.int .i64 js.length) σ:=by rw [← kJ];exact hj.sl.aT iK
  have h0 : (((e'+1 : Nat) : Int) == 1)=false:=by simp;omega
  by_cases h8 : 8≤ks.length∧8≤js.length
  ·refine ⟨_,_,hN, ?_⟩
   refine pv e214 (by simp) (by simp only [VV.ak,hpa,hpb];rfl) hN.kl.sl.pure ?_
   have b1 : decide ((8 : Int)≤ks.length)=true:=by simp;omega
   have b2 : decide ((8 : Int)≤js.length)=true:=by simp;omega
   simp only [go_sem,seval,c214,h0,lv,lw,b1,b2]
   exact fin hN.kl.sl.pure rfl
  ·refine ⟨_,_,hU, ?_⟩
   refine pv e214 (by simp) (by simp only [VV.ak,hpa,hpb];rfl) hU.kl.sl.pure ?_
   simp only [go_sem,seval,c214,h0,lv,lw]
   refine wZ (fun hc=>?_) (fun hc=>?_)
   ·have b2 : decide ((8 : Int)≤js.length)=false:=by simp at hc ⊢;omega
    simp only [go_sem,seval,lv,lw,b2,hc]
    refine aj (hboth) (by simp only [go_sem,seval]) ?_<;>simp only [go_sem,seval]
    refine aj (hP) (by simp only [go_sem,seval]) ?_<;>simp only [go_sem,seval]
    exact fin hU.kl.sl.pure rfl
   ·simp only [go_sem,seval,lv,lw,hc]
    refine aj (hboth) (by simp only [go_sem,seval]) ?_<;>simp only [go_sem,seval]
    refine aj (hP) (by simp only [go_sem,seval]) ?_<;>simp only [go_sem,seval]
    exact fin hU.kl.sl.pure rfl
theorem MC (a : VV) (da : Nat) : ∀ (d : Nat) (b : VV) (xs ys : List (List VV)),da=d→RN da a xs→∀ db,RN db b ys→db < da→xs.length+ys.length≤1000000→∃ w rs,NL da w rs (xs++ys)∧PV Tryz.prog G0 212 [a,b] w:=by
 intro d
 induction d generalizing a da with
 | zero=>intro b xs ys h ha;have:=ha.ne;omega
 | succ d ih =>
  intro b xs ys h ha db hb hlt hl
  rcases ha.inv with ⟨h1,_⟩ | ⟨e,v,ks,rfl,he,hk,hk2,rfl,rfl⟩
  ·have:=hb.ne;omega
  obtain rfl : e=d:=by omega
  have hpa:=ha.ne.2.1
  have hpb:=hb.ne.2.1
  have hkl:=KL.nK hk.rn
  have hnb:=hb.ne
  have hdb:=ha.ne.2.2.2.2
  obtain ⟨k,hke⟩ : ∃ k,k=ks[ks.length-1]'(by omega):=⟨_,rfl⟩
  have hkm : k ∈ ks:=hke ▸ List.getElem_mem _
  have hkr:=hk.rn k hkm
  have hks : ks=ks.take (ks.length-1)++[k]:=by
   rw [hke]
   have:=List.take_append_drop (ks.length-1) ks
   conv=>lhs;rw [← this]
   rw [List.drop_eq_getElem_cons (by omega),List.drop_eq_nil_of_le (by omega)]
  have hit : aO ks=aO (ks.take (ks.length-1))++k.2:=by
   conv=>lhs;rw [hks]
   rw [dL,gG];simp [aO]
  have hkll : k.2.length≤(aO ks).length:=by rw [hit,List.length_append];omega
  have hparts : ∃ w rs,NL e w rs (k.2++ys)∧((db=e∧PV Tryz.prog G0 214 [k.1,b] w)∨(db < e∧PV Tryz.prog G0 212 [k.1,b] w)):=by
   by_cases hde : db=e
   ·subst hde
    obtain ⟨w,rs,h1,h2⟩:=Ht db k.1 b k.2 ys hkr hb (by omega)
    exact ⟨w,rs,h1,.inl ⟨rfl,h2⟩⟩
   ·obtain ⟨w,rs,h1,h2⟩:=ih k.1 e b k.2 ys rfl hkr db hb (by omega) (by omega)
    exact ⟨w,rs,h1,.inr ⟨by omega,h2⟩⟩
  obtain ⟨pv_,rs,hN,hcase⟩:=hparts
  obtain ⟨t,rfl⟩:=hk.fP (by intro e;rw [e] at hk2;simp at hk2)
  have hB:=hk.blk
  have hrl:=hN.hi
  have hboth:=fun va (h : dG 1 va ((aW ks).take (ks.length-1)))=>uz va pv_ ((aW ks).take (ks.length-1)) (aW rs) h hN.kl.sl (by rw [List.length_take,kJ,kJ];omega)
  have hKJ : KL e (.sl ((aW ks).take (ks.length-1)++aW rs).length ((aW ks).take (ks.length-1)++aW rs).flatten false) (ks.take (ks.length-1)++rs):=by
   refine ⟨?_,fun q hm=>(List.mem_append.1 hm).elim (fun h=>hk.rn q (List.mem_of_mem_take h)) (hN.kl.rn q)⟩
   have : aW (ks.take (ks.length-1)++rs)=(aW ks).take (ks.length-1)++aW rs:=by simp [aW,List.map_take]
   rw [this]
   exact .sl _ _ ((hB.take _).append hN.kl.blk)
  have hits : aO (ks.take (ks.length-1)++rs)=aO ks++ys:=by rw [dL,hN.its,hit,List.append_assoc]
  obtain ⟨u,us,hU,hP⟩:=YQ e _ _ hKJ (by rw [List.length_append,List.length_take];have:=hN.lo;omega) (by rw [hits,List.length_append];exact hl)
  rw [hits] at hU
  refine ⟨_,_,hU, ?_⟩
  refine pv e212 (by simp) (by simp only [VV.ak,hpa,hpb];rfl) hU.kl.sl.pure ?_
  have e1 : IntKind.i64.wrap ((ks.length : Int)-1)=((ks.length-1 : Nat) : Int):=by rw [iw (by omega)];omega
  obtain ⟨ka,kb,hkc⟩:=hkr.cells
  obtain ⟨ba,bb,hbc⟩:=hb.cells
  have g : (ks.map (·.1)).getD (ks.length-1) .undef=.ptr [.int .i64 k.2.length,.int .i64 e,ka,kb] 0:=by
   rw [List.getD_eq_getElem?_getD,List.getElem?_map,List.getElem?_eq_getElem (by omega),← hke];exact hkc
  have b1 : (0 : Int)≤((ks.length-1 : Nat) : Int):=by omega
  have b2 : ((ks.length-1 : Nat) : Int) < (ks.length : Int):=by omega
  have b3 : ks.length-1 < (ks.map (·.1)).length:=by simp;omega
  subst hbc
  rw [hkc] at hcase
  have b4 : (ks.map (·.1)).length=ks.length:=by simp
  have e2 : ((ks.map (·.1)).take (ks.length-1))=((aW ks).take (ks.length-1)).flatten:=by rw [← pR,IK,List.map_take]
  have b5 : ((ks.length-1 : Nat) : Int)≤(ks.length : Int):=by omega
  have e3 : ((aW ks).take (ks.length-1)).length=ks.length-1:=by rw [List.length_take,kJ];omega
  simp only [go_sem,seval,c212,e1,Int.toNat_natCast,Nat.mul_one,g,b1,b2,b3]
  refine aG (fun hc=>?_) (fun hc=>?_)
  ·rcases hcase with ⟨rfl,hglue⟩ | ⟨hne,_⟩
   rotate_left
   ·simp at hc;omega
   simp only [go_sem,seval,e1,Int.toNat_natCast,Nat.mul_one,g,b1,b2,b3]
   refine ah (hglue) ?_<;>simp only [go_sem,seval,e1,Int.toNat_natCast,Nat.sub_zero,Nat.mul_one,b1,b2,b3,b4,b5,e2]
   refine ah (hboth _ (dG.of (hB.take _) e3.symm rfl)) ?_<;>simp only [go_sem,seval]
   refine ah (hP) ?_<;>simp only [go_sem,seval]
   exact fin hU.kl.sl.pure rfl
  ·rcases hcase with ⟨rfl,_⟩ | ⟨hne,hbeh⟩
   ·simp at hc
   simp only [go_sem,seval,e1,Int.toNat_natCast,Nat.mul_one,g,b1,b2,b3]
   refine ah (hbeh) ?_<;>simp only [go_sem,seval,e1,Int.toNat_natCast,Nat.sub_zero,Nat.mul_one,b1,b2,b3,b4,b5,e2]
   refine ah (hboth _ (dG.of (hB.take _) e3.symm rfl)) ?_<;>simp only [go_sem,seval]
   refine ah (hP) ?_<;>simp only [go_sem,seval]
   exact fin hU.kl.sl.pure rfl
theorem Qq (b : VV) (db : Nat) : ∀ (d : Nat) (a : VV) (ys xs : List (List VV)),db=d→RN db b ys→∀ da,RN da a xs→da < db→xs.length+ys.length≤1000000→∃ w rs,NL db w rs (xs++ys)∧PV Tryz.prog G0 213 [a,b] w:=by
 intro d
 induction d generalizing b db with
 | zero=>intro a ys xs h hb;have:=hb.ne;omega
 | succ d ih =>
  intro a ys xs h hb da ha hlt hl
  rcases hb.inv with ⟨h1,_⟩ | ⟨e,v,ks,rfl,he,hk,hk2,rfl,rfl⟩
  ·have:=ha.ne;omega
  obtain rfl : e=d:=by omega
  have hpa:=ha.ne.2.1
  have hpb:=hb.ne.2.1
  have hkl:=KL.nK hk.rn
  have hna:=ha.ne
  have hdb:=hb.ne.2.2.2.2
  obtain ⟨k,hke⟩ : ∃ k,k=ks[0]'(by omega):=⟨_,rfl⟩
  have hkm : k ∈ ks:=hke ▸ List.getElem_mem _
  have hkr:=hk.rn k hkm
  have hks : ks=k::ks.drop 1:=by
   rw [hke]
   have:=List.drop_eq_getElem_cons (l:=ks) (i:=0) (by omega)
   simpa using this
  have hit : aO ks=k.2++aO (ks.drop 1):=by
   conv=>lhs;rw [hks]
   rw [gG]
  have hkll : k.2.length≤(aO ks).length:=by rw [hit,List.length_append];omega
  have hparts : ∃ w rs,NL e w rs (xs++k.2)∧((da=e∧PV Tryz.prog G0 214 [a,k.1] w)∨(da < e∧PV Tryz.prog G0 213 [a,k.1] w)):=by
   by_cases hde : da=e
   ·subst hde
    obtain ⟨w,rs,h1,h2⟩:=Ht da a k.1 xs k.2 ha hkr (by omega)
    exact ⟨w,rs,h1,.inl ⟨rfl,h2⟩⟩
   ·obtain ⟨w,rs,h1,h2⟩:=ih k.1 e a k.2 xs rfl hkr da ha (by omega) (by omega)
    exact ⟨w,rs,h1,.inr ⟨by omega,h2⟩⟩
  obtain ⟨pv_,rs,hN,hcase⟩:=hparts
  obtain ⟨t,rfl⟩:=hk.fP (by intro e;rw [e] at hk2;simp at hk2)
  have hB:=hk.blk
  have hrl:=hN.hi
  have hboth:=fun va (h : dG 1 va ((aW ks).drop 1))=>uz pv_ va (aW rs) ((aW ks).drop 1) hN.kl.sl h (by rw [List.length_drop,kJ,kJ];omega)
  have hKJ : KL e (.sl (aW rs++(aW ks).drop 1).length (aW rs++(aW ks).drop 1).flatten false) (rs++ks.drop 1):=by
   refine ⟨?_,fun q hm=>(List.mem_append.1 hm).elim (hN.kl.rn q) (fun h=>hk.rn q (List.mem_of_mem_drop h))⟩
   have : aW (rs++ks.drop 1)=aW rs++(aW ks).drop 1:=by simp [aW,List.map_drop]
   rw [this]
   exact .sl _ _ (hN.kl.blk.append (hB.drop _))
  have hits : aO (rs++ks.drop 1)=xs++aO ks:=by rw [dL,hN.its,hit,List.append_assoc]
  obtain ⟨u,us,hU,hP⟩:=YQ e _ _ hKJ (by rw [List.length_append,List.length_drop];have:=hN.lo;omega) (by rw [hits,List.length_append];exact hl)
  rw [hits] at hU
  refine ⟨_,_,hU, ?_⟩
  refine pv e213 (by simp) (by simp only [VV.ak,hpa,hpb];rfl) hU.kl.sl.pure ?_
  obtain ⟨ka,kb,hkc⟩:=hkr.cells
  obtain ⟨ba,bb,hbc⟩:=ha.cells
  have g : (ks.map (·.1)).getD 0 .undef=.ptr [.int .i64 k.2.length,.int .i64 e,ka,kb] 0:=by
   rw [List.getD_eq_getElem?_getD,List.getElem?_map,List.getElem?_eq_getElem (by omega),← hke];exact hkc
  have b2 : (0 : Int) < (ks.length : Int):=by omega
  have b3 : 0 < (ks.map (·.1)).length:=by simp;omega
  subst hbc
  rw [hkc] at hcase
  have b4 : (ks.map (·.1)).length=ks.length:=by simp
  have e3 : ((aW ks).drop 1).length=ks.length-1:=by rw [List.length_drop,kJ]
  have e2 : ((ks.map (·.1)).drop 1).take (ks.length-1)=((aW ks).drop 1).flatten:=by rw [← ru,IK,List.map_drop];exact List.take_of_length_le (by simp)
  have b5 : (1 : Int)≤(ks.length : Int):=by omega
  have b6 : (ks.length : Int)≤(ks.length : Int):=by omega
  simp only [go_sem,seval,c213,Int.toNat_natCast,Nat.mul_one,g,b2,b3]
  refine aG (fun hc=>?_) (fun hc=>?_)
  ·rcases hcase with ⟨rfl,hglue⟩ | ⟨hne,_⟩
   rotate_left
   ·simp at hc;omega
   simp only [go_sem,seval,Int.toNat_natCast,Nat.mul_one,g,b2,b3]
   refine ah (hglue) ?_<;>simp only [go_sem,seval,Int.toNat_natCast,Nat.sub_zero,Nat.mul_one,b2,b3,b4,b5,b6,e2]
   refine ah (hboth _ (dG.of (hB.drop _) e3.symm rfl)) ?_<;>simp only [go_sem,seval]
   refine ah (hP) ?_<;>simp only [go_sem,seval]
   exact fin hU.kl.sl.pure rfl
  ·rcases hcase with ⟨rfl,_⟩ | ⟨hne,hbeh⟩
   ·simp at hc
   simp only [go_sem,seval,Int.toNat_natCast,Nat.mul_one,g,b2,b3]
   refine ah (hbeh) ?_<;>simp only [go_sem,seval,Int.toNat_natCast,Nat.sub_zero,Nat.mul_one,b2,b3,b4,b5,b6,e2]
   refine ah (hboth _ (dG.of (hB.drop _) e3.symm rfl)) ?_<;>simp only [go_sem,seval]
   refine ah (hP) ?_<;>simp only [go_sem,seval]
   exact fin hU.kl.sl.pure rfl
end Go.V
namespace Go.V
open Go.Proofs
set_option maxRecDepth 100000
def tC : Option TypeDesc→Bool
 | some (.pointer _)=>true
 | _=>false
@[go_sem] theorem Tv {e : TypeId} : tC (some (.pointer e))=true:=rfl
theorem nM {o : Option TypeDesc} (h : tC o=true) : ∃ e,o=some (.pointer e):=by
 unfold tC at h
 split at h
 ·exact ⟨_,rfl⟩
 ·cases h
section
variable {P : Program} {t : TypeId} {x y : Operand} {σ : Store} {cells : List VV} {off id : Nat}
@[go_sem] theorem XQ (h : tC (P.underlying t)=true) : lV P .eql t x y .nilp .nilp σ=okV (.bool true) σ:=by
 obtain ⟨e,he⟩:=nM h;simp [lV,VV.tZ,VV.gK,VV.isAgg,Ci,he,okV]
@[go_sem] theorem XD (h : tC (P.underlying t)=true) : lV P .eql t x y (.ptr cells off) .nilp σ=okV (.bool false) σ:=by
 obtain ⟨e,he⟩:=nM h;simp [lV,VV.tZ,VV.gK,VV.isAgg,Ci,he,okV]
@[go_sem] theorem Xu (h : tC (P.underlying t)=true) : lV P .neq t x y .nilp .nilp σ=okV (.bool false) σ:=by
 obtain ⟨e,he⟩:=nM h;simp [lV,VV.tZ,VV.gK,VV.isAgg,Ci,he,okV]
@[go_sem] theorem XK (h : tC (P.underlying t)=true) : lV P .neq t x y (.ptr cells off) .nilp σ=okV (.bool true) σ:=by
 obtain ⟨e,he⟩:=nM h;simp [lV,VV.tZ,VV.gK,VV.isAgg,Ci,he,okV]
end
theorem RP.ptr {v : VV} {xs : List (List VV)} (h : RP v xs) : v=.nilp∧xs=[]∨∃ d,RN d v xs:=h
theorem RP.WR {d : Nat} {ks : List Kd} {r : VV} (h : Xc d ks r) (hk : ∀ k ∈ ks,RN d k.1 k.2) : RP r (aO ks):=by
 cases h with
 | nil h hr=>subst h hr;exact .inl ⟨rfl,rfl⟩
 | one k h hr=>subst h hr;exact .inr ⟨d,by simpa [aO] using hk k (by simp)⟩
 | many h hr=>exact .inr ⟨_,hr⟩
theorem GX (d : Nat) (w : VV) (rs : List Kd) (xs : List (List VV)) (h : NL d w rs xs) (hl : xs.length≤1000000) : ∃ r,RP r xs∧PV Tryz.prog G0 211 [w] r:=by
 obtain ⟨r,hr,hP⟩:=xR d w rs h.kl (by rw [h.its];exact hl)
 exact ⟨r,by have:=RP.WR hr h.kl.rn;rwa [h.its] at this,hP⟩
theorem Ur (a b : VV) (xs ys : List (List VV)) (ha : RP a xs) (hb : RP b ys) (hl : xs.length+ys.length≤1000000) : ∃ r,RP r (xs++ys)∧PV Tryz.prog G0 170 [a,b] r:=by
 have hpa:=ha.pure
 have hpb:=hb.pure
 rcases ha.ptr with ⟨rfl,rfl⟩ | ⟨da,ha'⟩
 ·refine ⟨b,hb, ?_⟩
  refine pv e170 (by simp) (by simp only [VV.ak,hpa,hpb];rfl) hpb ?_
  simp only [go_sem,seval,c170]
  exact fin hpb rfl
 obtain ⟨a1,a2,rfl⟩:=ha'.cells
 rcases hb.ptr with ⟨rfl,rfl⟩ | ⟨db,hb'⟩
 ·refine ⟨_,by simpa using ha, ?_⟩
  refine pv e170 (by simp) (by simp only [VV.ak,hpa,hpb];rfl) hpa ?_
  simp only [go_sem,seval,c170]
  exact fin hpa rfl
 obtain ⟨b1,b2,rfl⟩:=hb'.cells
 have hlx : (xs++ys).length≤1000000:=by rw [List.length_append];exact hl
 rcases Nat.lt_trichotomy da db with hlt | heq | hgt
 ·obtain ⟨w,rs,hN,hP⟩:=Qq _ db db _ ys xs rfl hb' da ha' hlt hl
  obtain ⟨r,hr,hP'⟩:=GX _ _ _ _ hN hlx
  refine ⟨r,hr, ?_⟩
  refine pv e170 (by simp) (by simp only [VV.ak,hpa,hpb];rfl) hr.pure ?_
  have h1 : decide ((db : Int) < da)=false:=by simp;omega
  have h2 : decide ((da : Int) < db)=true:=by simp;omega
  simp only [go_sem,seval,c170,h1,h2]
  refine ah (hP) ?_<;>simp only [go_sem,seval]
  refine ah (hP') ?_<;>simp only [go_sem,seval]
  exact fin hr.pure rfl
 ·subst heq
  obtain ⟨w,rs,hN,hP⟩:=Ht da _ _ xs ys ha' hb' hl
  obtain ⟨r,hr,hP'⟩:=GX _ _ _ _ hN hlx
  refine ⟨r,hr, ?_⟩
  refine pv e170 (by simp) (by simp only [VV.ak,hpa,hpb];rfl) hr.pure ?_
  have h1 : decide ((da : Int) < da)=false:=by simp
  simp only [go_sem,seval,c170,h1]
  refine ah (hP) ?_<;>simp only [go_sem,seval]
  refine ah (hP') ?_<;>simp only [go_sem,seval]
  exact fin hr.pure rfl
 ·obtain ⟨w,rs,hN,hP⟩:=MC _ da da _ xs ys rfl ha' db hb' hgt hl
  obtain ⟨r,hr,hP'⟩:=GX _ _ _ _ hN hlx
  refine ⟨r,hr, ?_⟩
  refine pv e170 (by simp) (by simp only [VV.ak,hpa,hpb];rfl) hr.pure ?_
  have h1 : decide ((db : Int) < da)=true:=by simp;omega
  simp only [go_sem,seval,c170,h1]
  refine ah (hP) ?_<;>simp only [go_sem,seval]
  refine ah (hP') ?_<;>simp only [go_sem,seval]
  exact fin hr.pure rfl
end Go.V
namespace Go.V
open Go.Proofs
set_option maxRecDepth 100000
def FC (fv : VV) (xs : List VV) (σ : Store) (R : gY→Store→Prop) : Prop:=match fv with
 | .fn (.func g) first caps=>ay Tryz.prog g=true∧CV Tryz.prog G0 g (first++xs++caps) σ R
 | .yield id=>YV Tryz.prog G0 id xs σ R
 | _=>False
theorem kC {fv : VV} {xs : List VV} {σ : Store} {R : gY→Store→Prop} {d : Option Nat} {r : List VO} {Q : Out→Env→Store→Prop} {ρ : Env} (h : FC fv xs σ R)
  (hr : ∀ c σ',R c σ'→gZ (fun x σ'=>bM Tryz.prog G0 r Q (dB ρ d x) σ') (fun x σ'=>Q (.panic x) ρ σ') c σ') : EN Tryz.prog G0 fv xs d r Q ρ σ:=by
 unfold FC at h
 unfold EN
 split at h
 ·exact ⟨h.1,h.2.mono hr⟩
 ·exact h.mono hr
 ·exact h.elim
theorem FC.mono {fv : VV} {xs : List VV} {σ : Store} {R R' : gY→Store→Prop} (h : FC fv xs σ R) (hr : ∀ c σ',R c σ'→R' c σ') : FC fv xs σ R':=by
 unfold FC at h ⊢
 split at h
 ·exact ⟨h.1,h.2.mono hr⟩
 ·exact h.mono hr
 ·exact h.elim
section
variable {σ : Store} {a b c e o : Obj} {τ : Store}
theorem Qd : (σ++a::τ)[σ.length]?=some a:=by simp
theorem Qk : (σ++a::b::τ)[σ.length+1]?=some b:=by simp
theorem Rn : (σ++a::b::c::τ)[σ.length+(1+1)]?=some c:=by simp
theorem Q5 : (σ++a::b::c::e::τ)[σ.length+(1+1+1)]?=some e:=by simp
theorem Ry : (σ++a::τ).set σ.length o=σ++o::τ:=by simp
theorem QG : (σ++a::b::τ).set (σ.length+1) o=σ++a::o::τ:=by simp [List.set_append]
theorem Qr : (σ++a::b::c::τ).set (σ.length+(1+1)) o=σ++a::b::o::τ:=by simp [List.set_append]
theorem QW : (σ++a::b::c::e::τ).set (σ.length+(1+1+1)) o=σ++a::b::c::o::τ:=by simp [List.set_append]
end
theorem SS : (∀ (α : Type) (a b c : List α),a++b++c=a++(b++c))∧(∀ (α : Type) (x : α) (a b : List α),(x::a)++b=x::(a++b))∧(∀ (α : Type) (a : List α),[]++a=a)∧(∀ (α : Type) (a b : List α),(a++b).length=a.length+b.length)∧(∀ (α : Type) (x : α) (a : List α),(x::a).length=a.length+1)∧(∀ α : Type,([] : List α).length=0)∧(∀ n : Nat,0+n=n) ∧
  (∀ (σ τ : Store) a,(σ++a::τ)[σ.length]?=some a)∧(∀ (σ τ : Store) a b,(σ++a::b::τ)[σ.length+1]?=some b)∧(∀ (σ τ : Store) a b c,(σ++a::b::c::τ)[σ.length+(1+1)]?=some c)∧(∀ (σ τ : Store) a b c e,(σ++a::b::c::e::τ)[σ.length+(1+1+1)]?=some e) ∧
  (∀ (σ τ : Store) a o,(σ++a::τ).set σ.length o=σ++o::τ)∧(∀ (σ τ : Store) a b o,(σ++a::b::τ).set (σ.length+1) o=σ++a::o::τ)∧(∀ (σ τ : Store) a b c o,(σ++a::b::c::τ).set (σ.length+(1+1)) o=σ++a::b::o::τ)∧(∀ (σ τ : Store) a b c e o,(σ++a::b::c::e::τ).set (σ.length+(1+1+1)) o=σ++a::b::c::o::τ) :=
 ⟨fun _=>List.append_assoc,fun _ _ _ _=>rfl,fun _ _=>rfl,fun _ _ _=>List.length_append,fun _ _ _=>rfl,fun _=>rfl,Nat.zero_add,fun _ _ _=>Qd,fun _ _ _ _=>Qk,fun _ _ _ _ _=>Rn,fun _ _ _ _ _ _=>Q5,fun _ _ _ _=>Ry,fun _ _ _ _ _=>QG,fun _ _ _ _ _ _=>Qr,fun _ _ _ _ _ _ _=>QW⟩
abbrev DS:=Nat→Prop
structure Low (D : DS) (σ σ' : Store) : Prop where
 len : σ.length≤σ'.length
 same : ∀ id,D id→σ'[id]?=σ[id]?
structure High (D : DS) (σ σ' : Store) : Prop where
 len : σ.length≤σ'.length
 same : ∀ id,id < σ.length→¬ D id→σ'[id]?=σ[id]?
def Grow (D : DS) (σ : Store) (D' : DS) : Prop:=∀ id,D' id→D id∨σ.length≤id
theorem High.refl (D : DS) (σ : Store) : High D σ σ:=⟨Nat.le_refl _,fun _ _ _=>rfl⟩
theorem High.snoc (D : DS) (σ τ : Store) : High D σ (σ++τ):=⟨by simp,fun id h _=>List.getElem?_append_left h⟩
theorem Low.snoc {D : DS} {σ τ : Store} (h : ∀ id,D id→id < σ.length) : Low D σ (σ++τ):=⟨by simp,fun id hi=>List.getElem?_append_left (h id hi)⟩
theorem Low.trans {D : DS} {a b c : Store} (h : Low D a b) (h' : Low D b c) : Low D a c:=⟨Nat.le_trans h.1 h'.1,fun id h1=>(h'.2 id h1).trans (h.2 id h1)⟩
theorem Low.set {D : DS} {σ : Store} {x : Nat} {o : Obj} (h : ¬ D x) : Low D σ (σ.set x o):=⟨by simp,fun id hi=>List.getElem?_set_ne (fun e=>h (by rw [e];exact hi))⟩
theorem Grow.refl (D : DS) (σ : Store) : Grow D σ D:=fun _ h=>.inl h
def Done (J : Nat→DS→Store→Prop) (k : Nat) (D : DS) (σ σ' : Store) : Prop:=∃ D',J k D' σ'∧Grow D σ D'∧High D σ σ'
theorem Done.refl {J : Nat→DS→Store→Prop} {k : Nat} {D : DS} {σ : Store} (h : J k D σ) : Done J k D σ σ:=⟨D,h,.refl _ _,.refl _ _⟩
theorem Done.trans {J : Nat→DS→Store→Prop} {k : Nat} {D D1 : DS} {σ σ1 σ2 : Store} (h1 : Grow D σ D1) (h2 : High D σ σ1) (h : Done J k D1 σ1 σ2) : Done J k D σ σ2:=by
 obtain ⟨D2,j,g,hh⟩:=h
 have l:=h2.len
 refine ⟨D2,j,fun id hd=>?_,⟨Nat.le_trans h2.len hh.len,fun id hi hn=>?_⟩⟩
 ·rcases g id hd with g | g
  ·exact h1 id g
  ·exact .inr (Nat.le_trans l g)
 ·rw [hh.same id (Nat.lt_of_lt_of_le hi l) (fun hd=>(h1 id hd).elim hn (fun g=>by omega)),h2.same id hi hn]
theorem Done.app {J : Nat→DS→Store→Prop} {k : Nat} {D : DS} {σ τ σ' : Store} (h : Done J k D (σ++τ) σ') : Done J k D σ σ' :=
 Done.trans (.refl _ _) (.snoc _ _ _) h
structure Cls (fv : VV) (J : Nat→DS→Store→Prop) (A : Nat→List VV→Prop) (lo hi : Nat) (res : VV) : Prop where
 dom : ∀ i D σ,J i D σ→∀ id,D id→id < σ.length
 low : ∀ i D σ σ',J i D σ→Low D σ σ'→J i D σ'
 call : ∀ i D σ args,lo≤i→i < hi→A i args→J i D σ→FC fv args σ fun c σ'=>c=.ret res∧Done J (i+1) D σ σ'
theorem Cls.snoc {fv : VV} {J : Nat→DS→Store→Prop} {A : Nat→List VV→Prop} {lo hi : Nat} {res : VV} (h : Cls fv J A lo hi res) {i : Nat} {D : DS} {σ : Store} (hJ : J i D σ) (τ : Store) : J i D (σ++τ):=h.low _ _ _ _ hJ (.snoc (h.dom _ _ _ hJ))
theorem Cls.sub {fv : VV} {J : Nat→DS→Store→Prop} {A A' : Nat→List VV→Prop} {lo hi lo' hi' : Nat} {res : VV} (h : Cls fv J A lo hi res) (h1 : lo≤lo') (h2 : hi'≤hi) (he : ∀ i args,lo'≤i→i < hi'→A' i args→A i args) : Cls fv J A' lo' hi' res :=
 ⟨h.dom,h.low,fun i D σ args a b c d=>h.call i D σ args (Nat.le_trans h1 a) (Nat.lt_of_lt_of_le b h2) (he i args a b c) d⟩
def tK (xs : List (List VV)) (a : Nat) (i : Nat) (args : List VV) : Prop:=args=[.int .i64 i,.agg (xs.getD (i-a) [])]
theorem AA {xs : List (List VV)} {a i : Nat} (h : i < xs.length) : tK xs a (a+i) [.int .i64 (a+i : Nat),.agg xs[i]]:=by
 simp [tK,List.getD_eq_getElem?_getD,h]
theorem Ut (d : Nat) : ∀ (v : VV) (xs : List (List VV)) (a : Nat) (fv : VV) (J : Nat→DS→Store→Prop) (D : DS) (σ : Store),RN d v xs→a+xs.length≤1000000→Cls fv J (tK xs a) a (a+xs.length) (.bool true)→J a D σ →
  CV Tryz.prog G0 142 [v,.int .i64 a,fv] σ fun c σ'=>c=.ret (.bool true)∧Done J (a+xs.length) D σ σ':=by
 induction d with
 | zero=>intro v xs a fv J D σ h;have:=h.ne;omega
 | succ d ih =>
  intro v xs a fv J D σ h hl hC hJ
  have hnx:=List.length_pos_iff.2 h.ne.1
  have hBx:=h.ne.2.2.1
  rcases h.inv with ⟨h1,w,hw,rfl⟩ | ⟨e,w,ks,h1,he,hk,hk2,rfl,rfl⟩
  ·obtain ⟨t,rfl⟩:=hw.fP h.ne.1
   refine cv e142 (by simp) ?_
   simp only [go_sem,seval,c142]
   refine bf (M:=fun ρ σ'=>ρ.get 0=.ptr [.int .i64 xs.length,.int .i64 1,.nils,.sl xs.length xs.flatten t] 0∧ρ.get 2=fv∧Done J (a+xs.length) D σ σ') ?_ ?_
   rotate_left
   ·refine aF (fun m ρ σ'=>∃ i : Nat,m=xs.length-i∧i≤xs.length∧ρ.get 0=.ptr [.int .i64 xs.length,.int .i64 1,.nils,.sl xs.length xs.flatten t] 0∧ρ.get 1=.int .i64 a∧ρ.get 2=fv∧ρ.get 14=.sl xs.length xs.flatten t∧ρ.get 15=.int .i64 xs.length∧ρ.get 16=.int .i64 i∧Done J (a+i) D σ σ') (n:=xs.length) ?_ ⟨0,rfl,by omega,rfl,rfl,rfl,rfl,rfl,rfl,.refl hJ⟩
    rintro m ρ σ' ⟨i,rfl,hi,q0,q1,q2,q14,q15,q16,hJi⟩
    simp only [go_sem,seval,q0,q1,q2,q14,q15,q16]
    refine aG (fun hc=>?_) (fun hc=>?_)
    ·have hc' : i < xs.length:=by simpa using hc
     have c1 : (0 : Int)≤(i : Int):=by omega
     have c2 : (i : Int) < (xs.length : Int):=by omega
     have c3 : i*11+11≤xs.flatten.length:=by rw [hBx.flat];omega
     have c4 : (xs.flatten.drop (i*11)).take 11=xs[i]:=hBx.og hc'
     have c5 : IntKind.i64.wrap ((a : Int)+i)=((a+i : Nat) : Int):=by rw [iw (by omega)];omega
     have c6 : IntKind.i64.wrap ((i : Int)+1)=((i+1 : Nat) : Int):=by rw [iw (by omega)];omega
     have c7 : xs[i].length=11:=hBx.len _ (List.getElem_mem _)
     have c8 : xs[i].all VV.aC=true:=hBx.cell _ (List.getElem_mem _)
     have c9 : xs[i].take 11=xs[i]:=List.take_of_length_le (by omega)
     simp only [go_sem,seval,q0,q1,q2,q14,q15,q16,c1,c2,c3,c4,c5,c7,c8,c9,Int.toNat_natCast,SS]
     obtain ⟨D1,j1,g1,hh1⟩:=hJi
     have hcall:=hC.call (a+i) D1 (σ'++[.own xs[i]]) _ (by omega) (by omega) (AA hc') (hC.snoc j1 _)
     refine kC hcall ?_
     rintro _ σ₂ ⟨rfl,hJ2⟩
     have hJ2:=Done.trans g1 hh1 hJ2.app
     simp only [go_sem,seval,gZ,q0,q1,q2,q14,q15,q16,c6,Bool.not_true]
     refine ⟨xs.length-(i+1),by omega,i+1, ?_⟩
     and_intros
     all_goals first | rfl | omega | exact hJ2 | assumption
    ·have hc' : i=xs.length:=by simp at hc;omega
     subst hc'
     simp only [go_sem,seval,q0,q1,q2,q14,q15,q16]
     exact hJi
   ·rintro ρ σ' ⟨q0,q2,hJ'⟩
    simp only [go_sem,seval,q0,q2]
    refine aF (fun m ρ σ'=>ρ.get 33=.int .i64 0∧ρ.get 34=.int .i64 0∧Done J (a+xs.length) D σ σ') (n:=0) ?_ ⟨rfl,rfl,hJ'⟩
    rintro m ρ σ' ⟨q33,q34,hJ'⟩
    simp only [go_sem,seval,q33,q34]
    exact hJ'
  ·obtain rfl : e=d:=by omega
   obtain ⟨t,rfl⟩:=hk.fP (by intro e;rw [e] at hk2;simp at hk2)
   have hkl:=KL.nK hk.rn
   refine cv e142 (by simp) ?_
   simp only [go_sem,seval,c142]
   refine bf (M:=fun ρ σ'=>ρ.get 0=.ptr [.int .i64 (aO ks).length,.int .i64 (e+1 : Nat),.sl ks.length (ks.map (·.1)) t,.nils] 0∧ρ.get 1=.int .i64 a∧ρ.get 2=fv∧Done J a D σ σ') ?_ ?_
   rotate_left
   ·refine aF (fun m ρ σ'=>ρ.get 0=.ptr [.int .i64 (aO ks).length,.int .i64 (e+1 : Nat),.sl ks.length (ks.map (·.1)) t,.nils] 0∧ρ.get 1=.int .i64 a∧ρ.get 2=fv∧ρ.get 15=.int .i64 0∧ρ.get 16=.int .i64 0∧Done J a D σ σ') (n:=0) ?_ ⟨rfl,rfl,rfl,rfl,rfl,.refl hJ⟩
    rintro m ρ σ' ⟨q0,q1,q2,q15,q16,hJ'⟩
    simp only [go_sem,seval,q15,q16]
    exact ⟨q0,q1,q2,hJ'⟩
   ·rintro ρ σ' ⟨q0,q1,q2,hJ'⟩
    simp only [go_sem,seval,q0,q1,q2]
    refine aF (fun m ρ σ'=>∃ i : Nat,m=ks.length-i∧i≤ks.length∧ρ.get 1=.int .i64 (a+(aO (ks.take i)).length : Nat)∧ρ.get 2=fv∧ρ.get 32=.sl ks.length (ks.map (·.1)) t∧ρ.get 33=.int .i64 ks.length∧ρ.get 34=.int .i64 i∧Done J (a+(aO (ks.take i)).length) D σ σ') (n:=ks.length) ?_ ⟨0,rfl,by omega,by simp [aO,Env.get,q1],q2,rfl,rfl,rfl,by simpa [aO] using hJ'⟩
    rintro m ρ σ' ⟨i,rfl,hi,q1,q2,q32,q33,q34,hJi⟩
    simp only [go_sem,seval,q1,q2,q32,q33,q34]
    refine aG (fun hc=>?_) (fun hc=>?_)
    ·have hc' : i < ks.length:=by simpa using hc
     obtain ⟨ka,kb,hkc⟩:=(hk.rn ks[i] (List.getElem_mem hc')).cells
     have g : (ks.map (·.1)).getD i .undef=.ptr [.int .i64 ks[i].2.length,.int .i64 e,ka,kb] 0:=by
      rw [List.getD_eq_getElem?_getD,List.getElem?_map,List.getElem?_eq_getElem hc'];exact hkc
     have hs1:=iy ks i hc'
     have hs2:=iR ks (i+1)
     have c1 : (0 : Int)≤(i : Int):=by omega
     have c2 : (i : Int) < (ks.length : Int):=by omega
     have c3 : i < (ks.map (·.1)).length:=by simpa using hc'
     have c5 : IntKind.i64.wrap (((a+(aO (ks.take i)).length : Nat) : Int)+(ks[i].2.length : Int))=((a+(aO (ks.take (i+1))).length : Nat) : Int):=by rw [iw (by omega)];omega
     have c6 : IntKind.i64.wrap ((i : Int)+1)=((i+1 : Nat) : Int):=by rw [iw (by omega)];omega
     have n1 : i*1=i:=by omega
     simp only [go_sem,seval,q1,q2,q32,q33,q34,c1,c2,c3,g,n1,Int.toNat_natCast]
     obtain ⟨D1,j1,g1,hh1⟩:=hJi
     have hkid:=ih ks[i].1 ks[i].2 (a+(aO (ks.take i)).length) fv J D1 σ' (hk.rn _ (List.getElem_mem hc')) (by omega) (hC.sub (by omega) (by omega) (fun j args h1 h2 h3=>by
      simp only [tK] at h3 ⊢
      rw [h3]
      congr 3
      have e1 : aO ks=aO (ks.take i)++(ks[i].2++aO (ks.drop (i+1))):=by
       conv=>lhs;rw [← List.take_append_drop i ks,dL,List.drop_eq_getElem_cons hc',gG]
      have e2 : j-(a+(aO (ks.take i)).length)=j-a-(aO (ks.take i)).length:=by omega
      rw [e2,e1,List.getD_eq_getElem?_getD,List.getD_eq_getElem?_getD,List.getElem?_append_right (by omega),List.getElem?_append_left (by omega)])) j1
     rw [hkc] at hkid
     refine CV.mono hkid ?_
     rintro _ σ₂ ⟨rfl,hJ2⟩
     have hJ2:=Done.trans g1 hh1 hJ2
     simp only [go_sem,seval,gZ,q1,q2,q32,q33,q34,c5,c6,Bool.not_true]
     refine ⟨ks.length-(i+1),by omega,i+1, ?_⟩
     and_intros
     all_goals first | rfl | omega | (have:=hJ2;rwa [Nat.add_assoc,← hs1] at this) | assumption
    ·have hc' : i=ks.length:=by simp at hc;omega
     subst hc'
     rw [List.take_length] at hJi
     simp only [go_sem,seval,q1,q2,q32,q33,q34]
     exact hJi
end Go.V
