/- Texts F20 F21 F22. -/
import Derived.Test.YthhjefemijhamaaGreatDoorG18
set_option linter.unusedVariables false
set_option linter.unusedSimpArgs false
namespace Go.V
open Go.Proofs
set_option maxRecDepth 100000
def isPtrD : Option TypeDesc→Bool
 | some (.pointer _)=>true
 | _=>false
@[go_sem] theorem isPtrD_some {e : TypeId} : isPtrD (some (.pointer e))=true:=rfl
theorem isPtrD_und {o : Option TypeDesc} (h : isPtrD o=true) : ∃ e,o=some (.pointer e):=by
 unfold isPtrD at h
 split at h
 ·exact ⟨_,rfl⟩
 ·cases h
section
variable {P : Program} {t : TypeId} {x y : Operand} {σ : Store} {cells : List VV} {off id : Nat}
@[go_sem] theorem eqp_nn (h : isPtrD (P.underlying t)=true) : evEq P .eql t x y .nilp .nilp σ=okV (.bool true) σ:=by
 obtain ⟨e,he⟩:=isPtrD_und h;simp [evEq,VV.eqOK,VV.isNilIfc,VV.isAgg,eqV,he,okV]
@[go_sem] theorem eqp_pn (h : isPtrD (P.underlying t)=true) : evEq P .eql t x y (.ptr cells off) .nilp σ=okV (.bool false) σ:=by
 obtain ⟨e,he⟩:=isPtrD_und h;simp [evEq,VV.eqOK,VV.isNilIfc,VV.isAgg,eqV,he,okV]
@[go_sem] theorem eqp_mn (h : isPtrD (P.underlying t)=true) : evEq P .eql t x y (.mptr id off) .nilp σ=okV (.bool false) σ:=by
 obtain ⟨e,he⟩:=isPtrD_und h;simp [evEq,VV.eqOK,VV.isNilIfc,VV.isAgg,eqV,he,okV]
@[go_sem] theorem nep_nn (h : isPtrD (P.underlying t)=true) : evEq P .neq t x y .nilp .nilp σ=okV (.bool false) σ:=by
 obtain ⟨e,he⟩:=isPtrD_und h;simp [evEq,VV.eqOK,VV.isNilIfc,VV.isAgg,eqV,he,okV]
@[go_sem] theorem nep_pn (h : isPtrD (P.underlying t)=true) : evEq P .neq t x y (.ptr cells off) .nilp σ=okV (.bool true) σ:=by
 obtain ⟨e,he⟩:=isPtrD_und h;simp [evEq,VV.eqOK,VV.isNilIfc,VV.isAgg,eqV,he,okV]
@[go_sem] theorem nep_mn (h : isPtrD (P.underlying t)=true) : evEq P .neq t x y (.mptr id off) .nilp σ=okV (.bool true) σ:=by
 obtain ⟨e,he⟩:=isPtrD_und h;simp [evEq,VV.eqOK,VV.isNilIfc,VV.isAgg,eqV,he,okV]
end
theorem RP.ptr {v : VV} {xs : List (List VV)} (h : RP v xs) : v=.nilp∧xs=[]∨∃ d,RN d v xs:=h
theorem RP.of_in {d : Nat} {ks : List Kd} {r : VV} (h : InR d ks r) (hk : ∀ k ∈ ks,RN d k.1 k.2) : RP r (kitems ks):=by
 cases h with
 | nil h hr=>subst h hr;exact .inl ⟨rfl,rfl⟩
 | one k h hr=>subst h hr;exact .inr ⟨d,by simpa [kitems] using hk k (by simp)⟩
 | many h hr=>exact .inr ⟨_,hr⟩
theorem x_root (d : Nat) (w : VV) (rs : List Kd) (xs : List (List VV)) (h : NL d w rs xs) (hl : xs.length≤1000000) : ∃ r,RP r xs∧PV Tryz.prog G0 155 [w] r:=by
 obtain ⟨r,hr,hP⟩:=x_inner d w rs h.kl (by rw [h.its];exact hl)
 exact ⟨r,by have:=RP.of_in hr h.kl.rn;rwa [h.its] at this,hP⟩
theorem x_join (a b : VV) (xs ys : List (List VV)) (ha : RP a xs) (hb : RP b ys) (hl : xs.length+ys.length≤1000000) : ∃ r,RP r (xs++ys)∧PV Tryz.prog G0 114 [a,b] r:=by
 have hpa:=ha.pure
 have hpb:=hb.pure
 rcases ha.ptr with ⟨rfl,rfl⟩ | ⟨da,ha'⟩
 ·refine ⟨b,hb, ?_⟩
  refine pv e114 (by simp) (by simp only [VV.arePure,hpa,hpb];rfl) hpb ?_
  simp only [go_sem,seval,c114]
  exact fin hpb rfl
 obtain ⟨a1,a2,rfl⟩:=ha'.cells
 rcases hb.ptr with ⟨rfl,rfl⟩ | ⟨db,hb'⟩
 ·refine ⟨_,by simpa using ha, ?_⟩
  refine pv e114 (by simp) (by simp only [VV.arePure,hpa,hpb];rfl) hpa ?_
  simp only [go_sem,seval,c114]
  exact fin hpa rfl
 obtain ⟨b1,b2,rfl⟩:=hb'.cells
 have hlx : (xs++ys).length≤1000000:=by rw [List.length_append];exact hl
 rcases Nat.lt_trichotomy da db with hlt | heq | hgt
 ·obtain ⟨w,rs,hN,hP⟩:=x_ahead _ db db _ ys xs rfl hb' da ha' hlt hl
  obtain ⟨r,hr,hP'⟩:=x_root _ _ _ _ hN hlx
  refine ⟨r,hr, ?_⟩
  refine pv e114 (by simp) (by simp only [VV.arePure,hpa,hpb];rfl) hr.pure ?_
  have h1 : decide ((db : Int) < da)=false:=by simp;omega
  have h2 : decide ((da : Int) < db)=true:=by simp;omega
  simp only [go_sem,seval,c114,h1,h2]
  refine callO_pure (hP) ?_<;>simp only [go_sem,seval]
  refine callO_pure (hP') ?_<;>simp only [go_sem,seval]
  exact fin hr.pure rfl
 ·subst heq
  obtain ⟨w,rs,hN,hP⟩:=x_glue da _ _ xs ys ha' hb' hl
  obtain ⟨r,hr,hP'⟩:=x_root _ _ _ _ hN hlx
  refine ⟨r,hr, ?_⟩
  refine pv e114 (by simp) (by simp only [VV.arePure,hpa,hpb];rfl) hr.pure ?_
  have h1 : decide ((da : Int) < da)=false:=by simp
  simp only [go_sem,seval,c114,h1]
  refine callO_pure (hP) ?_<;>simp only [go_sem,seval]
  refine callO_pure (hP') ?_<;>simp only [go_sem,seval]
  exact fin hr.pure rfl
 ·obtain ⟨w,rs,hN,hP⟩:=x_behind _ da da _ xs ys rfl ha' db hb' hgt hl
  obtain ⟨r,hr,hP'⟩:=x_root _ _ _ _ hN hlx
  refine ⟨r,hr, ?_⟩
  refine pv e114 (by simp) (by simp only [VV.arePure,hpa,hpb];rfl) hr.pure ?_
  have h1 : decide ((db : Int) < da)=true:=by simp;omega
  simp only [go_sem,seval,c114,h1]
  refine callO_pure (hP) ?_<;>simp only [go_sem,seval]
  refine callO_pure (hP') ?_<;>simp only [go_sem,seval]
  exact fin hr.pure rfl
theorem kid_of (ks : List Kd) (i : Nat) (hi : i < (kitems ks).length) : ∃ j,j < ks.length∧(kitems (ks.take j)).length≤i∧∀ h : j < ks.length,i < (kitems (ks.take j)).length+(ks[j]'h).2.length:=by
 induction ks generalizing i with
 | nil=>simp [kitems] at hi
 | cons k ks ih =>
  by_cases h : i < k.2.length
  ·exact ⟨0,by simp,by simp [kitems],fun _=>by simpa [kitems] using h⟩
  ·rw [kitems_cons,List.length_append] at hi
   obtain ⟨j,h1,h2,h3⟩:=ih (i-k.2.length) (by omega)
   refine ⟨j+1,by simpa using h1, ?_,fun hh=>?_⟩
   ·rw [List.take_succ_cons,kitems_cons,List.length_append];omega
   ·have:=h3 h1
    rw [List.take_succ_cons,kitems_cons,List.length_append]
    simp only [List.getElem_cons_succ];omega
def SplitR (v : VV) (xs : List (List VV)) (i : Nat) : Prop:=∃ r s,RP r (xs.take i)∧RP s (xs.drop i)∧PV Tryz.prog G0 196 [v,.int .i64 i] (.tup [r,s])
theorem x_split0 (d : Nat) (v : VV) (xs : List (List VV)) (i : Nat) (h : RN d v xs) (hi : i=0∨i=xs.length) : SplitR v xs i:=by
 have hp:=h.ne.2.1
 have hnx:=List.length_pos_iff.2 h.ne.1
 obtain ⟨v1,v2,hv⟩:=h.cells
 by_cases h0 : i=0
 ·subst h0
  refine ⟨.nilp,v,.inl ⟨rfl,rfl⟩,.inr ⟨_,h⟩, ?_⟩
  subst hv
  have hp2:=hp
  simp only [VV.isPure,VV.arePure,Bool.and_true,Bool.true_and] at hp2
  refine pv e196 (by simp) (by simp only [VV.arePure,hp];rfl) (by simp only [VV.isPure,VV.arePure,hp2,Bool.and_true,Bool.true_and]) ?_
  simp only [go_sem,seval,c196]
  refine fin (by simp only [VV.isPure,VV.arePure,hp2,Bool.and_true,Bool.true_and]) rfl
 by_cases hn : i=xs.length
 ·subst hn
  refine ⟨v,.nilp,by rw [List.take_length];exact .inr ⟨_,h⟩,by rw [List.drop_length];exact .inl ⟨rfl,rfl⟩, ?_⟩
  subst hv
  have hp2:=hp
  simp only [VV.isPure,VV.arePure,Bool.and_true,Bool.true_and] at hp2
  refine pv e196 (by simp) (by simp only [VV.arePure,hp];rfl) (by simp only [VV.isPure,VV.arePure,hp2,Bool.and_true,Bool.true_and]) ?_
  have b0 : decide ((xs.length : Int)≤0)=false:=decide_eq_false (by omega)
  have b1 : decide ((xs.length : Int)≤xs.length)=true:=by simp
  simp only [go_sem,seval,c196,b0,b1]
  refine fin (by simp only [VV.isPure,VV.arePure,hp2,Bool.and_true,Bool.true_and]) rfl
 omega
theorem x_split1 (w : VV) (xs : List (List VV)) (i : Nat) (h : RN 1 (.ptr [.int .i64 xs.length,.int .i64 1,.nils,w] 0) xs) (hw : SlV 11 w xs) (h0 : ¬ i=0) (hn : ¬ i=xs.length) (hi : i≤xs.length) (hl : xs.length≤1000000) : SplitR (.ptr [.int .i64 xs.length,.int .i64 1,.nils,w] 0) xs i:=by
 have hp:=h.ne.2.1
 have b0 : decide ((i : Int)≤0)=false:=decide_eq_false (by omega)
 have b1 : decide ((xs.length : Int)≤i)=false:=decide_eq_false (by omega)
 have hB:=hw.blk
 obtain ⟨t,rfl⟩:=hw.sl_of h.ne.1
 obtain ⟨r,hr,hP,_⟩:=x_leaf _ _ (SlV.sl (k:=11) (xs.take i) false (hB.take _))
 obtain ⟨s,hs,hP',_⟩:=x_leaf _ _ (SlV.sl (k:=11) (xs.drop i) false (hB.drop _))
 refine ⟨r,s,hr,hs, ?_⟩
 refine pv e196 (by simp) (by simp only [VV.arePure,hp];rfl) (by simp only [VV.isPure,VV.arePure,hr.pure,hs.pure];rfl) ?_
 have b2 : (0 : Int)≤(i : Int):=by omega
 have b3 : (i : Int)≤(xs.length : Int):=by omega
 have b4 : (xs.length : Int)≤(xs.length : Int):=by omega
 have e2 : ((xs.drop i).flatten).take ((xs.length-i)*11)=(xs.drop i).flatten:=List.take_of_length_le (by rw [(hB.drop _).flat,List.length_drop];exact Nat.le_refl _)
 simp only [go_sem,seval,c196,b0,b1,b2,b3,b4,Int.toNat_natCast,Nat.sub_zero,hB.ftake,hB.fdrop,hB.flat,e2]
 refine dcallO_pure (p_both _ _ (xs.take i) [] (SlV.of (hB.take _) (by rw [List.length_take];omega) rfl) .nil (by rw [List.length_take,List.length_nil];omega)) (by simp only [go_sem,seval,b0,b1,b2,b3,b4,Int.toNat_natCast,Nat.sub_zero,hB.ftake,hB.fdrop,hB.flat,e2]) ?_<;>simp only [go_sem,seval,b0,b1,b2,b3,b4,Int.toNat_natCast,Nat.sub_zero,hB.ftake,hB.fdrop,hB.flat,e2]
 refine dcallO_pure (hP) (by simp only [go_sem,seval,b0,b1,b2,b3,b4,Int.toNat_natCast,Nat.sub_zero,hB.ftake,hB.fdrop,hB.flat,e2]) ?_<;>simp only [go_sem,seval,b0,b1,b2,b3,b4,Int.toNat_natCast,Nat.sub_zero,hB.ftake,hB.fdrop,hB.flat,e2]
 refine dcallO_pure (p_both _ _ (xs.drop i) [] (SlV.of (hB.drop _) (by rw [List.length_drop]) rfl) .nil (by rw [List.length_drop];simp;omega)) (by simp only [go_sem,seval,b0,b1,b2,b3,b4,Int.toNat_natCast,Nat.sub_zero,hB.ftake,hB.fdrop,hB.flat,e2]) ?_<;>simp only [go_sem,seval,b0,b1,b2,b3,b4,Int.toNat_natCast,Nat.sub_zero,hB.ftake,hB.fdrop,hB.flat,e2]
 refine dcallO_pure (hP') (by simp only [go_sem,seval]) ?_<;>simp only [go_sem,seval]
 exact fin (by simp only [VV.isPure,VV.arePure,hr.pure,hs.pure];rfl) rfl
theorem x_splitN (e : Nat) (w : VV) (ks : List Kd) (i : Nat) (h : RN (e+1) (.ptr [.int .i64 (kitems ks).length,.int .i64 (e+1 : Nat),w,.nils] 0) (kitems ks)) (hk : KL e w ks) (hk2 : 2≤ks.length) (he : 1≤e) (h0 : ¬ i=0) (hn : ¬ i=(kitems ks).length) (hi : i≤(kitems ks).length) (hl : (kitems ks).length≤1000000)
  (ih : ∀ k ∈ ks,∀ i,i≤k.2.length→SplitR k.1 k.2 i) : SplitR (.ptr [.int .i64 (kitems ks).length,.int .i64 (e+1 : Nat),w,.nils] 0) (kitems ks) i:=by
 have hp:=h.ne.2.1
 have b0 : decide ((i : Int)≤0)=false:=decide_eq_false (by omega)
 have b1 : decide (((kitems ks).length : Int)≤i)=false:=decide_eq_false (by omega)
 have hB:=hk.blk
 have hkl:=KL.len_le hk.rn
 obtain ⟨J,hJ,hJ1,hJ2⟩:=kid_of ks i (by omega)
 have hJ2:=hJ2 hJ
 obtain ⟨t,rfl⟩:=hk.sl_of (by intro e;rw [e] at hk2;simp at hk2)
 have hkr:=hk.rn ks[J] (List.getElem_mem _)
 have hsp : kitems ks=kitems (ks.take J)++(ks[J].2++kitems (ks.drop (J+1))):=by
  conv=>lhs;rw [← List.take_append_drop J ks,kitems_append,List.drop_eq_getElem_cons hJ,kitems_cons]
 have hlen:=congrArg List.length hsp
 rw [List.length_append,List.length_append] at hlen
 obtain ⟨i',hi'⟩ : ∃ i',i'=i-(kitems (ks.take J)).length:=⟨_,rfl⟩
 obtain ⟨r1,s1,hr1,hs1,hP1⟩:=ih ks[J] (List.getElem_mem _) i' (by omega)
 have ha : KL e (.sl ((kcells ks).take J).length ((kcells ks).take J).flatten false) (ks.take J):=⟨by rw [← kcells_take];exact .sl _ _ (by rw [kcells_take];exact hB.take _),fun k hk'=>hk.rn k (List.mem_of_mem_take hk')⟩
 have hb : KL e (.sl ((kcells ks).drop (J+1)).length ((kcells ks).drop (J+1)).flatten false) (ks.drop (J+1)):=⟨by rw [← kcells_drop];exact .sl _ _ (by rw [kcells_drop];exact hB.drop _),fun k hk'=>hk.rn k (List.mem_of_mem_drop hk')⟩
 obtain ⟨r2,hr2,hP2⟩:=x_inner e _ _ ha (by omega)
 obtain ⟨s2,hs2,hP3⟩:=x_inner e _ _ hb (by omega)
 have hr2:=RP.of_in hr2 ha.rn
 have hs2:=RP.of_in hs2 hb.rn
 obtain ⟨r,hr,hP4⟩:=x_join _ _ _ _ hr2 hr1 (by rw [List.length_take];omega)
 obtain ⟨s,hs,hP5⟩:=x_join _ _ _ _ hs1 hs2 (by rw [List.length_drop];omega)
 have et : kitems (ks.take J)++ks[J].2.take i'=(kitems ks).take i:=by
  rw [hsp,List.take_append,List.take_of_length_le (by omega : (kitems (ks.take J)).length≤i),← hi',List.take_append_of_le_length (by omega)]
 have ed : ks[J].2.drop i'++kitems (ks.drop (J+1))=(kitems ks).drop i:=by
  rw [hsp,List.drop_append,List.drop_of_length_le (by omega : (kitems (ks.take J)).length≤i),← hi',List.drop_append_of_le_length (by omega)];rfl
 rw [et] at hr
 rw [ed] at hs
 refine ⟨r,s,hr,hs, ?_⟩
 refine pv e196 (by simp) (by simp only [VV.arePure,hp];rfl) (by simp only [VV.isPure,VV.arePure,hr.pure,hs.pure];rfl) ?_
 have b5 : (((e+1 : Nat) : Int) == 1)=false:=by simp;omega
 simp only [go_sem,seval,c196,b0,b1,b5]
 have hg : ∀ j (hj : j < ks.length),∃ a b,(ks.map (·.1)).getD j .undef=.ptr [.int .i64 ks[j].2.length,.int .i64 e,a,b] 0:=by
  intro j hj
  obtain ⟨a,b,hab⟩:=(hk.rn ks[j] (List.getElem_mem hj)).cells
  exact ⟨a,b,by rw [List.getD_eq_getElem?_getD,List.getElem?_map,List.getElem?_eq_getElem hj];exact hab⟩
 refine wpV_cutB (M:=fun ρ σ=>ρ.get 0=.ptr [.int .i64 (kitems ks).length,.int .i64 (e+1 : Nat),.sl ks.length (ks.map (·.1)) t,.nils] 0∧ρ.get 1=.int .i64 i'∧ρ.get 6=.int .i64 J∧σ=[]) ?_ ?_
 ·rintro ρ σ ⟨q0,q1,q6,rfl⟩
  obtain ⟨ka,kb,gJ⟩:=hg J hJ
  have gJ' : (ks.map (·.1)).getD J .undef=ks[J].1:=by rw [List.getD_eq_getElem?_getD,List.getElem?_map,List.getElem?_eq_getElem hJ];rfl
  have g':=gJ'.symm.trans gJ
  rw [g'] at hP1
  have c1 : (0 : Int)≤(J : Int):=by omega
  have c2 : (J : Int) < (ks.length : Int):=by omega
  have c3 : J < (ks.map (·.1)).length:=by simpa using hJ
  have c4 : (ks.map (·.1)).length=ks.length:=by simp
  have c5 : (J : Int)≤(ks.length : Int):=by omega
  have c6 : IntKind.i64.wrap ((J : Int)+1)=((J+1 : Nat) : Int):=by rw [iw (by omega)];omega
  have c7 : (0 : Int)≤((J+1 : Nat) : Int):=by omega
  have c8 : ((J+1 : Nat) : Int)≤(ks.length : Int):=by omega
  have c9 : (ks.length : Int)≤(ks.length : Int):=by omega
  have f1 : (ks.map (·.1)).take J=((kcells ks).take J).flatten:=by rw [← kcells_take,kflat,List.map_take]
  have f2 : ((ks.map (·.1)).drop (J+1)).take (ks.length-(J+1))=((kcells ks).drop (J+1)).flatten:=by rw [← kcells_drop,kflat,List.map_drop];exact List.take_of_length_le (by simp)
  have f3 : ((kcells ks).take J).length=J:=by rw [List.length_take,klen];omega
  have f4 : ((kcells ks).drop (J+1)).length=ks.length-(J+1):=by rw [List.length_drop,klen]
  have n1 : ((J : Nat) : Int).toNat=J:=by omega
  have n2 : ((J+1 : Nat) : Int).toNat=J+1:=by omega
  have n3 : J-0=J:=by omega
  have n4 : J*1=J:=by omega
  have n5 : (J+1)*1=J+1:=by omega
  have n6 : (ks.length-(J+1))*1=ks.length-(J+1):=by omega
  have n7 : ((ks.length : Nat) : Int).toNat=ks.length:=by omega
  have n8 : ks.length*1=ks.length:=by omega
  refine wpV_seq_cut (M:=fun ρ σ=>ρ.get 0=.ptr [.int .i64 (kitems ks).length,.int .i64 (e+1 : Nat),.sl ks.length (ks.map (·.1)) t,.nils] 0∧ρ.get 6=.int .i64 J∧ρ.get 7=r1∧ρ.get 8=s1∧σ=[]) ?_ ?_
  ·simp only [go_sem,seval,q0,q1,q6,n1,n4,gJ,c1,c2,c3]
   refine callO_pure (hP1) ?_<;>simp only [go_sem,seval,q0,q1,q6]
  rintro ρ σ ⟨q0,q6,q7,q8,rfl⟩
  simp only [go_sem,seval,q0,q6,q7,q8,n1,n2,n3,n4,n5,n6,n7,n8,c1,c2,c3,c4,c5,c6,c7,c8,c9,f1,f2]
  refine dcallO_pure (p_both' _ _ ((kcells ks).take J) [] (SlV.of (hB.take _) f3.symm rfl) .nil (by rw [f3];simp;omega)) (by simp only [go_sem,seval,q0,q6,q7,q8,n1,n2,n3,n4,n5,n6,n7,n8,gJ,c1,c2,c3,c4,c5,c6,c7,c8,c9,f1,f2]) ?_<;>simp only [go_sem,seval,q0,q6,q7,q8,n1,n2,n3,n4,n5,n6,n7,n8,gJ,c1,c2,c3,c4,c5,c6,c7,c8,c9,f1,f2]
  refine dcallO_pure (hP2) (by simp only [go_sem,seval,q0,q6,q7,q8,n1,n2,n3,n4,n5,n6,n7,n8,gJ,c1,c2,c3,c4,c5,c6,c7,c8,c9,f1,f2]) ?_<;>simp only [go_sem,seval,q0,q6,q7,q8,n1,n2,n3,n4,n5,n6,n7,n8,gJ,c1,c2,c3,c4,c5,c6,c7,c8,c9,f1,f2]
  refine dcallO_pure (hP4) (by simp only [go_sem,seval,q0,q6,q7,q8,n1,n2,n3,n4,n5,n6,n7,n8,gJ,c1,c2,c3,c4,c5,c6,c7,c8,c9,f1,f2]) ?_<;>simp only [go_sem,seval,q0,q6,q7,q8,n1,n2,n3,n4,n5,n6,n7,n8,gJ,c1,c2,c3,c4,c5,c6,c7,c8,c9,f1,f2]
  refine dcallO_pure (p_both' _ _ ((kcells ks).drop (J+1)) [] (SlV.of (hB.drop _) f4.symm rfl) .nil (by rw [f4];simp;omega)) (by simp only [go_sem,seval,q0,q6,q7,q8,n1,n2,n3,n4,n5,n6,n7,n8,gJ,c1,c2,c3,c4,c5,c6,c7,c8,c9,f1,f2]) ?_<;>simp only [go_sem,seval,q0,q6,q7,q8,n1,n2,n3,n4,n5,n6,n7,n8,gJ,c1,c2,c3,c4,c5,c6,c7,c8,c9,f1,f2]
  refine dcallO_pure (hP3) (by simp only [go_sem,seval,q0,q6,q7,q8]) ?_<;>simp only [go_sem,seval,q0,q6,q7,q8]
  refine dcallO_pure (hP5) (by simp only [go_sem,seval,q0,q6,q7,q8]) ?_<;>simp only [go_sem,seval,q0,q6,q7,q8]
  exact fin (by simp only [VV.isPure,VV.arePure,hr.pure,hs.pure];rfl) rfl
 ·refine wpV_loop_inv (fun m ρ σ=>∃ j : Nat,m=J-j∧j≤J∧ρ.get 0=.ptr [.int .i64 (kitems ks).length,.int .i64 (e+1 : Nat),.sl ks.length (ks.map (·.1)) t,.nils] 0∧ρ.get 1=.int .i64 (i-(kitems (ks.take j)).length : Nat)∧ρ.get 6=.int .i64 j∧σ=[]) (n:=J) ?_ ⟨0,rfl,by omega,rfl,by simp [kitems,Env.get],rfl,rfl⟩
  rintro m ρ σ ⟨j,rfl,hj,q0,q1,q6,rfl⟩
  have hjl : j < ks.length:=by omega
  obtain ⟨ka,kb,gj⟩:=hg j hjl
  have hs1:=kitems_take_succ ks j hjl
  have c1 : (0 : Int)≤(j : Int):=by omega
  have c2 : (j : Int) < (ks.length : Int):=by omega
  have c3 : j < (ks.map (·.1)).length:=by simpa using hjl
  have c6 : IntKind.i64.wrap ((j : Int)+1)=((j+1 : Nat) : Int):=by rw [iw (by omega)];omega
  have hmono : ∀ a b,a≤b→(kitems (ks.take a)).length≤(kitems (ks.take b)).length:=by
   intro a b hab
   have:=kitems_take_le (ks.take b) a
   rwa [List.take_take,Nat.min_eq_left hab] at this
  simp only [go_sem,seval,q0,q1,q6,Int.toNat_natCast,Nat.mul_one,gj,c1,c2,c3]
  refine condO_split (fun hc=>?_) (fun hc=>?_)
  ·have hjJ : j < J:=by
    simp at hc
    rcases Nat.lt_or_ge j J with h | h
    ·exact h
    ·obtain rfl : j=J:=by omega
     omega
   have hm:=hmono (j+1) J hjJ
   have c7 : IntKind.i64.wrap (((i-(kitems (ks.take j)).length : Nat) : Int)-(ks[j].2.length : Int))=((i-(kitems (ks.take (j+1))).length : Nat) : Int):=by rw [iw (by omega)];omega
   simp only [go_sem,seval,q0,q1,q6,Int.toNat_natCast,Nat.mul_one,gj,c1,c2,c3,c6,c7]
   refine ⟨J-(j+1),by omega,j+1, ?_⟩
   and_intros
   all_goals first | rfl | omega | exact q0
  ·have hjJ : j=J:=by
    simp at hc
    rcases Nat.lt_or_ge j J with h | h
    ·have hm:=hmono (j+1) J h
     omega
    ·omega
   subst hjJ
   simp only [go_sem,seval,q0,q1,q6,← hi']
theorem x_split (d : Nat) : ∀ (v : VV) (xs : List (List VV)) (i : Nat),RN d v xs→i≤xs.length→xs.length≤1000000→SplitR v xs i:=by
 induction d with
 | zero=>intro v xs i h;have:=h.ne;omega
 | succ d ih =>
  intro v xs i h hi hl
  by_cases h0 : i=0
  ·exact x_split0 _ v xs i h (.inl h0)
  by_cases hn : i=xs.length
  ·exact x_split0 _ v xs i h (.inr hn)
  rcases h.inv with ⟨h1,w,hw,rfl⟩ | ⟨e,w,ks,h1,he,hk,hk2,rfl,rfl⟩
  ·obtain rfl : d=0:=by omega
   exact x_split1 w xs i h hw h0 hn hi hl
  ·obtain rfl : e=d:=by omega
   refine x_splitN e w ks i h hk hk2 he h0 hn hi hl fun k hm i hi=>ih k.1 k.2 i (hk.rn k hm) hi ?_
   obtain ⟨A,B,rfl⟩:=List.append_of_mem hm
   rw [kitems_append,kitems_cons,List.length_append,List.length_append] at hl
   omega
end Go.V
namespace Go.V
open Go.Proofs
set_option maxRecDepth 100000
def FC (fv : VV) (xs : List VV) (σ : Store) (R : CRes→Store→Prop) : Prop:=match fv with
 | .fn (.func g) first caps=>bodied Tryz.prog g=true∧CV Tryz.prog G0 g (first++xs++caps) σ R
 | .yield id=>YV Tryz.prog G0 id xs σ R
 | _=>False
theorem callF_of {fv : VV} {xs : List VV} {σ : Store} {R : CRes→Store→Prop} {d : Option Nat} {r : List VO} {Q : Out→Env→Store→Prop} {ρ : Env} (h : FC fv xs σ R)
  (hr : ∀ c σ',R c σ'→resK (fun x σ'=>opsW Tryz.prog G0 r Q (putV ρ d x) σ') (fun x σ'=>Q (.panic x) ρ σ') c σ') : callF Tryz.prog G0 fv xs d r Q ρ σ:=by
 unfold FC at h
 unfold callF
 split at h
 ·exact ⟨h.1,h.2.mono hr⟩
 ·exact h.mono hr
 ·exact h.elim
theorem FC.mono {fv : VV} {xs : List VV} {σ : Store} {R R' : CRes→Store→Prop} (h : FC fv xs σ R) (hr : ∀ c σ',R c σ'→R' c σ') : FC fv xs σ R':=by
 unfold FC at h ⊢
 split at h
 ·exact ⟨h.1,h.2.mono hr⟩
 ·exact h.mono hr
 ·exact h.elim
section
variable {σ : Store} {a b c e o : Obj} {τ : Store}
theorem st_get0 : (σ++a::τ)[σ.length]?=some a:=by simp
theorem st_get1 : (σ++a::b::τ)[σ.length+1]?=some b:=by simp
theorem st_get2 : (σ++a::b::c::τ)[σ.length+(1+1)]?=some c:=by simp
theorem st_get3 : (σ++a::b::c::e::τ)[σ.length+(1+1+1)]?=some e:=by simp
theorem st_set0 : (σ++a::τ).set σ.length o=σ++o::τ:=by simp
theorem st_set1 : (σ++a::b::τ).set (σ.length+1) o=σ++a::o::τ:=by simp [List.set_append]
theorem st_set2 : (σ++a::b::c::τ).set (σ.length+(1+1)) o=σ++a::b::o::τ:=by simp [List.set_append]
theorem st_set3 : (σ++a::b::c::e::τ).set (σ.length+(1+1+1)) o=σ++a::b::c::o::τ:=by simp [List.set_append]
end
theorem SS : (∀ (α : Type) (a b c : List α),a++b++c=a++(b++c))∧(∀ (α : Type) (x : α) (a b : List α),(x::a)++b=x::(a++b))∧(∀ (α : Type) (a : List α),[]++a=a)∧(∀ (α : Type) (a b : List α),(a++b).length=a.length+b.length)∧(∀ (α : Type) (x : α) (a : List α),(x::a).length=a.length+1)∧(∀ α : Type,([] : List α).length=0)∧(∀ n : Nat,0+n=n) ∧
  (∀ (σ τ : Store) a,(σ++a::τ)[σ.length]?=some a)∧(∀ (σ τ : Store) a b,(σ++a::b::τ)[σ.length+1]?=some b)∧(∀ (σ τ : Store) a b c,(σ++a::b::c::τ)[σ.length+(1+1)]?=some c)∧(∀ (σ τ : Store) a b c e,(σ++a::b::c::e::τ)[σ.length+(1+1+1)]?=some e) ∧
  (∀ (σ τ : Store) a o,(σ++a::τ).set σ.length o=σ++o::τ)∧(∀ (σ τ : Store) a b o,(σ++a::b::τ).set (σ.length+1) o=σ++a::o::τ)∧(∀ (σ τ : Store) a b c o,(σ++a::b::c::τ).set (σ.length+(1+1)) o=σ++a::b::o::τ)∧(∀ (σ τ : Store) a b c e o,(σ++a::b::c::e::τ).set (σ.length+(1+1+1)) o=σ++a::b::c::o::τ) :=
 ⟨fun _=>List.append_assoc,fun _ _ _ _=>rfl,fun _ _=>rfl,fun _ _ _=>List.length_append,fun _ _ _=>rfl,fun _=>rfl,Nat.zero_add,fun _ _ _=>st_get0,fun _ _ _ _=>st_get1,fun _ _ _ _ _=>st_get2,fun _ _ _ _ _ _=>st_get3,fun _ _ _ _=>st_set0,fun _ _ _ _ _=>st_set1,fun _ _ _ _ _ _=>st_set2,fun _ _ _ _ _ _ _=>st_set3⟩
abbrev DS:=Nat→Prop
structure Low (D : DS) (σ σ' : Store) : Prop where
 len : σ.length≤σ'.length
 same : ∀ id,D id→σ'[id]?=σ[id]?
structure High (D : DS) (σ σ' : Store) : Prop where
 len : σ.length≤σ'.length
 same : ∀ id,id < σ.length→¬ D id→σ'[id]?=σ[id]?
def Grow (D : DS) (σ : Store) (D' : DS) : Prop:=∀ id,D' id→D id∨σ.length≤id
theorem High.refl (D : DS) (σ : Store) : High D σ σ:=⟨Nat.le_refl _,fun _ _ _=>rfl⟩
theorem High.snoc (D : DS) (σ τ : Store) : High D σ (σ++τ):=⟨by simp,fun id h _=>List.getElem?_append_left h⟩
theorem Low.snoc {D : DS} {σ τ : Store} (h : ∀ id,D id→id < σ.length) : Low D σ (σ++τ):=⟨by simp,fun id hi=>List.getElem?_append_left (h id hi)⟩
theorem Low.trans {D : DS} {a b c : Store} (h : Low D a b) (h' : Low D b c) : Low D a c:=⟨Nat.le_trans h.1 h'.1,fun id h1=>(h'.2 id h1).trans (h.2 id h1)⟩
theorem Low.set {D : DS} {σ : Store} {x : Nat} {o : Obj} (h : ¬ D x) : Low D σ (σ.set x o):=⟨by simp,fun id hi=>List.getElem?_set_ne (fun e=>h (by rw [e];exact hi))⟩
theorem Grow.refl (D : DS) (σ : Store) : Grow D σ D:=fun _ h=>.inl h
def Done (J : Nat→DS→Store→Prop) (k : Nat) (D : DS) (σ σ' : Store) : Prop:=∃ D',J k D' σ'∧Grow D σ D'∧High D σ σ'
theorem Done.refl {J : Nat→DS→Store→Prop} {k : Nat} {D : DS} {σ : Store} (h : J k D σ) : Done J k D σ σ:=⟨D,h,.refl _ _,.refl _ _⟩
theorem Done.trans {J : Nat→DS→Store→Prop} {k : Nat} {D D1 : DS} {σ σ1 σ2 : Store} (h1 : Grow D σ D1) (h2 : High D σ σ1) (h : Done J k D1 σ1 σ2) : Done J k D σ σ2:=by
 obtain ⟨D2,j,g,hh⟩:=h
 have l:=h2.len
 refine ⟨D2,j,fun id hd=>?_,⟨Nat.le_trans h2.len hh.len,fun id hi hn=>?_⟩⟩
 ·rcases g id hd with g | g
  ·exact h1 id g
  ·exact .inr (Nat.le_trans l g)
 ·rw [hh.same id (Nat.lt_of_lt_of_le hi l) (fun hd=>(h1 id hd).elim hn (fun g=>by omega)),h2.same id hi hn]
theorem Done.app {J : Nat→DS→Store→Prop} {k : Nat} {D : DS} {σ τ σ' : Store} (h : Done J k D (σ++τ) σ') : Done J k D σ σ' :=
 Done.trans (.refl _ _) (.snoc _ _ _) h
structure Cls (fv : VV) (J : Nat→DS→Store→Prop) (A : Nat→List VV→Prop) (lo hi : Nat) (res : VV) : Prop where
 dom : ∀ i D σ,J i D σ→∀ id,D id→id < σ.length
 low : ∀ i D σ σ',J i D σ→Low D σ σ'→J i D σ'
 call : ∀ i D σ args,lo≤i→i < hi→A i args→J i D σ→FC fv args σ fun c σ'=>c=.ret res∧Done J (i+1) D σ σ'
theorem Cls.snoc {fv : VV} {J : Nat→DS→Store→Prop} {A : Nat→List VV→Prop} {lo hi : Nat} {res : VV} (h : Cls fv J A lo hi res) {i : Nat} {D : DS} {σ : Store} (hJ : J i D σ) (τ : Store) : J i D (σ++τ):=h.low _ _ _ _ hJ (.snoc (h.dom _ _ _ hJ))
theorem Cls.sub {fv : VV} {J : Nat→DS→Store→Prop} {A A' : Nat→List VV→Prop} {lo hi lo' hi' : Nat} {res : VV} (h : Cls fv J A lo hi res) (h1 : lo≤lo') (h2 : hi'≤hi) (he : ∀ i args,lo'≤i→i < hi'→A' i args→A i args) : Cls fv J A' lo' hi' res :=
 ⟨h.dom,h.low,fun i D σ args a b c d=>h.call i D σ args (Nat.le_trans h1 a) (Nat.lt_of_lt_of_le b h2) (he i args a b c) d⟩
def itArgs (xs : List (List VV)) (a : Nat) (i : Nat) (args : List VV) : Prop:=args=[.int .i64 i,.agg (xs.getD (i-a) [])]
theorem itArgs_at {xs : List (List VV)} {a i : Nat} (h : i < xs.length) : itArgs xs a (a+i) [.int .i64 (a+i : Nat),.agg xs[i]]:=by
 simp [itArgs,List.getD_eq_getElem?_getD,h]
theorem v_each (d : Nat) : ∀ (v : VV) (xs : List (List VV)) (a : Nat) (fv : VV) (J : Nat→DS→Store→Prop) (D : DS) (σ : Store),RN d v xs→a+xs.length≤1000000→Cls fv J (itArgs xs a) a (a+xs.length) (.bool true)→J a D σ →
  CV Tryz.prog G0 133 [v,.int .i64 a,fv] σ fun c σ'=>c=.ret (.bool true)∧Done J (a+xs.length) D σ σ':=by
 induction d with
 | zero=>intro v xs a fv J D σ h;have:=h.ne;omega
 | succ d ih =>
  intro v xs a fv J D σ h hl hC hJ
  have hnx:=List.length_pos_iff.2 h.ne.1
  have hBx:=h.ne.2.2.1
  rcases h.inv with ⟨h1,w,hw,rfl⟩ | ⟨e,w,ks,h1,he,hk,hk2,rfl,rfl⟩
  ·obtain ⟨t,rfl⟩:=hw.sl_of h.ne.1
   refine cv e133 (by simp) ?_
   simp only [go_sem,seval,c133]
   refine wpV_cutB (M:=fun ρ σ'=>ρ.get 0=.ptr [.int .i64 xs.length,.int .i64 1,.nils,.sl xs.length xs.flatten t] 0∧ρ.get 2=fv∧Done J (a+xs.length) D σ σ') ?_ ?_
   rotate_left
   ·refine wpV_loop_inv (fun m ρ σ'=>∃ i : Nat,m=xs.length-i∧i≤xs.length∧ρ.get 0=.ptr [.int .i64 xs.length,.int .i64 1,.nils,.sl xs.length xs.flatten t] 0∧ρ.get 1=.int .i64 a∧ρ.get 2=fv∧ρ.get 14=.sl xs.length xs.flatten t∧ρ.get 15=.int .i64 xs.length∧ρ.get 16=.int .i64 i∧Done J (a+i) D σ σ') (n:=xs.length) ?_ ⟨0,rfl,by omega,rfl,rfl,rfl,rfl,rfl,rfl,.refl hJ⟩
    rintro m ρ σ' ⟨i,rfl,hi,q0,q1,q2,q14,q15,q16,hJi⟩
    simp only [go_sem,seval,q0,q1,q2,q14,q15,q16]
    refine condO_split (fun hc=>?_) (fun hc=>?_)
    ·have hc' : i < xs.length:=by simpa using hc
     have c1 : (0 : Int)≤(i : Int):=by omega
     have c2 : (i : Int) < (xs.length : Int):=by omega
     have c3 : i*11+11≤xs.flatten.length:=by rw [hBx.flat];omega
     have c4 : (xs.flatten.drop (i*11)).take 11=xs[i]:=hBx.fget hc'
     have c5 : IntKind.i64.wrap ((a : Int)+i)=((a+i : Nat) : Int):=by rw [iw (by omega)];omega
     have c6 : IntKind.i64.wrap ((i : Int)+1)=((i+1 : Nat) : Int):=by rw [iw (by omega)];omega
     have c7 : xs[i].length=11:=hBx.len _ (List.getElem_mem _)
     have c8 : xs[i].all VV.isCell=true:=hBx.cell _ (List.getElem_mem _)
     have c9 : xs[i].take 11=xs[i]:=List.take_of_length_le (by omega)
     simp only [go_sem,seval,q0,q1,q2,q14,q15,q16,c1,c2,c3,c4,c5,c7,c8,c9,Int.toNat_natCast,SS]
     obtain ⟨D1,j1,g1,hh1⟩:=hJi
     have hcall:=hC.call (a+i) D1 (σ'++[.own xs[i]]) _ (by omega) (by omega) (itArgs_at hc') (hC.snoc j1 _)
     refine callF_of hcall ?_
     rintro _ σ₂ ⟨rfl,hJ2⟩
     have hJ2:=Done.trans g1 hh1 hJ2.app
     simp only [go_sem,seval,resK,q0,q1,q2,q14,q15,q16,c6,Bool.not_true]
     refine ⟨xs.length-(i+1),by omega,i+1, ?_⟩
     and_intros
     all_goals first | rfl | omega | exact hJ2 | assumption
    ·have hc' : i=xs.length:=by simp at hc;omega
     subst hc'
     simp only [go_sem,seval,q0,q1,q2,q14,q15,q16]
     exact hJi
   ·rintro ρ σ' ⟨q0,q2,hJ'⟩
    simp only [go_sem,seval,q0,q2]
    refine wpV_loop_inv (fun m ρ σ'=>ρ.get 33=.int .i64 0∧ρ.get 34=.int .i64 0∧Done J (a+xs.length) D σ σ') (n:=0) ?_ ⟨rfl,rfl,hJ'⟩
    rintro m ρ σ' ⟨q33,q34,hJ'⟩
    simp only [go_sem,seval,q33,q34]
    exact hJ'
  ·obtain rfl : e=d:=by omega
   obtain ⟨t,rfl⟩:=hk.sl_of (by intro e;rw [e] at hk2;simp at hk2)
   have hkl:=KL.len_le hk.rn
   refine cv e133 (by simp) ?_
   simp only [go_sem,seval,c133]
   refine wpV_cutB (M:=fun ρ σ'=>ρ.get 0=.ptr [.int .i64 (kitems ks).length,.int .i64 (e+1 : Nat),.sl ks.length (ks.map (·.1)) t,.nils] 0∧ρ.get 1=.int .i64 a∧ρ.get 2=fv∧Done J a D σ σ') ?_ ?_
   rotate_left
   ·refine wpV_loop_inv (fun m ρ σ'=>ρ.get 0=.ptr [.int .i64 (kitems ks).length,.int .i64 (e+1 : Nat),.sl ks.length (ks.map (·.1)) t,.nils] 0∧ρ.get 1=.int .i64 a∧ρ.get 2=fv∧ρ.get 15=.int .i64 0∧ρ.get 16=.int .i64 0∧Done J a D σ σ') (n:=0) ?_ ⟨rfl,rfl,rfl,rfl,rfl,.refl hJ⟩
    rintro m ρ σ' ⟨q0,q1,q2,q15,q16,hJ'⟩
    simp only [go_sem,seval,q15,q16]
    exact ⟨q0,q1,q2,hJ'⟩
   ·rintro ρ σ' ⟨q0,q1,q2,hJ'⟩
    simp only [go_sem,seval,q0,q1,q2]
    refine wpV_loop_inv (fun m ρ σ'=>∃ i : Nat,m=ks.length-i∧i≤ks.length∧ρ.get 1=.int .i64 (a+(kitems (ks.take i)).length : Nat)∧ρ.get 2=fv∧ρ.get 32=.sl ks.length (ks.map (·.1)) t∧ρ.get 33=.int .i64 ks.length∧ρ.get 34=.int .i64 i∧Done J (a+(kitems (ks.take i)).length) D σ σ') (n:=ks.length) ?_ ⟨0,rfl,by omega,by simp [kitems,Env.get,q1],q2,rfl,rfl,rfl,by simpa [kitems] using hJ'⟩
    rintro m ρ σ' ⟨i,rfl,hi,q1,q2,q32,q33,q34,hJi⟩
    simp only [go_sem,seval,q1,q2,q32,q33,q34]
    refine condO_split (fun hc=>?_) (fun hc=>?_)
    ·have hc' : i < ks.length:=by simpa using hc
     obtain ⟨ka,kb,hkc⟩:=(hk.rn ks[i] (List.getElem_mem hc')).cells
     have g : (ks.map (·.1)).getD i .undef=.ptr [.int .i64 ks[i].2.length,.int .i64 e,ka,kb] 0:=by
      rw [List.getD_eq_getElem?_getD,List.getElem?_map,List.getElem?_eq_getElem hc'];exact hkc
     have hs1:=kitems_take_succ ks i hc'
     have hs2:=kitems_take_le ks (i+1)
     have c1 : (0 : Int)≤(i : Int):=by omega
     have c2 : (i : Int) < (ks.length : Int):=by omega
     have c3 : i < (ks.map (·.1)).length:=by simpa using hc'
     have c5 : IntKind.i64.wrap (((a+(kitems (ks.take i)).length : Nat) : Int)+(ks[i].2.length : Int))=((a+(kitems (ks.take (i+1))).length : Nat) : Int):=by rw [iw (by omega)];omega
     have c6 : IntKind.i64.wrap ((i : Int)+1)=((i+1 : Nat) : Int):=by rw [iw (by omega)];omega
     have n1 : i*1=i:=by omega
     simp only [go_sem,seval,q1,q2,q32,q33,q34,c1,c2,c3,g,n1,Int.toNat_natCast]
     obtain ⟨D1,j1,g1,hh1⟩:=hJi
     have hkid:=ih ks[i].1 ks[i].2 (a+(kitems (ks.take i)).length) fv J D1 σ' (hk.rn _ (List.getElem_mem hc')) (by omega) (hC.sub (by omega) (by omega) (fun j args h1 h2 h3=>by
      simp only [itArgs] at h3 ⊢
      rw [h3]
      congr 3
      have e1 : kitems ks=kitems (ks.take i)++(ks[i].2++kitems (ks.drop (i+1))):=by
       conv=>lhs;rw [← List.take_append_drop i ks,kitems_append,List.drop_eq_getElem_cons hc',kitems_cons]
      have e2 : j-(a+(kitems (ks.take i)).length)=j-a-(kitems (ks.take i)).length:=by omega
      rw [e2,e1,List.getD_eq_getElem?_getD,List.getD_eq_getElem?_getD,List.getElem?_append_right (by omega),List.getElem?_append_left (by omega)])) j1
     rw [hkc] at hkid
     refine CV.mono hkid ?_
     rintro _ σ₂ ⟨rfl,hJ2⟩
     have hJ2:=Done.trans g1 hh1 hJ2
     simp only [go_sem,seval,resK,q1,q2,q32,q33,q34,c5,c6,Bool.not_true]
     refine ⟨ks.length-(i+1),by omega,i+1, ?_⟩
     and_intros
     all_goals first | rfl | omega | (have:=hJ2;rwa [Nat.add_assoc,← hs1] at this) | assumption
    ·have hc' : i=ks.length:=by simp at hc;omega
     subst hc'
     rw [List.take_length] at hJi
     simp only [go_sem,seval,q1,q2,q32,q33,q34]
     exact hJi
end Go.V
namespace Go.V
open Go.Proofs
set_option maxRecDepth 100000
theorem RP.cell {v : VV} {xs : List (List VV)} (h : RP v xs) : v.isCell=true:=by
 rcases h with ⟨rfl,_⟩ | ⟨d,h⟩
 ·rfl
 ·exact h.cell
theorem p_ropeAll (root : VV) (xs : List (List VV)) (h : RP root xs) : PV Tryz.prog G0 92 [.agg [root]] (.fn (.func 132) [] [.ptr [root] 0]):=by
 have hp:=h.pure
 refine pv e92 (by simp) (by simp [VV.arePure,VV.isPure,hp]) (by simp [VV.arePure,VV.isPure,hp]) ?_
 have hc:=h.cell
 simp only [go_sem,seval] at hc
 simp only [go_sem,seval,c92,hc]
 refine ⟨_,2,rfl, ?_⟩
 simp only [fz,VV.isPure,VV.arePure]
 simp [fz,VV.isPure,VV.arePure,Obj.fr,hp]
theorem v_ropeAll1 (root : VV) (xs : List (List VV)) (h : RP root xs) (fv : VV) (J : Nat→DS→Store→Prop) (D : DS) (σ : Store) (hl : xs.length≤1000000) (hC : Cls fv J (itArgs xs 0) 0 xs.length (.bool true)) (hJ : J 0 D σ) :
  CV Tryz.prog G0 132 [fv,.ptr [root] 0] σ fun c σ'=>c=.ret (.tup [])∧Done J xs.length D σ σ':=by
 refine cv e132 (by simp) ?_
 rcases h with ⟨rfl,rfl⟩ | ⟨d,h⟩
 ·simp only [go_sem,seval,c132]
  exact .refl hJ
 ·obtain ⟨a,b,hr⟩:=h.cells
  have:=v_each d root xs 0 fv J D σ h (by omega) (by simpa using hC) hJ
  subst hr
  simp only [go_sem,seval,c132]
  refine CV.mono this ?_
  rintro _ σ' ⟨rfl,h1⟩
  simp only [go_sem,seval,resK]
  simpa using h1
def val11 (sk si : Int) (st : Bs) (k : Int) (root : VV) (seed bits n : Int) (hr : VV) (below more : Int) : VV :=
 .agg [.int .i64 sk,.int .i64 si,.str st,.int .i64 k,root,.int .u64 seed,.int .i64 bits,.int .i64 n,hr,.int .i64 below,.int .i64 more]
def stArgs (xs : List (List VV)) (i : Nat) (args : List VV) : Prop:=args=[.agg [.int .i64 0,.int .i64 i,.str []],.agg (xs.getD i [])]
theorem stArgs_at {xs : List (List VV)} {i : Nat} (h : i < xs.length) : stArgs xs i [.agg [.int .i64 0,.int .i64 i,.str []],.agg xs[i]]:=by
 simp [stArgs,List.getD_eq_getElem?_getD,h]
theorem v_vec_each (sk si : Int) (st : Bs) (root : VV) (xs : List (List VV)) (h : RP root xs) (seed bits m : Int) (hr : VV) (hhr : hr.isCell=true) (below more : Int) (g : FuncId) (hg : bodied Tryz.prog g=true) (caps : List VV) (J : Nat→DS→Store→Prop) (D : DS) (σ : Store) (hl : xs.length≤1000000)
  (hC : Cls (.fn (.func g) [] caps) J (stArgs xs) 0 xs.length (.tup [])) (hJ : J 0 D σ) :
  CV Tryz.prog G0 54 [val11 sk si st 4 root seed bits m hr below more,.fn (.func g) [] caps] σ fun c σ'=>c=.ret (.tup [])∧Done J xs.length D σ σ':=by
 refine cv e54 (by simp) ?_
 have hc:=h.cell
 simp only [go_sem,seval] at hc
 simp only [go_sem,seval] at hhr
 simp only [go_sem,seval,c54,val11,hc,hhr,SS]
 refine callO_pure (p_ropeAll root xs h) ?_<;>simp only [go_sem,seval,SS]
 intro l hl'
 obtain ⟨L,hL⟩ : ∃ L,L=σ.length:=⟨_,rfl⟩
 rw [← hL]
 have hdom:=hC.dom _ _ _ hJ
 refine CV.mono (v_ropeAll1 root xs h (.yield (L+3)) (fun i D' τ=>∃ D,(∀ id,D' id↔D id∨(L≤id∧id < L+4))∧(∀ id,L≤id→id < L+4→¬ D id)∧J i D τ∧L+4≤τ.length∧τ[L+1]?=some (.own [.fn (.func g) [] caps])∧(∃ j : Int,τ[L+2]?=some (.own [.int .i64 0,.int .i64 j,.str []]))∧τ[L+3]?=some (.loop l))
  (fun id=>D id∨(L≤id∧id < L+4)) _ hl ⟨?_, ?_, ?_⟩ ⟨D,fun _=>.rfl,fun id h1 h2 h3=>by have:=hdom id h3;omega,hC.snoc hJ _,by simp [hL],by simp [hL],⟨0,by simp [hL]⟩,by simp [hL]⟩) ?_
 ·rintro i D' τ ⟨D,d1,d2,h1,h2,_⟩ id hid
  rcases (d1 id).1 hid with h | h
  ·exact hC.dom _ _ _ h1 id h
  ·omega
 ·rintro i D' τ τ' ⟨D,d1,d2,h1,h2,h3,⟨j,h4⟩,h5⟩ hlow
  have hs : ∀ id,L≤id→id < L+4→τ'[id]?=τ[id]?:=fun id a b=>hlow.same id ((d1 id).2 (.inr ⟨a,b⟩))
  exact ⟨D,d1,d2,hC.low _ _ _ _ h1 ⟨hlow.len,fun id hid=>hlow.same id ((d1 id).2 (.inl hid))⟩,Nat.le_trans h2 hlow.len,(hs _ (by omega) (by omega)).trans h3,⟨j,(hs _ (by omega) (by omega)).trans h4⟩,(hs _ (by omega) (by omega)).trans h5⟩
 ·rintro i D' τ args _ hi hit ⟨D,d1,d2,h1,h2,h3,⟨j,h4⟩,h5⟩
  have e : itArgs xs 0 i [.int .i64 i,.agg xs[i]]:=by have:=itArgs_at (a:=0) hi;simpa using this
  obtain rfl : args=[.int .i64 i,.agg xs[i]]:=by unfold itArgs at hit e;rw [hit,e]
  have hB:=h.blk
  have c7 : xs[i].length=11:=hB.len _ (List.getElem_mem _)
  have c8 : xs[i].all VV.isCell=true:=hB.cell _ (List.getElem_mem _)
  have c9 : xs[i].take 11=xs[i]:=List.take_of_length_le (by omega)
  refine YV_of mix h5 hl' rfl (by decide) ?_
  simp only [go_sem,seval,putPs,SS,c7,c8,c9]
  refine ⟨by rw [List.getElem?_append_left (by omega)];exact h5, ?_⟩
  rw [← hL]
  have hdomt:=hC.dom _ _ _ h1
  obtain ⟨τ1,hτ1⟩ : ∃ τ1,τ1=(τ++[Obj.own xs[i]]).set (L+3) (.loop { l with state:=.busy }):=⟨_,rfl⟩
  rw [← hτ1]
  have j1 : J i D τ1:=by rw [hτ1];exact hC.low _ _ _ _ (hC.snoc h1 _) (.set (d2 _ (by omega) (by omega)))
  have g0 : τ1.length=τ.length+1:=by rw [hτ1];simp
  have g1 : τ1[L+1]?=some (.own [.fn (.func g) [] caps]):=by rw [hτ1,List.getElem?_set_ne (by omega),List.getElem?_append_left (by omega)];exact h3
  have g2 : τ1[L+2]?=some (.own [.int .i64 0,.int .i64 j,.str []]):=by rw [hτ1,List.getElem?_set_ne (by omega),List.getElem?_append_left (by omega)];exact h4
  have g3 : τ1[L+3]?=some (.loop { l with state:=.busy }):=by rw [hτ1,List.getElem?_set_self (by simp;omega)]
  have g4 : τ1[τ.length]?=some (.own xs[i]):=by rw [hτ1,List.getElem?_set_ne (by omega)];simp
  have g6 : ∀ id,id < τ.length→id≠L+3→τ1[id]?=τ[id]?:=fun id h1 h2=>by rw [hτ1,List.getElem?_set_ne (by omega),List.getElem?_append_left (by omega)]
  clear hτ1
  simp only [go_sem,seval,g2,SS]
  obtain ⟨τ2,hτ2⟩ : ∃ τ2,τ2=τ1.set (L+2) (.own [.int .i64 0,.int .i64 i,.str []]):=⟨_,rfl⟩
  rw [← hτ2]
  have j2 : J i D τ2:=by rw [hτ2];exact hC.low _ _ _ _ j1 (.set (d2 _ (by omega) (by omega)))
  have k0 : τ2.length=τ.length+1:=by rw [hτ2];simp [g0]
  have k1 : τ2[L+1]?=some (.own [.fn (.func g) [] caps]):=by rw [hτ2,List.getElem?_set_ne (by omega)];exact g1
  have k2 : τ2[L+2]?=some (.own [.int .i64 0,.int .i64 i,.str []]):=by rw [hτ2,List.getElem?_set_self (by omega)]
  have k3 : τ2[L+3]?=some (.loop { l with state:=.busy }):=by rw [hτ2,List.getElem?_set_ne (by omega)];exact g3
  have k4 : τ2[τ.length]?=some (.own xs[i]):=by rw [hτ2,List.getElem?_set_ne (by omega)];exact g4
  have k6 : ∀ id,id < τ.length→id≠L+3→id≠L+2→τ2[id]?=τ[id]?:=fun id h1 h2 h3=>by rw [hτ2,List.getElem?_set_ne (by omega)];exact g6 id h1 h2
  clear hτ2
  simp only [go_sem,seval,k1,k2,k4,c7,c8,c9,SS]
  refine callF_of (hC.call i D τ2 _ (by omega) hi (stArgs_at hi) j2) ?_
  rintro _ τ3 ⟨rfl,D3,hJ3,hG3,hH3⟩
  simp only [go_sem,seval,resK,roundQ]
  have hD3 : ∀ id,L≤id→id < L+4→¬ D3 id:=fun id a b c=>by
   rcases hG3 id c with c | c
   ·exact d2 id a b c
   ·omega
  have m0:=hH3.len
  have m3:=(hH3.same (L+3) (by omega) (d2 _ (by omega) (by omega))).trans k3
  refine ⟨m3,fun id=>D3 id∨(L≤id∧id < L+4),⟨D3,fun _=>.rfl,hD3,hC.low _ _ _ _ hJ3 (.set (hD3 _ (by omega) (by omega))),by simp;omega, ?_,⟨i, ?_⟩, ?_⟩,fun id hid=>?_,⟨by simp;omega,fun id a b=>?_⟩⟩
  ·rw [List.getElem?_set_ne (by omega),hH3.same _ (by omega) (d2 _ (by omega) (by omega))];exact k1
  ·rw [List.getElem?_set_ne (by omega),hH3.same _ (by omega) (d2 _ (by omega) (by omega))];exact k2
  ·rw [List.getElem?_set_self (by omega)]
  ·rcases hid with hid | hid
   ·rcases hG3 id hid with h | h
    ·exact .inl ((d1 id).2 (.inl h))
    ·exact .inr (by omega)
   ·exact .inl ((d1 id).2 (.inr hid))
  ·have b' : ¬ D id∧¬ (L≤id∧id < L+4):=⟨fun h=>b ((d1 id).2 (.inl h)),fun h=>b ((d1 id).2 (.inr h))⟩
   rw [List.getElem?_set_ne (by omega),hH3.same _ (by omega) b'.1,k6 id a (by omega) (by omega)]
 ·rintro _ τ ⟨rfl,D',⟨D2,d1,d2,h1,h2,h3,⟨j,h4⟩,h5⟩,hG,hH⟩
  refine ⟨l,h5,by rw [hl'.st];simp, ?_⟩
  rw [hl'.pe]
  simp only [go_sem,seval,jumpQ]
  refine ⟨D2,hC.low _ _ _ _ h1 (.set (d2 _ (by omega) (by omega))),fun id hid=>?_,⟨by simp;omega,fun id a b=>?_⟩⟩
  ·rcases hG id ((d1 id).2 (.inl hid)) with (h | h) | h
   ·exact .inl h
   ·exact .inr (by omega)
   ·refine .inr ?_
    simp only [List.length_append] at h;omega
  ·rw [List.getElem?_set_ne (by omega),hH.same id (by simp;omega) (fun h=>h.elim b (fun h=>by omega)),List.getElem?_append_left a]
end Go.V
