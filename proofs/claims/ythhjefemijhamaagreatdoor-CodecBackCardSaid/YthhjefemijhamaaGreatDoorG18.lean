/- Texts F17 F18 F19. -/
import Derived.Test.YthhjefemijhamaaGreatDoorG17
set_option linter.unusedVariables false
set_option linter.unusedSimpArgs false
namespace Go.V
open Go.Proofs
set_option maxRecDepth 100000
abbrev Kd:=VV × List (List VV)
def kcells (ks : List Kd) : List (List VV):=ks.map fun k=>[k.1]
def kitems (ks : List Kd) : List (List VV):=(ks.map (·.2)).flatten
theorem kflat (ks : List Kd) : (kcells ks).flatten=ks.map (·.1):=by
 unfold kcells
 induction ks with
 | nil=>rfl
 | cons k ks ih=>simp [ih]
theorem klen (ks : List Kd) : (kcells ks).length=ks.length:=by simp [kcells]
theorem kitems_append (a b : List Kd) : kitems (a++b)=kitems a++kitems b:=by simp [kitems]
theorem kitems_cons (a : Kd) (b : List Kd) : kitems (a::b)=a.2++kitems b:=by simp [kitems]
structure KL (d : Nat) (v : VV) (ks : List Kd) : Prop where
 sl : SlV 1 v (kcells ks)
 rn : ∀ k ∈ ks,RN d k.1 k.2
theorem RN.cells {d : Nat} {v : VV} {xs : List (List VV)} (h : RN d v xs) : ∃ a b,v=.ptr [.int .i64 xs.length,.int .i64 d,a,b] 0:=by
 cases h with
 | leaf=>exact ⟨_,_,rfl⟩
 | inner=>exact ⟨_,_,rfl⟩
theorem KL.len_le {d : Nat} : ∀ {ks : List Kd},(∀ k ∈ ks,RN d k.1 k.2)→ks.length≤(kitems ks).length
 | [],_=>by simp [kitems]
 | k::ks,h=>by
  have:=KL.len_le (ks:=ks) (fun q hq=>h q (by simp [hq]))
  have h1:=List.length_pos_iff.2 (h k (by simp)).ne.1
  rw [kitems_cons,List.length_append,List.length_cons];omega
theorem KL.get {d : Nat} {v : VV} {ks : List Kd} (_ : KL d v ks) {i : Nat} (hi : i < ks.length) : (kcells ks).flatten.getD i .undef=ks[i].1:=by
 rw [kflat,List.getD_eq_getElem?_getD,List.getElem?_map,List.getElem?_eq_getElem hi];rfl
theorem kitems_take_succ (ks : List Kd) (i : Nat) (hi : i < ks.length) : (kitems (ks.take (i+1))).length=(kitems (ks.take i)).length+ks[i].2.length:=by
 rw [List.take_succ_eq_append_getElem hi,kitems_append,List.length_append,kitems_cons];simp [kitems]
theorem kitems_take_le (ks : List Kd) (i : Nat) : (kitems (ks.take i)).length≤(kitems ks).length:=by
 conv=>rhs;rw [← List.take_append_drop i ks,kitems_append,List.length_append]
 omega
theorem SlV.sl_of {k : Nat} {v : VV} {xs : List (List VV)} (h : SlV k v xs) (hne : xs≠[]) : ∃ t,v=.sl xs.length xs.flatten t:=by
 cases h with
 | nil=>exact absurd rfl hne
 | sl xs t h=>exact ⟨t,rfl⟩
theorem KL.sl_of {d : Nat} {v : VV} {ks : List Kd} (h : KL d v ks) (hne : ks≠[]) : ∃ t,v=.sl ks.length (ks.map (·.1)) t:=by
 obtain ⟨t,ht⟩:=h.sl.sl_of (by simpa [kcells] using hne)
 exact ⟨t,by rw [ht,klen,kflat]⟩
inductive InR (d : Nat) (ks : List Kd) (r : VV) : Prop
 | nil (h : ks=[]) (hr : r=.nilp)
 | one (k : Kd) (h : ks=[k]) (hr : r=k.1)
 | many (h : 2≤ks.length) (hr : RN (d+1) r (kitems ks))
theorem x_inner (d : Nat) (v : VV) (ks : List Kd) (h : KL d v ks) (hl : (kitems ks).length≤1000000) : ∃ r,InR d ks r∧PV Tryz.prog G0 155 [v] r:=by
 have hkl:=KL.len_le h.rn
 by_cases hz : ks=[]
 ·subst hz
  refine ⟨.nilp,.nil rfl rfl, ?_⟩
  refine pv e155 (by simp) (by simp [VV.arePure,h.sl.pure]) rfl ?_
  simp only [go_sem,seval,c155,h.sl.evLen k_tsl_143,klen]
  exact fin (by rfl) rfl
 by_cases ho : ks.length=1
 ·obtain ⟨k,rfl⟩:=List.length_eq_one_iff.1 ho
  have hk:=h.rn k (by simp)
  refine ⟨k.1,.one k rfl rfl, ?_⟩
  refine pv e155 (by simp) (by simp [VV.arePure,h.sl.pure]) hk.ne.2.1 ?_
  obtain ⟨t,rfl⟩:=h.sl_of (by simp)
  simp only [go_sem,seval,c155]
  exact fin hk.ne.2.1 rfl
 have h2 : 2≤ks.length:=by have:=List.length_pos_iff.2 hz;omega
 have hrn:=RN.inner (v:=v) h.sl h.rn h2
 have hd : d+1≤(kitems ks).length:=hrn.ne.2.2.2.2
 refine ⟨_,.many h2 hrn, ?_⟩
 have hp:=hrn.ne.2.1
 obtain ⟨t,rfl⟩:=h.sl_of hz
 refine pv e155 (by simp) (by simp [VV.arePure,h.sl.pure]) hp ?_
 have h0 : ((ks.length : Int) == 0)=false:=by simp;omega
 have h1 : ((ks.length : Int) == 1)=false:=by simp;omega
 have hg : ∀ i (hi : i < ks.length),∃ a b,(ks.map (·.1)).getD i .undef=.ptr [.int .i64 ks[i].2.length,.int .i64 d,a,b] 0:=by
  intro i hi
  obtain ⟨a,b,hab⟩:=(h.rn ks[i] (List.getElem_mem hi)).cells
  exact ⟨a,b,by rw [List.getD_eq_getElem?_getD,List.getElem?_map,List.getElem?_eq_getElem hi];exact hab⟩
 obtain ⟨a,b,g0⟩:=hg 0 (by omega)
 have e1 : IntKind.i64.wrap ((d : Int)+1)=((d+1 : Nat) : Int):=by rw [iw (by omega)];omega
 simp only [go_sem,seval,c155,h0,h1,g0,e1]
 refine ⟨by omega,by simp;omega, ?_⟩
 refine wpV_loop_inv (fun m ρ σ=>∃ i : Nat,m=ks.length-i∧i≤ks.length∧ρ.get 3=.mptr 0 0∧ρ.get 25=.sl ks.length (ks.map (·.1)) t∧ρ.get 26=.int .i64 ks.length∧ρ.get 27=.int .i64 i∧σ=[.own [.int .i64 (kitems (ks.take i)).length,.int .i64 (d+1 : Nat),.sl ks.length (ks.map (·.1)) t,.nils]]) (n:=ks.length) ?_ ⟨0,rfl,by omega,rfl,rfl,rfl,rfl,rfl⟩
 rintro m ρ σ ⟨i,rfl,hi,h3,h25,h26,h27,rfl⟩
 simp only [go_sem,seval,h3,h25,h26,h27]
 refine condO_split (fun hc=>?_) (fun hc=>?_)
 ·have hc' : i < ks.length:=by simpa using hc
  have e2 : IntKind.i64.wrap ((i : Int)+1)=((i+1 : Nat) : Int):=by rw [iw (by omega)];omega
  obtain ⟨a,b,gi⟩:=hg i hc'
  have e3:=kitems_take_succ ks i hc'
  have e4:=kitems_take_le ks (i+1)
  have e5 : IntKind.i64.wrap (((kitems (ks.take i)).length : Int)+ks[i].2.length)=((kitems (ks.take (i+1))).length : Nat):=by rw [iw (by omega)];omega
  simp only [go_sem,seval,h3,h25,h26,h27,Int.toNat_natCast,Nat.mul_one,gi,e2,e5]
  refine ⟨by omega,by simp;omega, ?_⟩
  refine ⟨ks.length-(i+1),by omega,i+1, ?_⟩
  and_intros
  all_goals first | rfl | omega
 ·have hc' : i=ks.length:=by simp at hc;omega
  subst hc'
  simp only [go_sem,seval,h3,h25,h26,h27]
  refine ⟨_,1,rfl, ?_⟩
  rw [List.take_length]
  exact fz_new rfl hp
end Go.V
namespace Go.V
open Go.Proofs
set_option maxRecDepth 100000
theorem Blk.one {x : VV} (hp : x.isPure=true) (hc : x.isCell=true) : Blk 1 [[x]]:=⟨by simp,by simp [VV.arePure,hp],by simp [allCells,hc]⟩
theorem Blk.two {x y : VV} (hp : x.isPure=true) (hc : x.isCell=true) (hp' : y.isPure=true) (hc' : y.isCell=true) : Blk 1 [[x],[y]]:=⟨by simp,by simp [VV.arePure,hp,hp'],by simp [allCells,hc,hc']⟩
theorem RN.cell {d : Nat} {v : VV} {xs : List (List VV)} (h : RN d v xs) : v.isCell=true:=by cases h<;>rfl
theorem KL.blk {d : Nat} {v : VV} {ks : List Kd} (h : KL d v ks) : Blk 1 (kcells ks):=h.sl.blk
theorem KL.one {d : Nat} {r : VV} {xs : List (List VV)} (h : RN d r xs) : KL d (.sl 1 [r] true) [(r,xs)]:=⟨SlV.of (Blk.one h.ne.2.1 h.cell) rfl rfl,by simpa using h⟩
theorem KL.two {d : Nat} {r s : VV} {xs ys : List (List VV)} (h : RN d r xs) (h' : RN d s ys) : KL d (.sl 2 [r,s] true) [(r,xs),(s,ys)]:=⟨SlV.of (Blk.two h.ne.2.1 h.cell h'.ne.2.1 h'.cell) rfl rfl,by simp [h,h']⟩
theorem kcells_take (ks : List Kd) (i : Nat) : kcells (ks.take i)=(kcells ks).take i:=by simp [kcells,List.map_take]
theorem kcells_drop (ks : List Kd) (i : Nat) : kcells (ks.drop i)=(kcells ks).drop i:=by simp [kcells,List.map_drop]
structure NL (d : Nat) (v : VV) (rs : List Kd) (xs : List (List VV)) : Prop where
 kl : KL d v rs
 its : kitems rs=xs
 lo : 1≤rs.length
 hi : rs.length≤2
theorem NL.one {d : Nat} {r : VV} {xs : List (List VV)} (h : RN d r xs) : NL d (.sl 1 [r] true) [(r,xs)] xs:=⟨.one h,by simp [kitems],by simp,by simp⟩
theorem NL.two {d : Nat} {r s : VV} {xs ys : List (List VV)} (h : RN d r xs) (h' : RN d s ys) : NL d (.sl 2 [r,s] true) [(r,xs),(s,ys)] (xs++ys):=⟨.two h h',by simp [kitems],by simp,by simp⟩
theorem x_leaves (v : VV) (xs : List (List VV)) (h : SlV 11 v xs) (hne : xs≠[]) (hl : xs.length≤1000000) : ∃ w rs,NL 1 w rs xs∧PV Tryz.prog G0 183 [v] w:=by
 by_cases hs : xs.length≤16
 ·obtain ⟨r,_,hP,hr⟩:=x_leaf v xs h
  have hr:=hr hne
  obtain ⟨_,_,rfl⟩:=hr.cells
  refine ⟨_,_,.one hr, ?_⟩
  refine pv e183 (by simp) (by simp [VV.arePure,h.pure]) (NL.one hr).kl.sl.pure ?_
  have h0 : decide ((xs.length : Int)≤16)=true:=by simp;omega
  simp only [go_sem,seval,c183,h.evLen k_tsl_120,h0]
  refine callO_pure (hP) ?_<;>simp only [go_sem,seval]
  exact fin (NL.one hr).kl.sl.pure rfl
 ·obtain ⟨t,rfl⟩:=h.sl_of hne
  have hB:=h.blk
  have ha : SlV 11 (.sl (xs.take (xs.length / 2)).length (xs.take (xs.length / 2)).flatten false) (xs.take (xs.length / 2)):=.sl _ _ (hB.take _)
  have hb : SlV 11 (.sl (xs.drop (xs.length / 2)).length (xs.drop (xs.length / 2)).flatten false) (xs.drop (xs.length / 2)):=.sl _ _ (hB.drop _)
  obtain ⟨r,_,hP,hr⟩:=x_leaf _ _ ha
  obtain ⟨s,_,hP',hs'⟩:=x_leaf _ _ hb
  have hr:=hr (by intro e;have:=congrArg List.length e;rw [List.length_take,List.length_nil] at this;omega)
  have hs':=hs' (by intro e;have:=congrArg List.length e;rw [List.length_drop,List.length_nil] at this;omega)
  obtain ⟨_,_,rfl⟩:=hr.cells
  obtain ⟨_,_,rfl⟩:=hs'.cells
  have hN:=NL.two hr hs'
  rw [List.take_append_drop] at hN
  refine ⟨_,_,hN, ?_⟩
  refine pv e183 (by simp) (by simp [VV.arePure,h.pure]) hN.kl.sl.pure ?_
  have h0 : decide ((xs.length : Int)≤16)=false:=by simp;omega
  have e1 : IntKind.i64.wrap (Int.tdiv (xs.length : Int) 2)=((xs.length / 2 : Nat) : Int):=by rw [show (2 : Int)=((2 : Nat) : Int) from rfl,tdivN,iw (by omega)]
  have e2 : ((xs.drop (xs.length / 2)).flatten).take ((xs.length-xs.length / 2)*11)=(xs.drop (xs.length / 2)).flatten:=List.take_of_length_le (by rw [(hB.drop _).flat,List.length_drop];exact Nat.le_refl _)
  have b1 : (0 : Int)≤((xs.length / 2 : Nat) : Int):=by omega
  have b2 : ((xs.length / 2 : Nat) : Int)≤(xs.length : Int):=by omega
  have b3 : (xs.length : Int)≤(xs.length : Int):=by omega
  simp only [go_sem,seval,c183,h0,e1,Int.toNat_natCast,Nat.sub_zero,hB.ftake,hB.fdrop,e2,hB.flat,b1,b2,b3]
  refine dcallO_pure (p_both _ _ (xs.take (xs.length / 2)) [] (SlV.of (hB.take _) (by rw [List.length_take];omega) rfl) .nil (by rw [List.length_take];simp;omega)) (by simp only [go_sem,seval,e1,Int.toNat_natCast,Nat.sub_zero,hB.ftake,hB.fdrop,e2,hB.flat,b1,b2,b3]) ?_<;>simp only [go_sem,seval,e1,Int.toNat_natCast,Nat.sub_zero,hB.ftake,hB.fdrop,e2,hB.flat,b1,b2,b3]
  refine dcallO_pure (hP) (by simp only [go_sem,seval,e1,Int.toNat_natCast,Nat.sub_zero,hB.ftake,hB.fdrop,e2,hB.flat,b1,b2,b3]) ?_<;>simp only [go_sem,seval,e1,Int.toNat_natCast,Nat.sub_zero,hB.ftake,hB.fdrop,e2,hB.flat,b1,b2,b3]
  refine dcallO_pure (p_both _ _ (xs.drop (xs.length / 2)) [] (SlV.of (hB.drop _) (by rw [List.length_drop]) rfl) .nil (by rw [List.length_drop];simp;omega)) (by simp only [go_sem,seval,e1,Int.toNat_natCast,Nat.sub_zero,hB.ftake,hB.fdrop,e2,hB.flat,b1,b2,b3]) ?_<;>simp only [go_sem,seval,e1,Int.toNat_natCast,Nat.sub_zero,hB.ftake,hB.fdrop,e2,hB.flat,b1,b2,b3]
  refine dcallO_pure (hP') (by simp only [go_sem,seval]) ?_<;>simp only [go_sem,seval]
  exact fin hN.kl.sl.pure rfl
theorem InR.rn {d : Nat} {ks : List Kd} {r : VV} (h : InR d ks r) (h2 : 2≤ks.length) : RN (d+1) r (kitems ks):=by
 cases h with
 | nil h _=>subst h;simp at h2
 | one k h _=>subst h;simp at h2
 | many _ h=>exact h
theorem x_inners (d : Nat) (v : VV) (ks : List Kd) (h : KL d v ks) (h2 : 2≤ks.length) (hl : (kitems ks).length≤1000000) : ∃ w rs,NL (d+1) w rs (kitems ks)∧PV Tryz.prog G0 181 [v] w:=by
 have hkl:=KL.len_le h.rn
 by_cases hs : ks.length≤16
 ·obtain ⟨r,hr,hP⟩:=x_inner d v ks h hl
  have hr:=hr.rn h2
  obtain ⟨_,_,rfl⟩:=hr.cells
  refine ⟨_,_,.one hr, ?_⟩
  refine pv e181 (by simp) (by simp [VV.arePure,h.sl.pure]) (NL.one hr).kl.sl.pure ?_
  have h0 : decide ((ks.length : Int)≤16)=true:=by simp;omega
  simp only [go_sem,seval,c181,h.sl.evLen k_tsl_143,klen,h0]
  refine callO_pure (hP) ?_<;>simp only [go_sem,seval]
  exact fin (NL.one hr).kl.sl.pure rfl
 ·obtain ⟨t,rfl⟩:=h.sl.sl_of (by intro e;have:=congrArg List.length e;rw [klen,List.length_nil] at this;omega)
  have hB:=h.blk
  have hl1 : (kitems (ks.take (ks.length / 2))).length≤1000000:=Nat.le_trans (kitems_take_le _ _) hl
  have hsum : kitems (ks.take (ks.length / 2))++kitems (ks.drop (ks.length / 2))=kitems ks:=by rw [← kitems_append,List.take_append_drop]
  have hl2 : (kitems (ks.drop (ks.length / 2))).length≤1000000:=by have:=congrArg List.length hsum;rw [List.length_append] at this;omega
  have ha : KL d (.sl (kcells (ks.take (ks.length / 2))).length (kcells (ks.take (ks.length / 2))).flatten false) (ks.take (ks.length / 2)):=⟨.sl _ _ (by rw [kcells_take];exact hB.take _),fun k hk=>h.rn k (List.mem_of_mem_take hk)⟩
  have hb : KL d (.sl (kcells (ks.drop (ks.length / 2))).length (kcells (ks.drop (ks.length / 2))).flatten false) (ks.drop (ks.length / 2)):=⟨.sl _ _ (by rw [kcells_drop];exact hB.drop _),fun k hk=>h.rn k (List.mem_of_mem_drop hk)⟩
  obtain ⟨r,hr,hP⟩:=x_inner _ _ _ ha hl1
  obtain ⟨s,hs',hP'⟩:=x_inner _ _ _ hb hl2
  have hr:=hr.rn (by rw [List.length_take];omega)
  have hs':=hs'.rn (by rw [List.length_drop];omega)
  obtain ⟨_,_,rfl⟩:=hr.cells
  obtain ⟨_,_,rfl⟩:=hs'.cells
  have hN:=NL.two hr hs'
  rw [hsum] at hN
  refine ⟨_,_,hN, ?_⟩
  refine pv e181 (by simp) (by simp [VV.arePure,h.sl.pure]) hN.kl.sl.pure ?_
  rw [kcells_take] at hP
  rw [kcells_drop] at hP'
  have h0 : decide ((ks.length : Int)≤16)=false:=by simp;omega
  have e1 : IntKind.i64.wrap (Int.tdiv (ks.length : Int) 2)=((ks.length / 2 : Nat) : Int):=by rw [show (2 : Int)=((2 : Nat) : Int) from rfl,tdivN,iw (by omega)]
  have hdl : ((kcells ks).drop (ks.length / 2)).length=ks.length-ks.length / 2:=by rw [List.length_drop,klen]
  have e2 : (((kcells ks).drop (ks.length / 2)).flatten).take ((ks.length-ks.length / 2)*1)=((kcells ks).drop (ks.length / 2)).flatten:=List.take_of_length_le (by rw [(hB.drop _).flat,hdl];exact Nat.le_refl _)
  have b1 : (0 : Int)≤((ks.length / 2 : Nat) : Int):=by omega
  have b2 : ((ks.length / 2 : Nat) : Int)≤(ks.length : Int):=by omega
  have b3 : (ks.length : Int)≤(ks.length : Int):=by omega
  have b4:=hB.flat
  rw [klen] at b4
  simp only [go_sem,seval,c181,klen,h0,e1,Int.toNat_natCast,Nat.sub_zero,hB.ftake,hB.fdrop,e2,b4,b1,b2,b3]
  refine dcallO_pure (p_both' _ _ ((kcells ks).take (ks.length / 2)) [] (SlV.of (hB.take _) (by rw [List.length_take,klen];omega) rfl) .nil (by rw [List.length_take,klen];simp;omega)) (by simp only [go_sem,seval,klen,e1,Int.toNat_natCast,Nat.sub_zero,hB.ftake,hB.fdrop,e2,b4,b1,b2,b3]) ?_<;>simp only [go_sem,seval,klen,e1,Int.toNat_natCast,Nat.sub_zero,hB.ftake,hB.fdrop,e2,b4,b1,b2,b3]
  refine dcallO_pure (hP) (by simp only [go_sem,seval,klen,e1,Int.toNat_natCast,Nat.sub_zero,hB.ftake,hB.fdrop,e2,b4,b1,b2,b3]) ?_<;>simp only [go_sem,seval,klen,e1,Int.toNat_natCast,Nat.sub_zero,hB.ftake,hB.fdrop,e2,b4,b1,b2,b3]
  refine dcallO_pure (p_both' _ _ ((kcells ks).drop (ks.length / 2)) [] (SlV.of (hB.drop _) hdl.symm rfl) .nil (by rw [hdl];simp;omega)) (by simp only [go_sem,seval,klen,e1,Int.toNat_natCast,Nat.sub_zero,hB.ftake,hB.fdrop,e2,b4,b1,b2,b3]) ?_<;>simp only [go_sem,seval,klen,e1,Int.toNat_natCast,Nat.sub_zero,hB.ftake,hB.fdrop,e2,b4,b1,b2,b3]
  refine dcallO_pure (hP') (by simp only [go_sem,seval]) ?_<;>simp only [go_sem,seval]
  exact fin hN.kl.sl.pure rfl
end Go.V
namespace Go.V
open Go.Proofs
set_option maxRecDepth 100000
theorem RN.inv {d : Nat} {v : VV} {xs : List (List VV)} (h : RN d v xs) : (d=1∧∃ w,SlV 11 w xs∧v=.ptr [.int .i64 xs.length,.int .i64 1,.nils,w] 0) ∨
  ∃ e w ks,d=e+1∧1≤e∧KL e w ks∧2≤ks.length∧xs=kitems ks∧v=.ptr [.int .i64 xs.length,.int .i64 d,w,.nils] 0:=by
 cases h with
 | leaf h hne=>exact .inl ⟨rfl,_,h,rfl⟩
 | @inner d v ks h hk h2 =>
  refine .inr ⟨d,v,ks,rfl, ?_,⟨h,hk⟩,h2,rfl,rfl⟩
  match ks,h2 with
  | a::_,_=>exact (hk a (by simp)).ne.2.2.2.1
theorem x_glue (d : Nat) (a b : VV) (xs ys : List (List VV)) (ha : RN d a xs) (hb : RN d b ys) (hl : xs.length+ys.length≤1000000) : ∃ w rs,NL d w rs (xs++ys)∧PV Tryz.prog G0 158 [a,b] w:=by
 have hpa:=ha.ne.2.1
 have hpb:=hb.ne.2.1
 have hnx:=List.length_pos_iff.2 ha.ne.1
 have hny:=List.length_pos_iff.2 hb.ne.1
 have hN:=NL.two ha hb
 rcases ha.inv with ⟨rfl,v,hv,rfl⟩ | ⟨e,v,ks,rfl,he,hk,hk2,rfl,rfl⟩
 ·rcases hb.inv with ⟨_,w,hw,rfl⟩ | ⟨e,w,ks,h,he,_⟩
  rotate_left
  ·omega
  have hboth:=p_both v w xs ys hv hw hl
  obtain ⟨u,rs,hU,hP⟩:=x_leaves _ (xs++ys) (.sl _ false (hv.blk.append hw.blk)) (by intro e;have:=congrArg List.length e;rw [List.length_append,List.length_nil] at this;omega) (by rw [List.length_append];exact hl)
  have lv : ∀ {σ},evLen Tryz.prog 120 v σ=okV (.int .i64 xs.length) σ:=hv.evLen k_tsl_120
  have lw : ∀ {σ},evLen Tryz.prog 120 w σ=okV (.int .i64 ys.length) σ:=hw.evLen k_tsl_120
  by_cases h8 : 8≤xs.length∧8≤ys.length
  ·refine ⟨_,_,hN, ?_⟩
   refine pv e158 (by simp) (by simp only [VV.arePure,hpa,hpb];rfl) hN.kl.sl.pure ?_
   have b1 : decide ((8 : Int)≤xs.length)=true:=by simp;omega
   have b2 : decide ((8 : Int)≤ys.length)=true:=by simp;omega
   simp only [go_sem,seval,c158,lv,lw,b1,b2]
   exact fin hN.kl.sl.pure rfl
  ·refine ⟨_,_,hU, ?_⟩
   refine pv e158 (by simp) (by simp only [VV.arePure,hpa,hpb];rfl) hU.kl.sl.pure ?_
   simp only [go_sem,seval,c158,lv,lw]
   refine wantO_split (fun hc=>?_) (fun hc=>?_)
   ·have b2 : decide ((8 : Int)≤ys.length)=false:=by simp at hc ⊢;omega
    simp only [go_sem,seval,lv,lw,b2,hc]
    refine dcallO_pure (hboth) (by simp only [go_sem,seval]) ?_<;>simp only [go_sem,seval]
    refine dcallO_pure (hP) (by simp only [go_sem,seval]) ?_<;>simp only [go_sem,seval]
    exact fin hU.kl.sl.pure rfl
   ·simp only [go_sem,seval,lv,lw,hc]
    refine dcallO_pure (hboth) (by simp only [go_sem,seval]) ?_<;>simp only [go_sem,seval]
    refine dcallO_pure (hP) (by simp only [go_sem,seval]) ?_<;>simp only [go_sem,seval]
    exact fin hU.kl.sl.pure rfl
 ·rcases hb.inv with ⟨h,_⟩ | ⟨e',w,js,h',_,hj,hj2,rfl,rfl⟩
  ·omega
  obtain rfl : e'=e:=by omega
  have hkl:=KL.len_le hk.rn
  have hjl:=KL.len_le hj.rn
  have hboth:=p_both' v w (kcells ks) (kcells js) hk.sl hj.sl (by rw [klen,klen];omega)
  have hKJ : KL e' (.sl (kcells ks++kcells js).length (kcells ks++kcells js).flatten false) (ks++js):=by
   refine ⟨?_,fun k hm=>(List.mem_append.1 hm).elim (hk.rn k) (hj.rn k)⟩
   have : kcells (ks++js)=kcells ks++kcells js:=by simp [kcells]
   rw [this]
   exact .sl _ _ (hk.blk.append hj.blk)
  obtain ⟨u,rs,hU,hP⟩:=x_inners e' _ _ hKJ (by rw [List.length_append];omega) (by rw [kitems_append,List.length_append];exact hl)
  rw [kitems_append] at hU
  have lv : ∀ {σ},evLen Tryz.prog 143 v σ=okV (.int .i64 ks.length) σ:=by rw [← klen];exact hk.sl.evLen k_tsl_143
  have lw : ∀ {σ},evLen Tryz.prog 143 w σ=okV (.int .i64 js.length) σ:=by rw [← klen];exact hj.sl.evLen k_tsl_143
  have h0 : (((e'+1 : Nat) : Int) == 1)=false:=by simp;omega
  by_cases h8 : 8≤ks.length∧8≤js.length
  ·refine ⟨_,_,hN, ?_⟩
   refine pv e158 (by simp) (by simp only [VV.arePure,hpa,hpb];rfl) hN.kl.sl.pure ?_
   have b1 : decide ((8 : Int)≤ks.length)=true:=by simp;omega
   have b2 : decide ((8 : Int)≤js.length)=true:=by simp;omega
   simp only [go_sem,seval,c158,h0,lv,lw,b1,b2]
   exact fin hN.kl.sl.pure rfl
  ·refine ⟨_,_,hU, ?_⟩
   refine pv e158 (by simp) (by simp only [VV.arePure,hpa,hpb];rfl) hU.kl.sl.pure ?_
   simp only [go_sem,seval,c158,h0,lv,lw]
   refine wantO_split (fun hc=>?_) (fun hc=>?_)
   ·have b2 : decide ((8 : Int)≤js.length)=false:=by simp at hc ⊢;omega
    simp only [go_sem,seval,lv,lw,b2,hc]
    refine dcallO_pure (hboth) (by simp only [go_sem,seval]) ?_<;>simp only [go_sem,seval]
    refine dcallO_pure (hP) (by simp only [go_sem,seval]) ?_<;>simp only [go_sem,seval]
    exact fin hU.kl.sl.pure rfl
   ·simp only [go_sem,seval,lv,lw,hc]
    refine dcallO_pure (hboth) (by simp only [go_sem,seval]) ?_<;>simp only [go_sem,seval]
    refine dcallO_pure (hP) (by simp only [go_sem,seval]) ?_<;>simp only [go_sem,seval]
    exact fin hU.kl.sl.pure rfl
theorem x_behind (a : VV) (da : Nat) : ∀ (d : Nat) (b : VV) (xs ys : List (List VV)),da=d→RN da a xs→∀ db,RN db b ys→db < da→xs.length+ys.length≤1000000→∃ w rs,NL da w rs (xs++ys)∧PV Tryz.prog G0 156 [a,b] w:=by
 intro d
 induction d generalizing a da with
 | zero=>intro b xs ys h ha;have:=ha.ne;omega
 | succ d ih =>
  intro b xs ys h ha db hb hlt hl
  rcases ha.inv with ⟨h1,_⟩ | ⟨e,v,ks,rfl,he,hk,hk2,rfl,rfl⟩
  ·have:=hb.ne;omega
  obtain rfl : e=d:=by omega
  have hpa:=ha.ne.2.1
  have hpb:=hb.ne.2.1
  have hkl:=KL.len_le hk.rn
  have hnb:=hb.ne
  have hdb:=ha.ne.2.2.2.2
  obtain ⟨k,hke⟩ : ∃ k,k=ks[ks.length-1]'(by omega):=⟨_,rfl⟩
  have hkm : k ∈ ks:=hke ▸ List.getElem_mem _
  have hkr:=hk.rn k hkm
  have hks : ks=ks.take (ks.length-1)++[k]:=by
   rw [hke]
   have:=List.take_append_drop (ks.length-1) ks
   conv=>lhs;rw [← this]
   rw [List.drop_eq_getElem_cons (by omega),List.drop_eq_nil_of_le (by omega)]
  have hit : kitems ks=kitems (ks.take (ks.length-1))++k.2:=by
   conv=>lhs;rw [hks]
   rw [kitems_append,kitems_cons];simp [kitems]
  have hkll : k.2.length≤(kitems ks).length:=by rw [hit,List.length_append];omega
  have hparts : ∃ w rs,NL e w rs (k.2++ys)∧((db=e∧PV Tryz.prog G0 158 [k.1,b] w)∨(db < e∧PV Tryz.prog G0 156 [k.1,b] w)):=by
   by_cases hde : db=e
   ·subst hde
    obtain ⟨w,rs,h1,h2⟩:=x_glue db k.1 b k.2 ys hkr hb (by omega)
    exact ⟨w,rs,h1,.inl ⟨rfl,h2⟩⟩
   ·obtain ⟨w,rs,h1,h2⟩:=ih k.1 e b k.2 ys rfl hkr db hb (by omega) (by omega)
    exact ⟨w,rs,h1,.inr ⟨by omega,h2⟩⟩
  obtain ⟨pv_,rs,hN,hcase⟩:=hparts
  obtain ⟨t,rfl⟩:=hk.sl_of (by intro e;rw [e] at hk2;simp at hk2)
  have hB:=hk.blk
  have hrl:=hN.hi
  have hboth:=fun va (h : SlV 1 va ((kcells ks).take (ks.length-1)))=>p_both' va pv_ ((kcells ks).take (ks.length-1)) (kcells rs) h hN.kl.sl (by rw [List.length_take,klen,klen];omega)
  have hKJ : KL e (.sl ((kcells ks).take (ks.length-1)++kcells rs).length ((kcells ks).take (ks.length-1)++kcells rs).flatten false) (ks.take (ks.length-1)++rs):=by
   refine ⟨?_,fun q hm=>(List.mem_append.1 hm).elim (fun h=>hk.rn q (List.mem_of_mem_take h)) (hN.kl.rn q)⟩
   have : kcells (ks.take (ks.length-1)++rs)=(kcells ks).take (ks.length-1)++kcells rs:=by simp [kcells,List.map_take]
   rw [this]
   exact .sl _ _ ((hB.take _).append hN.kl.blk)
  have hits : kitems (ks.take (ks.length-1)++rs)=kitems ks++ys:=by rw [kitems_append,hN.its,hit,List.append_assoc]
  obtain ⟨u,us,hU,hP⟩:=x_inners e _ _ hKJ (by rw [List.length_append,List.length_take];have:=hN.lo;omega) (by rw [hits,List.length_append];exact hl)
  rw [hits] at hU
  refine ⟨_,_,hU, ?_⟩
  refine pv e156 (by simp) (by simp only [VV.arePure,hpa,hpb];rfl) hU.kl.sl.pure ?_
  have e1 : IntKind.i64.wrap ((ks.length : Int)-1)=((ks.length-1 : Nat) : Int):=by rw [iw (by omega)];omega
  obtain ⟨ka,kb,hkc⟩:=hkr.cells
  obtain ⟨ba,bb,hbc⟩:=hb.cells
  have g : (ks.map (·.1)).getD (ks.length-1) .undef=.ptr [.int .i64 k.2.length,.int .i64 e,ka,kb] 0:=by
   rw [List.getD_eq_getElem?_getD,List.getElem?_map,List.getElem?_eq_getElem (by omega),← hke];exact hkc
  have b1 : (0 : Int)≤((ks.length-1 : Nat) : Int):=by omega
  have b2 : ((ks.length-1 : Nat) : Int) < (ks.length : Int):=by omega
  have b3 : ks.length-1 < (ks.map (·.1)).length:=by simp;omega
  subst hbc
  rw [hkc] at hcase
  have b4 : (ks.map (·.1)).length=ks.length:=by simp
  have e2 : ((ks.map (·.1)).take (ks.length-1))=((kcells ks).take (ks.length-1)).flatten:=by rw [← kcells_take,kflat,List.map_take]
  have b5 : ((ks.length-1 : Nat) : Int)≤(ks.length : Int):=by omega
  have e3 : ((kcells ks).take (ks.length-1)).length=ks.length-1:=by rw [List.length_take,klen];omega
  simp only [go_sem,seval,c156,e1,Int.toNat_natCast,Nat.mul_one,g,b1,b2,b3]
  refine condO_split (fun hc=>?_) (fun hc=>?_)
  ·rcases hcase with ⟨rfl,hglue⟩ | ⟨hne,_⟩
   rotate_left
   ·simp at hc;omega
   simp only [go_sem,seval,e1,Int.toNat_natCast,Nat.mul_one,g,b1,b2,b3]
   refine callO_pure (hglue) ?_<;>simp only [go_sem,seval,e1,Int.toNat_natCast,Nat.sub_zero,Nat.mul_one,b1,b2,b3,b4,b5,e2]
   refine callO_pure (hboth _ (SlV.of (hB.take _) e3.symm rfl)) ?_<;>simp only [go_sem,seval]
   refine callO_pure (hP) ?_<;>simp only [go_sem,seval]
   exact fin hU.kl.sl.pure rfl
  ·rcases hcase with ⟨rfl,_⟩ | ⟨hne,hbeh⟩
   ·simp at hc
   simp only [go_sem,seval,e1,Int.toNat_natCast,Nat.mul_one,g,b1,b2,b3]
   refine callO_pure (hbeh) ?_<;>simp only [go_sem,seval,e1,Int.toNat_natCast,Nat.sub_zero,Nat.mul_one,b1,b2,b3,b4,b5,e2]
   refine callO_pure (hboth _ (SlV.of (hB.take _) e3.symm rfl)) ?_<;>simp only [go_sem,seval]
   refine callO_pure (hP) ?_<;>simp only [go_sem,seval]
   exact fin hU.kl.sl.pure rfl
theorem x_ahead (b : VV) (db : Nat) : ∀ (d : Nat) (a : VV) (ys xs : List (List VV)),db=d→RN db b ys→∀ da,RN da a xs→da < db→xs.length+ys.length≤1000000→∃ w rs,NL db w rs (xs++ys)∧PV Tryz.prog G0 157 [a,b] w:=by
 intro d
 induction d generalizing b db with
 | zero=>intro a ys xs h hb;have:=hb.ne;omega
 | succ d ih =>
  intro a ys xs h hb da ha hlt hl
  rcases hb.inv with ⟨h1,_⟩ | ⟨e,v,ks,rfl,he,hk,hk2,rfl,rfl⟩
  ·have:=ha.ne;omega
  obtain rfl : e=d:=by omega
  have hpa:=ha.ne.2.1
  have hpb:=hb.ne.2.1
  have hkl:=KL.len_le hk.rn
  have hna:=ha.ne
  have hdb:=hb.ne.2.2.2.2
  obtain ⟨k,hke⟩ : ∃ k,k=ks[0]'(by omega):=⟨_,rfl⟩
  have hkm : k ∈ ks:=hke ▸ List.getElem_mem _
  have hkr:=hk.rn k hkm
  have hks : ks=k::ks.drop 1:=by
   rw [hke]
   have:=List.drop_eq_getElem_cons (l:=ks) (i:=0) (by omega)
   simpa using this
  have hit : kitems ks=k.2++kitems (ks.drop 1):=by
   conv=>lhs;rw [hks]
   rw [kitems_cons]
  have hkll : k.2.length≤(kitems ks).length:=by rw [hit,List.length_append];omega
  have hparts : ∃ w rs,NL e w rs (xs++k.2)∧((da=e∧PV Tryz.prog G0 158 [a,k.1] w)∨(da < e∧PV Tryz.prog G0 157 [a,k.1] w)):=by
   by_cases hde : da=e
   ·subst hde
    obtain ⟨w,rs,h1,h2⟩:=x_glue da a k.1 xs k.2 ha hkr (by omega)
    exact ⟨w,rs,h1,.inl ⟨rfl,h2⟩⟩
   ·obtain ⟨w,rs,h1,h2⟩:=ih k.1 e a k.2 xs rfl hkr da ha (by omega) (by omega)
    exact ⟨w,rs,h1,.inr ⟨by omega,h2⟩⟩
  obtain ⟨pv_,rs,hN,hcase⟩:=hparts
  obtain ⟨t,rfl⟩:=hk.sl_of (by intro e;rw [e] at hk2;simp at hk2)
  have hB:=hk.blk
  have hrl:=hN.hi
  have hboth:=fun va (h : SlV 1 va ((kcells ks).drop 1))=>p_both' pv_ va (kcells rs) ((kcells ks).drop 1) hN.kl.sl h (by rw [List.length_drop,klen,klen];omega)
  have hKJ : KL e (.sl (kcells rs++(kcells ks).drop 1).length (kcells rs++(kcells ks).drop 1).flatten false) (rs++ks.drop 1):=by
   refine ⟨?_,fun q hm=>(List.mem_append.1 hm).elim (hN.kl.rn q) (fun h=>hk.rn q (List.mem_of_mem_drop h))⟩
   have : kcells (rs++ks.drop 1)=kcells rs++(kcells ks).drop 1:=by simp [kcells,List.map_drop]
   rw [this]
   exact .sl _ _ (hN.kl.blk.append (hB.drop _))
  have hits : kitems (rs++ks.drop 1)=xs++kitems ks:=by rw [kitems_append,hN.its,hit,List.append_assoc]
  obtain ⟨u,us,hU,hP⟩:=x_inners e _ _ hKJ (by rw [List.length_append,List.length_drop];have:=hN.lo;omega) (by rw [hits,List.length_append];exact hl)
  rw [hits] at hU
  refine ⟨_,_,hU, ?_⟩
  refine pv e157 (by simp) (by simp only [VV.arePure,hpa,hpb];rfl) hU.kl.sl.pure ?_
  obtain ⟨ka,kb,hkc⟩:=hkr.cells
  obtain ⟨ba,bb,hbc⟩:=ha.cells
  have g : (ks.map (·.1)).getD 0 .undef=.ptr [.int .i64 k.2.length,.int .i64 e,ka,kb] 0:=by
   rw [List.getD_eq_getElem?_getD,List.getElem?_map,List.getElem?_eq_getElem (by omega),← hke];exact hkc
  have b2 : (0 : Int) < (ks.length : Int):=by omega
  have b3 : 0 < (ks.map (·.1)).length:=by simp;omega
  subst hbc
  rw [hkc] at hcase
  have b4 : (ks.map (·.1)).length=ks.length:=by simp
  have e3 : ((kcells ks).drop 1).length=ks.length-1:=by rw [List.length_drop,klen]
  have e2 : ((ks.map (·.1)).drop 1).take (ks.length-1)=((kcells ks).drop 1).flatten:=by rw [← kcells_drop,kflat,List.map_drop];exact List.take_of_length_le (by simp)
  have b5 : (1 : Int)≤(ks.length : Int):=by omega
  have b6 : (ks.length : Int)≤(ks.length : Int):=by omega
  simp only [go_sem,seval,c157,Int.toNat_natCast,Nat.mul_one,g,b2,b3]
  refine condO_split (fun hc=>?_) (fun hc=>?_)
  ·rcases hcase with ⟨rfl,hglue⟩ | ⟨hne,_⟩
   rotate_left
   ·simp at hc;omega
   simp only [go_sem,seval,Int.toNat_natCast,Nat.mul_one,g,b2,b3]
   refine callO_pure (hglue) ?_<;>simp only [go_sem,seval,Int.toNat_natCast,Nat.sub_zero,Nat.mul_one,b2,b3,b4,b5,b6,e2]
   refine callO_pure (hboth _ (SlV.of (hB.drop _) e3.symm rfl)) ?_<;>simp only [go_sem,seval]
   refine callO_pure (hP) ?_<;>simp only [go_sem,seval]
   exact fin hU.kl.sl.pure rfl
  ·rcases hcase with ⟨rfl,_⟩ | ⟨hne,hbeh⟩
   ·simp at hc
   simp only [go_sem,seval,Int.toNat_natCast,Nat.mul_one,g,b2,b3]
   refine callO_pure (hbeh) ?_<;>simp only [go_sem,seval,Int.toNat_natCast,Nat.sub_zero,Nat.mul_one,b2,b3,b4,b5,b6,e2]
   refine callO_pure (hboth _ (SlV.of (hB.drop _) e3.symm rfl)) ?_<;>simp only [go_sem,seval]
   refine callO_pure (hP) ?_<;>simp only [go_sem,seval]
   exact fin hU.kl.sl.pure rfl
end Go.V
