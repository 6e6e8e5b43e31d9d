/- Texts F91 F92 F93. -/
import Derived.Test.YthhjefemijhamaaGreatDoorG34
import Derived.Test.YthhjefemijhamaaGreatDoorG43
set_option linter.unusedVariables false
set_option linter.unusedSimpArgs false
namespace Go.V
open Go.Proofs
set_option maxRecDepth 100000
def uN (σ : Store) (v : VV) : Prop:=∀ id o n z,v=.dP id o n z→σ.length≤id
inductive jI (k : Nat) (σ : Store) : VV→List (List VV)→Prop
 | nil : jI k σ .nils []
 | emp : jI k σ (.sl 0 [] true) []
 | own {id : Nat} {xs : List (List VV)} : dS k xs→σ[id]?=some (.own xs.flatten)→jI k σ (.dP id 0 xs.length k) xs
theorem jI.blk {k : Nat} {σ : Store} {v : VV} {xs : List (List VV)} (h : jI k σ v xs) : dS k xs:=by
 cases h with
 | own h _=>exact h
 | _=>exact .nil
theorem jI.keep {k : Nat} {σ σ' : Store} {v : VV} {xs : List (List VV)} (h : jI k σ v xs) (hs : ∀ id o n z,v=.dP id o n z→σ'[id]?=σ[id]?) : jI k σ' v xs:=by
 cases h with
 | nil=>exact .nil
 | emp=>exact .emp
 | own hB h=>exact .own hB (by rw [hs _ _ _ _ rfl];exact h)
theorem jI.dom {k : Nat} {σ : Store} {v : VV} {xs : List (List VV)} (h : jI k σ v xs) {id o n z : Nat} (e : v=.dP id o n z) : id < σ.length:=by
 cases h with
 | own hB h=>cases e;exact (List.getElem?_eq_some_iff.1 h).1
 | _=>cases e
theorem jI.kept {k : Nat} {σ σ' : Store} {v w : VV} {xs : List (List VV)} (h : jI k σ v xs) (hK : Kept σ w σ') (hne : ∀ id o n z o' n' z',v=.dP id o n z→w≠.dP id o' n' z') : jI k σ' v xs :=
 h.keep fun id o n z e=>hK.2 id (h.dom e) fun o' n' z'=>hne id o n z o' n' z' e
theorem jI.fz {k : Nat} {σ : Store} {v : VV} {xs : List (List VV)} (h : jI k σ v xs) (hne : xs≠[]) (m : Nat) : fz (m+1) (σ.map Obj.fr) v=some (.sl xs.length xs.flatten false):=by
 cases h with
 | own hB h=>exact qj (by rw [List.getElem?_map,h];rfl) hB rfl
 | _=>exact absurd rfl hne
theorem jI.snoc {k : Nat} {σ : Store} {v : VV} {xs : List (List VV)} (h : jI k σ v xs) (τ : Store) : jI k (σ++τ) v xs:=h.keep fun id o n z e=>by
 subst e
 cases h with
 | own hB h=>exact List.getElem?_append_left (List.getElem?_eq_some_iff.1 h).1
theorem jI.app {k : Nat} {σ : Store} {v x : VV} {xs ys : List (List VV)} (h : jI k σ v xs) {t tx e : TypeId} {by_ : Nat} {z : List VV} (ht : jh Tryz.prog t=some e) (hk : fV Tryz.prog e=some k) (hy : zZ Tryz.prog e=some by_) (hz : bU Tryz.prog e=some z) (hzk : z.length=k) (hk0 : 0 < k) (hb : by_≤1000) (hC : dS k ys) (hl : xs.length+ys.length≤1000000)
  (hx : aJ Tryz.prog σ k tx x=some (ys.length,ys.flatten)) : ∃ p v' σ',p∧cu Tryz.prog t tx v x σ=some ⟨p,v',σ'⟩∧jI k σ' v' (xs++ys)∧Kept σ v σ'∧uN σ v':=by
 cases h with
 | nil =>
  by_cases hne : ys=[]
  ·subst hne
   exact ⟨True,.nils,σ,trivial,by simp only [cu,ht,hk,hy,hz,hx,List.length_nil,if_true,okV],.nil,⟨Nat.le_refl _,fun _ _ _=>rfl⟩,fun _ _ _ _ e=>by cases e⟩
  ·obtain ⟨p,hp,he⟩:=I7 ht hk hy hz hzk hk0 hb hC (by omega) hne hx
   exact ⟨p,_,_,hp,he,.own hC (by simp),⟨by simp,fun j hj _=>List.getElem?_append_left hj⟩,fun id o n z e=>by cases e;exact Nat.le_refl _⟩
 | emp =>
  by_cases hne : ys=[]
  ·subst hne
   exact ⟨True,.sl 0 [] true,σ,trivial,by simp only [cu,ht,hk,hy,hz,hx,List.length_nil,if_true,okV],.emp,⟨Nat.le_refl _,fun _ _ _=>rfl⟩,fun _ _ _ _ e=>by cases e⟩
  ·have hne' : ys.length≠0:=fun h=>hne (List.eq_nil_of_length_eq_zero h)
   have:=Nat.mul_le_mul hl hb
   refine ⟨_,_,_, ?_,by simp only [cu,ht,hk,hy,hz,hx,if_neg hne',if_true,List.nil_append,Nat.zero_add];rfl,.own hC (by simp),⟨by simp,fun j hj _=>List.getElem?_append_left hj⟩,fun id o n z e=>by cases e;exact Nat.le_refl _⟩
   refine ⟨⟨by simp at hl;omega,by simp at this;omega,hC.flat,hk0,hC.xq,hzk⟩,by simp,rfl⟩
 | own hB hid =>
  obtain ⟨p,hp,he⟩:=Np ht hk hy hz hzk hk0 hb hid hB hC hl rfl hx
  refine ⟨p,_,_,hp,he,.own (hB.append hC) (by rw [List.getElem?_append_right (by simp)];simp),⟨by simp,fun j hj hne=>?_⟩,fun id o n z e=>by cases e;exact Nat.le_refl _⟩
  rw [List.getElem?_append_left (by simpa using hj),List.getElem?_set_ne (fun e=>hne _ _ _ (by rw [e]))]
theorem jI.step {k : Nat} {σ : Store} {v x : VV} {xs ys : List (List VV)} (h : jI k σ v xs) {t tx e : TypeId} {by_ : Nat} {z : List VV} (ht : jh Tryz.prog t=some e) (hk : fV Tryz.prog e=some k) (hy : zZ Tryz.prog e=some by_) (hz : bU Tryz.prog e=some z) (hzk : z.length=k) (hk0 : 0 < k) (hb : by_≤1000) (hC : dS k ys) (hl : xs.length+ys.length≤1000000)
  (hx : aJ Tryz.prog σ k tx x=some (ys.length,ys.flatten)) {d : Nat} {r : List VO} {Q : Out→Env→Store→Prop} {ρ : Env} (hn : ∀ v' σ',jI k σ' v' (xs++ys)→Kept σ v σ'→uN σ v'→dQ Tryz.prog G0 r Q ((d,v')::ρ) σ') : eU Tryz.prog G0 (cu Tryz.prog t tx v x σ) (some d) r Q ρ:=by
 obtain ⟨p,v',σ',hp,he,h1,h2,h3⟩:=h.app ht hk hy hz hzk hk0 hb hC hl hx
 rw [he]
 exact ⟨hp,hn v' σ' h1 h2 h3⟩
theorem jI.Jz {k : Nat} {σ : Store} {v x : VV} {xs ys : List (List VV)} (h : jI k σ v xs) {t tx e : TypeId} {by_ : Nat} {z : List VV} (ht : jh Tryz.prog t=some e) (hk : fV Tryz.prog e=some k) (hy : zZ Tryz.prog e=some by_) (hz : bU Tryz.prog e=some z) (hzk : z.length=k) (hk0 : 0 < k) (hb : by_≤1000) (hC : dS k ys) (hl : xs.length+ys.length≤1000000)
  (hx : aJ Tryz.prog σ k tx x=some (ys.length,ys.flatten)) {d : Nat} {chk : List Nat} {pd : sG} {r : List DO} {Q : Out→Env→Store→Prop} {ρ : Env} (hn : ∀ v' σ',jI k σ' v' (xs++ys)→Kept σ v σ'→uN σ v'→iK Tryz.prog G0 chk pd σ'∧bH Tryz.prog G0 r pd Q (eP ρ (some d) v') σ') : oH Tryz.prog G0 (cu Tryz.prog t tx v x σ) (some d) chk r pd Q ρ:=by
 obtain ⟨p,v',σ',hp,he,h1,h2,h3⟩:=h.app ht hk hy hz hzk hk0 hb hC hl hx
 rw [he]
 exact ⟨hp,hn v' σ' h1 h2 h3⟩
theorem YA {n : Nat} {τ : Store} {ys zs : List VV} (h : ys.mapM (fz n τ)=some zs) : fz (n+1) τ (.tup ys)=some (.tup zs):=by
 rw [fz]
 split
 ·rename_i hp
  simp only [VV.isPure] at hp
  rw [xP hp] at h
  cases h;rfl
 ·simp only [h,Option.map_some]
theorem KR {n : Nat} {τ : Store} {ys zs : List VV} (h : ys.mapM (fz n τ)=some zs) : fz (n+1) τ (.agg ys)=some (.agg zs):=by
 rw [fz]
 split
 ·rename_i hp
  simp only [VV.isPure] at hp
  rw [xP hp] at h
  cases h;rfl
 ·simp only [h,Option.map_some]
theorem fH.XM {σ : Store} {k : Nat} {t e : TypeId} {v : VV} {xs : List (List VV)} (h : fH k v xs) (ht : jh Tryz.prog t=some e) (hk : fV Tryz.prog e=some k) {a : Nat} (ha : a≤xs.length) :
  ∃ (p : Prop) (v' : VV),p∧fH k v' (xs.take a)∧∀ {σ},gK Tryz.prog t v none (some (a : Int)) none σ=some ⟨p,v',σ⟩:=by
 cases h with
 | nil =>
  refine ⟨_,.nils, ?_,by simpa using fH.nil,by intro σ;simp only [gK,ht,hk];rfl⟩
  have : a=0:=by simpa using ha
  subst this
  simp [bounds]
 | sl _ tg hB =>
  refine ⟨_,_, ?_, ?_,by intro σ;simp only [gK,ht,hk];rfl⟩
  ·refine ⟨⟨by simp [bounds],by simp [bounds];omega⟩,.inl trivial,hB.flat⟩
  ·simp only [bounds,Option.getD_none,Option.getD_some,Int.toNat_zero,Int.toNat_natCast,Nat.zero_mul,List.drop_zero,Nat.sub_zero]
   rw [hB.iU]
   exact fH.of (hB.take a) (by simp;omega) rfl
theorem fH.cutFrom {σ : Store} {k : Nat} {t e : TypeId} {v : VV} {xs : List (List VV)} (h : fH k v xs) (ht : jh Tryz.prog t=some e) (hk : fV Tryz.prog e=some k) {a : Nat} (ha : a≤xs.length) :
  ∃ (p : Prop) (v' : VV),p∧fH k v' (xs.drop a)∧∀ {σ},gK Tryz.prog t v (some (a : Int)) none none σ=some ⟨p,v',σ⟩:=by
 cases h with
 | nil =>
  refine ⟨_,.nils, ?_,by simpa using fH.nil,by intro σ;simp only [gK,ht,hk];rfl⟩
  have : a=0:=by simpa using ha
  subst this
  simp [bounds]
 | sl _ tg hB =>
  refine ⟨_,_, ?_, ?_,by intro σ;simp only [gK,ht,hk];rfl⟩
  ·refine ⟨⟨by simp [bounds];omega,by simp [bounds]⟩,.inl trivial,hB.flat⟩
  ·simp only [bounds,Option.getD_none,Option.getD_some,Int.toNat_natCast]
   rw [hB.iV,(hB.drop a).iU,List.take_of_length_le (by simp)]
   exact fH.of (hB.drop a) (by simp) rfl
theorem Jj {α : Type} (k : Bs) : ∀ (l : List (Bs × α)) (n : Nat),n≤fE l k→fE l k=n+fE (l.drop n) k
 | l,0,_=>by simp
 | [],n+1,h=>by simp [fE] at h
 | p::l,n+1,h=>by
  unfold fE at h ⊢
  split
  ·rename_i hb
   rw [if_pos hb] at h
   rw [Jj k l n (by omega),List.drop_succ_cons]
   generalize l.drop n=m
   cases m<;>simp [fE]<;>omega
  ·rename_i hb
   rw [if_neg hb] at h;omega
theorem Bf {α : Type} (l : List (Bs × α)) : dS 1 (l.map fun p=>[VV.str p.1]) :=
 ⟨fun x hx=>by obtain ⟨p,_,rfl⟩:=List.mem_map.1 hx;rfl,fun x hx=>by obtain ⟨p,_,rfl⟩:=List.mem_map.1 hx;rfl,fun x hx=>by obtain ⟨p,_,rfl⟩:=List.mem_map.1 hx;rfl⟩
def yx {α : Type} (l : List (Bs × α)) (k : Bs) (c : α) : List (Bs × α):=l.take (fE l k)++(k,c)::l.drop (fE l k)
theorem aao (l : List (Bs × List VV)) (kv iv : VV) (hk : fH 1 kv (l.map fun p=>[VV.str p.1])) (hi : fH 5 iv (l.map (·.2))) (k : Bs) (c : List VV) (hc : dS 5 [c]) (hl : l.length≤100000) (hks : ∀ p ∈ l,p.1.length≤1000000000) :
  PV Tryz.prog G0 45 [kv,iv,.str k,.agg c] (.tup [.sl (yx l k c).length ((yx l k c).map fun p=>[VV.str p.1]).flatten false,.sl (yx l k c).length ((yx l k c).map (·.2)).flatten false]):=by
 have hkp:=hk.pure
 have hip:=hi.pure
 have hBk : dS 1 ((yx l k c).map fun p=>[VV.str p.1]):=Bf _
 have hBi : dS 5 ((yx l k c).map (·.2)):=by
  unfold yx
  rw [List.map_append,List.map_cons,List.map_take,List.map_drop]
  exact (hi.blk.take _).append ((dS.append (xs:=[c]) hc (hi.blk.drop _)))
 have hx1:=hc.len c (by simp)
 have hx2:=hc.pure c (by simp)
 have hx3 : c.all VV.aF=true:=hc.cell c (by simp)
 have hx4 : c.take 5=c:=List.take_of_length_le (by omega)
 have hkl : ∀ {σ},cO Tryz.prog 25 kv σ=okV (.int .i64 l.length) σ:=by intro σ;rw [hk.cO dM];simp
 refine pv e45 (by simp) (by simp only [VV.ak,VV.isPure,hkp,hip,hx2];rfl) (by simp only [VV.isPure,VV.ak,hBk.rE,hBi.rE,Bool.and_self]) ?_
 simp only [go_sem,seval,c45,hx1,hx3,hx4]
 refine bY (M:=fun ρ τ=>ρ.get 0=kv∧ρ.get 1=iv∧ρ.get 2=.str k∧ρ.get 7=.mptr 0 0∧ρ.get 10=.int .i64 (fE l k : Nat)∧τ=[.own c]) ?_ ?_
 rotate_left
 ·refine aG (fun m ρ τ=>∃ n : Nat,m=l.length-n∧n≤fE l k∧ρ.get 0=kv∧ρ.get 1=iv∧ρ.get 2=.str k∧ρ.get 7=.mptr 0 0∧ρ.get 10=.int .i64 n∧τ=[.own c]) (n:=l.length) ?_ ⟨0,rfl,by omega,rfl,rfl,rfl,rfl,rfl,rfl⟩
  rintro m ρ _ ⟨n,rfl,hn,q0,q1,q2,q7,q10,rfl⟩
  have hle:=sO k l
  have hd:=Jj k l n hn
  by_cases h1 : n < l.length
  rotate_left
  ·have b1 : decide ((n : Int) < (l.length : Int))=false:=decide_eq_false (by omega)
   have he : fE l k=n:=by omega
   simp only [go_sem,seval,q0,q1,q2,q7,q10,hkl,b1,he]
  have b1 : decide ((n : Int) < (l.length : Int))=true:=decide_eq_true (by omega)
  obtain ⟨tg,hkt⟩:=hk.iO (by intro e;have:=congrArg List.length e;simp at this;rw [this] at h1;simp at h1)
  rw [List.length_map] at hkt
  have a1 : (0 : Int)≤(n : Int):=by omega
  have a2 : (n : Int) < (l.length : Int):=by omega
  have a3 : n*1 < (l.map fun p=>[VV.str p.1]).flatten.length:=by rw [hk.blk.flat,List.length_map];omega
  have a4 : (l.map fun p=>[VV.str p.1]).flatten.getD (n*1) .undef=VV.str l[n].1:=by
   have h:=hk.blk.wG (i:=n) (by simpa using h1)
   have h2:=congrArg (·[0]?) h
   simp only [List.getElem?_take_of_lt (Nat.zero_lt_one),List.getElem?_drop,List.getElem_map,List.getElem?_cons_zero,Nat.add_zero] at h2
   rw [List.getD_eq_getElem?_getD,h2];rfl
  have a6 : IntKind.i64.wrap ((n : Int)+1)=((n+1 : Nat) : Int):=by rw [iw (by omega)];omega
  have hO:=Q9 l[n].1 k (hks _ (List.getElem_mem h1))
  have hlt:=MJ l[n].1 k
  have hd2 : fE (l.drop n) k=if bl l[n].1 k=true then fE (l.drop (n+1)) k+1 else 0:=by rw [List.drop_eq_getElem_cons h1];rfl
  cases hb : bl l[n].1 k with
  | true =>
   rw [hb] at hlt hd2
   rw [if_pos rfl] at hd2
   simp only [go_sem,seval,q0,q1,q2,q7,q10,hkl,b1,hkt,a1,a2,a3,a4,Int.toNat_natCast]
   refine ah (hO) ?_<;>simp only [go_sem,seval,q0,q1,q2,q7,q10,hlt,a6]
   exact ⟨l.length-(n+1),by omega,n+1,rfl,by omega,hkt,rfl⟩
  | false =>
   rw [hb] at hlt hd2
   rw [if_neg (by decide)] at hd2
   have he : fE l k=n:=by omega
   simp only [go_sem,seval,q0,q1,q2,q7,q10,hkl,b1,hkt,a1,a2,a3,a4,Int.toNat_natCast]
   refine ah (hO) ?_<;>simp only [go_sem,seval,q0,q1,q2,q7,q10,hlt,he]
   exact hkt
 rintro ρ _ ⟨q0,q1,q2,q7,q10,rfl⟩
 have hle:=sO k l
 obtain ⟨pa,ka,hpa,hka,hea⟩:=hk.XM (σ:=[]) dM lM (a:=fE l k) (by simpa using hle)
 obtain ⟨pb,kb,hpb,hkb,heb⟩:=hk.cutFrom (σ:=[]) dM lM (a:=fE l k) (by simpa using hle)
 obtain ⟨pc,ic,hpc,hic,hec⟩:=hi.XM (σ:=[]) dY lV (a:=fE l k) (by simpa using hle)
 obtain ⟨pd,id,hpd,hid,hed⟩:=hi.cutFrom (σ:=[]) dY lV (a:=fE l k) (by simpa using hle)
 have hlk : ((l.map fun p=>[VV.str p.1]).take (fE l k)).length≤100000:=by simp;omega
 have hBs : dS 1 [[VV.str k]]:=Bf [(k,())]
 simp only [go_sem,seval,q0,q1,q2,q7,q10,hea,hpa]
 refine jI.emp.step (ys:=(l.map fun p=>[VV.str p.1]).take (fE l k)) dM lM oJ kD rfl (by decide) (by decide) hka.blk (by simp;omega) (hka.src dM) fun v1 σ1 g1 K1 N1=>?_
 have c1 : σ1[0]?=some (.own c):=by rw [K1.2 0 (by simp) (by simp)];rfl
 simp only [go_sem,seval,q0,q1,q2,q7,q10]
 refine g1.step (ys:=[[VV.str k]]) dM lM oJ kD rfl (by decide) (by decide) hBs (by simp;omega) ((fH.sl [[VV.str k]] true hBs).src dM) fun v2 σ2 g2 K2 N2=>?_
 have c2 : σ2[0]?=some (.own c):=by
  have : 0 < σ1.length:=(List.getElem?_eq_some_iff.1 c1).1
  rw [K2.2 0 this (fun o n z e=>by have:=N1 0 o n z e;simp at this)];exact c1
 simp only [go_sem,seval,q0,q1,q2,q7,q10,c2,hec,hpc,hx1,hx3,hx4]
 refine jI.emp.Jz (ys:=(l.map (·.2)).take (fE l k)) dY lV pR lF rfl (by decide) (by decide) hic.blk (by simp;omega) (hic.src dY) fun v3 σ3 g3 K3 N3=>?_
 have l2 : 0 < σ2.length:=(List.getElem?_eq_some_iff.1 c2).1
 have c3 : σ3[0]?=some (.own c):=by rw [K3.2 0 l2 (by simp)];exact c2
 have g23:=g2.kept K3 (by intro id o n z o' n' z' _ h;cases h)
 simp only [go_sem,seval,q0,q1,q2,q7,q10,c3,hx1,hx3,hx4]
 refine g3.Jz (ys:=[c]) dY lV pR lF rfl (by decide) (by decide) hc (by simp;omega) (by have:=(fH.sl [c] true hc).src (P:=Tryz.prog) (σ:=σ3) dY;simpa using this) fun v4 σ4 g4 K4 N4=>?_
 have g24:=g23.kept K4 (by intro id o n z o' n' z' h h';have h1:=g2.dom h;have h2:=N3 _ _ _ _ h';omega)
 simp only [go_sem,seval,q0,q1,q2,q7,q10,heb,hpb,hed,hpd]
 refine g24.Jz (ys:=(l.map fun p=>[VV.str p.1]).drop (fE l k)) dM lM oJ kD rfl (by decide) (by decide) hkb.blk (by simp;omega) (hkb.src dM) fun v5 σ5 g5 K5 N5=>?_
 have g45:=g4.kept K5 (by intro id o n z o' n' z' h h';have h1:=g2.dom h';have h2:=N4 _ _ _ _ h;have h3:=K3.1;omega)
 simp only [go_sem,seval,q0,q1,q2,q7,q10,hed,hpd]
 refine g45.Jz (ys:=(l.map (·.2)).drop (fE l k)) dY lV pR lF rfl (by decide) (by decide) hid.blk (by simp;omega) (hid.src dY) fun v6 σ6 g6 K6 N6=>?_
 have g56:=g5.kept K6 (by intro id o n z o' n' z' h h';have h1:=g4.dom h';have h2:=N5 _ _ _ _ h;omega)
 simp only [go_sem,seval]
 have e1 : (l.map fun p=>[VV.str p.1]).take (fE l k)++[[VV.str k]]++(l.map fun p=>[VV.str p.1]).drop (fE l k)=(yx l k c).map fun p=>[VV.str p.1]:=by
  unfold yx
  rw [List.map_append,List.map_cons,List.map_take,List.map_drop];simp
 have e2 : (l.map (·.2)).take (fE l k)++[c]++(l.map (·.2)).drop (fE l k)=(yx l k c).map (·.2):=by
  unfold yx
  rw [List.map_append,List.map_cons,List.map_take,List.map_drop];simp
 have f1:=g56.fz (by simp) 0
 have f2:=g6.fz (by simp) 0
 rw [List.nil_append,e1,List.length_map] at f1
 rw [List.nil_append,e2,List.length_map] at f2
 refine ⟨_,2,rfl,YA ?_⟩
 simp only [List.mapM_cons,List.mapM_nil,f1,f2]
 rfl
end Go.V
namespace Go.V
open Go.Proofs
set_option maxRecDepth 100000
theorem fH.Jf {kv : VV} {keys : List Bs} (hk : fH 1 kv (keys.map fun b=>[VV.str b])) {j : Nat} (hj : j < keys.length) :
  ∃ tg,kv=.sl keys.length (keys.map fun b=>[VV.str b]).flatten tg∧j*1 < (keys.map fun b=>[VV.str b]).flatten.length∧(keys.map fun b=>[VV.str b]).flatten.getD (j*1) .undef=VV.str keys[j]:=by
 obtain ⟨tg,hkt⟩:=hk.iO (by intro e;have:=congrArg List.length e;simp at this;rw [this] at hj;simp at hj)
 rw [List.length_map] at hkt
 refine ⟨tg,hkt,by rw [hk.blk.flat,List.length_map];omega, ?_⟩
 have h:=hk.blk.wG (i:=j) (by simpa using hj)
 have h2:=congrArg (·[0]?) h
 simp only [List.getElem?_take_of_lt (Nat.zero_lt_one),List.getElem?_drop,List.getElem_map,List.getElem?_cons_zero,Nat.add_zero] at h2
 rw [List.getD_eq_getElem?_getD,h2];rfl
theorem fH.xH {k : Nat} {iv : VV} {cs : List (List VV)} (hi : fH k iv cs) {j : Nat} (hj : j < cs.length) :
  ∃ tg,iv=.sl cs.length cs.flatten tg∧j*k+k≤cs.flatten.length∧(cs.flatten.drop (j*k)).take k=cs[j]:=by
 obtain ⟨tg,hit⟩:=hi.iO (by intro e;rw [e] at hj;simp at hj)
 refine ⟨tg,hit, ?_,hi.blk.wG hj⟩
 rw [hi.blk.flat,← Nat.succ_mul]
 exact Nat.mul_le_mul_right _ hj
theorem Uu (k i : Int) (t : Bs) (kv iv : VV) (hp : kv.isPure=true) (hp' : iv.isPure=true) (hc : kv.aF=true) (hc' : iv.aF=true) : PV Tryz.prog G0 76 [.agg [.int .i64 k,.int .i64 i,.str t,kv,iv]] (.agg [.int .i64 k,.int .i64 i,.str t]):=by
 refine pv e76 (by simp) (by simp only [VV.ak,VV.isPure,hp,hp'];rfl) rfl ?_
 simp only [go_sem,seval] at hc
 simp only [go_sem,seval] at hc'
 simp only [go_sem,seval,c76,hc,hc']
 exact fin (by rfl) rfl
theorem BN (kd : Int) (h4 : 4≤kd) (h6 : kd≤6) (keys : List Bs) (kv iv : VV) (cs : List (List VV)) (hk : fH 1 kv (keys.map fun b=>[VV.str b])) (hi : fH 5 iv cs) (hn : cs.length≤100000) (hkn : kd=5→keys.length=cs.length) (hks : ∀ k ∈ keys,k.length≤1000000)
  (pk kj : Nat→Bs) (hp0 : pk 0=[]) (hps : ∀ j,j < cs.length→pk (j+1)=pk j++((if kd=5 then jO 3 0 (keys.getD j []) else [])++kj j)) (hpl : ∀ j,j≤cs.length→(pk j).length≤1000000000) (ih : ∀ j (h : j < cs.length),PV Tryz.prog G0 46 [.agg cs[j]] (.str (kj j))) :
  PV Tryz.prog G0 46 [.agg [.int .i64 kd,.int .i64 0,.str [],kv,iv]] (.str (UInt8.ofNat (kd+1).toNat::(pk cs.length++[0]))):=by
 have hkp:=hk.pure
 have hip:=hi.pure
 have hkc:=hk.cell
 have hic:=hi.cell
 have hisl : ∀ {σ},cO Tryz.prog 26 iv σ=okV (.int .i64 cs.length) σ:=by intro σ;rw [hi.cO dY]
 have w1 : IntKind.i64.wrap (kd+1)=kd+1:=iw (by omega)
 have w2 : IntKind.u8.wrap (kd+1)=kd+1:=by rw [Qs];omega
 have b1 : decide (kd≤3)=false:=decide_eq_false (by omega)
 refine pv e46 (by simp) (by simp only [VV.ak,VV.isPure,hkp,hip];rfl) rfl ?_
 simp only [go_sem,seval] at hkc
 simp only [go_sem,seval] at hic
 have hby : bytesOf [VV.int .u8 (kd+1)]=some [UInt8.ofNat (kd+1).toNat]:=rfl
 generalize UInt8.ofNat (kd+1).toNat=o at *
 simp only [go_sem,seval,c46,hkc,hic,b1,w1,w2,hisl,hby]
 refine bY (M:=fun ρ τ=>ρ.get 3=.str (o::pk cs.length)) ?_ ?_
 ·rintro ρ τ q3
  have hl:=hpl cs.length (Nat.le_refl _)
  simp only [go_sem,seval,q3]
  exact ⟨by omega,fin (by rfl) rfl⟩
 refine aG (fun m ρ τ=>∃ j : Nat,m=cs.length-j∧j≤cs.length∧ρ.get 1=.mptr 0 0∧ρ.get 3=.str (o::pk j)∧ρ.get 19=iv∧ρ.get 20=.int .i64 cs.length∧ρ.get 21=.int .i64 j∧τ[0]?=some (.own [.int .i64 kd,.int .i64 0,.str [],kv,iv])) (n:=cs.length) ?_ ⟨0,rfl,by omega,rfl,by rw [hp0];rfl,rfl,rfl,rfl,rfl⟩
 rintro m ρ τ ⟨j,rfl,hj,q1,q3,q19,q20,q21,t0⟩
 simp only [go_sem,seval,q19,q20,q21]
 refine aj (fun hc=>?_) (fun hc=>?_)
 rotate_left
 ·have hc' : j=cs.length:=by simp at hc;omega
  subst hc'
  simp only [go_sem,seval,q3]
 have hc' : j < cs.length:=by simpa using hc
 obtain ⟨tg,hit,a3,a4⟩:=hi.xH hc'
 have x1:=hi.blk.len _ (List.getElem_mem hc')
 have x3 : cs[j].all VV.aF=true:=hi.blk.cell _ (List.getElem_mem hc')
 have x4 : cs[j].take 5=cs[j]:=List.take_of_length_le (by omega)
 have a1 : (0 : Int)≤(j : Int):=by omega
 have a2 : (j : Int) < (cs.length : Int):=by omega
 have a6 : IntKind.i64.wrap ((j : Int)+1)=((j+1 : Nat) : Int):=by rw [iw (by omega)];omega
 have t0' : ∀ υ,(τ++υ)[0]?=some (.own [.int .i64 kd,.int .i64 0,.str [],kv,iv]):=fun υ=>by rw [List.getElem?_append_left (List.getElem?_eq_some_iff.1 t0).1];exact t0
 have hs:=hps j hc'
 have hl1:=hpl (j+1) (by omega)
 rw [hs] at hl1
 simp only [List.length_append] at hl1
 have hih:=ih j hc'
 by_cases h5 : kd=5
 ·subst h5
  have hjk : j < keys.length:=by rw [hkn rfl];exact hc'
  obtain ⟨tgk,hkt,c3,c4⟩:=hk.Jf hjk
  have c2 : (j : Int) < (keys.length : Int):=by omega
  have hsK:=SQ 3 0 keys[j] (by have:=hks _ (List.getElem_mem hjk);omega)
  have e : keys.getD j []=keys[j]:=by simp [List.getD_eq_getElem?_getD,hjk]
  rw [if_pos rfl,e] at hs hl1
  simp only [go_sem,seval,q1,q3,q19,q20,q21,hit,hkt,a1,a2,a3,a4,c2,c3,c4,x1,x3,x4,t0',Int.toNat_natCast,SS]
  refine ah (hsK) ?_<;>simp only [go_sem,seval,q1,q3,q19,q20,q21,x1,x3,x4,SS]
  refine ⟨by omega, ?_⟩
  refine ah (hih) ?_<;>simp only [go_sem,seval,q1,q3,q19,q20,q21,a6]
  exact ⟨by simp;omega,cs.length-(j+1),by omega,j+1,rfl,by omega,by rw [hs];simp,hit,rfl,by rw [← hit,← hkt];exact t0' _⟩
 ·have h5' : (kd == 5)=false:=by simpa using h5
  rw [if_neg h5] at hs hl1
  simp only [go_sem,seval,q1,q3,q19,q20,q21,hit,a1,a2,a3,a4,x1,x3,x4,t0',hkc,hic,h5',Int.toNat_natCast,SS]
  refine ah (hih) ?_<;>simp only [go_sem,seval,q1,q3,q19,q20,q21,a6]
  exact ⟨by simp at hl1 ⊢;omega,cs.length-(j+1),by omega,j+1,rfl,by omega,by rw [hs];simp,hit,rfl,by rw [← hit];exact t0' _⟩
mutual
theorem Fa : ∀ (v : T) (c : List VV) (q : Nat),rJ v.tree c→v.yh 4000→v.wf q→v.nd≤20000→PV Tryz.prog G0 46 [.agg c] (.str v.key)
 | .sc k i t,c,q,h,hs,hw,hn=>by
  cases hs with
  | sc ht hi =>
  simp only [T.tree] at h
  cases h with
  | @node _ _ _ _ _ kv iv cs h1 h2 h3 =>
  have hkp:=h1.pure
  have hip:=h3.pure
  have hkc:=h1.cell
  have hic:=h3.cell
  have hP:=Uu k i t kv iv hkp hip hkc hic
  have hK:=SQ k i t (by omega)
  have hk3 : k≤3:=by
   have:=hw.2
   rcases this with h | h | h | h<;>omega
  have b1 : decide (k≤3)=true:=decide_eq_true hk3
  refine pv e46 (by simp) (by simp only [VV.ak,VV.isPure,hkp,hip];rfl) rfl ?_
  simp only [go_sem,seval] at hkc
  simp only [go_sem,seval] at hic
  simp only [go_sem,seval,c46,hkc,hic,b1]
  refine ah (hP) ?_<;>simp only [go_sem,seval,hkc,hic]
  refine ah (hK) ?_<;>simp only [go_sem,seval]
  exact fin (by rfl) rfl
 | .vec l,c,q,h,hs,hw,hn=>by
  cases hs with
  | vec hs =>
  simp only [T.tree] at h
  simp only [T.nd] at hn
  cases h with
  | @node _ _ _ _ _ kv iv cs h1 h2 h3 =>
  have hl : cs.length=l.length:=by rw [h2.len,fD];simp
  have hle:=nO l false hs
  have:=BN 4 (by decide) (by decide) [] kv iv cs h1 h3 (by have:=qK l;omega) (by simp) (by simp) (fun j=>T.keys (l.take j)) (fun j=>(l.getD j default).key) rfl
   (fun j hj=>by rw [hl] at hj;rw [uy hj,if_neg (by decide)];simp [List.getD_eq_getElem?_getD,hj]) (fun j _=>by have:=mW l j;omega) (fun j hj=>Gu l cs (q+1) h2 hs hw.2 (by omega) j hj)
  simp only [hl,List.take_length] at this
  exact this
 | .map l,c,q,h,hs,hw,hn=>by
  cases hs with
  | map hs1 hs2 =>
  simp only [T.tree] at h
  simp only [T.nd] at hn
  cases h with
  | @node _ _ _ _ _ kv iv cs h1 h2 h3 =>
  have hl : cs.length=l.length:=by rw [h2.len,jv];simp
  have hle:=tC l false fun p hp=>⟨hs1 p hp,hs2 p hp⟩
  have:=BN 5 (by decide) (by decide) (l.map (·.1)) kv iv cs h1 h3 (by have:=Aa l;omega) (by simp [hl]) (fun k hk=>by obtain ⟨p,hp,rfl⟩:=List.mem_map.1 hk;have:=hs1 p hp;omega) (fun j=>T.jw (l.take j)) (fun j=>(l.getD j default).2.key) rfl
   (fun j hj=>by rw [hl] at hj;rw [Bl hj,if_pos (show (5 : Int)=5 from rfl)];simp [List.getD_eq_getElem?_getD,hj]) (fun j _=>by have:=uU l j;omega) (fun j hj=>Hr l cs (q+1) h2 hs2 hw.2.2 (by omega) j hj)
  simp only [hl,List.take_length] at this
  exact this
 | .set l,c,q,h,hs,hw,hn=>by
  cases hs with
  | set hs =>
  simp only [T.tree] at h
  simp only [T.nd] at hn
  cases h with
  | @node _ _ _ _ _ kv iv cs h1 h2 h3 =>
  have hl : cs.length=l.length:=by rw [h2.len,fD];simp
  have hle:=nO l false hs
  have:=BN 6 (by decide) (by decide) [] kv iv cs h1 h3 (by have:=qK l;omega) (by simp) (by simp) (fun j=>T.keys (l.take j)) (fun j=>(l.getD j default).key) rfl
   (fun j hj=>by rw [hl] at hj;rw [uy hj,if_neg (by decide)];simp [List.getD_eq_getElem?_getD,hj]) (fun j _=>by have:=mW l j;omega) (fun j hj=>Gu l cs (q+1) h2 hs hw.2.2 (by omega) j hj)
  simp only [hl,List.take_length] at this
  exact this
theorem Gu : ∀ (l : List T) (cs : List (List VV)) (q : Nat),jq (T.trees l) cs→(∀ x ∈ l,x.yh 4000)→T.wfs q l→T.pY l≤20000→∀ (j : Nat) (h : j < cs.length),PV Tryz.prog G0 46 [.agg cs[j]] (.str (l.getD j default).key)
 | [],_,_,.nil,_,_,_,j,h=>absurd h (Nat.not_lt_zero _)
 | x::l,c::cs,q,.cons h1 h2,hs,hw,hn,0,h=>Fa x c q h1 (hs x (by simp)) hw.1 (by simp only [T.pY] at hn;omega)
 | x::l,c::cs,q,.cons h1 h2,hs,hw,hn,j+1,h=>Gu l cs q h2 (fun y hy=>hs y (by simp [hy])) hw.2 (by simp only [T.pY] at hn;omega) j (by simpa using h)
theorem Hr : ∀ (l : List (Bs × T)) (cs : List (List VV)) (q : Nat),jq (T.qR l) cs→(∀ p ∈ l,p.2.yh 4000)→T.CP q l→T.qX l≤20000→∀ (j : Nat) (h : j < cs.length),PV Tryz.prog G0 46 [.agg cs[j]] (.str (l.getD j default).2.key)
 | [],_,_,.nil,_,_,_,j,h=>absurd h (Nat.not_lt_zero _)
 | x::l,c::cs,q,.cons h1 h2,hs,hw,hn,0,h=>Fa x.2 c q h1 (hs x (by simp)) hw.1 (by simp only [T.qX] at hn;omega)
 | x::l,c::cs,q,.cons h1 h2,hs,hw,hn,j+1,h=>Hr l cs q h2 (fun y hy=>hs y (by simp [hy])) hw.2 (by simp only [T.qX] at hn;omega) j (by simpa using h)
end
end Go.V
namespace Go.V
open Go.Proofs
set_option maxRecDepth 100000
theorem Cj (kd : Int) (o e : UInt8) (ho : (kd=4∧o=91∧e=93)∨(kd=5∧o=123∧e=125)∨(kd=6∧o=60∧e=62)) (keys : List Bs) (kv iv : VV) (cs : List (List VV)) (hk : fH 1 kv (keys.map fun b=>[VV.str b])) (hi : fH 5 iv cs) (hn : cs.length≤100000) (hkn : kd=5→keys.length=cs.length) (hks : ∀ k ∈ keys,k.length≤1000000)
  (pk kj : Nat→Bs) (hp0 : pk 0=[]) (hps : ∀ j,j < cs.length→pk (j+1)=pk j++((if 0 < j then [44] else [])++((if kd=5 then jW (keys.getD j [])++[58] else [])++kj j))) (hpl : ∀ j,j≤cs.length→(pk j).length≤1000000000) (ih : ∀ j (h : j < cs.length),PV Tryz.prog G0 18 [.agg cs[j]] (.str (kj j))) :
  PV Tryz.prog G0 18 [.agg [.int .i64 kd,.int .i64 0,.str [],kv,iv]] (.str (o::(pk cs.length++[e]))):=by
 have hkp:=hk.pure
 have hip:=hi.pure
 have hkc:=hk.cell
 have hic:=hi.cell
 have hisl : ∀ {σ},cO Tryz.prog 26 iv σ=okV (.int .i64 cs.length) σ:=by intro σ;rw [hi.cO dY]
 have b0 : (kd == 0)=false:=by simp;omega
 have b1 : (kd == 1)=false:=by simp;omega
 have b2 : (kd == 2)=false:=by simp;omega
 have b3 : (kd == 3)=false:=by simp;omega
 refine pv e18 (by simp) (by simp only [VV.ak,VV.isPure,hkp,hip];rfl) rfl ?_
 simp only [go_sem,seval] at hkc
 simp only [go_sem,seval] at hic
 simp only [go_sem,seval,c18,hkc,hic,b0,b1,b2,b3,hisl]
 refine bY (M:=fun ρ τ=>ρ.get 1=.mptr 0 0∧ρ.get 3=.str (pk cs.length)∧τ[0]?=some (.own [.int .i64 kd,.int .i64 0,.str [],kv,iv])) ?_ ?_
 ·rintro ρ τ ⟨q1,q3,t0⟩
  have hl:=hpl cs.length (Nat.le_refl _)
  rcases ho with ⟨rfl,rfl,rfl⟩ | ⟨rfl,rfl,rfl⟩ | ⟨rfl,rfl,rfl⟩
  all_goals
   simp only [go_sem,seval,q1,q3,t0,hkc,hic]
   exact ⟨by omega,by omega,fin (by rfl) rfl⟩
 refine aG (fun m ρ τ=>∃ j : Nat,m=cs.length-j∧j≤cs.length∧ρ.get 1=.mptr 0 0∧ρ.get 3=.str (pk j)∧ρ.get 26=iv∧ρ.get 27=.int .i64 cs.length∧ρ.get 28=.int .i64 j∧τ[0]?=some (.own [.int .i64 kd,.int .i64 0,.str [],kv,iv])) (n:=cs.length) ?_ ⟨0,rfl,by omega,rfl,by rw [hp0];rfl,rfl,rfl,rfl,rfl⟩
 rintro m ρ τ ⟨j,rfl,hj,q1,q3,q26,q27,q28,t0⟩
 simp only [go_sem,seval,q26,q27,q28]
 refine aj (fun hc=>?_) (fun hc=>?_)
 rotate_left
 ·have hc' : j=cs.length:=by simp at hc;omega
  subst hc'
  simp only [go_sem,seval,q1,q3]
  exact t0
 have hc' : j < cs.length:=by simpa using hc
 obtain ⟨tg,hit,a3,a4⟩:=hi.xH hc'
 have x1:=hi.blk.len _ (List.getElem_mem hc')
 have x3 : cs[j].all VV.aF=true:=hi.blk.cell _ (List.getElem_mem hc')
 have x4 : cs[j].take 5=cs[j]:=List.take_of_length_le (by omega)
 have a1 : (0 : Int)≤(j : Int):=by omega
 have a2 : (j : Int) < (cs.length : Int):=by omega
 have a6 : IntKind.i64.wrap ((j : Int)+1)=((j+1 : Nat) : Int):=by rw [iw (by omega)];omega
 have t0' : ∀ υ,(τ++υ)[0]?=some (.own [.int .i64 kd,.int .i64 0,.str [],kv,iv]):=fun υ=>by rw [List.getElem?_append_left (List.getElem?_eq_some_iff.1 t0).1];exact t0
 have hs:=hps j hc'
 have hl1:=hpl (j+1) (by omega)
 rw [hs] at hl1
 have hih:=ih j hc'
 by_cases h5 : kd=5
 ·subst h5
  have hjk : j < keys.length:=by rw [hkn rfl];exact hc'
  obtain ⟨tgk,hkt,c3,c4⟩:=hk.Jf hjk
  have c2 : (j : Int) < (keys.length : Int):=by omega
  have hQ:=JO keys[j] (by have:=hks _ (List.getElem_mem hjk);omega)
  have e1 : keys.getD j []=keys[j]:=by simp [List.getD_eq_getElem?_getD,hjk]
  rw [if_pos rfl,e1] at hs hl1
  by_cases h0 : 0 < j
  ·have g0 : decide ((0 : Int) < (j : Int))=true:=decide_eq_true (by omega)
   rw [if_pos h0] at hs hl1
   simp only [List.length_append,List.length_cons,List.length_nil] at hl1
   simp only [go_sem,seval,q1,q3,q26,q27,q28,hit,hkt,a1,a2,a3,a4,c2,c3,c4,g0,x1,x3,x4,t0',Int.toNat_natCast,SS]
   refine ⟨by omega, ?_⟩
   refine ah (hQ) ?_<;>simp only [go_sem,seval,q1,q3,q26,q27,q28,x1,x3,x4,SS]
   refine ⟨by omega,by simp;omega, ?_⟩
   refine ah (hih) ?_<;>simp only [go_sem,seval,q1,q3,q26,q27,q28,a6]
   exact ⟨by simp;omega,cs.length-(j+1),by omega,j+1,rfl,by omega,by rw [hs];simp,hit,rfl,by rw [← hit,← hkt];exact t0' _⟩
  ·have g0 : decide ((0 : Int) < (j : Int))=false:=decide_eq_false (by omega)
   rw [if_neg h0] at hs hl1
   simp only [List.length_append,List.length_cons,List.length_nil] at hl1
   simp only [go_sem,seval,q1,q3,q26,q27,q28,hit,hkt,a1,a2,a3,a4,c2,c3,c4,g0,x1,x3,x4,t0',Int.toNat_natCast,SS]
   refine ah (hQ) ?_<;>simp only [go_sem,seval,q1,q3,q26,q27,q28,x1,x3,x4,SS]
   refine ⟨by omega,by simp;omega, ?_⟩
   refine ah (hih) ?_<;>simp only [go_sem,seval,q1,q3,q26,q27,q28,a6]
   exact ⟨by simp;omega,cs.length-(j+1),by omega,j+1,rfl,by omega,by rw [hs];simp,hit,rfl,by rw [← hit,← hkt];exact t0' _⟩
 ·have h5' : (kd == 5)=false:=by simpa using h5
  rw [if_neg h5] at hs hl1
  by_cases h0 : 0 < j
  ·have g0 : decide ((0 : Int) < (j : Int))=true:=decide_eq_true (by omega)
   rw [if_pos h0] at hs hl1
   simp only [List.length_append,List.length_cons,List.length_nil] at hl1
   simp only [go_sem,seval,q1,q3,q26,q27,q28,hit,a1,a2,a3,a4,g0,x1,x3,x4,t0',hkc,hic,h5',Int.toNat_natCast,SS]
   refine ⟨by omega, ?_⟩
   refine ah (hih) ?_<;>simp only [go_sem,seval,q1,q3,q26,q27,q28,a6]
   exact ⟨by simp;omega,cs.length-(j+1),by omega,j+1,rfl,by omega,by rw [hs];simp,hit,rfl,by rw [← hit];exact t0' _⟩
  ·have g0 : decide ((0 : Int) < (j : Int))=false:=decide_eq_false (by omega)
   rw [if_neg h0] at hs hl1
   simp only [List.length_append,List.length_cons,List.length_nil] at hl1
   simp only [go_sem,seval,q1,q3,q26,q27,q28,hit,a1,a2,a3,a4,g0,x1,x3,x4,t0',hkc,hic,h5',Int.toNat_natCast,SS]
   refine ah (hih) ?_<;>simp only [go_sem,seval,q1,q3,q26,q27,q28,a6]
   exact ⟨by omega,cs.length-(j+1),by omega,j+1,rfl,by omega,by rw [hs];simp,hit,rfl,by rw [← hit];exact t0' _⟩
mutual
theorem Kt : ∀ (v : T) (c : List VV) (q : Nat),rJ v.tree c→v.yh 4000→v.wf q→v.nd≤20000→PV Tryz.prog G0 18 [.agg c] (.str v.enc)
 | .sc k i t,c,q,h,hs,hw,hn=>by
  cases hs with
  | sc ht hi =>
  simp only [T.tree] at h
  cases h with
  | @node _ _ _ _ _ kv iv cs h1 h2 h3 =>
  have hkp:=h1.pure
  have hip:=h3.pure
  have hkc:=h1.cell
  have hic:=h3.cell
  refine pv e18 (by simp) (by simp only [VV.ak,VV.isPure,hkp,hip];rfl) rfl ?_
  simp only [go_sem,seval] at hkc
  simp only [go_sem,seval] at hic
  rcases hw.2 with ⟨rfl,rfl,rfl⟩ | ⟨rfl,hi,rfl⟩ | ⟨rfl,rfl,_⟩ | ⟨rfl,rfl⟩
  ·simp only [go_sem,seval,c18,hkc,hic]
   exact fin (by rfl) rfl
  ·rcases hi with rfl | rfl
   all_goals
    simp only [go_sem,seval,c18,hkc,hic]
    exact fin (by rfl) rfl
  ·simp only [go_sem,seval,c18,hkc,hic]
   refine ah (Oy i hi) ?_<;>simp only [go_sem,seval]
   exact fin (by rfl) rfl
  ·simp only [go_sem,seval,c18,hkc,hic]
   refine ah (JO t (by omega)) ?_<;>simp only [go_sem,seval]
   exact fin (by rfl) rfl
 | .vec l,c,q,h,hs,hw,hn=>by
  cases hs with
  | vec hs =>
  simp only [T.tree] at h
  simp only [T.nd] at hn
  cases h with
  | @node _ _ _ _ _ kv iv cs h1 h2 h3 =>
  have hl : cs.length=l.length:=by rw [h2.len,fD];simp
  have hle:=nO l false hs
  have:=Cj 4 91 93 (by decide) [] kv iv cs h1 h3 (by have:=qK l;omega) (by simp) (by simp) (fun j=>T.encs false (l.take j)) (fun j=>(l.getD j default).enc) rfl
   (fun j hj=>by rw [hl] at hj;rw [uq hj,if_neg (show ¬ (4 : Int)=5 by decide)];simp [List.getD_eq_getElem?_getD,hj]) (fun j _=>by have:=nD l j;omega) (fun j hj=>Gp l cs (q+1) h2 hs hw.2 (by omega) j hj)
  simp only [hl,List.take_length] at this
  exact this
 | .map l,c,q,h,hs,hw,hn=>by
  cases hs with
  | map hs1 hs2 =>
  simp only [T.tree] at h
  simp only [T.nd] at hn
  cases h with
  | @node _ _ _ _ _ kv iv cs h1 h2 h3 =>
  have hl : cs.length=l.length:=by rw [h2.len,jv];simp
  have hle:=tC l false fun p hp=>⟨hs1 p hp,hs2 p hp⟩
  have:=Cj 5 123 125 (by decide) (l.map (·.1)) kv iv cs h1 h3 (by have:=Aa l;omega) (by simp [hl]) (fun k hk=>by obtain ⟨p,hp,rfl⟩:=List.mem_map.1 hk;have:=hs1 p hp;omega) (fun j=>T.iQ false (l.take j)) (fun j=>(l.getD j default).2.enc) rfl
   (fun j hj=>by rw [hl] at hj;rw [Aq hj,if_pos (show (5 : Int)=5 from rfl)];simp [List.getD_eq_getElem?_getD,hj]) (fun j _=>by have:=uT l j;omega) (fun j hj=>I5 l cs (q+1) h2 hs2 hw.2.2 (by omega) j hj)
  simp only [hl,List.take_length] at this
  exact this
 | .set l,c,q,h,hs,hw,hn=>by
  cases hs with
  | set hs =>
  simp only [T.tree] at h
  simp only [T.nd] at hn
  cases h with
  | @node _ _ _ _ _ kv iv cs h1 h2 h3 =>
  have hl : cs.length=l.length:=by rw [h2.len,fD];simp
  have hle:=nO l false hs
  have:=Cj 6 60 62 (by decide) [] kv iv cs h1 h3 (by have:=qK l;omega) (by simp) (by simp) (fun j=>T.encs false (l.take j)) (fun j=>(l.getD j default).enc) rfl
   (fun j hj=>by rw [hl] at hj;rw [uq hj,if_neg (show ¬ (6 : Int)=5 by decide)];simp [List.getD_eq_getElem?_getD,hj]) (fun j _=>by have:=nD l j;omega) (fun j hj=>Gp l cs (q+1) h2 hs hw.2.2 (by omega) j hj)
  simp only [hl,List.take_length] at this
  exact this
theorem Gp : ∀ (l : List T) (cs : List (List VV)) (q : Nat),jq (T.trees l) cs→(∀ x ∈ l,x.yh 4000)→T.wfs q l→T.pY l≤20000→∀ (j : Nat) (h : j < cs.length),PV Tryz.prog G0 18 [.agg cs[j]] (.str (l.getD j default).enc)
 | [],_,_,.nil,_,_,_,j,h=>absurd h (Nat.not_lt_zero _)
 | x::l,c::cs,q,.cons h1 h2,hs,hw,hn,0,h=>Kt x c q h1 (hs x (by simp)) hw.1 (by simp only [T.pY] at hn;omega)
 | x::l,c::cs,q,.cons h1 h2,hs,hw,hn,j+1,h=>Gp l cs q h2 (fun y hy=>hs y (by simp [hy])) hw.2 (by simp only [T.pY] at hn;omega) j (by simpa using h)
theorem I5 : ∀ (l : List (Bs × T)) (cs : List (List VV)) (q : Nat),jq (T.qR l) cs→(∀ p ∈ l,p.2.yh 4000)→T.CP q l→T.qX l≤20000→∀ (j : Nat) (h : j < cs.length),PV Tryz.prog G0 18 [.agg cs[j]] (.str (l.getD j default).2.enc)
 | [],_,_,.nil,_,_,_,j,h=>absurd h (Nat.not_lt_zero _)
 | x::l,c::cs,q,.cons h1 h2,hs,hw,hn,0,h=>Kt x.2 c q h1 (hs x (by simp)) hw.1 (by simp only [T.qX] at hn;omega)
 | x::l,c::cs,q,.cons h1 h2,hs,hw,hn,j+1,h=>I5 l cs q h2 (fun y hy=>hs y (by simp [hy])) hw.2 (by simp only [T.qX] at hn;omega) j (by simpa using h)
end
end Go.V
