/- Texts F91 F92. -/
import Derived.Test.YtgmhpemjlbgfcaaGreatDoorG31
import Derived.Test.YtgmhpemjlbgfcaaGreatDoorG36
set_option linter.unusedVariables false
set_option linter.unusedSimpArgs false
namespace Go.V
open Go.Proofs
set_option maxRecDepth 100000
def EG (σ : Store) (v : VV) : Prop:=∀ id o n z,v=.bZ id o n z→σ.length≤id
inductive jZ (k : Nat) (σ : Store) : VV→List (List VV)→Prop
 | nil : jZ k σ .nils []
 | emp : jZ k σ (.sl 0 [] true) []
 | own {id : Nat} {xs : List (List VV)} : dh k xs→σ[id]?=some (.own xs.flatten)→jZ k σ (.bZ id 0 xs.length k) xs
theorem jZ.blk {k : Nat} {σ : Store} {v : VV} {xs : List (List VV)} (h : jZ k σ v xs) : dh k xs:=by
 cases h with
 | own h _=>exact h
 | _=>exact .nil
theorem jZ.keep {k : Nat} {σ σ' : Store} {v : VV} {xs : List (List VV)} (h : jZ k σ v xs) (hs : ∀ id o n z,v=.bZ id o n z→σ'[id]?=σ[id]?) : jZ k σ' v xs:=by
 cases h with
 | nil=>exact .nil
 | emp=>exact .emp
 | own hB h=>exact .own hB (by rw [hs _ _ _ _ rfl];exact h)
theorem jZ.dom {k : Nat} {σ : Store} {v : VV} {xs : List (List VV)} (h : jZ k σ v xs) {id o n z : Nat} (e : v=.bZ id o n z) : id < σ.length:=by
 cases h with
 | own hB h=>cases e;exact (List.getElem?_eq_some_iff.1 h).1
 | _=>cases e
theorem jZ.kept {k : Nat} {σ σ' : Store} {v w : VV} {xs : List (List VV)} (h : jZ k σ v xs) (hK : Kept σ w σ') (hne : ∀ id o n z o' n' z',v=.bZ id o n z→w≠.bZ id o' n' z') : jZ k σ' v xs :=
 h.keep fun id o n z e=>hK.2 id (h.dom e) fun o' n' z'=>hne id o n z o' n' z' e
theorem jZ.fz {k : Nat} {σ : Store} {v : VV} {xs : List (List VV)} (h : jZ k σ v xs) (hne : xs≠[]) (m : Nat) : fz (m+1) (σ.map Obj.fr) v=some (.sl xs.length xs.flatten false):=by
 cases h with
 | own hB h=>exact qN (by rw [List.getElem?_map,h];rfl) hB rfl
 | _=>exact absurd rfl hne
theorem jZ.snoc {k : Nat} {σ : Store} {v : VV} {xs : List (List VV)} (h : jZ k σ v xs) (τ : Store) : jZ k (σ++τ) v xs:=h.keep fun id o n z e=>by
 subst e
 cases h with
 | own hB h=>exact List.getElem?_append_left (List.getElem?_eq_some_iff.1 h).1
theorem jZ.app {k : Nat} {σ : Store} {v x : VV} {xs ys : List (List VV)} (h : jZ k σ v xs) {t tx e : TypeId} {by_ : Nat} {z : List VV} (ht : iF Tryz.prog t=some e) (hk : eH Tryz.prog e=some k) (hy : Yr Tryz.prog e=some by_) (hz : bG Tryz.prog e=some z) (hzk : z.length=k) (hk0 : 0 < k) (hb : by_≤1000) (hC : dh k ys) (hl : xs.length+ys.length≤1000000)
  (hx : aJ Tryz.prog σ k tx x=some (ys.length,ys.flatten)) : ∃ p v' σ',p∧bF Tryz.prog t tx v x σ=some ⟨p,v',σ'⟩∧jZ k σ' v' (xs++ys)∧Kept σ v σ'∧EG σ v':=by
 cases h with
 | nil =>
  by_cases hne : ys=[]
  ·subst hne
   exact ⟨True,.nils,σ,trivial,by simp only [bF,ht,hk,hy,hz,hx,List.length_nil,if_true,okV],.nil,⟨Nat.le_refl _,fun _ _ _=>rfl⟩,fun _ _ _ _ e=>by cases e⟩
  ·obtain ⟨p,hp,he⟩:=EF ht hk hy hz hzk hk0 hb hC (by omega) hne hx
   exact ⟨p,_,_,hp,he,.own hC (by simp),⟨by simp,fun j hj _=>List.getElem?_append_left hj⟩,fun id o n z e=>by cases e;exact Nat.le_refl _⟩
 | emp =>
  by_cases hne : ys=[]
  ·subst hne
   exact ⟨True,.sl 0 [] true,σ,trivial,by simp only [bF,ht,hk,hy,hz,hx,List.length_nil,if_true,okV],.emp,⟨Nat.le_refl _,fun _ _ _=>rfl⟩,fun _ _ _ _ e=>by cases e⟩
  ·have hne' : ys.length≠0:=fun h=>hne (List.eq_nil_of_length_eq_zero h)
   have:=Nat.mul_le_mul hl hb
   refine ⟨_,_,_, ?_,by simp only [bF,ht,hk,hy,hz,hx,if_neg hne',if_true,List.nil_append,Nat.zero_add];rfl,.own hC (by simp),⟨by simp,fun j hj _=>List.getElem?_append_left hj⟩,fun id o n z e=>by cases e;exact Nat.le_refl _⟩
   refine ⟨⟨by simp at hl;omega,by simp at this;omega,hC.flat,hk0,hC.xg,hzk⟩,by simp,rfl⟩
 | own hB hid =>
  obtain ⟨p,hp,he⟩:=Jz ht hk hy hz hzk hk0 hb hid hB hC hl rfl hx
  refine ⟨p,_,_,hp,he,.own (hB.append hC) (by rw [List.getElem?_append_right (by simp)];simp),⟨by simp,fun j hj hne=>?_⟩,fun id o n z e=>by cases e;exact Nat.le_refl _⟩
  rw [List.getElem?_append_left (by simpa using hj),List.getElem?_set_ne (fun e=>hne _ _ _ (by rw [e]))]
theorem jZ.step {k : Nat} {σ : Store} {v x : VV} {xs ys : List (List VV)} (h : jZ k σ v xs) {t tx e : TypeId} {by_ : Nat} {z : List VV} (ht : iF Tryz.prog t=some e) (hk : eH Tryz.prog e=some k) (hy : Yr Tryz.prog e=some by_) (hz : bG Tryz.prog e=some z) (hzk : z.length=k) (hk0 : 0 < k) (hb : by_≤1000) (hC : dh k ys) (hl : xs.length+ys.length≤1000000)
  (hx : aJ Tryz.prog σ k tx x=some (ys.length,ys.flatten)) {d : Nat} {r : List VO} {Q : Out→Env→Store→Prop} {ρ : Env} (hn : ∀ v' σ',jZ k σ' v' (xs++ys)→Kept σ v σ'→EG σ v'→bM Tryz.prog G0 r Q ((d,v')::ρ) σ') : eF Tryz.prog G0 (bF Tryz.prog t tx v x σ) (some d) r Q ρ:=by
 obtain ⟨p,v',σ',hp,he,h1,h2,h3⟩:=h.app ht hk hy hz hzk hk0 hb hC hl hx
 rw [he]
 exact ⟨hp,hn v' σ' h1 h2 h3⟩
theorem jZ.Ey {k : Nat} {σ : Store} {v x : VV} {xs ys : List (List VV)} (h : jZ k σ v xs) {t tx e : TypeId} {by_ : Nat} {z : List VV} (ht : iF Tryz.prog t=some e) (hk : eH Tryz.prog e=some k) (hy : Yr Tryz.prog e=some by_) (hz : bG Tryz.prog e=some z) (hzk : z.length=k) (hk0 : 0 < k) (hb : by_≤1000) (hC : dh k ys) (hl : xs.length+ys.length≤1000000)
  (hx : aJ Tryz.prog σ k tx x=some (ys.length,ys.flatten)) {d : Nat} {chk : List Nat} {pd : sV} {r : List DO} {Q : Out→Env→Store→Prop} {ρ : Env} (hn : ∀ v' σ',jZ k σ' v' (xs++ys)→Kept σ v σ'→EG σ v'→iM Tryz.prog G0 chk pd σ'∧aV Tryz.prog G0 r pd Q (dB ρ (some d) v') σ') : oJ Tryz.prog G0 (bF Tryz.prog t tx v x σ) (some d) chk r pd Q ρ:=by
 obtain ⟨p,v',σ',hp,he,h1,h2,h3⟩:=h.app ht hk hy hz hzk hk0 hb hC hl hx
 rw [he]
 exact ⟨hp,hn v' σ' h1 h2 h3⟩
theorem TY {n : Nat} {τ : Store} {ys zs : List VV} (h : ys.mapM (fz n τ)=some zs) : fz (n+1) τ (.tup ys)=some (.tup zs):=by
 rw [fz]
 split
 ·rename_i hp
  simp only [VV.isPure] at hp
  rw [ug hp] at h
  cases h;rfl
 ·simp only [h,Option.map_some]
theorem LJ {n : Nat} {τ : Store} {ys zs : List VV} (h : ys.mapM (fz n τ)=some zs) : fz (n+1) τ (.agg ys)=some (.agg zs):=by
 rw [fz]
 split
 ·rename_i hp
  simp only [VV.isPure] at hp
  rw [ug hp] at h
  cases h;rfl
 ·simp only [h,Option.map_some]
theorem dG.SA {σ : Store} {k : Nat} {t e : TypeId} {v : VV} {xs : List (List VV)} (h : dG k v xs) (ht : iF Tryz.prog t=some e) (hk : eH Tryz.prog e=some k) {a : Nat} (ha : a≤xs.length) :
  ∃ (p : Prop) (v' : VV),p∧dG k v' (xs.take a)∧∀ {σ},dX Tryz.prog t v none (some (a : Int)) none σ=some ⟨p,v',σ⟩:=by
 cases h with
 | nil =>
  refine ⟨_,.nils, ?_,by simpa using dG.nil,by intro σ;simp only [dX,ht,hk];rfl⟩
  have : a=0:=by simpa using ha
  subst this
  simp [bounds]
 | sl _ tg hB =>
  refine ⟨_,_, ?_, ?_,by intro σ;simp only [dX,ht,hk];rfl⟩
  ·refine ⟨⟨by simp [bounds],by simp [bounds];omega⟩,.inl trivial,hB.flat⟩
  ·simp only [bounds,Option.getD_none,Option.getD_some,Int.toNat_zero,Int.toNat_natCast,Nat.zero_mul,List.drop_zero,Nat.sub_zero]
   rw [hB.jB]
   exact dG.of (hB.take a) (by simp;omega) rfl
theorem dG.cutFrom {σ : Store} {k : Nat} {t e : TypeId} {v : VV} {xs : List (List VV)} (h : dG k v xs) (ht : iF Tryz.prog t=some e) (hk : eH Tryz.prog e=some k) {a : Nat} (ha : a≤xs.length) :
  ∃ (p : Prop) (v' : VV),p∧dG k v' (xs.drop a)∧∀ {σ},dX Tryz.prog t v (some (a : Int)) none none σ=some ⟨p,v',σ⟩:=by
 cases h with
 | nil =>
  refine ⟨_,.nils, ?_,by simpa using dG.nil,by intro σ;simp only [dX,ht,hk];rfl⟩
  have : a=0:=by simpa using ha
  subst this
  simp [bounds]
 | sl _ tg hB =>
  refine ⟨_,_, ?_, ?_,by intro σ;simp only [dX,ht,hk];rfl⟩
  ·refine ⟨⟨by simp [bounds];omega,by simp [bounds]⟩,.inl trivial,hB.flat⟩
  ·simp only [bounds,Option.getD_none,Option.getD_some,Int.toNat_natCast]
   rw [hB.jD,(hB.drop a).jB,List.take_of_length_le (by simp)]
   exact dG.of (hB.drop a) (by simp) rfl
theorem EP {α : Type} (k : Bs) : ∀ (l : List (Bs × α)) (n : Nat),n≤rF l k→rF l k=n+rF (l.drop n) k
 | l,0,_=>by simp
 | [],n+1,h=>by simp [rF] at h
 | p::l,n+1,h=>by
  unfold rF at h ⊢
  split
  ·rename_i hb
   rw [if_pos hb] at h
   rw [EP k l n (by omega),List.drop_succ_cons]
   generalize l.drop n=m
   cases m<;>simp [rF]<;>omega
  ·rename_i hb
   rw [if_neg hb] at h;omega
theorem wG {α : Type} (l : List (Bs × α)) : dh 1 (l.map fun p=>[VV.str p.1]) :=
 ⟨fun x hx=>by obtain ⟨p,_,rfl⟩:=List.mem_map.1 hx;rfl,fun x hx=>by obtain ⟨p,_,rfl⟩:=List.mem_map.1 hx;rfl,fun x hx=>by obtain ⟨p,_,rfl⟩:=List.mem_map.1 hx;rfl⟩
def vS {α : Type} (l : List (Bs × α)) (k : Bs) (c : α) : List (Bs × α):=l.take (rF l k)++(k,c)::l.drop (rF l k)
theorem VT (l : List (Bs × List VV)) (kv iv : VV) (hk : dG 1 kv (l.map fun p=>[VV.str p.1])) (hi : dG 5 iv (l.map (·.2))) (k : Bs) (c : List VV) (hc : dh 5 [c]) (hl : l.length≤100000) (hks : ∀ p ∈ l,p.1.length≤1000000000) :
  PV Tryz.prog G0 47 [kv,iv,.str k,.agg c] (.tup [.sl (vS l k c).length ((vS l k c).map fun p=>[VV.str p.1]).flatten false,.sl (vS l k c).length ((vS l k c).map (·.2)).flatten false]):=by
 have hkp:=hk.pure
 have hip:=hi.pure
 have hBk : dh 1 ((vS l k c).map fun p=>[VV.str p.1]):=wG _
 have hBi : dh 5 ((vS l k c).map (·.2)):=by
  unfold vS
  rw [List.map_append,List.map_cons,List.map_take,List.map_drop]
  exact (hi.blk.take _).append ((dh.append (xs:=[c]) hc (hi.blk.drop _)))
 have hx1:=hc.len c (by simp)
 have hx2:=hc.pure c (by simp)
 have hx3 : c.all VV.aC=true:=hc.cell c (by simp)
 have hx4 : c.take 5=c:=List.take_of_length_le (by omega)
 have hkl : ∀ {σ},aT Tryz.prog 26 kv σ=okV (.int .i64 l.length) σ:=by intro σ;rw [hk.aT dM];simp
 refine pv e47 (by simp) (by simp only [VV.ak,VV.isPure,hkp,hip,hx2];rfl) (by simp only [VV.isPure,VV.ak,hBk.pW,hBi.pW,Bool.and_self]) ?_
 simp only [go_sem,seval,c47,hx1,hx3,hx4]
 refine bf (M:=fun ρ τ=>ρ.get 0=kv∧ρ.get 1=iv∧ρ.get 2=.str k∧ρ.get 7=.mptr 0 0∧ρ.get 10=.int .i64 (rF l k : Nat)∧τ=[.own c]) ?_ ?_
 rotate_left
 ·refine aF (fun m ρ τ=>∃ n : Nat,m=l.length-n∧n≤rF l k∧ρ.get 0=kv∧ρ.get 1=iv∧ρ.get 2=.str k∧ρ.get 7=.mptr 0 0∧ρ.get 10=.int .i64 n∧τ=[.own c]) (n:=l.length) ?_ ⟨0,rfl,by omega,rfl,rfl,rfl,rfl,rfl,rfl⟩
  rintro m ρ _ ⟨n,rfl,hn,q0,q1,q2,q7,q10,rfl⟩
  have hle:=oW k l
  have hd:=EP k l n hn
  by_cases h1 : n < l.length
  rotate_left
  ·have b1 : decide ((n : Int) < (l.length : Int))=false:=decide_eq_false (by omega)
   have he : rF l k=n:=by omega
   simp only [go_sem,seval,q0,q1,q2,q7,q10,hkl,b1,he]
  have b1 : decide ((n : Int) < (l.length : Int))=true:=decide_eq_true (by omega)
  obtain ⟨tg,hkt⟩:=hk.fP (by intro e;have:=congrArg List.length e;simp at this;rw [this] at h1;simp at h1)
  rw [List.length_map] at hkt
  have a1 : (0 : Int)≤(n : Int):=by omega
  have a2 : (n : Int) < (l.length : Int):=by omega
  have a3 : n*1 < (l.map fun p=>[VV.str p.1]).flatten.length:=by rw [hk.blk.flat,List.length_map];omega
  have a4 : (l.map fun p=>[VV.str p.1]).flatten.getD (n*1) .undef=VV.str l[n].1:=by
   have h:=hk.blk.og (i:=n) (by simpa using h1)
   have h2:=congrArg (·[0]?) h
   simp only [List.getElem?_take_of_lt (Nat.zero_lt_one),List.getElem?_drop,List.getElem_map,List.getElem?_cons_zero,Nat.add_zero] at h2
   rw [List.getD_eq_getElem?_getD,h2];rfl
  have a6 : IntKind.i64.wrap ((n : Int)+1)=((n+1 : Nat) : Int):=by rw [iw (by omega)];omega
  have hO:=MZ l[n].1 k (hks _ (List.getElem_mem h1))
  have hlt:=Jr l[n].1 k
  have hd2 : rF (l.drop n) k=if bl l[n].1 k=true then rF (l.drop (n+1)) k+1 else 0:=by rw [List.drop_eq_getElem_cons h1];rfl
  cases hb : bl l[n].1 k with
  | true =>
   rw [hb] at hlt hd2
   rw [if_pos rfl] at hd2
   simp only [go_sem,seval,q0,q1,q2,q7,q10,hkl,b1,hkt,a1,a2,a3,a4,Int.toNat_natCast]
   refine ah (hO) ?_<;>simp only [go_sem,seval,q0,q1,q2,q7,q10,hlt,a6]
   exact ⟨l.length-(n+1),by omega,n+1,rfl,by omega,hkt,rfl⟩
  | false =>
   rw [hb] at hlt hd2
   rw [if_neg (by decide)] at hd2
   have he : rF l k=n:=by omega
   simp only [go_sem,seval,q0,q1,q2,q7,q10,hkl,b1,hkt,a1,a2,a3,a4,Int.toNat_natCast]
   refine ah (hO) ?_<;>simp only [go_sem,seval,q0,q1,q2,q7,q10,hlt,he]
   exact hkt
 rintro ρ _ ⟨q0,q1,q2,q7,q10,rfl⟩
 have hle:=oW k l
 obtain ⟨pa,ka,hpa,hka,hea⟩:=hk.SA (σ:=[]) dM oD (a:=rF l k) (by simpa using hle)
 obtain ⟨pb,kb,hpb,hkb,heb⟩:=hk.cutFrom (σ:=[]) dM oD (a:=rF l k) (by simpa using hle)
 obtain ⟨pc,ic,hpc,hic,hec⟩:=hi.SA (σ:=[]) bK lK (a:=rF l k) (by simpa using hle)
 obtain ⟨pd,id,hpd,hid,hed⟩:=hi.cutFrom (σ:=[]) bK lK (a:=rF l k) (by simpa using hle)
 have hlk : ((l.map fun p=>[VV.str p.1]).take (rF l k)).length≤100000:=by simp;omega
 have hBs : dh 1 [[VV.str k]]:=wG [(k,())]
 simp only [go_sem,seval,q0,q1,q2,q7,q10,hea,hpa]
 refine jZ.emp.step (ys:=(l.map fun p=>[VV.str p.1]).take (rF l k)) dM oD uQ mQ rfl (by decide) (by decide) hka.blk (by simp;omega) (hka.src dM) fun v1 σ1 g1 K1 N1=>?_
 have c1 : σ1[0]?=some (.own c):=by rw [K1.2 0 (by simp) (by simp)];rfl
 simp only [go_sem,seval,q0,q1,q2,q7,q10]
 refine g1.step (ys:=[[VV.str k]]) dM oD uQ mQ rfl (by decide) (by decide) hBs (by simp;omega) ((dG.sl [[VV.str k]] true hBs).src dM) fun v2 σ2 g2 K2 N2=>?_
 have c2 : σ2[0]?=some (.own c):=by
  have : 0 < σ1.length:=(List.getElem?_eq_some_iff.1 c1).1
  rw [K2.2 0 this (fun o n z e=>by have:=N1 0 o n z e;simp at this)];exact c1
 simp only [go_sem,seval,q0,q1,q2,q7,q10,c2,hec,hpc,hx1,hx3,hx4]
 refine jZ.emp.Ey (ys:=(l.map (·.2)).take (rF l k)) bK lK oZ lD rfl (by decide) (by decide) hic.blk (by simp;omega) (hic.src bK) fun v3 σ3 g3 K3 N3=>?_
 have l2 : 0 < σ2.length:=(List.getElem?_eq_some_iff.1 c2).1
 have c3 : σ3[0]?=some (.own c):=by rw [K3.2 0 l2 (by simp)];exact c2
 have g23:=g2.kept K3 (by intro id o n z o' n' z' _ h;cases h)
 simp only [go_sem,seval,q0,q1,q2,q7,q10,c3,hx1,hx3,hx4]
 refine g3.Ey (ys:=[c]) bK lK oZ lD rfl (by decide) (by decide) hc (by simp;omega) (by have:=(dG.sl [c] true hc).src (P:=Tryz.prog) (σ:=σ3) bK;simpa using this) fun v4 σ4 g4 K4 N4=>?_
 have g24:=g23.kept K4 (by intro id o n z o' n' z' h h';have h1:=g2.dom h;have h2:=N3 _ _ _ _ h';omega)
 simp only [go_sem,seval,q0,q1,q2,q7,q10,heb,hpb,hed,hpd]
 refine g24.Ey (ys:=(l.map fun p=>[VV.str p.1]).drop (rF l k)) dM oD uQ mQ rfl (by decide) (by decide) hkb.blk (by simp;omega) (hkb.src dM) fun v5 σ5 g5 K5 N5=>?_
 have g45:=g4.kept K5 (by intro id o n z o' n' z' h h';have h1:=g2.dom h';have h2:=N4 _ _ _ _ h;have h3:=K3.1;omega)
 simp only [go_sem,seval,q0,q1,q2,q7,q10,hed,hpd]
 refine g45.Ey (ys:=(l.map (·.2)).drop (rF l k)) bK lK oZ lD rfl (by decide) (by decide) hid.blk (by simp;omega) (hid.src bK) fun v6 σ6 g6 K6 N6=>?_
 have g56:=g5.kept K6 (by intro id o n z o' n' z' h h';have h1:=g4.dom h';have h2:=N5 _ _ _ _ h;omega)
 simp only [go_sem,seval]
 have e1 : (l.map fun p=>[VV.str p.1]).take (rF l k)++[[VV.str k]]++(l.map fun p=>[VV.str p.1]).drop (rF l k)=(vS l k c).map fun p=>[VV.str p.1]:=by
  unfold vS
  rw [List.map_append,List.map_cons,List.map_take,List.map_drop];simp
 have e2 : (l.map (·.2)).take (rF l k)++[c]++(l.map (·.2)).drop (rF l k)=(vS l k c).map (·.2):=by
  unfold vS
  rw [List.map_append,List.map_cons,List.map_take,List.map_drop];simp
 have f1:=g56.fz (by simp) 0
 have f2:=g6.fz (by simp) 0
 rw [List.nil_append,e1,List.length_map] at f1
 rw [List.nil_append,e2,List.length_map] at f2
 refine ⟨_,2,rfl,TY ?_⟩
 simp only [List.mapM_cons,List.mapM_nil,f1,f2]
 rfl
end Go.V
namespace Go.V
open Go.Proofs
set_option maxRecDepth 100000
theorem dG.uP {kv : VV} {keys : List Bs} (hk : dG 1 kv (keys.map fun b=>[VV.str b])) {j : Nat} (hj : j < keys.length) :
  ∃ tg,kv=.sl keys.length (keys.map fun b=>[VV.str b]).flatten tg∧j*1 < (keys.map fun b=>[VV.str b]).flatten.length∧(keys.map fun b=>[VV.str b]).flatten.getD (j*1) .undef=VV.str keys[j]:=by
 obtain ⟨tg,hkt⟩:=hk.fP (by intro e;have:=congrArg List.length e;simp at this;rw [this] at hj;simp at hj)
 rw [List.length_map] at hkt
 refine ⟨tg,hkt,by rw [hk.blk.flat,List.length_map];omega, ?_⟩
 have h:=hk.blk.og (i:=j) (by simpa using hj)
 have h2:=congrArg (·[0]?) h
 simp only [List.getElem?_take_of_lt (Nat.zero_lt_one),List.getElem?_drop,List.getElem_map,List.getElem?_cons_zero,Nat.add_zero] at h2
 rw [List.getD_eq_getElem?_getD,h2];rfl
theorem dG.jr {k : Nat} {iv : VV} {cs : List (List VV)} (hi : dG k iv cs) {j : Nat} (hj : j < cs.length) :
  ∃ tg,iv=.sl cs.length cs.flatten tg∧j*k+k≤cs.flatten.length∧(cs.flatten.drop (j*k)).take k=cs[j]:=by
 obtain ⟨tg,hit⟩:=hi.fP (by intro e;rw [e] at hj;simp at hj)
 refine ⟨tg,hit, ?_,hi.blk.og hj⟩
 rw [hi.blk.flat,← Nat.succ_mul]
 exact Nat.mul_le_mul_right _ hj
theorem EW (k i : Int) (t : Bs) (kv iv : VV) (hp : kv.isPure=true) (hp' : iv.isPure=true) (hc : kv.aC=true) (hc' : iv.aC=true) : PV Tryz.prog G0 94 [.agg [.int .i64 k,.int .i64 i,.str t,kv,iv]] (.agg [.int .i64 k,.int .i64 i,.str t]):=by
 refine pv e94 (by simp) (by simp only [VV.ak,VV.isPure,hp,hp'];rfl) rfl ?_
 simp only [go_sem,seval] at hc
 simp only [go_sem,seval] at hc'
 simp only [go_sem,seval,c94,hc,hc']
 exact fin (by rfl) rfl
theorem YE (kd : Int) (h4 : 4≤kd) (h6 : kd≤6) (keys : List Bs) (kv iv : VV) (cs : List (List VV)) (hk : dG 1 kv (keys.map fun b=>[VV.str b])) (hi : dG 5 iv cs) (hn : cs.length≤100000) (hkn : kd=5→keys.length=cs.length) (hks : ∀ k ∈ keys,k.length≤1000000)
  (pk kj : Nat→Bs) (hp0 : pk 0=[]) (hps : ∀ j,j < cs.length→pk (j+1)=pk j++((if kd=5 then lq 3 0 (keys.getD j []) else [])++kj j)) (hpl : ∀ j,j≤cs.length→(pk j).length≤1000000000) (ih : ∀ j (h : j < cs.length),PV Tryz.prog G0 48 [.agg cs[j]] (.str (kj j))) :
  PV Tryz.prog G0 48 [.agg [.int .i64 kd,.int .i64 0,.str [],kv,iv]] (.str (UInt8.ofNat (kd+1).toNat::(pk cs.length++[0]))):=by
 have hkp:=hk.pure
 have hip:=hi.pure
 have hkc:=hk.cell
 have hic:=hi.cell
 have hisl : ∀ {σ},aT Tryz.prog 27 iv σ=okV (.int .i64 cs.length) σ:=by intro σ;rw [hi.aT bK]
 have w1 : IntKind.i64.wrap (kd+1)=kd+1:=iw (by omega)
 have w2 : IntKind.u8.wrap (kd+1)=kd+1:=by rw [Vr];omega
 have b1 : decide (kd≤3)=false:=decide_eq_false (by omega)
 refine pv e48 (by simp) (by simp only [VV.ak,VV.isPure,hkp,hip];rfl) rfl ?_
 simp only [go_sem,seval] at hkc
 simp only [go_sem,seval] at hic
 have hby : bytesOf [VV.int .u8 (kd+1)]=some [UInt8.ofNat (kd+1).toNat]:=rfl
 generalize UInt8.ofNat (kd+1).toNat=o at *
 simp only [go_sem,seval,c48,hkc,hic,b1,w1,w2,hisl,hby]
 refine bf (M:=fun ρ τ=>ρ.get 3=.str (o::pk cs.length)) ?_ ?_
 ·rintro ρ τ q3
  have hl:=hpl cs.length (Nat.le_refl _)
  simp only [go_sem,seval,q3]
  exact ⟨by omega,fin (by rfl) rfl⟩
 refine aF (fun m ρ τ=>∃ j : Nat,m=cs.length-j∧j≤cs.length∧ρ.get 1=.mptr 0 0∧ρ.get 3=.str (o::pk j)∧ρ.get 19=iv∧ρ.get 20=.int .i64 cs.length∧ρ.get 21=.int .i64 j∧τ[0]?=some (.own [.int .i64 kd,.int .i64 0,.str [],kv,iv])) (n:=cs.length) ?_ ⟨0,rfl,by omega,rfl,by rw [hp0];rfl,rfl,rfl,rfl,rfl⟩
 rintro m ρ τ ⟨j,rfl,hj,q1,q3,q19,q20,q21,t0⟩
 simp only [go_sem,seval,q19,q20,q21]
 refine aG (fun hc=>?_) (fun hc=>?_)
 rotate_left
 ·have hc' : j=cs.length:=by simp at hc;omega
  subst hc'
  simp only [go_sem,seval,q3]
 have hc' : j < cs.length:=by simpa using hc
 obtain ⟨tg,hit,a3,a4⟩:=hi.jr hc'
 have x1:=hi.blk.len _ (List.getElem_mem hc')
 have x3 : cs[j].all VV.aC=true:=hi.blk.cell _ (List.getElem_mem hc')
 have x4 : cs[j].take 5=cs[j]:=List.take_of_length_le (by omega)
 have a1 : (0 : Int)≤(j : Int):=by omega
 have a2 : (j : Int) < (cs.length : Int):=by omega
 have a6 : IntKind.i64.wrap ((j : Int)+1)=((j+1 : Nat) : Int):=by rw [iw (by omega)];omega
 have t0' : ∀ υ,(τ++υ)[0]?=some (.own [.int .i64 kd,.int .i64 0,.str [],kv,iv]):=fun υ=>by rw [List.getElem?_append_left (List.getElem?_eq_some_iff.1 t0).1];exact t0
 have hs:=hps j hc'
 have hl1:=hpl (j+1) (by omega)
 rw [hs] at hl1
 simp only [List.length_append] at hl1
 have hih:=ih j hc'
 by_cases h5 : kd=5
 ·subst h5
  have hjk : j < keys.length:=by rw [hkn rfl];exact hc'
  obtain ⟨tgk,hkt,c3,c4⟩:=hk.uP hjk
  have c2 : (j : Int) < (keys.length : Int):=by omega
  have hsK:=OU 3 0 keys[j] (by have:=hks _ (List.getElem_mem hjk);omega)
  have e : keys.getD j []=keys[j]:=by simp [List.getD_eq_getElem?_getD,hjk]
  rw [if_pos rfl,e] at hs hl1
  simp only [go_sem,seval,q1,q3,q19,q20,q21,hit,hkt,a1,a2,a3,a4,c2,c3,c4,x1,x3,x4,t0',Int.toNat_natCast,SS]
  refine ah (hsK) ?_<;>simp only [go_sem,seval,q1,q3,q19,q20,q21,x1,x3,x4,SS]
  refine ⟨by omega, ?_⟩
  refine ah (hih) ?_<;>simp only [go_sem,seval,q1,q3,q19,q20,q21,a6]
  exact ⟨by simp;omega,cs.length-(j+1),by omega,j+1,rfl,by omega,by rw [hs];simp,hit,rfl,by rw [← hit,← hkt];exact t0' _⟩
 ·have h5' : (kd == 5)=false:=by simpa using h5
  rw [if_neg h5] at hs hl1
  simp only [go_sem,seval,q1,q3,q19,q20,q21,hit,a1,a2,a3,a4,x1,x3,x4,t0',hkc,hic,h5',Int.toNat_natCast,SS]
  refine ah (hih) ?_<;>simp only [go_sem,seval,q1,q3,q19,q20,q21,a6]
  exact ⟨by simp at hl1 ⊢;omega,cs.length-(j+1),by omega,j+1,rfl,by omega,by rw [hs];simp,hit,rfl,by rw [← hit];exact t0' _⟩
mutual
theorem BZ : ∀ (v : T) (c : List VV) (q : Nat),kV v.tree c→v.yc 4000→v.wf q→v.nd≤20000→PV Tryz.prog G0 48 [.agg c] (.str v.key)
 | .sc k i t,c,q,h,hs,hw,hn=>by
  cases hs with
  | sc ht hi =>
  simp only [T.tree] at h
  cases h with
  | @node _ _ _ _ _ kv iv cs h1 h2 h3 =>
  have hkp:=h1.pure
  have hip:=h3.pure
  have hkc:=h1.cell
  have hic:=h3.cell
  have hP:=EW k i t kv iv hkp hip hkc hic
  have hK:=OU k i t (by omega)
  have hk3 : k≤3:=by
   have:=hw.2
   rcases this with h | h | h | h<;>omega
  have b1 : decide (k≤3)=true:=decide_eq_true hk3
  refine pv e48 (by simp) (by simp only [VV.ak,VV.isPure,hkp,hip];rfl) rfl ?_
  simp only [go_sem,seval] at hkc
  simp only [go_sem,seval] at hic
  simp only [go_sem,seval,c48,hkc,hic,b1]
  refine ah (hP) ?_<;>simp only [go_sem,seval,hkc,hic]
  refine ah (hK) ?_<;>simp only [go_sem,seval]
  exact fin (by rfl) rfl
 | .vec l,c,q,h,hs,hw,hn=>by
  cases hs with
  | vec hs =>
  simp only [T.tree] at h
  simp only [T.nd] at hn
  cases h with
  | @node _ _ _ _ _ kv iv cs h1 h2 h3 =>
  have hl : cs.length=l.length:=by rw [h2.len,dn];simp
  have hle:=qh l false hs
  have:=YE 4 (by decide) (by decide) [] kv iv cs h1 h3 (by have:=mD l;omega) (by simp) (by simp) (fun j=>T.keys (l.take j)) (fun j=>(l.getD j default).key) rfl
   (fun j hj=>by rw [hl] at hj;rw [TV hj,if_neg (by decide)];simp [List.getD_eq_getElem?_getD,hj]) (fun j _=>by have:=kQ l j;omega) (fun j hj=>Cm l cs (q+1) h2 hs hw.2 (by omega) j hj)
  simp only [hl,List.take_length] at this
  exact this
 | .map l,c,q,h,hs,hw,hn=>by
  cases hs with
  | map hs1 hs2 =>
  simp only [T.tree] at h
  simp only [T.nd] at hn
  cases h with
  | @node _ _ _ _ _ kv iv cs h1 h2 h3 =>
  have hl : cs.length=l.length:=by rw [h2.len,fM];simp
  have hle:=wB l false fun p hp=>⟨hs1 p hp,hs2 p hp⟩
  have:=YE 5 (by decide) (by decide) (l.map (·.1)) kv iv cs h1 h3 (by have:=uU l;omega) (by simp [hl]) (fun k hk=>by obtain ⟨p,hp,rfl⟩:=List.mem_map.1 hk;have:=hs1 p hp;omega) (fun j=>T.jJ (l.take j)) (fun j=>(l.getD j default).2.key) rfl
   (fun j hj=>by rw [hl] at hj;rw [yK hj,if_pos (show (5 : Int)=5 from rfl)];simp [List.getD_eq_getElem?_getD,hj]) (fun j _=>by have:=rW l j;omega) (fun j hj=>DT l cs (q+1) h2 hs2 hw.2.2 (by omega) j hj)
  simp only [hl,List.take_length] at this
  exact this
 | .set l,c,q,h,hs,hw,hn=>by
  cases hs with
  | set hs =>
  simp only [T.tree] at h
  simp only [T.nd] at hn
  cases h with
  | @node _ _ _ _ _ kv iv cs h1 h2 h3 =>
  have hl : cs.length=l.length:=by rw [h2.len,dn];simp
  have hle:=qh l false hs
  have:=YE 6 (by decide) (by decide) [] kv iv cs h1 h3 (by have:=mD l;omega) (by simp) (by simp) (fun j=>T.keys (l.take j)) (fun j=>(l.getD j default).key) rfl
   (fun j hj=>by rw [hl] at hj;rw [TV hj,if_neg (by decide)];simp [List.getD_eq_getElem?_getD,hj]) (fun j _=>by have:=kQ l j;omega) (fun j hj=>Cm l cs (q+1) h2 hs hw.2.2 (by omega) j hj)
  simp only [hl,List.take_length] at this
  exact this
theorem Cm : ∀ (l : List T) (cs : List (List VV)) (q : Nat),jl (T.trees l) cs→(∀ x ∈ l,x.yc 4000)→T.wfs q l→T.oQ l≤20000→∀ (j : Nat) (h : j < cs.length),PV Tryz.prog G0 48 [.agg cs[j]] (.str (l.getD j default).key)
 | [],_,_,.nil,_,_,_,j,h=>absurd h (Nat.not_lt_zero _)
 | x::l,c::cs,q,.cons h1 h2,hs,hw,hn,0,h=>BZ x c q h1 (hs x (by simp)) hw.1 (by simp only [T.oQ] at hn;omega)
 | x::l,c::cs,q,.cons h1 h2,hs,hw,hn,j+1,h=>Cm l cs q h2 (fun y hy=>hs y (by simp [hy])) hw.2 (by simp only [T.oQ] at hn;omega) j (by simpa using h)
theorem DT : ∀ (l : List (Bs × T)) (cs : List (List VV)) (q : Nat),jl (T.pV l) cs→(∀ p ∈ l,p.2.yc 4000)→T.Ac q l→T.mP l≤20000→∀ (j : Nat) (h : j < cs.length),PV Tryz.prog G0 48 [.agg cs[j]] (.str (l.getD j default).2.key)
 | [],_,_,.nil,_,_,_,j,h=>absurd h (Nat.not_lt_zero _)
 | x::l,c::cs,q,.cons h1 h2,hs,hw,hn,0,h=>BZ x.2 c q h1 (hs x (by simp)) hw.1 (by simp only [T.mP] at hn;omega)
 | x::l,c::cs,q,.cons h1 h2,hs,hw,hn,j+1,h=>DT l cs q h2 (fun y hy=>hs y (by simp [hy])) hw.2 (by simp only [T.mP] at hn;omega) j (by simpa using h)
end
end Go.V
