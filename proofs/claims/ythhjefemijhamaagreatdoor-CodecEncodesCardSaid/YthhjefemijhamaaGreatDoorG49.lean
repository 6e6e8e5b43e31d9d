/- Texts L25 F90 F91 F92. -/
import Derived.Test.YthhjefemijhamaaGreatDoorG29
import Derived.Test.YthhjefemijhamaaGreatDoorG35
import Derived.Test.YthhjefemijhamaaGreatDoorG43
import Derived.Test.YthhjefemijhamaaGreatDoorG44
import Derived.Test.YthhjefemijhamaaGreatDoorG45
set_option linter.unusedVariables false
set_option linter.unusedSimpArgs false
namespace Go.V
mutual
def T.tree : T→Tr
 | .sc k i t=>.node k i t [] []
 | .vec l=>.node 4 0 [] [] (T.trees l)
 | .map l=>.node 5 0 [] (l.map (·.1)) (T.mtrees l)
 | .set l=>.node 6 0 [] [] (T.trees l)
def T.trees : List T→List Tr
 | []=>[]
 | x::l=>x.tree::T.trees l
def T.mtrees : List (Bs × T)→List Tr
 | []=>[]
 | p::l=>p.2.tree::T.mtrees l
end
theorem trees_map : ∀ l : List T,T.trees l=l.map T.tree
 | []=>rfl
 | x::l=>by simp [T.trees,trees_map l]
theorem mtrees_map : ∀ l : List (Bs × T),T.mtrees l=l.map (·.2.tree)
 | []=>rfl
 | x::l=>by simp [T.mtrees,mtrees_map l]
theorem nds_len : ∀ l : List T,l.length≤T.nds l
 | []=>by simp
 | x::l=>by have:=nds_len l;have:=enc_pos x;simp only [T.nds,List.length_cons];omega
theorem ndm_len : ∀ l : List (Bs × T),l.length≤T.ndm l
 | []=>by simp
 | x::l=>by have:=ndm_len l;have:=enc_pos x.2;simp only [T.ndm,List.length_cons];omega
end Go.V
namespace Go.V
open Go.Proofs
set_option maxRecDepth 100000
def cmn : Bs→Bs→Nat
 | a::x,b::y=>if a=b then cmn x y+1 else 0
 | _,_=>0
theorem cmn_step {x y : Bs} {n : Nat} (hx : n < x.length) (hy : n < y.length) (h : x[n]=y[n]) : cmn (x.drop n) (y.drop n)=cmn (x.drop (n+1)) (y.drop (n+1))+1:=by
 rw [List.drop_eq_getElem_cons hx,List.drop_eq_getElem_cons hy,cmn,if_pos h]
theorem cmn_stop {x y : Bs} {n : Nat} (h : ∀ (hx : n < x.length) (hy : n < y.length),x[n]≠y[n]) : cmn (x.drop n) (y.drop n)=0:=by
 by_cases hx : n < x.length
 ·by_cases hy : n < y.length
  ·rw [List.drop_eq_getElem_cons hx,List.drop_eq_getElem_cons hy,cmn,if_neg (h hx hy)]
  ·rw [List.drop_eq_nil_of_le (by omega : y.length≤n)];cases x.drop n<;>rfl
 ·rw [List.drop_eq_nil_of_le (by omega : x.length≤n)];rfl
theorem cmn_le : ∀ x y : Bs,cmn x y≤x.length∧cmn x y≤y.length
 | a::x,b::y=>by have:=cmn_le x y;unfold cmn;split<;>simp<;>omega
 | [],y=>by simp [cmn]
 | a::x,[]=>by simp [cmn]
def ordR (x y : Bs) : Int:=if cmn x y=x.length∧cmn x y=y.length then 0 else if cmn x y=x.length then -1 else if cmn x y=y.length then 1 else if (x.getD (cmn x y) 0).toNat < (y.getD (cmn x y) 0).toNat then -1 else 1
theorem ordR_lt : ∀ x y : Bs,decide (ordR x y < 0)=bl x y
 | [],[]=>rfl
 | [],b::y=>rfl
 | a::x,[]=>by simp [ordR,cmn,bl_nil]
 | a::x,b::y=>by
  have ih:=ordR_lt x y
  by_cases h : a=b
  ·subst h
   have e : cmn (a::x) (a::y)=cmn x y+1:=by rw [cmn,if_pos rfl]
   have e2 : ordR (a::x) (a::y)=ordR x y:=by unfold ordR;rw [e];simp
   have e3 : bl (a::x) (a::y)=bl x y:=by
    have:=bl_cons a a x y
    cases h1 : bl x y<;>cases h2 : bl (a::x) (a::y)<;>simp_all
   rw [e2,e3,ih]
  ·have e : cmn (a::x) (b::y)=0:=by rw [cmn,if_neg h]
   have e3 : bl (a::x) (b::y)=decide (a < b):=by
    have:=bl_cons a b x y
    cases h2 : bl (a::x) (b::y)<;>simp_all
   rw [e3]
   unfold ordR
   rw [e]
   simp only [List.length_cons,List.getD_cons_zero,UInt8.lt_iff_toNat_lt]
   rw [if_neg (by omega),if_neg (by omega),if_neg (by omega)]
   split<;>simp_all
theorem p_rCommon (x y : Bs) (hx : x.length≤1000000000) : PV Tryz.prog G0 123 [.str x,.str y] (.int .i64 (cmn x y : Nat)):=by
 refine pv e123 (by simp) rfl rfl ?_
 simp only [go_sem,seval,c123]
 refine wpV_cutB (M:=fun ρ τ=>ρ.get 5=.int .i64 (cmn x y : Nat)) ?_ ?_
 ·rintro ρ τ q5
  simp only [go_sem,seval,q5]
  exact fin (by rfl) rfl
 refine wpV_loop_inv (fun m ρ τ=>∃ n : Nat,m=x.length-n∧n≤x.length∧cmn x y=n+cmn (x.drop n) (y.drop n)∧ρ.get 0=.str x∧ρ.get 1=.str y∧ρ.get 5=.int .i64 n) (n:=x.length) ?_ ⟨0,rfl,by omega,by simp,rfl,rfl,rfl⟩
 rintro m ρ τ ⟨n,rfl,hn,he,q0,q1,q5⟩
 have a6 : IntKind.i64.wrap ((n : Int)+1)=((n+1 : Nat) : Int):=by rw [iw (by omega)];omega
 by_cases h1 : n < x.length
 rotate_left
 ·have b1 : decide ((n : Int) < (x.length : Int))=false:=decide_eq_false (by omega)
  have hz : cmn x y=n:=by rw [he,cmn_stop fun hx=>absurd hx h1];rfl
  simp only [go_sem,seval,q0,q1,q5,b1]
  rw [hz]
 have b1 : decide ((n : Int) < (x.length : Int))=true:=decide_eq_true (by omega)
 by_cases h2 : n < y.length
 rotate_left
 ·have b2 : decide ((n : Int) < (y.length : Int))=false:=decide_eq_false (by omega)
  have hz : cmn x y=n:=by rw [he,cmn_stop fun _ hy=>absurd hy h2];rfl
  simp only [go_sem,seval,q0,q1,q5,b1,b2]
  rw [hz]
 have b2 : decide ((n : Int) < (y.length : Int))=true:=decide_eq_true (by omega)
 have c0 : (0 : Int)≤(n : Int):=by omega
 have c1 : (n : Int) < (x.length : Int):=by omega
 have c2 : (n : Int) < (y.length : Int):=by omega
 by_cases h3 : x[n]=y[n]
 ·have b3 : (((x.getD n 0).toNat : Int) == ((y.getD n 0).toNat : Int))=true:=by simp [List.getD_eq_getElem?_getD,h1,h2,h3]
  simp only [go_sem,seval,q0,q1,q5,b1,b2,b3,c0,c1,c2,a6,Int.toNat_natCast]
  exact ⟨x.length-(n+1),by omega,n+1,rfl,by omega,by rw [he,cmn_step h1 h2 h3];omega,rfl⟩
 ·have b3 : (((x.getD n 0).toNat : Int) == ((y.getD n 0).toNat : Int))=false:=by
   simp [List.getD_eq_getElem?_getD,h1,h2]
   intro h;exact h3 (UInt8.toNat_inj.1 (by omega))
  have hz : cmn x y=n:=by rw [he,cmn_stop fun _ _=>h3];rfl
  simp only [go_sem,seval,q0,q1,q5,b1,b2,b3,c0,c1,c2,Int.toNat_natCast]
  rw [hz]
theorem p_rOrder (x y : Bs) (hx : x.length≤1000000000) : PV Tryz.prog G0 74 [.str x,.str y] (.int .i64 (ordR x y)):=by
 have hC:=p_rCommon x y hx
 obtain ⟨l1,l2⟩:=cmn_le x y
 refine pv e74 (by simp) rfl rfl ?_
 unfold ordR
 generalize cmn x y=n at *
 have hb : ∀ a b : Nat,((a : Int) == (b : Int))=decide (a=b):=fun a b=>by
  by_cases h : a=b
  ·simp [h]
  ·simp [h];omega
 simp only [go_sem,seval,c74]
 by_cases h1 : n=x.length
 ·by_cases h2 : n=y.length
  ·have h3 : x.length=y.length:=by omega
   subst h1
   (first | refine callO_pure (hC) ?_ | refine dpureO_of (hC) ?_ | refine dpureO_save (hC) ?_ | refine dcallO_pure (hC) (by simp only [go_sem,seval,hb,h3,decide_true]) ?_ | refine dcallO_pure (hC) ?_ ?_)<;>simp only [go_sem,seval,hb,h3,decide_true]
   exact fin (by rfl) rfl
  ·have h3 : ¬ x.length=y.length:=by omega
   subst h1
   (first | refine callO_pure (hC) ?_ | refine dpureO_of (hC) ?_ | refine dpureO_save (hC) ?_ | refine dcallO_pure (hC) (by simp only [go_sem,seval,hb,h3,decide_true,decide_false]) ?_ | refine dcallO_pure (hC) ?_ ?_)<;>simp only [go_sem,seval,hb,h3,decide_true,decide_false]
   exact fin (by rfl) (by simp)
 ·by_cases h2 : n=y.length
  ·subst h2
   (first | refine callO_pure (hC) ?_ | refine dpureO_of (hC) ?_ | refine dpureO_save (hC) ?_ | refine dcallO_pure (hC) (by simp only [go_sem,seval,hb,h1,decide_true,decide_false]) ?_ | refine dcallO_pure (hC) ?_ ?_)<;>simp only [go_sem,seval,hb,h1,decide_true,decide_false]
   exact fin (by rfl) (by simp)
  ·have c0 : (0 : Int)≤(n : Int):=by omega
   have c1 : (n : Int) < (x.length : Int):=by omega
   have c2 : (n : Int) < (y.length : Int):=by omega
   by_cases h3 : (x.getD n 0).toNat < (y.getD n 0).toNat
   ·have b3 : decide (((x.getD n 0).toNat : Int) < ((y.getD n 0).toNat : Int))=true:=decide_eq_true (by omega)
    (first | refine callO_pure (hC) ?_ | refine dpureO_of (hC) ?_ | refine dpureO_save (hC) ?_ | refine dcallO_pure (hC) (by simp only [go_sem,seval,hb,h1,h2,decide_false,c0,c1,c2,b3,Int.toNat_natCast]) ?_ | refine dcallO_pure (hC) ?_ ?_)<;>simp only [go_sem,seval,hb,h1,h2,decide_false,c0,c1,c2,b3,Int.toNat_natCast]
    exact fin (by rfl) (by first | rw [if_pos h3] | rw [if_neg h3])
   ·have b3 : decide (((x.getD n 0).toNat : Int) < ((y.getD n 0).toNat : Int))=false:=decide_eq_false (by omega)
    (first | refine callO_pure (hC) ?_ | refine dpureO_of (hC) ?_ | refine dpureO_save (hC) ?_ | refine dcallO_pure (hC) (by simp only [go_sem,seval,hb,h1,h2,decide_false,c0,c1,c2,b3,Int.toNat_natCast]) ?_ | refine dcallO_pure (hC) ?_ ?_)<;>simp only [go_sem,seval,hb,h1,h2,decide_false,c0,c1,c2,b3,Int.toNat_natCast]
    exact fin (by rfl) (by first | rw [if_pos h3] | rw [if_neg h3])
end Go.V
namespace Go.V
open Go.Proofs
set_option maxRecDepth 100000
def Fresh (σ : Store) (v : VV) : Prop:=∀ id o n z,v=.msl id o n z→σ.length≤id
inductive GSl (k : Nat) (σ : Store) : VV→List (List VV)→Prop
 | nil : GSl k σ .nils []
 | emp : GSl k σ (.sl 0 [] true) []
 | own {id : Nat} {xs : List (List VV)} : Blk k xs→σ[id]?=some (.own xs.flatten)→GSl k σ (.msl id 0 xs.length k) xs
theorem GSl.blk {k : Nat} {σ : Store} {v : VV} {xs : List (List VV)} (h : GSl k σ v xs) : Blk k xs:=by
 cases h with
 | own h _=>exact h
 | _=>exact .nil
theorem GSl.keep {k : Nat} {σ σ' : Store} {v : VV} {xs : List (List VV)} (h : GSl k σ v xs) (hs : ∀ id o n z,v=.msl id o n z→σ'[id]?=σ[id]?) : GSl k σ' v xs:=by
 cases h with
 | nil=>exact .nil
 | emp=>exact .emp
 | own hB h=>exact .own hB (by rw [hs _ _ _ _ rfl];exact h)
theorem GSl.dom {k : Nat} {σ : Store} {v : VV} {xs : List (List VV)} (h : GSl k σ v xs) {id o n z : Nat} (e : v=.msl id o n z) : id < σ.length:=by
 cases h with
 | own hB h=>cases e;exact (List.getElem?_eq_some_iff.1 h).1
 | _=>cases e
theorem GSl.kept {k : Nat} {σ σ' : Store} {v w : VV} {xs : List (List VV)} (h : GSl k σ v xs) (hK : Kept σ w σ') (hne : ∀ id o n z o' n' z',v=.msl id o n z→w≠.msl id o' n' z') : GSl k σ' v xs :=
 h.keep fun id o n z e=>hK.2 id (h.dom e) fun o' n' z'=>hne id o n z o' n' z' e
theorem GSl.fz {k : Nat} {σ : Store} {v : VV} {xs : List (List VV)} (h : GSl k σ v xs) (hne : xs≠[]) (m : Nat) : fz (m+1) (σ.map Obj.fr) v=some (.sl xs.length xs.flatten false):=by
 cases h with
 | own hB h=>exact fz_msl' (by rw [List.getElem?_map,h];rfl) hB rfl
 | _=>exact absurd rfl hne
theorem GSl.snoc {k : Nat} {σ : Store} {v : VV} {xs : List (List VV)} (h : GSl k σ v xs) (τ : Store) : GSl k (σ++τ) v xs:=h.keep fun id o n z e=>by
 subst e
 cases h with
 | own hB h=>exact List.getElem?_append_left (List.getElem?_eq_some_iff.1 h).1
theorem GSl.app {k : Nat} {σ : Store} {v x : VV} {xs ys : List (List VV)} (h : GSl k σ v xs) {t tx e : TypeId} {by_ : Nat} {z : List VV} (ht : tsl Tryz.prog t=some e) (hk : tsz Tryz.prog e=some k) (hy : tby Tryz.prog e=some by_) (hz : tzero Tryz.prog e=some z) (hzk : z.length=k) (hk0 : 0 < k) (hb : by_≤1000) (hC : Blk k ys) (hl : xs.length+ys.length≤1000000)
  (hx : srcCells Tryz.prog σ k tx x=some (ys.length,ys.flatten)) : ∃ p v' σ',p∧evAppend Tryz.prog t tx v x σ=some ⟨p,v',σ'⟩∧GSl k σ' v' (xs++ys)∧Kept σ v σ'∧Fresh σ v':=by
 cases h with
 | nil =>
  by_cases hne : ys=[]
  ·subst hne
   exact ⟨True,.nils,σ,trivial,by simp only [evAppend,ht,hk,hy,hz,hx,List.length_nil,if_true,okV],.nil,⟨Nat.le_refl _,fun _ _ _=>rfl⟩,fun _ _ _ _ e=>by cases e⟩
  ·obtain ⟨p,hp,he⟩:=app_nils ht hk hy hz hzk hk0 hb hC (by omega) hne hx
   exact ⟨p,_,_,hp,he,.own hC (by simp),⟨by simp,fun j hj _=>List.getElem?_append_left hj⟩,fun id o n z e=>by cases e;exact Nat.le_refl _⟩
 | emp =>
  by_cases hne : ys=[]
  ·subst hne
   exact ⟨True,.sl 0 [] true,σ,trivial,by simp only [evAppend,ht,hk,hy,hz,hx,List.length_nil,if_true,okV],.emp,⟨Nat.le_refl _,fun _ _ _=>rfl⟩,fun _ _ _ _ e=>by cases e⟩
  ·have hne' : ys.length≠0:=fun h=>hne (List.eq_nil_of_length_eq_zero h)
   have:=Nat.mul_le_mul hl hb
   refine ⟨_,_,_, ?_,by simp only [evAppend,ht,hk,hy,hz,hx,if_neg hne',if_true,List.nil_append,Nat.zero_add];rfl,.own hC (by simp),⟨by simp,fun j hj _=>List.getElem?_append_left hj⟩,fun id o n z e=>by cases e;exact Nat.le_refl _⟩
   refine ⟨⟨by simp at hl;omega,by simp at this;omega,hC.flat,hk0,hC.fcell,hzk⟩,by simp,rfl⟩
 | own hB hid =>
  obtain ⟨p,hp,he⟩:=app_own ht hk hy hz hzk hk0 hb hid hB hC hl rfl hx
  refine ⟨p,_,_,hp,he,.own (hB.append hC) (by rw [List.getElem?_append_right (by simp)];simp),⟨by simp,fun j hj hne=>?_⟩,fun id o n z e=>by cases e;exact Nat.le_refl _⟩
  rw [List.getElem?_append_left (by simpa using hj),List.getElem?_set_ne (fun e=>hne _ _ _ (by rw [e]))]
theorem GSl.step {k : Nat} {σ : Store} {v x : VV} {xs ys : List (List VV)} (h : GSl k σ v xs) {t tx e : TypeId} {by_ : Nat} {z : List VV} (ht : tsl Tryz.prog t=some e) (hk : tsz Tryz.prog e=some k) (hy : tby Tryz.prog e=some by_) (hz : tzero Tryz.prog e=some z) (hzk : z.length=k) (hk0 : 0 < k) (hb : by_≤1000) (hC : Blk k ys) (hl : xs.length+ys.length≤1000000)
  (hx : srcCells Tryz.prog σ k tx x=some (ys.length,ys.flatten)) {d : Nat} {r : List VO} {Q : Out→Env→Store→Prop} {ρ : Env} (hn : ∀ v' σ',GSl k σ' v' (xs++ys)→Kept σ v σ'→Fresh σ v'→opsW Tryz.prog G0 r Q ((d,v')::ρ) σ') : stepO Tryz.prog G0 (evAppend Tryz.prog t tx v x σ) (some d) r Q ρ:=by
 obtain ⟨p,v',σ',hp,he,h1,h2,h3⟩:=h.app ht hk hy hz hzk hk0 hb hC hl hx
 rw [he]
 exact ⟨hp,hn v' σ' h1 h2 h3⟩
theorem GSl.dstep {k : Nat} {σ : Store} {v x : VV} {xs ys : List (List VV)} (h : GSl k σ v xs) {t tx e : TypeId} {by_ : Nat} {z : List VV} (ht : tsl Tryz.prog t=some e) (hk : tsz Tryz.prog e=some k) (hy : tby Tryz.prog e=some by_) (hz : tzero Tryz.prog e=some z) (hzk : z.length=k) (hk0 : 0 < k) (hb : by_≤1000) (hC : Blk k ys) (hl : xs.length+ys.length≤1000000)
  (hx : srcCells Tryz.prog σ k tx x=some (ys.length,ys.flatten)) {d : Nat} {chk : List Nat} {pd : Pend} {r : List DO} {Q : Out→Env→Store→Prop} {ρ : Env} (hn : ∀ v' σ',GSl k σ' v' (xs++ys)→Kept σ v σ'→Fresh σ v'→chkAll Tryz.prog G0 chk pd σ'∧drawW Tryz.prog G0 r pd Q (putV ρ (some d) v') σ') : deffO Tryz.prog G0 (evAppend Tryz.prog t tx v x σ) (some d) chk r pd Q ρ:=by
 obtain ⟨p,v',σ',hp,he,h1,h2,h3⟩:=h.app ht hk hy hz hzk hk0 hb hC hl hx
 rw [he]
 exact ⟨hp,hn v' σ' h1 h2 h3⟩
theorem fz_tup {n : Nat} {τ : Store} {ys zs : List VV} (h : ys.mapM (fz n τ)=some zs) : fz (n+1) τ (.tup ys)=some (.tup zs):=by
 rw [fz]
 split
 ·rename_i hp
  simp only [VV.isPure] at hp
  rw [mapM_fz hp] at h
  cases h;rfl
 ·simp only [h,Option.map_some]
theorem fz_agg {n : Nat} {τ : Store} {ys zs : List VV} (h : ys.mapM (fz n τ)=some zs) : fz (n+1) τ (.agg ys)=some (.agg zs):=by
 rw [fz]
 split
 ·rename_i hp
  simp only [VV.isPure] at hp
  rw [mapM_fz hp] at h
  cases h;rfl
 ·simp only [h,Option.map_some]
theorem SlV.cutTo {σ : Store} {k : Nat} {t e : TypeId} {v : VV} {xs : List (List VV)} (h : SlV k v xs) (ht : tsl Tryz.prog t=some e) (hk : tsz Tryz.prog e=some k) {a : Nat} (ha : a≤xs.length) :
  ∃ (p : Prop) (v' : VV),p∧SlV k v' (xs.take a)∧∀ {σ},evSlice Tryz.prog t v none (some (a : Int)) none σ=some ⟨p,v',σ⟩:=by
 cases h with
 | nil =>
  refine ⟨_,.nils, ?_,by simpa using SlV.nil,by intro σ;simp only [evSlice,ht,hk];rfl⟩
  have : a=0:=by simpa using ha
  subst this
  simp [bounds]
 | sl _ tg hB =>
  refine ⟨_,_, ?_, ?_,by intro σ;simp only [evSlice,ht,hk];rfl⟩
  ·refine ⟨⟨by simp [bounds],by simp [bounds];omega⟩,.inl trivial,hB.flat⟩
  ·simp only [bounds,Option.getD_none,Option.getD_some,Int.toNat_zero,Int.toNat_natCast,Nat.zero_mul,List.drop_zero,Nat.sub_zero]
   rw [hB.ftake]
   exact SlV.of (hB.take a) (by simp;omega) rfl
theorem SlV.cutFrom {σ : Store} {k : Nat} {t e : TypeId} {v : VV} {xs : List (List VV)} (h : SlV k v xs) (ht : tsl Tryz.prog t=some e) (hk : tsz Tryz.prog e=some k) {a : Nat} (ha : a≤xs.length) :
  ∃ (p : Prop) (v' : VV),p∧SlV k v' (xs.drop a)∧∀ {σ},evSlice Tryz.prog t v (some (a : Int)) none none σ=some ⟨p,v',σ⟩:=by
 cases h with
 | nil =>
  refine ⟨_,.nils, ?_,by simpa using SlV.nil,by intro σ;simp only [evSlice,ht,hk];rfl⟩
  have : a=0:=by simpa using ha
  subst this
  simp [bounds]
 | sl _ tg hB =>
  refine ⟨_,_, ?_, ?_,by intro σ;simp only [evSlice,ht,hk];rfl⟩
  ·refine ⟨⟨by simp [bounds];omega,by simp [bounds]⟩,.inl trivial,hB.flat⟩
  ·simp only [bounds,Option.getD_none,Option.getD_some,Int.toNat_natCast]
   rw [hB.fdrop,(hB.drop a).ftake,List.take_of_length_le (by simp)]
   exact SlV.of (hB.drop a) (by simp) rfl
theorem ahd_drop {α : Type} (k : Bs) : ∀ (l : List (Bs × α)) (n : Nat),n≤ahd l k→ahd l k=n+ahd (l.drop n) k
 | l,0,_=>by simp
 | [],n+1,h=>by simp [ahd] at h
 | p::l,n+1,h=>by
  unfold ahd at h ⊢
  split
  ·rename_i hb
   rw [if_pos hb] at h
   rw [ahd_drop k l n (by omega),List.drop_succ_cons]
   generalize l.drop n=m
   cases m<;>simp [ahd]<;>omega
  ·rename_i hb
   rw [if_neg hb] at h;omega
theorem strBlk {α : Type} (l : List (Bs × α)) : Blk 1 (l.map fun p=>[VV.str p.1]) :=
 ⟨fun x hx=>by obtain ⟨p,_,rfl⟩:=List.mem_map.1 hx;rfl,fun x hx=>by obtain ⟨p,_,rfl⟩:=List.mem_map.1 hx;rfl,fun x hx=>by obtain ⟨p,_,rfl⟩:=List.mem_map.1 hx;rfl⟩
def putL {α : Type} (l : List (Bs × α)) (k : Bs) (c : α) : List (Bs × α):=l.take (ahd l k)++(k,c)::l.drop (ahd l k)
theorem p_put (l : List (Bs × List VV)) (kv iv : VV) (hk : SlV 1 kv (l.map fun p=>[VV.str p.1])) (hi : SlV 5 iv (l.map (·.2))) (k : Bs) (c : List VV) (hc : Blk 5 [c]) (hl : l.length≤100000) (hks : ∀ p ∈ l,p.1.length≤1000000000) :
  PV Tryz.prog G0 45 [kv,iv,.str k,.agg c] (.tup [.sl (putL l k c).length ((putL l k c).map fun p=>[VV.str p.1]).flatten false,.sl (putL l k c).length ((putL l k c).map (·.2)).flatten false]):=by
 have hkp:=hk.pure
 have hip:=hi.pure
 have hBk : Blk 1 ((putL l k c).map fun p=>[VV.str p.1]):=strBlk _
 have hBi : Blk 5 ((putL l k c).map (·.2)):=by
  unfold putL
  rw [List.map_append,List.map_cons,List.map_take,List.map_drop]
  exact (hi.blk.take _).append ((Blk.append (xs:=[c]) hc (hi.blk.drop _)))
 have hx1:=hc.len c (by simp)
 have hx2:=hc.pure c (by simp)
 have hx3 : c.all VV.isCell=true:=hc.cell c (by simp)
 have hx4 : c.take 5=c:=List.take_of_length_le (by omega)
 have hkl : ∀ {σ},evLen Tryz.prog 25 kv σ=okV (.int .i64 l.length) σ:=by intro σ;rw [hk.evLen k_tsl_25];simp
 refine pv e45 (by simp) (by simp only [VV.arePure,VV.isPure,hkp,hip,hx2];rfl) (by simp only [VV.isPure,VV.arePure,hBk.fpure,hBi.fpure,Bool.and_self]) ?_
 simp only [go_sem,seval,c45,hx1,hx3,hx4]
 refine wpV_cutB (M:=fun ρ τ=>ρ.get 0=kv∧ρ.get 1=iv∧ρ.get 2=.str k∧ρ.get 7=.mptr 0 0∧ρ.get 10=.int .i64 (ahd l k : Nat)∧τ=[.own c]) ?_ ?_
 rotate_left
 ·refine wpV_loop_inv (fun m ρ τ=>∃ n : Nat,m=l.length-n∧n≤ahd l k∧ρ.get 0=kv∧ρ.get 1=iv∧ρ.get 2=.str k∧ρ.get 7=.mptr 0 0∧ρ.get 10=.int .i64 n∧τ=[.own c]) (n:=l.length) ?_ ⟨0,rfl,by omega,rfl,rfl,rfl,rfl,rfl,rfl⟩
  rintro m ρ _ ⟨n,rfl,hn,q0,q1,q2,q7,q10,rfl⟩
  have hle:=ahd_le k l
  have hd:=ahd_drop k l n hn
  by_cases h1 : n < l.length
  rotate_left
  ·have b1 : decide ((n : Int) < (l.length : Int))=false:=decide_eq_false (by omega)
   have he : ahd l k=n:=by omega
   simp only [go_sem,seval,q0,q1,q2,q7,q10,hkl,b1,he]
  have b1 : decide ((n : Int) < (l.length : Int))=true:=decide_eq_true (by omega)
  obtain ⟨tg,hkt⟩:=hk.sl_of (by intro e;have:=congrArg List.length e;simp at this;rw [this] at h1;simp at h1)
  rw [List.length_map] at hkt
  have a1 : (0 : Int)≤(n : Int):=by omega
  have a2 : (n : Int) < (l.length : Int):=by omega
  have a3 : n*1 < (l.map fun p=>[VV.str p.1]).flatten.length:=by rw [hk.blk.flat,List.length_map];omega
  have a4 : (l.map fun p=>[VV.str p.1]).flatten.getD (n*1) .undef=VV.str l[n].1:=by
   have h:=hk.blk.fget (i:=n) (by simpa using h1)
   have h2:=congrArg (·[0]?) h
   simp only [List.getElem?_take_of_lt (Nat.zero_lt_one),List.getElem?_drop,List.getElem_map,List.getElem?_cons_zero,Nat.add_zero] at h2
   rw [List.getD_eq_getElem?_getD,h2];rfl
  have a6 : IntKind.i64.wrap ((n : Int)+1)=((n+1 : Nat) : Int):=by rw [iw (by omega)];omega
  have hO:=p_rOrder l[n].1 k (hks _ (List.getElem_mem h1))
  have hlt:=ordR_lt l[n].1 k
  have hd2 : ahd (l.drop n) k=if bl l[n].1 k=true then ahd (l.drop (n+1)) k+1 else 0:=by rw [List.drop_eq_getElem_cons h1];rfl
  cases hb : bl l[n].1 k with
  | true =>
   rw [hb] at hlt hd2
   rw [if_pos rfl] at hd2
   simp only [go_sem,seval,q0,q1,q2,q7,q10,hkl,b1,hkt,a1,a2,a3,a4,Int.toNat_natCast]
   (first | refine callO_pure (hO) ?_ | refine dpureO_of (hO) ?_ | refine dpureO_save (hO) ?_ | refine dcallO_pure (hO) (by simp only [go_sem,seval,q0,q1,q2,q7,q10,hlt,a6]) ?_ | refine dcallO_pure (hO) ?_ ?_)<;>simp only [go_sem,seval,q0,q1,q2,q7,q10,hlt,a6]
   exact ⟨l.length-(n+1),by omega,n+1,rfl,by omega,hkt,rfl⟩
  | false =>
   rw [hb] at hlt hd2
   rw [if_neg (by decide)] at hd2
   have he : ahd l k=n:=by omega
   simp only [go_sem,seval,q0,q1,q2,q7,q10,hkl,b1,hkt,a1,a2,a3,a4,Int.toNat_natCast]
   (first | refine callO_pure (hO) ?_ | refine dpureO_of (hO) ?_ | refine dpureO_save (hO) ?_ | refine dcallO_pure (hO) (by simp only [go_sem,seval,q0,q1,q2,q7,q10,hlt,he]) ?_ | refine dcallO_pure (hO) ?_ ?_)<;>simp only [go_sem,seval,q0,q1,q2,q7,q10,hlt,he]
   exact hkt
 rintro ρ _ ⟨q0,q1,q2,q7,q10,rfl⟩
 have hle:=ahd_le k l
 obtain ⟨pa,ka,hpa,hka,hea⟩:=hk.cutTo (σ:=[]) k_tsl_25 k_tsz_9 (a:=ahd l k) (by simpa using hle)
 obtain ⟨pb,kb,hpb,hkb,heb⟩:=hk.cutFrom (σ:=[]) k_tsl_25 k_tsz_9 (a:=ahd l k) (by simpa using hle)
 obtain ⟨pc,ic,hpc,hic,hec⟩:=hi.cutTo (σ:=[]) k_tsl_26 k_tsz_28 (a:=ahd l k) (by simpa using hle)
 obtain ⟨pd,id,hpd,hid,hed⟩:=hi.cutFrom (σ:=[]) k_tsl_26 k_tsz_28 (a:=ahd l k) (by simpa using hle)
 have hlk : ((l.map fun p=>[VV.str p.1]).take (ahd l k)).length≤100000:=by simp;omega
 have hBs : Blk 1 [[VV.str k]]:=strBlk [(k,())]
 simp only [go_sem,seval,q0,q1,q2,q7,q10,hea,hpa]
 refine GSl.emp.step (ys:=(l.map fun p=>[VV.str p.1]).take (ahd l k)) k_tsl_25 k_tsz_9 k_tby_9 k_tzero_9 rfl (by decide) (by decide) hka.blk (by simp;omega) (hka.src k_tsl_25) fun v1 σ1 g1 K1 N1=>?_
 have c1 : σ1[0]?=some (.own c):=by rw [K1.2 0 (by simp) (by simp)];rfl
 simp only [go_sem,seval,q0,q1,q2,q7,q10]
 refine g1.step (ys:=[[VV.str k]]) k_tsl_25 k_tsz_9 k_tby_9 k_tzero_9 rfl (by decide) (by decide) hBs (by simp;omega) ((SlV.sl [[VV.str k]] true hBs).src k_tsl_25) fun v2 σ2 g2 K2 N2=>?_
 have c2 : σ2[0]?=some (.own c):=by
  have : 0 < σ1.length:=(List.getElem?_eq_some_iff.1 c1).1
  rw [K2.2 0 this (fun o n z e=>by have:=N1 0 o n z e;simp at this)];exact c1
 simp only [go_sem,seval,q0,q1,q2,q7,q10,c2,hec,hpc,hx1,hx3,hx4]
 refine GSl.emp.dstep (ys:=(l.map (·.2)).take (ahd l k)) k_tsl_26 k_tsz_28 k_tby_28 k_tzero_28 rfl (by decide) (by decide) hic.blk (by simp;omega) (hic.src k_tsl_26) fun v3 σ3 g3 K3 N3=>?_
 have l2 : 0 < σ2.length:=(List.getElem?_eq_some_iff.1 c2).1
 have c3 : σ3[0]?=some (.own c):=by rw [K3.2 0 l2 (by simp)];exact c2
 have g23:=g2.kept K3 (by intro id o n z o' n' z' _ h;cases h)
 simp only [go_sem,seval,q0,q1,q2,q7,q10,c3,hx1,hx3,hx4]
 refine g3.dstep (ys:=[c]) k_tsl_26 k_tsz_28 k_tby_28 k_tzero_28 rfl (by decide) (by decide) hc (by simp;omega) (by have:=(SlV.sl [c] true hc).src (P:=Tryz.prog) (σ:=σ3) k_tsl_26;simpa using this) fun v4 σ4 g4 K4 N4=>?_
 have g24:=g23.kept K4 (by intro id o n z o' n' z' h h';have h1:=g2.dom h;have h2:=N3 _ _ _ _ h';omega)
 simp only [go_sem,seval,q0,q1,q2,q7,q10,heb,hpb,hed,hpd]
 refine g24.dstep (ys:=(l.map fun p=>[VV.str p.1]).drop (ahd l k)) k_tsl_25 k_tsz_9 k_tby_9 k_tzero_9 rfl (by decide) (by decide) hkb.blk (by simp;omega) (hkb.src k_tsl_25) fun v5 σ5 g5 K5 N5=>?_
 have g45:=g4.kept K5 (by intro id o n z o' n' z' h h';have h1:=g2.dom h';have h2:=N4 _ _ _ _ h;have h3:=K3.1;omega)
 simp only [go_sem,seval,q0,q1,q2,q7,q10,hed,hpd]
 refine g45.dstep (ys:=(l.map (·.2)).drop (ahd l k)) k_tsl_26 k_tsz_28 k_tby_28 k_tzero_28 rfl (by decide) (by decide) hid.blk (by simp;omega) (hid.src k_tsl_26) fun v6 σ6 g6 K6 N6=>?_
 have g56:=g5.kept K6 (by intro id o n z o' n' z' h h';have h1:=g4.dom h';have h2:=N5 _ _ _ _ h;omega)
 simp only [go_sem,seval]
 have e1 : (l.map fun p=>[VV.str p.1]).take (ahd l k)++[[VV.str k]]++(l.map fun p=>[VV.str p.1]).drop (ahd l k)=(putL l k c).map fun p=>[VV.str p.1]:=by
  unfold putL
  rw [List.map_append,List.map_cons,List.map_take,List.map_drop];simp
 have e2 : (l.map (·.2)).take (ahd l k)++[c]++(l.map (·.2)).drop (ahd l k)=(putL l k c).map (·.2):=by
  unfold putL
  rw [List.map_append,List.map_cons,List.map_take,List.map_drop];simp
 have f1:=g56.fz (by simp) 0
 have f2:=g6.fz (by simp) 0
 rw [List.nil_append,e1,List.length_map] at f1
 rw [List.nil_append,e2,List.length_map] at f2
 refine ⟨_,2,rfl,fz_tup ?_⟩
 simp only [List.mapM_cons,List.mapM_nil,f1,f2]
 rfl
end Go.V
namespace Go.V
open Go.Proofs
set_option maxRecDepth 100000
theorem SlV.strAt {kv : VV} {keys : List Bs} (hk : SlV 1 kv (keys.map fun b=>[VV.str b])) {j : Nat} (hj : j < keys.length) :
  ∃ tg,kv=.sl keys.length (keys.map fun b=>[VV.str b]).flatten tg∧j*1 < (keys.map fun b=>[VV.str b]).flatten.length∧(keys.map fun b=>[VV.str b]).flatten.getD (j*1) .undef=VV.str keys[j]:=by
 obtain ⟨tg,hkt⟩:=hk.sl_of (by intro e;have:=congrArg List.length e;simp at this;rw [this] at hj;simp at hj)
 rw [List.length_map] at hkt
 refine ⟨tg,hkt,by rw [hk.blk.flat,List.length_map];omega, ?_⟩
 have h:=hk.blk.fget (i:=j) (by simpa using hj)
 have h2:=congrArg (·[0]?) h
 simp only [List.getElem?_take_of_lt (Nat.zero_lt_one),List.getElem?_drop,List.getElem_map,List.getElem?_cons_zero,Nat.add_zero] at h2
 rw [List.getD_eq_getElem?_getD,h2];rfl
theorem SlV.cellsAt {k : Nat} {iv : VV} {cs : List (List VV)} (hi : SlV k iv cs) {j : Nat} (hj : j < cs.length) :
  ∃ tg,iv=.sl cs.length cs.flatten tg∧j*k+k≤cs.flatten.length∧(cs.flatten.drop (j*k)).take k=cs[j]:=by
 obtain ⟨tg,hit⟩:=hi.sl_of (by intro e;rw [e] at hj;simp at hj)
 refine ⟨tg,hit, ?_,hi.blk.fget hj⟩
 rw [hi.blk.flat,← Nat.succ_mul]
 exact Nat.mul_le_mul_right _ hj
theorem p_rPlain (k i : Int) (t : Bs) (kv iv : VV) (hp : kv.isPure=true) (hp' : iv.isPure=true) (hc : kv.isCell=true) (hc' : iv.isCell=true) : PV Tryz.prog G0 76 [.agg [.int .i64 k,.int .i64 i,.str t,kv,iv]] (.agg [.int .i64 k,.int .i64 i,.str t]):=by
 refine pv e76 (by simp) (by simp only [VV.arePure,VV.isPure,hp,hp'];rfl) rfl ?_
 simp only [go_sem,seval] at hc
 simp only [go_sem,seval] at hc'
 simp only [go_sem,seval,c76,hc,hc']
 exact fin (by rfl) rfl
theorem key_node (kd : Int) (h4 : 4≤kd) (h6 : kd≤6) (keys : List Bs) (kv iv : VV) (cs : List (List VV)) (hk : SlV 1 kv (keys.map fun b=>[VV.str b])) (hi : SlV 5 iv cs) (hn : cs.length≤100000) (hkn : kd=5→keys.length=cs.length) (hks : ∀ k ∈ keys,k.length≤1000000)
  (pk kj : Nat→Bs) (hp0 : pk 0=[]) (hps : ∀ j,j < cs.length→pk (j+1)=pk j++((if kd=5 then scKey 3 0 (keys.getD j []) else [])++kj j)) (hpl : ∀ j,j≤cs.length→(pk j).length≤100000000) (ih : ∀ j (h : j < cs.length),PV Tryz.prog G0 46 [.agg cs[j]] (.str (kj j))) :
  PV Tryz.prog G0 46 [.agg [.int .i64 kd,.int .i64 0,.str [],kv,iv]] (.str (UInt8.ofNat (kd+1).toNat::(pk cs.length++[0]))):=by
 have hkp:=hk.pure
 have hip:=hi.pure
 have hkc:=hk.cell
 have hic:=hi.cell
 have hisl : ∀ {σ},evLen Tryz.prog 26 iv σ=okV (.int .i64 cs.length) σ:=by intro σ;rw [hi.evLen k_tsl_26]
 have w1 : IntKind.i64.wrap (kd+1)=kd+1:=iw (by omega)
 have w2 : IntKind.u8.wrap (kd+1)=kd+1:=by rw [wu8];omega
 have b1 : decide (kd≤3)=false:=decide_eq_false (by omega)
 refine pv e46 (by simp) (by simp only [VV.arePure,VV.isPure,hkp,hip];rfl) rfl ?_
 simp only [go_sem,seval] at hkc
 simp only [go_sem,seval] at hic
 have hby : bytesOf [VV.int .u8 (kd+1)]=some [UInt8.ofNat (kd+1).toNat]:=rfl
 generalize UInt8.ofNat (kd+1).toNat=o at *
 simp only [go_sem,seval,c46,hkc,hic,b1,w1,w2,hisl,hby]
 refine wpV_cutB (M:=fun ρ τ=>ρ.get 3=.str (o::pk cs.length)) ?_ ?_
 ·rintro ρ τ q3
  have hl:=hpl cs.length (Nat.le_refl _)
  simp only [go_sem,seval,q3]
  exact ⟨by omega,fin (by rfl) rfl⟩
 refine wpV_loop_inv (fun m ρ τ=>∃ j : Nat,m=cs.length-j∧j≤cs.length∧ρ.get 1=.mptr 0 0∧ρ.get 3=.str (o::pk j)∧ρ.get 19=iv∧ρ.get 20=.int .i64 cs.length∧ρ.get 21=.int .i64 j∧τ[0]?=some (.own [.int .i64 kd,.int .i64 0,.str [],kv,iv])) (n:=cs.length) ?_ ⟨0,rfl,by omega,rfl,by rw [hp0];rfl,rfl,rfl,rfl,rfl⟩
 rintro m ρ τ ⟨j,rfl,hj,q1,q3,q19,q20,q21,t0⟩
 simp only [go_sem,seval,q19,q20,q21]
 refine condO_split (fun hc=>?_) (fun hc=>?_)
 rotate_left
 ·have hc' : j=cs.length:=by simp at hc;omega
  subst hc'
  simp only [go_sem,seval,q3]
 have hc' : j < cs.length:=by simpa using hc
 obtain ⟨tg,hit,a3,a4⟩:=hi.cellsAt hc'
 have x1:=hi.blk.len _ (List.getElem_mem hc')
 have x3 : cs[j].all VV.isCell=true:=hi.blk.cell _ (List.getElem_mem hc')
 have x4 : cs[j].take 5=cs[j]:=List.take_of_length_le (by omega)
 have a1 : (0 : Int)≤(j : Int):=by omega
 have a2 : (j : Int) < (cs.length : Int):=by omega
 have a6 : IntKind.i64.wrap ((j : Int)+1)=((j+1 : Nat) : Int):=by rw [iw (by omega)];omega
 have t0' : ∀ υ,(τ++υ)[0]?=some (.own [.int .i64 kd,.int .i64 0,.str [],kv,iv]):=fun υ=>by rw [List.getElem?_append_left (List.getElem?_eq_some_iff.1 t0).1];exact t0
 have hs:=hps j hc'
 have hl1:=hpl (j+1) (by omega)
 rw [hs] at hl1
 simp only [List.length_append] at hl1
 have hih:=ih j hc'
 by_cases h5 : kd=5
 ·subst h5
  have hjk : j < keys.length:=by rw [hkn rfl];exact hc'
  obtain ⟨tgk,hkt,c3,c4⟩:=hk.strAt hjk
  have c2 : (j : Int) < (keys.length : Int):=by omega
  have hsK:=p_rKey 3 0 keys[j] (by have:=hks _ (List.getElem_mem hjk);omega)
  have e : keys.getD j []=keys[j]:=by simp [List.getD_eq_getElem?_getD,hjk]
  rw [if_pos rfl,e] at hs hl1
  simp only [go_sem,seval,q1,q3,q19,q20,q21,hit,hkt,a1,a2,a3,a4,c2,c3,c4,x1,x3,x4,t0',Int.toNat_natCast,SS]
  (first | refine callO_pure (hsK) ?_ | refine dpureO_of (hsK) ?_ | refine dpureO_save (hsK) ?_ | refine dcallO_pure (hsK) (by simp only [go_sem,seval,q1,q3,q19,q20,q21,x1,x3,x4,SS]) ?_ | refine dcallO_pure (hsK) ?_ ?_)<;>simp only [go_sem,seval,q1,q3,q19,q20,q21,x1,x3,x4,SS]
  refine ⟨by omega, ?_⟩
  (first | refine callO_pure (hih) ?_ | refine dpureO_of (hih) ?_ | refine dpureO_save (hih) ?_ | refine dcallO_pure (hih) (by simp only [go_sem,seval,q1,q3,q19,q20,q21,a6]) ?_ | refine dcallO_pure (hih) ?_ ?_)<;>simp only [go_sem,seval,q1,q3,q19,q20,q21,a6]
  exact ⟨by simp;omega,cs.length-(j+1),by omega,j+1,rfl,by omega,by rw [hs];simp,hit,rfl,by rw [← hit,← hkt];exact t0' _⟩
 ·have h5' : (kd == 5)=false:=by simpa using h5
  rw [if_neg h5] at hs hl1
  simp only [go_sem,seval,q1,q3,q19,q20,q21,hit,a1,a2,a3,a4,x1,x3,x4,t0',hkc,hic,h5',Int.toNat_natCast,SS]
  (first | refine callO_pure (hih) ?_ | refine dpureO_of (hih) ?_ | refine dpureO_save (hih) ?_ | refine dcallO_pure (hih) (by simp only [go_sem,seval,q1,q3,q19,q20,q21,a6]) ?_ | refine dcallO_pure (hih) ?_ ?_)<;>simp only [go_sem,seval,q1,q3,q19,q20,q21,a6]
  exact ⟨by simp at hl1 ⊢;omega,cs.length-(j+1),by omega,j+1,rfl,by omega,by rw [hs];simp,hit,rfl,by rw [← hit];exact t0' _⟩
mutual
theorem p_keyT : ∀ (v : T) (c : List VV) (q : Nat),TrV v.tree c→v.Sm→v.wf q→v.nd≤20000→PV Tryz.prog G0 46 [.agg c] (.str v.key)
 | .sc k i t,c,q,h,hs,hw,hn=>by
  cases hs with
  | sc ht hi =>
  simp only [T.tree] at h
  cases h with
  | @node _ _ _ _ _ kv iv cs h1 h2 h3 =>
  have hkp:=h1.pure
  have hip:=h3.pure
  have hkc:=h1.cell
  have hic:=h3.cell
  have hP:=p_rPlain k i t kv iv hkp hip hkc hic
  have hK:=p_rKey k i t (by omega)
  have hk3 : k≤3:=by
   have:=hw.2
   rcases this with h | h | h | h<;>omega
  have b1 : decide (k≤3)=true:=decide_eq_true hk3
  refine pv e46 (by simp) (by simp only [VV.arePure,VV.isPure,hkp,hip];rfl) rfl ?_
  simp only [go_sem,seval] at hkc
  simp only [go_sem,seval] at hic
  simp only [go_sem,seval,c46,hkc,hic,b1]
  (first | refine callO_pure (hP) ?_ | refine dpureO_of (hP) ?_ | refine dpureO_save (hP) ?_ | refine dcallO_pure (hP) (by simp only [go_sem,seval,hkc,hic]) ?_ | refine dcallO_pure (hP) ?_ ?_)<;>simp only [go_sem,seval,hkc,hic]
  (first | refine callO_pure (hK) ?_ | refine dpureO_of (hK) ?_ | refine dpureO_save (hK) ?_ | refine dcallO_pure (hK) (by simp only [go_sem,seval]) ?_ | refine dcallO_pure (hK) ?_ ?_)<;>simp only [go_sem,seval]
  exact fin (by rfl) rfl
 | .vec l,c,q,h,hs,hw,hn=>by
  cases hs with
  | vec hs =>
  simp only [T.tree] at h
  simp only [T.nd] at hn
  cases h with
  | @node _ _ _ _ _ kv iv cs h1 h2 h3 =>
  have hl : cs.length=l.length:=by rw [h2.len,trees_map];simp
  have hle:=keys_le l false hs
  have:=key_node 4 (by decide) (by decide) [] kv iv cs h1 h3 (by have:=nds_len l;omega) (by simp) (by simp) (fun j=>T.keys (l.take j)) (fun j=>(l.getD j default).key) rfl
   (fun j hj=>by rw [hl] at hj;rw [keys_take hj,if_neg (by decide)];simp [List.getD_eq_getElem?_getD,hj]) (fun j _=>by have:=keys_take_le l j;omega) (fun j hj=>p_keysT l cs (q+1) h2 hs hw.2 (by omega) j hj)
  simp only [hl,List.take_length] at this
  exact this
 | .map l,c,q,h,hs,hw,hn=>by
  cases hs with
  | map hs1 hs2 =>
  simp only [T.tree] at h
  simp only [T.nd] at hn
  cases h with
  | @node _ _ _ _ _ kv iv cs h1 h2 h3 =>
  have hl : cs.length=l.length:=by rw [h2.len,mtrees_map];simp
  have hle:=mkeys_le l false fun p hp=>⟨hs1 p hp,hs2 p hp⟩
  have:=key_node 5 (by decide) (by decide) (l.map (·.1)) kv iv cs h1 h3 (by have:=ndm_len l;omega) (by simp [hl]) (fun k hk=>by obtain ⟨p,hp,rfl⟩:=List.mem_map.1 hk;have:=hs1 p hp;omega) (fun j=>T.mkeys (l.take j)) (fun j=>(l.getD j default).2.key) rfl
   (fun j hj=>by rw [hl] at hj;rw [mkeys_take hj,if_pos (show (5 : Int)=5 from rfl)];simp [List.getD_eq_getElem?_getD,hj]) (fun j _=>by have:=mkeys_take_le l j;omega) (fun j hj=>p_mkeysT l cs (q+1) h2 hs2 hw.2.2 (by omega) j hj)
  simp only [hl,List.take_length] at this
  exact this
 | .set l,c,q,h,hs,hw,hn=>by
  cases hs with
  | set hs =>
  simp only [T.tree] at h
  simp only [T.nd] at hn
  cases h with
  | @node _ _ _ _ _ kv iv cs h1 h2 h3 =>
  have hl : cs.length=l.length:=by rw [h2.len,trees_map];simp
  have hle:=keys_le l false hs
  have:=key_node 6 (by decide) (by decide) [] kv iv cs h1 h3 (by have:=nds_len l;omega) (by simp) (by simp) (fun j=>T.keys (l.take j)) (fun j=>(l.getD j default).key) rfl
   (fun j hj=>by rw [hl] at hj;rw [keys_take hj,if_neg (by decide)];simp [List.getD_eq_getElem?_getD,hj]) (fun j _=>by have:=keys_take_le l j;omega) (fun j hj=>p_keysT l cs (q+1) h2 hs hw.2.2 (by omega) j hj)
  simp only [hl,List.take_length] at this
  exact this
theorem p_keysT : ∀ (l : List T) (cs : List (List VV)) (q : Nat),TrVs (T.trees l) cs→(∀ x ∈ l,x.Sm)→T.wfs q l→T.nds l≤20000→∀ (j : Nat) (h : j < cs.length),PV Tryz.prog G0 46 [.agg cs[j]] (.str (l.getD j default).key)
 | [],_,_,.nil,_,_,_,j,h=>absurd h (Nat.not_lt_zero _)
 | x::l,c::cs,q,.cons h1 h2,hs,hw,hn,0,h=>p_keyT x c q h1 (hs x (by simp)) hw.1 (by simp only [T.nds] at hn;omega)
 | x::l,c::cs,q,.cons h1 h2,hs,hw,hn,j+1,h=>p_keysT l cs q h2 (fun y hy=>hs y (by simp [hy])) hw.2 (by simp only [T.nds] at hn;omega) j (by simpa using h)
theorem p_mkeysT : ∀ (l : List (Bs × T)) (cs : List (List VV)) (q : Nat),TrVs (T.mtrees l) cs→(∀ p ∈ l,p.2.Sm)→T.wfm q l→T.ndm l≤20000→∀ (j : Nat) (h : j < cs.length),PV Tryz.prog G0 46 [.agg cs[j]] (.str (l.getD j default).2.key)
 | [],_,_,.nil,_,_,_,j,h=>absurd h (Nat.not_lt_zero _)
 | x::l,c::cs,q,.cons h1 h2,hs,hw,hn,0,h=>p_keyT x.2 c q h1 (hs x (by simp)) hw.1 (by simp only [T.ndm] at hn;omega)
 | x::l,c::cs,q,.cons h1 h2,hs,hw,hn,j+1,h=>p_mkeysT l cs q h2 (fun y hy=>hs y (by simp [hy])) hw.2 (by simp only [T.ndm] at hn;omega) j (by simpa using h)
end
end Go.V
