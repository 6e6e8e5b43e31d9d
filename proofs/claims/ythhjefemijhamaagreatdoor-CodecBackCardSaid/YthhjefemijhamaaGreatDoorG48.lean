/- Texts L25 F91 F92 F94 L26 F96. -/
import Derived.Test.YthhjefemijhamaaGreatDoorG28
import Derived.Test.YthhjefemijhamaaGreatDoorG34
import Derived.Test.YthhjefemijhamaaGreatDoorG42
import Derived.Test.YthhjefemijhamaaGreatDoorG43
import Derived.Test.YthhjefemijhamaaGreatDoorG44
import Derived.Test.YthhjefemijhamaaGreatDoorG45
set_option linter.unusedVariables false
set_option linter.unusedSimpArgs false
namespace Go.V
mutual
def T.tree : T→Tr
 | .sc k i t=>.node k i t [] []
 | .vec l=>.node 4 0 [] [] (T.trees l)
 | .map l=>.node 5 0 [] (l.map (·.1)) (T.mtrees l)
 | .set l=>.node 6 0 [] [] (T.trees l)
def T.trees : List T→List Tr
 | []=>[]
 | x::l=>x.tree::T.trees l
def T.mtrees : List (Bs × T)→List Tr
 | []=>[]
 | p::l=>p.2.tree::T.mtrees l
end
theorem trees_map : ∀ l : List T,T.trees l=l.map T.tree
 | []=>rfl
 | x::l=>by simp [T.trees,trees_map l]
theorem mtrees_map : ∀ l : List (Bs × T),T.mtrees l=l.map (·.2.tree)
 | []=>rfl
 | x::l=>by simp [T.mtrees,mtrees_map l]
theorem nds_len : ∀ l : List T,l.length≤T.nds l
 | []=>by simp
 | x::l=>by have:=nds_len l;have:=enc_pos x;simp only [T.nds,List.length_cons];omega
theorem ndm_len : ∀ l : List (Bs × T),l.length≤T.ndm l
 | []=>by simp
 | x::l=>by have:=ndm_len l;have:=enc_pos x.2;simp only [T.ndm,List.length_cons];omega
end Go.V
namespace Go.V
open Go.Proofs
set_option maxRecDepth 100000
def Fresh (σ : Store) (v : VV) : Prop:=∀ id o n z,v=.msl id o n z→σ.length≤id
inductive GSl (k : Nat) (σ : Store) : VV→List (List VV)→Prop
 | nil : GSl k σ .nils []
 | emp : GSl k σ (.sl 0 [] true) []
 | own {id : Nat} {xs : List (List VV)} : Blk k xs→σ[id]?=some (.own xs.flatten)→GSl k σ (.msl id 0 xs.length k) xs
theorem GSl.blk {k : Nat} {σ : Store} {v : VV} {xs : List (List VV)} (h : GSl k σ v xs) : Blk k xs:=by
 cases h with
 | own h _=>exact h
 | _=>exact .nil
theorem GSl.keep {k : Nat} {σ σ' : Store} {v : VV} {xs : List (List VV)} (h : GSl k σ v xs) (hs : ∀ id o n z,v=.msl id o n z→σ'[id]?=σ[id]?) : GSl k σ' v xs:=by
 cases h with
 | nil=>exact .nil
 | emp=>exact .emp
 | own hB h=>exact .own hB (by rw [hs _ _ _ _ rfl];exact h)
theorem GSl.dom {k : Nat} {σ : Store} {v : VV} {xs : List (List VV)} (h : GSl k σ v xs) {id o n z : Nat} (e : v=.msl id o n z) : id < σ.length:=by
 cases h with
 | own hB h=>cases e;exact (List.getElem?_eq_some_iff.1 h).1
 | _=>cases e
theorem GSl.kept {k : Nat} {σ σ' : Store} {v w : VV} {xs : List (List VV)} (h : GSl k σ v xs) (hK : Kept σ w σ') (hne : ∀ id o n z o' n' z',v=.msl id o n z→w≠.msl id o' n' z') : GSl k σ' v xs :=
 h.keep fun id o n z e=>hK.2 id (h.dom e) fun o' n' z'=>hne id o n z o' n' z' e
theorem GSl.fz {k : Nat} {σ : Store} {v : VV} {xs : List (List VV)} (h : GSl k σ v xs) (hne : xs≠[]) (m : Nat) : fz (m+1) (σ.map Obj.fr) v=some (.sl xs.length xs.flatten false):=by
 cases h with
 | own hB h=>exact fz_msl' (by rw [List.getElem?_map,h];rfl) hB rfl
 | _=>exact absurd rfl hne
theorem GSl.snoc {k : Nat} {σ : Store} {v : VV} {xs : List (List VV)} (h : GSl k σ v xs) (τ : Store) : GSl k (σ++τ) v xs:=h.keep fun id o n z e=>by
 subst e
 cases h with
 | own hB h=>exact List.getElem?_append_left (List.getElem?_eq_some_iff.1 h).1
theorem GSl.app {k : Nat} {σ : Store} {v x : VV} {xs ys : List (List VV)} (h : GSl k σ v xs) {t tx e : TypeId} {by_ : Nat} {z : List VV} (ht : tsl Tryz.prog t=some e) (hk : tsz Tryz.prog e=some k) (hy : tby Tryz.prog e=some by_) (hz : tzero Tryz.prog e=some z) (hzk : z.length=k) (hk0 : 0 < k) (hb : by_≤1000) (hC : Blk k ys) (hl : xs.length+ys.length≤1000000)
  (hx : srcCells Tryz.prog σ k tx x=some (ys.length,ys.flatten)) : ∃ p v' σ',p∧evAppend Tryz.prog t tx v x σ=some ⟨p,v',σ'⟩∧GSl k σ' v' (xs++ys)∧Kept σ v σ'∧Fresh σ v':=by
 cases h with
 | nil =>
  by_cases hne : ys=[]
  ·subst hne
   exact ⟨True,.nils,σ,trivial,by simp only [evAppend,ht,hk,hy,hz,hx,List.length_nil,if_true,okV],.nil,⟨Nat.le_refl _,fun _ _ _=>rfl⟩,fun _ _ _ _ e=>by cases e⟩
  ·obtain ⟨p,hp,he⟩:=app_nils ht hk hy hz hzk hk0 hb hC (by omega) hne hx
   exact ⟨p,_,_,hp,he,.own hC (by simp),⟨by simp,fun j hj _=>List.getElem?_append_left hj⟩,fun id o n z e=>by cases e;exact Nat.le_refl _⟩
 | emp =>
  by_cases hne : ys=[]
  ·subst hne
   exact ⟨True,.sl 0 [] true,σ,trivial,by simp only [evAppend,ht,hk,hy,hz,hx,List.length_nil,if_true,okV],.emp,⟨Nat.le_refl _,fun _ _ _=>rfl⟩,fun _ _ _ _ e=>by cases e⟩
  ·have hne' : ys.length≠0:=fun h=>hne (List.eq_nil_of_length_eq_zero h)
   have:=Nat.mul_le_mul hl hb
   refine ⟨_,_,_, ?_,by simp only [evAppend,ht,hk,hy,hz,hx,if_neg hne',if_true,List.nil_append,Nat.zero_add];rfl,.own hC (by simp),⟨by simp,fun j hj _=>List.getElem?_append_left hj⟩,fun id o n z e=>by cases e;exact Nat.le_refl _⟩
   refine ⟨⟨by simp at hl;omega,by simp at this;omega,hC.flat,hk0,hC.fcell,hzk⟩,by simp,rfl⟩
 | own hB hid =>
  obtain ⟨p,hp,he⟩:=app_own ht hk hy hz hzk hk0 hb hid hB hC hl rfl hx
  refine ⟨p,_,_,hp,he,.own (hB.append hC) (by rw [List.getElem?_append_right (by simp)];simp),⟨by simp,fun j hj hne=>?_⟩,fun id o n z e=>by cases e;exact Nat.le_refl _⟩
  rw [List.getElem?_append_left (by simpa using hj),List.getElem?_set_ne (fun e=>hne _ _ _ (by rw [e]))]
theorem GSl.step {k : Nat} {σ : Store} {v x : VV} {xs ys : List (List VV)} (h : GSl k σ v xs) {t tx e : TypeId} {by_ : Nat} {z : List VV} (ht : tsl Tryz.prog t=some e) (hk : tsz Tryz.prog e=some k) (hy : tby Tryz.prog e=some by_) (hz : tzero Tryz.prog e=some z) (hzk : z.length=k) (hk0 : 0 < k) (hb : by_≤1000) (hC : Blk k ys) (hl : xs.length+ys.length≤1000000)
  (hx : srcCells Tryz.prog σ k tx x=some (ys.length,ys.flatten)) {d : Nat} {r : List VO} {Q : Out→Env→Store→Prop} {ρ : Env} (hn : ∀ v' σ',GSl k σ' v' (xs++ys)→Kept σ v σ'→Fresh σ v'→opsW Tryz.prog G0 r Q ((d,v')::ρ) σ') : stepO Tryz.prog G0 (evAppend Tryz.prog t tx v x σ) (some d) r Q ρ:=by
 obtain ⟨p,v',σ',hp,he,h1,h2,h3⟩:=h.app ht hk hy hz hzk hk0 hb hC hl hx
 rw [he]
 exact ⟨hp,hn v' σ' h1 h2 h3⟩
theorem GSl.dstep {k : Nat} {σ : Store} {v x : VV} {xs ys : List (List VV)} (h : GSl k σ v xs) {t tx e : TypeId} {by_ : Nat} {z : List VV} (ht : tsl Tryz.prog t=some e) (hk : tsz Tryz.prog e=some k) (hy : tby Tryz.prog e=some by_) (hz : tzero Tryz.prog e=some z) (hzk : z.length=k) (hk0 : 0 < k) (hb : by_≤1000) (hC : Blk k ys) (hl : xs.length+ys.length≤1000000)
  (hx : srcCells Tryz.prog σ k tx x=some (ys.length,ys.flatten)) {d : Nat} {chk : List Nat} {pd : Pend} {r : List DO} {Q : Out→Env→Store→Prop} {ρ : Env} (hn : ∀ v' σ',GSl k σ' v' (xs++ys)→Kept σ v σ'→Fresh σ v'→chkAll Tryz.prog G0 chk pd σ'∧drawW Tryz.prog G0 r pd Q (putV ρ (some d) v') σ') : deffO Tryz.prog G0 (evAppend Tryz.prog t tx v x σ) (some d) chk r pd Q ρ:=by
 obtain ⟨p,v',σ',hp,he,h1,h2,h3⟩:=h.app ht hk hy hz hzk hk0 hb hC hl hx
 rw [he]
 exact ⟨hp,hn v' σ' h1 h2 h3⟩
theorem fz_agg {n : Nat} {τ : Store} {ys zs : List VV} (h : ys.mapM (fz n τ)=some zs) : fz (n+1) τ (.agg ys)=some (.agg zs):=by
 rw [fz]
 split
 ·rename_i hp
  simp only [VV.isPure] at hp
  rw [mapM_fz hp] at h
  cases h;rfl
 ·simp only [h,Option.map_some]
end Go.V
namespace Go.V
open Go.Proofs
set_option maxRecDepth 100000
theorem SlV.strAt {kv : VV} {keys : List Bs} (hk : SlV 1 kv (keys.map fun b=>[VV.str b])) {j : Nat} (hj : j < keys.length) :
  ∃ tg,kv=.sl keys.length (keys.map fun b=>[VV.str b]).flatten tg∧j*1 < (keys.map fun b=>[VV.str b]).flatten.length∧(keys.map fun b=>[VV.str b]).flatten.getD (j*1) .undef=VV.str keys[j]:=by
 obtain ⟨tg,hkt⟩:=hk.sl_of (by intro e;have:=congrArg List.length e;simp at this;rw [this] at hj;simp at hj)
 rw [List.length_map] at hkt
 refine ⟨tg,hkt,by rw [hk.blk.flat,List.length_map];omega, ?_⟩
 have h:=hk.blk.fget (i:=j) (by simpa using hj)
 have h2:=congrArg (·[0]?) h
 simp only [List.getElem?_take_of_lt (Nat.zero_lt_one),List.getElem?_drop,List.getElem_map,List.getElem?_cons_zero,Nat.add_zero] at h2
 rw [List.getD_eq_getElem?_getD,h2];rfl
theorem SlV.cellsAt {k : Nat} {iv : VV} {cs : List (List VV)} (hi : SlV k iv cs) {j : Nat} (hj : j < cs.length) :
  ∃ tg,iv=.sl cs.length cs.flatten tg∧j*k+k≤cs.flatten.length∧(cs.flatten.drop (j*k)).take k=cs[j]:=by
 obtain ⟨tg,hit⟩:=hi.sl_of (by intro e;rw [e] at hj;simp at hj)
 refine ⟨tg,hit, ?_,hi.blk.fget hj⟩
 rw [hi.blk.flat,← Nat.succ_mul]
 exact Nat.mul_le_mul_right _ hj
end Go.V
namespace Go.V
open Go.Proofs
set_option maxRecDepth 100000
def frz (xs : List (List VV)) : VV:=if xs=[] then .nils else .sl xs.length xs.flatten false
theorem frz_sl {k : Nat} {xs : List (List VV)} (h : Blk k xs) : SlV k (frz xs) xs:=by
 unfold frz
 split
 ·rename_i e;subst e;exact .nil
 ·exact SlV.of h rfl rfl
theorem frz_pure {k : Nat} {xs : List (List VV)} (h : Blk k xs) : (frz xs).isPure=true:=(frz_sl h).pure
theorem list_of {α : Type} {n : Nat} {p : Nat→α→Prop} (h : ∀ i,i < n→∃ x,p i x) : ∃ l : List α,l.length=n∧∀ (i : Nat) (hi : i < l.length),p i l[i]:=by
 induction n with
 | zero=>exact ⟨[],rfl,fun i hi=>absurd hi (Nat.not_lt_zero _)⟩
 | succ n ih =>
  obtain ⟨l,hl,hp⟩:=ih fun i hi=>h i (by omega)
  obtain ⟨x,hx⟩:=h n (by omega)
  refine ⟨l++[x],by simp [hl],fun i hi=>?_⟩
  by_cases h1 : i < l.length
  ·rw [List.getElem_append_left h1];exact hp i h1
  ·have : i=n:=by simp at hi;omega
   subst this
   subst hl
   simpa using hx
theorem GSl.cell {k : Nat} {σ : Store} {v : VV} {xs : List (List VV)} (h : GSl k σ v xs) : v.isCell=true:=by cases h<;>rfl
theorem GSl.fzF {k : Nat} {σ : Store} {v : VV} {xs : List (List VV)} (h : GSl k σ v xs) (hv : xs=[]→v=.nils) (m : Nat) : Go.V.fz (m+1) (σ.map Obj.fr) v=some (frz xs):=by
 unfold frz
 split
 ·rename_i e;rw [hv e];rfl
 ·rename_i e;exact h.fz e m
end Go.V
namespace Go.V
def Apart (l : List Bs) (a : Nat) : Prop:=∀ (x y : Nat) (hx : x < l.length) (hy : y < l.length),x < y→y < a→l[x]≠l[y]
theorem Apart.nodup {l : List Bs} (h : Apart l l.length) : l.Nodup:=by
 unfold List.Nodup
 rw [List.pairwise_iff_getElem]
 exact fun i j hi hj hij=>h i j hi hj hij hj
end Go.V
namespace Go.V
open Go.Proofs
set_option maxRecDepth 100000
theorem GSl.msl {k : Nat} {σ : Store} {v : VV} {xs : List (List VV)} (h : GSl k σ v xs) (hne : xs≠[]) : ∃ id,v=.msl id 0 xs.length k∧σ[id]?=some (.own xs.flatten):=by
 cases h with
 | own hB h=>exact ⟨_,rfl,h⟩
 | _=>exact absurd rfl hne
theorem GSl.evLen {k : Nat} {σ : Store} {v : VV} {xs : List (List VV)} (h : GSl k σ v xs) {t e : TypeId} (ht : tsl Tryz.prog t=some e) {σ' : Store} : evLen Tryz.prog t v σ'=okV (.int .i64 xs.length) σ':=by
 cases h with
 | nil=>exact evLenS_nils (by simp [ht])
 | emp=>exact evLenS_sl (by simp [ht])
 | own=>exact evLenS_msl (by simp [ht])
end Go.V
