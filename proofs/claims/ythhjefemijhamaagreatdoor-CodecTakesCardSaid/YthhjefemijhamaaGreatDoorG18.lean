/- Texts F15 F16 F17 F18. -/
import Derived.Test.YthhjefemijhamaaGreatDoorG17
set_option linter.unusedVariables false
set_option linter.unusedSimpArgs false
namespace Go.V
open Go.Proofs
set_option maxRecDepth 100000
def Z4 (h k : Int) : Int:=IntKind.u64.wrap ↑(BitVec.ofInt 64 (IntKind.u64.wrap (h*2 ^ min (IntKind.u64.wrap ↑(BitVec.ofInt 64 (IntKind.u64.wrap k) &&& 63#64).toNat).toNat 64)) |||
 BitVec.ofInt 64 (h.fdiv (2 ^ min (IntKind.u64.wrap (64-IntKind.u64.wrap ↑(BitVec.ofInt 64 (IntKind.u64.wrap k) &&& 63#64).toNat)).toNat 64))).toNat
theorem qc (n : Int) : 0≤IntKind.u64.wrap n:=by rw [wu64];omega
theorem Rq (h k : Int) : PV Tryz.prog G0 217 [.int .u64 h,.int .i64 k] (.int .u64 (Z4 h k)):=by
 refine pv e217 (by simp) rfl rfl ?_
 simp only [go_sem,seval,c217]
 exact ⟨qc _,qc _,fin (by rfl) rfl⟩
def IL (h k : Int) : Int:=IntKind.u64.wrap (Z4 (IntKind.u64.wrap (IntKind.u64.wrap ↑(BitVec.ofInt 64 h ^^^ BitVec.ofInt 64 k).toNat*11400714819323198485)) 31+15485907386658061715)
theorem P5 (h k : Int) : PV Tryz.prog G0 199 [.int .u64 h,.int .u64 k] (.int .u64 (IL h k)):=by
 refine pv e199 (by simp) rfl rfl ?_
 simp only [go_sem,seval,c199]
 refine ah (Rq _ _) ?_<;>simp only [go_sem,seval]
 exact fin (by rfl) rfl
def Z5 (h : Int) : Int:=IntKind.u64.wrap ↑(BitVec.ofInt 64 (IntKind.u64.wrap (IntKind.u64.wrap ↑(BitVec.ofInt 64 h ^^^ BitVec.ofInt 64 (h.fdiv (2 ^ min 32 64))).toNat*15485907386658061715)) ^^^
 BitVec.ofInt 64 ((IntKind.u64.wrap (IntKind.u64.wrap ↑(BitVec.ofInt 64 h ^^^ BitVec.ofInt 64 (h.fdiv (2 ^ min 32 64))).toNat*15485907386658061715)).fdiv (2 ^ min 32 64))).toNat
theorem aax (h : Int) : PV Tryz.prog G0 201 [.int .u64 h] (.int .u64 (Z5 h)):=by
 refine pv e201 (by simp) rfl rfl ?_
 simp only [go_sem,seval,c201]
 exact fin (by rfl) rfl
def wQ (h k : Int) : Int:=if k≤0 then 0 else if k≥64 then h else IntKind.u64.wrap ↑(BitVec.ofInt 64 h &&& BitVec.ofInt 64 (IntKind.u64.wrap (IntKind.u64.wrap (1*2 ^ min (IntKind.u64.wrap k).toNat 64)-1))).toNat
theorem Rj (h k : Int) : PV Tryz.prog G0 188 [.int .u64 h,.int .i64 k] (.int .u64 (wQ h k)):=by
 refine pv e188 (by simp) rfl rfl ?_
 simp only [go_sem,seval,c188]
 refine aj (fun h1=>?_) (fun h1=>?_)
 ·simp only [go_sem,seval]
  refine fin (by rfl) ?_
  unfold wQ;rw [if_pos (by simpa using h1)]
 ·simp only [go_sem,seval]
  refine aj (fun h2=>?_) (fun h2=>?_)
  ·simp only [go_sem,seval]
   refine fin (by rfl) ?_
   unfold wQ;rw [if_neg (by simp at h1;omega),if_pos (by simpa using h2)]
  ·simp only [go_sem,seval]
   refine ⟨qc _,fin (by rfl) ?_⟩
   unfold wQ;rw [if_neg (by simp at h1;omega),if_neg (by simp at h2;omega)]
   rfl
def iJ (h : Int) (k : Nat) : Nat:=if k≥13 then 0 else ((BitVec.ofInt 64 (h.fdiv (2 ^ min (IntKind.u64.wrap (IntKind.i64.wrap (5*(k : Int)))).toNat 64)) &&& 31#64).toNat)
theorem pq (h : Int) (k : Nat) : iJ h k < 32:=by
 unfold iJ
 split
 ·omega
 ·rw [BitVec.toNat_and]
  have:=Nat.and_le_right (n:=(BitVec.ofInt 64 (h.fdiv (2 ^ min (IntKind.u64.wrap (IntKind.i64.wrap (5*(k : Int)))).toNat 64))).toNat) (m:=(31#64).toNat)
  have e : (31#64).toNat=31:=by decide
  omega
theorem zU (h : Int) (k : Nat) : PV Tryz.prog G0 162 [.int .u64 h,.int .i64 k] (.int .i64 (iJ h k)):=by
 have hlt:=pq h k
 refine pv e162 (by simp) rfl rfl ?_
 have h0 : decide ((k : Int) < 0)=false:=by simp
 simp only [go_sem,seval,c162,h0,Bool.not_false]
 refine aj (fun h1=>?_) (fun h1=>?_)
 ·simp only [go_sem,seval]
  refine fin (by rfl) ?_
  unfold iJ;rw [if_pos (by simp at h1;omega)];rfl
 ·have e:=hlt
  unfold iJ at e
  rw [if_neg (by simp at h1;omega)] at e
  simp only [go_sem,seval]
  refine ⟨qc _,fin (by rfl) ?_⟩
  unfold iJ;rw [if_neg (by simp at h1;omega)]
  have e0 : ∀ q : Nat,q < 32→IntKind.i64.wrap (IntKind.u64.wrap (q : Int))=q:=fun q hq=>by rw [uw (by omega),iw (by omega)]
  exact congrArg (VV.int .i64) (e0 _ e)
def Rn (x : Int) : Option UInt8→Int
 | none=>IntKind.u64.wrap (x*2 ^ min 8 64)
 | some b=>IntKind.u64.wrap ↑(BitVec.ofInt 64 (IntKind.u64.wrap (x*2 ^ min 8 64)) ||| BitVec.ofInt 64 (IntKind.u64.wrap (b.toNat : Int))).toNat
def AZ (s : Bs) (p : Nat) (n : Nat) : Int:=(List.range n).foldl (fun x i=>Rn x s[p+i]?) 0
theorem Ar (s : Bs) (p n : Nat) : AZ s p (n+1)=Rn (AZ s p n) s[p+n]?:=by simp [AZ,List.range_succ]
theorem Va (s : Bs) (p : Nat) (hp : p≤s.length) (hs : s.length≤1000000000) : PV Tryz.prog G0 200 [.str s,.int .i64 p] (.int .u64 (AZ s p 8)):=by
 refine pv e200 (by simp) rfl rfl ?_
 simp only [go_sem,seval,c200]
 refine aG (fun m ρ σ=>∃ i : Nat,m=8-i∧i≤8∧ρ.get 0=.str s∧ρ.get 1=.int .i64 p∧ρ.get 5=.int .u64 (AZ s p i)∧ρ.get 7=.int .i64 i∧σ=[]) (n:=8) ?_ ⟨0,rfl,by omega,rfl,rfl,rfl,rfl,rfl⟩
 rintro m ρ σ ⟨i,rfl,hi,h0,h1,h5,h7,rfl⟩
 simp only [go_sem,seval,h0,h1,h5,h7]
 refine aj (fun hc=>?_) (fun hc=>?_)
 ·have hc' : i < 8:=by simp at hc;omega
  have e1 : IntKind.i64.wrap ((p : Int)+i)=((p+i : Nat) : Int):=by rw [iw (by omega)];omega
  have e2 : IntKind.i64.wrap ((i : Int)+1)=((i+1 : Nat) : Int):=by rw [iw (by omega)];omega
  simp only [go_sem,seval,h0,h1,h5,h7,e1]
  refine aj (fun hb=>?_) (fun hb=>?_)
  ·have hb' : p+i < s.length:=by simp at hb;omega
   have g : s.getD (p+i) 0=s[p+i]:=by simp [List.getD_eq_getElem?_getD,hb']
   have hw:=Ar s p i
   rw [List.getElem?_eq_getElem hb'] at hw
   simp only [go_sem,seval,h0,h1,h5,h7,e1,e2,Int.toNat_natCast,g]
   refine ⟨by omega, ?_⟩
   refine ⟨8-(i+1),by omega,i+1, ?_⟩
   and_intros
   all_goals first | rfl | omega | (rw [hw];rfl)
  ·have hw:=Ar s p i
   rw [List.getElem?_eq_none (by simp at hb;omega)] at hw
   simp only [go_sem,seval,h0,h1,h5,h7,e1,e2]
   refine ⟨8-(i+1),by omega,i+1, ?_⟩
   and_intros
   all_goals first | rfl | omega | (rw [hw];rfl)
 ·have hc' : i=8:=by simp at hc;omega
  subst hc'
  simp only [go_sem,seval,h0,h1,h5,h7]
  exact fin (by rfl) rfl
def IE (s : Bs) (h : Int) (n : Nat) : Int:=(List.range n).foldl (fun h i=>IL h (AZ s (8*i) 8)) h
theorem MB (s : Bs) (h : Int) (n : Nat) : IE s h (n+1)=IL (IE s h n) (AZ s (8*n) 8):=by simp [IE,List.range_succ]
def Xv (seed : Int) (s : Bs) : Int:=Z5 (IE s (IL seed (IntKind.u64.wrap (s.length : Int))) ((s.length+7) / 8))
theorem Y0 (seed : Int) (s : Bs) (hs : s.length≤1000000000) : PV Tryz.prog G0 189 [.int .u64 seed,.str s] (.int .u64 (Xv seed s)):=by
 refine pv e189 (by simp) rfl rfl ?_
 simp only [go_sem,seval,c189]
 refine ah (P5 _ _) ?_<;>simp only [go_sem,seval]
 refine aG (fun m ρ σ=>∃ i : Nat,m=(s.length+7) / 8-i∧i≤(s.length+7) / 8∧ρ.get 1=.str s∧ρ.get 5=.int .u64 (IE s (IL seed (IntKind.u64.wrap (s.length : Int))) i)∧ρ.get 6=.int .i64 (8*i : Nat)∧σ=[]) (n:=(s.length+7) / 8) ?_ ⟨0,rfl,by omega,rfl,rfl,rfl,rfl⟩
 rintro m ρ σ ⟨i,rfl,hi,h1,h5,h6,rfl⟩
 simp only [go_sem,seval,h1,h5,h6]
 refine aj (fun hc=>?_) (fun hc=>?_)
 ·have hc' : 8*i < s.length:=by simp at hc;omega
  have e2 : IntKind.i64.wrap (((8*i : Nat) : Int)+8)=((8*(i+1) : Nat) : Int):=by rw [iw (by omega)];omega
  simp only [go_sem,seval,h1,h5,h6]
  refine ah (Va s (8*i) (by omega) hs) ?_<;>simp only [go_sem,seval,h1,h5,h6]
  refine ah (P5 _ _) ?_<;>simp only [go_sem,seval,h1,h5,h6,e2]
  refine ⟨(s.length+7) / 8-(i+1),by omega,i+1, ?_⟩
  and_intros
  all_goals first | rfl | omega | (rw [MB])
 ·have hc' : i=(s.length+7) / 8:=by simp at hc;omega
  subst hc'
  simp only [go_sem,seval,h1,h5,h6]
  refine ah (aax _) ?_<;>simp only [go_sem,seval]
  exact fin (by rfl) rfl
def kW (seed bits : Int) (k : Bs) : Int:=wQ (Xv seed k) bits
inductive Fg : VV→Prop
 | nil : Fg .nilp
 | ptr (cells : List VV) (off : Nat) (h : VV.ak cells=true) : Fg (.ptr cells off)
theorem Fg.pure {v : VV} (h : Fg v) : v.isPure=true:=by cases h with | nil=>rfl | ptr c o h=>exact h
theorem SI (seed bits n : Int) (root : VV) (hr : Fg root) (k : Bs) (hs : k.length≤1000000000) : PV Tryz.prog G0 163 [.agg [.int .u64 seed,.int .i64 bits,.int .i64 n,root],.str k] (.int .u64 (kW seed bits k)):=by
 refine pv e163 (by simp) (by simp [VV.ak,VV.isPure,hr.pure]) rfl ?_
 have hc : root.aF=true:=by cases hr<;>rfl
 simp only [go_sem,seval] at hc
 simp only [go_sem,seval,c163,hc]
 refine aC (Y0 seed k hs) (by simp only [go_sem,seval,hc]) ?_<;>simp only [go_sem,seval,hc]
 refine aC (Rj _ bits) (by simp only [go_sem,seval,hc]) ?_<;>simp only [go_sem,seval,hc]
 exact fin (by rfl) rfl
end Go.V
namespace Go.V
open Go.Proofs
set_option maxRecDepth 100000
structure dS (k : Nat) (xs : List (List VV)) : Prop where
 len : ∀ x ∈ xs,x.length=k
 pure : ∀ x ∈ xs,VV.ak x=true
 cell : ∀ x ∈ xs,aU x=true
theorem dS.nil {k : Nat} : dS k []:=⟨by simp,by simp,by simp⟩
theorem dS.append {k : Nat} {xs ys : List (List VV)} (h : dS k xs) (h' : dS k ys) : dS k (xs++ys) :=
 ⟨fun x hx=>(List.mem_append.1 hx).elim (h.len x) (h'.len x),fun x hx=>(List.mem_append.1 hx).elim (h.pure x) (h'.pure x),fun x hx=>(List.mem_append.1 hx).elim (h.cell x) (h'.cell x)⟩
theorem dS.sub {k : Nat} {xs ys : List (List VV)} (h : dS k xs) (hs : ∀ y ∈ ys,y ∈ xs) : dS k ys:=⟨fun x hx=>h.len x (hs x hx),fun x hx=>h.pure x (hs x hx),fun x hx=>h.cell x (hs x hx)⟩
theorem dS.take {k : Nat} {xs : List (List VV)} (h : dS k xs) (i : Nat) : dS k (xs.take i):=h.sub fun _ hy=>List.mem_of_mem_take hy
theorem dS.drop {k : Nat} {xs : List (List VV)} (h : dS k xs) (i : Nat) : dS k (xs.drop i):=h.sub fun _ hy=>List.mem_of_mem_drop hy
theorem dS.tail {k : Nat} {x : List VV} {xs : List (List VV)} (h : dS k (x::xs)) : dS k xs:=h.sub fun _ hy=>List.mem_cons_of_mem _ hy
theorem dS.cons {k : Nat} {x : List VV} {xs : List (List VV)} (h : dS k (x::xs)) : x.length=k∧dS k xs:=⟨h.len x (by simp),h.tail⟩
theorem dS.flat {k : Nat} : ∀ {xs : List (List VV)},dS k xs→xs.flatten.length=xs.length*k
 | [],_=>by simp
 | x::xs,h=>by simp [h.cons.1,dS.flat h.cons.2,Nat.add_mul,Nat.add_comm]
theorem dS.iV {k : Nat} : ∀ {xs : List (List VV)} (i : Nat),dS k xs→xs.flatten.drop (i*k)=(xs.drop i).flatten
 | _,0,_=>by simp
 | [],_+1,_=>by simp
 | x::xs,i+1,h=>by
  have:=dS.iV (xs:=xs) i h.cons.2
  rw [List.flatten_cons,List.drop_succ_cons,← this,show (i+1)*k=x.length+i*k by rw [h.cons.1,Nat.add_mul,Nat.one_mul,Nat.add_comm],List.drop_append]
  simp
theorem dS.iU {k : Nat} : ∀ {xs : List (List VV)} (i : Nat),dS k xs→xs.flatten.take (i*k)=(xs.take i).flatten
 | _,0,_=>by simp
 | [],_+1,_=>by simp
 | x::xs,i+1,h=>by
  have:=dS.iU (xs:=xs) i h.cons.2
  rw [List.flatten_cons,List.take_succ_cons,List.flatten_cons,← this,show (i+1)*k=x.length+i*k by rw [h.cons.1,Nat.add_mul,Nat.one_mul,Nat.add_comm],List.take_append,List.take_of_length_le (Nat.le_add_right _ _)]
  simp
theorem dS.wG {k : Nat} {xs : List (List VV)} (h : dS k xs) {i : Nat} (hi : i < xs.length) : (xs.flatten.drop (i*k)).take k=xs[i]:=by
 rw [h.iV,List.drop_eq_getElem_cons hi,List.flatten_cons,List.take_append_of_le_length (by rw [h.len _ (List.getElem_mem hi)];exact Nat.le_refl _)]
 rw [List.take_of_length_le (by rw [h.len _ (List.getElem_mem hi)];exact Nat.le_refl _)]
theorem iG : ∀ (xs ys : List VV),VV.ak (xs++ys)=(VV.ak xs && VV.ak ys)
 | [],ys=>by simp [VV.ak]
 | x::xs,ys=>by simp [VV.ak,iG xs ys,Bool.and_assoc]
theorem dS.rE {k : Nat} : ∀ {xs : List (List VV)},dS k xs→VV.ak xs.flatten=true
 | [],_=>by simp [VV.ak]
 | x::xs,h=>by rw [List.flatten_cons,iG,h.pure x (by simp),dS.rE h.cons.2];rfl
theorem dS.xq {k : Nat} : ∀ {xs : List (List VV)},dS k xs→aU xs.flatten=true
 | [],_=>by simp [aU]
 | x::xs,h=>by
  have h1:=h.cell x (by simp)
  have h2:=dS.xq h.cons.2
  unfold aU at h1 h2 ⊢
  rw [List.flatten_cons,List.all_append,h1,h2];rfl
inductive fH (k : Nat) : VV→List (List VV)→Prop
 | nil : fH k .nils []
 | sl (xs : List (List VV)) (t : Bool) (h : dS k xs) : fH k (.sl xs.length xs.flatten t) xs
theorem fH.blk {k : Nat} {v : VV} {xs : List (List VV)} (h : fH k v xs) : dS k xs:=by cases h with | nil=>exact .nil | sl _ _ h=>exact h
theorem fH.pure {k : Nat} {v : VV} {xs : List (List VV)} (h : fH k v xs) : v.isPure=true:=by
 cases h with
 | nil=>rfl
 | sl xs t h=>simp only [VV.isPure];exact h.rE
theorem fH.of {k : Nat} {xs : List (List VV)} (h : dS k xs) {n : Nat} {cells : List VV} {t : Bool} (hn : n=xs.length) (hc : cells=xs.flatten) : fH k (.sl n cells t) xs:=by subst hn hc;exact .sl xs t h
theorem BL {P : Program} {t : TypeId} (h : (jh P t).isSome=true) : ∃ e,P.underlying t=some (.slice e):=by
 unfold jh at h
 split at h
 ·exact ⟨_,by assumption⟩
 ·cases h
@[go_sem] theorem zo {P : Program} {t : TypeId} {σ : Store} (h : (jh P t).isSome=true) : cO P t .nils σ=okV (.int .i64 0) σ:=by
 obtain ⟨e,he⟩:=BL h;simp [cO,he]
@[go_sem] theorem DK {P : Program} {t : TypeId} {σ : Store} {n : Nat} {cells : List VV} {b : Bool} (h : (jh P t).isSome=true) : cO P t (.sl n cells b) σ=okV (.int .i64 n) σ:=by
 obtain ⟨e,he⟩:=BL h;simp [cO,he]
@[go_sem] theorem Kv {P : Program} {t : TypeId} {σ : Store} {id off n sz : Nat} (h : (jh P t).isSome=true) : cO P t (.dP id off n sz) σ=okV (.int .i64 n) σ:=by
 obtain ⟨e,he⟩:=BL h;simp [cO,he]
theorem fH.src {P : Program} {σ : Store} {k : Nat} {t e : TypeId} {v : VV} {xs : List (List VV)} (h : fH k v xs) (ht : jh P t=some e) : aJ P σ k t v=some (xs.length,xs.flatten):=by
 cases h with
 | nil=>simp [aJ,ht,mJ,fG]
 | sl xs t h=>simp [aJ,ht,mJ,fG,h.flat]
theorem fH.cO {P : Program} {σ : Store} {k : Nat} {t e : TypeId} {v : VV} {xs : List (List VV)} (h : fH k v xs) (ht : jh P t=some e) : cO P t v σ=okV (.int .i64 xs.length) σ:=by
 cases h with
 | nil=>exact zo (by simp [ht])
 | sl xs t h=>exact DK (by simp [ht])
theorem Np {P : Program} {t tx e : TypeId} {k by_ : Nat} {z : List VV} {σ : Store} {id n : Nat} {xs ys : List (List VV)} {x : VV} (ht : jh P t=some e) (hk : fV P e=some k) (hy : zZ P e=some by_) (hz : bU P e=some z) (hzk : z.length=k) (hk0 : 0 < k) (hb : by_≤1000)
  (hid : σ[id]?=some (.own xs.flatten)) (hB : dS k xs) (hC : dS k ys) (hl : xs.length+ys.length≤1000000) (hn : n=xs.length) (hx : aJ P σ k tx x=some (ys.length,ys.flatten)) :
  ∃ p,p∧cu P t tx (.dP id 0 n k) x σ=some ⟨p,.dP σ.length 0 (xs++ys).length k,σ.set id .dead++[.own (xs++ys).flatten]⟩:=by
 subst hn
 have h1 : (xs.flatten.drop 0).take (xs.length*k)=xs.flatten:=by rw [List.drop_zero,List.take_of_length_le (by rw [hB.flat];exact Nat.le_refl _)]
 refine ⟨_, ?_,by simp only [cu,ht,hk,hy,hz,hx,hid,h1,List.flatten_append,List.length_append,if_true];rfl⟩
 refine ⟨⟨by omega, ?_,hC.flat,hk0,hC.xq,hzk⟩,by rw [hB.flat];omega,by rw [hB.xq]⟩
 have:=Nat.mul_le_mul hl hb
 omega
theorem lH {t tx e : TypeId} {k by_ : Nat} {z : List VV} {σ : Store} {id n : Nat} {xs ys : List (List VV)} {x : VV} (ht : jh Tryz.prog t=some e) (hk : fV Tryz.prog e=some k) (hy : zZ Tryz.prog e=some by_) (hz : bU Tryz.prog e=some z) (hzk : z.length=k) (hk0 : 0 < k) (hb : by_≤1000)
  (hid : σ[id]?=some (.own xs.flatten)) (hB : dS k xs) (hC : dS k ys) (hl : xs.length+ys.length≤1000000) (hn : n=xs.length) (hx : aJ Tryz.prog σ k tx x=some (ys.length,ys.flatten))
  {d : Nat} {r : List VO} {Q : Out→Env→Store→Prop} {ρ : Env} (h : dQ Tryz.prog G0 r Q ((d,.dP σ.length 0 (xs++ys).length k)::ρ) (σ.set id .dead++[.own (xs++ys).flatten])) :
  eU Tryz.prog G0 (cu Tryz.prog t tx (.dP id 0 n k) x σ) (some d) r Q ρ:=by
 obtain ⟨p,hp,he⟩:=Np ht hk hy hz hzk hk0 hb hid hB hC hl hn hx
 rw [he]
 exact ⟨hp,h⟩
theorem xP {σ : Store} {n : Nat} : ∀ {cells : List VV},VV.ak cells=true→cells.mapM (fz n σ)=some cells
 | [],_=>rfl
 | x::xs,h=>by
  simp only [VV.ak,Bool.and_eq_true] at h
  rw [List.mapM_cons,kP h.1,xP h.2];rfl
theorem qj {m : Nat} {σ : Store} {id n k : Nat} {xs : List (List VV)} (h : σ[id]?=some (.kL xs.flatten)) (hB : dS k xs) (hn : n=xs.length) : fz (m+1) σ (.dP id 0 n k)=some (.sl xs.length xs.flatten false):=by
 subst hn
 have h1 : (xs.flatten.drop 0).take (xs.length*k)=xs.flatten:=by rw [List.drop_zero,List.take_of_length_le (by rw [hB.flat];exact Nat.le_refl _)]
 simp only [fz,VV.isPure,h,h1,xP hB.rE,hB.flat,Nat.zero_add,Nat.le_refl,if_true,Option.map_some]
 rfl
theorem CJ {σ : Store} {id n k : Nat} {xs : List (List VV)} (h : σ[id]?=some (.kL xs.flatten)) (hB : dS k xs) (hn : n=xs.length) : fz 1 σ (.dP id 0 n k)=some (.sl xs.length xs.flatten false):=qj h hB hn
theorem vC {m : Nat} {σ : Store} {id : Nat} {cells : List VV} (h : σ[id]?=some (.kL cells)) (hp : VV.ak cells=true) : fz (m+1) σ (.mptr id 0)=some (.ptr cells 0):=by
 simp only [fz,VV.isPure,h,xP hp,Option.map_some]
 rfl
theorem Bv (va vb : VV) (xs ys : List (List VV)) (ha : fH 11 va xs) (hb : fH 11 vb ys) (hl : xs.length+ys.length≤1000000) : PV Tryz.prog G0 116 [va,vb] (.sl (xs++ys).length (xs++ys).flatten false):=by
 have hB:=(ha.blk.append hb.blk)
 have hpu:=hB.rE
 refine pv e116 (by simp) (by simp [VV.ak,ha.pure,hb.pure]) (by simp only [VV.isPure];exact hpu) ?_
 have e1 : IntKind.i64.wrap ((xs.length : Int)+ys.length)=((xs.length+ys.length : Nat) : Int):=by rw [iw (by omega)];omega
 simp only [go_sem,seval,c116,ha.cO jc,hb.cO jc,e1]
 refine ⟨by omega, ?_⟩
 refine lH (xs:=[]) (ys:=xs) jc Ho Jg Bo rfl (by decide) (by decide) rfl .nil ha.blk (by simp;omega) rfl (ha.src jc) ?_
 simp only [go_sem,seval]
 refine lH (xs:=xs) (ys:=ys) jc Ho Jg Bo rfl (by decide) (by decide) rfl ha.blk hb.blk hl rfl (hb.src jc) ?_
 simp only [go_sem,seval]
 exact ⟨_,1,rfl,CJ rfl hB rfl⟩
theorem ru (va vb : VV) (xs ys : List (List VV)) (ha : fH 1 va xs) (hb : fH 1 vb ys) (hl : xs.length+ys.length≤1000000) : PV Tryz.prog G0 182 [va,vb] (.sl (xs++ys).length (xs++ys).flatten false):=by
 have hB:=(ha.blk.append hb.blk)
 have hpu:=hB.rE
 refine pv e182 (by simp) (by simp [VV.ak,ha.pure,hb.pure]) (by simp only [VV.isPure];exact hpu) ?_
 have e1 : IntKind.i64.wrap ((xs.length : Int)+ys.length)=((xs.length+ys.length : Nat) : Int):=by rw [iw (by omega)];omega
 simp only [go_sem,seval,c182,ha.cO je,hb.cO je,e1]
 refine ⟨by omega, ?_⟩
 refine lH (xs:=[]) (ys:=xs) je G7 Hq Ba rfl (by decide) (by decide) rfl .nil ha.blk (by simp;omega) rfl (ha.src je) ?_
 simp only [go_sem,seval]
 refine lH (xs:=xs) (ys:=ys) je G7 Hq Ba rfl (by decide) (by decide) rfl ha.blk hb.blk hl rfl (hb.src je) ?_
 simp only [go_sem,seval]
 exact ⟨_,1,rfl,CJ rfl hB rfl⟩
inductive RN : Nat→VV→List (List VV)→Prop
 | leaf {v : VV} {xs : List (List VV)} (h : fH 11 v xs) (hne : xs≠[]) : RN 1 (.ptr [.int .i64 xs.length,.int .i64 1,.nils,v] 0) xs
 | inner {d : Nat} {v : VV} {ks : List (VV × List (List VV))} (h : fH 1 v (ks.map fun k=>[k.1])) (hk : ∀ k ∈ ks,RN d k.1 k.2) (h2 : 2≤ks.length) : RN (d+1) (.ptr [.int .i64 (ks.map (·.2)).flatten.length,.int .i64 (d+1 : Nat),v,.nils] 0) (ks.map (·.2)).flatten
def RP (v : VV) (xs : List (List VV)) : Prop:=(v=.nilp∧xs=[])∨∃ d,RN d v xs
theorem RN.ne {d : Nat} {v : VV} {xs : List (List VV)} (h : RN d v xs) : xs≠[]∧v.isPure=true∧dS 11 xs∧1≤d∧d≤xs.length:=by
 induction h with
 | leaf h hne=>exact ⟨hne,by simp [VV.isPure,VV.ak,h.pure],h.blk,by omega,by have:=List.length_pos_iff.2 hne;omega⟩
 | @inner d v ks h hk h2 ih =>
  match ks,h2 with
  | a::b::ks,_ =>
   have h1:=ih a (by simp)
   have h3:=ih b (by simp)
   refine ⟨by simp [h1.1],by simp [VV.isPure,VV.ak,h.pure],⟨?_, ?_, ?_⟩,by omega, ?_⟩
   ·intro x hx
    obtain ⟨l,hl,hx⟩:=List.mem_flatten.1 hx
    obtain ⟨k,hk',rfl⟩:=List.mem_map.1 hl
    exact (ih k hk').2.2.1.len x hx
   ·intro x hx
    obtain ⟨l,hl,hx⟩:=List.mem_flatten.1 hx
    obtain ⟨k,hk',rfl⟩:=List.mem_map.1 hl
    exact (ih k hk').2.2.1.pure x hx
   ·intro x hx
    obtain ⟨l,hl,hx⟩:=List.mem_flatten.1 hx
    obtain ⟨k,hk',rfl⟩:=List.mem_map.1 hl
    exact (ih k hk').2.2.1.cell x hx
   ·have:=List.length_pos_iff.2 h3.1
    simp only [List.map_cons,List.flatten_cons,List.length_append];omega
theorem RP.pure {v : VV} {xs : List (List VV)} (h : RP v xs) : v.isPure=true:=by
 rcases h with ⟨rfl,_⟩ | ⟨d,h⟩
 ·rfl
 ·exact h.ne.2.1
theorem RP.blk {v : VV} {xs : List (List VV)} (h : RP v xs) : dS 11 xs:=by
 rcases h with ⟨_,rfl⟩ | ⟨d,h⟩
 ·exact .nil
 ·exact h.ne.2.2.1
theorem yQ (v : VV) (xs : List (List VV)) (h : fH 11 v xs) : ∃ r,RP r xs∧PV Tryz.prog G0 115 [v] r∧(xs≠[]→RN 1 r xs):=by
 by_cases hx : xs=[]
 ·refine ⟨.nilp,.inl ⟨rfl,hx⟩, ?_,fun h=>absurd hx h⟩
  refine pv e115 (by simp) (by simp [VV.ak,h.pure]) rfl ?_
  subst hx
  simp only [go_sem,seval,c115,h.cO jc]
  exact fin (by rfl) rfl
 ·have hr:=RN.leaf h hx
  refine ⟨_,.inr ⟨1,hr⟩, ?_,fun _=>hr⟩
  refine pv e115 (by simp) (by simp [VV.ak,h.pure]) hr.ne.2.1 ?_
  have h0 : ((xs.length : Int) == 0)=false:=by have:=List.length_pos_iff.2 hx;simp;omega
  have hp:=hr.ne.2.1
  cases h with
  | nil=>exact absurd rfl hx
  | sl xs t h =>
   simp only [go_sem,seval,c115,h0]
   exact ⟨_,1,rfl,vC rfl hp⟩
end Go.V
namespace Go.V
open Go.Proofs
set_option maxRecDepth 100000
abbrev Kd:=VV × List (List VV)
def aV (ks : List Kd) : List (List VV):=ks.map fun k=>[k.1]
def aI (ks : List Kd) : List (List VV):=(ks.map (·.2)).flatten
theorem DN (ks : List Kd) : (aV ks).flatten=ks.map (·.1):=by
 unfold aV
 induction ks with
 | nil=>rfl
 | cons k ks ih=>simp [ih]
theorem lG (ks : List Kd) : (aV ks).length=ks.length:=by simp [aV]
theorem dN (a b : List Kd) : aI (a++b)=aI a++aI b:=by simp [aI]
theorem dV (a : Kd) (b : List Kd) : aI (a::b)=a.2++aI b:=by simp [aI]
structure KL (d : Nat) (v : VV) (ks : List Kd) : Prop where
 sl : fH 1 v (aV ks)
 rn : ∀ k ∈ ks,RN d k.1 k.2
theorem RN.cells {d : Nat} {v : VV} {xs : List (List VV)} (h : RN d v xs) : ∃ a b,v=.ptr [.int .i64 xs.length,.int .i64 d,a,b] 0:=by
 cases h with
 | leaf=>exact ⟨_,_,rfl⟩
 | inner=>exact ⟨_,_,rfl⟩
theorem KL.oK {d : Nat} : ∀ {ks : List Kd},(∀ k ∈ ks,RN d k.1 k.2)→ks.length≤(aI ks).length
 | [],_=>by simp [aI]
 | k::ks,h=>by
  have:=KL.oK (ks:=ks) (fun q hq=>h q (by simp [hq]))
  have h1:=List.length_pos_iff.2 (h k (by simp)).ne.1
  rw [dV,List.length_append,List.length_cons];omega
theorem KL.get {d : Nat} {v : VV} {ks : List Kd} (_ : KL d v ks) {i : Nat} (hi : i < ks.length) : (aV ks).flatten.getD i .undef=ks[i].1:=by
 rw [DN,List.getD_eq_getElem?_getD,List.getElem?_map,List.getElem?_eq_getElem hi];rfl
theorem gV (ks : List Kd) (i : Nat) (hi : i < ks.length) : (aI (ks.take (i+1))).length=(aI (ks.take i)).length+ks[i].2.length:=by
 rw [List.take_succ_eq_append_getElem hi,dN,List.length_append,dV];simp [aI]
theorem iE (ks : List Kd) (i : Nat) : (aI (ks.take i)).length≤(aI ks).length:=by
 conv=>rhs;rw [← List.take_append_drop i ks,dN,List.length_append]
 omega
theorem fH.iO {k : Nat} {v : VV} {xs : List (List VV)} (h : fH k v xs) (hne : xs≠[]) : ∃ t,v=.sl xs.length xs.flatten t:=by
 cases h with
 | nil=>exact absurd rfl hne
 | sl xs t h=>exact ⟨t,rfl⟩
theorem KL.iO {d : Nat} {v : VV} {ks : List Kd} (h : KL d v ks) (hne : ks≠[]) : ∃ t,v=.sl ks.length (ks.map (·.1)) t:=by
 obtain ⟨t,ht⟩:=h.sl.iO (by simpa [aV] using hne)
 exact ⟨t,by rw [ht,lG,DN]⟩
inductive InR (d : Nat) (ks : List Kd) (r : VV) : Prop
 | nil (h : ks=[]) (hr : r=.nilp)
 | one (k : Kd) (h : ks=[k]) (hr : r=k.1)
 | many (h : 2≤ks.length) (hr : RN (d+1) r (aI ks))
theorem uj (d : Nat) (v : VV) (ks : List Kd) (h : KL d v ks) (hl : (aI ks).length≤1000000) : ∃ r,InR d ks r∧PV Tryz.prog G0 155 [v] r:=by
 have hkl:=KL.oK h.rn
 by_cases hz : ks=[]
 ·subst hz
  refine ⟨.nilp,.nil rfl rfl, ?_⟩
  refine pv e155 (by simp) (by simp [VV.ak,h.sl.pure]) rfl ?_
  simp only [go_sem,seval,c155,h.sl.cO je,lG]
  exact fin (by rfl) rfl
 by_cases ho : ks.length=1
 ·obtain ⟨k,rfl⟩:=List.length_eq_one_iff.1 ho
  have hk:=h.rn k (by simp)
  refine ⟨k.1,.one k rfl rfl, ?_⟩
  refine pv e155 (by simp) (by simp [VV.ak,h.sl.pure]) hk.ne.2.1 ?_
  obtain ⟨t,rfl⟩:=h.iO (by simp)
  simp only [go_sem,seval,c155]
  exact fin hk.ne.2.1 rfl
 have h2 : 2≤ks.length:=by have:=List.length_pos_iff.2 hz;omega
 have hrn:=RN.inner (v:=v) h.sl h.rn h2
 have hd : d+1≤(aI ks).length:=hrn.ne.2.2.2.2
 refine ⟨_,.many h2 hrn, ?_⟩
 have hp:=hrn.ne.2.1
 obtain ⟨t,rfl⟩:=h.iO hz
 refine pv e155 (by simp) (by simp [VV.ak,h.sl.pure]) hp ?_
 have h0 : ((ks.length : Int) == 0)=false:=by simp;omega
 have h1 : ((ks.length : Int) == 1)=false:=by simp;omega
 have hg : ∀ i (hi : i < ks.length),∃ a b,(ks.map (·.1)).getD i .undef=.ptr [.int .i64 ks[i].2.length,.int .i64 d,a,b] 0:=by
  intro i hi
  obtain ⟨a,b,hab⟩:=(h.rn ks[i] (List.getElem_mem hi)).cells
  exact ⟨a,b,by rw [List.getD_eq_getElem?_getD,List.getElem?_map,List.getElem?_eq_getElem hi];exact hab⟩
 obtain ⟨a,b,g0⟩:=hg 0 (by omega)
 have e1 : IntKind.i64.wrap ((d : Int)+1)=((d+1 : Nat) : Int):=by rw [iw (by omega)];omega
 simp only [go_sem,seval,c155,h0,h1,g0,e1]
 refine ⟨by omega,by simp;omega, ?_⟩
 refine aG (fun m ρ σ=>∃ i : Nat,m=ks.length-i∧i≤ks.length∧ρ.get 3=.mptr 0 0∧ρ.get 25=.sl ks.length (ks.map (·.1)) t∧ρ.get 26=.int .i64 ks.length∧ρ.get 27=.int .i64 i∧σ=[.own [.int .i64 (aI (ks.take i)).length,.int .i64 (d+1 : Nat),.sl ks.length (ks.map (·.1)) t,.nils]]) (n:=ks.length) ?_ ⟨0,rfl,by omega,rfl,rfl,rfl,rfl,rfl⟩
 rintro m ρ σ ⟨i,rfl,hi,h3,h25,h26,h27,rfl⟩
 simp only [go_sem,seval,h3,h25,h26,h27]
 refine aj (fun hc=>?_) (fun hc=>?_)
 ·have hc' : i < ks.length:=by simpa using hc
  have e2 : IntKind.i64.wrap ((i : Int)+1)=((i+1 : Nat) : Int):=by rw [iw (by omega)];omega
  obtain ⟨a,b,gi⟩:=hg i hc'
  have e3:=gV ks i hc'
  have e4:=iE ks (i+1)
  have e5 : IntKind.i64.wrap (((aI (ks.take i)).length : Int)+ks[i].2.length)=((aI (ks.take (i+1))).length : Nat):=by rw [iw (by omega)];omega
  simp only [go_sem,seval,h3,h25,h26,h27,Int.toNat_natCast,Nat.mul_one,gi,e2,e5]
  refine ⟨by omega,by simp;omega, ?_⟩
  refine ⟨ks.length-(i+1),by omega,i+1, ?_⟩
  and_intros
  all_goals first | rfl | omega
 ·have hc' : i=ks.length:=by simp at hc;omega
  subst hc'
  simp only [go_sem,seval,h3,h25,h26,h27]
  refine ⟨_,1,rfl, ?_⟩
  rw [List.take_length]
  exact vC rfl hp
end Go.V
namespace Go.V
open Go.Proofs
set_option maxRecDepth 100000
theorem dS.one {x : VV} (hp : x.isPure=true) (hc : x.aF=true) : dS 1 [[x]]:=⟨by simp,by simp [VV.ak,hp],by simp [aU,hc]⟩
theorem dS.two {x y : VV} (hp : x.isPure=true) (hc : x.aF=true) (hp' : y.isPure=true) (hc' : y.aF=true) : dS 1 [[x],[y]]:=⟨by simp,by simp [VV.ak,hp,hp'],by simp [aU,hc,hc']⟩
theorem RN.cell {d : Nat} {v : VV} {xs : List (List VV)} (h : RN d v xs) : v.aF=true:=by cases h<;>rfl
theorem KL.blk {d : Nat} {v : VV} {ks : List Kd} (h : KL d v ks) : dS 1 (aV ks):=h.sl.blk
theorem KL.one {d : Nat} {r : VV} {xs : List (List VV)} (h : RN d r xs) : KL d (.sl 1 [r] true) [(r,xs)]:=⟨fH.of (dS.one h.ne.2.1 h.cell) rfl rfl,by simpa using h⟩
theorem KL.two {d : Nat} {r s : VV} {xs ys : List (List VV)} (h : RN d r xs) (h' : RN d s ys) : KL d (.sl 2 [r,s] true) [(r,xs),(s,ys)]:=⟨fH.of (dS.two h.ne.2.1 h.cell h'.ne.2.1 h'.cell) rfl rfl,by simp [h,h']⟩
theorem kH (ks : List Kd) (i : Nat) : aV (ks.take i)=(aV ks).take i:=by simp [aV,List.map_take]
theorem kJ (ks : List Kd) (i : Nat) : aV (ks.drop i)=(aV ks).drop i:=by simp [aV,List.map_drop]
structure NL (d : Nat) (v : VV) (rs : List Kd) (xs : List (List VV)) : Prop where
 kl : KL d v rs
 its : aI rs=xs
 lo : 1≤rs.length
 hi : rs.length≤2
theorem NL.one {d : Nat} {r : VV} {xs : List (List VV)} (h : RN d r xs) : NL d (.sl 1 [r] true) [(r,xs)] xs:=⟨.one h,by simp [aI],by simp,by simp⟩
theorem NL.two {d : Nat} {r s : VV} {xs ys : List (List VV)} (h : RN d r xs) (h' : RN d s ys) : NL d (.sl 2 [r,s] true) [(r,xs),(s,ys)] (xs++ys):=⟨.two h h',by simp [aI],by simp,by simp⟩
theorem Ud (v : VV) (xs : List (List VV)) (h : fH 11 v xs) (hne : xs≠[]) (hl : xs.length≤1000000) : ∃ w rs,NL 1 w rs xs∧PV Tryz.prog G0 183 [v] w:=by
 by_cases hs : xs.length≤16
 ·obtain ⟨r,_,hP,hr⟩:=yQ v xs h
  have hr:=hr hne
  obtain ⟨_,_,rfl⟩:=hr.cells
  refine ⟨_,_,.one hr, ?_⟩
  refine pv e183 (by simp) (by simp [VV.ak,h.pure]) (NL.one hr).kl.sl.pure ?_
  have h0 : decide ((xs.length : Int)≤16)=true:=by simp;omega
  simp only [go_sem,seval,c183,h.cO jc,h0]
  refine ah (hP) ?_<;>simp only [go_sem,seval]
  exact fin (NL.one hr).kl.sl.pure rfl
 ·obtain ⟨t,rfl⟩:=h.iO hne
  have hB:=h.blk
  have ha : fH 11 (.sl (xs.take (xs.length / 2)).length (xs.take (xs.length / 2)).flatten false) (xs.take (xs.length / 2)):=.sl _ _ (hB.take _)
  have hb : fH 11 (.sl (xs.drop (xs.length / 2)).length (xs.drop (xs.length / 2)).flatten false) (xs.drop (xs.length / 2)):=.sl _ _ (hB.drop _)
  obtain ⟨r,_,hP,hr⟩:=yQ _ _ ha
  obtain ⟨s,_,hP',hs'⟩:=yQ _ _ hb
  have hr:=hr (by intro e;have:=congrArg List.length e;rw [List.length_take,List.length_nil] at this;omega)
  have hs':=hs' (by intro e;have:=congrArg List.length e;rw [List.length_drop,List.length_nil] at this;omega)
  obtain ⟨_,_,rfl⟩:=hr.cells
  obtain ⟨_,_,rfl⟩:=hs'.cells
  have hN:=NL.two hr hs'
  rw [List.take_append_drop] at hN
  refine ⟨_,_,hN, ?_⟩
  refine pv e183 (by simp) (by simp [VV.ak,h.pure]) hN.kl.sl.pure ?_
  have h0 : decide ((xs.length : Int)≤16)=false:=by simp;omega
  have e1 : IntKind.i64.wrap (Int.tdiv (xs.length : Int) 2)=((xs.length / 2 : Nat) : Int):=by rw [show (2 : Int)=((2 : Nat) : Int) from rfl,Aj,iw (by omega)]
  have e2 : ((xs.drop (xs.length / 2)).flatten).take ((xs.length-xs.length / 2)*11)=(xs.drop (xs.length / 2)).flatten:=List.take_of_length_le (by rw [(hB.drop _).flat,List.length_drop];exact Nat.le_refl _)
  have b1 : (0 : Int)≤((xs.length / 2 : Nat) : Int):=by omega
  have b2 : ((xs.length / 2 : Nat) : Int)≤(xs.length : Int):=by omega
  have b3 : (xs.length : Int)≤(xs.length : Int):=by omega
  simp only [go_sem,seval,c183,h0,e1,Int.toNat_natCast,Nat.sub_zero,hB.iU,hB.iV,e2,hB.flat,b1,b2,b3]
  refine aC (Bv _ _ (xs.take (xs.length / 2)) [] (fH.of (hB.take _) (by rw [List.length_take];omega) rfl) .nil (by rw [List.length_take];simp;omega)) (by simp only [go_sem,seval,e1,Int.toNat_natCast,Nat.sub_zero,hB.iU,hB.iV,e2,hB.flat,b1,b2,b3]) ?_<;>simp only [go_sem,seval,e1,Int.toNat_natCast,Nat.sub_zero,hB.iU,hB.iV,e2,hB.flat,b1,b2,b3]
  refine aC (hP) (by simp only [go_sem,seval,e1,Int.toNat_natCast,Nat.sub_zero,hB.iU,hB.iV,e2,hB.flat,b1,b2,b3]) ?_<;>simp only [go_sem,seval,e1,Int.toNat_natCast,Nat.sub_zero,hB.iU,hB.iV,e2,hB.flat,b1,b2,b3]
  refine aC (Bv _ _ (xs.drop (xs.length / 2)) [] (fH.of (hB.drop _) (by rw [List.length_drop]) rfl) .nil (by rw [List.length_drop];simp;omega)) (by simp only [go_sem,seval,e1,Int.toNat_natCast,Nat.sub_zero,hB.iU,hB.iV,e2,hB.flat,b1,b2,b3]) ?_<;>simp only [go_sem,seval,e1,Int.toNat_natCast,Nat.sub_zero,hB.iU,hB.iV,e2,hB.flat,b1,b2,b3]
  refine aC (hP') (by simp only [go_sem,seval]) ?_<;>simp only [go_sem,seval]
  exact fin hN.kl.sl.pure rfl
theorem InR.rn {d : Nat} {ks : List Kd} {r : VV} (h : InR d ks r) (h2 : 2≤ks.length) : RN (d+1) r (aI ks):=by
 cases h with
 | nil h _=>subst h;simp at h2
 | one k h _=>subst h;simp at h2
 | many _ h=>exact h
theorem BF (d : Nat) (v : VV) (ks : List Kd) (h : KL d v ks) (h2 : 2≤ks.length) (hl : (aI ks).length≤1000000) : ∃ w rs,NL (d+1) w rs (aI ks)∧PV Tryz.prog G0 181 [v] w:=by
 have hkl:=KL.oK h.rn
 by_cases hs : ks.length≤16
 ·obtain ⟨r,hr,hP⟩:=uj d v ks h hl
  have hr:=hr.rn h2
  obtain ⟨_,_,rfl⟩:=hr.cells
  refine ⟨_,_,.one hr, ?_⟩
  refine pv e181 (by simp) (by simp [VV.ak,h.sl.pure]) (NL.one hr).kl.sl.pure ?_
  have h0 : decide ((ks.length : Int)≤16)=true:=by simp;omega
  simp only [go_sem,seval,c181,h.sl.cO je,lG,h0]
  refine ah (hP) ?_<;>simp only [go_sem,seval]
  exact fin (NL.one hr).kl.sl.pure rfl
 ·obtain ⟨t,rfl⟩:=h.sl.iO (by intro e;have:=congrArg List.length e;rw [lG,List.length_nil] at this;omega)
  have hB:=h.blk
  have hl1 : (aI (ks.take (ks.length / 2))).length≤1000000:=Nat.le_trans (iE _ _) hl
  have hsum : aI (ks.take (ks.length / 2))++aI (ks.drop (ks.length / 2))=aI ks:=by rw [← dN,List.take_append_drop]
  have hl2 : (aI (ks.drop (ks.length / 2))).length≤1000000:=by have:=congrArg List.length hsum;rw [List.length_append] at this;omega
  have ha : KL d (.sl (aV (ks.take (ks.length / 2))).length (aV (ks.take (ks.length / 2))).flatten false) (ks.take (ks.length / 2)):=⟨.sl _ _ (by rw [kH];exact hB.take _),fun k hk=>h.rn k (List.mem_of_mem_take hk)⟩
  have hb : KL d (.sl (aV (ks.drop (ks.length / 2))).length (aV (ks.drop (ks.length / 2))).flatten false) (ks.drop (ks.length / 2)):=⟨.sl _ _ (by rw [kJ];exact hB.drop _),fun k hk=>h.rn k (List.mem_of_mem_drop hk)⟩
  obtain ⟨r,hr,hP⟩:=uj _ _ _ ha hl1
  obtain ⟨s,hs',hP'⟩:=uj _ _ _ hb hl2
  have hr:=hr.rn (by rw [List.length_take];omega)
  have hs':=hs'.rn (by rw [List.length_drop];omega)
  obtain ⟨_,_,rfl⟩:=hr.cells
  obtain ⟨_,_,rfl⟩:=hs'.cells
  have hN:=NL.two hr hs'
  rw [hsum] at hN
  refine ⟨_,_,hN, ?_⟩
  refine pv e181 (by simp) (by simp [VV.ak,h.sl.pure]) hN.kl.sl.pure ?_
  rw [kH] at hP
  rw [kJ] at hP'
  have h0 : decide ((ks.length : Int)≤16)=false:=by simp;omega
  have e1 : IntKind.i64.wrap (Int.tdiv (ks.length : Int) 2)=((ks.length / 2 : Nat) : Int):=by rw [show (2 : Int)=((2 : Nat) : Int) from rfl,Aj,iw (by omega)]
  have hdl : ((aV ks).drop (ks.length / 2)).length=ks.length-ks.length / 2:=by rw [List.length_drop,lG]
  have e2 : (((aV ks).drop (ks.length / 2)).flatten).take ((ks.length-ks.length / 2)*1)=((aV ks).drop (ks.length / 2)).flatten:=List.take_of_length_le (by rw [(hB.drop _).flat,hdl];exact Nat.le_refl _)
  have b1 : (0 : Int)≤((ks.length / 2 : Nat) : Int):=by omega
  have b2 : ((ks.length / 2 : Nat) : Int)≤(ks.length : Int):=by omega
  have b3 : (ks.length : Int)≤(ks.length : Int):=by omega
  have b4:=hB.flat
  rw [lG] at b4
  simp only [go_sem,seval,c181,lG,h0,e1,Int.toNat_natCast,Nat.sub_zero,hB.iU,hB.iV,e2,b4,b1,b2,b3]
  refine aC (ru _ _ ((aV ks).take (ks.length / 2)) [] (fH.of (hB.take _) (by rw [List.length_take,lG];omega) rfl) .nil (by rw [List.length_take,lG];simp;omega)) (by simp only [go_sem,seval,lG,e1,Int.toNat_natCast,Nat.sub_zero,hB.iU,hB.iV,e2,b4,b1,b2,b3]) ?_<;>simp only [go_sem,seval,lG,e1,Int.toNat_natCast,Nat.sub_zero,hB.iU,hB.iV,e2,b4,b1,b2,b3]
  refine aC (hP) (by simp only [go_sem,seval,lG,e1,Int.toNat_natCast,Nat.sub_zero,hB.iU,hB.iV,e2,b4,b1,b2,b3]) ?_<;>simp only [go_sem,seval,lG,e1,Int.toNat_natCast,Nat.sub_zero,hB.iU,hB.iV,e2,b4,b1,b2,b3]
  refine aC (ru _ _ ((aV ks).drop (ks.length / 2)) [] (fH.of (hB.drop _) hdl.symm rfl) .nil (by rw [hdl];simp;omega)) (by simp only [go_sem,seval,lG,e1,Int.toNat_natCast,Nat.sub_zero,hB.iU,hB.iV,e2,b4,b1,b2,b3]) ?_<;>simp only [go_sem,seval,lG,e1,Int.toNat_natCast,Nat.sub_zero,hB.iU,hB.iV,e2,b4,b1,b2,b3]
  refine aC (hP') (by simp only [go_sem,seval]) ?_<;>simp only [go_sem,seval]
  exact fin hN.kl.sl.pure rfl
end Go.V
