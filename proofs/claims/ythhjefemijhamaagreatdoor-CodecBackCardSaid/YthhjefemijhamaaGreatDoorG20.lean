/- Texts F23 F24 F25 F26 F27 F28. -/
import Derived.Test.YthhjefemijhamaaGreatDoorG19
set_option linter.unusedVariables false
set_option linter.unusedSimpArgs false
namespace Go.V
open Go.Proofs
set_option maxRecDepth 100000
structure Vl where
 sk : Int
 si : Int
 st : Bs
 k : Int
 root : VV
 seed : Int
 bits : Int
 n : Int
 hr : VV
 below : Nat
 more : Nat
def Vl.cells (x : Vl) : List VV:=[.int .i64 x.sk,.int .i64 x.si,.str x.st,.int .i64 x.k,x.root,.int .u64 x.seed,.int .i64 x.bits,.int .i64 x.n,x.hr,.int .i64 x.below,.int .i64 x.more]
def Vl.vv (x : Vl) : VV:=.agg x.cells
structure Vl.ok (x : Vl) : Prop where
 rp : x.root.isPure=true
 rc : x.root.isCell=true
 hp : x.hr.isPure=true
 hc : x.hr.isCell=true
 hb : x.below≤1000000
 hm : x.more≤1000000
theorem Vl.ok.pure {x : Vl} (h : x.ok) : VV.arePure x.cells=true:=by simp [Vl.cells,VV.arePure,VV.isPure,h.rp,h.hp]
theorem Vl.ok.cell {x : Vl} (h : x.ok) : allCells x.cells=true:=by
 have h1:=h.rc
 have h2:=h.hc
 simp only [Vl.cells,allCells,List.all_cons,List.all_nil,h1,h2];rfl
theorem Vl.ok.blk {x : Vl} (h : x.ok) : Blk 11 [x.cells]:=⟨by simp [Vl.cells],by simp [h.pure],by simp [h.cell]⟩
def Vl.zero : Vl:=⟨0,0,[],0,.nilp,0,0,0,.nilp,0,0⟩
theorem p_Depth (x : Vl) (h : x.ok) : PV Tryz.prog G0 26 [x.vv] (.int .i64 (x.below+1 : Nat)):=by
 refine pv e26 (by simp) (by simp [VV.arePure,VV.isPure,Vl.vv,h.pure]) rfl ?_
 have h1:=h.rc
 have h2:=h.hc
 have h3:=h.hb
 simp only [go_sem,seval] at h1
 simp only [go_sem,seval] at h2
 have e1 : IntKind.i64.wrap ((x.below : Int)+1)=((x.below+1 : Nat) : Int):=by rw [iw (by omega)];omega
 simp only [go_sem,seval,c26,Vl.vv,Vl.cells,h1,h2,e1]
 exact fin (by rfl) rfl
theorem p_Nodes (x : Vl) (h : x.ok) : PV Tryz.prog G0 28 [x.vv] (.int .i64 (x.more+1 : Nat)):=by
 refine pv e28 (by simp) (by simp [VV.arePure,VV.isPure,Vl.vv,h.pure]) rfl ?_
 have h1:=h.rc
 have h2:=h.hc
 have h3:=h.hm
 simp only [go_sem,seval] at h1
 simp only [go_sem,seval] at h2
 have e1 : IntKind.i64.wrap ((x.more : Int)+1)=((x.more+1 : Nat) : Int):=by rw [iw (by omega)];omega
 simp only [go_sem,seval,c28,Vl.vv,Vl.cells,h1,h2,e1]
 exact fin (by rfl) rfl
theorem p_ropeLen (root : VV) (xs : List (List VV)) (h : RP root xs) : PV Tryz.prog G0 51 [.agg [root]] (.int .i64 xs.length):=by
 have hp:=h.pure
 refine pv e51 (by simp) (by simp [VV.arePure,VV.isPure,hp]) rfl ?_
 rcases h with ⟨rfl,rfl⟩ | ⟨d,h⟩
 ·simp only [go_sem,seval,c51]
  exact fin (by rfl) rfl
 ·obtain ⟨a,b,rfl⟩:=h.cells
  simp only [go_sem,seval,c51]
  exact fin (by rfl) rfl
theorem p_hamtLen (seed bits n : Int) (hr : VV) (hp : hr.isPure=true) (hc : hr.isCell=true) : PV Tryz.prog G0 52 [.agg [.int .u64 seed,.int .i64 bits,.int .i64 n,hr]] (.int .i64 n):=by
 refine pv e52 (by simp) (by simp [VV.arePure,VV.isPure,hp]) rfl ?_
 simp only [go_sem,seval] at hc
 simp only [go_sem,seval,c52,hc]
 exact fin (by rfl) rfl
theorem p_vLen (x : Vl) (h : x.ok) (xs : List (List VV)) (hR : RP x.root xs) (n : Nat) (hn : x.n=n) (hl : xs.length+n≤1000000) : PV Tryz.prog G0 27 [x.vv] (.int .i64 (xs.length+n : Nat)):=by
 refine pv e27 (by simp) (by simp [VV.arePure,VV.isPure,Vl.vv,h.pure]) rfl ?_
 have h1:=h.rc
 have h2:=h.hc
 simp only [go_sem,seval] at h1
 simp only [go_sem,seval] at h2
 have e1 : IntKind.i64.wrap ((xs.length : Int)+(n : Int))=((xs.length+n : Nat) : Int):=by rw [iw (by omega)];omega
 simp only [go_sem,seval,c27,Vl.vv,Vl.cells,h1,h2,hn]
 refine dcallO_pure (p_ropeLen _ _ hR) (by simp only [go_sem,seval,h1,h2,hn]) ?_<;>simp only [go_sem,seval,h1,h2,hn]
 refine dcallO_pure (p_hamtLen x.seed x.bits n x.hr h.hp h.hc) (by simp only [go_sem,seval,h1,h2,hn,e1]) ?_<;>simp only [go_sem,seval,h1,h2,hn,e1]
 exact fin (by rfl) rfl
theorem p_with (x y : Vl) (h : x.ok) (hy : y.ok) (hm : x.more+y.more+1≤1000000) (hb : y.below+1≤1000000) : PV Tryz.prog G0 179 [x.vv,y.vv] ({ x with below:=max x.below (y.below+1),more:=x.more+(y.more+1) } : Vl).vv:=by
 have hok : ({ x with below:=max x.below (y.below+1),more:=x.more+(y.more+1) } : Vl).ok:=⟨h.rp,h.rc,h.hp,h.hc,by have:=h.hb;simp only;omega,by simp only;omega⟩
 refine pv e179 (by simp) (by simp [VV.arePure,VV.isPure,Vl.vv,h.pure,hy.pure]) (by simp [VV.isPure,Vl.vv,hok.pure]) ?_
 have h1:=h.rc
 have h2:=h.hc
 have h3:=hy.rc
 have h4:=hy.hc
 simp only [go_sem,seval] at h1
 simp only [go_sem,seval] at h2
 simp only [go_sem,seval] at h3
 simp only [go_sem,seval] at h4
 simp only [go_sem,seval,c179,Vl.vv,Vl.cells,h1,h2,h3,h4]
 have e2 : evNum2 true (.int .i64 x.below) (.int .i64 (y.below+1 : Nat))=some (.int .i64 (max x.below (y.below+1) : Nat)):=by
  have e0 : (if ((y.below+1 : Nat) : Int) > (x.below : Int) then ((y.below+1 : Nat) : Int) else (x.below : Int))=((max x.below (y.below+1) : Nat) : Int):=by split<;>omega
  simp only [evNum2,if_true,e0]
 have e3 : IntKind.i64.wrap ((x.more : Int)+(y.more+1 : Nat))=((x.more+(y.more+1) : Nat) : Int):=by rw [iw (by omega)];omega
 refine dcallO_pure (p_Depth y hy) (by simp only [go_sem,seval,h1,h2,h3,h4,e2]) ?_<;>simp only [go_sem,seval,h1,h2,h3,h4,e2]
 refine dcallO_pure (p_Nodes y hy) (by simp only [go_sem,seval,h1,h2,h3,h4,e3]) ?_<;>simp only [go_sem,seval,h1,h2,h3,h4,e3]
 exact fin (by have:=hok.pure;simp only [VV.isPure];exact this) rfl
theorem p_within (x : Vl) (h : x.ok) : PV Tryz.prog G0 178 [x.vv] (if x.below+1 > 64 then .tup [Vl.zero.vv,.int .i64 7] else if x.more+1 > 16384 then .tup [Vl.zero.vv,.int .i64 8] else .tup [x.vv,.int .i64 0]):=by
 have hpu : (if x.below+1 > 64 then VV.tup [Vl.zero.vv,.int .i64 7] else if x.more+1 > 16384 then .tup [Vl.zero.vv,.int .i64 8] else .tup [x.vv,.int .i64 0]).isPure=true:=by
  split
  ·rfl
  ·split
   ·rfl
   ·simp [VV.isPure,VV.arePure,Vl.vv,h.pure]
 refine pv e178 (by simp) (by simp [VV.arePure,VV.isPure,Vl.vv,h.pure]) hpu ?_
 have h1:=h.rc
 have h2:=h.hc
 simp only [go_sem,seval] at h1
 simp only [go_sem,seval] at h2
 simp only [go_sem,seval,c178,Vl.vv,Vl.cells,h1,h2]
 refine callO_pure (p_Depth x h) ?_<;>simp only [go_sem,seval,h1,h2]
 refine condO_split (fun hc=>?_) (fun hc=>?_)
 ·have hc' : x.below+1 > 64:=by simp at hc;omega
  simp only [go_sem,seval,h1,h2]
  rw [if_pos hc'] at hpu ⊢
  exact fin hpu rfl
 ·have hc' : ¬ x.below+1 > 64:=by simp at hc;omega
  simp only [go_sem,seval,h1,h2]
  rw [if_neg hc'] at hpu ⊢
  refine callO_pure (p_Nodes x h) ?_<;>simp only [go_sem,seval,h1,h2]
  refine condO_split (fun hd=>?_) (fun hd=>?_)
  ·have hd' : x.more+1 > 16384:=by simp at hd;omega
   simp only [go_sem,seval,h1,h2]
   rw [if_pos hd'] at hpu ⊢
   exact fin hpu rfl
  ·have hd' : ¬ x.more+1 > 16384:=by simp at hd;omega
   simp only [go_sem,seval,h1,h2]
   rw [if_neg hd'] at hpu ⊢
   exact fin hpu rfl
end Go.V
namespace Go.V
open Go.Proofs
set_option maxRecDepth 100000
theorem cellU {v : VV} (h : v.isCell=true) : v.isUndef=false:=by cases v<;>first | rfl | cases h
theorem cellC {v : VV} (h : v.isCell=true) : v.cells=[v]:=by cases v<;>first | rfl | cases h
theorem x_splitP (v : VV) (xs : List (List VV)) (i : Nat) (h : RP v xs) (hi : i≤xs.length) (hl : xs.length≤1000000) : SplitR v xs i:=by
 rcases h with ⟨rfl,rfl⟩ | ⟨d,h⟩
 ·refine ⟨.nilp,.nilp,.inl ⟨rfl,by simp⟩,.inl ⟨rfl,by simp⟩, ?_⟩
  refine pv e196 (by simp) rfl rfl ?_
  simp only [go_sem,seval,c196]
  exact fin (by rfl) rfl
 ·exact x_split d v xs i h hi hl
theorem x_ropeInsert (root : VV) (xs : List (List VV)) (h : RP root xs) (x : List VV) (hx : Blk 11 [x]) (i : Nat) (hi : i≤xs.length) (hl : xs.length+1≤1000000) : ∃ r,RP r (xs.take i++[x]++xs.drop i)∧PV Tryz.prog G0 177 [.agg [root],.int .i64 i,.agg x] (.tup [.agg [r],.int .i64 0]):=by
 obtain ⟨a,b,ha,hb,hP⟩:=x_splitP root xs i h hi (by omega)
 obtain ⟨lf,hlf,hP1,hlf1⟩:=x_leaf (.sl 1 x true) [x] (SlV.of hx rfl (by simp))
 obtain ⟨j,hj,hP2⟩:=x_join a lf _ _ ha hlf (by simp;omega)
 obtain ⟨r,hr,hP3⟩:=x_join j b _ _ hj hb (by simp;omega)
 refine ⟨r,hr, ?_⟩
 have hp:=h.pure
 have hc:=h.cell
 have hrp:=hr.pure
 have hrc:=hr.cell
 have hru:=cellU hrc
 have hrl:=cellC hrc
 simp only [go_sem,seval] at hru
 simp only [go_sem,seval] at hrl
 have c7 : x.length=11:=hx.len x (by simp)
 have c8 : x.all VV.isCell=true:=hx.cell x (by simp)
 have c9 : x.take 11=x:=List.take_of_length_le (by omega)
 have c10 : VV.arePure x=true:=hx.pure x (by simp)
 have b1 : decide ((i : Int) < 0)=false:=by simp
 have b2 : decide ((xs.length : Int) < i)=false:=decide_eq_false (by omega)
 refine pv e177 (by simp) (by simp [VV.arePure,VV.isPure,hp,c10]) (by simp [VV.arePure,VV.isPure,hrp]) ?_
 simp only [go_sem,seval] at hc
 simp only [go_sem,seval] at hrc
 simp only [go_sem,seval,c177,hc,c7,c8,c9,b1]
 refine callO_pure (p_ropeLen root xs h) ?_<;>simp only [go_sem,seval,hc,c7,c8,c9,b1,b2]
 refine callO_pure (hP) ?_<;>simp only [go_sem,seval,hc,c7,c8,c9]
 refine callO_pure (hP1) ?_<;>simp only [go_sem,seval,hc,c7,c8,c9]
 refine callO_pure (hP2) ?_<;>simp only [go_sem,seval,hc,c7,c8,c9]
 refine callO_pure (hP3) ?_<;>simp only [go_sem,seval,hc,hrc,hru,hrl,c7,c8,c9]
 have hpu : (VV.tup [.agg [r],.int .i64 0]).isPure=true:=by simp [VV.arePure,VV.isPure,hrp]
 exact fin hpu rfl
theorem x_vInsert (x y : Vl) (h : x.ok) (hy : y.ok) (hk : x.k=4) (xs : List (List VV)) (hR : RP x.root xs) (i : Nat) (hi : i≤xs.length) (hl : xs.length+1≤1000000) (hm : x.more+y.more+1≤1000000) (hb : y.below+1≤1000000) :
  ∃ r,RP r (xs.take i++[y.cells]++xs.drop i)∧PV Tryz.prog G0 140 [x.vv,.int .i64 i,y.vv]
   (if max x.below (y.below+1)+1 > 64 then .tup [Vl.zero.vv,.int .i64 7] else if x.more+(y.more+1)+1 > 16384 then .tup [Vl.zero.vv,.int .i64 8] else .tup [({ x with root:=r,below:=max x.below (y.below+1),more:=x.more+(y.more+1) } : Vl).vv,.int .i64 0]):=by
 obtain ⟨r,hr,hP⟩:=x_ropeInsert x.root xs hR y.cells hy.blk i hi hl
 refine ⟨r,hr, ?_⟩
 have hok1 : ({ x with root:=r } : Vl).ok:=⟨hr.pure,hr.cell,h.hp,h.hc,h.hb,h.hm⟩
 have hok2 : ({ x with root:=r,below:=max x.below (y.below+1),more:=x.more+(y.more+1) } : Vl).ok:=⟨hr.pure,hr.cell,h.hp,h.hc,by have:=h.hb;simp only;omega,by simp only;omega⟩
 have hW:=p_with { x with root:=r } y hok1 hy hm hb
 simp only [Vl.vv,Vl.cells,hk] at hW
 have hI:=p_within _ hok2
 generalize hz : (if max x.below (y.below+1)+1 > 64 then VV.tup [Vl.zero.vv,.int .i64 7] else if x.more+(y.more+1)+1 > 16384 then .tup [Vl.zero.vv,.int .i64 8] else .tup [({ x with root:=r,below:=max x.below (y.below+1),more:=x.more+(y.more+1) } : Vl).vv,.int .i64 0])=z
 rw [show (if ({ x with root:=r,below:=max x.below (y.below+1),more:=x.more+(y.more+1) } : Vl).below+1 > 64 then VV.tup [Vl.zero.vv,.int .i64 7] else if ({ x with root:=r,below:=max x.below (y.below+1),more:=x.more+(y.more+1) } : Vl).more+1 > 16384 then .tup [Vl.zero.vv,.int .i64 8] else .tup [({ x with root:=r,below:=max x.below (y.below+1),more:=x.more+(y.more+1) } : Vl).vv,.int .i64 0])=z from hz] at hI
 simp only [Vl.vv,Vl.cells,hk] at hI
 have hzz : ∃ zs e,z=.tup [.agg zs,.int .i64 e]∧zs.length=11∧VV.arePure zs=true∧allCells zs=true:=by
  rw [← hz]
  split
  ·exact ⟨_,_,rfl,rfl,rfl,rfl⟩
  ·split
   ·exact ⟨_,_,rfl,rfl,rfl,rfl⟩
   ·exact ⟨_,_,rfl,rfl,hok2.pure,hok2.cell⟩
 obtain ⟨zs,e,rfl,z1,z2,z3⟩:=hzz
 clear hz
 have h1:=h.rc
 have h2:=h.hc
 have h3:=hy.rc
 have h4:=hy.hc
 have h5:=hr.cell
 simp only [go_sem,seval] at h1
 simp only [go_sem,seval] at h2
 simp only [go_sem,seval] at h3
 simp only [go_sem,seval] at h4
 simp only [go_sem,seval] at h5
 have hpu : (VV.tup [.agg zs,.int .i64 e]).isPure=true:=by simp [VV.isPure,VV.arePure,z2]
 refine pv e140 (by simp) (by simp [VV.arePure,VV.isPure,Vl.vv,h.pure,hy.pure]) hpu ?_
 have b1 : ((4 : Int) == 4)=true:=by decide
 simp only [go_sem,seval,c140,Vl.vv,Vl.cells,hk,h1,h2,h3,h4,h5]
 have z4 : zs.all VV.isCell=true:=z3
 have z5 : zs.take 11=zs:=List.take_of_length_le (by omega)
 refine callO_pure (hP) ?_<;>simp only [go_sem,seval,h1,h2,h3,h4,h5]
 refine callO_pure (hW) ?_<;>simp only [go_sem,seval,h1,h2,h3,h4,h5,Vl.vv,Vl.cells]
 refine callO_pure (hI) ?_<;>simp only [go_sem,seval,h1,h2,h3,h4,h5,z1,z4,z5]
 exact fin hpu rfl
end Go.V
namespace Go.V
open Go.Proofs
set_option maxRecDepth 100000
structure Ch (S : Nat→Prop) (σ σ' : Store) : Prop where
 len : σ.length≤σ'.length
 same : ∀ id,id < σ.length→¬ S id→σ'[id]?=σ[id]?
theorem Ch.refl (S : Nat→Prop) (σ : Store) : Ch S σ σ:=⟨Nat.le_refl _,fun _ _ _=>rfl⟩
theorem Ch.trans {S : Nat→Prop} {a b c : Store} (h : Ch S a b) (h' : Ch S b c) : Ch S a c:=⟨Nat.le_trans h.len h'.len,fun id h1 h2=>(h'.same id (Nat.lt_of_lt_of_le h1 h.len) h2).trans (h.same id h1 h2)⟩
theorem Ch.mono {S S' : Nat→Prop} {a b : Store} (h : Ch S a b) (hs : ∀ i,S i→S' i) : Ch S' a b:=⟨h.len,fun id h1 h2=>h.same id h1 fun h3=>h2 (hs id h3)⟩
theorem Ch.snoc (S : Nat→Prop) (σ τ : Store) : Ch S σ (σ++τ):=⟨by simp,fun id h _=>List.getElem?_append_left h⟩
theorem Ch.app {S : Nat→Prop} {σ σ' τ : Store} (h : Ch S (σ++τ) σ') : Ch S σ σ':=(Ch.snoc S σ τ).trans h
theorem Ch.set {S : Nat→Prop} {σ : Store} {id : Nat} {o : Obj} (h : S id) : Ch S σ (σ.set id o):=⟨by simp,fun j _ hj=>List.getElem?_set_ne (fun e=>by subst e;exact hj h)⟩
def RD (seed bits : Int) (s : Bs) (a : Int) (n : Nat) : Obj:=.own [.int .u64 seed,.int .i64 bits,.str s,.int .i64 a,.int .i64 n]
def brkV (c p : Int) : VV:=.ifc 109 (.agg [faultV c p])
def peekP (s : Bs) (a : Int) : Lx:=match lexNext s a with
 | .tok 0 _ _ _ _=>.err 10 s.length
 | x=>x
def tokR : Lx→CRes
 | .tok k a e n t=>.ret (tokV k a e n t)
 | .err c p=>.panic (brkV c p)
def isIfcD : Option TypeDesc→Bool
 | some (.interface _)=>true
 | _=>false
@[go_sem] theorem isIfcD_some {e : _} : isIfcD (some (.interface e))=true:=rfl
theorem isIfcD_und {o : Option TypeDesc} (h : isIfcD o=true) : ∃ e,o=some (.interface e):=by
 unfold isIfcD at h
 split at h
 ·exact ⟨_,rfl⟩
 ·cases h
section
variable {P : Program} {t u : TypeId} {x : Operand} {v : VV} {w : Value} {σ : Store}
@[go_sem] theorem eqi_in (h : isIfcD (P.underlying t)=true) : evEq P .eql t x (.const w) (.ifc u v) .nili σ=okV (.bool false) σ:=by
 obtain ⟨e,he⟩:=isIfcD_und h;simp [evEq,VV.eqOK,VV.isNilIfc,VV.isAgg,eqV,he,okV]
@[go_sem] theorem nei_in (h : isIfcD (P.underlying t)=true) : evEq P .neq t x (.const w) (.ifc u v) .nili σ=okV (.bool true) σ:=by
 obtain ⟨e,he⟩:=isIfcD_und h;simp [evEq,VV.eqOK,VV.isNilIfc,VV.isAgg,eqV,he,okV]
@[go_sem] theorem eqi_nn (h : isIfcD (P.underlying t)=true) : evEq P .eql t x (.const w) .nili .nili σ=okV (.bool true) σ:=by
 obtain ⟨e,he⟩:=isIfcD_und h;simp [evEq,VV.eqOK,VV.isNilIfc,VV.isAgg,eqV,he,okV,opConst]
@[go_sem] theorem nei_nn (h : isIfcD (P.underlying t)=true) : evEq P .neq t x (.const w) .nili .nili σ=okV (.bool false) σ:=by
 obtain ⟨e,he⟩:=isIfcD_und h;simp [evEq,VV.eqOK,VV.isNilIfc,VV.isAgg,eqV,he,okV,opConst]
end
theorem faultV_cell (e a : Int) : (faultV e a).isCell=true:=by unfold faultV;split<;>rfl
theorem faultV_ne {e : Int} (a : Int) (h : e≠0) : ∃ v,faultV e a=.ifc 135 v:=by unfold faultV;rw [if_neg h];exact ⟨_,rfl⟩
theorem lexNext_err {s : Bs} {a : Int} {c p : Nat} (h : lexNext s a=.err c p) : c≠0:=by
 unfold lexNext at h
 split at h
 ·cases h;decide
 ·unfold lexAt at h
  split at h
  ·cases h
  ·unfold lexC at h
   split at h
   ·split at h
    ·cases h
    ·rename_i hh;cases h;exact hh
   ·split at h
    ·cases h
    ·split at h
     ·split at h
      ·cases h
      ·rename_i hh;cases h;exact hh
     ·split at h
      ·cases h
      ·cases h;decide
theorem c_breaks (c p : Int) (σ : Store) : CV Tryz.prog G0 96 [.int .i64 c,.int .i64 p] σ fun r σ'=>r=.panic (brkV c p)∧σ'=σ:=by
 refine cv e96 (by simp) ?_
 have h1:=cellU (faultV_cell c p)
 have h2:=cellC (faultV_cell c p)
 have h3:=faultV_cell c p
 simp only [go_sem,seval] at h1
 simp only [go_sem,seval] at h2
 simp only [go_sem,seval] at h3
 simp only [go_sem,seval,c96]
 refine callO_pure (p_New c p) ?_<;>simp only [go_sem,seval,h1,h2,h3]
 rfl
theorem c_peek (id : Nat) (seed bits : Int) (s : Bs) (a : Int) (n : Nat) (σ : Store) (hσ : σ[id]?=some (RD seed bits s a n)) (ha : -9223372036854775808≤a∧a≤9223372036854775807) (hs : s.length≤10000000) :
  CV Tryz.prog G0 136 [.mptr id 0] σ fun r σ'=>r=tokR (peekP s a)∧Ch (fun _=>False) σ σ':=by
 refine cv e136 (by simp) ?_
 have hid:=(List.getElem?_eq_some_iff.1 hσ).1
 have hσ' : ∀ τ,(σ++τ)[id]?=some (RD seed bits s a n):=fun τ=>by rw [List.getElem?_append_left hid];exact hσ
 unfold RD at hσ'
 simp only [go_sem,seval,c136,hσ',SS]
 have hN:=p_Next s a ha hs
 unfold peekP
 cases hL : lexNext s a with
 | err c p =>
  rw [hL] at hN
  obtain ⟨v,hv⟩:=faultV_ne (e:=c) p (by have:=lexNext_err hL;omega)
  simp only [lxV,hv] at hN
  refine dpureO_of (hN) ?_<;>simp only [go_sem,seval,hσ',SS,tok0,tokV]
  simp only [go_sem,seval,tokR,brkV,hv]
  exact .snoc _ _ _
 | tok k x e i t =>
  rw [hL] at hN
  simp only [lxV,tokV] at hN
  refine dpureO_of (hN) ?_<;>simp only [go_sem,seval,hσ',SS]
  refine condO_split (fun hc=>?_) (fun hc=>?_)
  ·have hk : k=0:=by simp at hc;omega
   subst hk
   simp only [go_sem,seval,hσ',SS]
   refine CV.mono (c_breaks 10 s.length _) ?_
   rintro _ σ' ⟨rfl,rfl⟩
   simp only [go_sem,seval,resK]
   exact ⟨rfl,.snoc _ _ _⟩
  ·have hk : k≠0:=by simp at hc;omega
   simp only [go_sem,seval,hσ',SS]
   refine ⟨?_,.snoc _ _ _⟩
   cases k with
   | zero=>exact absurd rfl hk
   | succ k=>rfl
def Gone (id : Nat) (seed bits : Int) (s : Bs) (n : Nat) (e : Int) (σ σ' : Store) : Prop:=Ch (·=id) σ σ'∧σ'[id]?=some (RD seed bits s e n)
theorem peekP_tok {s : Bs} {a : Int} {k x e : Nat} {i : Int} {t : Bs} (h : peekP s a=.tok k x e i t) : k≠0∧lexNext s a=.tok k x e i t:=by
 unfold peekP at h
 cases hL : lexNext s a with
 | err c p=>rw [hL] at h;cases h
 | tok k' x' e' i' t' =>
  rw [hL] at h
  cases k' with
  | zero=>cases h
  | succ k'=>cases h;exact ⟨by omega,rfl⟩
theorem c_next (id : Nat) (seed bits : Int) (s : Bs) (a : Int) (n : Nat) (σ : Store) (hσ : σ[id]?=some (RD seed bits s a n)) (ha : -9223372036854775808≤a∧a≤9223372036854775807) (hs : s.length≤10000000) :
  CV Tryz.prog G0 94 [.mptr id 0] σ fun r σ'=>r=tokR (peekP s a)∧Ch (·=id) σ σ'∧(∀ k x e i t,peekP s a=.tok k x e i t→Gone id seed bits s n e σ σ'):=by
 refine cv e94 (by simp) ?_
 have hid:=(List.getElem?_eq_some_iff.1 hσ).1
 simp only [go_sem,seval,c94,SS]
 refine CV.mono (c_peek id seed bits s a n _ (by rw [List.getElem?_append_left hid];exact hσ) ha hs) ?_
 rintro _ σ1 ⟨rfl,hC⟩
 have hσ1 : σ1[id]?=some (RD seed bits s a n):=by rw [hC.same id (by simp;omega) (by simp),List.getElem?_append_left hid];exact hσ
 cases hL : peekP s a with
 | err c p =>
  simp only [go_sem,seval,tokR,resK]
  refine ⟨(hC.app).mono (fun _ h=>h.elim), ?_⟩
  intro k x e i t h
  cases h
 | tok k x e i t =>
  have hlen:=hC.len
  simp only [List.length_append,List.length_cons,List.length_nil] at hlen
  have hz : σ1[σ.length]?=some (.own [.int .i64 0,.int .i64 0,.int .i64 0,.int .i64 0,.str []]):=by rw [hC.same _ (by simp) (by simp)];simp
  obtain ⟨σ2,h2⟩ : ∃ σ2,σ2=σ1++[Obj.own [.int .i64 k,.int .i64 x,.int .i64 e,.int .i64 i,.str t]]:=⟨_,rfl⟩
  have g0 : σ2.length=σ1.length+1:=by rw [h2];simp
  have g1 : σ2[id]?=some (RD seed bits s a n):=by rw [h2,List.getElem?_append_left (by omega)];exact hσ1
  have g2 : σ2[σ.length]?=some (.own [.int .i64 0,.int .i64 0,.int .i64 0,.int .i64 0,.str []]):=by rw [h2,List.getElem?_append_left (by omega)];exact hz
  have g3 : σ2[σ1.length]?=some (.own [.int .i64 k,.int .i64 x,.int .i64 e,.int .i64 i,.str t]):=by rw [h2];simp
  have g4 : ∀ j,j < σ.length→j≠id→σ2[j]?=σ[j]?:=fun j hj hne=>by rw [h2,List.getElem?_append_left (by omega),hC.same j (by simp;omega) (by simp),List.getElem?_append_left hj]
  unfold RD at g1
  simp only [go_sem,seval,tokR,resK,tokV,SS,← h2,g1,g3]
  obtain ⟨σ3,h3⟩ : ∃ σ3,σ3=σ2.set id (RD seed bits s e n):=⟨_,rfl⟩
  have k0 : σ3.length=σ1.length+1:=by rw [h3];simp [g0]
  have k1 : σ3[id]?=some (RD seed bits s e n):=by rw [h3,List.getElem?_set_self (by omega)]
  have k2 : σ3[σ.length]?=some (.own [.int .i64 0,.int .i64 0,.int .i64 0,.int .i64 0,.str []]):=by rw [h3,List.getElem?_set_ne (by omega)];exact g2
  have k3 : σ3[σ1.length]?=some (.own [.int .i64 k,.int .i64 x,.int .i64 e,.int .i64 i,.str t]):=by rw [h3,List.getElem?_set_ne (by omega)];exact g3
  have k4 : ∀ j,j < σ.length→j≠id→σ3[j]?=σ[j]?:=fun j hj hne=>by rw [h3,List.getElem?_set_ne (by omega)];exact g4 j hj hne
  unfold RD at h3
  have k5 : σ.length < σ3.length:=by omega
  simp only [go_sem,seval,← h3,k2,k3,List.getElem?_set_self k5]
  have hch : Ch (·=id) σ (σ3.set σ.length (.own [.int .i64 k,.int .i64 x,.int .i64 e,.int .i64 i,.str t])):=⟨by simp;omega,fun j hj hne=>by rw [List.getElem?_set_ne (by omega)];exact k4 j hj hne⟩
  refine ⟨hch, ?_⟩
  rintro k' x' e' i' t' hh
  cases hh
  exact ⟨hch,by rw [List.getElem?_set_ne (by omega)];exact k1⟩
end Go.V
namespace Go.V
open Go.Proofs
set_option maxRecDepth 100000
def IsR (sign : Bs) (id : Nat) (seed bits : Int) (s : Bs) (a : Int) (n : Nat) (σ : Store) (r : CRes) (σ' : Store) : Prop :=
 (∃ c p,peekP s a=.err c p∧r=.panic (brkV c p)∧Ch (fun _=>False) σ σ')∨(∃ x e i,peekP s a=.tok 1 x e i sign∧r=.ret (.bool true)∧Gone id seed bits s n e σ σ') ∨
   (∃ k x e i t,peekP s a=.tok k x e i t∧¬ (k=1∧t=sign)∧r=.ret (.bool false)∧Ch (fun _=>False) σ σ')
theorem c_is (sign : Bs) (id : Nat) (seed bits : Int) (s : Bs) (a : Int) (n : Nat) (σ : Store) (hσ : σ[id]?=some (RD seed bits s a n)) (ha : -9223372036854775808≤a∧a≤9223372036854775807) (hs : s.length≤10000000) :
  CV Tryz.prog G0 176 [.mptr id 0,.str sign] σ (IsR sign id seed bits s a n σ):=by
 refine cv e176 (by simp) ?_
 have hid:=(List.getElem?_eq_some_iff.1 hσ).1
 simp only [go_sem,seval,c176,SS]
 refine CV.mono (c_peek id seed bits s a n _ hσ ha hs) ?_
 rintro _ σ1 ⟨rfl,hC⟩
 have hlen:=hC.len
 have hσ1 : σ1[id]?=some (RD seed bits s a n):=by rw [hC.same id hid (by simp)];exact hσ
 cases hL : peekP s a with
 | err c p =>
  simp only [go_sem,seval,tokR,resK]
  exact .inl ⟨c,p,hL,rfl,hC⟩
 | tok k x e i t =>
  obtain ⟨σ2,h2⟩ : ∃ σ2,σ2=σ1++[Obj.own [.int .i64 k,.int .i64 x,.int .i64 e,.int .i64 i,.str t]]:=⟨_,rfl⟩
  have g0 : σ2.length=σ1.length+1:=by rw [h2];simp
  have g1 : σ2[id]?=some (RD seed bits s a n):=by rw [h2,List.getElem?_append_left (by omega)];exact hσ1
  have g3 : σ2[σ1.length]?=some (.own [.int .i64 k,.int .i64 x,.int .i64 e,.int .i64 i,.str t]):=by rw [h2];simp
  have g4 : ∀ j,j < σ.length→σ2[j]?=σ[j]?:=fun j hj=>by rw [h2,List.getElem?_append_left (by omega),hC.same j hj (by simp)]
  unfold RD at g1
  simp only [go_sem,seval,tokR,resK,tokV,SS,← h2,g1,g3]
  by_cases hk : k=1∧t=sign
  ·obtain ⟨rfl,rfl⟩:=hk
   have b1 : (((1 : Nat) : Int) != 1)=false:=by decide
   have b2 : (t == t)=true:=by simp
   simp only [go_sem,seval,b1,b2,g1,g3,Bool.not_false,Bool.not_true]
   refine .inr (.inl ⟨x,e,i,hL,rfl,⟨by simp;omega,fun j hj hne=>by rw [List.getElem?_set_ne (by omega)];exact g4 j hj⟩,by rw [List.getElem?_set_self (by omega)];rfl⟩)
  ·have hfin : IsR sign id seed bits s a n σ (.ret (.bool false)) σ2:=.inr (.inr ⟨k,x,e,i,t,hL,hk,rfl,⟨by omega,fun j hj _=>g4 j hj⟩⟩)
   by_cases hk1 : k=1
   ·subst hk1
    have b1 : (((1 : Nat) : Int) != 1)=false:=by decide
    have b2 : (t == sign)=false:=by simpa using hk
    simp only [go_sem,seval,b1,b2,g1,g3,Bool.not_false,Bool.not_true]
    exact hfin
   ·have b1 : ((k : Int) != 1)=true:=by simp;omega
    simp only [go_sem,seval,b1,g1,g3,Bool.not_false,Bool.not_true]
    exact hfin
theorem c_must (sign : Bs) (id : Nat) (seed bits : Int) (s : Bs) (a : Int) (n : Nat) (σ : Store) (hσ : σ[id]?=some (RD seed bits s a n)) (ha : -9223372036854775808≤a∧a≤9223372036854775807) (hs : s.length≤10000000) :
  CV Tryz.prog G0 142 [.mptr id 0,.str sign] σ fun r σ'=>(∃ c p,peekP s a=.err c p∧r=.panic (brkV c p)∧Ch (fun _=>False) σ σ')∨(∃ x e i,peekP s a=.tok 1 x e i sign∧r=.ret (.tup [])∧Gone id seed bits s n e σ σ') ∨
   (∃ k x e i t,peekP s a=.tok k x e i t∧¬ (k=1∧t=sign)∧r=.panic (brkV 2 x)∧Ch (fun _=>False) σ σ'):=by
 refine cv e142 (by simp) ?_
 have hid:=(List.getElem?_eq_some_iff.1 hσ).1
 simp only [go_sem,seval,c142]
 refine CV.mono (c_is sign id seed bits s a n _ hσ ha hs) ?_
 rintro _ σ1 (⟨c,p,hL,rfl,hC⟩ | ⟨x,e,i,hL,rfl,hG⟩ | ⟨k,x,e,i,t,hL,hn,rfl,hC⟩)
 ·simp only [go_sem,seval,resK]
  exact .inl ⟨c,p,hL,rfl,hC⟩
 ·simp only [go_sem,seval,resK,Bool.not_true]
  exact .inr (.inl ⟨x,e,i,hL,hG⟩)
 ·have hσ1 : σ1[id]?=some (RD seed bits s a n):=by rw [hC.same id hid (by simp)];exact hσ
  simp only [go_sem,seval,resK,Bool.not_false]
  refine CV.mono (c_peek id seed bits s a n _ hσ1 ha hs) ?_
  rintro _ σ2 ⟨rfl,hC2⟩
  rw [hL]
  simp only [go_sem,seval,tokR,resK,tokV]
  refine CV.mono (c_breaks 2 x _) ?_
  rintro _ σ' ⟨rfl,rfl⟩
  simp only [go_sem,seval,resK]
  exact .inr (.inr ⟨k,x,e,i,t,rfl,hn,rfl,hC.trans hC2⟩)
def beginP (k : Nat) (i : Int) (t : Bs) : Option (Int × Int × Bs × Int) :=
 if k=3 then some (2,i,[],0) else if k=4 then some (3,0,t,0)
 else if k=1 then (if t=[91] then some (0,0,[],4) else if t=[123] then some (0,0,[],5) else if t=[60] then some (0,0,[],6) else none)
 else if k=2 then (if t=[116,114,117,101] then some (1,1,[],0) else if t=[102,97,108,115,101] then some (1,0,[],0) else if t=[110,117,108,108] then some (0,0,[],0) else none)
 else none
def beginR (a : Nat) : Option (Int × Int × Bs × Int)→CRes
 | some (sk,si,st,q)=>.ret (.tup [.agg [.int .i64 sk,.int .i64 si,.str st],.int .i64 q])
 | none=>.panic (brkV 2 a)
theorem c_begins (k a e : Nat) (i : Int) (t : Bs) (σ : Store) : CV Tryz.prog G0 95 [tokV k a e i t] σ fun r σ'=>r=beginR a (beginP k i t)∧Ch (fun _=>False) σ σ':=by
 refine cv e95 (by simp) ?_
 by_cases h3 : k=3
 ·subst h3
  have b1 : (((3 : Nat) : Int) == 3)=true:=by decide
  simp only [go_sem,seval,c95,tokV,b1,SS]
  exact ⟨rfl,.snoc _ _ _⟩
 have b3 : ((k : Int) == 3)=false:=by simp;omega
 by_cases h4 : k=4
 ·subst h4
  have b1 : (((4 : Nat) : Int) == 4)=true:=by decide
  simp only [go_sem,seval,c95,tokV,b3,b1,SS]
  exact ⟨rfl,.snoc _ _ _⟩
 have b4 : ((k : Int) == 4)=false:=by simp;omega
 by_cases h1 : k=1
 ·subst h1
  have b1 : (((1 : Nat) : Int) == 1)=true:=by decide
  by_cases t0 : t=[91]
  ·subst t0
   have p0 : (([91] : Bs) == [91])=true:=by decide
   simp only [go_sem,seval,c95,tokV,b3,b4,b1,p0,SS]
   exact ⟨rfl,.snoc _ _ _⟩
  have n0 : (t == [91])=false:=by simpa using t0
  by_cases t1 : t=[123]
  ·subst t1
   have n0 : (([123] : Bs) == [91])=false:=by decide
   have p1 : (([123] : Bs) == [123])=true:=by decide
   simp only [go_sem,seval,c95,tokV,b3,b4,b1,n0,p1,SS]
   exact ⟨rfl,.snoc _ _ _⟩
  have n1 : (t == [123])=false:=by simpa using t1
  by_cases t2 : t=[60]
  ·subst t2
   have n0 : (([60] : Bs) == [91])=false:=by decide
   have n1 : (([60] : Bs) == [123])=false:=by decide
   have p2 : (([60] : Bs) == [60])=true:=by decide
   simp only [go_sem,seval,c95,tokV,b3,b4,b1,n0,n1,p2,SS]
   exact ⟨rfl,.snoc _ _ _⟩
  have n2 : (t == [60])=false:=by simpa using t2
  have hb : beginP 1 i t=none:=by unfold beginP;rw [if_neg (by decide),if_neg (by decide),if_pos rfl,if_neg t0,if_neg t1,if_neg t2]
  simp only [go_sem,seval,c95,tokV,b3,b4,b1,n0,n1,n2,SS]
  refine CV.mono (c_breaks 2 a _) ?_
  rintro _ σ' ⟨rfl,rfl⟩
  simp only [go_sem,seval,resK]
  refine ⟨?_,.snoc _ _ _⟩
  rw [hb];rfl
 have b1 : ((k : Int) == 1)=false:=by simp;omega
 by_cases h2 : k=2
 ·subst h2
  have b2 : (((2 : Nat) : Int) == 2)=true:=by decide
  by_cases t0 : t=[116,114,117,101]
  ·subst t0
   have p0 : (([116,114,117,101] : Bs) == [116,114,117,101])=true:=by decide
   simp only [go_sem,seval,c95,tokV,b3,b4,b1,b2,p0,SS]
   exact ⟨rfl,.snoc _ _ _⟩
  have n0 : (t == [116,114,117,101])=false:=by simpa using t0
  by_cases t1 : t=[102,97,108,115,101]
  ·subst t1
   have n0 : (([102,97,108,115,101] : Bs) == [116,114,117,101])=false:=by decide
   have p1 : (([102,97,108,115,101] : Bs) == [102,97,108,115,101])=true:=by decide
   simp only [go_sem,seval,c95,tokV,b3,b4,b1,b2,n0,p1,SS]
   exact ⟨rfl,.snoc _ _ _⟩
  have n1 : (t == [102,97,108,115,101])=false:=by simpa using t1
  by_cases t2 : t=[110,117,108,108]
  ·subst t2
   have n0 : (([110,117,108,108] : Bs) == [116,114,117,101])=false:=by decide
   have n1 : (([110,117,108,108] : Bs) == [102,97,108,115,101])=false:=by decide
   have p2 : (([110,117,108,108] : Bs) == [110,117,108,108])=true:=by decide
   simp only [go_sem,seval,c95,tokV,b3,b4,b1,b2,n0,n1,p2,SS]
   exact ⟨rfl,.snoc _ _ _⟩
  have n2 : (t == [110,117,108,108])=false:=by simpa using t2
  have hb : beginP 2 i t=none:=by unfold beginP;rw [if_neg (by decide),if_neg (by decide),if_neg (by decide),if_pos rfl,if_neg t0,if_neg t1,if_neg t2]
  simp only [go_sem,seval,c95,tokV,b3,b4,b1,b2,n0,n1,n2,SS]
  refine CV.mono (c_breaks 2 a _) ?_
  rintro _ σ' ⟨rfl,rfl⟩
  simp only [go_sem,seval,resK]
  refine ⟨?_,.snoc _ _ _⟩
  rw [hb];rfl
 have b2 : ((k : Int) == 2)=false:=by simp;omega
 have hb : beginP k i t=none:=by unfold beginP;rw [if_neg h3,if_neg h4,if_neg h1,if_neg h2]
 rw [hb]
 simp only [go_sem,seval,c95,tokV,b3,b4,b1,b2,SS]
 refine CV.mono (c_breaks 2 a _) ?_
 rintro _ σ' ⟨rfl,rfl⟩
 simp only [go_sem,seval,resK]
 exact ⟨rfl,.snoc _ _ _⟩
end Go.V
namespace Go.V
open Go.Proofs
set_option maxRecDepth 100000
def maxD (l : List Vl) : Nat:=l.foldl (fun m x=>max m (x.below+1)) 0
def sumN (l : List Vl) : Nat:=l.foldl (fun m x=>m+(x.more+1)) 0
theorem maxD_snoc (l : List Vl) (x : Vl) : maxD (l++[x])=max (maxD l) (x.below+1):=by simp [maxD]
theorem sumN_snoc (l : List Vl) (x : Vl) : sumN (l++[x])=sumN l+(x.more+1):=by simp [sumN]
theorem sumN_take_succ (l : List Vl) (i : Nat) (h : i < l.length) : sumN (l.take (i+1))=sumN (l.take i)+(l[i].more+1):=by rw [List.take_succ_eq_append_getElem h,sumN_snoc]
theorem maxD_take_succ (l : List Vl) (i : Nat) (h : i < l.length) : maxD (l.take (i+1))=max (maxD (l.take i)) (l[i].below+1):=by rw [List.take_succ_eq_append_getElem h,maxD_snoc]
theorem sumN_append (l m : List Vl) : sumN (l++m)=sumN l+sumN m:=by
 have key : ∀ (m : List Vl) (a : Nat),m.foldl (fun m x=>m+(x.more+1)) a=a+m.foldl (fun m x=>m+(x.more+1)) 0:=by
  intro m
  induction m with
  | nil=>intro a;rfl
  | cons x m ih=>intro a;rw [List.foldl_cons,List.foldl_cons,ih,ih (0+_)];omega
 unfold sumN
 rw [List.foldl_append,key]
theorem sumN_take_le (l : List Vl) (i : Nat) : sumN (l.take i)≤sumN l:=by
 conv=>rhs;rw [← List.take_append_drop i l,sumN_append]
 omega
theorem maxD_take_le (l : List Vl) (i : Nat) : maxD (l.take i)≤maxD l:=by
 have key : ∀ (m : List Vl) (a : Nat),a≤m.foldl (fun m x=>max m (x.below+1)) a:=by
  intro m
  induction m with
  | nil=>intro a;exact Nat.le_refl _
  | cons x m ih=>intro a;exact Nat.le_trans (Nat.le_max_left _ _) (ih _)
 conv=>rhs;rw [← List.take_append_drop i l]
 unfold maxD
 rw [List.foldl_append]
 exact key _ _
section
variable {σ τ : Store} {id : Nat} {o o' a b c : Obj}
theorem sx_set (h : id < σ.length) : (σ++τ).set id o=σ.set id o++τ:=by rw [List.set_append];simp [h]
theorem sx_get (h : id < σ.length) : (σ.set id o++τ)[id]?=some o:=by rw [List.getElem?_append_left (by simpa using h)];simp [h]
theorem sx_set2 (h : id < σ.length) : (σ.set id o++τ).set id o'=σ.set id o'++τ:=by rw [List.set_append];simp [h]
theorem sx_get0 : (σ.set id o++a::τ)[σ.length]?=some a:=by rw [List.getElem?_append_right (by simp)];simp
theorem sx_get1 : (σ.set id o++a::b::τ)[σ.length+1]?=some b:=by rw [List.getElem?_append_right (by simp)];simp
end
theorem c_counted1 (id : Nat) (x y : Vl) (hx : x.ok) (hy : y.ok) (hm : x.more+y.more+1≤1000000) (hb : y.below+1≤1000000) (kd i : Int) (t : Bs) (σ : Store) (hσ : σ[id]?=some (.own x.cells)) :
  CV Tryz.prog G0 154 [.agg [.int .i64 kd,.int .i64 i,.str t],y.vv,.mptr id 0] σ fun c σ'=>c=.ret (.tup [])∧σ'[id]?=some (.own ({ x with below:=max x.below (y.below+1),more:=x.more+(y.more+1) } : Vl).cells)∧High (·=id) σ σ':=by
 have hlt:=(List.getElem?_eq_some_iff.1 hσ).1
 have h1:=hx.rc
 have h2:=hx.hc
 have h3:=hy.rc
 have h4:=hy.hc
 simp only [go_sem,seval] at h1
 simp only [go_sem,seval] at h2
 simp only [go_sem,seval] at h3
 simp only [go_sem,seval] at h4
 have hσ' : ∀ τ,(σ++τ)[id]?=some (.own x.cells):=fun τ=>by rw [List.getElem?_append_left hlt];exact hσ
 unfold Vl.cells at hσ'
 refine cv e154 (by simp) ?_
 have e0 : (if ((y.below+1 : Nat) : Int) > (x.below : Int) then ((y.below+1 : Nat) : Int) else (x.below : Int))=((max x.below (y.below+1) : Nat) : Int):=by split<;>omega
 have e2 : evNum2 true (.int .i64 x.below) (.int .i64 (y.below+1 : Nat))=some (.int .i64 (max x.below (y.below+1) : Nat)):=by
  simp only [evNum2,if_true,e0]
 have e3 : IntKind.i64.wrap ((x.more : Int)+(y.more+1 : Nat))=((x.more+(y.more+1) : Nat) : Int):=by rw [iw (by omega)];omega
 simp only [go_sem,seval,c154,Vl.vv,Vl.cells,h1,h2,h3,h4,hσ',SS]
 refine dcallO_pure (p_Depth y hy) (by simp only [go_sem,seval,h1,h2,h3,h4,hσ',e2,sx_set hlt,sx_get hlt,sx_set2 hlt,sx_get0,sx_get1,List.length_set,SS]) ?_<;>simp only [go_sem,seval,h1,h2,h3,h4,hσ',e2,sx_set hlt,sx_get hlt,sx_set2 hlt,sx_get0,sx_get1,List.length_set,SS]
 refine dcallO_pure (p_Nodes y hy) (by simp only [go_sem,seval,h1,h2,h3,h4,hσ',e3,sx_set hlt,sx_get hlt,sx_set2 hlt,sx_get0,sx_get1,List.length_set,SS]) ?_<;>simp only [go_sem,seval,h1,h2,h3,h4,hσ',e3,sx_set hlt,sx_get hlt,sx_set2 hlt,sx_get0,sx_get1,List.length_set,SS]
 exact ⟨by simp,fun j h1 h2=>by rw [List.getElem?_append_left (by simpa using h1),List.getElem?_set_ne (by omega)]⟩
theorem p_counted_vec (x : Vl) (hx : x.ok) (hk : x.k=4) (items : List Vl) (hi : ∀ y ∈ items,y.ok) (hR : RP x.root (items.map (·.cells))) (hl : items.length≤1000000) (hs : sumN items≤1000000) (hd : maxD items≤1000000) :
  PV Tryz.prog G0 113 [x.vv] ({ x with below:=maxD items,more:=sumN items } : Vl).vv:=by
 have hok : ({ x with below:=maxD items,more:=sumN items } : Vl).ok:=⟨hx.rp,hx.rc,hx.hp,hx.hc,hd,hs⟩
 refine pv e113 (by simp) (by simp [VV.arePure,VV.isPure,Vl.vv,hx.pure]) (by simp only [VV.isPure,Vl.vv];exact hok.pure) ?_
 have h1:=hx.rc
 have h2:=hx.hc
 simp only [go_sem,seval] at h1
 simp only [go_sem,seval] at h2
 simp only [go_sem,seval,c113,Vl.vv,Vl.cells,hk,h1,h2]
 have hlen : (items.map (·.cells)).length=items.length:=by simp
 refine CV.mono (v_vec_each x.sk x.si x.st x.root (items.map (·.cells)) hR x.seed x.bits x.n x.hr hx.hc 0 0 154 k_bod_154 [.mptr 0 0]
  (fun i D σ'=>(∀ id,D id↔id=0)∧σ'[0]?=some (.own ({ x with below:=maxD (items.take i),more:=sumN (items.take i) } : Vl).cells)) (·=0) _ (by rw [hlen];exact hl) ⟨?_, ?_, ?_⟩ ⟨fun _=>.rfl,by simp [Vl.cells,maxD,sumN,hk]⟩) ?_
 ·rintro i D σ ⟨hD,h⟩ id hid
  obtain rfl:=(hD id).1 hid
  exact (List.getElem?_eq_some_iff.1 h).1
 ·rintro i D σ σ' ⟨hD,h⟩ hlow
  exact ⟨hD,by rw [hlow.same 0 ((hD 0).2 rfl)];exact h⟩
 ·rintro i D σ args _ hi' hst ⟨hD,h⟩
  rw [hlen] at hi'
  have hc:=c_counted1 0 { x with below:=maxD (items.take i),more:=sumN (items.take i) } items[i] ⟨hx.rp,hx.rc,hx.hp,hx.hc, ?_, ?_⟩ (hi _ (List.getElem_mem _)) ?_ ?_ 0 i [] σ h
  ·refine ⟨k_bod_154, ?_⟩
   have : args=[.agg [.int .i64 0,.int .i64 i,.str []],items[i].vv]:=by unfold stArgs at hst;rw [hst];simp [List.getD_eq_getElem?_getD,hi',Vl.vv]
   rw [this]
   refine CV.mono hc ?_
   rintro _ σ' ⟨rfl,a,b⟩
   refine ⟨rfl,D,⟨hD, ?_⟩,.refl _ _,⟨b.len,fun id h1 h2=>b.same id h1 (fun e=>h2 ((hD id).2 e))⟩⟩
   rw [a,maxD_take_succ _ _ hi',sumN_take_succ _ _ hi']
  ·have:=maxD_take_le items i;simp only;omega
  ·have:=sumN_take_le items i;simp only;omega
  ·have h1:=sumN_take_le items (i+1)
   rw [sumN_take_succ _ _ hi'] at h1
   simp only;omega
  ·have h1:=maxD_take_le items (i+1)
   rw [maxD_take_succ _ _ hi'] at h1
   omega
 ·rintro _ σ' ⟨rfl,D',⟨hD,h3⟩,hG,hH⟩
  rw [hlen,List.take_length] at h3
  have h4 : σ'[1]?=some (.own [.int .i64 0,.int .i64 0,.str [],.int .i64 0,.nilp,.int .u64 0,.int .i64 0,.int .i64 0,.nilp,.int .i64 0,.int .i64 0]):=by
   rw [hH.same 1 (by simp) (by simp)];simp
  have h5:=(List.getElem?_eq_some_iff.1 h4).1
  unfold Vl.cells at h3
  simp only [go_sem,seval,resK,h1,h2,h3,h4,List.getElem?_set_self h5,hk]
  have:=hok.pure
  simp only [Vl.cells,hk] at this
  refine fin (by simp only [VV.isPure];exact this) rfl
end Go.V
namespace Go.V
open Go.Proofs
set_option maxRecDepth 100000
theorem fini {σ : Store} {n m : Int} (e : n=m) : ∃ z k,CRes.ret (.int .i64 n)=CRes.ret z∧fz k σ z=some (.int .i64 m):=by subst e;exact fin (by rfl) rfl
def checkS (k i : Int) (t : Bs) : Int :=
 if k=3 then (if i=0 then 0 else 1)
 else if k=1 then (if t=[] then (if i=0∨i=1 then 0 else 4) else 1)
 else if k=2 then (if t=[] then 0 else 1)
 else if k=0 then (if i=0∧t=[] then 0 else 1)
 else 3
theorem sc_eq (k i k' i' : Int) (t t' : Bs) : eqV Tryz.prog 9 34 (.agg [.int .i64 k,.int .i64 i,.str t]) (.agg [.int .i64 k',.int .i64 i',.str t'])=some (k == k' && (i == i' && t == t')):=by
 rw [eqV.eq_def]
 simp only [k_und_34,k_teq_34,List.foldr,partOf,k_tagg_3,k_tagg_2,k_tagg_9,List.getElem?_cons_zero,List.getElem?_cons_succ]
 rw [eqV.eq_def,eqV.eq_def,eqV.eq_def]
 simp [k_und_3,k_und_2,k_und_9]
theorem sc_ne (x y : Operand) (k i k' i' : Int) (t t' : Bs) (σ : Store) : evEq Tryz.prog .neq 34 x y (.agg [.int .i64 k,.int .i64 i,.str t]) (.agg [.int .i64 k',.int .i64 i',.str t']) σ=okV (.bool (!(k == k' && (i == i' && t == t')))) σ:=by
 simp only [evEq,VV.eqOK,VV.isNilIfc,VV.isAgg,k_grd_34,sc_eq,Option.map_some,okV]
 rfl
theorem p_sCheck (k i : Int) (t : Bs) : PV Tryz.prog G0 112 [.agg [.int .i64 k,.int .i64 i,.str t]] (.int .i64 (checkS k i t)):=by
 refine pv e112 (by simp) rfl rfl ?_
 by_cases h3 : k=3
 ·subst h3
  by_cases hi : i=0
  ·subst hi
   have hE : (!((3 : Int) == 3 && ((0 : Int) == 0 && t == t)))=false:=by simp
   simp only [go_sem,seval,c112,sc_ne,hE]
   exact fin (by rfl) rfl
  ·have hE : (!((3 : Int) == 3 && ((0 : Int) == i && t == t)))=true:=by simp;exact fun h=>hi h.symm
   simp only [go_sem,seval] at hE
   simp only [go_sem,seval,c112,sc_ne,hE]
   refine fini ?_
   simp [checkS,hi]
 have b3 : (k == 3)=false:=by simpa using h3
 by_cases h1 : k=1
 ·subst h1
  by_cases ht : t=[]
  ·subst ht
   have hE : (!((1 : Int) == 1 && (i == i && ([] : Bs) == [])))=false:=by simp
   by_cases hn : i < 0
   ·have hn' : decide (i < 0)=true:=by simpa using hn
    simp only [go_sem,seval,c112,sc_ne,hE,hn']
    refine fini ?_
    have : ¬ (i=0∨i=1):=by omega
    simp [checkS,this]
   ·have hn' : decide (i < 0)=false:=by simpa using hn
    by_cases hm : 1 < i
    ·have hm' : decide (1 < i)=true:=by simpa using hm
     simp only [go_sem,seval,c112,sc_ne,hE,hn',hm']
     refine fini ?_
     have : ¬ (i=0∨i=1):=by omega
     simp [checkS,this]
    ·have hm' : decide (1 < i)=false:=by simpa using hm
     simp only [go_sem,seval,c112,sc_ne,hE,hn',hm']
     refine fini ?_
     have : i=0∨i=1:=by omega
     simp [checkS,this]
  ·have hE : (!((1 : Int) == 1 && (i == i && ([] : Bs) == t)))=true:=by simp;exact ht
   simp only [go_sem,seval] at hE
   simp only [go_sem,seval,c112,sc_ne,hE]
   refine fini ?_
   simp [checkS,ht]
 have b1 : (k == 1)=false:=by simpa using h1
 by_cases h2 : k=2
 ·subst h2
  by_cases ht : t=[]
  ·subst ht
   have hE : (!((2 : Int) == 2 && (i == i && ([] : Bs) == [])))=false:=by simp
   simp only [go_sem,seval,c112,sc_ne,hE]
   exact fin (by rfl) rfl
  ·have hE : (!((2 : Int) == 2 && (i == i && ([] : Bs) == t)))=true:=by simp;exact ht
   simp only [go_sem,seval] at hE
   simp only [go_sem,seval,c112,sc_ne,hE]
   refine fini ?_
   simp [checkS,ht]
 have b2 : (k == 2)=false:=by simpa using h2
 by_cases h0 : k=0
 ·subst h0
  by_cases hh : i=0∧t=[]
  ·obtain ⟨rfl,rfl⟩:=hh
   have hE : (!((0 : Int) == 0 && ((0 : Int) == 0 && ([] : Bs) == [])))=false:=by simp
   simp only [go_sem,seval,c112,sc_ne,hE]
   exact fin (by rfl) rfl
  ·have hE : (!((0 : Int) == 0 && ((0 : Int) == i && ([] : Bs) == t)))=true:=by
    cases hi : ((0 : Int) == i)<;>cases ht : (([] : Bs) == t)<;>simp_all
   simp only [go_sem,seval] at hE
   simp only [go_sem,seval,c112,sc_ne,hE]
   refine fini ?_
   simp [checkS,hh]
 have b0 : (k == 0)=false:=by simpa using h0
 simp only [go_sem,seval,c112,b3,b1,b2,b0]
 refine fini ?_
 simp [checkS,h3,h1,h2,h0]
def scV (k i : Int) (t : Bs) : Vl:=⟨k,i,t,k,.nilp,0,0,0,.nilp,0,0⟩
theorem scV_ok (k i : Int) (t : Bs) : (scV k i t).ok:=⟨rfl,rfl,rfl,rfl,by simp [scV],by simp [scV]⟩
theorem p_vleaf (k i : Int) (t : Bs) : PV Tryz.prog G0 64 [.agg [.int .i64 k,.int .i64 i,.str t]] (scV k i t).vv:=by
 refine pv e64 (by simp) rfl rfl ?_
 simp only [go_sem,seval,c64]
 exact fin (by rfl) rfl
theorem p_Plain (k i : Int) (t : Bs) : PV Tryz.prog G0 101 [.agg [.int .i64 k,.int .i64 i,.str t]] (if checkS k i t=0 then .tup [(scV k i t).vv,.int .i64 0] else .tup [Vl.zero.vv,.int .i64 (checkS k i t)]):=by
 have hp : (if checkS k i t=0 then VV.tup [(scV k i t).vv,.int .i64 0] else .tup [Vl.zero.vv,.int .i64 (checkS k i t)]).isPure=true:=by split<;>rfl
 refine pv e101 (by simp) rfl hp ?_
 simp only [go_sem,seval,c101]
 refine callO_pure (p_sCheck k i t) ?_<;>simp only [go_sem,seval]
 by_cases hc : checkS k i t=0
 ·rw [if_pos hc] at hp ⊢
  have hb : (checkS k i t != 0)=false:=by simpa using hc
  simp only [go_sem,seval,hb]
  refine callO_pure (p_vleaf k i t) ?_<;>simp only [go_sem,seval,Vl.vv,Vl.cells,scV]
  exact fin hp rfl
 ·rw [if_neg hc] at hp ⊢
  have hb : (checkS k i t != 0)=true:=by simpa using hc
  simp only [go_sem,seval,hb]
  exact fin hp rfl
theorem c_done (x : Vl) (hx : x.ok) (e : Int) (σ : Store) : CV Tryz.prog G0 100 [x.vv,.int .i64 e] σ fun r σ'=>r=(if e=0 then .ret x.vv else .panic (brkV e 0))∧Ch (fun _=>False) σ σ':=by
 have h1:=hx.rc
 have h2:=hx.hc
 simp only [go_sem,seval] at h1
 simp only [go_sem,seval] at h2
 refine cv e100 (by simp) ?_
 by_cases he : e=0
 ·subst he
  simp only [go_sem,seval,c100,Vl.vv,Vl.cells,h1,h2,SS]
  exact .snoc _ _ _
 ·have hb : (e != 0)=true:=by simpa using he
  rw [if_neg he]
  simp only [go_sem,seval,c100,Vl.vv,Vl.cells,h1,h2,hb,SS]
  refine CV.mono (c_breaks e 0 _) ?_
  rintro _ σ' ⟨rfl,rfl⟩
  simp only [go_sem,seval,resK]
  exact .snoc _ _ _
theorem p_vector (root : VV) (items : List Vl) (hi : ∀ y ∈ items,y.ok) (hR : RP root (items.map (·.cells))) (hl : items.length≤1000000) (hs : sumN items≤1000000) (hd : maxD items≤1000000) :
  PV Tryz.prog G0 65 [.agg [root]] (⟨0,0,[],4,root,0,0,0,.nilp,maxD items,sumN items⟩ : Vl).vv:=by
 have hok : (⟨0,0,[],4,root,0,0,0,.nilp,0,0⟩ : Vl).ok:=⟨hR.pure,hR.cell,rfl,rfl,by simp,by simp⟩
 have hok2 : (⟨0,0,[],4,root,0,0,0,.nilp,maxD items,sumN items⟩ : Vl).ok:=⟨hR.pure,hR.cell,rfl,rfl,hd,hs⟩
 have hP:=p_counted_vec ⟨0,0,[],4,root,0,0,0,.nilp,0,0⟩ hok rfl items hi hR hl hs hd
 have h1:=hR.cell
 have h2:=cellU h1
 have h3:=cellC h1
 simp only [go_sem,seval] at h1
 simp only [go_sem,seval] at h2
 simp only [go_sem,seval] at h3
 have hpu:=hok2.pure
 refine pv e65 (by simp) (by simp [VV.arePure,VV.isPure,hR.pure]) (by simp only [VV.isPure,Vl.vv];exact hpu) ?_
 simp only [go_sem,seval,c65,h1,h2,h3]
 refine callO_pure (hP) ?_<;>simp only [go_sem,seval,Vl.vv,Vl.cells,h1,h2,h3]
 exact fin (by simp only [VV.isPure];exact hpu) rfl
theorem p_Of0 : PV Tryz.prog G0 66 [.nils] (.agg [.nilp]):=by
 refine pv e66 (by simp) rfl rfl ?_
 simp only [go_sem,seval,c66]
 refine wpV_loop ?_
 simp only [go_sem,seval]
 exact fin (by rfl) rfl
end Go.V
