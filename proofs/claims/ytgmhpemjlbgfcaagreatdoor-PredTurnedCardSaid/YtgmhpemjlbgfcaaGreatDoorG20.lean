/- Texts F36 F37 F38 F39. -/
import Derived.LaidEql
import Derived.RowKitTokens
import Derived.Stop.Asserts
import Derived.WalkKit
import Derived.Test.YtgmhpemjlbgfcaaGreatDoorG12
import Derived.Test.YtgmhpemjlbgfcaaGreatDoorG17
import Derived.Test.YtgmhpemjlbgfcaaGreatDoorG19
set_option linter.unusedVariables false
set_option linter.unusedSimpArgs false
namespace Go.V
open Go.Proofs
set_option maxRecDepth 100000
theorem Ob {c : Int} (p : Int) (h : c≠0) : zD c p=.ifc 151 (.ptr [.int .i64 p,.ifc 65 (.int .i64 c)] 0):=by unfold zD;rw [if_neg h]
end Go.V
namespace Go.V
open Go.Proofs
set_option maxRecDepth 100000
def pc (m x : Nat) : Nat:=((List.range m).filter (fun i=>x.testBit i)).length
theorem DK (a b x : Nat) : pc (a+b) x=pc a x+pc b (x / 2 ^ a):=by
 unfold pc
 rw [List.range_add,List.filter_append,List.length_append,List.filter_map,List.length_map]
 congr 3
 funext i
 simp only [Function.comp,Nat.testBit_div_two_pow]
 congr 1
 omega
theorem Ce (m x : Nat) : pc m (x % 2 ^ m)=pc m x:=by
 unfold pc
 congr 1
 refine List.filter_congr fun i hi=>?_
 rw [Nat.testBit_mod_two_pow]
 simp [List.mem_range.1 hi]
theorem IY (m x : Nat) : pc m x≤m:=by
 unfold pc
 exact Nat.le_trans (List.length_filter_le _ _) (by simp)
theorem pc32 (x : Nat) : pc 32 x=pc 8 (x / 16777216)+pc 8 (x / 65536 % 256)+pc 8 (x / 256 % 256)+pc 8 (x % 256):=by
 have h1 : pc 32 x=pc 8 x+pc 24 (x / 256):=DK 8 24 x
 have h2 : pc 24 (x / 256)=pc 8 (x / 256)+pc 16 (x / 256 / 256):=DK 8 16 (x / 256)
 have h3 : pc 16 (x / 256 / 256)=pc 8 (x / 256 / 256)+pc 8 (x / 256 / 256 / 256):=DK 8 8 (x / 256 / 256)
 have m1 : pc 8 (x % 256)=pc 8 x:=Ce 8 x
 have m2 : pc 8 (x / 256 % 256)=pc 8 (x / 256):=Ce 8 (x / 256)
 have m3 : pc 8 (x / 65536 % 256)=pc 8 (x / 65536):=Ce 8 (x / 65536)
 have e1 : x / 256 / 256=x / 65536:=by rw [Nat.div_div_eq_div_mul]
 have e2 : x / 65536 / 256=x / 16777216:=by rw [Nat.div_div_eq_div_mul]
 rw [e1] at h2 h3
 rw [e2] at h3
 omega
def zK : List UInt8:=[0,1,1,2,1,2,2,3,1,2,2,3,2,3,3,4,1,2,2,3,2,3,3,4,2,3,3,4,3,4,4,5,1,2,2,3,2,3,3,4,2,3,3,4,3,4,4,5,2,3,3,4,3,4,4,5,3,4,4,5,4,5,5,6,1,2,2,3,2,3,3,4,2,3,3,4,3,4,4,5,2,3,3,4,3,4,4,5,3,4,4,5,4,5,5,6,2,3,3,4,3,4,4,5,3,4,4,5,4,5,5,6,3,4,4,5,4,5,5,6,4,5,5,6,5,6,6,7,1,2,2,3,2,3,3,4,2,3,3,4,3,4,4,5,2,3,3,4,3,4,4,5,3,4,4,5,4,5,5,6,2,3,3,4,3,4,4,5,3,4,4,5,4,5,5,6,3,4,4,5,4,5,5,6,4,5,5,6,5,6,6,7,2,3,3,4,3,4,4,5,3,4,4,5,4,5,5,6,3,4,4,5,4,5,5,6,4,5,5,6,5,6,6,7,3,4,4,5,4,5,5,6,4,5,5,6,5,6,6,7,4,5,5,6,5,6,6,7,5,6,6,7,6,7,7,8]
theorem RX : ∀ n,n < 256→(zK.getD n 0).toNat=pc 8 n:=by decide +kernel
theorem Xg (x k : Nat) (hk : k≤32) : Int.fdiv (x : Int) (2 ^ min k 32)=((x / 2 ^ k : Nat) : Int):=by
 rw [Nat.min_eq_left hk,Int.fdiv_eq_ediv_of_nonneg _ (by exact Int.le_of_lt (Int.pow_pos (by decide)))]
 norm_cast
theorem Vg (n : Nat) (hn : n < 4294967296) : IntKind.u32.wrap ↑(BitVec.ofInt 32 (n : Int) &&& 255#32).toNat=((n % 256 : Nat) : Int):=by
 have e : (BitVec.ofInt 32 (n : Int) &&& 255#32).toNat=n % 256:=by
  rw [BitVec.toNat_and,BitVec.toNat_ofInt]
  have h1 : ((n : Int) % ((2 ^ 32 : Nat) : Int)).toNat=n:=by omega
  rw [h1]
  exact Nat.and_two_pow_sub_one_eq_mod n 8
 rw [e,DX];omega
theorem Um (x : Nat) (hx : x < 4294967296) : PV Tryz.prog G0 224 [.int .u32 x] (.int .i64 (pc 32 x : Nat)):=by
 refine pv e224 (by simp) rfl rfl ?_
 have f1 : Int.fdiv (x : Int) (2 ^ min 24 32)=((x / 16777216 : Nat) : Int):=Xg x 24 (by decide)
 have f2 : Int.fdiv (x : Int) (2 ^ min 16 32)=((x / 65536 : Nat) : Int):=Xg x 16 (by decide)
 have f3 : Int.fdiv (x : Int) (2 ^ min 8 32)=((x / 256 : Nat) : Int):=Xg x 8 (by decide)
 have g2:=Vg (x / 65536) (by omega)
 have g3:=Vg (x / 256) (by omega)
 have g4:=Vg x hx
 have t1:=RX (x / 16777216) (by omega)
 have t2:=RX (x / 65536 % 256) (by omega)
 have t3:=RX (x / 256 % 256) (by omega)
 have t4:=RX (x % 256) (by omega)
 have l1:=IY 8 (x / 16777216)
 have l2:=IY 8 (x / 65536 % 256)
 have l3:=IY 8 (x / 256 % 256)
 have l4:=IY 8 (x % 256)
 have b1 : (((x / 16777216 : Nat) : Int)).toNat=x / 16777216:=by omega
 have key : IntKind.i64.wrap (IntKind.u8.wrap (IntKind.u8.wrap (IntKind.u8.wrap ((((zK.getD (x / 16777216) 0).toNat : Nat) : Int)+(((zK.getD (IntKind.u32.wrap ↑(BitVec.ofInt 32 ((x / 65536 : Nat) : Int) &&& 255#32).toNat).toNat 0).toNat : Nat) : Int))+(((zK.getD (IntKind.u32.wrap ↑(BitVec.ofInt 32 ((x / 256 : Nat) : Int) &&& 255#32).toNat).toNat 0).toNat : Nat) : Int))+(((zK.getD (IntKind.u32.wrap ↑(BitVec.ofInt 32 (x : Int) &&& 255#32).toNat).toNat 0).toNat : Nat) : Int)))=((pc 32 x : Nat) : Int):=by
  rw [g2,g3,g4,Int.toNat_natCast,Int.toNat_natCast,Int.toNat_natCast,t1,t2,t3,t4,pc32]
  clear t1 t2 t3 t4
  generalize pc 8 (x / 16777216)=a at *
  generalize pc 8 (x / 65536 % 256)=b at *
  generalize pc 8 (x / 256 % 256)=c at *
  generalize pc 8 (x % 256)=d at *
  have w1 : IntKind.u8.wrap ((a : Int)+b)=((a+b : Nat) : Int):=by rw [bw (by omega)];omega
  have w2 : IntKind.u8.wrap (((a+b : Nat) : Int)+c)=((a+b+c : Nat) : Int):=by rw [bw (by omega)];omega
  have w3 : IntKind.u8.wrap (((a+b+c : Nat) : Int)+d)=((a+b+c+d : Nat) : Int):=by rw [bw (by omega)];omega
  rw [w1,w2,w3,iw (by omega)]
 have k2 : IntKind.u32.wrap ↑(BitVec.ofInt 32 ((x / 65536 : Nat) : Int) &&& 255#32).toNat < 256:=by rw [g2];omega
 have k3 : IntKind.u32.wrap ↑(BitVec.ofInt 32 ((x / 256 : Nat) : Int) &&& 255#32).toNat < 256:=by rw [g3];omega
 have k4 : IntKind.u32.wrap ↑(BitVec.ofInt 32 (x : Int) &&& 255#32).toNat < 256:=by rw [g4];omega
 simp only [go_sem,seval,c224,f1,f2,f3,b1,List.append_eq]
 have n2 : 0≤IntKind.u32.wrap ↑(BitVec.ofInt 32 ((x / 65536 : Nat) : Int) &&& 255#32).toNat:=by rw [g2];omega
 have n3 : 0≤IntKind.u32.wrap ↑(BitVec.ofInt 32 ((x / 256 : Nat) : Int) &&& 255#32).toNat:=by rw [g3];omega
 have n4 : 0≤IntKind.u32.wrap ↑(BitVec.ofInt 32 (x : Int) &&& 255#32).toNat:=by rw [g4];omega
 first | refine ⟨⟨by omega,by omega⟩,k2,k3,k4, ?_⟩ | refine ⟨⟨by omega,by omega⟩,⟨n2,k2⟩,⟨n3,k3⟩,⟨n4,k4⟩, ?_⟩
 refine fin (by rfl) ?_
 exact congrArg (VV.int .i64) key
end Go.V
namespace Go.V
open Go.Proofs
set_option maxRecDepth 100000
theorem Rw (m : Nat) : pc m 0=0:=by
 unfold pc
 rw [List.length_eq_zero_iff,List.filter_eq_nil_iff]
 simp
theorem TR (i x : Nat) (hi : i≤32) : pc 32 (x % 2 ^ i)=pc i x:=by
 have h:=DK i (32-i) (x % 2 ^ i)
 rw [show i+(32-i)=32 by omega,Nat.div_eq_of_lt (Nat.mod_lt _ (Nat.two_pow_pos i)),Rw,Ce] at h
 omega
theorem Wh (x i : Nat) (hx : x < 4294967296) (hi : i < 32) : IntKind.u32.wrap ↑(BitVec.ofInt 32 (x : Int) &&& BitVec.ofInt 32 (IntKind.u32.wrap (IntKind.u32.wrap (1*2 ^ min (IntKind.u64.wrap (i : Int)).toNat 32)-1))).toNat=((x % 2 ^ i : Nat) : Int):=by
 have h1 : (IntKind.u64.wrap (i : Int)).toNat=i:=by rw [uw (by omega)];omega
 have h2 : (2 : Int) ^ i=((2 ^ i : Nat) : Int):=by norm_cast
 have h3 : 2 ^ i < 2 ^ 32:=Nat.pow_lt_pow_right (by decide) hi
 have h4 : 0 < 2 ^ i:=Nat.two_pow_pos i
 rw [h1,Nat.min_eq_left (by omega),h2,Int.one_mul]
 have h5 : IntKind.u32.wrap ((2 ^ i : Nat) : Int)=((2 ^ i : Nat) : Int):=by rw [DX];omega
 have h6 : IntKind.u32.wrap (((2 ^ i : Nat) : Int)-1)=((2 ^ i-1 : Nat) : Int):=by rw [DX];omega
 rw [h5,h6,BitVec.toNat_and,BitVec.toNat_ofInt,BitVec.toNat_ofInt]
 have h7 : ((x : Int) % ((2 ^ 32 : Nat) : Int)).toNat=x:=by omega
 have h8 : (((2 ^ i-1 : Nat) : Int) % ((2 ^ 32 : Nat) : Int)).toNat=2 ^ i-1:=by omega
 rw [h7,h8,Nat.and_two_pow_sub_one_eq_mod,DX]
 have:=Nat.mod_lt x h4
 omega
theorem Ov (x i : Nat) (l : VV) (hx : x < 4294967296) (hi : i < 32) (hp : l.isPure=true) (hc : l.aC=true) : PV Tryz.prog G0 181 [.agg [.int .u32 x,l],.int .i64 i] (.int .i64 (pc i x : Nat)):=by
 have hO : PV Tryz.prog G0 224 [.int .u32 (IntKind.u32.wrap ↑(BitVec.ofInt 32 (x : Int) &&& BitVec.ofInt 32 (IntKind.u32.wrap (IntKind.u32.wrap (1*2 ^ min (IntKind.u64.wrap (i : Int)).toNat 32)-1))).toNat)] (.int .i64 (pc i x : Nat)):=by
  rw [Wh x i hx hi,← TR i x (by omega)]
  exact Um _ (Nat.lt_of_le_of_lt (Nat.mod_le _ _) hx)
 refine pv e181 (by simp) (by simp [VV.ak,VV.isPure,hp]) rfl ?_
 simp only [go_sem,seval] at hc
 simp only [go_sem,seval,c181,hc]
 refine ah (hO) ?_<;>simp only [go_sem,seval]
 exact fin (by rfl) rfl
theorem Xt (x i : Nat) (hx : x < 4294967296) (hi : i < 32) : (IntKind.u32.wrap ↑(BitVec.ofInt 32 (Int.fdiv (x : Int) (2 ^ min (IntKind.u64.wrap (i : Int)).toNat 32)) &&& 1#32).toNat == 1)=x.testBit i:=by
 have h1 : (IntKind.u64.wrap (i : Int)).toNat=i:=by rw [uw (by omega)];omega
 rw [h1,Xg x i (by omega),BitVec.toNat_and,BitVec.toNat_ofInt]
 have h2 : x / 2 ^ i < 4294967296:=Nat.lt_of_le_of_lt (Nat.div_le_self _ _) hx
 have h3 : (((x / 2 ^ i : Nat) : Int) % ((2 ^ 32 : Nat) : Int)).toNat=x / 2 ^ i:=by generalize x / 2 ^ i=n at *;omega
 have h4 : (x / 2 ^ i) &&& (1#32).toNat=x / 2 ^ i % 2:=Nat.and_two_pow_sub_one_eq_mod (x / 2 ^ i) 1
 rw [h3,h4,DX,Nat.testBit_eq_decide_div_mod_eq]
 rcases Nat.mod_two_eq_zero_or_one (x / 2 ^ i) with h | h<;>rw [h]<;>rfl
theorem Nb (x i : Nat) (l : VV) (hx : x < 4294967296) (hi : i < 32) (hp : l.isPure=true) (hc : l.aC=true) : PV Tryz.prog G0 180 [.agg [.int .u32 x,l],.int .i64 i] (.bool (x.testBit i)):=by
 refine pv e180 (by simp) (by simp [VV.ak,VV.isPure,hp]) rfl ?_
 simp only [go_sem,seval] at hc
 have b1 : decide ((i : Int) < 32)=true:=decide_eq_true (by omega)
 have b2 : decide ((0 : Int)≤i)=true:=decide_eq_true (by omega)
 simp only [go_sem,seval,c180,hc,b1,b2]
 refine fin (by rfl) ?_
 exact congrArg VV.bool (Xt x i hx hi)
def slotsOf (f : Nat→Option (List VV)) : List (List VV):=(List.range 32).filterMap f
structure kN (f : Nat→Option (List VV)) (x : Nat) (l : VV) : Prop where
 lt : x < 4294967296
 bit : ∀ i,i < 32→x.testBit i=(f i).isSome
 sl : dG 13 l (slotsOf f)
theorem dG.cell {k : Nat} {v : VV} {xs : List (List VV)} (h : dG k v xs) : v.aC=true:=by cases h<;>rfl
theorem kN.rank {f : Nat→Option (List VV)} {x : Nat} {l : VV} (h : kN f x l) {i : Nat} (hi : i≤32) : pc i x=((List.range i).filterMap f).length:=by
 unfold pc
 have e : (List.range i).filter (fun j=>x.testBit j)=(List.range i).filter (fun j=>(f j).isSome) :=
  List.filter_congr fun j hj=>h.bit j (by have:=List.mem_range.1 hj;omega)
 rw [e]
 have key : ∀ l : List Nat,(l.filter (fun j=>(f j).isSome)).length=(l.filterMap f).length:=by
  intro l
  induction l with
  | nil=>rfl
  | cons a l ih =>
   cases ha : f a with
   | none=>rw [List.filter_cons_of_neg (by simp [ha]),List.filterMap_cons_none ha,ih]
   | some b=>rw [List.filter_cons_of_pos (by simp [ha]),List.filterMap_cons_some ha,List.length_cons,List.length_cons,ih]
 exact key _
theorem lY (f : Nat→Option (List VV)) {i : Nat} (hi : i < 32) : slotsOf f=(List.range i).filterMap f++((f i).toList++(((List.range (31-i)).map (i+1+·)).filterMap f)):=by
 unfold slotsOf
 have e : List.range 32=List.range i++([i]++(List.range (31-i)).map (i+1+·)):=by
  have h1:=List.range_add (n:=i) (m:=32-i)
  rw [show i+(32-i)=32 by omega] at h1
  rw [h1,show 32-i=(31-i)+1 by omega,List.range_succ_eq_map,List.map_cons,List.map_map]
  congr 1
  simp only [List.cons_append,List.nil_append,Nat.add_zero]
  congr 1
  refine List.map_congr_left fun a _=>?_
  simp only [Function.comp];omega
 rw [e,List.filterMap_append,List.filterMap_append]
 congr 2
theorem kN.get {f : Nat→Option (List VV)} {x : Nat} {l : VV} (h : kN f x l) {i : Nat} (hi : i < 32) {s : List VV} (hs : f i=some s) : pc i x < (slotsOf f).length∧∀ hh : pc i x < (slotsOf f).length,(slotsOf f)[pc i x]=s:=by
 have e:=lY f hi
 rw [hs] at e
 have hr:=h.rank (i:=i) (by omega)
 constructor
 ·rw [e,hr];simp
 ·intro hh
  simp only [e,hr]
  rw [List.getElem_append_right (Nat.le_refl _)]
  simp
def eX : List VV:=.str []::(Vl.zero.cells++[.nilp])
theorem rV (f : Nat→Option (List VV)) (x : Nat) (l : VV) (h : kN f x l) (i : Nat) (hi : i < 32) (hf : f i=none) : PV Tryz.prog G0 134 [.agg [.int .u32 x,l],.int .i64 i] (.tup [.agg eX,.bool false]):=by
 have hb:=h.bit i hi
 rw [hf] at hb
 have hH:=Nb x i l h.lt hi h.sl.pure h.sl.cell
 rw [hb] at hH
 refine pv e134 (by simp) (by simp [VV.ak,VV.isPure,h.sl.pure]) rfl ?_
 have hc:=h.sl.cell
 simp only [go_sem,seval] at hc
 simp only [go_sem,seval,c134,hc]
 refine ah (hH) ?_<;>simp only [go_sem,seval,hc,Option.isSome_none,Bool.not_false]
 exact fin (by rfl) rfl
theorem jT (f : Nat→Option (List VV)) (x : Nat) (l : VV) (h : kN f x l) (i : Nat) (hi : i < 32) (s : List VV) (hf : f i=some s) : PV Tryz.prog G0 134 [.agg [.int .u32 x,l],.int .i64 i] (.tup [.agg s,.bool true]):=by
 have hb:=h.bit i hi
 rw [hf] at hb
 have hH:=Nb x i l h.lt hi h.sl.pure h.sl.cell
 rw [hb] at hH
 have hK:=Ov x i l h.lt hi h.sl.pure h.sl.cell
 obtain ⟨h1,h2⟩:=h.get hi hf
 have h2:=h2 h1
 have hB:=h.sl.blk
 have hg:=hB.og h1
 rw [h2] at hg
 have hsp : VV.ak s=true:=by rw [← h2];exact hB.pure _ (List.getElem_mem _)
 have hsc : s.all VV.aC=true:=by rw [← h2];exact hB.cell _ (List.getElem_mem _)
 have hsl : s.length=13:=by rw [← h2];exact hB.len _ (List.getElem_mem _)
 obtain ⟨t,rfl⟩:=h.sl.fP (by intro e;rw [e] at h1;simp at h1)
 refine pv e134 (by simp) (by simp [VV.ak,VV.isPure,hB.pW]) (by simp [VV.ak,VV.isPure,hsp]) ?_
 have c1 : (0 : Int)≤(pc i x : Int):=by omega
 have c2 : (pc i x : Int) < ((slotsOf f).length : Int):=by omega
 have c3 : pc i x*13+13≤(slotsOf f).flatten.length:=by rw [hB.flat];omega
 have c4 : s.take 13=s:=List.take_of_length_le (by omega)
 simp only [go_sem,seval,c134]
 refine ah (hH) ?_<;>simp only [go_sem,seval]
 refine aj (hK) (by simp only [go_sem,seval,Int.toNat_natCast,c1,c2,c3,c4,hg,hsl,hsc]) ?_<;>simp only [go_sem,seval,Int.toNat_natCast,c1,c2,c3,c4,hg,hsl,hsc]
 exact fin (by simp [VV.ak,VV.isPure,hsp]) rfl
end Go.V
namespace Go.V
open Go.Proofs
set_option maxRecDepth 100000
theorem yQ {α β : Type} {f g : α→Option β} : ∀ {l : List α},(∀ a ∈ l,f a=g a)→l.filterMap f=l.filterMap g
 | [],_=>rfl
 | a::l,h=>by
  have h1:=h a (by simp)
  have h2:=yQ (l:=l) (fun b hb=>h b (by simp [hb]))
  simp only [List.filterMap,h1,h2]
theorem kN.set {f : Nat→Option (List VV)} {x : Nat} {l : VV} (h : kN f x l) {i : Nat} (hi : i < 32) (s : List VV) :
  slotsOf (fun j=>if j=i then some s else f j)=(slotsOf f).take (pc i x)++(s::(slotsOf f).drop (pc i x+(if x.testBit i then 1 else 0))):=by
 have e:=lY f hi
 have e':=lY (fun j=>if j=i then some s else f j) hi
 have a1 : (List.range i).filterMap (fun j=>if j=i then some s else f j)=(List.range i).filterMap f :=
  yQ fun j hj=>by have:=List.mem_range.1 hj;rw [if_neg (by omega)]
 have a2 : ((List.range (31-i)).map (i+1+·)).filterMap (fun j=>if j=i then some s else f j)=((List.range (31-i)).map (i+1+·)).filterMap f :=
  yQ fun j hj=>by
   obtain ⟨k,_,rfl⟩:=List.mem_map.1 hj
   rw [if_neg (by omega)]
 rw [a1,a2] at e'
 simp only [if_true,Option.toList_some] at e'
 have hr:=h.rank (i:=i) (by omega)
 rw [e',e,hr,h.bit i hi]
 rw [List.take_append_of_le_length (Nat.le_refl _),List.take_length]
 cases hf : f i with
 | none =>
  simp
 | some b =>
  simp
theorem Hw (z : List VV) : ∀ n,rep z n=(List.replicate n z).flatten
 | 0=>rfl
 | n+1=>by rw [rep,Hw z n,List.replicate_succ,List.flatten_cons]
theorem nS {k : Nat} {xs ys : List (List VV)} (hx : dh k xs) (hy : dh k ys) {o : Nat} (ho : o+ys.length≤xs.length) : splice xs.flatten (o*k) ys.flatten=(xs.take o++(ys++xs.drop (o+ys.length))).flatten:=by
 unfold splice
 rw [hx.jB,hy.flat,← Nat.add_mul,hx.jD,List.flatten_append,List.flatten_append]
theorem Jq {t tx e : TypeId} {k : Nat} {σ : Store} {id n o off : Nat} {xs ys : List (List VV)} {x : VV} (ht : iF Tryz.prog t=some e) (hk : eH Tryz.prog e=some k) (hk0 : 0 < k)
  (hid : σ[id]?=some (.own xs.flatten)) (hB : dh k xs) (hC : dh k ys) (hoff : off=o*k) (hn : o+n≤xs.length) (hm : ys.length≤n) (hx : aJ Tryz.prog σ k tx x=some (ys.length,ys.flatten)) :
  ∃ p,p∧jw Tryz.prog t tx (.bZ id off n k) x σ=some ⟨p,.int .i64 ys.length,σ.set id (.own (xs.take o++(ys++xs.drop (o+ys.length))).flatten)⟩:=by
 subst hoff
 have e1 : Nat.min ys.length n=ys.length:=Nat.min_eq_left hm
 have e2 : ys.flatten.take (ys.length*k)=ys.flatten:=List.take_of_length_le (by rw [hC.flat];exact Nat.le_refl _)
 have : jw Tryz.prog t tx (.bZ id (o*k) n k) x σ=some ⟨ys.flatten.length=ys.length*k∧o*k+n*k≤xs.flatten.length∧aQ ys.flatten=true∧0 < k,.int .i64 ys.length,σ.set id (.own (xs.take o++(ys++xs.drop (o+ys.length))).flatten)⟩:=by
  simp only [jw,ht,hk,hx,hid,if_true,e1,e2]
  rw [nS hB hC (by omega)]
 exact ⟨_,⟨hC.flat,by rw [hB.flat,← Nat.add_mul];exact Nat.mul_le_mul_right k hn,hC.xg,hk0⟩,this⟩
theorem Me {t tx e : TypeId} {k : Nat} {σ : Store} {cells : List VV} {tg : Bool} {m : Nat} {news : List VV} {x : VV} (ht : iF Tryz.prog t=some e) (hk : eH Tryz.prog e=some k) (hx : aJ Tryz.prog σ k tx x=some (m,news)) (hl : news.length=m*k) :
  ∃ p,p∧jw Tryz.prog t tx (.sl 0 cells tg) x σ=some ⟨p,.int .i64 0,σ⟩:=by
 have : jw Tryz.prog t tx (.sl 0 cells tg) x σ=some ⟨news.length=m*k,.int .i64 0,σ⟩:=by
  simp only [jw,ht,hk,hx]
 exact ⟨_,hl,this⟩
theorem Yq {t e : TypeId} {k : Nat} {σ : Store} {xs : List (List VV)} {a b : Nat} {tg : Bool} (ht : iF Tryz.prog t=some e) (hB : dh k xs) (h : a+b≤xs.length) : aJ Tryz.prog σ k t (.sl b ((xs.flatten.drop (a*k)).take (b*k)) tg)=some (((xs.drop a).take b).length,((xs.drop a).take b).flatten):=by
 have e0 : ((xs.drop a).take b).length=b:=by simp;omega
 have e1 : ((xs.drop a).take b).flatten.length=b*k:=by rw [((hB.drop a).take b).flat,e0]
 have e2 : ((xs.drop a).take b).flatten.take (b*k)=((xs.drop a).take b).flatten:=List.take_of_length_le (by rw [e1];exact Nat.le_refl _)
 simp only [aJ,ht,kK,eG,hB.jD,(hB.drop a).jB,e0,e1,e2,if_true]
theorem Ns {o : Option aS} {p : Prop} {v : VV} {s : Store} {d : Option Nat} {r : List VO} {Q : Out→Env→Store→Prop} {ρ : Env} (he : o=some ⟨p,v,s⟩) (hp : p) (h : bM Tryz.prog G0 r Q (dB ρ d v) s) : eF Tryz.prog G0 o d r Q ρ:=by
 subst he;exact ⟨hp,h⟩
theorem Ed {o : Option aS} {p : Prop} {v : VV} {s : Store} {d : Option Nat} {chk : List Nat} {r : List DO} {pd : sV} {Q : Out→Env→Store→Prop} {ρ : Env} (he : o=some ⟨p,v,s⟩) (hp : p) (h : iM Tryz.prog G0 chk pd s∧aV Tryz.prog G0 r pd Q (dB ρ d v) s) : oJ Tryz.prog G0 o d chk r pd Q ρ:=by
 subst he;exact ⟨hp,h⟩
theorem sW {t tx e : TypeId} {k : Nat} {σ : Store} {id n o off : Nat} {xs ys : List (List VV)} {x : VV} (ht : iF Tryz.prog t=some e) (hk : eH Tryz.prog e=some k) (hk0 : 0 < k)
  (hid : σ[id]?=some (.own xs.flatten)) (hB : dh k xs) (hC : dh k ys) (hoff : off=o*k) (hn : o+n≤xs.length) (hm : ys.length≤n) (hx : aJ Tryz.prog σ k tx x=some (ys.length,ys.flatten))
  {d : Nat} {r : List VO} {Q : Out→Env→Store→Prop} {ρ : Env} (h : bM Tryz.prog G0 r Q ((d,.int .i64 ys.length)::ρ) (σ.set id (.own (xs.take o++(ys++xs.drop (o+ys.length))).flatten))) :
  eF Tryz.prog G0 (jw Tryz.prog t tx (.bZ id off n k) x σ) (some d) r Q ρ:=by
 obtain ⟨p,hp,he⟩:=Jq ht hk hk0 hid hB hC hoff hn hm hx
 exact Ns he hp h
theorem zH {t tx e : TypeId} {k : Nat} {σ : Store} {id n o off : Nat} {xs ys : List (List VV)} {x : VV} (ht : iF Tryz.prog t=some e) (hk : eH Tryz.prog e=some k) (hk0 : 0 < k)
  (hid : σ[id]?=some (.own xs.flatten)) (hB : dh k xs) (hC : dh k ys) (hoff : off=o*k) (hn : o+n≤xs.length) (hm : ys.length≤n) (hx : aJ Tryz.prog σ k tx x=some (ys.length,ys.flatten))
  {d : Option Nat} {chk : List Nat} {r : List DO} {pd : sV} {Q : Out→Env→Store→Prop} {ρ : Env} (h : iM Tryz.prog G0 chk pd (σ.set id (.own (xs.take o++(ys++xs.drop (o+ys.length))).flatten))∧aV Tryz.prog G0 r pd Q (dB ρ d (.int .i64 ys.length)) (σ.set id (.own (xs.take o++(ys++xs.drop (o+ys.length))).flatten))) :
  oJ Tryz.prog G0 (jw Tryz.prog t tx (.bZ id off n k) x σ) d chk r pd Q ρ:=by
 obtain ⟨p,hp,he⟩:=Jq ht hk hk0 hid hB hC hoff hn hm hx
 exact Ed he hp h
theorem qy {t tx e : TypeId} {k : Nat} {σ : Store} {cells : List VV} {tg : Bool} {ys : List (List VV)} {x : VV} (ht : iF Tryz.prog t=some e) (hk : eH Tryz.prog e=some k) (hx : aJ Tryz.prog σ k tx x=some (ys.length,ys.flatten)) (hC : dh k ys)
  {d : Option Nat} {chk : List Nat} {r : List DO} {pd : sV} {Q : Out→Env→Store→Prop} {ρ : Env} (h : iM Tryz.prog G0 chk pd σ∧aV Tryz.prog G0 r pd Q (dB ρ d (.int .i64 0)) σ) :
  oJ Tryz.prog G0 (jw Tryz.prog t tx (.sl 0 cells tg) x σ) d chk r pd Q ρ:=by
 obtain ⟨p,hp,he⟩:=Me (cells:=cells) (tg:=tg) ht hk hx hC.flat
 exact Ed he hp h
theorem XO (x i : Nat) (hx : x < 4294967296) (hi : i < 32) : IntKind.u32.wrap ↑(BitVec.ofInt 32 (x : Int) ||| BitVec.ofInt 32 (IntKind.u32.wrap (1*2 ^ min (IntKind.u64.wrap (i : Int)).toNat 32))).toNat=((x ||| 2 ^ i : Nat) : Int):=by
 have h1 : (IntKind.u64.wrap (i : Int)).toNat=i:=by rw [uw (by omega)];omega
 have h2 : (2 : Int) ^ i=((2 ^ i : Nat) : Int):=by norm_cast
 have h3 : 2 ^ i < 4294967296:=Nat.pow_lt_pow_right (a:=2) (n:=32) (by decide) hi
 have h9 : x ||| 2 ^ i < 4294967296:=Nat.or_lt_two_pow (n:=32) hx h3
 rw [h1,Nat.min_eq_left (by omega),h2,Int.one_mul]
 clear h2 h1
 generalize 2 ^ i=m at *
 have h5 : IntKind.u32.wrap ((m : Nat) : Int)=((m : Nat) : Int):=by rw [DX];omega
 rw [h5,BitVec.toNat_or,BitVec.toNat_ofInt,BitVec.toNat_ofInt]
 have h7 : ((x : Int) % ((2 ^ 32 : Nat) : Int)).toNat=x:=by omega
 have h8 : (((m : Nat) : Int) % ((2 ^ 32 : Nat) : Int)).toNat=m:=by omega
 rw [h7,h8,DX]
 generalize x ||| m=y at *
 omega
theorem kY (f : Nat→Option (List VV)) (x : Nat) (l : VV) (h : kN f x l) (i : Nat) (hi : i < 32) (s : List VV) (hs : dh 13 [s]) :
  ∃ l',kN (fun j=>if j=i then some s else f j) (x ||| 2 ^ i) l'∧PV Tryz.prog G0 218 [.agg [.int .u32 x,l],.int .i64 i,.agg s] (.agg [.int .u32 (x ||| 2 ^ i : Nat),l']):=by
 have hset:=h.set hi s
 have hH:=Nb x i l h.lt hi h.sl.pure h.sl.cell
 have hK:=Ov x i l h.lt hi h.sl.pure h.sl.cell
 have hB:=h.sl.blk
 have hc:=h.sl.cell
 have hB' : dh 13 (slotsOf (fun j=>if j=i then some s else f j)):=by
  rw [hset]
  exact (hB.take _).append ⟨fun y hy=>(List.mem_cons.1 hy).elim (fun e=>e ▸ hs.len s (by simp)) (fun e=>hB.len y (List.mem_of_mem_drop e)),fun y hy=>(List.mem_cons.1 hy).elim (fun e=>e ▸ hs.pure s (by simp)) (fun e=>hB.pure y (List.mem_of_mem_drop e)),fun y hy=>(List.mem_cons.1 hy).elim (fun e=>e ▸ hs.cell s (by simp)) (fun e=>hB.cell y (List.mem_of_mem_drop e))⟩
 have hR : kN (fun j=>if j=i then some s else f j) (x ||| 2 ^ i) (.sl (slotsOf (fun j=>if j=i then some s else f j)).length (slotsOf (fun j=>if j=i then some s else f j)).flatten false):=by
  refine ⟨?_,fun j hj=>?_,.sl _ _ hB'⟩
  ·exact Nat.or_lt_two_pow (n:=32) h.lt (Nat.pow_lt_pow_right (by decide) hi)
  ·rw [Nat.testBit_or,Nat.testBit_two_pow,h.bit j hj]
   by_cases hji : j=i
   ·subst hji;simp
   ·rw [if_neg hji,decide_eq_false (by omega)];simp
 refine ⟨_,hR, ?_⟩
 have c7 : s.length=13:=hs.len s (by simp)
 have c8 : s.all VV.aC=true:=hs.cell s (by simp)
 have c9 : s.take 13=s:=List.take_of_length_le (by omega)
 have c10 : VV.ak s=true:=hs.pure s (by simp)
 refine pv e218 (by simp) (by simp [VV.ak,VV.isPure,h.sl.pure,c10]) (by simp [VV.ak,VV.isPure,hB'.pW]) ?_
 have b1 : decide ((i : Int) < 0)=false:=decide_eq_false (by omega)
 have b2 : decide ((31 : Int) < i)=false:=decide_eq_false (by omega)
 have hn : (slotsOf (fun j=>if j=i then some s else f j)).length≤32:=by unfold slotsOf;exact Nat.le_trans (List.length_filterMap_le _ _) (by simp)
 have hn0 : (slotsOf f).length≤32:=by unfold slotsOf;exact Nat.le_trans (List.length_filterMap_le _ _) (by simp)
 generalize slotsOf (fun j=>if j=i then some s else f j)=ys at *
 have hrk : pc i x≤(slotsOf f).length:=by rw [h.rank (by omega),lY f hi];simp
 cases htb : x.testBit i with
 | true =>
  rw [htb] at hset hH
  simp only [if_true] at hset
  have hlt : pc i x < (slotsOf f).length:=by
   cases hf : f i with
   | none=>have:=h.bit i hi;rw [htb,hf] at this;cases this
   | some b=>exact (h.get hi hf).1
  have hyl : ys.length=(slotsOf f).length:=by rw [hset];simp;omega
  obtain ⟨t,hl⟩:=h.sl.fP (by intro e;rw [e] at hlt;simp at hlt)
  generalize slotsOf f=xs at *
  generalize pc i x=r at *
  subst hl
  have e1 : IntKind.i64.wrap ((r : Int)+1)=((r+1 : Nat) : Int):=by rw [iw (by omega)];omega
  have e1' : IntKind.i64.wrap ((xs.length : Int)+1)=((xs.length+1 : Nat) : Int):=by rw [iw (by omega)];omega
  simp only [go_sem,seval,c218,c7,c8,c9,b1,b2]
  refine aj (hK) (by simp only [go_sem,seval,c7,c8,c9]) ?_<;>simp only [go_sem,seval,c7,c8,c9]
  refine ah (hH) ?_<;>simp only [go_sem,seval,c7,c8,c9,e1,e1',Int.toNat_natCast]
  have hz : dh 13 (List.replicate (xs.length) eX):=⟨fun y hy=>by rw [List.eq_of_mem_replicate hy];rfl,fun y hy=>by rw [List.eq_of_mem_replicate hy];rfl,fun y hy=>by rw [List.eq_of_mem_replicate hy];rfl⟩
  have hr0 : rep [VV.str [],.int .i64 0,.int .i64 0,.str [],.int .i64 0,.nilp,.int .u64 0,.int .i64 0,.int .i64 0,.nilp,.int .i64 0,.int .i64 0,.nilp] (xs.length)=(List.replicate (xs.length) eX).flatten:=Hw _ _
  refine ⟨by omega,⟨by omega,hB.flat⟩, ?_⟩
  rw [hr0]
  have hx1 : ∀ (σ : Store) (tg : Bool),aJ Tryz.prog σ 13 222 (.sl (r-0) (List.take ((r-0)*13) xs.flatten) tg)=some ((xs.take r).length,(xs.take r).flatten):=by
   intro σ tg
   have:=Yq (σ:=σ) (a:=0) (b:=r) (tg:=tg) fA hB (by omega)
   rw [Nat.zero_mul,List.drop_zero,List.drop_zero] at this
   exact this
  refine sW (o:=0) (xs:=List.replicate (xs.length) eX) (ys:=xs.take r) fA jE (by decide) rfl hz (hB.take r) (by omega) (by simp) (by simp;omega) (hx1 _ _) ?_
  have hB2 : dh 13 (xs.take r++List.replicate (xs.length-r) eX):=(hB.take r).append ⟨fun y hy=>by rw [List.eq_of_mem_replicate hy];rfl,fun y hy=>by rw [List.eq_of_mem_replicate hy];rfl,fun y hy=>by rw [List.eq_of_mem_replicate hy];rfl⟩
  have e0 : (xs.take r).length=r:=by simp;omega
  have e5 : (List.take 0 (List.replicate (xs.length) eX)++(xs.take r++List.drop (0+(xs.take r).length) (List.replicate (xs.length) eX)))=xs.take r++List.replicate (xs.length-r) eX:=by
   rw [e0,List.take_zero,List.drop_replicate,Nat.zero_add,List.nil_append]
  rw [e5,e0]
  have hl2 : (xs.take r++List.replicate (xs.length-r) eX).length=xs.length:=by simp;omega
  have ht2 : (xs.take r++List.replicate (xs.length-r) eX).take r=xs.take r:=by rw [List.take_append_of_le_length (by omega),List.take_of_length_le (by omega)]
  generalize xs.take r++List.replicate (xs.length-r) eX=xs2 at *
  have c1 : (0 : Int)≤(r : Int):=by omega
  have c2 : (r : Int) < ((xs.length : Nat) : Int):=by omega
  have c3 : 0+r*13+13≤xs2.flatten.length:=by rw [hB2.flat,hl2];omega
  have e6 : List.take (0+r*13) xs2.flatten++(s++List.drop (0+r*13+13) xs2.flatten)=(xs2.take r++s::xs2.drop (r+1)).flatten:=by
   have:=nS hB2 hs (o:=r) (by simp;omega)
   simp only [splice,List.flatten_cons,List.flatten_nil,List.append_nil,c7,List.length_cons,List.length_nil,Nat.zero_add] at this
   rw [Nat.zero_add];exact this
  have e7 : IntKind.i64.wrap ((r : Int)+1)=((r+1 : Nat) : Int):=by rw [iw (by omega)];omega
  have hB3 : dh 13 (xs2.take r++s::xs2.drop (r+1)):=(hB2.take r).append (show dh 13 ([s]++xs2.drop (r+1)) from hs.append (hB2.drop (r+1)))
  have hl3 : (xs2.take r++s::xs2.drop (r+1)).length=xs.length:=by simp;omega
  have ht3 : (xs2.take r++s::xs2.drop (r+1)).take (r+1)=xs.take r++[s]:=by
   rw [show xs2.take r++s::xs2.drop (r+1)=(xs2.take r++[s])++xs2.drop (r+1) by simp,ht2,List.take_append_of_le_length (by simp;omega),List.take_of_length_le (by simp;omega)]
  generalize xs2.take r++s::xs2.drop (r+1)=xs3 at *
  have hx2 : ∀ (σ : Store) (tg : Bool),aJ Tryz.prog σ 13 222 (.sl (xs.length-(r+1)) (List.take ((xs.length-(r+1))*13) (List.drop ((r+1)*13) xs.flatten)) tg)=some ((xs.drop (r+1)).length,(xs.drop (r+1)).flatten):=by
   intro σ tg
   have:=Yq (σ:=σ) (a:=r+1) (b:=xs.length-(r+1)) (tg:=tg) fA hB (by omega)
   rw [List.take_of_length_le (l:=xs.drop (r+1)) (by simp)] at this
   exact this
  have hor:=XO x i h.lt hi
  have hfz : ∀ (A B C : Obj),fz 2 ([A,B,C,.kH ys.flatten] : Store) (.agg [.int .u32 (x ||| 2 ^ i : Nat),.bZ 3 0 (xs.length) 13])=some (.agg [.int .u32 (x ||| 2 ^ i : Nat),.sl ys.length ys.flatten false]):=by
   intro A B C
   have h1:=qN (m:=0) (σ:=([A,B,C,.kH ys.flatten] : Store)) (id:=3) (n:=xs.length) (k:=13) (xs:=ys) rfl hB' (by omega)
   have h2 : (VV.agg [.int .u32 (x ||| 2 ^ i : Nat),.bZ 3 0 (xs.length) 13]).isPure=false:=rfl
   rw [fz,h2]
   simp only [List.mapM_cons,List.mapM_nil,h1]
   rfl
  by_cases hend : r+1=xs.length
  ·have hys : xs3=ys:=by
    have e8 : xs3=xs3.take (r+1):=by rw [List.take_of_length_le (by omega)]
    have e9 : xs.drop (r+1)=[]:=List.drop_eq_nil_of_le (by omega)
    rw [hset,e8,ht3,e9]
   have hcnd : (r+1=xs.length∧0 < r+1)=True:=eq_true ⟨hend,by omega⟩
   simp only [go_sem,seval,c1,c2,c3,c7,c8,c9,Int.toNat_natCast,e6,e7,hcnd]
   refine ⟨⟨by omega,by omega⟩,⟨⟨by omega,by omega⟩,hB.flat⟩, ?_⟩
   rw [hys]
   refine qy (ys:=xs.drop (r+1)) fA jE (hx2 _ _) (hB.drop _) ?_
   simp only [go_sem,seval]
   exact ⟨_,2,congrArg (fun z=>gY.ret (.agg [.int .u32 z,.bZ 3 0 (xs.length) 13])) hor,hfz _ _ _⟩
  ·have hys : xs3.take (r+1)++(xs.drop (r+1)++xs3.drop (r+1+(xs.drop (r+1)).length))=ys:=by
    have e9 : xs3.drop (r+1+(xs.drop (r+1)).length)=[]:=List.drop_eq_nil_of_le (by simp;omega)
    rw [hset,ht3,e9];simp
   have hcnd : (r+1=xs.length∧0 < r+1)=False:=eq_false fun h=>hend h.1
   simp only [go_sem,seval,c1,c2,c3,c7,c8,c9,Int.toNat_natCast,e6,e7,hcnd]
   refine ⟨⟨by omega,by omega⟩,⟨⟨by omega,by omega⟩,hB.flat⟩, ?_⟩
   refine zH (o:=r+1) (xs:=xs3) (ys:=xs.drop (r+1)) fA jE (by decide) rfl hB3 (hB.drop _) (by omega) (by omega) (by simp) (hx2 _ _) ?_
   rw [hys]
   simp only [go_sem,seval]
   exact ⟨_,2,congrArg (fun z=>gY.ret (.agg [.int .u32 z,.bZ 3 0 (xs.length) 13])) hor,hfz _ _ _⟩
 | false =>
  rw [htb] at hset hH
  simp only [Bool.false_eq_true,if_false,Nat.add_zero] at hset
  obtain ⟨N,hN⟩ : ∃ N,N=(slotsOf f).length+1:=⟨_,rfl⟩
  have hyl : ys.length=N:=by rw [hset];simp;omega
  have hsl:=h.sl
  generalize hxs : slotsOf f=xs at *
  generalize pc i x=r at *
  cases hsl with
  | sl _ t _ =>
   have e1 : IntKind.i64.wrap ((r : Int)+1)=((r+1 : Nat) : Int):=by rw [iw (by omega)];omega
   have e1' : IntKind.i64.wrap ((xs.length : Int)+1)=((N : Nat) : Int):=by rw [iw (by omega)];omega
   have hxx : True:=trivial
   simp only [go_sem,seval,c218,c7,c8,c9,b1,b2]
   refine aj (hK) (by simp only [go_sem,seval,c7,c8,c9]) ?_<;>simp only [go_sem,seval,c7,c8,c9]
   refine ah (hH) ?_<;>simp only [go_sem,seval,c7,c8,c9,e1,e1',Int.toNat_natCast]
   have hz : dh 13 (List.replicate (N) eX):=⟨fun y hy=>by rw [List.eq_of_mem_replicate hy];rfl,fun y hy=>by rw [List.eq_of_mem_replicate hy];rfl,fun y hy=>by rw [List.eq_of_mem_replicate hy];rfl⟩
   have hr0 : rep [VV.str [],.int .i64 0,.int .i64 0,.str [],.int .i64 0,.nilp,.int .u64 0,.int .i64 0,.int .i64 0,.nilp,.int .i64 0,.int .i64 0,.nilp] (N)=(List.replicate (N) eX).flatten:=Hw _ _
   refine ⟨by omega,⟨by omega,hB.flat⟩, ?_⟩
   rw [hr0]
   have hx1 : ∀ (σ : Store) (tg : Bool),aJ Tryz.prog σ 13 222 (.sl (r-0) (List.take ((r-0)*13) xs.flatten) tg)=some ((xs.take r).length,(xs.take r).flatten):=by
    intro σ tg
    have:=Yq (σ:=σ) (a:=0) (b:=r) (tg:=tg) fA hB (by omega)
    rw [Nat.zero_mul,List.drop_zero,List.drop_zero] at this
    exact this
   refine sW (o:=0) (xs:=List.replicate (N) eX) (ys:=xs.take r) fA jE (by decide) rfl hz (hB.take r) (by omega) (by simp) (by simp;omega) (hx1 _ _) ?_
   have hB2 : dh 13 (xs.take r++List.replicate (N-r) eX):=(hB.take r).append ⟨fun y hy=>by rw [List.eq_of_mem_replicate hy];rfl,fun y hy=>by rw [List.eq_of_mem_replicate hy];rfl,fun y hy=>by rw [List.eq_of_mem_replicate hy];rfl⟩
   have e0 : (xs.take r).length=r:=by simp;omega
   have e5 : (List.take 0 (List.replicate (N) eX)++(xs.take r++List.drop (0+(xs.take r).length) (List.replicate (N) eX)))=xs.take r++List.replicate (N-r) eX:=by
    rw [e0,List.take_zero,List.drop_replicate,Nat.zero_add,List.nil_append]
   rw [e5,e0]
   have hl2 : (xs.take r++List.replicate (N-r) eX).length=N:=by simp;omega
   have ht2 : (xs.take r++List.replicate (N-r) eX).take r=xs.take r:=by rw [List.take_append_of_le_length (by omega),List.take_of_length_le (by omega)]
   generalize xs.take r++List.replicate (N-r) eX=xs2 at *
   have c1 : (0 : Int)≤(r : Int):=by omega
   have c2 : (r : Int) < ((N : Nat) : Int):=by omega
   have c3 : 0+r*13+13≤xs2.flatten.length:=by rw [hB2.flat,hl2];omega
   have e6 : List.take (0+r*13) xs2.flatten++(s++List.drop (0+r*13+13) xs2.flatten)=(xs2.take r++s::xs2.drop (r+1)).flatten:=by
    have:=nS hB2 hs (o:=r) (by simp;omega)
    simp only [splice,List.flatten_cons,List.flatten_nil,List.append_nil,c7,List.length_cons,List.length_nil,Nat.zero_add] at this
    rw [Nat.zero_add];exact this
   have e7 : IntKind.i64.wrap ((r : Int)+1)=((r+1 : Nat) : Int):=by rw [iw (by omega)];omega
   have hB3 : dh 13 (xs2.take r++s::xs2.drop (r+1)):=(hB2.take r).append (show dh 13 ([s]++xs2.drop (r+1)) from hs.append (hB2.drop (r+1)))
   have hl3 : (xs2.take r++s::xs2.drop (r+1)).length=N:=by simp;omega
   have ht3 : (xs2.take r++s::xs2.drop (r+1)).take (r+1)=xs.take r++[s]:=by
    rw [show xs2.take r++s::xs2.drop (r+1)=(xs2.take r++[s])++xs2.drop (r+1) by simp,ht2,List.take_append_of_le_length (by simp;omega),List.take_of_length_le (by simp;omega)]
   generalize xs2.take r++s::xs2.drop (r+1)=xs3 at *
   have hx2 : ∀ (σ : Store) (tg : Bool),aJ Tryz.prog σ 13 222 (.sl (xs.length-(r)) (List.take ((xs.length-(r))*13) (List.drop ((r)*13) xs.flatten)) tg)=some ((xs.drop (r)).length,(xs.drop (r)).flatten):=by
    intro σ tg
    have:=Yq (σ:=σ) (a:=r) (b:=xs.length-(r)) (tg:=tg) fA hB (by omega)
    rw [List.take_of_length_le (l:=xs.drop (r)) (by simp)] at this
    exact this
   have hor:=XO x i h.lt hi
   have hfz : ∀ (A B C : Obj),fz 2 ([A,B,C,.kH ys.flatten] : Store) (.agg [.int .u32 (x ||| 2 ^ i : Nat),.bZ 3 0 (N) 13])=some (.agg [.int .u32 (x ||| 2 ^ i : Nat),.sl ys.length ys.flatten false]):=by
    intro A B C
    have h1:=qN (m:=0) (σ:=([A,B,C,.kH ys.flatten] : Store)) (id:=3) (n:=N) (k:=13) (xs:=ys) rfl hB' (by omega)
    have h2 : (VV.agg [.int .u32 (x ||| 2 ^ i : Nat),.bZ 3 0 (N) 13]).isPure=false:=rfl
    rw [fz,h2]
    simp only [List.mapM_cons,List.mapM_nil,h1]
    rfl
   by_cases hend : r+1=N
   ·have hys : xs3=ys:=by
     have e8 : xs3=xs3.take (r+1):=by rw [List.take_of_length_le (by omega)]
     have e9 : xs.drop (r)=[]:=List.drop_eq_nil_of_le (by omega)
     rw [hset,e8,ht3,e9]
    have hcnd : (r+1=N∧0 < r+1)=True:=eq_true ⟨hend,by omega⟩
    simp only [go_sem,seval,c1,c2,c3,c7,c8,c9,Int.toNat_natCast,e6,e7,hcnd]
    refine ⟨⟨by omega,by omega⟩,⟨⟨by omega,by omega⟩,hB.flat⟩, ?_⟩
    rw [hys]
    refine qy (ys:=xs.drop (r)) fA jE (hx2 _ _) (hB.drop _) ?_
    simp only [go_sem,seval]
    exact ⟨_,2,congrArg (fun z=>gY.ret (.agg [.int .u32 z,.bZ 3 0 (N) 13])) hor,hfz _ _ _⟩
   ·have hys : xs3.take (r+1)++(xs.drop (r)++xs3.drop (r+1+(xs.drop (r)).length))=ys:=by
     have e9 : xs3.drop (r+1+(xs.drop (r)).length)=[]:=List.drop_eq_nil_of_le (by simp;omega)
     rw [hset,ht3,e9];simp
    have hcnd : (r+1=N∧0 < r+1)=False:=eq_false fun h=>hend h.1
    simp only [go_sem,seval,c1,c2,c3,c7,c8,c9,Int.toNat_natCast,e6,e7,hcnd]
    refine ⟨⟨by omega,by omega⟩,⟨⟨by omega,by omega⟩,hB.flat⟩, ?_⟩
    refine zH (o:=r+1) (xs:=xs3) (ys:=xs.drop (r)) fA jE (by decide) rfl hB3 (hB.drop _) (by omega) (by omega) (by simp;omega) (hx2 _ _) ?_
    rw [hys]
    simp only [go_sem,seval]
    exact ⟨_,2,congrArg (fun z=>gY.ret (.agg [.int .u32 z,.bZ 3 0 (N) 13])) hor,hfz _ _ _⟩
  | nil =>
   have hr : r=0:=by simpa using hrk
   have hN1 : N=1:=by simpa using hN
   subst hr hN1
   have e1 : IntKind.i64.wrap ((0 : Int)+1)=1:=rfl
   have e6 : ys=[s]:=by rw [hset];rfl
   subst e6
   have hor:=XO x i h.lt hi
   have hfz : ∀ (A B C : Obj),fz 2 ([A,B,C,.kH s] : Store) (.agg [.int .u32 (x ||| 2 ^ i : Nat),.bZ 3 0 1 13])=some (.agg [.int .u32 (x ||| 2 ^ i : Nat),.sl 1 ([s].flatten) false]):=by
    intro A B C
    have h1:=qN (m:=0) (σ:=([A,B,C,.kH s] : Store)) (id:=3) (n:=1) (k:=13) (xs:=[s]) (by simp) hs rfl
    have h2 : (VV.agg [.int .u32 (x ||| 2 ^ i : Nat),.bZ 3 0 1 13]).isPure=false:=rfl
    rw [fz,h2]
    simp only [List.mapM_cons,List.mapM_nil,h1]
    rfl
   have hx1 : ∀ (σ : Store),aJ Tryz.prog σ 13 222 .nils=some (([] : List (List VV)).length,([] : List (List VV)).flatten):=by
    intro σ
    simp only [aJ,fA,kK,eG]
    rfl
   simp only [go_sem,seval,c218,c7,c8,c9,b1,b2]
   refine aj (hK) (by simp only [go_sem,seval,c7,c8,c9]) ?_<;>simp only [go_sem,seval,c7,c8,c9]
   refine ah (hH) ?_<;>simp only [go_sem,seval,c7,c8,c9]
   refine sW (o:=0) (xs:=[eX]) (ys:=[]) fA jE (by decide) rfl ⟨by simp;rfl,by simp;rfl,by simp;rfl⟩ .nil (by omega) (by simp) (by simp) (hx1 _) ?_
   have c3 : 13≤[eX].flatten.length:=by decide
   have c4 : s++List.drop 13 [eX].flatten=s:=by
    have : List.drop 13 [eX].flatten=[]:=rfl
    rw [this,List.append_nil]
   simp only [go_sem,seval,c7,c8,c9,c3,c4]
   refine qy (ys:=[]) fA jE (hx1 _) .nil ?_
   simp only [go_sem,seval]
   exact ⟨_,2,congrArg (fun z=>gY.ret (.agg [.int .u32 z,.bZ 3 0 1 13])) hor,hfz _ _ _⟩
end Go.V
