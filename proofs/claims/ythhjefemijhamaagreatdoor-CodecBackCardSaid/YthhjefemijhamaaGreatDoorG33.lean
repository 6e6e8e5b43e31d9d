/- Texts F56 F57 L2. -/
import Derived.Test.YthhjefemijhamaaGreatDoorG20
set_option linter.unusedVariables false
set_option linter.unusedSimpArgs false
namespace Go.V
open Go.Proofs
set_option maxRecDepth 100000
def uB (n : Int) : Nat:=((n+9223372036854775808) % 18446744073709551616).toNat
def numB (n : Int) : Bs:=(List.range 8).map fun i=>UInt8.ofNat (uB n / 256 ^ (7-i) % 256)
theorem numB_len (n : Int) : (numB n).length=8:=by simp [numB]
def xor64 (a b : Int) : Int:=IntKind.u64.wrap ↑(BitVec.ofInt 64 a ^^^ BitVec.ofInt 64 b).toNat
theorem io_xor64 {a b : Int} : intOp .xor .u64 a b=some (True,.int .u64 (xor64 a b)):=rfl
theorem xor_top (x : Nat) (h : x < 18446744073709551616) : x ^^^ 9223372036854775808=(x+9223372036854775808) % 18446744073709551616:=by
 have e : (9223372036854775808 : Nat)=2 ^ 63:=by decide
 have e2 : (18446744073709551616 : Nat)=2 ^ 64:=by decide
 apply Nat.eq_of_testBit_eq
 intro i
 rw [Nat.testBit_xor,e,e2,Nat.testBit_mod_two_pow,Nat.testBit_two_pow]
 by_cases hi : i < 63
 ·have h1 : ((x+2 ^ 63).testBit i)=x.testBit i:=by
   rw [Nat.add_comm,Nat.testBit_two_pow_add_gt hi]
  rw [h1]
  simp [show i < 64 by omega,show ¬ 63=i by omega]
 ·by_cases hi' : i=63
  ·subst hi'
   rw [Nat.add_comm,Nat.testBit_two_pow_add_eq]
   simp
  ·have h1 : x.testBit i=false:=Nat.testBit_lt_two_pow (Nat.lt_of_lt_of_le (by rw [e2] at h;exact h) (Nat.pow_le_pow_right (by decide) (by omega)))
   rw [h1]
   simp [show ¬ i < 64 by omega,show ¬ 63=i by omega]
theorem xor64_uB (n : Int) : xor64 (IntKind.u64.wrap n) 9223372036854775808=(uB n : Int):=by
 unfold xor64
 rw [BitVec.toNat_xor,BitVec.toNat_ofInt,BitVec.toNat_ofInt]
 have h1 : ((9223372036854775808 : Int) % ((2 ^ 64 : Nat) : Int)).toNat=9223372036854775808:=by decide
 have h2 : (IntKind.u64.wrap n % ((2 ^ 64 : Nat) : Int)).toNat=(n % 18446744073709551616).toNat:=by rw [wu64];omega
 rw [h1,h2,xor_top _ (by omega),wu64]
 unfold uB
 omega
theorem fd8 (x : Nat) : Int.fdiv (x : Int) (2 ^ min 8 64)=((x / 256 : Nat) : Int):=by
 rw [Int.fdiv_eq_ediv_of_nonneg _ (by decide)];rfl
theorem w8 (x : Nat) : IntKind.u8.wrap (x : Int)=((x % 256 : Nat) : Int):=by rw [wu8];omega
theorem p_nBytes (n : Int) : PV Tryz.prog G0 128 [.int .i64 n] (.str (numB n)):=by
 refine pv e128 (by simp) rfl rfl ?_
 have hx:=xor64_uB n
 obtain ⟨u,hu⟩ : ∃ u,u=uB n:=⟨_,rfl⟩
 rw [← hu] at hx
 simp only [go_sem,seval,↓io_xor64,c128,hx]
 iterate 8
  refine wpV_loop ?_
  simp only [go_sem,seval,fd8,w8]
 have wm : IntKind.i64.wrap (-1)=-1:=by decide
 refine wpV_loop ?_
 simp only [go_sem,seval,fd8,w8,wm,bytesOf]
 refine ⟨trivial, ?_⟩
 simp only [go_sem,seval]
 refine fin (by rfl) ?_
 have key : [UInt8.ofNat (u / 256 / 256 / 256 / 256 / 256 / 256 / 256 % 256),UInt8.ofNat (u / 256 / 256 / 256 / 256 / 256 / 256 % 256),UInt8.ofNat (u / 256 / 256 / 256 / 256 / 256 % 256),UInt8.ofNat (u / 256 / 256 / 256 / 256 % 256),
   UInt8.ofNat (u / 256 / 256 / 256 % 256),UInt8.ofNat (u / 256 / 256 % 256),UInt8.ofNat (u / 256 % 256),UInt8.ofNat (u % 256)]=numB n:=by
  unfold numB
  rw [← hu]
  simp only [List.range,List.range.loop,List.map_cons,List.map_nil,Nat.div_div_eq_div_mul]
  simp
 exact congrArg VV.str key
def covB : Bs→Bs
 | []=>[]
 | b::s=>if b=0 then b::255::covB s else b::covB s
theorem covB_append : ∀ s t : Bs,covB (s++t)=covB s++covB t
 | [],t=>rfl
 | b::s,t=>by
  have:=covB_append s t
  simp only [List.cons_append,covB]
  split<;>simp [this]
theorem covB_len : ∀ s : Bs,(covB s).length≤2*s.length
 | []=>by simp [covB]
 | b::s=>by
  have:=covB_len s
  simp only [covB]
  split<;>simp<;>omega
def scKey (k i : Int) (t : Bs) : Bs:=if checkS k i t≠0 then [] else
 if k=0 then [1] else if k=1 then [2,UInt8.ofNat (i % 256).toNat] else if k=2 then 3::numB i else 4::(covB t++[0,0])
end Go.V
namespace Go.V
open Go.Proofs
set_option maxRecDepth 100000
theorem BSl.not {σ : Store} {v : VV} {b : Bs} (h : BSl σ v b) {id : Nat} {cs : List VV} (hid : σ[id]?=some (.own cs)) (hc : ∀ b : Bs,cs≠b.map byteCell) : ∀ o n z,v≠.msl id o n z:=by
 intro o n z e
 subst e
 rcases h with ⟨h,_⟩ | h | ⟨jd,h,hj⟩
 ·cases h
 ·cases h
 ·cases h
  rw [hid] at hj
  cases hj
  exact hc _ rfl
theorem scal_not (k i : Int) (t : Bs) : ∀ b : Bs,[VV.int .i64 k,.int .i64 i,.str t]≠b.map byteCell:=by
 intro b e
 cases b with
 | nil=>cases e
 | cons c b=>simp [byteCell] at e
theorem src_one {σ : Store} {c : UInt8} {g : Bool} : srcCells Tryz.prog σ 1 59 (.sl 1 [.int .u8 c.toNat] g)=some (([c] : Bs).length,([c] : Bs).map byteCell):=src_sl (c:=[c])
theorem tstr9 : tstr Tryz.prog 9=true:=by kernel_rfl
theorem p_sKey (k i : Int) (t : Bs) (ht : t.length≤10000000) : PV Tryz.prog G0 83 [.agg [.int .i64 k,.int .i64 i,.str t]] (.str (scKey k i t)):=by
 refine pv e83 (by simp) rfl rfl ?_
 simp only [go_sem,seval,c83]
 refine callO_pure (p_sCheck k i t) ?_<;>simp only [go_sem,seval]
 unfold scKey
 by_cases h0 : checkS k i t=0
 ·have b0 : (checkS k i t != 0)=false:=by simp [h0]
  have hk' : k=0∨k=1∨k=2∨k=3:=by
   unfold checkS at h0
   repeat' split at h0
   all_goals omega
  rw [if_neg (by simp [h0])]
  rcases hk' with rfl | rfl | rfl | rfl
  ·have w1 : IntKind.u8.wrap 1=1:=by decide
   simp only [go_sem,seval,b0,w1,bytesOf]
   refine ⟨trivial, ?_⟩
   simp only [go_sem,seval]
   exact fin (by rfl) rfl
  ·have w1 : IntKind.u8.wrap 2=((2 : UInt8).toNat : Int):=by decide
   have e : IntKind.u8.wrap i=((UInt8.ofNat (i % 256).toNat).toNat : Int):=by rw [wu8,UInt8.toNat_ofNat'];omega
   simp only [go_sem,seval,b0,w1,e]
   have hB : BSl [Obj.own [.int .i64 1,.int .i64 i,.str t]] (.sl 1 [.int .u8 ((2 : UInt8).toNat : Int)] true) [2]:=.inr (.inl rfl)
   refine hB.stepAppend src_one (by simp) fun v' σ' hB' hK=>?_
   simp only [go_sem,seval,hB'.conv]
   exact fin (by rfl) rfl
  ·have w1 : IntKind.u8.wrap 3=((3 : UInt8).toNat : Int):=by decide
   simp only [go_sem,seval,b0,w1]
   refine callO_pure (p_nBytes i) ?_<;>simp only [go_sem,seval]
   have hB : BSl [Obj.own [.int .i64 2,.int .i64 i,.str t]] (.sl 1 [.int .u8 ((3 : UInt8).toNat : Int)] true) [3]:=.inr (.inl rfl)
   refine hB.stepAppend (srcCells_str tstr9) (by simp [numB_len]) fun v' σ' hB' hK=>?_
   simp only [go_sem,seval,hB'.conv]
   exact fin (by rfl) rfl
  ·have w1 : IntKind.u8.wrap 4=((4 : UInt8).toNat : Int):=by decide
   have hl:=covB_len t
   simp only [go_sem,seval,b0,w1]
   refine wpV_cutB (M:=fun ρ σ'=>∃ v,ρ.get 3=v∧BSl σ' v (4::covB t)) ?_ ?_
   rotate_left
   ·refine wpV_loop_inv (fun m ρ σ'=>∃ (j : Nat) (v : VV),m=t.length-j∧j≤t.length∧ρ.get 1=.mptr 0 0∧ρ.get 3=v∧ρ.get 34=.int .i64 t.length∧ρ.get 35=.int .i64 j∧σ'[0]?=some (.own [.int .i64 3,.int .i64 i,.str t])∧BSl σ' v (4::covB (t.take j))) (n:=t.length) ?_ ⟨0,_,rfl,by omega,rfl,rfl,rfl,rfl,rfl,.inr (.inl rfl)⟩
    rintro m ρ σ' ⟨j,v,rfl,hj,q1,q3,q34,q35,s0,hB⟩
    simp only [go_sem,seval,q1,q3,q34,q35]
    refine condO_split (fun hc=>?_) (fun hc=>?_)
    ·have hc' : j < t.length:=by simpa using hc
     have c1 : (0 : Int)≤(j : Int):=by omega
     have c2 : (j : Int) < (t.length : Int):=by omega
     have c6 : IntKind.i64.wrap ((j : Int)+1)=((j+1 : Nat) : Int):=by rw [iw (by omega)];omega
     have hg : t.getD j 0=t[j]:=by simp [List.getD_eq_getElem?_getD,hc']
     have hl1:=covB_len (t.take j)
     have hl2 : (t.take j).length=j:=by simp;omega
     have hn : covB (t.take (j+1))=covB (t.take j)++(if t[j]=0 then [t[j],255] else [t[j]]):=by
      rw [List.take_succ_eq_append_getElem hc',covB_append]
      simp only [covB]
     simp only [go_sem,seval,q1,q3,q34,q35,s0,c1,c2,hg,Int.toNat_natCast]
     refine hB.stepAppend src_one (by simp;omega) fun v' σ₂ hB' hK=>?_
     have s0' : σ₂[0]?=some (.own [.int .i64 3,.int .i64 i,.str t]):=by
      rw [hK.2 0 (List.getElem?_eq_some_iff.1 s0).1 (hB.not s0 (scal_not _ _ _))];exact s0
     simp only [go_sem,seval,q1,q3,q34,q35,s0',c1,c2,hg,Int.toNat_natCast]
     refine condO_split (fun hd=>?_) (fun hd=>?_)
     ·have hd' : t[j]=0:=by
       have h0 : t[j].toNat=0:=by simpa using hd
       exact UInt8.toNat_inj.1 h0
      rw [if_pos hd'] at hn
      have hx : srcCells Tryz.prog σ₂ 1 59 (.sl 1 [.int .u8 255] true)=some (([255] : Bs).length,([255] : Bs).map byteCell):=src_sl (c:=[255])
      simp only [go_sem,seval,q1,q3,q34,q35,c6]
      refine hB'.stepAppend hx (by simp;omega) fun v3 σ₃ hB3 hK3=>?_
      have s3 : σ₃[0]?=some (.own [.int .i64 3,.int .i64 i,.str t]):=by
       rw [hK3.2 0 (List.getElem?_eq_some_iff.1 s0').1 (hB'.not s0' (scal_not _ _ _))];exact s0'
      simp only [go_sem,seval,q1,q3,q34,q35,c6]
      refine ⟨t.length-(j+1),by omega,j+1,v3,rfl,by omega,rfl,rfl,s3, ?_⟩
      rw [hn];simpa using hB3
     ·have hd' : ¬ t[j]=0:=by
       intro h
       rw [h] at hd
       simp at hd
      rw [if_neg hd'] at hn
      simp only [go_sem,seval,q1,q3,q34,q35,c6]
      refine ⟨t.length-(j+1),by omega,j+1,v',rfl,by omega,rfl,rfl,s0', ?_⟩
      rw [hn];simpa using hB'
    ·have hc' : j=t.length:=by simp at hc;omega
     subst hc'
     rw [List.take_length] at hB
     simp only [go_sem,seval,q1,q3,q34,q35]
     exact hB
   ·rintro ρ σ' ⟨v,q3,hB⟩
    have hx : srcCells Tryz.prog σ' 1 59 (.sl 2 [.int .u8 0,.int .u8 0] true)=some (([0,0] : Bs).length,([0,0] : Bs).map byteCell):=src_sl (c:=[0,0])
    simp only [go_sem,seval,q3]
    refine hB.stepAppend hx (by simp;omega) fun v' σ₂ hB' hK=>?_
    simp only [go_sem,seval,hB'.conv]
    exact fin (by rfl) rfl
 ·have b0 : (checkS k i t != 0)=true:=by simpa using h0
  rw [if_pos h0]
  simp only [go_sem,seval,b0]
  exact fin (by rfl) rfl
end Go.V
namespace Go.V
inductive T where
 | sc (k i : Int) (t : Bs)
 | vec (l : List T)
 | map (l : List (Bs × T))
 | set (l : List T)
 deriving Inhabited
mutual
def T.key : T→Bs
 | .sc k i t=>scKey k i t
 | .vec l=>5::(T.keys l++[0])
 | .map l=>6::(T.mkeys l++[0])
 | .set l=>7::(T.keys l++[0])
def T.keys : List T→Bs
 | []=>[]
 | x::l=>x.key++T.keys l
def T.mkeys : List (Bs × T)→Bs
 | []=>[]
 | p::l=>scKey 3 0 p.1++(p.2.key++T.mkeys l)
end
theorem T.keys_append : ∀ l m : List T,T.keys (l++m)=T.keys l++T.keys m
 | [],m=>rfl
 | x::l,m=>by simp [T.keys,T.keys_append l m]
theorem T.mkeys_append : ∀ l m : List (Bs × T),T.mkeys (l++m)=T.mkeys l++T.mkeys m
 | [],m=>rfl
 | x::l,m=>by simp [T.mkeys,T.mkeys_append l m]
end Go.V
