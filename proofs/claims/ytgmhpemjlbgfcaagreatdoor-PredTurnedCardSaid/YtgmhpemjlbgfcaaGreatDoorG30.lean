/- Texts F56 F57 L2. -/
import Derived.Test.YtgmhpemjlbgfcaaGreatDoorG19
set_option linter.unusedVariables false
set_option linter.unusedSimpArgs false
namespace Go.V
open Go.Proofs
set_option maxRecDepth 100000
def uB (n : Int) : Nat:=((n+9223372036854775808) % 18446744073709551616).toNat
def zn (n : Int) : Bs:=(List.range 8).map fun i=>UInt8.ofNat (uB n / 256 ^ (7-i) % 256)
theorem oU (n : Int) : (zn n).length=8:=by simp [zn]
def LM (a b : Int) : Int:=IntKind.u64.wrap ↑(BitVec.ofInt 64 a ^^^ BitVec.ofInt 64 b).toNat
theorem NM {a b : Int} : zh .xor .u64 a b=some (True,.int .u64 (LM a b)):=rfl
theorem Qe (x : Nat) (h : x < 18446744073709551616) : x ^^^ 9223372036854775808=(x+9223372036854775808) % 18446744073709551616:=by
 have e : (9223372036854775808 : Nat)=2 ^ 63:=by decide
 have e2 : (18446744073709551616 : Nat)=2 ^ 64:=by decide
 apply Nat.eq_of_testBit_eq
 intro i
 rw [Nat.testBit_xor,e,e2,Nat.testBit_mod_two_pow,Nat.testBit_two_pow]
 by_cases hi : i < 63
 ·have h1 : ((x+2 ^ 63).testBit i)=x.testBit i:=by
   rw [Nat.add_comm,Nat.testBit_two_pow_add_gt hi]
  rw [h1]
  simp [show i < 64 by omega,show ¬ 63=i by omega]
 ·by_cases hi' : i=63
  ·subst hi'
   rw [Nat.add_comm,Nat.testBit_two_pow_add_eq]
   simp
  ·have h1 : x.testBit i=false:=Nat.testBit_lt_two_pow (Nat.lt_of_lt_of_le (by rw [e2] at h;exact h) (Nat.pow_le_pow_right (by decide) (by omega)))
   rw [h1]
   simp [show ¬ i < 64 by omega,show ¬ 63=i by omega]
theorem PE (n : Int) : LM (IntKind.u64.wrap n) 9223372036854775808=(uB n : Int):=by
 unfold LM
 rw [BitVec.toNat_xor,BitVec.toNat_ofInt,BitVec.toNat_ofInt]
 have h1 : ((9223372036854775808 : Int) % ((2 ^ 64 : Nat) : Int)).toNat=9223372036854775808:=by decide
 have h2 : (IntKind.u64.wrap n % ((2 ^ 64 : Nat) : Int)).toNat=(n % 18446744073709551616).toNat:=by rw [wu64];omega
 rw [h1,h2,Qe _ (by omega),wu64]
 unfold uB
 omega
theorem XY (x : Nat) : Int.fdiv (x : Int) (2 ^ min 8 64)=((x / 256 : Nat) : Int):=by
 rw [Int.fdiv_eq_ediv_of_nonneg _ (by decide)];rfl
theorem w8 (x : Nat) : IntKind.u8.wrap (x : Int)=((x % 256 : Nat) : Int):=by rw [Vr];omega
theorem Po (n : Int) : PV Tryz.prog G0 240 [.int .i64 n] (.str (zn n)):=by
 refine pv e240 (by simp) rfl rfl ?_
 have hx:=PE n
 obtain ⟨u,hu⟩ : ∃ u,u=uB n:=⟨_,rfl⟩
 rw [← hu] at hx
 simp only [go_sem,seval,↓NM,c240,hx]
 iterate 8
  refine iH ?_
  simp only [go_sem,seval,XY,w8]
 have wm : IntKind.i64.wrap (-1)=-1:=by decide
 refine iH ?_
 simp only [go_sem,seval,XY,w8,wm,bytesOf]
 refine ⟨trivial, ?_⟩
 simp only [go_sem,seval]
 refine fin (by rfl) ?_
 have key : [UInt8.ofNat (u / 256 / 256 / 256 / 256 / 256 / 256 / 256 % 256),UInt8.ofNat (u / 256 / 256 / 256 / 256 / 256 / 256 % 256),UInt8.ofNat (u / 256 / 256 / 256 / 256 / 256 % 256),UInt8.ofNat (u / 256 / 256 / 256 / 256 % 256),
   UInt8.ofNat (u / 256 / 256 / 256 % 256),UInt8.ofNat (u / 256 / 256 % 256),UInt8.ofNat (u / 256 % 256),UInt8.ofNat (u % 256)]=zn n:=by
  unfold zn
  rw [← hu]
  simp only [List.range,List.range.loop,List.map_cons,List.map_nil,Nat.div_div_eq_div_mul]
  simp
 exact congrArg VV.str key
theorem UN : ∀ i : Nat,i < 8→∀ u : Nat,Int.fdiv (u : Int) (2 ^ min (IntKind.u64.wrap (IntKind.i64.wrap (56-IntKind.i64.wrap (8*(i : Int))))).toNat 64)=((u / 256 ^ (7-i) : Nat) : Int):=by
 intro i hi u
 rw [Int.fdiv_eq_ediv_of_nonneg _ (by exact Int.le_of_lt (Int.pow_pos (by decide)))]
 have e : (2 : Int) ^ min (IntKind.u64.wrap (IntKind.i64.wrap (56-IntKind.i64.wrap (8*(i : Int))))).toNat 64=((256 ^ (7-i) : Nat) : Int):=by
  have h1 : IntKind.i64.wrap (8*(i : Int))=((8*i : Nat) : Int):=by rw [iw (by omega)];omega
  have h2 : IntKind.i64.wrap (56-((8*i : Nat) : Int))=((56-8*i : Nat) : Int):=by rw [iw (by omega)];omega
  have h3 : (IntKind.u64.wrap ((56-8*i : Nat) : Int)).toNat=56-8*i:=by rw [uw (by omega)];omega
  rw [h1,h2,h3,Nat.min_eq_left (by omega),show 56-8*i=8*(7-i) by omega,Int.pow_mul]
  norm_cast
 rw [e]
 norm_cast
theorem Nj (n : Int) : PV Tryz.prog G0 139 [.int .i64 n] (.str (zn n)):=by
 refine pv e139 (by simp) rfl rfl ?_
 obtain ⟨u,hu⟩ : ∃ u,u=uB n:=⟨_,rfl⟩
 have hx : IntKind.u64.wrap (IntKind.u64.wrap n+9223372036854775808)=(u : Int):=by
  rw [hu,wu64,wu64];unfold uB;omega
 simp only [go_sem,seval,c139,hx]
 refine aF (fun m ρ σ'=>∃ i : Nat,m=8-i∧i≤8∧ρ.get 3=.int .u64 u∧ρ.get 4=.bZ 0 0 8 1∧ρ.get 10=.int .i64 i∧σ'=[.own (((List.range i).map fun j=>VV.int .u8 (u / 256 ^ (7-j) % 256 : Nat))++List.replicate (8-i) (.int .u8 0))]) (n:=8) ?_ ⟨0,rfl,by omega,rfl,rfl,rfl,rfl⟩
 rintro m ρ σ' ⟨i,rfl,hi,q3,q4,q10,rfl⟩
 simp only [go_sem,seval,q3,q4,q10]
 refine aG (fun hc=>?_) (fun hc=>?_)
 ·have hc' : i < 8:=by simp at hc;omega
  have f1:=UN i hc' u
  have c1 : (0 : Int)≤(i : Int):=by omega
  have c2 : (i : Int) < 8:=by omega
  have c6 : IntKind.i64.wrap ((i : Int)+1)=((i+1 : Nat) : Int):=by rw [iw (by omega)];omega
  simp only [go_sem,seval,q3,q4,q10,f1,c1,c2,c6,w8,Int.toNat_natCast]
  have g1 : 0≤IntKind.u64.wrap (IntKind.i64.wrap (56-IntKind.i64.wrap (8*(i : Int)))):=by rw [wu64];omega
  refine ⟨g1,by simp;omega,8-(i+1),by omega,i+1,rfl,by omega,rfl, ?_⟩
  have h8 : i=0∨i=1∨i=2∨i=3∨i=4∨i=5∨i=6∨i=7:=by omega
  rcases h8 with rfl | rfl | rfl | rfl | rfl | rfl | rfl | rfl<;>rfl
 ·have hc' : i=8:=by simp at hc;omega
  subst hc'
  have e : ((List.range 8).map fun j=>VV.int .u8 (u / 256 ^ (7-j) % 256 : Nat))++List.replicate (8-8) (.int .u8 0)=(zn n).map aU:=by
   unfold zn
   rw [← hu,List.map_map,Nat.sub_self,List.replicate_zero,List.append_nil]
   refine List.map_congr_left fun j hj=>?_
   exact Wj _ (by omega)
  rw [e]
  have ht : List.take 8 ((zn n).map aU)=(zn n).map aU:=List.take_of_length_le (by simp [oU])
  simp only [go_sem,seval,q3,q4,q10,List.length_map,oU,ht,jR]
  exact fin (by rfl) rfl
def mW : Bs→Bs
 | []=>[]
 | b::s=>if b=0 then b::255::mW s else b::mW s
theorem pK : ∀ s t : Bs,mW (s++t)=mW s++mW t
 | [],t=>rfl
 | b::s,t=>by
  have:=pK s t
  simp only [List.cons_append,mW]
  split<;>simp [this]
theorem ny : ∀ s : Bs,(mW s).length≤2*s.length
 | []=>by simp [mW]
 | b::s=>by
  have:=ny s
  simp only [mW]
  split<;>simp<;>omega
def lq (k i : Int) (t : Bs) : Bs:=if qm k i t≠0 then [] else
 if k=0 then [1] else if k=1 then [2,UInt8.ofNat (i % 256).toNat] else if k=2 then 3::zn i else 4::(mW t++[0,0])
theorem JA (t : Bs) (ht : t.length≤10000000) : PV Tryz.prog G0 140 [.str t] (.str (mW t)):=by
 refine pv e140 (by simp) rfl rfl ?_
 simp only [go_sem,seval,c140]
 refine aF (fun m ρ σ'=>∃ i : Nat,m=t.length-i∧i≤t.length∧ρ.get 0=.str t∧ρ.get 3=.str (mW (t.take i))∧ρ.get 6=.int .i64 t.length∧ρ.get 7=.int .i64 i∧σ'=[]) (n:=t.length) ?_ ⟨0,rfl,by omega,rfl,rfl,rfl,rfl,rfl⟩
 rintro m ρ σ' ⟨i,rfl,hi,q0,q3,q6,q7,rfl⟩
 simp only [go_sem,seval,q0,q3,q6,q7]
 refine aG (fun hc=>?_) (fun hc=>?_)
 ·have hc' : i < t.length:=by simpa using hc
  have c1 : (0 : Int)≤(i : Int):=by omega
  have c2 : (i : Int) < (t.length : Int):=by omega
  have c6 : IntKind.i64.wrap ((i : Int)+1)=((i+1 : Nat) : Int):=by rw [iw (by omega)];omega
  have hl:=ny (t.take i)
  have hl2 : (t.take i).length=i:=by simp;omega
  simp only [go_sem,seval,q0,q3,q6,q7,c1,c2,c6,Int.toNat_natCast]
  have hs : List.take (i+1-i) (List.drop i t)=[t[i]]:=by
   rw [show i+1-i=1 by omega,List.drop_eq_getElem_cons hc'];rfl
  have hg : t.getD i 0=t[i]:=by simp [List.getD_eq_getElem?_getD,hc']
  have hn : mW (t.take (i+1))=mW (t.take i)++(if t[i]=0 then [t[i],255] else [t[i]]):=by
   rw [List.take_succ_eq_append_getElem hc',pK]
   simp only [mW]
  rw [hs,hg]
  refine ⟨⟨by omega,by omega⟩,by simp;omega,aG (fun hd=>?_) (fun hd=>?_)⟩
  ·have hd' : t[i]=0:=by
    have h0 : t[i].toNat=0:=by simpa using hd
    exact UInt8.toNat_inj.1 h0
   rw [if_pos hd'] at hn
   simp only [go_sem,seval,q0,q3,q6,q7,c6]
   refine ⟨by simp;omega,t.length-(i+1),by omega,i+1,rfl,by omega, ?_,rfl⟩
   rw [hn];simp
  ·have hd' : ¬ t[i]=0:=by
    intro h
    rw [h] at hd
    simp at hd
   rw [if_neg hd'] at hn
   simp only [go_sem,seval,q0,q3,q6,q7,c6]
   exact ⟨t.length-(i+1),by omega,i+1,rfl,by omega,by rw [hn],rfl⟩
 ·have hc' : i=t.length:=by simp at hc;omega
  subst hc'
  rw [List.take_length] at q3
  simp only [go_sem,seval,q0,q3,q6,q7]
  exact fin (by rfl) rfl
theorem Zn (k i : Int) (t : Bs) : PV Tryz.prog G0 98 [.agg [.int .i64 k,.int .i64 i,.str t]] (.int .i64 (qm k i t)):=by
 refine pv e98 (by simp) rfl rfl ?_
 by_cases hk : k < 0∨3 < k
 ·have e : qm k i t=3:=by unfold qm;rw [if_neg (by omega),if_neg (by omega),if_neg (by omega),if_neg (by omega)]
  rw [e]
  rcases hk with hk | hk
  ·have b1 : decide (k < 0)=true:=decide_eq_true hk
   simp only [go_sem,seval,c98,b1,Bool.not_true]
   exact fin (by rfl) rfl
  ·have b1 : decide (k < 0)=false:=decide_eq_false (by omega)
   have b2 : decide (3 < k)=true:=decide_eq_true hk
   simp only [go_sem,seval,c98,b1,b2,Bool.not_false]
   exact fin (by rfl) rfl
 ·have hk' : k=0∨k=1∨k=2∨k=3:=by omega
  obtain ⟨z,hz⟩ : ∃ z,z=qm k i t:=⟨_,rfl⟩
  rw [← hz]
  unfold qm at hz
  by_cases h0 : i=0
  ·subst h0
   by_cases h2 : t=[]
   ·subst h2
    rcases hk' with rfl | rfl | rfl | rfl<;>(simp at hz;subst hz;simp only [go_sem,seval,c98];exact fin (by rfl) rfl)
   ·have b2 : (t == [])=false:=by simpa using h2
    rcases hk' with rfl | rfl | rfl | rfl<;>(simp [h2] at hz;subst hz;simp only [go_sem,seval,c98,b2,Bool.not_false];exact fin (by rfl) rfl)
  ·have b0 : (i != 0)=true:=by simpa using h0
   by_cases h1 : i=1
   ·subst h1
    by_cases h2 : t=[]
    ·subst h2
     rcases hk' with rfl | rfl | rfl | rfl<;>(simp at hz;subst hz;simp only [go_sem,seval,c98];exact fin (by rfl) rfl)
    ·have b2 : (t == [])=false:=by simpa using h2
     rcases hk' with rfl | rfl | rfl | rfl<;>(simp [h2] at hz;subst hz;simp only [go_sem,seval,c98,b2,Bool.not_false];exact fin (by rfl) rfl)
   ·have b1 : (i != 1)=true:=by simpa using h1
    by_cases h2 : t=[]
    ·subst h2
     rcases hk' with rfl | rfl | rfl | rfl<;>(simp [h0,h1] at hz;subst hz;simp only [go_sem,seval,c98,b0,b1];exact fin (by rfl) rfl)
    ·have b2 : (t == [])=false:=by simpa using h2
     rcases hk' with rfl | rfl | rfl | rfl<;>(simp [h0,h1,h2] at hz;subst hz;simp only [go_sem,seval,c98,b0,b1,b2,Bool.not_false];exact fin (by rfl) rfl)
theorem OU (k i : Int) (t : Bs) (ht : t.length≤10000000) : PV Tryz.prog G0 93 [.agg [.int .i64 k,.int .i64 i,.str t]] (.str (lq k i t)):=by
 refine pv e93 (by simp) rfl rfl ?_
 have hl:=ny t
 simp only [go_sem,seval,c93]
 refine ah (Zn k i t) ?_<;>simp only [go_sem,seval]
 unfold lq
 by_cases h0 : qm k i t=0
 ·have b0 : (qm k i t != 0)=false:=by simp [h0]
  have hk' : k=0∨k=1∨k=2∨k=3:=by
   unfold qm at h0
   repeat' split at h0
   all_goals omega
  rw [if_neg (by simp [h0])]
  rcases hk' with rfl | rfl | rfl | rfl
  ·simp only [go_sem,seval,b0]
   exact fin (by rfl) rfl
  ·have hi : i=0∨i=1:=by
    unfold qm at h0
    repeat' split at h0
    all_goals omega
   have e : UInt8.ofNat (IntKind.u8.wrap i).toNat=UInt8.ofNat (i % 256).toNat:=by rw [Vr]
   simp only [go_sem,seval,b0,bytesOf]
   refine ⟨trivial, ?_⟩
   simp only [go_sem,seval]
   exact ⟨by simp,fin (by rfl) (congrArg (fun b=>VV.str [2,b]) e)⟩
  ·simp only [go_sem,seval,b0]
   refine ah (Nj i) ?_<;>simp only [go_sem,seval,oU]
   exact fin (by rfl) rfl
  ·simp only [go_sem,seval,b0]
   refine ah (JA t ht) ?_<;>simp only [go_sem,seval]
   exact ⟨by omega,by omega,fin (by rfl) rfl⟩
 ·have b0 : (qm k i t != 0)=true:=by simpa using h0
  rw [if_pos h0]
  simp only [go_sem,seval,b0]
  exact fin (by rfl) rfl
end Go.V
namespace Go.V
open Go.Proofs
set_option maxRecDepth 100000
theorem lU.not {σ : Store} {v : VV} {b : Bs} (h : lU σ v b) {id : Nat} {cs : List VV} (hid : σ[id]?=some (.own cs)) (hc : ∀ b : Bs,cs≠b.map aU) : ∀ o n z,v≠.bZ id o n z:=by
 intro o n z e
 subst e
 rcases h with ⟨h,_⟩ | h | ⟨jd,h,hj⟩
 ·cases h
 ·cases h
 ·cases h
  rw [hid] at hj
  cases hj
  exact hc _ rfl
theorem FX (k i : Int) (t : Bs) : ∀ b : Bs,[VV.int .i64 k,.int .i64 i,.str t]≠b.map aU:=by
 intro b e
 cases b with
 | nil=>cases e
 | cons c b=>simp [aU] at e
theorem BQ {σ : Store} {c : UInt8} {g : Bool} : aJ Tryz.prog σ 1 173 (.sl 1 [.int .u8 c.toNat] g)=some (([c] : Bs).length,([c] : Bs).map aU):=Dl (c:=[c])
theorem OZ : ji Tryz.prog 9=true:=by kernel_rfl
theorem Nz (k i : Int) (t : Bs) (ht : t.length≤10000000) : PV Tryz.prog G0 219 [.agg [.int .i64 k,.int .i64 i,.str t]] (.str (lq k i t)):=by
 refine pv e219 (by simp) rfl rfl ?_
 simp only [go_sem,seval,c219]
 refine ah (Ea k i t) ?_<;>simp only [go_sem,seval]
 unfold lq
 by_cases h0 : qm k i t=0
 ·have b0 : (qm k i t != 0)=false:=by simp [h0]
  have hk' : k=0∨k=1∨k=2∨k=3:=by
   unfold qm at h0
   repeat' split at h0
   all_goals omega
  rw [if_neg (by simp [h0])]
  rcases hk' with rfl | rfl | rfl | rfl
  ·have w1 : IntKind.u8.wrap 1=1:=by decide
   simp only [go_sem,seval,b0,w1,bytesOf]
   refine ⟨trivial, ?_⟩
   simp only [go_sem,seval]
   exact fin (by rfl) rfl
  ·have w1 : IntKind.u8.wrap 2=((2 : UInt8).toNat : Int):=by decide
   have e : IntKind.u8.wrap i=((UInt8.ofNat (i % 256).toNat).toNat : Int):=by rw [Vr,UInt8.toNat_ofNat'];omega
   simp only [go_sem,seval,b0,w1,e]
   have hB : lU [Obj.own [.int .i64 1,.int .i64 i,.str t]] (.sl 1 [.int .u8 ((2 : UInt8).toNat : Int)] true) [2]:=.inr (.inl rfl)
   refine hB.lC BQ (by simp) fun v' σ' hB' hK=>?_
   simp only [go_sem,seval,hB'.conv]
   exact fin (by rfl) rfl
  ·have w1 : IntKind.u8.wrap 3=((3 : UInt8).toNat : Int):=by decide
   simp only [go_sem,seval,b0,w1]
   refine ah (Po i) ?_<;>simp only [go_sem,seval]
   have hB : lU [Obj.own [.int .i64 2,.int .i64 i,.str t]] (.sl 1 [.int .u8 ((3 : UInt8).toNat : Int)] true) [3]:=.inr (.inl rfl)
   refine hB.lC (nX OZ) (by simp [oU]) fun v' σ' hB' hK=>?_
   simp only [go_sem,seval,hB'.conv]
   exact fin (by rfl) rfl
  ·have w1 : IntKind.u8.wrap 4=((4 : UInt8).toNat : Int):=by decide
   have hl:=ny t
   simp only [go_sem,seval,b0,w1]
   refine bf (M:=fun ρ σ'=>∃ v,ρ.get 3=v∧lU σ' v (4::mW t)) ?_ ?_
   rotate_left
   ·refine aF (fun m ρ σ'=>∃ (j : Nat) (v : VV),m=t.length-j∧j≤t.length∧ρ.get 1=.mptr 0 0∧ρ.get 3=v∧ρ.get 34=.int .i64 t.length∧ρ.get 35=.int .i64 j∧σ'[0]?=some (.own [.int .i64 3,.int .i64 i,.str t])∧lU σ' v (4::mW (t.take j))) (n:=t.length) ?_ ⟨0,_,rfl,by omega,rfl,rfl,rfl,rfl,rfl,.inr (.inl rfl)⟩
    rintro m ρ σ' ⟨j,v,rfl,hj,q1,q3,q34,q35,s0,hB⟩
    simp only [go_sem,seval,q1,q3,q34,q35]
    refine aG (fun hc=>?_) (fun hc=>?_)
    ·have hc' : j < t.length:=by simpa using hc
     have c1 : (0 : Int)≤(j : Int):=by omega
     have c2 : (j : Int) < (t.length : Int):=by omega
     have c6 : IntKind.i64.wrap ((j : Int)+1)=((j+1 : Nat) : Int):=by rw [iw (by omega)];omega
     have hg : t.getD j 0=t[j]:=by simp [List.getD_eq_getElem?_getD,hc']
     have hl1:=ny (t.take j)
     have hl2 : (t.take j).length=j:=by simp;omega
     have hn : mW (t.take (j+1))=mW (t.take j)++(if t[j]=0 then [t[j],255] else [t[j]]):=by
      rw [List.take_succ_eq_append_getElem hc',pK]
      simp only [mW]
     simp only [go_sem,seval,q1,q3,q34,q35,s0,c1,c2,hg,Int.toNat_natCast]
     refine hB.lC BQ (by simp;omega) fun v' σ₂ hB' hK=>?_
     have s0' : σ₂[0]?=some (.own [.int .i64 3,.int .i64 i,.str t]):=by
      rw [hK.2 0 (List.getElem?_eq_some_iff.1 s0).1 (hB.not s0 (FX _ _ _))];exact s0
     simp only [go_sem,seval,q1,q3,q34,q35,s0',c1,c2,hg,Int.toNat_natCast]
     refine aG (fun hd=>?_) (fun hd=>?_)
     ·have hd' : t[j]=0:=by
       have h0 : t[j].toNat=0:=by simpa using hd
       exact UInt8.toNat_inj.1 h0
      rw [if_pos hd'] at hn
      have hx : aJ Tryz.prog σ₂ 1 173 (.sl 1 [.int .u8 255] true)=some (([255] : Bs).length,([255] : Bs).map aU):=Dl (c:=[255])
      simp only [go_sem,seval,q1,q3,q34,q35,c6]
      refine hB'.lC hx (by simp;omega) fun v3 σ₃ hB3 hK3=>?_
      have s3 : σ₃[0]?=some (.own [.int .i64 3,.int .i64 i,.str t]):=by
       rw [hK3.2 0 (List.getElem?_eq_some_iff.1 s0').1 (hB'.not s0' (FX _ _ _))];exact s0'
      simp only [go_sem,seval,q1,q3,q34,q35,c6]
      refine ⟨t.length-(j+1),by omega,j+1,v3,rfl,by omega,rfl,rfl,s3, ?_⟩
      rw [hn];simpa using hB3
     ·have hd' : ¬ t[j]=0:=by
       intro h
       rw [h] at hd
       simp at hd
      rw [if_neg hd'] at hn
      simp only [go_sem,seval,q1,q3,q34,q35,c6]
      refine ⟨t.length-(j+1),by omega,j+1,v',rfl,by omega,rfl,rfl,s0', ?_⟩
      rw [hn];simpa using hB'
    ·have hc' : j=t.length:=by simp at hc;omega
     subst hc'
     rw [List.take_length] at hB
     simp only [go_sem,seval,q1,q3,q34,q35]
     exact hB
   ·rintro ρ σ' ⟨v,q3,hB⟩
    have hx : aJ Tryz.prog σ' 1 173 (.sl 2 [.int .u8 0,.int .u8 0] true)=some (([0,0] : Bs).length,([0,0] : Bs).map aU):=Dl (c:=[0,0])
    simp only [go_sem,seval,q3]
    refine hB.lC hx (by simp;omega) fun v' σ₂ hB' hK=>?_
    simp only [go_sem,seval,hB'.conv]
    exact fin (by rfl) rfl
 ·have b0 : (qm k i t != 0)=true:=by simpa using h0
  rw [if_pos h0]
  simp only [go_sem,seval,b0]
  exact fin (by rfl) rfl
end Go.V
namespace Go.V
inductive T where
 | sc (k i : Int) (t : Bs)
 | vec (l : List T)
 | map (l : List (Bs × T))
 | set (l : List T)
 deriving Inhabited
mutual
def T.key : T→Bs
 | .sc k i t=>lq k i t
 | .vec l=>5::(T.keys l++[0])
 | .map l=>6::(T.jJ l++[0])
 | .set l=>7::(T.keys l++[0])
def T.keys : List T→Bs
 | []=>[]
 | x::l=>x.key++T.keys l
def T.jJ : List (Bs × T)→Bs
 | []=>[]
 | p::l=>lq 3 0 p.1++(p.2.key++T.jJ l)
end
theorem T.oV : ∀ l m : List T,T.keys (l++m)=T.keys l++T.keys m
 | [],m=>rfl
 | x::l,m=>by simp [T.keys,T.oV l m]
theorem T.oI : ∀ l m : List (Bs × T),T.jJ (l++m)=T.jJ l++T.jJ m
 | [],m=>rfl
 | x::l,m=>by simp [T.jJ,T.oI l m]
end Go.V
