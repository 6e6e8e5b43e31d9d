/- Texts F35 F36 F37 F38. -/
import Derived.Test.YthhjefemijhamaaGreatDoorG12
import Derived.Test.YthhjefemijhamaaGreatDoorG21
import Derived.Test.YthhjefemijhamaaGreatDoorG22
set_option linter.unusedVariables false
set_option linter.unusedSimpArgs false
namespace Go.V
open Go.Proofs
set_option maxRecDepth 100000
theorem Ef {B : Nat→Prop} {w : World} {σ : Store} {μ : List Loc} (hS : SR B w σ μ) {id : Nat} {x0 x : VV} {v : Value} {L : Loc} (ho : σ[id]?=some (.own [x0])) (hL : μ[id]?=some L) (hx : VR w (OO B σ μ) μ x v) (hc : x.aF=true) :
  Frame w σ μ (w.setCell ⟨L.block,L.base,none⟩ v) (σ.set id (.own [x])) μ∧SR B (w.setCell ⟨L.block,L.base,none⟩ v) (σ.set id (.own [x])) μ:=by
 obtain ⟨⟨c,e,hh,hroom⟩,hlen,hcs⟩:=hS.obj id _ L ho hL
 have hvs : dF w (OO B σ μ) μ [x] [v]:=by simp only [dF];exact ⟨v,[],rfl,hx,rfl⟩
 have e1 : w.setCell ⟨L.block,L.base,none⟩ v=w.setCells L.block (L.base+0) [v]:=rfl
 rw [e1]
 obtain ⟨f1,f2,f3,f4,f5⟩:=fK w L.block (L.base+0) [v]
 have hfit : 0+[x].length≤[x0].length:=by simp
 have:=hS.turn ho rfl hL (o':=.own (splice [x0] 0 [x])) rfl f2 f1 f3 f4 f5 (fun hE=>by
  obtain ⟨c',h1,h2⟩:=fJ w L.block [v] (L.base+0) c e hh
  exact ⟨⟨c',e,h1,by rw [h2];exact hroom⟩,by rw [lJ hfit];exact hlen,rU hE hcs hvs hfit⟩)
 have e2 : splice [x0] 0 [x]=[x]:=rfl
 rw [e2] at this
 exact ⟨this.2,this.1⟩
theorem BO {w : World} {O : Nat→Prop} {μ : List Loc} (hG : MC G0 w O μ) : w.cell? ⟨0,0,none⟩=some (.iface 222 (.agg #[.pointer (some ⟨3,50,none⟩)])):=by
 have h:=hG 0 [.ifc 222 (.agg [.raw ⟨3,50,none⟩])] rfl
 simp only [VR,VC,dF] at h
 obtain ⟨b,base,h1,_,⟨v,h2,y,rfl,a,rfl,z,zs,h3,rfl,rfl⟩,_⟩:=h
 cases h1
 have : a=#[Value.pointer (some ⟨3,50,none⟩)]:=by
  apply Array.ext'
  simpa using h3
 rw [this] at h2
 exact h2
theorem JA {B : Nat→Prop} {w : World} {σ : Store} {μ : List Loc} (hS : SR B w σ μ) {id : Nat} {x0 : VV} {L : Loc} (ho : σ[id]?=some (.own [x0])) (hL : μ[id]?=some L) : (∃ v,w.cell? ⟨L.block,L.base,none⟩=some v)∧w.frozen? ⟨L.block,L.base,none⟩=false:=by
 obtain ⟨⟨c,e,hh,hroom⟩,hlen,hc⟩:=hS.obj id _ L ho hL
 simp only [VC] at hc
 exact ⟨⟨hc.1.choose,hc.1.choose_spec.1⟩,by simp [World.frozen?,hh]⟩
theorem fM {B : Nat→Prop} {w : World} {σ : Store} {μ : List Loc} (hS : SR B w σ μ) (o : Go.Obj) : SR B (w.alloc o) σ μ∧Frame w σ μ (w.alloc o) σ μ:=by
 have hh : ∀ b,b < w.heap.size→(w.alloc o).heap[b]?=w.heap[b]?:=fun b hb=>RowKit.Below.heap_alloc w o b hb
 exact ⟨hS.still hh (by simp),.still (by simp) hh rfl rfl rfl⟩
theorem SX (cells : List VV) (id : Nat) (x0 : VV) (σ : Store) (ho : σ[id]?=some (.own [x0])) : CV Tryz.prog G0 61 [.ifc 135 (.ptr cells 0),.ifc 142 (.mptr id 0)] σ fun r σ'=>r=.ret (.bool true)∧σ'=σ.set id (.own [.ptr cells 0]):=by
 intro B w μ vs hS hG hv
 simp only [dF] at hv
 obtain ⟨ve,l1,hl1,h1,vt,l2,rfl,h2,rfl⟩:=hv
 have hvs : vs=#[ve,vt]:=by apply Array.ext';simpa using hl1
 subst hvs
 have h1':=h1
 simp only [VR] at h1 h2
 obtain ⟨ye,rfl,b,base,rfl,hO,hC⟩:=h1
 obtain ⟨yt,rfl,L,hL,rfl⟩:=h2
 obtain ⟨⟨old,hcell⟩,hfz⟩:=JA hS ho hL
 refine (callsIn_wide.2 (As.as_hit ⟨b,base+0,none⟩ ⟨L.block,L.base+0,none⟩ old w (BO hG) hcell hfz)).mono ?_
 rintro e w' ⟨rfl,rfl⟩
 obtain ⟨s1,f1⟩:=fM hS (.cells #[.pointer (some ⟨L.block,L.base+0,none⟩)] 142)
 obtain ⟨s2,f2⟩:=fM s1 (.cells #[.pointer (some ⟨3,142,none⟩),.pointer (some ⟨w.heap.size,0,none⟩),.int .u64 150] 171)
 obtain ⟨s3,f3⟩:=fM s2 (.cells #[.pointer (some ⟨3,142,none⟩),.pointer (some ⟨w.heap.size,0,none⟩),.int .u64 150] 171)
 obtain ⟨s4,f4⟩:=fM s3 (.cells #[.pointer (some ⟨b,base+0,none⟩)] 135)
 have fA:=((f1.trans f2).trans f3).trans f4
 have hx : VR _ (OO B σ μ) μ (.ptr cells 0) (.pointer (some ⟨b,base+0,none⟩)):=VR.ext fA.ext _ _ (by simp only [VR];exact ⟨b,base,rfl,hO,hC⟩)
 obtain ⟨f5,s5⟩:=Ef s4 ho hL hx rfl
 exact ⟨.ret (.bool true),_,μ,⟨rfl,rfl⟩,fA.trans f5,s5,by simp [lu,VR]⟩
theorem Pv (c : Int) (id : Nat) (x0 : VV) (σ : Store) (ho : σ[id]?=some (.own [x0])) : CV Tryz.prog G0 61 [.ifc 31 (.int .i64 c),.ifc 142 (.mptr id 0)] σ fun r σ'=>r=.ret (.bool false)∧σ'=σ:=by
 intro B w μ vs hS hG hv
 simp only [dF] at hv
 obtain ⟨ve,l1,hl1,h1,vt,l2,rfl,h2,rfl⟩:=hv
 have hvs : vs=#[ve,vt]:=by apply Array.ext';simpa using hl1
 subst hvs
 simp only [VR] at h1 h2
 obtain ⟨ye,rfl,rfl⟩:=h1
 obtain ⟨yt,rfl,L,hL,rfl⟩:=h2
 refine (callsIn_wide.2 (As.Wv (.int .i64 c) ⟨L.block,L.base+0,none⟩ w (BO hG))).mono ?_
 rintro e w' ⟨rfl,rfl⟩
 obtain ⟨s1,f1⟩:=fM hS (.cells #[.pointer (some ⟨L.block,L.base+0,none⟩)] 142)
 obtain ⟨s2,f2⟩:=fM s1 (.cells #[.pointer (some ⟨3,142,none⟩),.pointer (some ⟨w.heap.size,0,none⟩),.int .u64 150] 171)
 obtain ⟨s3,f3⟩:=fM s2 (.cells #[.pointer (some ⟨3,142,none⟩),.pointer (some ⟨w.heap.size,0,none⟩),.int .u64 150] 171)
 exact ⟨.ret (.bool false),_,μ,⟨rfl,rfl⟩,(f1.trans f2).trans f3,s3,by simp [lu,VR]⟩
theorem Oq (p c : Int) (id : Nat) (x0 : VV) (σ : Store) (ho : σ[id]?=some (.own [x0])) : CV Tryz.prog G0 61 [.ifc 135 (.ptr [.int .i64 p,.ifc 31 (.int .i64 c)] 0),.ifc 118 (.mptr id 0)] σ fun r σ'=>r=.ret (.bool true)∧σ'=σ.set id (.own [.int .i64 c]):=by
 intro B w μ vs hS hG hv
 simp only [dF] at hv
 obtain ⟨ve,l1,hl1,h1,vt,l2,rfl,h2,rfl⟩:=hv
 have hvs : vs=#[ve,vt]:=by apply Array.ext';simpa using hl1
 subst hvs
 have h1':=h1
 simp only [VR] at h1 h2
 obtain ⟨ye,rfl,b,base,rfl,hO,hC⟩:=h1
 simp only [VC,VR] at hC
 obtain ⟨_,⟨w1,hw1,w2,rfl,rfl⟩,_⟩:=hC
 obtain ⟨yt,rfl,L,hL,rfl⟩:=h2
 obtain ⟨⟨old,hcell⟩,hfz⟩:=JA hS ho hL
 refine (callsIn_wide.2 (As.Vt b (base+0) ⟨L.block,L.base+0,none⟩ c old w (BO hG) hw1 hcell hfz)).mono ?_
 rintro e w' ⟨rfl,rfl⟩
 obtain ⟨s1,f1⟩:=fM hS (.cells #[.pointer (some ⟨L.block,L.base+0,none⟩)] 118)
 obtain ⟨s2,f2⟩:=fM s1 (.cells #[.pointer (some ⟨3,118,none⟩),.pointer (some ⟨w.heap.size,0,none⟩),.int .u64 150] 171)
 obtain ⟨s3,f3⟩:=fM s2 (.cells #[.pointer (some ⟨3,118,none⟩),.pointer (some ⟨w.heap.size,0,none⟩),.int .u64 150] 171)
 obtain ⟨s4,f4⟩:=fM s3 (.cells #[.int .i64 c] 31)
 have fA:=((f1.trans f2).trans f3).trans f4
 have hx : VR (((w.alloc (.cells #[.pointer (some ⟨L.block,L.base+0,none⟩)] 118)).alloc (.cells #[.pointer (some ⟨3,118,none⟩),.pointer (some ⟨w.heap.size,0,none⟩),.int .u64 150] 171)).alloc (.cells #[.pointer (some ⟨3,118,none⟩),.pointer (some ⟨w.heap.size,0,none⟩),.int .u64 150] 171) |>.alloc (.cells #[.int .i64 c] 31)) (OO B σ μ) μ (.int .i64 c) (.int .i64 c):=by simp [VR]
 obtain ⟨f5,s5⟩:=Ef s4 ho hL hx rfl
 exact ⟨.ret (.bool true),_,μ,⟨rfl,rfl⟩,fA.trans f5,s5,by simp [lu,VR]⟩
end Go.V
namespace Go.V
open Go.Proofs
set_option maxRecDepth 100000
theorem nM {c : Int} (p : Int) (h : c≠0) : dL c p=.ifc 135 (.ptr [.int .i64 p,.ifc 31 (.int .i64 c)] 0):=by unfold dL;rw [if_neg h]
theorem Tt (c p : Int) : PV Tryz.prog G0 38 [dL c p] (.int .i64 c):=by
 by_cases hc : c=0
 ·subst hc
  have : dL 0 p=.nili:=rfl
  rw [this]
  refine pv e38 (by simp) rfl rfl ?_
  simp only [go_sem,seval,c38]
  exact fin (by rfl) rfl
 ·rw [nM p hc]
  refine pv e38 (by simp) rfl rfl ?_
  simp only [go_sem,seval,c38]
  refine CV.mono (Oq p c 0 (.int .i64 0) _ rfl) ?_
  rintro _ σ' ⟨rfl,rfl⟩
  simp only [go_sem,seval,aO]
  exact fin (by rfl) rfl
theorem FY {t tx e : TypeId} {k by_ : Nat} {z : List VV} {σ : Store} {ys : List (List VV)} {x : VV} (ht : jh Tryz.prog t=some e) (hk : fV Tryz.prog e=some k) (hy : zZ Tryz.prog e=some by_) (hz : bU Tryz.prog e=some z) (hzk : z.length=k) (hk0 : 0 < k) (hb : by_≤1000)
  (hC : dS k ys) (hl : ys.length≤1000000) (hne : ys≠[]) (hx : aJ Tryz.prog σ k tx x=some (ys.length,ys.flatten))
  {d : Nat} {r : List VO} {Q : Out→Env→Store→Prop} {ρ : Env} (h : dQ Tryz.prog G0 r Q ((d,.dP σ.length 0 ys.length k)::ρ) (σ++[.own ys.flatten])) :
  eU Tryz.prog G0 (cu Tryz.prog t tx .nils x σ) (some d) r Q ρ:=by
 have h0 : ys.length≠0:=by simpa using hne
 simp only [cu,ht,hk,hy,hz,hx,if_neg h0]
 have:=Nat.mul_le_mul hl hb
 exact ⟨⟨by omega,Nat.le_trans (by rw [Nat.zero_add];exact this) (by decide),hC.flat,hk0,hC.xq,hzk⟩,h⟩
theorem JF : PV Tryz.prog G0 49 [.nili] .nils:=by
 refine pv e49 (by simp) rfl rfl ?_
 simp only [go_sem,seval,c49]
 refine dI ?_
 simp only [go_sem,seval]
 exact fin (by rfl) rfl
theorem Wn (c p : Int) (hc : c≠0) : PV Tryz.prog G0 49 [dL c p] (.sl 1 [.int .i64 p] false):=by
 rw [nM p hc]
 refine pv e49 (by simp) rfl rfl ?_
 simp only [go_sem,seval,c49]
 refine dI ?_
 simp only [go_sem,seval]
 refine CV.mono (SX _ 0 .nilp _ rfl) ?_
 rintro _ σ' ⟨rfl,rfl⟩
 simp only [go_sem,seval,aO]
 have hB : dS 1 [[VV.int .i64 p]]:=dS.one rfl rfl
 refine FY (ys:=[[.int .i64 p]]) Ir WA Vd OB rfl (by decide) (by decide) hB (by simp) (by simp) ((fH.sl (k:=1) [[.int .i64 p]] true hB).src Ir) ?_
 simp only [go_sem,seval]
 refine dI ?_
 simp only [go_sem,seval]
 refine CV.mono (Pv c 0 _ _ rfl) ?_
 rintro _ σ' ⟨rfl,rfl⟩
 simp only [go_sem,seval,aO]
 exact ⟨_,1,rfl,CJ (xs:=[[.int .i64 p]]) rfl hB rfl⟩
theorem KZ : PV Tryz.prog G0 21 [.nili] (.tup [.int .i64 0,.bool false]):=by
 refine pv e21 (by simp) rfl rfl ?_
 simp only [go_sem,seval,c21]
 refine ah (JF) ?_<;>simp only [go_sem,seval]
 exact fin (by rfl) rfl
theorem Zk (c p : Int) (hc : c≠0) : PV Tryz.prog G0 21 [dL c p] (.tup [.int .i64 p,.bool true]):=by
 have hW:=Wn c p hc
 rw [nM p hc] at hW ⊢
 refine pv e21 (by simp) rfl rfl ?_
 simp only [go_sem,seval,c21]
 refine ah (hW) ?_<;>simp only [go_sem,seval]
 exact fin (by rfl) rfl
theorem XZ (c p a e : Int) : PV Tryz.prog G0 25 [dL c p,.int .i64 a,.int .i64 e] (.bool (if c=0 then e == 0 else c == e && p == a)):=by
 refine pv e25 (by simp) (by simp [VV.ak,VV.isPure,mg]) rfl ?_
 by_cases he : e=0
 ·subst he
  by_cases hc : c=0
  ·subst hc
   have : dL 0 p=.nili:=rfl
   rw [this]
   simp only [go_sem,seval,c25]
   exact fin (by rfl) rfl
  ·rw [nM p hc,if_neg hc]
   have b : (c == (0 : Int))=false:=by simpa using hc
   simp only [go_sem,seval,c25]
   refine fin (by rfl) ?_
   rw [b];rfl
 ·have b1 : (e == 0)=false:=by simpa using he
  by_cases hc : c=0
  ·subst hc
   have : dL 0 p=.nili:=rfl
   rw [this]
   have hCo:=Tt 0 p
   rw [this] at hCo
   simp only [go_sem,seval,c25,b1]
   refine ah (KZ) ?_<;>simp only [go_sem,seval]
   exact fin (by rfl) rfl
  ·have hL:=Zk c p hc
   have hCo:=Tt c p
   rw [nM p hc] at hL hCo ⊢
   rw [if_neg hc]
   simp only [go_sem,seval,c25,b1]
   refine ah (hL) ?_<;>simp only [go_sem,seval]
   refine ah (hCo) ?_<;>simp only [go_sem,seval]
   cases h1 : c == e with
   | false =>
    simp only [go_sem,seval,h1]
    exact fin (by rfl) rfl
   | true =>
    simp only [go_sem,seval,h1]
    exact fin (by rfl) rfl
end Go.V
namespace Go.V
open Go.Proofs
set_option maxRecDepth 100000
def pc (m x : Nat) : Nat:=((List.range m).filter (fun i=>x.testBit i)).length
theorem GL (a b x : Nat) : pc (a+b) x=pc a x+pc b (x / 2 ^ a):=by
 unfold pc
 rw [List.range_add,List.filter_append,List.length_append,List.filter_map,List.length_map]
 congr 3
 funext i
 simp only [Function.comp,Nat.testBit_div_two_pow]
 congr 1
 omega
theorem FX (m x : Nat) : pc m (x % 2 ^ m)=pc m x:=by
 unfold pc
 congr 1
 refine List.filter_congr fun i hi=>?_
 rw [Nat.testBit_mod_two_pow]
 simp [List.mem_range.1 hi]
theorem MQ (m x : Nat) : pc m x≤m:=by
 unfold pc
 exact Nat.le_trans (List.length_filter_le _ _) (by simp)
theorem pc32 (x : Nat) : pc 32 x=pc 8 (x / 16777216)+pc 8 (x / 65536 % 256)+pc 8 (x / 256 % 256)+pc 8 (x % 256):=by
 have h1 : pc 32 x=pc 8 x+pc 24 (x / 256):=GL 8 24 x
 have h2 : pc 24 (x / 256)=pc 8 (x / 256)+pc 16 (x / 256 / 256):=GL 8 16 (x / 256)
 have h3 : pc 16 (x / 256 / 256)=pc 8 (x / 256 / 256)+pc 8 (x / 256 / 256 / 256):=GL 8 8 (x / 256 / 256)
 have m1 : pc 8 (x % 256)=pc 8 x:=FX 8 x
 have m2 : pc 8 (x / 256 % 256)=pc 8 (x / 256):=FX 8 (x / 256)
 have m3 : pc 8 (x / 65536 % 256)=pc 8 (x / 65536):=FX 8 (x / 65536)
 have e1 : x / 256 / 256=x / 65536:=by rw [Nat.div_div_eq_div_mul]
 have e2 : x / 65536 / 256=x / 16777216:=by rw [Nat.div_div_eq_div_mul]
 rw [e1] at h2 h3
 rw [e2] at h3
 omega
def AV : List UInt8:=[0,1,1,2,1,2,2,3,1,2,2,3,2,3,3,4,1,2,2,3,2,3,3,4,2,3,3,4,3,4,4,5,1,2,2,3,2,3,3,4,2,3,3,4,3,4,4,5,2,3,3,4,3,4,4,5,3,4,4,5,4,5,5,6,1,2,2,3,2,3,3,4,2,3,3,4,3,4,4,5,2,3,3,4,3,4,4,5,3,4,4,5,4,5,5,6,2,3,3,4,3,4,4,5,3,4,4,5,4,5,5,6,3,4,4,5,4,5,5,6,4,5,5,6,5,6,6,7,1,2,2,3,2,3,3,4,2,3,3,4,3,4,4,5,2,3,3,4,3,4,4,5,3,4,4,5,4,5,5,6,2,3,3,4,3,4,4,5,3,4,4,5,4,5,5,6,3,4,4,5,4,5,5,6,4,5,5,6,5,6,6,7,2,3,3,4,3,4,4,5,3,4,4,5,4,5,5,6,3,4,4,5,4,5,5,6,4,5,5,6,5,6,6,7,3,4,4,5,4,5,5,6,4,5,5,6,5,6,6,7,4,5,5,6,5,6,6,7,5,6,6,7,6,7,7,8]
theorem WQ : ∀ n,n < 256→(AV.getD n 0).toNat=pc 8 n:=by decide +kernel
theorem fdN (x k : Nat) (hk : k≤32) : Int.fdiv (x : Int) (2 ^ min k 32)=((x / 2 ^ k : Nat) : Int):=by
 rw [Nat.min_eq_left hk,Int.fdiv_eq_ediv_of_nonneg _ (by exact Int.le_of_lt (Int.pow_pos (by decide)))]
 norm_cast
theorem Zc (n : Nat) (hn : n < 4294967296) : IntKind.u32.wrap ↑(BitVec.ofInt 32 (n : Int) &&& 255#32).toNat=((n % 256 : Nat) : Int):=by
 have e : (BitVec.ofInt 32 (n : Int) &&& 255#32).toNat=n % 256:=by
  rw [BitVec.toNat_and,BitVec.toNat_ofInt]
  have h1 : ((n : Int) % ((2 ^ 32 : Nat) : Int)).toNat=n:=by omega
  rw [h1]
  exact Nat.and_two_pow_sub_one_eq_mod n 8
 rw [e,Jl];omega
theorem Yi (x : Nat) (hx : x < 4294967296) : PV Tryz.prog G0 202 [.int .u32 x] (.int .i64 (pc 32 x : Nat)):=by
 refine pv e202 (by simp) rfl rfl ?_
 have f1 : Int.fdiv (x : Int) (2 ^ min 24 32)=((x / 16777216 : Nat) : Int):=fdN x 24 (by decide)
 have f2 : Int.fdiv (x : Int) (2 ^ min 16 32)=((x / 65536 : Nat) : Int):=fdN x 16 (by decide)
 have f3 : Int.fdiv (x : Int) (2 ^ min 8 32)=((x / 256 : Nat) : Int):=fdN x 8 (by decide)
 have g2:=Zc (x / 65536) (by omega)
 have g3:=Zc (x / 256) (by omega)
 have g4:=Zc x hx
 have t1:=WQ (x / 16777216) (by omega)
 have t2:=WQ (x / 65536 % 256) (by omega)
 have t3:=WQ (x / 256 % 256) (by omega)
 have t4:=WQ (x % 256) (by omega)
 have l1:=MQ 8 (x / 16777216)
 have l2:=MQ 8 (x / 65536 % 256)
 have l3:=MQ 8 (x / 256 % 256)
 have l4:=MQ 8 (x % 256)
 have b1 : (((x / 16777216 : Nat) : Int)).toNat=x / 16777216:=by omega
 have key : IntKind.i64.wrap (IntKind.u8.wrap (IntKind.u8.wrap (IntKind.u8.wrap ((((AV.getD (x / 16777216) 0).toNat : Nat) : Int)+(((AV.getD (IntKind.u32.wrap ↑(BitVec.ofInt 32 ((x / 65536 : Nat) : Int) &&& 255#32).toNat).toNat 0).toNat : Nat) : Int))+(((AV.getD (IntKind.u32.wrap ↑(BitVec.ofInt 32 ((x / 256 : Nat) : Int) &&& 255#32).toNat).toNat 0).toNat : Nat) : Int))+(((AV.getD (IntKind.u32.wrap ↑(BitVec.ofInt 32 (x : Int) &&& 255#32).toNat).toNat 0).toNat : Nat) : Int)))=((pc 32 x : Nat) : Int):=by
  rw [g2,g3,g4,Int.toNat_natCast,Int.toNat_natCast,Int.toNat_natCast,t1,t2,t3,t4,pc32]
  clear t1 t2 t3 t4
  generalize pc 8 (x / 16777216)=a at *
  generalize pc 8 (x / 65536 % 256)=b at *
  generalize pc 8 (x / 256 % 256)=c at *
  generalize pc 8 (x % 256)=d at *
  have w1 : IntKind.u8.wrap ((a : Int)+b)=((a+b : Nat) : Int):=by rw [bw (by omega)];omega
  have w2 : IntKind.u8.wrap (((a+b : Nat) : Int)+c)=((a+b+c : Nat) : Int):=by rw [bw (by omega)];omega
  have w3 : IntKind.u8.wrap (((a+b+c : Nat) : Int)+d)=((a+b+c+d : Nat) : Int):=by rw [bw (by omega)];omega
  rw [w1,w2,w3,iw (by omega)]
 have k2 : IntKind.u32.wrap ↑(BitVec.ofInt 32 ((x / 65536 : Nat) : Int) &&& 255#32).toNat < 256:=by rw [g2];omega
 have k3 : IntKind.u32.wrap ↑(BitVec.ofInt 32 ((x / 256 : Nat) : Int) &&& 255#32).toNat < 256:=by rw [g3];omega
 have k4 : IntKind.u32.wrap ↑(BitVec.ofInt 32 (x : Int) &&& 255#32).toNat < 256:=by rw [g4];omega
 simp only [go_sem,seval,c202,f1,f2,f3,b1,List.append_eq]
 refine ⟨⟨by omega,by omega⟩,k2,k3,k4, ?_⟩
 refine fin (by rfl) ?_
 exact congrArg (VV.int .i64) key
end Go.V
namespace Go.V
open Go.Proofs
set_option maxRecDepth 100000
theorem Vb (m : Nat) : pc m 0=0:=by
 unfold pc
 rw [List.length_eq_zero_iff,List.filter_eq_nil_iff]
 simp
theorem YG (i x : Nat) (hi : i≤32) : pc 32 (x % 2 ^ i)=pc i x:=by
 have h:=GL i (32-i) (x % 2 ^ i)
 rw [show i+(32-i)=32 by omega,Nat.div_eq_of_lt (Nat.mod_lt _ (Nat.two_pow_pos i)),Vb,FX] at h
 omega
theorem aat (x i : Nat) (hx : x < 4294967296) (hi : i < 32) : IntKind.u32.wrap ↑(BitVec.ofInt 32 (x : Int) &&& BitVec.ofInt 32 (IntKind.u32.wrap (IntKind.u32.wrap (1*2 ^ min (IntKind.u64.wrap (i : Int)).toNat 32)-1))).toNat=((x % 2 ^ i : Nat) : Int):=by
 have h1 : (IntKind.u64.wrap (i : Int)).toNat=i:=by rw [uw (by omega)];omega
 have h2 : (2 : Int) ^ i=((2 ^ i : Nat) : Int):=by norm_cast
 have h3 : 2 ^ i < 2 ^ 32:=Nat.pow_lt_pow_right (by decide) hi
 have h4 : 0 < 2 ^ i:=Nat.two_pow_pos i
 rw [h1,Nat.min_eq_left (by omega),h2,Int.one_mul]
 have h5 : IntKind.u32.wrap ((2 ^ i : Nat) : Int)=((2 ^ i : Nat) : Int):=by rw [Jl];omega
 have h6 : IntKind.u32.wrap (((2 ^ i : Nat) : Int)-1)=((2 ^ i-1 : Nat) : Int):=by rw [Jl];omega
 rw [h5,h6,BitVec.toNat_and,BitVec.toNat_ofInt,BitVec.toNat_ofInt]
 have h7 : ((x : Int) % ((2 ^ 32 : Nat) : Int)).toNat=x:=by omega
 have h8 : (((2 ^ i-1 : Nat) : Int) % ((2 ^ 32 : Nat) : Int)).toNat=2 ^ i-1:=by omega
 rw [h7,h8,Nat.and_two_pow_sub_one_eq_mod,Jl]
 have:=Nat.mod_lt x h4
 omega
theorem QU (x i : Nat) (l : VV) (hx : x < 4294967296) (hi : i < 32) (hp : l.isPure=true) (hc : l.aF=true) : PV Tryz.prog G0 191 [.agg [.int .u32 x,l],.int .i64 i] (.int .i64 (pc i x : Nat)):=by
 have hO : PV Tryz.prog G0 202 [.int .u32 (IntKind.u32.wrap ↑(BitVec.ofInt 32 (x : Int) &&& BitVec.ofInt 32 (IntKind.u32.wrap (IntKind.u32.wrap (1*2 ^ min (IntKind.u64.wrap (i : Int)).toNat 32)-1))).toNat)] (.int .i64 (pc i x : Nat)):=by
  rw [aat x i hx hi,← YG i x (by omega)]
  exact Yi _ (Nat.lt_of_le_of_lt (Nat.mod_le _ _) hx)
 refine pv e191 (by simp) (by simp [VV.ak,VV.isPure,hp]) rfl ?_
 simp only [go_sem,seval] at hc
 simp only [go_sem,seval,c191,hc]
 refine ah (hO) ?_<;>simp only [go_sem,seval]
 exact fin (by rfl) rfl
theorem aa5 (x i : Nat) (hx : x < 4294967296) (hi : i < 32) : (IntKind.u32.wrap ↑(BitVec.ofInt 32 (Int.fdiv (x : Int) (2 ^ min (IntKind.u64.wrap (i : Int)).toNat 32)) &&& 1#32).toNat == 1)=x.testBit i:=by
 have h1 : (IntKind.u64.wrap (i : Int)).toNat=i:=by rw [uw (by omega)];omega
 rw [h1,fdN x i (by omega),BitVec.toNat_and,BitVec.toNat_ofInt]
 have h2 : x / 2 ^ i < 4294967296:=Nat.lt_of_le_of_lt (Nat.div_le_self _ _) hx
 have h3 : (((x / 2 ^ i : Nat) : Int) % ((2 ^ 32 : Nat) : Int)).toNat=x / 2 ^ i:=by generalize x / 2 ^ i=n at *;omega
 have h4 : (x / 2 ^ i) &&& (1#32).toNat=x / 2 ^ i % 2:=Nat.and_two_pow_sub_one_eq_mod (x / 2 ^ i) 1
 rw [h3,h4,Jl,Nat.testBit_eq_decide_div_mod_eq]
 rcases Nat.mod_two_eq_zero_or_one (x / 2 ^ i) with h | h<;>rw [h]<;>rfl
theorem Qz (x i : Nat) (l : VV) (hx : x < 4294967296) (hi : i < 32) (hp : l.isPure=true) (hc : l.aF=true) : PV Tryz.prog G0 190 [.agg [.int .u32 x,l],.int .i64 i] (.bool (x.testBit i)):=by
 refine pv e190 (by simp) (by simp [VV.ak,VV.isPure,hp]) rfl ?_
 simp only [go_sem,seval] at hc
 have b1 : decide ((i : Int) < 32)=true:=decide_eq_true (by omega)
 have b2 : decide ((0 : Int)≤i)=true:=decide_eq_true (by omega)
 simp only [go_sem,seval,c190,hc,b1,b2]
 refine fin (by rfl) ?_
 exact congrArg VV.bool (aa5 x i hx hi)
def slotsOf (f : Nat→Option (List VV)) : List (List VV):=(List.range 32).filterMap f
structure mP (f : Nat→Option (List VV)) (x : Nat) (l : VV) : Prop where
 lt : x < 4294967296
 bit : ∀ i,i < 32→x.testBit i=(f i).isSome
 sl : fH 13 l (slotsOf f)
theorem fH.cell {k : Nat} {v : VV} {xs : List (List VV)} (h : fH k v xs) : v.aF=true:=by cases h<;>rfl
theorem mP.rank {f : Nat→Option (List VV)} {x : Nat} {l : VV} (h : mP f x l) {i : Nat} (hi : i≤32) : pc i x=((List.range i).filterMap f).length:=by
 unfold pc
 have e : (List.range i).filter (fun j=>x.testBit j)=(List.range i).filter (fun j=>(f j).isSome) :=
  List.filter_congr fun j hj=>h.bit j (by have:=List.mem_range.1 hj;omega)
 rw [e]
 have key : ∀ l : List Nat,(l.filter (fun j=>(f j).isSome)).length=(l.filterMap f).length:=by
  intro l
  induction l with
  | nil=>rfl
  | cons a l ih =>
   cases ha : f a with
   | none=>rw [List.filter_cons_of_neg (by simp [ha]),List.filterMap_cons_none ha,ih]
   | some b=>rw [List.filter_cons_of_pos (by simp [ha]),List.filterMap_cons_some ha,List.length_cons,List.length_cons,ih]
 exact key _
theorem oz (f : Nat→Option (List VV)) {i : Nat} (hi : i < 32) : slotsOf f=(List.range i).filterMap f++((f i).toList++(((List.range (31-i)).map (i+1+·)).filterMap f)):=by
 unfold slotsOf
 have e : List.range 32=List.range i++([i]++(List.range (31-i)).map (i+1+·)):=by
  have h1:=List.range_add (n:=i) (m:=32-i)
  rw [show i+(32-i)=32 by omega] at h1
  rw [h1,show 32-i=(31-i)+1 by omega,List.range_succ_eq_map,List.map_cons,List.map_map]
  congr 1
  simp only [List.cons_append,List.nil_append,Nat.add_zero]
  congr 1
  refine List.map_congr_left fun a _=>?_
  simp only [Function.comp];omega
 rw [e,List.filterMap_append,List.filterMap_append]
 congr 2
theorem mP.get {f : Nat→Option (List VV)} {x : Nat} {l : VV} (h : mP f x l) {i : Nat} (hi : i < 32) {s : List VV} (hs : f i=some s) : pc i x < (slotsOf f).length∧∀ hh : pc i x < (slotsOf f).length,(slotsOf f)[pc i x]=s:=by
 have e:=oz f hi
 rw [hs] at e
 have hr:=h.rank (i:=i) (by omega)
 constructor
 ·rw [e,hr];simp
 ·intro hh
  simp only [e,hr]
  rw [List.getElem_append_right (Nat.le_refl _)]
  simp
def fQ : List VV:=.str []::(Vl.zero.cells++[.nilp])
theorem uQ (f : Nat→Option (List VV)) (x : Nat) (l : VV) (h : mP f x l) (i : Nat) (hi : i < 32) (hf : f i=none) : PV Tryz.prog G0 164 [.agg [.int .u32 x,l],.int .i64 i] (.tup [.agg fQ,.bool false]):=by
 have hb:=h.bit i hi
 rw [hf] at hb
 have hH:=Qz x i l h.lt hi h.sl.pure h.sl.cell
 rw [hb] at hH
 refine pv e164 (by simp) (by simp [VV.ak,VV.isPure,h.sl.pure]) rfl ?_
 have hc:=h.sl.cell
 simp only [go_sem,seval] at hc
 simp only [go_sem,seval,c164,hc]
 refine ah (hH) ?_<;>simp only [go_sem,seval,hc,Option.isSome_none,Bool.not_false]
 exact fin (by rfl) rfl
theorem lQ (f : Nat→Option (List VV)) (x : Nat) (l : VV) (h : mP f x l) (i : Nat) (hi : i < 32) (s : List VV) (hf : f i=some s) : PV Tryz.prog G0 164 [.agg [.int .u32 x,l],.int .i64 i] (.tup [.agg s,.bool true]):=by
 have hb:=h.bit i hi
 rw [hf] at hb
 have hH:=Qz x i l h.lt hi h.sl.pure h.sl.cell
 rw [hb] at hH
 have hK:=QU x i l h.lt hi h.sl.pure h.sl.cell
 obtain ⟨h1,h2⟩:=h.get hi hf
 have h2:=h2 h1
 have hB:=h.sl.blk
 have hg:=hB.wG h1
 rw [h2] at hg
 have hsp : VV.ak s=true:=by rw [← h2];exact hB.pure _ (List.getElem_mem _)
 have hsc : s.all VV.aF=true:=by rw [← h2];exact hB.cell _ (List.getElem_mem _)
 have hsl : s.length=13:=by rw [← h2];exact hB.len _ (List.getElem_mem _)
 obtain ⟨t,rfl⟩:=h.sl.iO (by intro e;rw [e] at h1;simp at h1)
 refine pv e164 (by simp) (by simp [VV.ak,VV.isPure,hB.rE]) (by simp [VV.ak,VV.isPure,hsp]) ?_
 have c1 : (0 : Int)≤(pc i x : Int):=by omega
 have c2 : (pc i x : Int) < ((slotsOf f).length : Int):=by omega
 have c3 : pc i x*13+13≤(slotsOf f).flatten.length:=by rw [hB.flat];omega
 have c4 : s.take 13=s:=List.take_of_length_le (by omega)
 simp only [go_sem,seval,c164]
 refine ah (hH) ?_<;>simp only [go_sem,seval]
 refine aC (hK) (by simp only [go_sem,seval,Int.toNat_natCast,c1,c2,c3,c4,hg,hsl,hsc]) ?_<;>simp only [go_sem,seval,Int.toNat_natCast,c1,c2,c3,c4,hg,hsl,hsc]
 exact fin (by simp [VV.ak,VV.isPure,hsp]) rfl
end Go.V
