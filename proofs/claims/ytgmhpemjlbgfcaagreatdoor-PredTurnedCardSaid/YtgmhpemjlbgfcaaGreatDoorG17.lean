/- Texts B0 F1 F2 F3 F5 F6 F8 B1 F9 F12 F14 F15 F16 F17. -/
import Derived.IntWalk
import Derived.Test.YtgmhpemjlbgfcaaGreatDoorG15
import Derived.Test.YtgmhpemjlbgfcaaGreatDoorG16
set_option linter.unusedVariables false
set_option linter.unusedSimpArgs false
namespace Go.V
open Go.Proofs
abbrev Bs:=List UInt8
def wE : List (List UInt8):=[[46,46],[61,61],[33,61],[60,61],[62,61],[38,38],[124,124],[91],[93],[123],[125],[60],[62],[40],[41],[44],[58],[46],[42],[63],[33],[36],[64]]
def jX : List Int:=[0,1,28,2,29,14,24,3,30,22,20,15,25,17,4,8,31,27,13,23,21,19,16,7,26,12,18,6,11,5,10,9]
def KN : List (List UInt8):=[[61,61],[33,61],[60],[60,61],[62],[62,61]]
def predNames : List (List UInt8):=[[110,117,108,108],[98,111,111,108],[105,110,116],[116,101,120,116],[118,101,99],[109,97,112],[115,101,116]]
def G0 (g : Nat) : Option (List VV):=if g=3 then some (wE.map .str) else if g=4 then some (jX.map fun n=>.int .u8 n) else if g=2 then some [.ifc 282 (.agg [.raw ⟨5,34,none⟩])] else if g=0 then some (KN.map .str) else if g=1 then some (predNames.map .str) else none
theorem XP : Jw G0:=by
 intro g cells h
 unfold G0 at h
 split at h
 ·cases h;decide
 ·split at h
  ·cases h;decide
  ·split at h
   ·cases h;rfl
   ·split at h
    ·cases h;decide
    ·split at h
     ·cases h;decide
     ·cases h
theorem pv {f : FuncId} {F : VG} {ys : List VV} {x : VV} (hf : dU Tryz.prog lab f=some F) (hn : ys.length≤F.n) (hp : VV.ak ys=true) (hx : x.isPure=true)
  (h : iO Tryz.prog G0 F.code (rO Tryz.prog F.res fun r σ=>∃ y n,r=.ret y∧fz n (σ.map Obj.fr) y=some x) (dH 0 ys) []) : PV Tryz.prog G0 f ys x :=
 Wp XP mix hf hn hp hx h
theorem cv {f : FuncId} {F : VG} {xs : List VV} {σ : Store} {R : gY→Store→Prop} (hf : dU Tryz.prog lab f=some F) (hn : xs.length≤F.n)
  (h : iO Tryz.prog G0 F.code (rO Tryz.prog F.res R) (dH 0 xs) σ) : CV Tryz.prog G0 f xs σ R:=Ef mix hf hn h
theorem fin {σ : Store} {x y : VV} (h : x.isPure=true) (e : y=x) : ∃ z n,gY.ret y=gY.ret z∧fz n σ z=some x:=⟨y,0,rfl,by rw [e];exact qY h⟩
theorem Vr (n : Int) : IntKind.u8.wrap n=n % 256:=by simp [IntKind.wrap,IntKind.bits,IntKind.signed]
theorem DX (n : Int) : IntKind.u32.wrap n=n % 4294967296:=by simp [IntKind.wrap,IntKind.bits,IntKind.signed]
theorem wu64 (n : Int) : IntKind.u64.wrap n=n % 18446744073709551616:=by simp [IntKind.wrap,IntKind.bits,IntKind.signed]
theorem XC (n : Int) : IntKind.i64.wrap n=(n+9223372036854775808) % 18446744073709551616-9223372036854775808:=by
 rw [IntKind.wrap_i64]
theorem iw {n : Int} (h : -9223372036854775808≤n∧n≤9223372036854775807) : IntKind.i64.wrap n=n:=by rw [XC];omega
theorem uw {n : Int} (h : 0≤n∧n < 18446744073709551616) : IntKind.u64.wrap n=n:=by rw [wu64];omega
theorem bw {n : Int} (h : 0≤n∧n < 256) : IntKind.u8.wrap n=n:=by rw [Vr];omega
theorem Tn (m k : Nat) : Int.tdiv (m : Int) (k : Int)=((m / k : Nat) : Int):=rfl
theorem jR (s : Bs) : bytesOf (s.map aU)=some s:=by
 unfold bytesOf
 induction s with
 | nil=>rfl
 | cons b s ih =>
  simp only [List.map_cons,List.mapM_cons,ih,aU]
  simp
theorem cellOf (n : Int) (h : 0≤n∧n < 256) : VV.int .u8 n=aU (UInt8.ofNat n.toNat):=by
 simp only [aU,VV.int.injEq,true_and]
 rw [UInt8.toNat_ofNat']
 omega
theorem Wj (m : Nat) (h : m < 256) : VV.int .u8 (m : Int)=aU (UInt8.ofNat m):=by
 rw [cellOf _ (by omega)];simp
theorem iV (s : Bs) : aQ (s.map aU)=true:=by
 simp [aQ,aU,VV.aC]
attribute [go_sem] rep ne_eq not_true_eq_false or_self or_false false_or not_false_eq_true gt_iff_lt or_true true_or and_self ge_iff_le
attribute [go_sem] List.mem_cons List.not_mem_nil List.mem_singleton
attribute [go_sem] decide_true decide_false Option.some.injEq exists_eq_left'
@[go_sem] theorem X0 : IntKind.i64.wrap 0=0:=by decide
@[go_sem] theorem XU : IntKind.i64.wrap 1=1:=by decide
@[go_sem] theorem XT : IntKind.i64.wrap 2=2:=by decide
@[go_sem] theorem XW : IntKind.i64.wrap 3=3:=by decide
@[go_sem] theorem XZ : IntKind.i64.wrap 4=4:=by decide
@[go_sem] theorem X6 : IntKind.i64.wrap 5=5:=by decide
@[go_sem] theorem X5 : IntKind.i64.wrap 6=6:=by decide
attribute [go_sem] bounds Option.isSome_some Option.isSome_none Option.getD_some Option.getD_none
attribute [go_sem] VV.isPure VV.ak
end Go.V
namespace Go.V
open Go.Proofs
set_option maxRecDepth 100000
def blank (n : Int) : Bool:=n == 32 || n == 9 || n == 10 || n == 13
def MN (n : Int) : Bool:=(decide (97≤n) && decide (n≤122)) || (decide (65≤n) && decide (n≤90)) || n == 95
def isDigit (n : Int) : Bool:=decide (48≤n) && decide (n≤57)
def kU (m : Nat) : Bs:=if m < 10 then [UInt8.ofNat (48+m)] else kU (m / 10)++[UInt8.ofNat (48+m % 10)]
def TS (n : Int) : Bs:=if n < 0 then 45::kU n.natAbs else kU n.natAbs
theorem CU (m k : Nat) (h : m < 10 ^ (k+1)) : (kU m).length≤k+1:=by
 induction k generalizing m with
 | zero=>unfold kU;rw [if_pos (by omega)];simp
 | succ k ih =>
  unfold kU
  split
  ·simp
  ·have:=ih (m / 10) (by rw [Nat.pow_succ] at h;omega)
   simp;omega
end Go.V
namespace Go.V
open Go.Proofs
set_option maxRecDepth 100000
def Ws (n : Nat) : UInt8:=if n < 10 then UInt8.ofNat (48+n) else UInt8.ofNat (87+n)
def BX (c : UInt8) : Bs :=
 if c.toNat=34∨c.toNat=92 then [92,c] else if c.toNat=10 then [92,110] else if c.toNat=9 then [92,116] else if c.toNat=13 then [92,114]
 else if c.toNat < 32∨126 < c.toNat then [92,120,Ws (c.toNat / 16),Ws (c.toNat % 16)] else [c]
def BH (s : Bs) : Bs:=34::(s.flatMap BX++[34])
def lU (σ : Store) (v : VV) (b : Bs) : Prop :=
 (v=.nils∧b=[])∨v=.sl b.length (b.map aU) true∨∃ id,v=.bZ id 0 b.length 1∧σ[id]?=some (.own (b.map aU))
def Kept (σ : Store) (v : VV) (σ' : Store) : Prop:=σ.length≤σ'.length∧∀ j,j < σ.length→(∀ o n z,v≠.bZ j o n z)→σ'[j]?=σ[j]?
theorem Kept.rfl {σ : Store} {v : VV} : Kept σ v σ:=⟨Nat.le_refl _,fun _ _ _=>Eq.refl _⟩
theorem lU.conv {σ : Store} {v : VV} {b : Bs} (h : lU σ v b) : eY Tryz.prog 173 9 v σ=some ⟨True,.str b,σ⟩:=by
 rcases h with ⟨rfl,rfl⟩ | rfl | ⟨id,rfl,h⟩
 ·simp only [go_sem,seval,bytesOf];rfl
 ·simp only [go_sem,seval,List.length_map,Nat.mul_one,jR]
 ·simp only [go_sem,seval,h,List.length_map,Nat.mul_one,Nat.zero_add,Nat.le_refl,jR]
  rw [List.take_of_length_le (by simp),jR]
  rfl
theorem nX {P : Program} {σ : Store} {t : TypeId} {s : Bs} (h : ji P t=true) : aJ P σ 1 t (.str s)=some (s.length,s.map aU):=by simp [aJ,h]
theorem lU.src {P : Program} {σ : Store} {t e : TypeId} {v : VV} {b : Bs} (hB : lU σ v b) (h : iF P t=some e) : aJ P σ 1 t v=some (b.length,b.map aU):=by
 rcases hB with ⟨rfl,rfl⟩ | rfl | ⟨id,rfl,hid⟩
 ·simp [aJ,h,kK,eG]
 ·simp [aJ,h,kK,eG]
 ·simp only [aJ,h,kK,eG,dY,hid]
  rw [if_pos (by simp)]
  simp only [Nat.mul_one,List.drop_zero]
  rw [List.take_of_length_le (by simp)]
theorem lU.append {σ : Store} {v x : VV} {b c : Bs} {tx : TypeId} (hB : lU σ v b) (hx : aJ Tryz.prog σ 1 tx x=some (c.length,c.map aU)) (hl : b.length+c.length≤1000000000) :
  ∃ out,bF Tryz.prog 173 tx v x σ=some out∧out.pre∧lU out.st out.val (b++c)∧Kept σ v out.st:=by
 have ht : iF Tryz.prog 173=some 5:=by kernel_rfl
 have hz : eH Tryz.prog 5=some 1:=by kernel_rfl
 have hb : Yr Tryz.prog 5=some 1:=by kernel_rfl
 have h0 : bG Tryz.prog 5=some [.int .u8 0]:=by kernel_rfl
 unfold bF
 simp only [ht,hz,hb,h0,hx]
 have hnew : ∀ (σ₁ : Store) (cells : List VV),cells=(b++c).map aU→lU (σ₁++[.own cells]) (.bZ σ₁.length 0 (b++c).length 1) (b++c):=fun σ₁ cells hc=>.inr (.inr ⟨σ₁.length,rfl,by simp [hc]⟩)
 rcases hB with ⟨rfl,rfl⟩ | rfl | ⟨id,rfl,hid⟩
 ·by_cases hc : c.length=0
  ·rw [if_pos hc]
   have : c=[]:=List.eq_nil_of_length_eq_zero hc
   subst this
   exact ⟨_,rfl,trivial,.inl ⟨rfl,rfl⟩,Kept.rfl⟩
  ·rw [if_neg hc]
   refine ⟨_,rfl,⟨by simp at hl;omega,by simp at hl;omega,by simp,by omega,iV _,rfl⟩, ?_,by simp,fun j hj _=>by simp [List.getElem?_append,hj]⟩
   simpa using hnew σ (c.map aU) (by simp)
 ·by_cases hc : c.length=0
  ·rw [if_pos hc]
   have : c=[]:=List.eq_nil_of_length_eq_zero hc
   subst this
   exact ⟨_,rfl,trivial,.inr (.inl (by simp)),Kept.rfl⟩
  ·simp only [if_neg hc,if_true]
   refine ⟨_,rfl,⟨⟨by omega,by omega,by simp,by omega,iV _,rfl⟩,by simp,iV _⟩, ?_,by simp,fun j hj _=>by simp [List.getElem?_append,hj]⟩
   have:=hnew σ (b.map aU++c.map aU) (by simp)
   simpa using this
 ·simp only [hid,if_true]
  have hlt : id < σ.length:=(List.getElem?_eq_some_iff.1 hid).1
  refine ⟨_,rfl,⟨⟨by omega,by omega,by simp,by omega,iV _,rfl⟩,by simp, ?_⟩, ?_,by simp,fun j hj hv=>?_⟩
  ·simp only [List.drop_zero,Nat.mul_one]
   rw [List.take_of_length_le (by simp)]
   exact iV _
  ·have e : ((b.map aU).drop 0).take (b.length*1)++c.map aU=(b++c).map aU:=by
    rw [List.drop_zero,Nat.mul_one,List.take_of_length_le (by simp),List.map_append]
   refine .inr (.inr ⟨σ.length,by simp, ?_⟩)
   simp only [e]
   rw [List.getElem?_append_right (by simp)]
   simp
  ·have hne : id≠j:=fun e=>hv 0 b.length 1 (by rw [e])
   simp only
   rw [List.getElem?_append_left (by simpa using hj),List.getElem?_set_ne hne]
end Go.V
namespace Go.V
open Go.Proofs
set_option maxRecDepth 100000
theorem lU.lC {σ : Store} {v x : VV} {b c : Bs} {tx : TypeId} (hB : lU σ v b) (hx : aJ Tryz.prog σ 1 tx x=some (c.length,c.map aU)) (hl : b.length+c.length≤1000000000)
  {d : Nat} {r : List VO} {Q : Out→Env→Store→Prop} {ρ : Env} (h : ∀ v' σ',lU σ' v' (b++c)→Kept σ v σ'→bM Tryz.prog G0 r Q ((d,v')::ρ) σ') : eF Tryz.prog G0 (bF Tryz.prog 173 tx v x σ) (some d) r Q ρ:=by
 obtain ⟨out,h1,h2,h3,h4⟩:=hB.append hx hl
 rw [h1]
 exact ⟨h2,h _ _ h3 h4⟩
theorem Dl {σ : Store} {c : Bs} {g : Bool} : aJ Tryz.prog σ 1 173 (.sl c.length (c.map aU) g)=some (c.length,c.map aU):=by
 have ht : iF Tryz.prog 173=some 5:=by kernel_rfl
 simp [aJ,ht,kK,eG]
end Go.V
namespace Go.V
open Go.Proofs
set_option maxRecDepth 100000
def X8 (c : UInt8) : Option Nat:=if 48≤c.toNat∧c.toNat≤57 then some (c.toNat-48) else if 97≤c.toNat∧c.toNat≤102 then some (c.toNat-87) else none
def Ou (c : UInt8) : Option Nat:=if 65≤c.toNat∧c.toNat≤70 then some (c.toNat-55) else X8 c
def VU (c : UInt8) : Option UInt8:=if c.toNat=34 then some 34 else if c.toNat=92 then some 92 else if c.toNat=47 then some 47 else if c.toNat=110 then some 10 else if c.toNat=116 then some 9 else if c.toNat=114 then some 13 else none
def Ji (s : Bs) (i : Nat) : Nat × Nat × Nat:=match s[i]? with
 | none=>(0,s.length,10)
 | some a=>match Ou a with
  | none=>(0,i,2)
  | some x=>match s[i+1]? with
   | none=>(0,s.length,10)
   | some b=>match Ou b with
    | none=>(0,i+1,2)
    | some y=>(16*x+y,i+2,0)
end Go.V
namespace Go.V
open Go.Proofs
set_option maxRecDepth 100000
def IU (s : Bs) : Nat→Nat→Bs→Bs × Nat × Nat
 | 0,_,_=>([],s.length,10)
 | f+1,i,out=>match s[i]? with
  | none=>([],s.length,10)
  | some c =>
   if c.toNat=34 then (out,i+1,0)
   else if c.toNat < 32 then ([],i,2)
   else if c.toNat≠92 then IU s f (i+1) (out++[c])
   else match s[i+1]? with
    | none=>([],s.length,10)
    | some d =>
     if d.toNat=120 then (if (Ji s (i+2)).2.2=0 then IU s f (i+4) (out++[UInt8.ofNat (Ji s (i+2)).1]) else ([],(Ji s (i+2)).2.1,(Ji s (i+2)).2.2))
     else match VU d with
      | none=>([],i+1,2)
      | some x=>IU s f (i+2) (out++[x])
def vJ (s : Bs) : Bs × Nat × Nat:=match s[0]? with
 | none=>([],0,10)
 | some c=>if c.toNat=34 then IU s s.length 1 [] else ([],0,2)
end Go.V
namespace Go.V
open Go.Proofs
set_option maxRecDepth 100000
def zD (e at_ : Int) : VV:=if e=0 then .nili else .ifc 151 (.ptr [.int .i64 at_,.ifc 65 (.int .i64 e)] 0)
theorem uh (e a : Int) : PV Tryz.prog G0 35 [.int .i64 e,.int .i64 a] (zD e a):=by
 refine pv e35 (by simp) rfl (by unfold zD;split<;>rfl) ?_
 simp only [go_sem,seval,c35]
 refine aG (fun h=>?_) (fun h=>?_)
 ·simp at h
  simp only [go_sem,seval]
  exact fin (by unfold zD;split<;>rfl) (by rw [zD,if_pos h])
 ·simp at h
  simp only [go_sem,seval]
  refine ⟨_,3,rfl, ?_⟩
  rw [zD,if_neg h]
  rfl
end Go.V
namespace Go.V
variable {P : Program} {G : Nat→Option (List VV)}
theorem VP {K M : Env→Store→Prop} {Q : Out→Env→Store→Prop} (h : ∀ ρ σ,M ρ σ→K ρ σ) : ∀ o ρ σ,dD M Q o ρ σ→dD K Q o ρ σ:=lS h fun _ _ _ h=>h
theorem eU {a b : aA} {Q : Out→Env→Store→Prop} {ρ : Env} {σ : Store} (M : Env→Store→Prop) (h : iO P G a (dD M Q) ρ σ) (hm : ∀ ρ σ,M ρ σ→iO P G b Q ρ σ) : iO P G (.seq a b) Q ρ σ :=
 iT a (VP hm) ρ σ h
end Go.V
namespace Go.V
open Go.Proofs
set_option maxRecDepth 100000
def JF (c : UInt8) : Bool:=decide (48≤c.toNat) && decide (c.toNat≤57)
def Dh (b : Bs) : Nat:=b.foldl (fun a c=>10*a+(c.toNat-48)) 0
def isNeg (s : Bs) : Bool:=(s.head?.map (fun c=>c.toNat == 45)).getD false
def body (s : Bs) : Bs:=if isNeg s then s.drop 1 else s
def UU (s : Bs) : Bool:=!(body s).isEmpty && !(((body s).head?.map (fun c=>c.toNat == 48)).getD false && decide (1 < s.length)) && (body s).all JF
def parseNum (s : Bs) : Int × Nat:=if UU s then (if isNeg s then (if 9223372036854775808 < Dh (body s) then (0,4) else (-(Dh (body s) : Int),0)) else if 9223372036854775807 < Dh (body s) then (0,4) else (Dh (body s),0)) else (0,2)
end Go.V
namespace Go.V
open Go.Proofs
set_option maxRecDepth 100000
def VX (s : Bs) (p : Nat) (x : Bs) : Bool:=decide (p+x.length≤s.length) && ((s.drop p).take x.length == x)
def UW (s : Bs) (p : Nat) : Option Bs:=wE.find? (VX s p)
end Go.V
namespace Go.V
open Go.Proofs
set_option maxRecDepth 100000
def UM (c : UInt8) : Bool:=MN c.toNat
def ED (c : UInt8) : Bool:=UM c || isDigit c.toNat
def TJ (c : UInt8) : Bool:=blank c.toNat
def sH (f : UInt8→Bool) (s : Bs) (p : Nat) : Nat:=p+((s.drop p).takeWhile f).length
inductive Lx where
 | tok (k a e : Nat) (n : Int) (t : Bs)
 | err (code place : Nat)
def Xp (s : Bs) (p : Nat) (c : UInt8) : Lx :=
  if c.toNat=34 then (if (vJ (s.drop p)).2.2=0 then .tok 4 p (p+(vJ (s.drop p)).2.1) 0 (vJ (s.drop p)).1 else .err (vJ (s.drop p)).2.2 (p+(vJ (s.drop p)).2.1))
  else if UM c then .tok 2 p (sH ED s (p+1)) 0 ((s.drop p).take (sH ED s (p+1)-p))
  else if c.toNat=45∨JF c=true then
   (if (parseNum ((s.drop p).take (sH JF s (p+1)-p))).2=0 then .tok 3 p (sH JF s (p+1)) (parseNum ((s.drop p).take (sH JF s (p+1)-p))).1 [] else .err (parseNum ((s.drop p).take (sH JF s (p+1)-p))).2 p)
  else match UW s p with
   | some x=>.tok 1 p (p+x.length) 0 x
   | none=>.err 2 p
def Xa (s : Bs) (p : Nat) : Lx:=match s[p]? with
 | none=>.tok 0 p p 0 []
 | some c=>Xp s p c
def Cj (s : Bs) (a : Int) : Lx:=if a < 0∨s.length < a then .err 1 0 else Xa s (sH TJ s a.toNat)
theorem zZ {id : Nat} {Q Q' : Out→Env→Store→Prop} (h : ∀ o ρ σ,Q o ρ σ→Q' o ρ σ) : ∀ o ρ σ,fD id Q o ρ σ→fD id Q' o ρ σ:=by
 intro o ρ σ hh
 cases o with
 | exit j=>rw [su] at hh ⊢;split<;>rename_i e<;>simp only [e,if_true,if_false] at hh<;>exact h _ _ _ hh
 | _=>exact h _ _ _ hh
theorem bf {P : Program} {G : Nat→Option (List VV)} {c : aA} {id : Nat} {K M : Env→Store→Prop} {Q : Out→Env→Store→Prop} {ρ : Env} {σ : Store} (hm : ∀ ρ σ,M ρ σ→K ρ σ) (h : iO P G c (fD id (dD M Q)) ρ σ) : iO P G c (fD id (dD K Q)) ρ σ :=
 iT c (zZ (VP hm)) ρ σ h
end Go.V
namespace Go.V
open Go.Proofs
set_option maxRecDepth 100000
def WG (h k : Int) : Int:=IntKind.u64.wrap ↑(BitVec.ofInt 64 (IntKind.u64.wrap (h*2 ^ min (IntKind.u64.wrap ↑(BitVec.ofInt 64 (IntKind.u64.wrap k) &&& 63#64).toNat).toNat 64)) |||
 BitVec.ofInt 64 (h.fdiv (2 ^ min (IntKind.u64.wrap (64-IntKind.u64.wrap ↑(BitVec.ofInt 64 (IntKind.u64.wrap k) &&& 63#64).toNat)).toNat 64))).toNat
theorem nJ (n : Int) : 0≤IntKind.u64.wrap n:=by rw [wu64];omega
theorem NI (h k : Int) : PV Tryz.prog G0 241 [.int .u64 h,.int .i64 k] (.int .u64 (WG h k)):=by
 refine pv e241 (by simp) rfl rfl ?_
 simp only [go_sem,seval,c241]
 exact ⟨nJ _,nJ _,fin (by rfl) rfl⟩
def D6 (h k : Int) : Int:=IntKind.u64.wrap (WG (IntKind.u64.wrap (IntKind.u64.wrap ↑(BitVec.ofInt 64 h ^^^ BitVec.ofInt 64 k).toNat*11400714819323198485)) 31+15485907386658061715)
theorem Pq (h k : Int) : PV Tryz.prog G0 221 [.int .u64 h,.int .u64 k] (.int .u64 (D6 h k)):=by
 refine pv e221 (by simp) rfl rfl ?_
 simp only [go_sem,seval,c221]
 refine ah (NI _ _) ?_<;>simp only [go_sem,seval]
 exact fin (by rfl) rfl
def VF (h : Int) : Int:=IntKind.u64.wrap ↑(BitVec.ofInt 64 (IntKind.u64.wrap (IntKind.u64.wrap ↑(BitVec.ofInt 64 h ^^^ BitVec.ofInt 64 (h.fdiv (2 ^ min 32 64))).toNat*15485907386658061715)) ^^^
 BitVec.ofInt 64 ((IntKind.u64.wrap (IntKind.u64.wrap ↑(BitVec.ofInt 64 h ^^^ BitVec.ofInt 64 (h.fdiv (2 ^ min 32 64))).toNat*15485907386658061715)).fdiv (2 ^ min 32 64))).toNat
theorem WL (h : Int) : PV Tryz.prog G0 223 [.int .u64 h] (.int .u64 (VF h)):=by
 refine pv e223 (by simp) rfl rfl ?_
 simp only [go_sem,seval,c223]
 exact fin (by rfl) rfl
def uj (h k : Int) : Int:=if k≤0 then 0 else if k≥64 then h else IntKind.u64.wrap ↑(BitVec.ofInt 64 h &&& BitVec.ofInt 64 (IntKind.u64.wrap (IntKind.u64.wrap (1*2 ^ min (IntKind.u64.wrap k).toNat 64)-1))).toNat
theorem NT (h k : Int) : PV Tryz.prog G0 178 [.int .u64 h,.int .i64 k] (.int .u64 (uj h k)):=by
 refine pv e178 (by simp) rfl rfl ?_
 simp only [go_sem,seval,c178]
 refine aG (fun h1=>?_) (fun h1=>?_)
 ·simp only [go_sem,seval]
  refine fin (by rfl) ?_
  unfold uj;rw [if_pos (by simpa using h1)]
 ·simp only [go_sem,seval]
  refine aG (fun h2=>?_) (fun h2=>?_)
  ·simp only [go_sem,seval]
   refine fin (by rfl) ?_
   unfold uj;rw [if_neg (by simp at h1;omega),if_pos (by simpa using h2)]
  ·simp only [go_sem,seval]
   refine ⟨nJ _,fin (by rfl) ?_⟩
   unfold uj;rw [if_neg (by simp at h1;omega),if_neg (by simp at h2;omega)]
   rfl
def iD (h : Int) (k : Nat) : Nat:=if k≥13 then 0 else ((BitVec.ofInt 64 (h.fdiv (2 ^ min (IntKind.u64.wrap (IntKind.i64.wrap (5*(k : Int)))).toNat 64)) &&& 31#64).toNat)
theorem nH (h : Int) (k : Nat) : iD h k < 32:=by
 unfold iD
 split
 ·omega
 ·rw [BitVec.toNat_and]
  have:=Nat.and_le_right (n:=(BitVec.ofInt 64 (h.fdiv (2 ^ min (IntKind.u64.wrap (IntKind.i64.wrap (5*(k : Int)))).toNat 64))).toNat) (m:=(31#64).toNat)
  have e : (31#64).toNat=31:=by decide
  omega
theorem xJ (h : Int) (k : Nat) : PV Tryz.prog G0 135 [.int .u64 h,.int .i64 k] (.int .i64 (iD h k)):=by
 have hlt:=nH h k
 refine pv e135 (by simp) rfl rfl ?_
 have h0 : decide ((k : Int) < 0)=false:=by simp
 simp only [go_sem,seval,c135,h0,Bool.not_false]
 refine aG (fun h1=>?_) (fun h1=>?_)
 ·simp only [go_sem,seval]
  refine fin (by rfl) ?_
  unfold iD;rw [if_pos (by simp at h1;omega)];rfl
 ·have e:=hlt
  unfold iD at e
  rw [if_neg (by simp at h1;omega)] at e
  simp only [go_sem,seval]
  refine ⟨nJ _,fin (by rfl) ?_⟩
  unfold iD;rw [if_neg (by simp at h1;omega)]
  have e0 : ∀ q : Nat,q < 32→IntKind.i64.wrap (IntKind.u64.wrap (q : Int))=q:=fun q hq=>by rw [uw (by omega),iw (by omega)]
  exact congrArg (VV.int .i64) (e0 _ e)
def LW (x : Int) : Option UInt8→Int
 | none=>IntKind.u64.wrap (x*2 ^ min 8 64)
 | some b=>IntKind.u64.wrap ↑(BitVec.ofInt 64 (IntKind.u64.wrap (x*2 ^ min 8 64)) ||| BitVec.ofInt 64 (IntKind.u64.wrap (b.toNat : Int))).toNat
def zi (s : Bs) (p : Nat) (n : Nat) : Int:=(List.range n).foldl (fun x i=>LW x s[p+i]?) 0
theorem yU (s : Bs) (p n : Nat) : zi s p (n+1)=LW (zi s p n) s[p+n]?:=by simp [zi,List.range_succ]
theorem P8 (s : Bs) (p : Nat) (hp : p≤s.length) (hs : s.length≤1000000000) : PV Tryz.prog G0 222 [.str s,.int .i64 p] (.int .u64 (zi s p 8)):=by
 refine pv e222 (by simp) rfl rfl ?_
 simp only [go_sem,seval,c222]
 refine aF (fun m ρ σ=>∃ i : Nat,m=8-i∧i≤8∧ρ.get 0=.str s∧ρ.get 1=.int .i64 p∧ρ.get 5=.int .u64 (zi s p i)∧ρ.get 7=.int .i64 i∧σ=[]) (n:=8) ?_ ⟨0,rfl,by omega,rfl,rfl,rfl,rfl,rfl⟩
 rintro m ρ σ ⟨i,rfl,hi,h0,h1,h5,h7,rfl⟩
 simp only [go_sem,seval,h0,h1,h5,h7]
 refine aG (fun hc=>?_) (fun hc=>?_)
 ·have hc' : i < 8:=by simp at hc;omega
  have e1 : IntKind.i64.wrap ((p : Int)+i)=((p+i : Nat) : Int):=by rw [iw (by omega)];omega
  have e2 : IntKind.i64.wrap ((i : Int)+1)=((i+1 : Nat) : Int):=by rw [iw (by omega)];omega
  simp only [go_sem,seval,h0,h1,h5,h7,e1]
  refine aG (fun hb=>?_) (fun hb=>?_)
  ·have hb' : p+i < s.length:=by simp at hb;omega
   have g : s.getD (p+i) 0=s[p+i]:=by simp [List.getD_eq_getElem?_getD,hb']
   have hw:=yU s p i
   rw [List.getElem?_eq_getElem hb'] at hw
   simp only [go_sem,seval,h0,h1,h5,h7,e1,e2,Int.toNat_natCast,g]
   refine ⟨by omega, ?_⟩
   refine ⟨8-(i+1),by omega,i+1, ?_⟩
   and_intros
   all_goals first | rfl | omega | (rw [hw];rfl)
  ·have hw:=yU s p i
   rw [List.getElem?_eq_none (by simp at hb;omega)] at hw
   simp only [go_sem,seval,h0,h1,h5,h7,e1,e2]
   refine ⟨8-(i+1),by omega,i+1, ?_⟩
   and_intros
   all_goals first | rfl | omega | (rw [hw];rfl)
 ·have hc' : i=8:=by simp at hc;omega
  subst hc'
  simp only [go_sem,seval,h0,h1,h5,h7]
  exact fin (by rfl) rfl
def FI (s : Bs) (h : Int) (n : Nat) : Int:=(List.range n).foldl (fun h i=>D6 h (zi s (8*i) 8)) h
theorem GL (s : Bs) (h : Int) (n : Nat) : FI s h (n+1)=D6 (FI s h n) (zi s (8*n) 8):=by simp [FI,List.range_succ]
def SE (seed : Int) (s : Bs) : Int:=VF (FI s (D6 seed (IntKind.u64.wrap (s.length : Int))) ((s.length+7) / 8))
theorem U0 (seed : Int) (s : Bs) (hs : s.length≤1000000000) : PV Tryz.prog G0 179 [.int .u64 seed,.str s] (.int .u64 (SE seed s)):=by
 refine pv e179 (by simp) rfl rfl ?_
 simp only [go_sem,seval,c179]
 refine ah (Pq _ _) ?_<;>simp only [go_sem,seval]
 refine aF (fun m ρ σ=>∃ i : Nat,m=(s.length+7) / 8-i∧i≤(s.length+7) / 8∧ρ.get 1=.str s∧ρ.get 5=.int .u64 (FI s (D6 seed (IntKind.u64.wrap (s.length : Int))) i)∧ρ.get 6=.int .i64 (8*i : Nat)∧σ=[]) (n:=(s.length+7) / 8) ?_ ⟨0,rfl,by omega,rfl,rfl,rfl,rfl⟩
 rintro m ρ σ ⟨i,rfl,hi,h1,h5,h6,rfl⟩
 simp only [go_sem,seval,h1,h5,h6]
 refine aG (fun hc=>?_) (fun hc=>?_)
 ·have hc' : 8*i < s.length:=by simp at hc;omega
  have e2 : IntKind.i64.wrap (((8*i : Nat) : Int)+8)=((8*(i+1) : Nat) : Int):=by rw [iw (by omega)];omega
  simp only [go_sem,seval,h1,h5,h6]
  refine ah (P8 s (8*i) (by omega) hs) ?_<;>simp only [go_sem,seval,h1,h5,h6]
  refine ah (Pq _ _) ?_<;>simp only [go_sem,seval,h1,h5,h6,e2]
  refine ⟨(s.length+7) / 8-(i+1),by omega,i+1, ?_⟩
  and_intros
  all_goals first | rfl | omega | (rw [GL])
 ·have hc' : i=(s.length+7) / 8:=by simp at hc;omega
  subst hc'
  simp only [go_sem,seval,h1,h5,h6]
  refine ah (WL _) ?_<;>simp only [go_sem,seval]
  exact fin (by rfl) rfl
def lW (seed bits : Int) (k : Bs) : Int:=uj (SE seed k) bits
inductive Dy : VV→Prop
 | nil : Dy .nilp
 | ptr (cells : List VV) (off : Nat) (h : VV.ak cells=true) : Dy (.ptr cells off)
theorem Dy.pure {v : VV} (h : Dy v) : v.isPure=true:=by cases h with | nil=>rfl | ptr c o h=>exact h
theorem MQ (seed bits n : Int) (root : VV) (hr : Dy root) (k : Bs) (hs : k.length≤1000000000) : PV Tryz.prog G0 133 [.agg [.int .u64 seed,.int .i64 bits,.int .i64 n,root],.str k] (.int .u64 (lW seed bits k)):=by
 refine pv e133 (by simp) (by simp [VV.ak,VV.isPure,hr.pure]) rfl ?_
 have hc : root.aC=true:=by cases hr<;>rfl
 simp only [go_sem,seval] at hc
 simp only [go_sem,seval,c133,hc]
 refine aj (U0 seed k hs) (by simp only [go_sem,seval,hc]) ?_<;>simp only [go_sem,seval,hc]
 refine aj (NT _ bits) (by simp only [go_sem,seval,hc]) ?_<;>simp only [go_sem,seval,hc]
 exact fin (by rfl) rfl
end Go.V
namespace Go.V
open Go.Proofs
set_option maxRecDepth 100000
structure dh (k : Nat) (xs : List (List VV)) : Prop where
 len : ∀ x ∈ xs,x.length=k
 pure : ∀ x ∈ xs,VV.ak x=true
 cell : ∀ x ∈ xs,aQ x=true
theorem dh.nil {k : Nat} : dh k []:=⟨by simp,by simp,by simp⟩
theorem dh.append {k : Nat} {xs ys : List (List VV)} (h : dh k xs) (h' : dh k ys) : dh k (xs++ys) :=
 ⟨fun x hx=>(List.mem_append.1 hx).elim (h.len x) (h'.len x),fun x hx=>(List.mem_append.1 hx).elim (h.pure x) (h'.pure x),fun x hx=>(List.mem_append.1 hx).elim (h.cell x) (h'.cell x)⟩
theorem dh.sub {k : Nat} {xs ys : List (List VV)} (h : dh k xs) (hs : ∀ y ∈ ys,y ∈ xs) : dh k ys:=⟨fun x hx=>h.len x (hs x hx),fun x hx=>h.pure x (hs x hx),fun x hx=>h.cell x (hs x hx)⟩
theorem dh.take {k : Nat} {xs : List (List VV)} (h : dh k xs) (i : Nat) : dh k (xs.take i):=h.sub fun _ hy=>List.mem_of_mem_take hy
theorem dh.drop {k : Nat} {xs : List (List VV)} (h : dh k xs) (i : Nat) : dh k (xs.drop i):=h.sub fun _ hy=>List.mem_of_mem_drop hy
theorem dh.tail {k : Nat} {x : List VV} {xs : List (List VV)} (h : dh k (x::xs)) : dh k xs:=h.sub fun _ hy=>List.mem_cons_of_mem _ hy
theorem dh.cons {k : Nat} {x : List VV} {xs : List (List VV)} (h : dh k (x::xs)) : x.length=k∧dh k xs:=⟨h.len x (by simp),h.tail⟩
theorem dh.flat {k : Nat} : ∀ {xs : List (List VV)},dh k xs→xs.flatten.length=xs.length*k
 | [],_=>by simp
 | x::xs,h=>by simp [h.cons.1,dh.flat h.cons.2,Nat.add_mul,Nat.add_comm]
theorem dh.jD {k : Nat} : ∀ {xs : List (List VV)} (i : Nat),dh k xs→xs.flatten.drop (i*k)=(xs.drop i).flatten
 | _,0,_=>by simp
 | [],_+1,_=>by simp
 | x::xs,i+1,h=>by
  have:=dh.jD (xs:=xs) i h.cons.2
  rw [List.flatten_cons,List.drop_succ_cons,← this,show (i+1)*k=x.length+i*k by rw [h.cons.1,Nat.add_mul,Nat.one_mul,Nat.add_comm],List.drop_append]
  simp
theorem dh.jB {k : Nat} : ∀ {xs : List (List VV)} (i : Nat),dh k xs→xs.flatten.take (i*k)=(xs.take i).flatten
 | _,0,_=>by simp
 | [],_+1,_=>by simp
 | x::xs,i+1,h=>by
  have:=dh.jB (xs:=xs) i h.cons.2
  rw [List.flatten_cons,List.take_succ_cons,List.flatten_cons,← this,show (i+1)*k=x.length+i*k by rw [h.cons.1,Nat.add_mul,Nat.one_mul,Nat.add_comm],List.take_append,List.take_of_length_le (Nat.le_add_right _ _)]
  simp
theorem dh.og {k : Nat} {xs : List (List VV)} (h : dh k xs) {i : Nat} (hi : i < xs.length) : (xs.flatten.drop (i*k)).take k=xs[i]:=by
 rw [h.jD,List.drop_eq_getElem_cons hi,List.flatten_cons,List.take_append_of_le_length (by rw [h.len _ (List.getElem_mem hi)];exact Nat.le_refl _)]
 rw [List.take_of_length_le (by rw [h.len _ (List.getElem_mem hi)];exact Nat.le_refl _)]
theorem iC : ∀ (xs ys : List VV),VV.ak (xs++ys)=(VV.ak xs && VV.ak ys)
 | [],ys=>by simp [VV.ak]
 | x::xs,ys=>by simp [VV.ak,iC xs ys,Bool.and_assoc]
theorem dh.pW {k : Nat} : ∀ {xs : List (List VV)},dh k xs→VV.ak xs.flatten=true
 | [],_=>by simp [VV.ak]
 | x::xs,h=>by rw [List.flatten_cons,iC,h.pure x (by simp),dh.pW h.cons.2];rfl
theorem dh.xg {k : Nat} : ∀ {xs : List (List VV)},dh k xs→aQ xs.flatten=true
 | [],_=>by simp [aQ]
 | x::xs,h=>by
  have h1:=h.cell x (by simp)
  have h2:=dh.xg h.cons.2
  unfold aQ at h1 h2 ⊢
  rw [List.flatten_cons,List.all_append,h1,h2];rfl
inductive dG (k : Nat) : VV→List (List VV)→Prop
 | nil : dG k .nils []
 | sl (xs : List (List VV)) (t : Bool) (h : dh k xs) : dG k (.sl xs.length xs.flatten t) xs
theorem dG.blk {k : Nat} {v : VV} {xs : List (List VV)} (h : dG k v xs) : dh k xs:=by cases h with | nil=>exact .nil | sl _ _ h=>exact h
theorem dG.pure {k : Nat} {v : VV} {xs : List (List VV)} (h : dG k v xs) : v.isPure=true:=by
 cases h with
 | nil=>rfl
 | sl xs t h=>simp only [VV.isPure];exact h.pW
theorem dG.of {k : Nat} {xs : List (List VV)} (h : dh k xs) {n : Nat} {cells : List VV} {t : Bool} (hn : n=xs.length) (hc : cells=xs.flatten) : dG k (.sl n cells t) xs:=by subst hn hc;exact .sl xs t h
theorem zW {P : Program} {t : TypeId} (h : (iF P t).isSome=true) : ∃ e,P.underlying t=some (.slice e):=by
 unfold iF at h
 split at h
 ·exact ⟨_,by assumption⟩
 ·cases h
@[go_sem] theorem qw {P : Program} {t : TypeId} {σ : Store} (h : (iF P t).isSome=true) : aT P t .nils σ=okV (.int .i64 0) σ:=by
 obtain ⟨e,he⟩:=zW h;simp [aT,he]
@[go_sem] theorem AQ {P : Program} {t : TypeId} {σ : Store} {n : Nat} {cells : List VV} {b : Bool} (h : (iF P t).isSome=true) : aT P t (.sl n cells b) σ=okV (.int .i64 n) σ:=by
 obtain ⟨e,he⟩:=zW h;simp [aT,he]
@[go_sem] theorem y9 {P : Program} {t : TypeId} {σ : Store} {id off n sz : Nat} (h : (iF P t).isSome=true) : aT P t (.bZ id off n sz) σ=okV (.int .i64 n) σ:=by
 obtain ⟨e,he⟩:=zW h;simp [aT,he]
theorem dG.src {P : Program} {σ : Store} {k : Nat} {t e : TypeId} {v : VV} {xs : List (List VV)} (h : dG k v xs) (ht : iF P t=some e) : aJ P σ k t v=some (xs.length,xs.flatten):=by
 cases h with
 | nil=>simp [aJ,ht,kK,eG]
 | sl xs t h=>simp [aJ,ht,kK,eG,h.flat]
theorem dG.aT {P : Program} {σ : Store} {k : Nat} {t e : TypeId} {v : VV} {xs : List (List VV)} (h : dG k v xs) (ht : iF P t=some e) : aT P t v σ=okV (.int .i64 xs.length) σ:=by
 cases h with
 | nil=>exact qw (by simp [ht])
 | sl xs t h=>exact AQ (by simp [ht])
theorem Jz {P : Program} {t tx e : TypeId} {k by_ : Nat} {z : List VV} {σ : Store} {id n : Nat} {xs ys : List (List VV)} {x : VV} (ht : iF P t=some e) (hk : eH P e=some k) (hy : Yr P e=some by_) (hz : bG P e=some z) (hzk : z.length=k) (hk0 : 0 < k) (hb : by_≤1000)
  (hid : σ[id]?=some (.own xs.flatten)) (hB : dh k xs) (hC : dh k ys) (hl : xs.length+ys.length≤1000000) (hn : n=xs.length) (hx : aJ P σ k tx x=some (ys.length,ys.flatten)) :
  ∃ p,p∧bF P t tx (.bZ id 0 n k) x σ=some ⟨p,.bZ σ.length 0 (xs++ys).length k,σ.set id .dead++[.own (xs++ys).flatten]⟩:=by
 subst hn
 have h1 : (xs.flatten.drop 0).take (xs.length*k)=xs.flatten:=by rw [List.drop_zero,List.take_of_length_le (by rw [hB.flat];exact Nat.le_refl _)]
 refine ⟨_, ?_,by simp only [bF,ht,hk,hy,hz,hx,hid,h1,List.flatten_append,List.length_append,if_true];rfl⟩
 refine ⟨⟨by omega, ?_,hC.flat,hk0,hC.xg,hzk⟩,by rw [hB.flat];omega,by rw [hB.xg]⟩
 have:=Nat.mul_le_mul hl hb
 omega
theorem jC {t tx e : TypeId} {k by_ : Nat} {z : List VV} {σ : Store} {id n : Nat} {xs ys : List (List VV)} {x : VV} (ht : iF Tryz.prog t=some e) (hk : eH Tryz.prog e=some k) (hy : Yr Tryz.prog e=some by_) (hz : bG Tryz.prog e=some z) (hzk : z.length=k) (hk0 : 0 < k) (hb : by_≤1000)
  (hid : σ[id]?=some (.own xs.flatten)) (hB : dh k xs) (hC : dh k ys) (hl : xs.length+ys.length≤1000000) (hn : n=xs.length) (hx : aJ Tryz.prog σ k tx x=some (ys.length,ys.flatten))
  {d : Nat} {r : List VO} {Q : Out→Env→Store→Prop} {ρ : Env} (h : bM Tryz.prog G0 r Q ((d,.bZ σ.length 0 (xs++ys).length k)::ρ) (σ.set id .dead++[.own (xs++ys).flatten])) :
  eF Tryz.prog G0 (bF Tryz.prog t tx (.bZ id 0 n k) x σ) (some d) r Q ρ:=by
 obtain ⟨p,hp,he⟩:=Jz ht hk hy hz hzk hk0 hb hid hB hC hl hn hx
 rw [he]
 exact ⟨hp,h⟩
theorem ug {σ : Store} {n : Nat} : ∀ {cells : List VV},VV.ak cells=true→cells.mapM (fz n σ)=some cells
 | [],_=>rfl
 | x::xs,h=>by
  simp only [VV.ak,Bool.and_eq_true] at h
  rw [List.mapM_cons,qY h.1,ug h.2];rfl
theorem qN {m : Nat} {σ : Store} {id n k : Nat} {xs : List (List VV)} (h : σ[id]?=some (.kH xs.flatten)) (hB : dh k xs) (hn : n=xs.length) : fz (m+1) σ (.bZ id 0 n k)=some (.sl xs.length xs.flatten false):=by
 subst hn
 have h1 : (xs.flatten.drop 0).take (xs.length*k)=xs.flatten:=by rw [List.drop_zero,List.take_of_length_le (by rw [hB.flat];exact Nat.le_refl _)]
 simp only [fz,VV.isPure,h,h1,ug hB.pW,hB.flat,Nat.zero_add,Nat.le_refl,if_true,Option.map_some]
 rfl
theorem BU {σ : Store} {id n k : Nat} {xs : List (List VV)} (h : σ[id]?=some (.kH xs.flatten)) (hB : dh k xs) (hn : n=xs.length) : fz 1 σ (.bZ id 0 n k)=some (.sl xs.length xs.flatten false):=qN h hB hn
theorem sF {m : Nat} {σ : Store} {id : Nat} {cells : List VV} (h : σ[id]?=some (.kH cells)) (hp : VV.ak cells=true) : fz (m+1) σ (.mptr id 0)=some (.ptr cells 0):=by
 simp only [fz,VV.isPure,h,ug hp,Option.map_some]
 rfl
theorem Cc (va vb : VV) (xs ys : List (List VV)) (ha : dG 11 va xs) (hb : dG 11 vb ys) (hl : xs.length+ys.length≤1000000) : PV Tryz.prog G0 172 [va,vb] (.sl (xs++ys).length (xs++ys).flatten false):=by
 have hB:=(ha.blk.append hb.blk)
 have hpu:=hB.pW
 refine pv e172 (by simp) (by simp [VV.ak,ha.pure,hb.pure]) (by simp only [VV.isPure];exact hpu) ?_
 have e1 : IntKind.i64.wrap ((xs.length : Int)+ys.length)=((xs.length+ys.length : Nat) : Int):=by rw [iw (by omega)];omega
 simp only [go_sem,seval,c172,ha.aT dS,hb.aT dS,e1]
 refine ⟨by omega, ?_⟩
 refine jC (xs:=[]) (ys:=xs) dS vH uO nO rfl (by decide) (by decide) rfl .nil ha.blk (by simp;omega) rfl (ha.src dS) ?_
 simp only [go_sem,seval]
 refine jC (xs:=xs) (ys:=ys) dS vH uO nO rfl (by decide) (by decide) rfl ha.blk hb.blk hl rfl (hb.src dS) ?_
 simp only [go_sem,seval]
 exact ⟨_,1,rfl,BU rfl hB rfl⟩
theorem uz (va vb : VV) (xs ys : List (List VV)) (ha : dG 1 va xs) (hb : dG 1 vb ys) (hl : xs.length+ys.length≤1000000) : PV Tryz.prog G0 236 [va,vb] (.sl (xs++ys).length (xs++ys).flatten false):=by
 have hB:=(ha.blk.append hb.blk)
 have hpu:=hB.pW
 refine pv e236 (by simp) (by simp [VV.ak,ha.pure,hb.pure]) (by simp only [VV.isPure];exact hpu) ?_
 have e1 : IntKind.i64.wrap ((xs.length : Int)+ys.length)=((xs.length+ys.length : Nat) : Int):=by rw [iw (by omega)];omega
 simp only [go_sem,seval,c236,ha.aT iK,hb.aT iK,e1]
 refine ⟨by omega, ?_⟩
 refine jC (xs:=[]) (ys:=xs) iK Et DN yE rfl (by decide) (by decide) rfl .nil ha.blk (by simp;omega) rfl (ha.src iK) ?_
 simp only [go_sem,seval]
 refine jC (xs:=xs) (ys:=ys) iK Et DN yE rfl (by decide) (by decide) rfl ha.blk hb.blk hl rfl (hb.src iK) ?_
 simp only [go_sem,seval]
 exact ⟨_,1,rfl,BU rfl hB rfl⟩
inductive RN : Nat→VV→List (List VV)→Prop
 | leaf {v : VV} {xs : List (List VV)} (h : dG 11 v xs) (hne : xs≠[]) : RN 1 (.ptr [.int .i64 xs.length,.int .i64 1,.nils,v] 0) xs
 | inner {d : Nat} {v : VV} {ks : List (VV × List (List VV))} (h : dG 1 v (ks.map fun k=>[k.1])) (hk : ∀ k ∈ ks,RN d k.1 k.2) (h2 : 2≤ks.length) : RN (d+1) (.ptr [.int .i64 (ks.map (·.2)).flatten.length,.int .i64 (d+1 : Nat),v,.nils] 0) (ks.map (·.2)).flatten
def RP (v : VV) (xs : List (List VV)) : Prop:=(v=.nilp∧xs=[])∨∃ d,RN d v xs
theorem RN.ne {d : Nat} {v : VV} {xs : List (List VV)} (h : RN d v xs) : xs≠[]∧v.isPure=true∧dh 11 xs∧1≤d∧d≤xs.length:=by
 induction h with
 | leaf h hne=>exact ⟨hne,by simp [VV.isPure,VV.ak,h.pure],h.blk,by omega,by have:=List.length_pos_iff.2 hne;omega⟩
 | @inner d v ks h hk h2 ih =>
  match ks,h2 with
  | a::b::ks,_ =>
   have h1:=ih a (by simp)
   have h3:=ih b (by simp)
   refine ⟨by simp [h1.1],by simp [VV.isPure,VV.ak,h.pure],⟨?_, ?_, ?_⟩,by omega, ?_⟩
   ·intro x hx
    obtain ⟨l,hl,hx⟩:=List.mem_flatten.1 hx
    obtain ⟨k,hk',rfl⟩:=List.mem_map.1 hl
    exact (ih k hk').2.2.1.len x hx
   ·intro x hx
    obtain ⟨l,hl,hx⟩:=List.mem_flatten.1 hx
    obtain ⟨k,hk',rfl⟩:=List.mem_map.1 hl
    exact (ih k hk').2.2.1.pure x hx
   ·intro x hx
    obtain ⟨l,hl,hx⟩:=List.mem_flatten.1 hx
    obtain ⟨k,hk',rfl⟩:=List.mem_map.1 hl
    exact (ih k hk').2.2.1.cell x hx
   ·have:=List.length_pos_iff.2 h3.1
    simp only [List.map_cons,List.flatten_cons,List.length_append];omega
theorem RP.pure {v : VV} {xs : List (List VV)} (h : RP v xs) : v.isPure=true:=by
 rcases h with ⟨rfl,_⟩ | ⟨d,h⟩
 ·rfl
 ·exact h.ne.2.1
theorem RP.blk {v : VV} {xs : List (List VV)} (h : RP v xs) : dh 11 xs:=by
 rcases h with ⟨_,rfl⟩ | ⟨d,h⟩
 ·exact .nil
 ·exact h.ne.2.2.1
theorem Dv (v : VV) (xs : List (List VV)) (h : dG 11 v xs) : ∃ r,RP r xs∧PV Tryz.prog G0 171 [v] r∧(xs≠[]→RN 1 r xs):=by
 by_cases hx : xs=[]
 ·refine ⟨.nilp,.inl ⟨rfl,hx⟩, ?_,fun h=>absurd hx h⟩
  refine pv e171 (by simp) (by simp [VV.ak,h.pure]) rfl ?_
  subst hx
  simp only [go_sem,seval,c171,h.aT dS]
  exact fin (by rfl) rfl
 ·have hr:=RN.leaf h hx
  refine ⟨_,.inr ⟨1,hr⟩, ?_,fun _=>hr⟩
  refine pv e171 (by simp) (by simp [VV.ak,h.pure]) hr.ne.2.1 ?_
  have h0 : ((xs.length : Int) == 0)=false:=by have:=List.length_pos_iff.2 hx;simp;omega
  have hp:=hr.ne.2.1
  cases h with
  | nil=>exact absurd rfl hx
  | sl xs t h =>
   simp only [go_sem,seval,c171,h0]
   exact ⟨_,1,rfl,sF rfl hp⟩
end Go.V
namespace Go.V
open Go.Proofs
set_option maxRecDepth 100000
abbrev Kd:=VV × List (List VV)
def aW (ks : List Kd) : List (List VV):=ks.map fun k=>[k.1]
def aO (ks : List Kd) : List (List VV):=(ks.map (·.2)).flatten
theorem IK (ks : List Kd) : (aW ks).flatten=ks.map (·.1):=by
 unfold aW
 induction ks with
 | nil=>rfl
 | cons k ks ih=>simp [ih]
theorem kJ (ks : List Kd) : (aW ks).length=ks.length:=by simp [aW]
theorem dL (a b : List Kd) : aO (a++b)=aO a++aO b:=by simp [aO]
theorem gG (a : Kd) (b : List Kd) : aO (a::b)=a.2++aO b:=by simp [aO]
structure KL (d : Nat) (v : VV) (ks : List Kd) : Prop where
 sl : dG 1 v (aW ks)
 rn : ∀ k ∈ ks,RN d k.1 k.2
theorem RN.cells {d : Nat} {v : VV} {xs : List (List VV)} (h : RN d v xs) : ∃ a b,v=.ptr [.int .i64 xs.length,.int .i64 d,a,b] 0:=by
 cases h with
 | leaf=>exact ⟨_,_,rfl⟩
 | inner=>exact ⟨_,_,rfl⟩
theorem KL.nK {d : Nat} : ∀ {ks : List Kd},(∀ k ∈ ks,RN d k.1 k.2)→ks.length≤(aO ks).length
 | [],_=>by simp [aO]
 | k::ks,h=>by
  have:=KL.nK (ks:=ks) (fun q hq=>h q (by simp [hq]))
  have h1:=List.length_pos_iff.2 (h k (by simp)).ne.1
  rw [gG,List.length_append,List.length_cons];omega
theorem KL.get {d : Nat} {v : VV} {ks : List Kd} (_ : KL d v ks) {i : Nat} (hi : i < ks.length) : (aW ks).flatten.getD i .undef=ks[i].1:=by
 rw [IK,List.getD_eq_getElem?_getD,List.getElem?_map,List.getElem?_eq_getElem hi];rfl
theorem iy (ks : List Kd) (i : Nat) (hi : i < ks.length) : (aO (ks.take (i+1))).length=(aO (ks.take i)).length+ks[i].2.length:=by
 rw [List.take_succ_eq_append_getElem hi,dL,List.length_append,gG];simp [aO]
theorem iR (ks : List Kd) (i : Nat) : (aO (ks.take i)).length≤(aO ks).length:=by
 conv=>rhs;rw [← List.take_append_drop i ks,dL,List.length_append]
 omega
theorem dG.fP {k : Nat} {v : VV} {xs : List (List VV)} (h : dG k v xs) (hne : xs≠[]) : ∃ t,v=.sl xs.length xs.flatten t:=by
 cases h with
 | nil=>exact absurd rfl hne
 | sl xs t h=>exact ⟨t,rfl⟩
theorem KL.fP {d : Nat} {v : VV} {ks : List Kd} (h : KL d v ks) (hne : ks≠[]) : ∃ t,v=.sl ks.length (ks.map (·.1)) t:=by
 obtain ⟨t,ht⟩:=h.sl.fP (by simpa [aW] using hne)
 exact ⟨t,by rw [ht,kJ,IK]⟩
inductive Xc (d : Nat) (ks : List Kd) (r : VV) : Prop
 | nil (h : ks=[]) (hr : r=.nilp)
 | one (k : Kd) (h : ks=[k]) (hr : r=k.1)
 | many (h : 2≤ks.length) (hr : RN (d+1) r (aO ks))
theorem xR (d : Nat) (v : VV) (ks : List Kd) (h : KL d v ks) (hl : (aO ks).length≤1000000) : ∃ r,Xc d ks r∧PV Tryz.prog G0 211 [v] r:=by
 have hkl:=KL.nK h.rn
 by_cases hz : ks=[]
 ·subst hz
  refine ⟨.nilp,.nil rfl rfl, ?_⟩
  refine pv e211 (by simp) (by simp [VV.ak,h.sl.pure]) rfl ?_
  simp only [go_sem,seval,c211,h.sl.aT iK,kJ]
  exact fin (by rfl) rfl
 by_cases ho : ks.length=1
 ·obtain ⟨k,rfl⟩:=List.length_eq_one_iff.1 ho
  have hk:=h.rn k (by simp)
  refine ⟨k.1,.one k rfl rfl, ?_⟩
  refine pv e211 (by simp) (by simp [VV.ak,h.sl.pure]) hk.ne.2.1 ?_
  obtain ⟨t,rfl⟩:=h.fP (by simp)
  simp only [go_sem,seval,c211]
  exact fin hk.ne.2.1 rfl
 have h2 : 2≤ks.length:=by have:=List.length_pos_iff.2 hz;omega
 have hrn:=RN.inner (v:=v) h.sl h.rn h2
 have hd : d+1≤(aO ks).length:=hrn.ne.2.2.2.2
 refine ⟨_,.many h2 hrn, ?_⟩
 have hp:=hrn.ne.2.1
 obtain ⟨t,rfl⟩:=h.fP hz
 refine pv e211 (by simp) (by simp [VV.ak,h.sl.pure]) hp ?_
 have h0 : ((ks.length : Int) == 0)=false:=by simp;omega
 have h1 : ((ks.length : Int) == 1)=false:=by simp;omega
 have hg : ∀ i (hi : i < ks.length),∃ a b,(ks.map (·.1)).getD i .undef=.ptr [.int .i64 ks[i].2.length,.int .i64 d,a,b] 0:=by
  intro i hi
  obtain ⟨a,b,hab⟩:=(h.rn ks[i] (List.getElem_mem hi)).cells
  exact ⟨a,b,by rw [List.getD_eq_getElem?_getD,List.getElem?_map,List.getElem?_eq_getElem hi];exact hab⟩
 obtain ⟨a,b,g0⟩:=hg 0 (by omega)
 have e1 : IntKind.i64.wrap ((d : Int)+1)=((d+1 : Nat) : Int):=by rw [iw (by omega)];omega
 simp only [go_sem,seval,c211,h0,h1,g0,e1]
 refine ⟨by omega,by simp;omega, ?_⟩
 refine aF (fun m ρ σ=>∃ i : Nat,m=ks.length-i∧i≤ks.length∧ρ.get 3=.mptr 0 0∧ρ.get 25=.sl ks.length (ks.map (·.1)) t∧ρ.get 26=.int .i64 ks.length∧ρ.get 27=.int .i64 i∧σ=[.own [.int .i64 (aO (ks.take i)).length,.int .i64 (d+1 : Nat),.sl ks.length (ks.map (·.1)) t,.nils]]) (n:=ks.length) ?_ ⟨0,rfl,by omega,rfl,rfl,rfl,rfl,rfl⟩
 rintro m ρ σ ⟨i,rfl,hi,h3,h25,h26,h27,rfl⟩
 simp only [go_sem,seval,h3,h25,h26,h27]
 refine aG (fun hc=>?_) (fun hc=>?_)
 ·have hc' : i < ks.length:=by simpa using hc
  have e2 : IntKind.i64.wrap ((i : Int)+1)=((i+1 : Nat) : Int):=by rw [iw (by omega)];omega
  obtain ⟨a,b,gi⟩:=hg i hc'
  have e3:=iy ks i hc'
  have e4:=iR ks (i+1)
  have e5 : IntKind.i64.wrap (((aO (ks.take i)).length : Int)+ks[i].2.length)=((aO (ks.take (i+1))).length : Nat):=by rw [iw (by omega)];omega
  simp only [go_sem,seval,h3,h25,h26,h27,Int.toNat_natCast,Nat.mul_one,gi,e2,e5]
  refine ⟨by omega,by simp;omega, ?_⟩
  refine ⟨ks.length-(i+1),by omega,i+1, ?_⟩
  and_intros
  all_goals first | rfl | omega
 ·have hc' : i=ks.length:=by simp at hc;omega
  subst hc'
  simp only [go_sem,seval,h3,h25,h26,h27]
  refine ⟨_,1,rfl, ?_⟩
  rw [List.take_length]
  exact sF rfl hp
end Go.V
