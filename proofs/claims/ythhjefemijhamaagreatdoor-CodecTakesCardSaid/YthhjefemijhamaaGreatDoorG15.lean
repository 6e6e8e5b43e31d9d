/- Texts B0 F1 F2 F3 F4. -/
import Derived.IntWalk
import Derived.Test.YthhjefemijhamaaGreatDoorG13
import Derived.Test.YthhjefemijhamaaGreatDoorG14
set_option linter.unusedVariables false
set_option linter.unusedSimpArgs false
namespace Go.V
open Go.Proofs
abbrev Bs:=List UInt8
def aX : List (List UInt8):=[[46,46],[61,61],[33,61],[60,61],[62,61],[38,38],[124,124],[91],[93],[123],[125],[60],[62],[40],[41],[44],[58],[46],[42],[63],[33],[36],[64]]
def jk : List Int:=[0,1,28,2,29,14,24,3,30,22,20,15,25,17,4,8,31,27,13,23,21,19,16,7,26,12,18,6,11,5,10,9]
def G0 (g : Nat) : Option (List VV):=if g=1 then some (aX.map .str) else if g=2 then some (jk.map fun n=>.int .u8 n) else if g=0 then some [.ifc 222 (.agg [.raw ⟨3,50,none⟩])] else none
theorem G0p : QH G0:=by
 intro g cells h
 unfold G0 at h
 split at h
 ·cases h;decide
 ·split at h
  ·cases h;decide
  ·split at h
   ·cases h;rfl
   ·cases h
theorem pv {f : FuncId} {F : FnV} {ys : List VV} {x : VV} (hf : bZ Tryz.prog lab f=some F) (hn : ys.length≤F.n) (hp : VV.ak ys=true) (hx : x.isPure=true)
  (h : jQ Tryz.prog G0 F.code (sJ Tryz.prog F.res fun r σ=>∃ y n,r=.ret y∧fz n (σ.map Obj.fr) y=some x) (fP 0 ys) []) : PV Tryz.prog G0 f ys x :=
 aap G0p mix hf hn hp hx h
theorem cv {f : FuncId} {F : FnV} {xs : List VV} {σ : Store} {R : dX→Store→Prop} (hf : bZ Tryz.prog lab f=some F) (hn : xs.length≤F.n)
  (h : jQ Tryz.prog G0 F.code (sJ Tryz.prog F.res R) (fP 0 xs) σ) : CV Tryz.prog G0 f xs σ R:=XP mix hf hn h
theorem fin {σ : Store} {x y : VV} (h : x.isPure=true) (e : y=x) : ∃ z n,dX.ret y=dX.ret z∧fz n σ z=some x:=⟨y,0,rfl,by rw [e];exact kP h⟩
theorem Qs (n : Int) : IntKind.u8.wrap n=n % 256:=by simp [IntKind.wrap,IntKind.bits,IntKind.signed]
theorem Jl (n : Int) : IntKind.u32.wrap n=n % 4294967296:=by simp [IntKind.wrap,IntKind.bits,IntKind.signed]
theorem wu64 (n : Int) : IntKind.u64.wrap n=n % 18446744073709551616:=by simp [IntKind.wrap,IntKind.bits,IntKind.signed]
theorem ZV (n : Int) : IntKind.i64.wrap n=(n+9223372036854775808) % 18446744073709551616-9223372036854775808:=by
 rw [IntKind.wrap_i64]
theorem iw {n : Int} (h : -9223372036854775808≤n∧n≤9223372036854775807) : IntKind.i64.wrap n=n:=by rw [ZV];omega
theorem uw {n : Int} (h : 0≤n∧n < 18446744073709551616) : IntKind.u64.wrap n=n:=by rw [wu64];omega
theorem bw {n : Int} (h : 0≤n∧n < 256) : IntKind.u8.wrap n=n:=by rw [Qs];omega
theorem Aj (m k : Nat) : Int.tdiv (m : Int) (k : Int)=((m / k : Nat) : Int):=rfl
theorem Xw (m k : Nat) : Int.tmod (m : Int) (k : Int)=((m % k : Nat) : Int):=rfl
theorem fF (s : Bs) : bytesOf (s.map aK)=some s:=by
 unfold bytesOf
 induction s with
 | nil=>rfl
 | cons b s ih =>
  simp only [List.map_cons,List.mapM_cons,ih,aK]
  simp
theorem cellOf (n : Int) (h : 0≤n∧n < 256) : VV.int .u8 n=aK (UInt8.ofNat n.toNat):=by
 simp only [aK,VV.int.injEq,true_and]
 rw [UInt8.toNat_ofNat']
 omega
theorem CW (m : Nat) (h : m < 256) : VV.int .u8 (m : Int)=aK (UInt8.ofNat m):=by
 rw [cellOf _ (by omega)];simp
theorem jr (s : Bs) : aU (s.map aK)=true:=by
 simp [aU,aK,VV.aF]
attribute [go_sem] rep ne_eq not_true_eq_false or_self or_false false_or not_false_eq_true gt_iff_lt or_true true_or and_self ge_iff_le
attribute [go_sem] List.mem_cons List.not_mem_nil List.mem_singleton
attribute [go_sem] decide_true decide_false Option.some.injEq exists_eq_left'
@[go_sem] theorem abp : IntKind.i64.wrap 0=0:=by decide
@[go_sem] theorem abx : IntKind.i64.wrap 1=1:=by decide
@[go_sem] theorem abz : IntKind.i64.wrap 2=2:=by decide
@[go_sem] theorem abC : IntKind.i64.wrap 3=3:=by decide
@[go_sem] theorem abE : IntKind.i64.wrap 4=4:=by decide
@[go_sem] theorem abr : IntKind.i64.wrap 5=5:=by decide
@[go_sem] theorem aby : IntKind.i64.wrap 6=6:=by decide
attribute [go_sem] bounds Option.isSome_some Option.isSome_none Option.getD_some Option.getD_none
attribute [go_sem] VV.isPure VV.ak
end Go.V
namespace Go.V
open Go.Proofs
set_option maxRecDepth 100000
theorem zS (n : Int) : PV Tryz.prog G0 80 [.int .u8 n] (.bool (decide (48≤n) && decide (n≤57))):=by
 refine pv e80 (by simp) rfl rfl ?_
 simp only [go_sem,seval,c80]
 repeat' (first | (refine aY (fun h=>?_) (fun h=>?_)<;>simp only [go_sem,seval,h]) | (refine aj (fun h=>?_) (fun h=>?_)<;>simp only [go_sem,seval,h]) | (refine bF (fun h=>?_) (fun h=>?_)<;>simp only [go_sem,seval,h]) | (refine aS (fun h=>?_) (fun h=>?_)<;>simp only [go_sem,seval,h]) | (refine bg (fun h=>?_) (fun h=>?_)<;>simp only [go_sem,seval,h]) | (refine dB (fun h=>?_) (fun h=>?_)<;>simp only [go_sem,seval,h]))
 all_goals exact fin (by rfl) (by simp_all)
theorem A8 (n : Int) : PV Tryz.prog G0 87 [.int .u8 n] (.bool (decide (48≤n) && decide (n≤57))):=by
 refine pv e87 (by simp) rfl rfl ?_
 simp only [go_sem,seval,c87]
 repeat' (first | (refine aY (fun h=>?_) (fun h=>?_)<;>simp only [go_sem,seval,h]) | (refine aj (fun h=>?_) (fun h=>?_)<;>simp only [go_sem,seval,h]) | (refine bF (fun h=>?_) (fun h=>?_)<;>simp only [go_sem,seval,h]) | (refine aS (fun h=>?_) (fun h=>?_)<;>simp only [go_sem,seval,h]) | (refine bg (fun h=>?_) (fun h=>?_)<;>simp only [go_sem,seval,h]) | (refine dB (fun h=>?_) (fun h=>?_)<;>simp only [go_sem,seval,h]))
 all_goals exact fin (by rfl) (by simp_all)
def blank (n : Int) : Bool:=n == 32 || n == 9 || n == 10 || n == 13
theorem UY (n : Int) : PV Tryz.prog G0 77 [.int .u8 n] (.bool (blank n)):=by
 refine pv e77 (by simp) rfl rfl ?_
 simp only [go_sem,seval,c77]
 repeat' (first | (refine aY (fun h=>?_) (fun h=>?_)<;>simp only [go_sem,seval,h]) | (refine aj (fun h=>?_) (fun h=>?_)<;>simp only [go_sem,seval,h]) | (refine bF (fun h=>?_) (fun h=>?_)<;>simp only [go_sem,seval,h]) | (refine aS (fun h=>?_) (fun h=>?_)<;>simp only [go_sem,seval,h]) | (refine bg (fun h=>?_) (fun h=>?_)<;>simp only [go_sem,seval,h]) | (refine dB (fun h=>?_) (fun h=>?_)<;>simp only [go_sem,seval,h]))
 all_goals exact fin (by rfl) (by simp_all [blank])
theorem PI (n : Int) : PV Tryz.prog G0 85 [.int .u8 n] (.bool (blank n)):=by
 refine pv e85 (by simp) rfl rfl ?_
 simp only [go_sem,seval,c85]
 repeat' (first | (refine aY (fun h=>?_) (fun h=>?_)<;>simp only [go_sem,seval,h]) | (refine aj (fun h=>?_) (fun h=>?_)<;>simp only [go_sem,seval,h]) | (refine bF (fun h=>?_) (fun h=>?_)<;>simp only [go_sem,seval,h]) | (refine aS (fun h=>?_) (fun h=>?_)<;>simp only [go_sem,seval,h]) | (refine bg (fun h=>?_) (fun h=>?_)<;>simp only [go_sem,seval,h]) | (refine dB (fun h=>?_) (fun h=>?_)<;>simp only [go_sem,seval,h]))
 all_goals exact fin (by rfl) (by simp_all [blank])
def pF (n : Int) : Bool:=(decide (97≤n) && decide (n≤122)) || (decide (65≤n) && decide (n≤90)) || n == 95
def isDigit (n : Int) : Bool:=decide (48≤n) && decide (n≤57)
theorem G9 (n : Int) (d : Bool) : PV Tryz.prog G0 79 [.int .u8 n,.bool d] (.bool (pF n || (d && isDigit n))):=by
 refine pv e79 (by simp) rfl rfl ?_
 simp only [go_sem,seval,c79]
 repeat' (first | (refine aY (fun h=>?_) (fun h=>?_)<;>simp only [go_sem,seval,h]) | (refine aj (fun h=>?_) (fun h=>?_)<;>simp only [go_sem,seval,h]) | (refine bF (fun h=>?_) (fun h=>?_)<;>simp only [go_sem,seval,h]) | (refine aS (fun h=>?_) (fun h=>?_)<;>simp only [go_sem,seval,h]) | (refine bg (fun h=>?_) (fun h=>?_)<;>simp only [go_sem,seval,h]) | (refine dB (fun h=>?_) (fun h=>?_)<;>simp only [go_sem,seval,h]))
 all_goals first
  | (refine ah (zS n) ?_;simp only [go_sem,seval, *];exact fin (by rfl) (by simp only [VV.bool.injEq];rw [Bool.eq_iff_iff];simp_all [pF,isDigit]<;>omega))
  | exact fin (by rfl) (by simp only [VV.bool.injEq];rw [Bool.eq_iff_iff];simp_all [pF,isDigit]<;>omega)
theorem GR (n : Int) (h : -9223372036854775808≤n∧n≤9223372036854775807) : IntKind.u64.wrap (0-IntKind.u64.wrap n)=if n=0 then 0 else if n < 0 then -n else 18446744073709551616-n:=by
 simp only [wu64]
 split
 ·omega
 ·split<;>omega
theorem YE (n : Int) (hn : -9223372036854775808≤n∧n≤9223372036854775807) : PV Tryz.prog G0 105 [.int .i64 n] (.int .u64 (n.natAbs : Int)):=by
 refine pv e105 (by simp) rfl rfl ?_
 simp only [go_sem,seval,c105]
 repeat' (first | (refine aY (fun h=>?_) (fun h=>?_)<;>simp only [go_sem,seval,h]) | (refine aj (fun h=>?_) (fun h=>?_)<;>simp only [go_sem,seval,h]) | (refine bF (fun h=>?_) (fun h=>?_)<;>simp only [go_sem,seval,h]) | (refine aS (fun h=>?_) (fun h=>?_)<;>simp only [go_sem,seval,h]) | (refine bg (fun h=>?_) (fun h=>?_)<;>simp only [go_sem,seval,h]) | (refine dB (fun h=>?_) (fun h=>?_)<;>simp only [go_sem,seval,h]))
 ·refine fin (by rfl) ?_
  rw [GR n hn]
  simp at h
  rw [if_neg (by omega),if_pos h]
  congr 1;omega
 ·refine fin (by rfl) ?_
  simp at h
  rw [wu64]
  congr 1;omega
def aZ (m : Nat) : Bs:=if m < 10 then [UInt8.ofNat (48+m)] else aZ (m / 10)++[UInt8.ofNat (48+m % 10)]
def uM (n : Int) : Bs:=if n < 0 then 45::aZ n.natAbs else aZ n.natAbs
theorem yR (m : Nat) : 1≤(aZ m).length:=by
 unfold aZ
 split<;>simp
theorem mY (m k : Nat) (h : m < 10 ^ (k+1)) : (aZ m).length≤k+1:=by
 induction k generalizing m with
 | zero=>unfold aZ;rw [if_pos (by omega)];simp
 | succ k ih =>
  unfold aZ
  split
  ·simp
  ·have:=ih (m / 10) (by rw [Nat.pow_succ] at h;omega)
   simp;omega
theorem Tz (n : Int) (hn : -9223372036854775808≤n∧n≤9223372036854775807) : PV Tryz.prog G0 59 [.int .i64 n] (.str (uM n)):=by
 refine pv e59 (by simp) rfl rfl ?_
 simp only [go_sem,seval,c59]
 refine ah (YE n hn) ?_
 simp only [go_sem,seval]
 have hlen : (aZ n.natAbs).length≤19:=mY _ 18 (by omega)
 refine aG (fun m ρ σ=>m≤n.natAbs∧∃ (buf : List VV) (sf : Bs) (p : Int),ρ.get 0=.int .i64 n∧ρ.get 3=.mptr 0 0∧ρ.get 4=.int .i64 p∧ρ.get 5=.int .u64 m∧σ=[.own buf] ∧
  buf.length=20∧(p+sf.length=20)∧buf.drop p.toNat=sf.map aK∧aZ n.natAbs=aZ m++sf) (n:=n.natAbs) ?_ ⟨Nat.le_refl _,_,[],20,rfl,rfl,rfl,rfl,rfl,rfl,rfl,rfl,by simp⟩
 rintro m ρ σ ⟨hm,buf,sf,p,h0,h3,h4,h5,rfl,h6,h7,h8,h9⟩
 have hm1:=yR m
 have hl : (aZ m).length+sf.length≤19:=by rw [h9] at hlen;simpa using hlen
 obtain ⟨q,rfl⟩ : ∃ q : Nat,p=(q : Int)+1:=⟨p.toNat-1,by omega⟩
 have e1 : IntKind.i64.wrap ((q : Int)+1-1)=q:=by rw [iw (by omega)];omega
 have e2 : IntKind.u64.wrap ((m : Int).tdiv 10)=((m / 10 : Nat) : Int):=by rw [show (10 : Int)=((10 : Nat) : Int) from rfl,Aj,uw (by omega)]
 have e3 : IntKind.u8.wrap (IntKind.u64.wrap (48+(m : Int).tmod 10))=((48+m % 10 : Nat) : Int):=by
  rw [show (10 : Int)=((10 : Nat) : Int) from rfl,Xw,uw (by omega),bw (by omega)];omega
 simp only [go_sem,seval,h0,h3,h4,h5,e1,e2,e3,Int.toNat_natCast,Nat.mul_one,Nat.zero_add,h6]
 have hq : q < 20:=by omega
 have hbuf : (buf.take q++VV.int .u8 ((48+m % 10 : Nat) : Int)::buf.drop (q+1)).drop q=(UInt8.ofNat (48+m % 10)::sf).map aK:=by
  rw [List.drop_append,List.drop_eq_nil_of_le (by simp;omega)]
  simp only [List.length_take,h6]
  rw [show q-min q 20=0 by omega,CW _ (by omega)]
  simp only [List.drop_zero,List.nil_append,List.map_cons]
  rw [← h8]
  congr 2
 have hbl : (buf.take q++VV.int .u8 ((48+m % 10 : Nat) : Int)::buf.drop (q+1)).length=20:=by simp [h6];omega
 generalize buf.take q++VV.int .u8 ((48+m % 10 : Nat) : Int)::buf.drop (q+1)=buf' at hbuf hbl
 refine ⟨by omega,by omega,aj (fun h=>?_) (fun h=>?_)⟩
 ·have hm0 : m < 10:=by simp at h;omega
  have hd : aZ n.natAbs=UInt8.ofNat (48+m % 10)::sf:=by rw [h9];unfold aZ;rw [if_pos hm0,Nat.mod_eq_of_lt hm0];rfl
  simp only [go_sem,seval,h0]
  have hq1 : (aZ n.natAbs).length+q=20:=by rw [hd];simp;omega
  refine aj (fun hc=>?_) (fun hc=>?_)
  ·obtain ⟨r,rfl⟩ : ∃ r : Nat,q=r+1:=⟨q-1,by omega⟩
   have e4 : IntKind.i64.wrap (((r+1 : Nat) : Int)-1)=r:=by rw [iw (by omega)];omega
   have e5 : (buf'.take r++VV.int .u8 45::buf'.drop (r+1)).drop r=(45::aZ n.natAbs).map aK:=by
    rw [List.drop_append,List.drop_eq_nil_of_le (by simp;omega)]
    simp only [List.length_take,hbl]
    rw [show r-min r 20=0 by omega]
    simp only [List.drop_zero,List.nil_append,List.map_cons,hbuf,hd]
    rfl
   have e6 : (buf'.take r++VV.int .u8 45::buf'.drop (r+1)).length=20:=by simp [hbl];omega
   have e7 : r+(20-r)≤20:=by omega
   have e8 : bytesOf (List.take (20-r) (aK 45::List.map aK (aZ n.natAbs)))=some (45::aZ n.natAbs):=by
    rw [← List.map_cons,List.take_of_length_le (by simp;omega),fF]
   simp only [go_sem,seval,h3,h0,e4,Int.toNat_natCast,Nat.mul_one,Nat.zero_add,hbl,e5,e6,e7,e8,fF]
   refine ⟨by omega,by omega,by omega,fin (by rfl) ?_⟩
   simp at hc
   simp [uM,hc]
  ·have e7 : q+(20-q)≤20:=by omega
   have e8 : ((aZ n.natAbs).map aK).take (20-q)=(aZ n.natAbs).map aK:=List.take_of_length_le (by simp;omega)
   rw [← hd] at hbuf
   simp only [go_sem,seval,h3,h0,Int.toNat_natCast,Nat.mul_one,Nat.zero_add,hbl,hbuf,e7,e8,fF]
   refine ⟨by omega,fin (by rfl) ?_⟩
   simp at hc
   simp [uM,show ¬ n < 0 by omega]
 ·simp only [go_sem,seval,h0,h3,h4,h5]
  refine ⟨m / 10,by simp at h;omega,by omega,buf',UInt8.ofNat (48+m % 10)::sf,(q : Int), ?_⟩
  have hm0 : ¬ m < 10:=by simp at h;omega
  have hd : aZ n.natAbs=aZ (m / 10)++UInt8.ofNat (48+m % 10)::sf:=by
   rw [h9]
   conv=>lhs;unfold aZ
   rw [if_neg hm0]
   simp
  and_intros
  all_goals first | rfl | exact hbl | exact hd | (simp only [Int.toNat_natCast];exact hbuf) | (simp;omega)
end Go.V
namespace Go.V
open Go.Proofs
set_option maxRecDepth 100000
theorem Ji {n : Int} (h : n < 0) : uM n=45::aZ n.natAbs:=by simp [uM,h]
theorem RV (m : Nat) : uM (m : Int)=aZ m:=by simp [uM]
theorem zJ {m : Nat} (h : m < 10) : aZ m=[UInt8.ofNat (48+m)]:=by unfold aZ;rw [if_pos h]
theorem DC {m : Nat} (h : ¬ m < 10) : aZ m=aZ (m / 10)++[UInt8.ofNat (48+m % 10)]:=by
 conv=>lhs;unfold aZ
 rw [if_neg h]
theorem uO (m : Nat) (hm : m≤9223372036854775807) : PV Tryz.prog G0 43 [.int .i64 m] (.str (aZ m)):=by
 induction m using Nat.strongRecOn with
 | _ m ih =>
 refine pv e43 (by simp) rfl rfl ?_
 have h1 : ((m : Int) == -9223372036854775808)=false:=by simp
 have h2 : decide ((m : Int) < 0)=false:=by simp
 simp only [go_sem,seval,c43,h1,h2]
 refine aj (fun h=>?_) (fun h=>?_)
 ·simp at h
  have e1 : IntKind.u8.wrap (IntKind.i64.wrap (48+(m : Int)))=((48+m : Nat) : Int):=by rw [iw (by omega),bw (by omega)];omega
  have e3 : bytesOf [VV.int .u8 ((48+m : Nat) : Int)]=some [UInt8.ofNat (48+m)]:=by
   rw [CW _ (by omega),← List.map_nil,← List.map_cons,fF]
  simp only [go_sem,seval,e1,e3]
  exact fin (by rfl) (by rw [zJ (by omega)])
 ·simp at h
  have e1 : IntKind.i64.wrap (Int.tdiv (m : Int) 10)=((m / 10 : Nat) : Int):=by rw [show (10 : Int)=((10 : Nat) : Int) from rfl,Aj,iw (by omega)]
  have e2 : IntKind.u8.wrap (IntKind.i64.wrap (48+Int.tmod (m : Int) 10))=((48+m % 10 : Nat) : Int):=by
   rw [show (10 : Int)=((10 : Nat) : Int) from rfl,Xw,iw (by omega),bw (by omega)];omega
  have e3 : bytesOf [VV.int .u8 ((48+m % 10 : Nat) : Int)]=some [UInt8.ofNat (48+m % 10)]:=by
   rw [CW _ (by omega),← List.map_nil,← List.map_cons,fF]
  simp only [go_sem,seval,e1,e2,e3]
  refine aC (ih (m / 10) (by omega) (by omega)) (by simp only [go_sem,seval,e1,e2,e3]) ?_<;>simp only [go_sem,seval,e1,e2,e3]
  have hl:=mY (m / 10) 18 (by omega)
  refine ⟨by omega,fin (by rfl) (by rw [DC (m:=m) (by omega)])⟩
theorem Oy (n : Int) (hn : -9223372036854775808≤n∧n≤9223372036854775807) : PV Tryz.prog G0 43 [.int .i64 n] (.str (uM n)):=by
 by_cases hneg : n < 0
 ·refine pv e43 (by simp) rfl rfl ?_
  simp only [go_sem,seval,c43]
  refine aj (fun h=>?_) (fun h=>?_)
  ·simp at h
   simp only [go_sem,seval,h]
   refine fin (by rfl) ?_
   subst h
   rw [Ji (by omega)]
   congr 1
   decide +kernel
  ·simp at h
   obtain ⟨m,rfl⟩ : ∃ m : Nat,n=-(m : Int):=⟨n.natAbs,by omega⟩
   have h1 : decide (-(m : Int) < 0)=true:=by simp;omega
   have e1 : IntKind.i64.wrap (0 - -(m : Int))=m:=by rw [iw (by omega)];omega
   simp only [go_sem,seval,h1,e1]
   refine ah (uO m (by omega)) ?_<;>simp only [go_sem,seval]
   have hl:=mY m 18 (by omega)
   refine ⟨by omega,fin (by rfl) ?_⟩
   rw [Ji hneg]
   simp
 ·obtain ⟨m,rfl⟩ : ∃ m : Nat,n=(m : Int):=⟨n.toNat,by omega⟩
  rw [RV]
  exact uO m (by omega)
def wU (n : Nat) : UInt8:=if n < 10 then UInt8.ofNat (48+n) else UInt8.ofNat (87+n)
def dH (c : UInt8) : Bs :=
 if c.toNat=34∨c.toNat=92 then [92,c] else if c.toNat=10 then [92,110] else if c.toNat=9 then [92,116] else if c.toNat=13 then [92,114]
 else if c.toNat < 32∨126 < c.toNat then [92,120,wU (c.toNat / 16),wU (c.toNat % 16)] else [c]
def jW (s : Bs) : Bs:=34::(s.flatMap dH++[34])
theorem Uc (m : Nat) (h : m < 16) : PV Tryz.prog G0 122 [.int .u8 m] (.int .u8 (wU m).toNat):=by
 refine pv e122 (by simp) rfl rfl ?_
 simp only [go_sem,seval,c122]
 repeat' (first | (refine aY (fun h=>?_) (fun h=>?_)<;>simp only [go_sem,seval,h]) | (refine aj (fun h=>?_) (fun h=>?_)<;>simp only [go_sem,seval,h]) | (refine bF (fun h=>?_) (fun h=>?_)<;>simp only [go_sem,seval,h]) | (refine aS (fun h=>?_) (fun h=>?_)<;>simp only [go_sem,seval,h]) | (refine bg (fun h=>?_) (fun h=>?_)<;>simp only [go_sem,seval,h]) | (refine dB (fun h=>?_) (fun h=>?_)<;>simp only [go_sem,seval,h]))
 ·simp at h
  refine fin (by rfl) ?_
  rw [bw (by omega),wU,if_pos (by omega),UInt8.toNat_ofNat']
  congr 1;omega
 ·simp at h
  refine fin (by rfl) ?_
  rw [Qs,Qs,wU,if_neg (by omega),UInt8.toNat_ofNat']
  congr 1;omega
theorem vU : ∀ s : Bs,VV.ak (s.map aK)=true
 | []=>rfl
 | b::s=>by simp only [List.map_cons,VV.ak,aK,VV.isPure,Bool.true_and];exact vU s
theorem aas (c : UInt8) : PV Tryz.prog G0 73 [.int .u8 c.toNat] (.sl (dH c).length ((dH c).map aK) true):=by
 refine pv e73 (by simp) rfl (by simp only [VV.isPure];exact vU _) ?_
 have hc:=c.toNat_lt
 have hp : (VV.sl (dH c).length ((dH c).map aK) true).isPure=true:=by simp only [VV.isPure];exact vU _
 have e1 : IntKind.u8.wrap (Int.tdiv (c.toNat : Int) 16)=((c.toNat / 16 : Nat) : Int):=by rw [show (16 : Int)=((16 : Nat) : Int) from rfl,Aj,bw (by omega)]
 have e2 : Int.tmod (c.toNat : Int) 16=((c.toNat % 16 : Nat) : Int):=rfl
 simp only [go_sem,seval,c73]
 repeat' (first | (refine aY (fun h=>?_) (fun h=>?_)<;>simp only [go_sem,seval,h,e1,e2]) | (refine aj (fun h=>?_) (fun h=>?_)<;>simp only [go_sem,seval,h,e1,e2]) | (refine bF (fun h=>?_) (fun h=>?_)<;>simp only [go_sem,seval,h,e1,e2]) | (refine aS (fun h=>?_) (fun h=>?_)<;>simp only [go_sem,seval,h,e1,e2]) | (refine bg (fun h=>?_) (fun h=>?_)<;>simp only [go_sem,seval,h,e1,e2]) | (refine dB (fun h=>?_) (fun h=>?_)<;>simp only [go_sem,seval,h,e1,e2]))
 all_goals try (refine ah (Uc (c.toNat / 16) (by omega)) ?_<;>simp only [go_sem,seval,e1,e2])
 all_goals try (refine ah (Uc (c.toNat % 16) (by omega)) ?_<;>simp only [go_sem,seval,e1,e2])
 all_goals
  refine fin hp ?_
  simp only [beq_iff_eq,beq_eq_false_iff_ne,decide_eq_true_eq,decide_eq_false_iff_not,ne_eq] at *
  unfold dH
  repeat' split
 all_goals first
  | (exfalso;omega)
  | rfl
  | (rename_i hh;simp [aK];omega)
def jU (σ : Store) (v : VV) (b : Bs) : Prop :=
 (v=.nils∧b=[])∨v=.sl b.length (b.map aK) true∨∃ id,v=.dP id 0 b.length 1∧σ[id]?=some (.own (b.map aK))
def Kept (σ : Store) (v : VV) (σ' : Store) : Prop:=σ.length≤σ'.length∧∀ j,j < σ.length→(∀ o n z,v≠.dP j o n z)→σ'[j]?=σ[j]?
theorem Kept.rfl {σ : Store} {v : VV} : Kept σ v σ:=⟨Nat.le_refl _,fun _ _ _=>Eq.refl _⟩
theorem jU.conv {σ : Store} {v : VV} {b : Bs} (h : jU σ v b) : iI Tryz.prog 59 9 v σ=some ⟨True,.str b,σ⟩:=by
 rcases h with ⟨rfl,rfl⟩ | rfl | ⟨id,rfl,h⟩
 ·simp only [go_sem,seval,bytesOf];rfl
 ·simp only [go_sem,seval,List.length_map,Nat.mul_one,fF]
 ·simp only [go_sem,seval,h,List.length_map,Nat.mul_one,Nat.zero_add,Nat.le_refl,fF]
  rw [List.take_of_length_le (by simp),fF]
  rfl
theorem gQ {P : Program} {σ : Store} {t : TypeId} {s : Bs} (h : jE P t=true) : aJ P σ 1 t (.str s)=some (s.length,s.map aK):=by simp [aJ,h]
theorem jU.src {P : Program} {σ : Store} {t e : TypeId} {v : VV} {b : Bs} (hB : jU σ v b) (h : jh P t=some e) : aJ P σ 1 t v=some (b.length,b.map aK):=by
 rcases hB with ⟨rfl,rfl⟩ | rfl | ⟨id,rfl,hid⟩
 ·simp [aJ,h,mJ,fG]
 ·simp [aJ,h,mJ,fG]
 ·simp only [aJ,h,mJ,fG,iH,hid]
  rw [if_pos (by simp)]
  simp only [Nat.mul_one,List.drop_zero]
  rw [List.take_of_length_le (by simp)]
theorem jU.append {σ : Store} {v x : VV} {b c : Bs} {tx : TypeId} (hB : jU σ v b) (hx : aJ Tryz.prog σ 1 tx x=some (c.length,c.map aK)) (hl : b.length+c.length≤1000000000) :
  ∃ out,cu Tryz.prog 59 tx v x σ=some out∧out.pre∧jU out.st out.val (b++c)∧Kept σ v out.st:=by
 have ht : jh Tryz.prog 59=some 5:=by kernel_rfl
 have hz : fV Tryz.prog 5=some 1:=by kernel_rfl
 have hb : zZ Tryz.prog 5=some 1:=by kernel_rfl
 have h0 : bU Tryz.prog 5=some [.int .u8 0]:=by kernel_rfl
 unfold cu
 simp only [ht,hz,hb,h0,hx]
 have hnew : ∀ (σ₁ : Store) (cells : List VV),cells=(b++c).map aK→jU (σ₁++[.own cells]) (.dP σ₁.length 0 (b++c).length 1) (b++c):=fun σ₁ cells hc=>.inr (.inr ⟨σ₁.length,rfl,by simp [hc]⟩)
 rcases hB with ⟨rfl,rfl⟩ | rfl | ⟨id,rfl,hid⟩
 ·by_cases hc : c.length=0
  ·rw [if_pos hc]
   have : c=[]:=List.eq_nil_of_length_eq_zero hc
   subst this
   exact ⟨_,rfl,trivial,.inl ⟨rfl,rfl⟩,Kept.rfl⟩
  ·rw [if_neg hc]
   refine ⟨_,rfl,⟨by simp at hl;omega,by simp at hl;omega,by simp,by omega,jr _,rfl⟩, ?_,by simp,fun j hj _=>by simp [List.getElem?_append,hj]⟩
   simpa using hnew σ (c.map aK) (by simp)
 ·by_cases hc : c.length=0
  ·rw [if_pos hc]
   have : c=[]:=List.eq_nil_of_length_eq_zero hc
   subst this
   exact ⟨_,rfl,trivial,.inr (.inl (by simp)),Kept.rfl⟩
  ·simp only [if_neg hc,if_true]
   refine ⟨_,rfl,⟨⟨by omega,by omega,by simp,by omega,jr _,rfl⟩,by simp,jr _⟩, ?_,by simp,fun j hj _=>by simp [List.getElem?_append,hj]⟩
   have:=hnew σ (b.map aK++c.map aK) (by simp)
   simpa using this
 ·simp only [hid,if_true]
  have hlt : id < σ.length:=(List.getElem?_eq_some_iff.1 hid).1
  refine ⟨_,rfl,⟨⟨by omega,by omega,by simp,by omega,jr _,rfl⟩,by simp, ?_⟩, ?_,by simp,fun j hj hv=>?_⟩
  ·simp only [List.drop_zero,Nat.mul_one]
   rw [List.take_of_length_le (by simp)]
   exact jr _
  ·have e : ((b.map aK).drop 0).take (b.length*1)++c.map aK=(b++c).map aK:=by
    rw [List.drop_zero,Nat.mul_one,List.take_of_length_le (by simp),List.map_append]
   refine .inr (.inr ⟨σ.length,by simp, ?_⟩)
   simp only [e]
   rw [List.getElem?_append_right (by simp)]
   simp
  ·have hne : id≠j:=fun e=>hv 0 b.length 1 (by rw [e])
   simp only
   rw [List.getElem?_append_left (by simpa using hj),List.getElem?_set_ne hne]
end Go.V
namespace Go.V
open Go.Proofs
set_option maxRecDepth 100000
theorem jU.dU {σ : Store} {v x : VV} {b c : Bs} {tx : TypeId} (hB : jU σ v b) (hx : aJ Tryz.prog σ 1 tx x=some (c.length,c.map aK)) (hl : b.length+c.length≤1000000000)
  {d : Nat} {r : List VO} {Q : Out→Env→Store→Prop} {ρ : Env} (h : ∀ v' σ',jU σ' v' (b++c)→Kept σ v σ'→dQ Tryz.prog G0 r Q ((d,v')::ρ) σ') : eU Tryz.prog G0 (cu Tryz.prog 59 tx v x σ) (some d) r Q ρ:=by
 obtain ⟨out,h1,h2,h3,h4⟩:=hB.append hx hl
 rw [h1]
 exact ⟨h2,h _ _ h3 h4⟩
theorem jU.Ju {σ : Store} {v x : VV} {b c : Bs} {tx : TypeId} (hB : jU σ v b) (hx : aJ Tryz.prog σ 1 tx x=some (c.length,c.map aK)) (hl : b.length+c.length≤1000000000)
  {d : Option Nat} {chk : List Nat} {pd : sG} {r : List DO} {Q : Out→Env→Store→Prop} {ρ : Env} (h : ∀ v' σ',jU σ' v' (b++c)→Kept σ v σ'→iK Tryz.prog G0 chk pd σ'∧bH Tryz.prog G0 r pd Q (eP ρ d v') σ') : oH Tryz.prog G0 (cu Tryz.prog 59 tx v x σ) d chk r pd Q ρ:=by
 obtain ⟨out,h1,h2,h3,h4⟩:=hB.append hx hl
 rw [h1]
 exact ⟨h2,h _ _ h3 h4⟩
theorem kC {σ : Store} {c : Bs} {g : Bool} : aJ Tryz.prog σ 1 59 (.sl c.length (c.map aK) g)=some (c.length,c.map aK):=by
 have ht : jh Tryz.prog 59=some 5:=by kernel_rfl
 simp [aJ,ht,mJ,fG]
theorem JO (s : Bs) (hs : s.length≤10000000) : PV Tryz.prog G0 44 [.str s] (.str (jW s)):=by
 refine pv e44 (by simp) rfl rfl ?_
 simp only [go_sem,seval,c44]
 have hql : ∀ c,(dH c).length≤4:=by intro c;unfold dH;grind
 have hfl : ∀ l : Bs,(l.flatMap dH).length≤4*l.length:=by
  intro l
  induction l with
  | nil=>simp
  | cons c l ih=>have:=hql c;simp only [List.flatMap_cons,List.length_append,List.length_cons];omega
 refine aG (fun m ρ σ=>∃ (i : Nat) (v : VV),m=s.length-i∧i≤s.length∧ρ.get 0=.str s∧ρ.get 3=v∧ρ.get 7=.int .i64 s.length∧ρ.get 8=.int .i64 i∧jU σ v (34::(s.take i).flatMap dH)) (n:=s.length) ?_
  ⟨0,_,by simp,by simp,rfl,rfl,rfl,rfl,.inr (.inl rfl)⟩
 rintro m ρ σ ⟨i,v,rfl,hi,h0,h3,h7,h8,hB⟩
 simp only [go_sem,seval,h0,h3,h7,h8]
 refine aj (fun h=>?_) (fun h=>?_)
 ·simp at h
  have e1 : s.getD i 0=s[i]:=by simp [List.getD_eq_getElem?_getD,h]
  have hlen:=hfl (s.take i)
  simp only [List.length_take] at hlen
  simp only [go_sem,seval,h0,h3,h7,h8,Int.toNat_natCast,e1]
  refine ⟨by omega, ?_⟩
  refine ah (aas s[i]) ?_<;>simp only [go_sem,seval,h0,h3,h7,h8]
  have:=hql s[i]
  refine hB.dU kC (by simp only [List.length_cons,List.length_map];omega) fun v' σ' hB' hK=>?_
  have e2 : IntKind.i64.wrap ((i : Int)+1)=((i+1 : Nat) : Int):=by rw [iw (by omega)];omega
  simp only [go_sem,seval,h0,h3,h7,h8,e2]
  refine ⟨s.length-(i+1),by omega,i+1,v',rfl,h, ?_⟩
  have : (34::(s.take (i+1)).flatMap dH)=34::(s.take i).flatMap dH++dH s[i]:=by
   rw [List.take_succ_eq_append_getElem h,List.flatMap_append];simp
  rw [this]
  and_intros
  all_goals first | rfl | exact hB'
 ·simp at h
  have e1 : s.take i=s:=List.take_of_length_le (by omega)
  have hlen:=hfl s
  rw [e1] at hB
  simp only [go_sem,seval,h0,h3,h7,h8]
  have hx : aJ Tryz.prog σ 1 59 (.sl 1 [.int .u8 34] true)=some (([34] : Bs).length,([34] : Bs).map aK):=kC (c:=[34])
  refine hB.dU hx (by simp only [List.length_cons,List.length_nil];omega) fun v' σ' hB' hK=>?_
  simp only [go_sem,seval,hB'.conv]
  exact fin (by rfl) (by simp [jW])
end Go.V
namespace Go.V
open Go.Proofs
set_option maxRecDepth 100000
def iF (c : UInt8) : Nat:=if c.toNat=34 then 34 else if c.toNat=92 then 92 else if c.toNat=10 then 110 else if c.toNat=9 then 116 else if c.toNat=13 then 114 else 0
theorem EM : PV Tryz.prog G0 150 [] (.agg [.int .u8 34,.int .u8 34,.int .u8 92,.int .u8 92,.int .u8 10,.int .u8 110,.int .u8 9,.int .u8 116,.int .u8 13,.int .u8 114]):=by
 refine pv e150 (by simp) rfl rfl ?_
 simp only [go_sem,seval,c150]
 exact fin (by rfl) rfl
theorem GZ (c : UInt8) : PV Tryz.prog G0 106 [.int .u8 c.toNat] (.int .u8 (iF c)):=by
 refine pv e106 (by simp) rfl rfl ?_
 simp only [go_sem,seval,c106]
 refine ah (EM) ?_<;>simp only [go_sem,seval]
 iterate 5
  refine dI ?_
  simp only [go_sem,seval,Nat.lt_irrefl]
  refine aj (fun h=>?_) (fun h=>?_)
  ·simp only [go_sem,seval]
   refine fin (by rfl) ?_
   simp only [beq_iff_eq,beq_eq_false_iff_ne,ne_eq] at *
   unfold iF
   repeat' split
   all_goals first | rfl | (exfalso;omega)
  simp only [go_sem,seval]
 refine dI ?_
 simp only [go_sem,seval]
 refine fin (by rfl) ?_
 simp only [beq_iff_eq,beq_eq_false_iff_ne,ne_eq] at *
 unfold iF
 repeat' split
 all_goals first | rfl | (exfalso;omega)
theorem aa6 (n : Nat) : Int.fdiv (n : Int) (2 ^ min (Int.toNat 4) IntKind.u8.bits)=((n / 16 : Nat) : Int):=by
 rw [show (2 : Int) ^ min (Int.toNat 4) IntKind.u8.bits=((16 : Nat) : Int) from rfl,Int.fdiv_eq_ediv_of_nonneg _ (by omega)]
 omega
theorem ZX (n : Nat) (h : n < 256) : IntKind.u8.wrap ((BitVec.ofInt IntKind.u8.bits (n : Int) &&& BitVec.ofInt IntKind.u8.bits 15).toNat : Int)=((n % 16 : Nat) : Int):=by
 have : (BitVec.ofInt IntKind.u8.bits (n : Int) &&& BitVec.ofInt IntKind.u8.bits 15).toNat=n % 16:=by
  rw [BitVec.toNat_and]
  have e1 : (BitVec.ofInt IntKind.u8.bits (n : Int)).toNat=n:=by
   simp [BitVec.toNat_ofInt,IntKind.bits];omega
  have e2 : (BitVec.ofInt IntKind.u8.bits 15).toNat=15:=rfl
  rw [e1,e2,show (15 : Nat)=2 ^ 4-1 from rfl,Nat.and_two_pow_sub_one_eq_mod]
 rw [this,bw (by omega)]
theorem D6 (n : Nat) : Int.fdiv (n : Int) (2 ^ min 4 8)=((n / 16 : Nat) : Int):=aa6 n
def hexDigits : Bs:=[48,49,50,51,52,53,54,55,56,57,97,98,99,100,101,102]
theorem uS : ∀ k : Nat,k < 16→hexDigits.getD k 0=wU k:=by decide
theorem Dw (c : UInt8) (h : 0 < iF c) : dH c=[92,UInt8.ofNat (iF c)]:=by
 have hc:=c.toNat_lt
 unfold iF at *
 unfold dH
 by_cases h1 : c.toNat=34
 ·have : c=34:=UInt8.toNat_inj.1 (by rw [h1];rfl)
  subst this;rfl
 by_cases h2 : c.toNat=92
 ·have : c=92:=UInt8.toNat_inj.1 (by rw [h2];rfl)
  subst this;rfl
 by_cases h3 : c.toNat=10
 ·simp [h3]
 by_cases h4 : c.toNat=9
 ·simp [h4]
 by_cases h5 : c.toNat=13
 ·simp [h5]
 simp [h1,h2,h3,h4,h5] at h
theorem Gt (c : UInt8) (h : iF c=0) : dH c=if c.toNat < 32∨126 < c.toNat then [92,120,wU (c.toNat / 16),wU (c.toNat % 16)] else [c]:=by
 unfold iF at h
 unfold dH
 by_cases h1 : c.toNat=34
 ·simp [h1] at h
 by_cases h2 : c.toNat=92
 ·simp [h1,h2] at h
 by_cases h3 : c.toNat=10
 ·simp [h3] at h
 by_cases h4 : c.toNat=9
 ·simp [h4] at h
 by_cases h5 : c.toNat=13
 ·simp [h5] at h
 simp [h1,h2,h3,h4,h5]
theorem JB (c : UInt8) : iF c < 256:=by unfold iF;grind
theorem Nz (s : Bs) (hs : s.length≤10000000) : PV Tryz.prog G0 60 [.str s] (.str (jW s)):=by
 refine pv e60 (by simp) rfl rfl ?_
 have e0 : IntKind.i64.wrap ((s.length : Int)+2)=s.length+2:=iw (by omega)
 simp only [go_sem,seval,c60,e0]
 refine ⟨by omega, ?_⟩
 have hB0 : jU [.own []] (.dP 0 0 0 1) []:=.inr (.inr ⟨0,rfl,rfl⟩)
 have hx : ∀ σ,aJ Tryz.prog σ 1 59 (.sl 1 [.int .u8 34] true)=some (([34] : Bs).length,([34] : Bs).map aK):=fun σ=>kC (c:=[34])
 refine hB0.dU (hx _) (by simp) fun v₁ σ₁ hB₁ hK=>?_
 simp only [go_sem,seval]
 have hql : ∀ c,(dH c).length≤4:=by intro c;unfold dH;grind
 have hfl : ∀ l : Bs,(l.flatMap dH).length≤4*l.length:=by
  intro l
  induction l with
  | nil=>simp
  | cons c l ih=>have:=hql c;simp only [List.flatMap_cons,List.length_append,List.length_cons];omega
 refine aG (fun m ρ σ=>∃ (i : Nat) (v : VV),m=s.length-i∧i≤s.length∧ρ.get 0=.str s∧ρ.get 3=v∧ρ.get 15=.int .i64 s.length∧ρ.get 16=.int .i64 i∧jU σ v (34::(s.take i).flatMap dH)) (n:=s.length) ?_
  ⟨0,_,by simp,by simp,rfl,rfl,rfl,rfl,hB₁⟩
 rintro m ρ σ ⟨i,v,rfl,hi,h0,h3,h7,h8,hB⟩
 simp only [go_sem,seval,h0,h3,h7,h8]
 refine aj (fun h=>?_) (fun h=>?_)
 ·simp at h
  have hc:=s[i].toNat_lt
  have hlen:=hfl (s.take i)
  simp only [List.length_take] at hlen
  have eg : s.getD i 0=s[i]:=by simp [List.getD_eq_getElem?_getD,h]
  have e2 : IntKind.i64.wrap ((i : Int)+1)=((i+1 : Nat) : Int):=by rw [iw (by omega)];omega
  have nx : ∀ {v' : VV} {σ' : Store},jU σ' v' (34::(s.take i).flatMap dH++dH s[i])→jU σ' v' (34::(s.take (i+1)).flatMap dH):=by
   intro v' σ' hB'
   have : (34::(s.take (i+1)).flatMap dH)=34::(s.take i).flatMap dH++dH s[i]:=by
    rw [List.take_succ_eq_append_getElem h,List.flatMap_append];simp
   rw [this];exact hB'
  simp only [go_sem,seval,h0,h3,h7,h8,Int.toNat_natCast,eg]
  refine ⟨by omega, ?_⟩
  refine ah (GZ s[i]) ?_<;>simp only [go_sem,seval,h0,h3,h7,h8]
  have app : ∀ (c : Bs),c.length≤4→dH s[i]=c→∀ (x : VV) {d : Nat} {r : List VO} {Q : Out→Env→Store→Prop} {ρ : Env},x=.sl c.length (c.map aK) true →
    (∀ v' σ',jU σ' v' (34::(s.take i).flatMap dH++dH s[i])→dQ Tryz.prog G0 r Q ((d,v')::ρ) σ')→eU Tryz.prog G0 (cu Tryz.prog 59 59 v x σ) (some d) r Q ρ:=by
   rintro c hcl hq x d r Q ρ rfl hk
   exact hB.dU kC (by simp only [List.length_cons];omega) fun v' σ' hB' _=>hk v' σ' (by rw [hq];exact hB')
  refine aj (fun hl=>?_) (fun hl=>?_)
  ·simp only [go_sem,seval,h0,h3,h7,h8]
   have hl' : 0 < iF s[i]:=by simpa using hl
   refine app [92,UInt8.ofNat (iF s[i])] (by simp) (Dw _ hl') _ ?_ fun v' σ' hB'=>?_
   ·have:=JB s[i]
    simp only [List.length_cons,List.length_nil,List.map_cons,List.map_nil]
    rw [CW _ this]
    rfl
   ·simp only [go_sem,seval,h0,h3,h7,h8,e2]
    refine ⟨s.length-(i+1),by omega,i+1,v',rfl,h, ?_⟩
    and_intros
    all_goals first | rfl | exact nx hB'
  ·have hl' : iF s[i]=0:=by simp at hl;omega
   have hq:=Gt s[i] hl'
   have plain : ¬ (s[i].toNat < 32∨126 < s[i].toNat)→dH s[i]=[s[i]]:=fun h=>by rw [hq,if_neg h]
   have hex : (s[i].toNat < 32∨126 < s[i].toNat)→dH s[i]=[92,120,wU (s[i].toNat / 16),wU (s[i].toNat % 16)]:=fun h=>by rw [hq,if_pos h]
   have g1:=uS (s[i].toNat / 16) (by omega)
   have g2:=uS (s[i].toNat % 16) (by omega)
   unfold hexDigits at g1 g2
   simp only [go_sem,seval,h0,h3,h7,h8]
   have hexcase : ∀ {d : Option Nat} {chk : List Nat} {pd : sG} {r : List DO} {Q : Out→Env→Store→Prop} {ρ : Env},(s[i].toNat < 32∨126 < s[i].toNat) →
     (∀ v' σ',jU σ' v' (34::(s.take i).flatMap dH++dH s[i])→iK Tryz.prog G0 chk pd σ'∧bH Tryz.prog G0 r pd Q (eP ρ d v') σ') →
     oH Tryz.prog G0 (cu Tryz.prog 59 59 v (.sl 4 [.int .u8 92,.int .u8 120,.int .u8 (wU (s[i].toNat / 16)).toNat,.int .u8 (wU (s[i].toNat % 16)).toNat] true) σ) d chk r pd Q ρ:=by
    intro d chk pd r Q ρ hh hk
    exact hB.Ju (kC (c:=[92,120,wU (s[i].toNat / 16),wU (s[i].toNat % 16)])) (by simp only [List.length_cons,List.length_nil];omega) fun v' σ' hB' _=>hk v' σ' (by rw [hex hh];exact hB')
   have a15:=ZX _ hc
   simp only [go_sem,seval] at a15
   repeat' (first | (refine aY (fun h=>?_) (fun h=>?_)<;>simp only [go_sem,seval,h,h0,h3,h7,h8,D6,a15,Int.toNat_natCast,g1,g2]) | (refine aj (fun h=>?_) (fun h=>?_)<;>simp only [go_sem,seval,h,h0,h3,h7,h8,D6,a15,Int.toNat_natCast,g1,g2]) | (refine bF (fun h=>?_) (fun h=>?_)<;>simp only [go_sem,seval,h,h0,h3,h7,h8,D6,a15,Int.toNat_natCast,g1,g2]) | (refine aS (fun h=>?_) (fun h=>?_)<;>simp only [go_sem,seval,h,h0,h3,h7,h8,D6,a15,Int.toNat_natCast,g1,g2]) | (refine bg (fun h=>?_) (fun h=>?_)<;>simp only [go_sem,seval,h,h0,h3,h7,h8,D6,a15,Int.toNat_natCast,g1,g2]) | (refine dB (fun h=>?_) (fun h=>?_)<;>simp only [go_sem,seval,h,h0,h3,h7,h8,D6,a15,Int.toNat_natCast,g1,g2]))
   ·rename_i h126
    simp at h126 h
    refine ⟨by omega,by omega, ?_⟩
    refine hexcase (by omega) fun v' σ' hB'=>?_
    simp only [go_sem,seval,h0,h3,h7,h8,e2]
    refine ⟨s.length-(i+1),by omega,i+1,v',rfl,by omega, ?_⟩
    and_intros
    all_goals first | rfl | exact nx hB'
   ·rename_i h126
    simp at h126 h
    refine app [s[i]] (by simp) (plain (by omega)) _ rfl fun v' σ' hB'=>?_
    simp only [go_sem,seval,h0,h3,h7,h8,e2]
    refine ⟨s.length-(i+1),by omega,i+1,v',rfl,by omega, ?_⟩
    and_intros
    all_goals first | rfl | exact nx hB'
   ·simp at h
    refine ⟨by omega,by omega, ?_⟩
    refine hexcase (by omega) fun v' σ' hB'=>?_
    simp only [go_sem,seval,h0,h3,h7,h8,e2]
    refine ⟨s.length-(i+1),by omega,i+1,v',rfl,by omega, ?_⟩
    and_intros
    all_goals first | rfl | exact nx hB'
 ·simp at h
  have e1 : s.take i=s:=List.take_of_length_le (by omega)
  have hlen:=hfl s
  rw [e1] at hB
  simp only [go_sem,seval,h0,h3,h7,h8]
  refine hB.dU (hx _) (by simp only [List.length_cons,List.length_nil];omega) fun v' σ' hB' hK=>?_
  simp only [go_sem,seval,hB'.conv]
  exact fin (by rfl) (by simp [jW])
end Go.V
