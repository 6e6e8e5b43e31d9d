/- Texts B0 F1 F2 F3 F4 F5. -/
import Derived.IntWalk
import Derived.Test.YthhjefemijhamaaGreatDoorG14
set_option linter.unusedVariables false
set_option linter.unusedSimpArgs false
namespace Go.V
open Go.Proofs
abbrev Bs:=List UInt8
def signTexts : List (List UInt8):=[[46,46],[61,61],[33,61],[60,61],[62,61],[38,38],[124,124],[91],[93],[123],[125],[60],[62],[40],[41],[44],[58],[46],[42],[63],[33],[36],[64]]
def deBruijn : List Int:=[0,1,28,2,29,14,24,3,30,22,20,15,25,17,4,8,31,27,13,23,21,19,16,7,26,12,18,6,11,5,10,9]
def G0 (g : Nat) : Option (List VV):=if g=1 then some (signTexts.map .str) else if g=2 then some (deBruijn.map fun n=>.int .u8 n) else if g=0 then some [.ifc 222 (.agg [.raw ⟨3,50,none⟩])] else none
theorem G0p : GPure G0:=by
 intro g cells h
 unfold G0 at h
 split at h
 ·cases h;decide
 ·split at h
  ·cases h;decide
  ·split at h
   ·cases h;rfl
   ·cases h
theorem pv {f : FuncId} {F : FnV} {ys : List VV} {x : VV} (hf : fnV Tryz.prog lab f=some F) (hn : ys.length≤F.n) (hp : VV.arePure ys=true) (hx : x.isPure=true)
  (h : wpV Tryz.prog G0 F.code (retW Tryz.prog F.res fun r σ=>∃ y n,r=.ret y∧fz n (σ.map Obj.fr) y=some x) (paramEnv 0 ys) []) : PV Tryz.prog G0 f ys x :=
 PV_of G0p mix hf hn hp hx h
theorem cv {f : FuncId} {F : FnV} {xs : List VV} {σ : Store} {R : CRes→Store→Prop} (hf : fnV Tryz.prog lab f=some F) (hn : xs.length≤F.n)
  (h : wpV Tryz.prog G0 F.code (retW Tryz.prog F.res R) (paramEnv 0 xs) σ) : CV Tryz.prog G0 f xs σ R:=CV_of mix hf hn h
theorem fin {σ : Store} {x y : VV} (h : x.isPure=true) (e : y=x) : ∃ z n,CRes.ret y=CRes.ret z∧fz n σ z=some x:=⟨y,0,rfl,by rw [e];exact fz_pure h⟩
theorem wu8 (n : Int) : IntKind.u8.wrap n=n % 256:=by simp [IntKind.wrap,IntKind.bits,IntKind.signed]
theorem wu32 (n : Int) : IntKind.u32.wrap n=n % 4294967296:=by simp [IntKind.wrap,IntKind.bits,IntKind.signed]
theorem wu64 (n : Int) : IntKind.u64.wrap n=n % 18446744073709551616:=by simp [IntKind.wrap,IntKind.bits,IntKind.signed]
theorem wi64 (n : Int) : IntKind.i64.wrap n=(n+9223372036854775808) % 18446744073709551616-9223372036854775808:=by
 rw [IntKind.wrap_i64]
theorem iw {n : Int} (h : -9223372036854775808≤n∧n≤9223372036854775807) : IntKind.i64.wrap n=n:=by rw [wi64];omega
theorem uw {n : Int} (h : 0≤n∧n < 18446744073709551616) : IntKind.u64.wrap n=n:=by rw [wu64];omega
theorem bw {n : Int} (h : 0≤n∧n < 256) : IntKind.u8.wrap n=n:=by rw [wu8];omega
theorem tdivN (m k : Nat) : Int.tdiv (m : Int) (k : Int)=((m / k : Nat) : Int):=rfl
theorem tmodN (m k : Nat) : Int.tmod (m : Int) (k : Int)=((m % k : Nat) : Int):=rfl
theorem bytesOf_cells (s : Bs) : bytesOf (s.map byteCell)=some s:=by
 unfold bytesOf
 induction s with
 | nil=>rfl
 | cons b s ih =>
  simp only [List.map_cons,List.mapM_cons,ih,byteCell]
  simp
theorem cellOf (n : Int) (h : 0≤n∧n < 256) : VV.int .u8 n=byteCell (UInt8.ofNat n.toNat):=by
 simp only [byteCell,VV.int.injEq,true_and]
 rw [UInt8.toNat_ofNat']
 omega
theorem cellN (m : Nat) (h : m < 256) : VV.int .u8 (m : Int)=byteCell (UInt8.ofNat m):=by
 rw [cellOf _ (by omega)];simp
theorem allCells_bytes (s : Bs) : allCells (s.map byteCell)=true:=by
 simp [allCells,byteCell,VV.isCell]
attribute [go_sem] rep ne_eq not_true_eq_false or_self or_false false_or not_false_eq_true gt_iff_lt or_true true_or and_self ge_iff_le
attribute [go_sem] List.mem_cons List.not_mem_nil List.mem_singleton
attribute [go_sem] decide_true decide_false Option.some.injEq exists_eq_left'
@[go_sem] theorem wlit0 : IntKind.i64.wrap 0=0:=by decide
@[go_sem] theorem wlit1 : IntKind.i64.wrap 1=1:=by decide
@[go_sem] theorem wlit2 : IntKind.i64.wrap 2=2:=by decide
@[go_sem] theorem wlit3 : IntKind.i64.wrap 3=3:=by decide
@[go_sem] theorem wlit4 : IntKind.i64.wrap 4=4:=by decide
@[go_sem] theorem wlit5 : IntKind.i64.wrap 5=5:=by decide
@[go_sem] theorem wlit6 : IntKind.i64.wrap 6=6:=by decide
@[go_sem] theorem wlit7 : IntKind.i64.wrap 7=7:=by decide
@[go_sem] theorem wlit8 : IntKind.i64.wrap 8=8:=by decide
@[go_sem] theorem wlit9 : IntKind.i64.wrap 9=9:=by decide
@[go_sem] theorem wlit10 : IntKind.i64.wrap 10=10:=by decide
@[go_sem] theorem wlit11 : IntKind.i64.wrap 11=11:=by decide
@[go_sem] theorem wlit12 : IntKind.i64.wrap 12=12:=by decide
@[go_sem] theorem wlit13 : IntKind.i64.wrap 13=13:=by decide
@[go_sem] theorem wlit14 : IntKind.i64.wrap 14=14:=by decide
@[go_sem] theorem wlit15 : IntKind.i64.wrap 15=15:=by decide
@[go_sem] theorem wlit16 : IntKind.i64.wrap 16=16:=by decide
@[go_sem] theorem wlit17 : IntKind.i64.wrap 17=17:=by decide
@[go_sem] theorem wlit18 : IntKind.i64.wrap 18=18:=by decide
@[go_sem] theorem wlit19 : IntKind.i64.wrap 19=19:=by decide
@[go_sem] theorem wlit20 : IntKind.i64.wrap 20=20:=by decide
@[go_sem] theorem wlit21 : IntKind.i64.wrap 21=21:=by decide
@[go_sem] theorem wlit22 : IntKind.i64.wrap 22=22:=by decide
@[go_sem] theorem wlit23 : IntKind.i64.wrap 23=23:=by decide
@[go_sem] theorem wlit24 : IntKind.i64.wrap 24=24:=by decide
@[go_sem] theorem wlit25 : IntKind.i64.wrap 25=25:=by decide
@[go_sem] theorem wlit26 : IntKind.i64.wrap 26=26:=by decide
@[go_sem] theorem wlit27 : IntKind.i64.wrap 27=27:=by decide
@[go_sem] theorem wlit28 : IntKind.i64.wrap 28=28:=by decide
@[go_sem] theorem wlit29 : IntKind.i64.wrap 29=29:=by decide
@[go_sem] theorem wlit30 : IntKind.i64.wrap 30=30:=by decide
@[go_sem] theorem wlit31 : IntKind.i64.wrap 31=31:=by decide
@[go_sem] theorem wlit32 : IntKind.i64.wrap 32=32:=by decide
@[go_sem] theorem wlit33 : IntKind.i64.wrap 33=33:=by decide
@[go_sem] theorem wlit34 : IntKind.i64.wrap 34=34:=by decide
@[go_sem] theorem wlit35 : IntKind.i64.wrap 35=35:=by decide
@[go_sem] theorem wlit36 : IntKind.i64.wrap 36=36:=by decide
@[go_sem] theorem wlit37 : IntKind.i64.wrap 37=37:=by decide
@[go_sem] theorem wlit38 : IntKind.i64.wrap 38=38:=by decide
@[go_sem] theorem wlit39 : IntKind.i64.wrap 39=39:=by decide
@[go_sem] theorem wlit40 : IntKind.i64.wrap 40=40:=by decide
@[go_sem] theorem wlit64 : IntKind.i64.wrap 64=64:=by decide
@[go_sem] theorem wlit100 : IntKind.i64.wrap 100=100:=by decide
@[go_sem] theorem wlit256 : IntKind.i64.wrap 256=256:=by decide
@[go_sem] theorem wlit400 : IntKind.i64.wrap 400=400:=by decide
@[go_sem] theorem wlit4096 : IntKind.i64.wrap 4096=4096:=by decide
@[go_sem] theorem wlit16384 : IntKind.i64.wrap 16384=16384:=by decide
@[go_sem] theorem wlit1048576 : IntKind.i64.wrap 1048576=1048576:=by decide
attribute [go_sem] bounds Option.isSome_some Option.isSome_none Option.getD_some Option.getD_none
attribute [go_sem] VV.isPure VV.arePure
end Go.V
namespace Go.V
open Go.Proofs
set_option maxRecDepth 100000
theorem p_digit (n : Int) : PV Tryz.prog G0 80 [.int .u8 n] (.bool (decide (48≤n) && decide (n≤57))):=by
 refine pv e80 (by simp) rfl rfl ?_
 simp only [go_sem,seval,c80]
 repeat' (first | (refine condO_split_not (fun h=>?_) (fun h=>?_)<;>simp only [go_sem,seval,h]) | (refine condO_split (fun h=>?_) (fun h=>?_)<;>simp only [go_sem,seval,h]) | (refine wantO_split_not (fun h=>?_) (fun h=>?_)<;>simp only [go_sem,seval,h]) | (refine wantO_split (fun h=>?_) (fun h=>?_)<;>simp only [go_sem,seval,h]) | (refine dwantO_split_not (fun h=>?_) (fun h=>?_)<;>simp only [go_sem,seval,h]) | (refine dwantO_split (fun h=>?_) (fun h=>?_)<;>simp only [go_sem,seval,h]))
 all_goals exact fin (by rfl) (by simp_all)
def blank (n : Int) : Bool:=n == 32 || n == 9 || n == 10 || n == 13
theorem p_Blank (n : Int) : PV Tryz.prog G0 77 [.int .u8 n] (.bool (blank n)):=by
 refine pv e77 (by simp) rfl rfl ?_
 simp only [go_sem,seval,c77]
 repeat' (first | (refine condO_split_not (fun h=>?_) (fun h=>?_)<;>simp only [go_sem,seval,h]) | (refine condO_split (fun h=>?_) (fun h=>?_)<;>simp only [go_sem,seval,h]) | (refine wantO_split_not (fun h=>?_) (fun h=>?_)<;>simp only [go_sem,seval,h]) | (refine wantO_split (fun h=>?_) (fun h=>?_)<;>simp only [go_sem,seval,h]) | (refine dwantO_split_not (fun h=>?_) (fun h=>?_)<;>simp only [go_sem,seval,h]) | (refine dwantO_split (fun h=>?_) (fun h=>?_)<;>simp only [go_sem,seval,h]))
 all_goals exact fin (by rfl) (by simp_all [blank])
def isLetter (n : Int) : Bool:=(decide (97≤n) && decide (n≤122)) || (decide (65≤n) && decide (n≤90)) || n == 95
def isDigit (n : Int) : Bool:=decide (48≤n) && decide (n≤57)
theorem p_letter (n : Int) (d : Bool) : PV Tryz.prog G0 79 [.int .u8 n,.bool d] (.bool (isLetter n || (d && isDigit n))):=by
 refine pv e79 (by simp) rfl rfl ?_
 simp only [go_sem,seval,c79]
 repeat' (first | (refine condO_split_not (fun h=>?_) (fun h=>?_)<;>simp only [go_sem,seval,h]) | (refine condO_split (fun h=>?_) (fun h=>?_)<;>simp only [go_sem,seval,h]) | (refine wantO_split_not (fun h=>?_) (fun h=>?_)<;>simp only [go_sem,seval,h]) | (refine wantO_split (fun h=>?_) (fun h=>?_)<;>simp only [go_sem,seval,h]) | (refine dwantO_split_not (fun h=>?_) (fun h=>?_)<;>simp only [go_sem,seval,h]) | (refine dwantO_split (fun h=>?_) (fun h=>?_)<;>simp only [go_sem,seval,h]))
 all_goals first
  | (refine callO_pure (p_digit n) ?_;simp only [go_sem,seval, *];exact fin (by rfl) (by simp only [VV.bool.injEq];rw [Bool.eq_iff_iff];simp_all [isLetter,isDigit]<;>omega))
  | exact fin (by rfl) (by simp only [VV.bool.injEq];rw [Bool.eq_iff_iff];simp_all [isLetter,isDigit]<;>omega)
theorem u64_wrap_neg (n : Int) (h : -9223372036854775808≤n∧n≤9223372036854775807) : IntKind.u64.wrap (0-IntKind.u64.wrap n)=if n=0 then 0 else if n < 0 then -n else 18446744073709551616-n:=by
 simp only [wu64]
 split
 ·omega
 ·split<;>omega
theorem p_size (n : Int) (hn : -9223372036854775808≤n∧n≤9223372036854775807) : PV Tryz.prog G0 105 [.int .i64 n] (.int .u64 (n.natAbs : Int)):=by
 refine pv e105 (by simp) rfl rfl ?_
 simp only [go_sem,seval,c105]
 repeat' (first | (refine condO_split_not (fun h=>?_) (fun h=>?_)<;>simp only [go_sem,seval,h]) | (refine condO_split (fun h=>?_) (fun h=>?_)<;>simp only [go_sem,seval,h]) | (refine wantO_split_not (fun h=>?_) (fun h=>?_)<;>simp only [go_sem,seval,h]) | (refine wantO_split (fun h=>?_) (fun h=>?_)<;>simp only [go_sem,seval,h]) | (refine dwantO_split_not (fun h=>?_) (fun h=>?_)<;>simp only [go_sem,seval,h]) | (refine dwantO_split (fun h=>?_) (fun h=>?_)<;>simp only [go_sem,seval,h]))
 ·refine fin (by rfl) ?_
  rw [u64_wrap_neg n hn]
  simp at h
  rw [if_neg (by omega),if_pos h]
  congr 1;omega
 ·refine fin (by rfl) ?_
  simp at h
  rw [wu64]
  congr 1;omega
def natDigits (m : Nat) : Bs:=if m < 10 then [UInt8.ofNat (48+m)] else natDigits (m / 10)++[UInt8.ofNat (48+m % 10)]
def digs (n : Int) : Bs:=if n < 0 then 45::natDigits n.natAbs else natDigits n.natAbs
theorem natDigits_length (m : Nat) : 1≤(natDigits m).length:=by
 unfold natDigits
 split<;>simp
theorem natDigits_le (m k : Nat) (h : m < 10 ^ (k+1)) : (natDigits m).length≤k+1:=by
 induction k generalizing m with
 | zero=>unfold natDigits;rw [if_pos (by omega)];simp
 | succ k ih =>
  unfold natDigits
  split
  ·simp
  ·have:=ih (m / 10) (by rw [Nat.pow_succ] at h;omega)
   simp;omega
theorem p_Digits (n : Int) (hn : -9223372036854775808≤n∧n≤9223372036854775807) : PV Tryz.prog G0 59 [.int .i64 n] (.str (digs n)):=by
 refine pv e59 (by simp) rfl rfl ?_
 simp only [go_sem,seval,c59]
 refine callO_pure (p_size n hn) ?_
 simp only [go_sem,seval]
 have hlen : (natDigits n.natAbs).length≤19:=natDigits_le _ 18 (by omega)
 refine wpV_loop_inv (fun m ρ σ=>m≤n.natAbs∧∃ (buf : List VV) (sf : Bs) (p : Int),ρ.get 0=.int .i64 n∧ρ.get 3=.mptr 0 0∧ρ.get 4=.int .i64 p∧ρ.get 5=.int .u64 m∧σ=[.own buf] ∧
  buf.length=20∧(p+sf.length=20)∧buf.drop p.toNat=sf.map byteCell∧natDigits n.natAbs=natDigits m++sf) (n:=n.natAbs) ?_ ⟨Nat.le_refl _,_,[],20,rfl,rfl,rfl,rfl,rfl,rfl,rfl,rfl,by simp⟩
 rintro m ρ σ ⟨hm,buf,sf,p,h0,h3,h4,h5,rfl,h6,h7,h8,h9⟩
 have hm1:=natDigits_length m
 have hl : (natDigits m).length+sf.length≤19:=by rw [h9] at hlen;simpa using hlen
 obtain ⟨q,rfl⟩ : ∃ q : Nat,p=(q : Int)+1:=⟨p.toNat-1,by omega⟩
 have e1 : IntKind.i64.wrap ((q : Int)+1-1)=q:=by rw [iw (by omega)];omega
 have e2 : IntKind.u64.wrap ((m : Int).tdiv 10)=((m / 10 : Nat) : Int):=by rw [show (10 : Int)=((10 : Nat) : Int) from rfl,tdivN,uw (by omega)]
 have e3 : IntKind.u8.wrap (IntKind.u64.wrap (48+(m : Int).tmod 10))=((48+m % 10 : Nat) : Int):=by
  rw [show (10 : Int)=((10 : Nat) : Int) from rfl,tmodN,uw (by omega),bw (by omega)];omega
 simp only [go_sem,seval,h0,h3,h4,h5,e1,e2,e3,Int.toNat_natCast,Nat.mul_one,Nat.zero_add,h6]
 have hq : q < 20:=by omega
 have hbuf : (buf.take q++VV.int .u8 ((48+m % 10 : Nat) : Int)::buf.drop (q+1)).drop q=(UInt8.ofNat (48+m % 10)::sf).map byteCell:=by
  rw [List.drop_append,List.drop_eq_nil_of_le (by simp;omega)]
  simp only [List.length_take,h6]
  rw [show q-min q 20=0 by omega,cellN _ (by omega)]
  simp only [List.drop_zero,List.nil_append,List.map_cons]
  rw [← h8]
  congr 2
 have hbl : (buf.take q++VV.int .u8 ((48+m % 10 : Nat) : Int)::buf.drop (q+1)).length=20:=by simp [h6];omega
 generalize buf.take q++VV.int .u8 ((48+m % 10 : Nat) : Int)::buf.drop (q+1)=buf' at hbuf hbl
 refine ⟨by omega,by omega,condO_split (fun h=>?_) (fun h=>?_)⟩
 ·have hm0 : m < 10:=by simp at h;omega
  have hd : natDigits n.natAbs=UInt8.ofNat (48+m % 10)::sf:=by rw [h9];unfold natDigits;rw [if_pos hm0,Nat.mod_eq_of_lt hm0];rfl
  simp only [go_sem,seval,h0]
  have hq1 : (natDigits n.natAbs).length+q=20:=by rw [hd];simp;omega
  refine condO_split (fun hc=>?_) (fun hc=>?_)
  ·obtain ⟨r,rfl⟩ : ∃ r : Nat,q=r+1:=⟨q-1,by omega⟩
   have e4 : IntKind.i64.wrap (((r+1 : Nat) : Int)-1)=r:=by rw [iw (by omega)];omega
   have e5 : (buf'.take r++VV.int .u8 45::buf'.drop (r+1)).drop r=(45::natDigits n.natAbs).map byteCell:=by
    rw [List.drop_append,List.drop_eq_nil_of_le (by simp;omega)]
    simp only [List.length_take,hbl]
    rw [show r-min r 20=0 by omega]
    simp only [List.drop_zero,List.nil_append,List.map_cons,hbuf,hd]
    rfl
   have e6 : (buf'.take r++VV.int .u8 45::buf'.drop (r+1)).length=20:=by simp [hbl];omega
   have e7 : r+(20-r)≤20:=by omega
   have e8 : bytesOf (List.take (20-r) (byteCell 45::List.map byteCell (natDigits n.natAbs)))=some (45::natDigits n.natAbs):=by
    rw [← List.map_cons,List.take_of_length_le (by simp;omega),bytesOf_cells]
   simp only [go_sem,seval,h3,h0,e4,Int.toNat_natCast,Nat.mul_one,Nat.zero_add,hbl,e5,e6,e7,e8,bytesOf_cells]
   refine ⟨by omega,by omega,by omega,fin (by rfl) ?_⟩
   simp at hc
   simp [digs,hc]
  ·have e7 : q+(20-q)≤20:=by omega
   have e8 : ((natDigits n.natAbs).map byteCell).take (20-q)=(natDigits n.natAbs).map byteCell:=List.take_of_length_le (by simp;omega)
   rw [← hd] at hbuf
   simp only [go_sem,seval,h3,h0,Int.toNat_natCast,Nat.mul_one,Nat.zero_add,hbl,hbuf,e7,e8,bytesOf_cells]
   refine ⟨by omega,fin (by rfl) ?_⟩
   simp at hc
   simp [digs,show ¬ n < 0 by omega]
 ·simp only [go_sem,seval,h0,h3,h4,h5]
  refine ⟨m / 10,by simp at h;omega,by omega,buf',UInt8.ofNat (48+m % 10)::sf,(q : Int), ?_⟩
  have hm0 : ¬ m < 10:=by simp at h;omega
  have hd : natDigits n.natAbs=natDigits (m / 10)++UInt8.ofNat (48+m % 10)::sf:=by
   rw [h9]
   conv=>lhs;unfold natDigits
   rw [if_neg hm0]
   simp
  and_intros
  all_goals first | rfl | exact hbl | exact hd | (simp only [Int.toNat_natCast];exact hbuf) | (simp;omega)
end Go.V
namespace Go.V
open Go.Proofs
set_option maxRecDepth 100000
def hexd (n : Nat) : UInt8:=if n < 10 then UInt8.ofNat (48+n) else UInt8.ofNat (87+n)
def quoteB (c : UInt8) : Bs :=
 if c.toNat=34∨c.toNat=92 then [92,c] else if c.toNat=10 then [92,110] else if c.toNat=9 then [92,116] else if c.toNat=13 then [92,114]
 else if c.toNat < 32∨126 < c.toNat then [92,120,hexd (c.toNat / 16),hexd (c.toNat % 16)] else [c]
def quoteS (s : Bs) : Bs:=34::(s.flatMap quoteB++[34])
def BSl (σ : Store) (v : VV) (b : Bs) : Prop :=
 (v=.nils∧b=[])∨v=.sl b.length (b.map byteCell) true∨∃ id,v=.msl id 0 b.length 1∧σ[id]?=some (.own (b.map byteCell))
def Kept (σ : Store) (v : VV) (σ' : Store) : Prop:=σ.length≤σ'.length∧∀ j,j < σ.length→(∀ o n z,v≠.msl j o n z)→σ'[j]?=σ[j]?
theorem Kept.rfl {σ : Store} {v : VV} : Kept σ v σ:=⟨Nat.le_refl _,fun _ _ _=>Eq.refl _⟩
theorem BSl.conv {σ : Store} {v : VV} {b : Bs} (h : BSl σ v b) : evConvert Tryz.prog 59 9 v σ=some ⟨True,.str b,σ⟩:=by
 rcases h with ⟨rfl,rfl⟩ | rfl | ⟨id,rfl,h⟩
 ·simp only [go_sem,seval,bytesOf];rfl
 ·simp only [go_sem,seval,List.length_map,Nat.mul_one,bytesOf_cells]
 ·simp only [go_sem,seval,h,List.length_map,Nat.mul_one,Nat.zero_add,Nat.le_refl,bytesOf_cells]
  rw [List.take_of_length_le (by simp),bytesOf_cells]
  rfl
theorem srcCells_str {P : Program} {σ : Store} {t : TypeId} {s : Bs} (h : tstr P t=true) : srcCells P σ 1 t (.str s)=some (s.length,s.map byteCell):=by simp [srcCells,h]
theorem BSl.src {P : Program} {σ : Store} {t e : TypeId} {v : VV} {b : Bs} (hB : BSl σ v b) (h : tsl P t=some e) : srcCells P σ 1 t v=some (b.length,b.map byteCell):=by
 rcases hB with ⟨rfl,rfl⟩ | rfl | ⟨id,rfl,hid⟩
 ·simp [srcCells,h,slLen,slCells]
 ·simp [srcCells,h,slLen,slCells]
 ·simp only [srcCells,h,slLen,slCells,objCells,hid]
  rw [if_pos (by simp)]
  simp only [Nat.mul_one,List.drop_zero]
  rw [List.take_of_length_le (by simp)]
theorem BSl.append {σ : Store} {v x : VV} {b c : Bs} {tx : TypeId} (hB : BSl σ v b) (hx : srcCells Tryz.prog σ 1 tx x=some (c.length,c.map byteCell)) (hl : b.length+c.length≤1000000000) :
  ∃ out,evAppend Tryz.prog 59 tx v x σ=some out∧out.pre∧BSl out.st out.val (b++c)∧Kept σ v out.st:=by
 have ht : tsl Tryz.prog 59=some 5:=by kernel_rfl
 have hz : tsz Tryz.prog 5=some 1:=by kernel_rfl
 have hb : tby Tryz.prog 5=some 1:=by kernel_rfl
 have h0 : tzero Tryz.prog 5=some [.int .u8 0]:=by kernel_rfl
 unfold evAppend
 simp only [ht,hz,hb,h0,hx]
 have hnew : ∀ (σ₁ : Store) (cells : List VV),cells=(b++c).map byteCell→BSl (σ₁++[.own cells]) (.msl σ₁.length 0 (b++c).length 1) (b++c):=fun σ₁ cells hc=>.inr (.inr ⟨σ₁.length,rfl,by simp [hc]⟩)
 rcases hB with ⟨rfl,rfl⟩ | rfl | ⟨id,rfl,hid⟩
 ·by_cases hc : c.length=0
  ·rw [if_pos hc]
   have : c=[]:=List.eq_nil_of_length_eq_zero hc
   subst this
   exact ⟨_,rfl,trivial,.inl ⟨rfl,rfl⟩,Kept.rfl⟩
  ·rw [if_neg hc]
   refine ⟨_,rfl,⟨by simp at hl;omega,by simp at hl;omega,by simp,by omega,allCells_bytes _,rfl⟩, ?_,by simp,fun j hj _=>by simp [List.getElem?_append,hj]⟩
   simpa using hnew σ (c.map byteCell) (by simp)
 ·by_cases hc : c.length=0
  ·rw [if_pos hc]
   have : c=[]:=List.eq_nil_of_length_eq_zero hc
   subst this
   exact ⟨_,rfl,trivial,.inr (.inl (by simp)),Kept.rfl⟩
  ·simp only [if_neg hc,if_true]
   refine ⟨_,rfl,⟨⟨by omega,by omega,by simp,by omega,allCells_bytes _,rfl⟩,by simp,allCells_bytes _⟩, ?_,by simp,fun j hj _=>by simp [List.getElem?_append,hj]⟩
   have:=hnew σ (b.map byteCell++c.map byteCell) (by simp)
   simpa using this
 ·simp only [hid,if_true]
  have hlt : id < σ.length:=(List.getElem?_eq_some_iff.1 hid).1
  refine ⟨_,rfl,⟨⟨by omega,by omega,by simp,by omega,allCells_bytes _,rfl⟩,by simp, ?_⟩, ?_,by simp,fun j hj hv=>?_⟩
  ·simp only [List.drop_zero,Nat.mul_one]
   rw [List.take_of_length_le (by simp)]
   exact allCells_bytes _
  ·have e : ((b.map byteCell).drop 0).take (b.length*1)++c.map byteCell=(b++c).map byteCell:=by
    rw [List.drop_zero,Nat.mul_one,List.take_of_length_le (by simp),List.map_append]
   refine .inr (.inr ⟨σ.length,by simp, ?_⟩)
   simp only [e]
   rw [List.getElem?_append_right (by simp)]
   simp
  ·have hne : id≠j:=fun e=>hv 0 b.length 1 (by rw [e])
   simp only
   rw [List.getElem?_append_left (by simpa using hj),List.getElem?_set_ne hne]
end Go.V
namespace Go.V
open Go.Proofs
set_option maxRecDepth 100000
theorem BSl.stepAppend {σ : Store} {v x : VV} {b c : Bs} {tx : TypeId} (hB : BSl σ v b) (hx : srcCells Tryz.prog σ 1 tx x=some (c.length,c.map byteCell)) (hl : b.length+c.length≤1000000000)
  {d : Nat} {r : List VO} {Q : Out→Env→Store→Prop} {ρ : Env} (h : ∀ v' σ',BSl σ' v' (b++c)→Kept σ v σ'→opsW Tryz.prog G0 r Q ((d,v')::ρ) σ') : stepO Tryz.prog G0 (evAppend Tryz.prog 59 tx v x σ) (some d) r Q ρ:=by
 obtain ⟨out,h1,h2,h3,h4⟩:=hB.append hx hl
 rw [h1]
 exact ⟨h2,h _ _ h3 h4⟩
theorem BSl.dstepAppend {σ : Store} {v x : VV} {b c : Bs} {tx : TypeId} (hB : BSl σ v b) (hx : srcCells Tryz.prog σ 1 tx x=some (c.length,c.map byteCell)) (hl : b.length+c.length≤1000000000)
  {d : Option Nat} {chk : List Nat} {pd : Pend} {r : List DO} {Q : Out→Env→Store→Prop} {ρ : Env} (h : ∀ v' σ',BSl σ' v' (b++c)→Kept σ v σ'→chkAll Tryz.prog G0 chk pd σ'∧drawW Tryz.prog G0 r pd Q (putV ρ d v') σ') : deffO Tryz.prog G0 (evAppend Tryz.prog 59 tx v x σ) d chk r pd Q ρ:=by
 obtain ⟨out,h1,h2,h3,h4⟩:=hB.append hx hl
 rw [h1]
 exact ⟨h2,h _ _ h3 h4⟩
theorem src_sl {σ : Store} {c : Bs} {g : Bool} : srcCells Tryz.prog σ 1 59 (.sl c.length (c.map byteCell) g)=some (c.length,c.map byteCell):=by
 have ht : tsl Tryz.prog 59=some 5:=by kernel_rfl
 simp [srcCells,ht,slLen,slCells]
end Go.V
namespace Go.V
open Go.Proofs
set_option maxRecDepth 100000
def letterOf (c : UInt8) : Nat:=if c.toNat=34 then 34 else if c.toNat=92 then 92 else if c.toNat=10 then 110 else if c.toNat=9 then 116 else if c.toNat=13 then 114 else 0
theorem p_letters : PV Tryz.prog G0 150 [] (.agg [.int .u8 34,.int .u8 34,.int .u8 92,.int .u8 92,.int .u8 10,.int .u8 110,.int .u8 9,.int .u8 116,.int .u8 13,.int .u8 114]):=by
 refine pv e150 (by simp) rfl rfl ?_
 simp only [go_sem,seval,c150]
 exact fin (by rfl) rfl
theorem p_letter_of (c : UInt8) : PV Tryz.prog G0 106 [.int .u8 c.toNat] (.int .u8 (letterOf c)):=by
 refine pv e106 (by simp) rfl rfl ?_
 simp only [go_sem,seval,c106]
 (first | refine callO_pure (p_letters) ?_ | refine dpureO_of (p_letters) ?_ | refine dpureO_save (p_letters) ?_ | refine dcallO_pure (p_letters) (by simp only [go_sem,seval]) ?_ | refine dcallO_pure (p_letters) ?_ ?_)<;>simp only [go_sem,seval]
 iterate 5
  refine wpV_loop ?_
  simp only [go_sem,seval,Nat.lt_irrefl]
  refine condO_split (fun h=>?_) (fun h=>?_)
  ·simp only [go_sem,seval]
   refine fin (by rfl) ?_
   simp only [beq_iff_eq,beq_eq_false_iff_ne,ne_eq] at *
   unfold letterOf
   repeat' split
   all_goals first | rfl | (exfalso;omega)
  simp only [go_sem,seval]
 refine wpV_loop ?_
 simp only [go_sem,seval]
 refine fin (by rfl) ?_
 simp only [beq_iff_eq,beq_eq_false_iff_ne,ne_eq] at *
 unfold letterOf
 repeat' split
 all_goals first | rfl | (exfalso;omega)
theorem shr4 (n : Nat) : Int.fdiv (n : Int) (2 ^ min (Int.toNat 4) IntKind.u8.bits)=((n / 16 : Nat) : Int):=by
 rw [show (2 : Int) ^ min (Int.toNat 4) IntKind.u8.bits=((16 : Nat) : Int) from rfl,Int.fdiv_eq_ediv_of_nonneg _ (by omega)]
 omega
theorem and15 (n : Nat) (h : n < 256) : IntKind.u8.wrap ((BitVec.ofInt IntKind.u8.bits (n : Int) &&& BitVec.ofInt IntKind.u8.bits 15).toNat : Int)=((n % 16 : Nat) : Int):=by
 have : (BitVec.ofInt IntKind.u8.bits (n : Int) &&& BitVec.ofInt IntKind.u8.bits 15).toNat=n % 16:=by
  rw [BitVec.toNat_and]
  have e1 : (BitVec.ofInt IntKind.u8.bits (n : Int)).toNat=n:=by
   simp [BitVec.toNat_ofInt,IntKind.bits];omega
  have e2 : (BitVec.ofInt IntKind.u8.bits 15).toNat=15:=rfl
  rw [e1,e2,show (15 : Nat)=2 ^ 4-1 from rfl,Nat.and_two_pow_sub_one_eq_mod]
 rw [this,bw (by omega)]
theorem shr4' (n : Nat) : Int.fdiv (n : Int) (2 ^ min 4 8)=((n / 16 : Nat) : Int):=shr4 n
def hexDigits : Bs:=[48,49,50,51,52,53,54,55,56,57,97,98,99,100,101,102]
theorem hexDigits_get : ∀ k : Nat,k < 16→hexDigits.getD k 0=hexd k:=by decide
theorem quoteB_letter (c : UInt8) (h : 0 < letterOf c) : quoteB c=[92,UInt8.ofNat (letterOf c)]:=by
 have hc:=c.toNat_lt
 unfold letterOf at *
 unfold quoteB
 by_cases h1 : c.toNat=34
 ·have : c=34:=UInt8.toNat_inj.1 (by rw [h1];rfl)
  subst this;rfl
 by_cases h2 : c.toNat=92
 ·have : c=92:=UInt8.toNat_inj.1 (by rw [h2];rfl)
  subst this;rfl
 by_cases h3 : c.toNat=10
 ·simp [h3]
 by_cases h4 : c.toNat=9
 ·simp [h4]
 by_cases h5 : c.toNat=13
 ·simp [h5]
 simp [h1,h2,h3,h4,h5] at h
theorem quoteB_plain (c : UInt8) (h : letterOf c=0) : quoteB c=if c.toNat < 32∨126 < c.toNat then [92,120,hexd (c.toNat / 16),hexd (c.toNat % 16)] else [c]:=by
 unfold letterOf at h
 unfold quoteB
 by_cases h1 : c.toNat=34
 ·simp [h1] at h
 by_cases h2 : c.toNat=92
 ·simp [h1,h2] at h
 by_cases h3 : c.toNat=10
 ·simp [h3] at h
 by_cases h4 : c.toNat=9
 ·simp [h4] at h
 by_cases h5 : c.toNat=13
 ·simp [h5] at h
 simp [h1,h2,h3,h4,h5]
theorem letterOf_lt (c : UInt8) : letterOf c < 256:=by unfold letterOf;grind
theorem p_Quote (s : Bs) (hs : s.length≤10000000) : PV Tryz.prog G0 60 [.str s] (.str (quoteS s)):=by
 refine pv e60 (by simp) rfl rfl ?_
 have e0 : IntKind.i64.wrap ((s.length : Int)+2)=s.length+2:=iw (by omega)
 simp only [go_sem,seval,c60,e0]
 refine ⟨by omega, ?_⟩
 have hB0 : BSl [.own []] (.msl 0 0 0 1) []:=.inr (.inr ⟨0,rfl,rfl⟩)
 have hx : ∀ σ,srcCells Tryz.prog σ 1 59 (.sl 1 [.int .u8 34] true)=some (([34] : Bs).length,([34] : Bs).map byteCell):=fun σ=>src_sl (c:=[34])
 refine hB0.stepAppend (hx _) (by simp) fun v₁ σ₁ hB₁ hK=>?_
 simp only [go_sem,seval]
 have hql : ∀ c,(quoteB c).length≤4:=by intro c;unfold quoteB;grind
 have hfl : ∀ l : Bs,(l.flatMap quoteB).length≤4*l.length:=by
  intro l
  induction l with
  | nil=>simp
  | cons c l ih=>have:=hql c;simp only [List.flatMap_cons,List.length_append,List.length_cons];omega
 refine wpV_loop_inv (fun m ρ σ=>∃ (i : Nat) (v : VV),m=s.length-i∧i≤s.length∧ρ.get 0=.str s∧ρ.get 3=v∧ρ.get 15=.int .i64 s.length∧ρ.get 16=.int .i64 i∧BSl σ v (34::(s.take i).flatMap quoteB)) (n:=s.length) ?_
  ⟨0,_,by simp,by simp,rfl,rfl,rfl,rfl,hB₁⟩
 rintro m ρ σ ⟨i,v,rfl,hi,h0,h3,h7,h8,hB⟩
 simp only [go_sem,seval,h0,h3,h7,h8]
 refine condO_split (fun h=>?_) (fun h=>?_)
 ·simp at h
  have hc:=s[i].toNat_lt
  have hlen:=hfl (s.take i)
  simp only [List.length_take] at hlen
  have eg : s.getD i 0=s[i]:=by simp [List.getD_eq_getElem?_getD,h]
  have e2 : IntKind.i64.wrap ((i : Int)+1)=((i+1 : Nat) : Int):=by rw [iw (by omega)];omega
  have nx : ∀ {v' : VV} {σ' : Store},BSl σ' v' (34::(s.take i).flatMap quoteB++quoteB s[i])→BSl σ' v' (34::(s.take (i+1)).flatMap quoteB):=by
   intro v' σ' hB'
   have : (34::(s.take (i+1)).flatMap quoteB)=34::(s.take i).flatMap quoteB++quoteB s[i]:=by
    rw [List.take_succ_eq_append_getElem h,List.flatMap_append];simp
   rw [this];exact hB'
  simp only [go_sem,seval,h0,h3,h7,h8,Int.toNat_natCast,eg]
  refine ⟨by omega, ?_⟩
  (first | refine callO_pure (p_letter_of s[i]) ?_ | refine dpureO_of (p_letter_of s[i]) ?_ | refine dpureO_save (p_letter_of s[i]) ?_ | refine dcallO_pure (p_letter_of s[i]) (by simp only [go_sem,seval,h0,h3,h7,h8]) ?_ | refine dcallO_pure (p_letter_of s[i]) ?_ ?_)<;>simp only [go_sem,seval,h0,h3,h7,h8]
  have app : ∀ (c : Bs),c.length≤4→quoteB s[i]=c→∀ (x : VV) {d : Nat} {r : List VO} {Q : Out→Env→Store→Prop} {ρ : Env},x=.sl c.length (c.map byteCell) true →
    (∀ v' σ',BSl σ' v' (34::(s.take i).flatMap quoteB++quoteB s[i])→opsW Tryz.prog G0 r Q ((d,v')::ρ) σ')→stepO Tryz.prog G0 (evAppend Tryz.prog 59 59 v x σ) (some d) r Q ρ:=by
   rintro c hcl hq x d r Q ρ rfl hk
   exact hB.stepAppend src_sl (by simp only [List.length_cons];omega) fun v' σ' hB' _=>hk v' σ' (by rw [hq];exact hB')
  refine condO_split (fun hl=>?_) (fun hl=>?_)
  ·simp only [go_sem,seval,h0,h3,h7,h8]
   have hl' : 0 < letterOf s[i]:=by simpa using hl
   refine app [92,UInt8.ofNat (letterOf s[i])] (by simp) (quoteB_letter _ hl') _ ?_ fun v' σ' hB'=>?_
   ·have:=letterOf_lt s[i]
    simp only [List.length_cons,List.length_nil,List.map_cons,List.map_nil]
    rw [cellN _ this]
    rfl
   ·simp only [go_sem,seval,h0,h3,h7,h8,e2]
    refine ⟨s.length-(i+1),by omega,i+1,v',rfl,h, ?_⟩
    and_intros
    all_goals first | rfl | exact nx hB'
  ·have hl' : letterOf s[i]=0:=by simp at hl;omega
   have hq:=quoteB_plain s[i] hl'
   have plain : ¬ (s[i].toNat < 32∨126 < s[i].toNat)→quoteB s[i]=[s[i]]:=fun h=>by rw [hq,if_neg h]
   have hex : (s[i].toNat < 32∨126 < s[i].toNat)→quoteB s[i]=[92,120,hexd (s[i].toNat / 16),hexd (s[i].toNat % 16)]:=fun h=>by rw [hq,if_pos h]
   have g1:=hexDigits_get (s[i].toNat / 16) (by omega)
   have g2:=hexDigits_get (s[i].toNat % 16) (by omega)
   unfold hexDigits at g1 g2
   simp only [go_sem,seval,h0,h3,h7,h8]
   have hexcase : ∀ {d : Option Nat} {chk : List Nat} {pd : Pend} {r : List DO} {Q : Out→Env→Store→Prop} {ρ : Env},(s[i].toNat < 32∨126 < s[i].toNat) →
     (∀ v' σ',BSl σ' v' (34::(s.take i).flatMap quoteB++quoteB s[i])→chkAll Tryz.prog G0 chk pd σ'∧drawW Tryz.prog G0 r pd Q (putV ρ d v') σ') →
     deffO Tryz.prog G0 (evAppend Tryz.prog 59 59 v (.sl 4 [.int .u8 92,.int .u8 120,.int .u8 (hexd (s[i].toNat / 16)).toNat,.int .u8 (hexd (s[i].toNat % 16)).toNat] true) σ) d chk r pd Q ρ:=by
    intro d chk pd r Q ρ hh hk
    exact hB.dstepAppend (src_sl (c:=[92,120,hexd (s[i].toNat / 16),hexd (s[i].toNat % 16)])) (by simp only [List.length_cons,List.length_nil];omega) fun v' σ' hB' _=>hk v' σ' (by rw [hex hh];exact hB')
   have a15:=and15 _ hc
   simp only [go_sem,seval] at a15
   repeat' (first | (refine condO_split_not (fun h=>?_) (fun h=>?_)<;>simp only [go_sem,seval,h,h0,h3,h7,h8,shr4',a15,Int.toNat_natCast,g1,g2]) | (refine condO_split (fun h=>?_) (fun h=>?_)<;>simp only [go_sem,seval,h,h0,h3,h7,h8,shr4',a15,Int.toNat_natCast,g1,g2]) | (refine wantO_split_not (fun h=>?_) (fun h=>?_)<;>simp only [go_sem,seval,h,h0,h3,h7,h8,shr4',a15,Int.toNat_natCast,g1,g2]) | (refine wantO_split (fun h=>?_) (fun h=>?_)<;>simp only [go_sem,seval,h,h0,h3,h7,h8,shr4',a15,Int.toNat_natCast,g1,g2]) | (refine dwantO_split_not (fun h=>?_) (fun h=>?_)<;>simp only [go_sem,seval,h,h0,h3,h7,h8,shr4',a15,Int.toNat_natCast,g1,g2]) | (refine dwantO_split (fun h=>?_) (fun h=>?_)<;>simp only [go_sem,seval,h,h0,h3,h7,h8,shr4',a15,Int.toNat_natCast,g1,g2]))
   ·rename_i h126
    simp at h126 h
    refine ⟨by omega,by omega, ?_⟩
    refine hexcase (by omega) fun v' σ' hB'=>?_
    simp only [go_sem,seval,h0,h3,h7,h8,e2]
    refine ⟨s.length-(i+1),by omega,i+1,v',rfl,by omega, ?_⟩
    and_intros
    all_goals first | rfl | exact nx hB'
   ·rename_i h126
    simp at h126 h
    refine app [s[i]] (by simp) (plain (by omega)) _ rfl fun v' σ' hB'=>?_
    simp only [go_sem,seval,h0,h3,h7,h8,e2]
    refine ⟨s.length-(i+1),by omega,i+1,v',rfl,by omega, ?_⟩
    and_intros
    all_goals first | rfl | exact nx hB'
   ·simp at h
    refine ⟨by omega,by omega, ?_⟩
    refine hexcase (by omega) fun v' σ' hB'=>?_
    simp only [go_sem,seval,h0,h3,h7,h8,e2]
    refine ⟨s.length-(i+1),by omega,i+1,v',rfl,by omega, ?_⟩
    and_intros
    all_goals first | rfl | exact nx hB'
 ·simp at h
  have e1 : s.take i=s:=List.take_of_length_le (by omega)
  have hlen:=hfl s
  rw [e1] at hB
  simp only [go_sem,seval,h0,h3,h7,h8]
  refine hB.stepAppend (hx _) (by simp only [List.length_cons,List.length_nil];omega) fun v' σ' hB' hK=>?_
  simp only [go_sem,seval,hB'.conv]
  exact fin (by rfl) (by simp [quoteS])
end Go.V
namespace Go.V
open Go.Proofs
set_option maxRecDepth 100000
def nib (c : UInt8) : Option Nat:=if 48≤c.toNat∧c.toNat≤57 then some (c.toNat-48) else if 97≤c.toNat∧c.toNat≤102 then some (c.toNat-87) else none
def hexval (c : UInt8) : Option Nat:=if 65≤c.toNat∧c.toNat≤70 then some (c.toNat-55) else nib c
theorem nib_lt {c : UInt8} {x : Nat} (h : nib c=some x) : x < 16:=by unfold nib at h;grind
theorem hexval_lt {c : UInt8} {x : Nat} (h : hexval c=some x) : x < 16:=by
 unfold hexval at h
 split at h
 ·grind
 ·exact nib_lt h
theorem p_nibble (c : UInt8) : PV Tryz.prog G0 203 [.int .u8 c.toNat] (.tup [.int .u8 ((nib c).getD 0 : Nat),.bool (nib c).isSome]):=by
 refine pv e203 (by simp) rfl rfl ?_
 have hc:=c.toNat_lt
 simp only [go_sem,seval,c203]
 repeat' (first | (refine condO_split_not (fun h=>?_) (fun h=>?_)<;>simp only [go_sem,seval,h]) | (refine condO_split (fun h=>?_) (fun h=>?_)<;>simp only [go_sem,seval,h]) | (refine wantO_split_not (fun h=>?_) (fun h=>?_)<;>simp only [go_sem,seval,h]) | (refine wantO_split (fun h=>?_) (fun h=>?_)<;>simp only [go_sem,seval,h]) | (refine dwantO_split_not (fun h=>?_) (fun h=>?_)<;>simp only [go_sem,seval,h]) | (refine dwantO_split (fun h=>?_) (fun h=>?_)<;>simp only [go_sem,seval,h]))
 all_goals
  refine fin (by rfl) ?_
  simp only [decide_eq_true_eq,decide_eq_false_iff_not] at *
  unfold nib
  repeat' split
  all_goals first
   | (exfalso;omega)
   | rfl
   | (simp only [VV.tup.injEq,List.cons.injEq,VV.int.injEq,Option.getD_some,Option.isSome_some,and_true,true_and,wu8];omega)
theorem p_either (c : UInt8) : PV Tryz.prog G0 192 [.int .u8 c.toNat] (.tup [.int .u8 ((hexval c).getD 0 : Nat),.bool (hexval c).isSome]):=by
 refine pv e192 (by simp) rfl rfl ?_
 have hc:=c.toNat_lt
 simp only [go_sem,seval,c192]
 repeat' (first | (refine condO_split_not (fun h=>?_) (fun h=>?_)<;>simp only [go_sem,seval,h]) | (refine condO_split (fun h=>?_) (fun h=>?_)<;>simp only [go_sem,seval,h]) | (refine wantO_split_not (fun h=>?_) (fun h=>?_)<;>simp only [go_sem,seval,h]) | (refine wantO_split (fun h=>?_) (fun h=>?_)<;>simp only [go_sem,seval,h]) | (refine dwantO_split_not (fun h=>?_) (fun h=>?_)<;>simp only [go_sem,seval,h]) | (refine dwantO_split (fun h=>?_) (fun h=>?_)<;>simp only [go_sem,seval,h]))
 ·have e1 : VV.int .u8 (IntKind.u8.wrap ((c.toNat : Int)+32))=.int .u8 ((UInt8.ofNat (c.toNat+32)).toNat : Int):=by
   simp at *
   rw [wu8]
  rw [e1]
  (first | refine callO_pure (p_nibble (UInt8.ofNat (c.toNat+32))) ?_ | refine dpureO_of (p_nibble (UInt8.ofNat (c.toNat+32))) ?_ | refine dpureO_save (p_nibble (UInt8.ofNat (c.toNat+32))) ?_ | refine dcallO_pure (p_nibble (UInt8.ofNat (c.toNat+32))) (by simp only [go_sem,seval]) ?_ | refine dcallO_pure (p_nibble (UInt8.ofNat (c.toNat+32))) ?_ ?_)<;>simp only [go_sem,seval]
  refine fin (by rfl) ?_
  simp only [decide_eq_true_eq,decide_eq_false_iff_not] at *
  have : (UInt8.ofNat (c.toNat+32)).toNat=c.toNat+32:=by rw [UInt8.toNat_ofNat'];omega
  unfold hexval nib
  simp only [this]
  repeat' split
  all_goals first
   | (exfalso;omega)
   | rfl
   | (simp only [VV.tup.injEq,List.cons.injEq,VV.int.injEq,Option.getD_some,Option.isSome_some,and_true,true_and];omega)
 all_goals
  (first | refine callO_pure (p_nibble c) ?_ | refine dpureO_of (p_nibble c) ?_ | refine dpureO_save (p_nibble c) ?_ | refine dcallO_pure (p_nibble c) (by simp only [go_sem,seval]) ?_ | refine dcallO_pure (p_nibble c) ?_ ?_)<;>simp only [go_sem,seval]
  refine fin (by rfl) ?_
  simp only [decide_eq_true_eq,decide_eq_false_iff_not] at *
  unfold hexval
  rw [if_neg (by omega)]
def escOf (c : UInt8) : Option UInt8:=if c.toNat=34 then some 34 else if c.toNat=92 then some 92 else if c.toNat=47 then some 47 else if c.toNat=110 then some 10 else if c.toNat=116 then some 9 else if c.toNat=114 then some 13 else none
theorem p_byLetter (c : UInt8) : PV Tryz.prog G0 169 [.int .u8 c.toNat] (.tup [.int .u8 ((escOf c).getD 0).toNat,.bool (escOf c).isSome]):=by
 refine pv e169 (by simp) rfl rfl ?_
 have ender : ∀ {x : VV} {b : Bool} {σ : Store},(.tup [x,.bool b]=VV.tup [.int .u8 ((escOf c).getD 0).toNat,.bool (escOf c).isSome])→∃ z n,CRes.ret (.tup [x,.bool b])=CRes.ret z∧fz n σ z=some (.tup [.int .u8 ((escOf c).getD 0).toNat,.bool (escOf c).isSome]):=fun h=>fin (by rfl) h
 simp only [go_sem,seval,c169]
 refine condO_split (fun h=>?_) (fun h=>?_)
 ·simp only [go_sem,seval]
  refine ender ?_
  simp only [beq_iff_eq] at h
  have : c.toNat=47:=by omega
  simp [escOf,this]
 simp only [go_sem,seval]
 (first | refine callO_pure (p_letters) ?_ | refine dpureO_of (p_letters) ?_ | refine dpureO_save (p_letters) ?_ | refine dcallO_pure (p_letters) (by simp only [go_sem,seval]) ?_ | refine dcallO_pure (p_letters) ?_ ?_)<;>simp only [go_sem,seval]
 iterate 5
  refine wpV_loop ?_
  simp only [go_sem,seval,Nat.lt_irrefl]
  refine condO_split (fun h=>?_) (fun h=>?_)
  ·simp only [go_sem,seval]
   refine ender ?_
   simp only [beq_iff_eq,beq_eq_false_iff_ne,ne_eq] at *
   unfold escOf
   repeat' split
   all_goals first | rfl | (exfalso;omega)
  simp only [go_sem,seval]
 refine wpV_loop ?_
 simp only [go_sem,seval]
 refine ender ?_
 simp only [beq_iff_eq,beq_eq_false_iff_ne,ne_eq] at *
 unfold escOf
 repeat' split
 all_goals first | rfl | (exfalso;omega)
theorem shl4 (n : Nat) (h : n < 16) : IntKind.u8.wrap ((n : Int)*2 ^ min (Int.toNat 4) IntKind.u8.bits)=((16*n : Nat) : Int):=by
 rw [show (2 : Int) ^ min (Int.toNat 4) IntKind.u8.bits=16 from rfl,bw (by omega)];omega
theorem or16 (a b : Nat) (ha : a < 16) (hb : b < 16) : IntKind.u8.wrap ((BitVec.ofInt IntKind.u8.bits ((16*a : Nat) : Int) ||| BitVec.ofInt IntKind.u8.bits (b : Int)).toNat : Int)=((16*a+b : Nat) : Int):=by
 have e1 : (BitVec.ofInt IntKind.u8.bits ((16*a : Nat) : Int)).toNat=16*a:=by simp [BitVec.toNat_ofInt,IntKind.bits];omega
 have e2 : (BitVec.ofInt IntKind.u8.bits (b : Int)).toNat=b:=by simp [BitVec.toNat_ofInt,IntKind.bits];omega
 have : (BitVec.ofInt IntKind.u8.bits ((16*a : Nat) : Int) ||| BitVec.ofInt IntKind.u8.bits (b : Int)).toNat=16*a+b:=by
  rw [BitVec.toNat_or,e1,e2]
  have:=Nat.two_pow_add_eq_or_of_lt (i:=4) (b:=b) (by omega) a
  rw [show (16 : Nat)=2 ^ 4 from rfl];omega
 rw [this,bw (by omega)]
def pairV (s : Bs) (i : Nat) : Nat × Nat × Nat:=match s[i]? with
 | none=>(0,s.length,10)
 | some a=>match hexval a with
  | none=>(0,i,2)
  | some x=>match s[i+1]? with
   | none=>(0,s.length,10)
   | some b=>match hexval b with
    | none=>(0,i+1,2)
    | some y=>(16*x+y,i+2,0)
theorem p_pair (s : Bs) (i : Nat) (hi : i≤s.length) (hs : s.length≤100000000) : PV Tryz.prog G0 168 [.str s,.int .i64 i] (.tup [.int .u8 (pairV s i).1,.int .i64 (pairV s i).2.1,.int .i64 (pairV s i).2.2]):=by
 refine pv e168 (by simp) rfl rfl ?_
 have e2 : IntKind.i64.wrap ((i : Int)+2)=((i+2 : Nat) : Int):=by rw [iw (by omega)];omega
 have e1 : IntKind.i64.wrap ((i : Int)+1)=((i+1 : Nat) : Int):=by rw [iw (by omega)];omega
 have e3 : IntKind.i64.wrap (((i+1 : Nat) : Int)+1)=((i+2 : Nat) : Int):=by rw [iw (by omega)];omega
 have l0 : decide ((i : Int) < ((i+2 : Nat) : Int))=true:=by simp;omega
 have l1 : decide (((i+1 : Nat) : Int) < ((i+2 : Nat) : Int))=true:=by simp
 have l2 : decide (((i+2 : Nat) : Int) < ((i+2 : Nat) : Int))=false:=by simp
 simp only [go_sem,seval,c168]
 refine wpV_loop ?_
 simp only [go_sem,seval,e2,l0]
 refine condO_split (fun h=>?_) (fun h=>?_)
 ·simp only [go_sem,seval]
  refine fin (by rfl) ?_
  simp at h
  simp [pairV,List.getElem?_eq_none h]
 ·simp at h
  have g : s.getD i 0=s[i]:=by simp [List.getD_eq_getElem?_getD,h]
  simp only [go_sem,seval,Int.toNat_natCast,g]
  refine ⟨by omega, ?_⟩
  (first | refine callO_pure (p_either s[i]) ?_ | refine dpureO_of (p_either s[i]) ?_ | refine dpureO_save (p_either s[i]) ?_ | refine dcallO_pure (p_either s[i]) (by simp only [go_sem,seval]) ?_ | refine dcallO_pure (p_either s[i]) ?_ ?_)<;>simp only [go_sem,seval]
  cases hx : hexval s[i] with
  | none =>
   simp only [go_sem,seval,hx]
   refine fin (by rfl) ?_
   simp [pairV,h,hx]
  | some x =>
   have hx16:=hexval_lt hx
   have o1:=or16 0 x (by omega) hx16
   have s1:=shl4 0 (by omega)
   simp only [go_sem,seval] at o1 s1
   rw [Nat.zero_add] at o1
   simp only [go_sem,seval,hx,e1,o1,s1]
   refine wpV_loop ?_
   simp only [go_sem,seval,e2,l1]
   refine condO_split (fun h'=>?_) (fun h'=>?_)
   ·simp only [go_sem,seval]
    refine fin (by rfl) ?_
    simp at h'
    have hn : s[i+1]?=none:=List.getElem?_eq_none (by omega)
    simp [pairV,h,hx,hn]
   ·simp at h'
    have h1 : i+1 < s.length:=by omega
    have g' : s.getD (i+1) 0=s[i+1]:=by simp [List.getD_eq_getElem?_getD,h1]
    simp only [go_sem,seval,Int.toNat_natCast,g']
    refine ⟨by omega, ?_⟩
    (first | refine callO_pure (p_either s[i+1]) ?_ | refine dpureO_of (p_either s[i+1]) ?_ | refine dpureO_save (p_either s[i+1]) ?_ | refine dcallO_pure (p_either s[i+1]) (by simp only [go_sem,seval]) ?_ | refine dcallO_pure (p_either s[i+1]) ?_ ?_)<;>simp only [go_sem,seval]
    cases hy : hexval s[i+1] with
    | none =>
     simp only [go_sem,seval,hy]
     refine fin (by rfl) ?_
     simp [pairV,h,hx,h1,hy]
    | some y =>
     have hy16:=hexval_lt hy
     have o2:=or16 x y hx16 hy16
     have s2:=shl4 x hx16
     simp only [go_sem,seval] at o2 s2
     simp only [go_sem,seval,hy,e3,s2,o2]
     refine wpV_loop ?_
     simp only [go_sem,seval,e2,l2]
     refine fin (by rfl) ?_
     simp [pairV,h,hx,h1,hy]
end Go.V
