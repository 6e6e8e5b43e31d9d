/- Texts F5 F6 F7 F8 B1 F9 F10. -/
import Derived.Test.YthhjefemijhamaaGreatDoorG15
set_option linter.unusedVariables false
set_option linter.unusedSimpArgs false
namespace Go.V
open Go.Proofs
set_option maxRecDepth 100000
def XD (c : UInt8) : Option Nat:=if 48≤c.toNat∧c.toNat≤57 then some (c.toNat-48) else if 97≤c.toNat∧c.toNat≤102 then some (c.toNat-87) else none
def jJ (c : UInt8) : Option Nat:=if 65≤c.toNat∧c.toNat≤70 then some (c.toNat-55) else XD c
theorem Zo {c : UInt8} {x : Nat} (h : XD c=some x) : x < 16:=by unfold XD at h;grind
theorem nI {c : UInt8} {x : Nat} (h : jJ c=some x) : x < 16:=by
 unfold jJ at h
 split at h
 ·grind
 ·exact Zo h
theorem IJ (c : UInt8) : PV Tryz.prog G0 203 [.int .u8 c.toNat] (.tup [.int .u8 ((XD c).getD 0 : Nat),.bool (XD c).isSome]):=by
 refine pv e203 (by simp) rfl rfl ?_
 have hc:=c.toNat_lt
 simp only [go_sem,seval,c203]
 repeat' (first | (refine aY (fun h=>?_) (fun h=>?_)<;>simp only [go_sem,seval,h]) | (refine aj (fun h=>?_) (fun h=>?_)<;>simp only [go_sem,seval,h]) | (refine bF (fun h=>?_) (fun h=>?_)<;>simp only [go_sem,seval,h]) | (refine aS (fun h=>?_) (fun h=>?_)<;>simp only [go_sem,seval,h]) | (refine bg (fun h=>?_) (fun h=>?_)<;>simp only [go_sem,seval,h]) | (refine dB (fun h=>?_) (fun h=>?_)<;>simp only [go_sem,seval,h]))
 all_goals
  refine fin (by rfl) ?_
  simp only [decide_eq_true_eq,decide_eq_false_iff_not] at *
  unfold XD
  repeat' split
  all_goals first
   | (exfalso;omega)
   | rfl
   | (simp only [VV.tup.injEq,List.cons.injEq,VV.int.injEq,Option.getD_some,Option.isSome_some,and_true,true_and,Qs];omega)
theorem Hy (c : UInt8) : PV Tryz.prog G0 192 [.int .u8 c.toNat] (.tup [.int .u8 ((jJ c).getD 0 : Nat),.bool (jJ c).isSome]):=by
 refine pv e192 (by simp) rfl rfl ?_
 have hc:=c.toNat_lt
 simp only [go_sem,seval,c192]
 repeat' (first | (refine aY (fun h=>?_) (fun h=>?_)<;>simp only [go_sem,seval,h]) | (refine aj (fun h=>?_) (fun h=>?_)<;>simp only [go_sem,seval,h]) | (refine bF (fun h=>?_) (fun h=>?_)<;>simp only [go_sem,seval,h]) | (refine aS (fun h=>?_) (fun h=>?_)<;>simp only [go_sem,seval,h]) | (refine bg (fun h=>?_) (fun h=>?_)<;>simp only [go_sem,seval,h]) | (refine dB (fun h=>?_) (fun h=>?_)<;>simp only [go_sem,seval,h]))
 ·have e1 : VV.int .u8 (IntKind.u8.wrap ((c.toNat : Int)+32))=.int .u8 ((UInt8.ofNat (c.toNat+32)).toNat : Int):=by
   simp at *
   rw [Qs]
  rw [e1]
  refine ah (IJ (UInt8.ofNat (c.toNat+32))) ?_<;>simp only [go_sem,seval]
  refine fin (by rfl) ?_
  simp only [decide_eq_true_eq,decide_eq_false_iff_not] at *
  have : (UInt8.ofNat (c.toNat+32)).toNat=c.toNat+32:=by rw [UInt8.toNat_ofNat'];omega
  unfold jJ XD
  simp only [this]
  repeat' split
  all_goals first
   | (exfalso;omega)
   | rfl
   | (simp only [VV.tup.injEq,List.cons.injEq,VV.int.injEq,Option.getD_some,Option.isSome_some,and_true,true_and];omega)
 all_goals
  refine ah (IJ c) ?_<;>simp only [go_sem,seval]
  refine fin (by rfl) ?_
  simp only [decide_eq_true_eq,decide_eq_false_iff_not] at *
  unfold jJ
  rw [if_neg (by omega)]
theorem MK (c : UInt8) : PV Tryz.prog G0 130 [.int .u8 c.toNat,.bool true] (.int .u8 ((jJ c).getD 16 : Nat)):=by
 refine pv e130 (by simp) rfl rfl ?_
 have hc:=c.toNat_lt
 simp only [go_sem,seval,c130]
 repeat' (first | (refine aY (fun h=>?_) (fun h=>?_)<;>simp only [go_sem,seval,h]) | (refine aj (fun h=>?_) (fun h=>?_)<;>simp only [go_sem,seval,h]) | (refine bF (fun h=>?_) (fun h=>?_)<;>simp only [go_sem,seval,h]) | (refine aS (fun h=>?_) (fun h=>?_)<;>simp only [go_sem,seval,h]) | (refine bg (fun h=>?_) (fun h=>?_)<;>simp only [go_sem,seval,h]) | (refine dB (fun h=>?_) (fun h=>?_)<;>simp only [go_sem,seval,h]))
 all_goals
  refine fin (by rfl) ?_
  simp only [decide_eq_true_eq,decide_eq_false_iff_not] at *
  unfold jJ XD
  repeat' split
  all_goals first
   | (exfalso;omega)
   | rfl
   | (simp only [VV.int.injEq,Option.getD_some,true_and,Qs];omega)
def mM (c : UInt8) : Option UInt8:=if c.toNat=34 then some 34 else if c.toNat=92 then some 92 else if c.toNat=47 then some 47 else if c.toNat=110 then some 10 else if c.toNat=116 then some 9 else if c.toNat=114 then some 13 else none
theorem TR (c : UInt8) : PV Tryz.prog G0 129 [.int .u8 c.toNat] (.tup [.int .u8 ((mM c).getD 0).toNat,.bool (mM c).isSome]):=by
 refine pv e129 (by simp) rfl rfl ?_
 simp only [go_sem,seval,c129]
 repeat' (first | (refine aY (fun h=>?_) (fun h=>?_)<;>simp only [go_sem,seval,h]) | (refine aj (fun h=>?_) (fun h=>?_)<;>simp only [go_sem,seval,h]) | (refine bF (fun h=>?_) (fun h=>?_)<;>simp only [go_sem,seval,h]) | (refine aS (fun h=>?_) (fun h=>?_)<;>simp only [go_sem,seval,h]) | (refine bg (fun h=>?_) (fun h=>?_)<;>simp only [go_sem,seval,h]) | (refine dB (fun h=>?_) (fun h=>?_)<;>simp only [go_sem,seval,h]))
 all_goals
  refine fin (by rfl) ?_
  simp only [beq_iff_eq,beq_eq_false_iff_ne,ne_eq] at *
  unfold mM
  repeat' split
  all_goals first
   | (exfalso;omega)
   | rfl
   | (simp only [VV.tup.injEq,List.cons.injEq,VV.int.injEq,Option.getD_some,Option.isSome_some,and_true,true_and];simp;omega)
theorem KO (c : UInt8) : PV Tryz.prog G0 169 [.int .u8 c.toNat] (.tup [.int .u8 ((mM c).getD 0).toNat,.bool (mM c).isSome]):=by
 refine pv e169 (by simp) rfl rfl ?_
 have ender : ∀ {x : VV} {b : Bool} {σ : Store},(.tup [x,.bool b]=VV.tup [.int .u8 ((mM c).getD 0).toNat,.bool (mM c).isSome])→∃ z n,dX.ret (.tup [x,.bool b])=dX.ret z∧fz n σ z=some (.tup [.int .u8 ((mM c).getD 0).toNat,.bool (mM c).isSome]):=fun h=>fin (by rfl) h
 simp only [go_sem,seval,c169]
 refine aj (fun h=>?_) (fun h=>?_)
 ·simp only [go_sem,seval]
  refine ender ?_
  simp only [beq_iff_eq] at h
  have : c.toNat=47:=by omega
  simp [mM,this]
 simp only [go_sem,seval]
 refine ah (EM) ?_<;>simp only [go_sem,seval]
 iterate 5
  refine dI ?_
  simp only [go_sem,seval,Nat.lt_irrefl]
  refine aj (fun h=>?_) (fun h=>?_)
  ·simp only [go_sem,seval]
   refine ender ?_
   simp only [beq_iff_eq,beq_eq_false_iff_ne,ne_eq] at *
   unfold mM
   repeat' split
   all_goals first | rfl | (exfalso;omega)
  simp only [go_sem,seval]
 refine dI ?_
 simp only [go_sem,seval]
 refine ender ?_
 simp only [beq_iff_eq,beq_eq_false_iff_ne,ne_eq] at *
 unfold mM
 repeat' split
 all_goals first | rfl | (exfalso;omega)
theorem aaq (n : Nat) (h : n < 16) : IntKind.u8.wrap ((n : Int)*2 ^ min (Int.toNat 4) IntKind.u8.bits)=((16*n : Nat) : Int):=by
 rw [show (2 : Int) ^ min (Int.toNat 4) IntKind.u8.bits=16 from rfl,bw (by omega)];omega
theorem ZQ (a b : Nat) (ha : a < 16) (hb : b < 16) : IntKind.u8.wrap ((BitVec.ofInt IntKind.u8.bits ((16*a : Nat) : Int) ||| BitVec.ofInt IntKind.u8.bits (b : Int)).toNat : Int)=((16*a+b : Nat) : Int):=by
 have e1 : (BitVec.ofInt IntKind.u8.bits ((16*a : Nat) : Int)).toNat=16*a:=by simp [BitVec.toNat_ofInt,IntKind.bits];omega
 have e2 : (BitVec.ofInt IntKind.u8.bits (b : Int)).toNat=b:=by simp [BitVec.toNat_ofInt,IntKind.bits];omega
 have : (BitVec.ofInt IntKind.u8.bits ((16*a : Nat) : Int) ||| BitVec.ofInt IntKind.u8.bits (b : Int)).toNat=16*a+b:=by
  rw [BitVec.toNat_or,e1,e2]
  have:=Nat.two_pow_add_eq_or_of_lt (i:=4) (b:=b) (by omega) a
  rw [show (16 : Nat)=2 ^ 4 from rfl];omega
 rw [this,bw (by omega)]
def iZ (s : Bs) (i : Nat) : Nat × Nat × Nat:=match s[i]? with
 | none=>(0,s.length,10)
 | some a=>match jJ a with
  | none=>(0,i,2)
  | some x=>match s[i+1]? with
   | none=>(0,s.length,10)
   | some b=>match jJ b with
    | none=>(0,i+1,2)
    | some y=>(16*x+y,i+2,0)
theorem Y8 (s : Bs) (i : Nat) (hi : i≤s.length) (hs : s.length≤100000000) : PV Tryz.prog G0 168 [.str s,.int .i64 i] (.tup [.int .u8 (iZ s i).1,.int .i64 (iZ s i).2.1,.int .i64 (iZ s i).2.2]):=by
 refine pv e168 (by simp) rfl rfl ?_
 have e2 : IntKind.i64.wrap ((i : Int)+2)=((i+2 : Nat) : Int):=by rw [iw (by omega)];omega
 have e1 : IntKind.i64.wrap ((i : Int)+1)=((i+1 : Nat) : Int):=by rw [iw (by omega)];omega
 have e3 : IntKind.i64.wrap (((i+1 : Nat) : Int)+1)=((i+2 : Nat) : Int):=by rw [iw (by omega)];omega
 have l0 : decide ((i : Int) < ((i+2 : Nat) : Int))=true:=by simp;omega
 have l1 : decide (((i+1 : Nat) : Int) < ((i+2 : Nat) : Int))=true:=by simp
 have l2 : decide (((i+2 : Nat) : Int) < ((i+2 : Nat) : Int))=false:=by simp
 simp only [go_sem,seval,c168]
 refine dI ?_
 simp only [go_sem,seval,e2,l0]
 refine aj (fun h=>?_) (fun h=>?_)
 ·simp only [go_sem,seval]
  refine fin (by rfl) ?_
  simp at h
  simp [iZ,List.getElem?_eq_none h]
 ·simp at h
  have g : s.getD i 0=s[i]:=by simp [List.getD_eq_getElem?_getD,h]
  simp only [go_sem,seval,Int.toNat_natCast,g]
  refine ⟨by omega, ?_⟩
  refine ah (Hy s[i]) ?_<;>simp only [go_sem,seval]
  cases hx : jJ s[i] with
  | none =>
   simp only [go_sem,seval,hx]
   refine fin (by rfl) ?_
   simp [iZ,h,hx]
  | some x =>
   have hx16:=nI hx
   have o1:=ZQ 0 x (by omega) hx16
   have s1:=aaq 0 (by omega)
   simp only [go_sem,seval] at o1 s1
   rw [Nat.zero_add] at o1
   simp only [go_sem,seval,hx,e1,o1,s1]
   refine dI ?_
   simp only [go_sem,seval,e2,l1]
   refine aj (fun h'=>?_) (fun h'=>?_)
   ·simp only [go_sem,seval]
    refine fin (by rfl) ?_
    simp at h'
    have hn : s[i+1]?=none:=List.getElem?_eq_none (by omega)
    simp [iZ,h,hx,hn]
   ·simp at h'
    have h1 : i+1 < s.length:=by omega
    have g' : s.getD (i+1) 0=s[i+1]:=by simp [List.getD_eq_getElem?_getD,h1]
    simp only [go_sem,seval,Int.toNat_natCast,g']
    refine ⟨by omega, ?_⟩
    refine ah (Hy s[i+1]) ?_<;>simp only [go_sem,seval]
    cases hy : jJ s[i+1] with
    | none =>
     simp only [go_sem,seval,hy]
     refine fin (by rfl) ?_
     simp [iZ,h,hx,h1,hy]
    | some y =>
     have hy16:=nI hy
     have o2:=ZQ x y hx16 hy16
     have s2:=aaq x hx16
     simp only [go_sem,seval] at o2 s2
     simp only [go_sem,seval,hy,e3,s2,o2]
     refine dI ?_
     simp only [go_sem,seval,e2,l2]
     refine fin (by rfl) ?_
     simp [iZ,h,hx,h1,hy]
end Go.V
namespace Go.V
open Go.Proofs
set_option maxRecDepth 100000
def kR (s : Bs) : Nat→Nat→Bs→Bs × Nat × Nat
 | 0,_,_=>([],s.length,10)
 | f+1,i,out=>match s[i]? with
  | none=>([],s.length,10)
  | some c =>
   if c.toNat=34 then (out,i+1,0)
   else if c.toNat < 32 then ([],i,2)
   else if c.toNat≠92 then kR s f (i+1) (out++[c])
   else match s[i+1]? with
    | none=>([],s.length,10)
    | some d =>
     if d.toNat=120 then (if (iZ s (i+2)).2.2=0 then kR s f (i+4) (out++[UInt8.ofNat (iZ s (i+2)).1]) else ([],(iZ s (i+2)).2.1,(iZ s (i+2)).2.2))
     else match mM d with
      | none=>([],i+1,2)
      | some x=>kR s f (i+2) (out++[x])
def bT (s : Bs) : Bs × Nat × Nat:=match s[0]? with
 | none=>([],0,10)
 | some c=>if c.toNat=34 then kR s s.length 1 [] else ([],0,2)
theorem IG {s : Bs} {i : Nat} (h : (iZ s i).2.2=0) : (iZ s i).2.1=i+2∧i+2≤s.length∧(iZ s i).1 < 256:=by
 unfold iZ at *
 split at h
 ·simp at h
 ·rename_i a ha
  split at h
  ·simp at h
  ·rename_i x hx
   split at h
   ·simp at h
   ·rename_i b hb
    split at h
    ·simp at h
    ·rename_i y hy
     have:=(List.getElem?_eq_some_iff.1 hb).1
     have h1:=nI hx
     have h2:=nI hy
     simp only [ha,hx,hb,hy]
     exact ⟨trivial,by omega,by omega⟩
def IV (r : Bs × Nat × Nat) : VV:=.tup [.str r.1,.int .i64 r.2.1,.int .i64 r.2.2]
theorem EK {s : Bs} {f i : Nat} {out : Bs} (h : s.length≤i) : kR s f i out=([],s.length,10):=by
 cases f with
 | zero=>rfl
 | succ f=>simp only [kR,List.getElem?_eq_none h]
theorem Pm (s : Bs) (hs : s.length≤10000000) : PV Tryz.prog G0 126 [.str s] (IV (bT s)):=by
 refine pv e126 (by simp) rfl rfl ?_
 simp only [go_sem,seval,c126]
 refine aj (fun h=>?_) (fun h=>?_)
 ·simp at h
  simp only [go_sem,seval]
  exact fin (by rfl) (by rw [h];rfl)
 have h0 : 0 < s.length:=by
  cases s with
  | nil=>simp at h
  | cons c s'=>simp
 have g : s.getD 0 0=s[0]:=by simp [List.getD_eq_getElem?_getD,h0]
 have hu : bT s=if s[0].toNat=34 then kR s s.length 1 [] else ([],0,2):=by simp [bT,h0]
 simp only [go_sem,seval,Int.toNat_zero,g]
 refine ⟨by omega,aj (fun h=>?_) (fun h=>?_)⟩
 ·simp only [go_sem,seval]
  refine fin (by rfl) ?_
  simp at h
  rw [hu,if_neg (by omega)]
  rfl
 simp at h
 rw [if_pos (by omega)] at hu
 simp only [go_sem,seval]
 refine ⟨by omega, ?_⟩
 refine aG (fun m ρ σ=>∃ (i f : Nat) (v : VV) (out : Bs),m=s.length-i∧i≤s.length∧s.length≤f+i∧out.length≤i∧ρ.get 0=.str s∧ρ.get 5=v∧ρ.get 6=.int .i64 i∧jU σ v out∧bT s=kR s f i out) (n:=s.length-1) ?_
  ⟨1,s.length,_,[],rfl,by omega,by omega,by simp,rfl,rfl,rfl,.inr (.inr ⟨0,rfl,rfl⟩),hu⟩
 rintro m ρ σ ⟨i,f,v,out,rfl,hi,hf,hout,h0,h5,h6,hB,hR⟩
 simp only [go_sem,seval,h0,h5,h6]
 refine aj (fun h=>?_) (fun h=>?_)
 rotate_left
 ·simp at h
  simp only [go_sem,seval,h0,h5,h6]
  refine fin (by rfl) ?_
  rw [hR,EK (by omega)]
  rfl
 simp at h
 obtain ⟨f,rfl⟩ : ∃ k,f=k+1:=⟨f-1,by omega⟩
 have g : s.getD i 0=s[i]:=by simp [List.getD_eq_getElem?_getD,h]
 have e1 : IntKind.i64.wrap ((i : Int)+1)=((i+1 : Nat) : Int):=by rw [iw (by omega)];omega
 have e2 : IntKind.i64.wrap (((i+1 : Nat) : Int)+1)=((i+2 : Nat) : Int):=by rw [iw (by omega)];omega
 have gi : s[i]?=some s[i]:=by simp [h]
 simp only [kR,gi] at hR
 simp only [go_sem,seval,h0,h5,h6,Int.toNat_natCast,g]
 refine ⟨by omega,aj (fun hc=>?_) (fun hc=>?_)⟩
 ·simp only [go_sem,seval,h0,h5,h6,hB.conv,e1]
  refine fin (by rfl) ?_
  simp at hc
  rw [hR,if_pos (by omega)];rfl
 simp only [beq_eq_false_iff_ne,ne_eq] at hc
 rw [if_neg (by omega)] at hR
 simp only [go_sem,seval,h0,h5,h6,e1]
 refine aj (fun hc2=>?_) (fun hc2=>?_)
 ·simp only [go_sem,seval,h0,h5,h6]
  refine fin (by rfl) ?_
  simp at hc2
  rw [hR,if_pos (by omega)];rfl
 simp only [decide_eq_false_iff_not] at hc2
 rw [if_neg (by omega)] at hR
 simp only [go_sem,seval,h0,h5,h6,e1]
 refine aj (fun hc3=>?_) (fun hc3=>?_)
 ·simp at hc3
  rw [if_pos (by omega)] at hR
  simp only [go_sem,seval,h0,h5,h6,e1]
  refine hB.dU (kC (c:=[s[i]])) (by simp only [List.length_cons,List.length_nil];omega) fun v' σ' hB' _=>?_
  simp only [go_sem,seval,h0,h5,h6,e1]
  refine ⟨s.length-(i+1),by omega,i+1,f,v',out++[s[i]], ?_⟩
  and_intros
  all_goals first | rfl | exact hB' | exact hR | omega | (simp only [List.length_append,List.length_cons,List.length_nil];omega)
 simp at hc3
 rw [if_neg (by omega)] at hR
 simp only [go_sem,seval,h0,h5,h6,e1]
 refine aj (fun hc4=>?_) (fun hc4=>?_)
 ·simp at hc4
  simp only [go_sem,seval,h0,h5,h6,e1]
  refine fin (by rfl) ?_
  have gn : s[i+1]?=none:=List.getElem?_eq_none (by omega)
  rw [hR,gn];rfl
 simp at hc4
 have h1 : i+1 < s.length:=by omega
 have g1 : s.getD (i+1) 0=s[i+1]:=by simp [List.getD_eq_getElem?_getD,h1]
 have gi1 : s[i+1]?=some s[i+1]:=by simp [h1]
 simp only [gi1] at hR
 simp only [go_sem,seval,h0,h5,h6,e1,Int.toNat_natCast,g1]
 refine ⟨by omega,aj (fun hc5=>?_) (fun hc5=>?_)⟩
 ·simp at hc5
  rw [if_pos (by omega)] at hR
  simp only [go_sem,seval,h0,h5,h6,e1,e2]
  refine ah (Y8 s (i+2) (by omega) (by omega)) ?_<;>simp only [go_sem,seval,h0,h5,h6,e1,e2]
  have hok:=@IG s (i+2)
  generalize iZ s (i+2)=pv at hR hok
  obtain ⟨px,pn,pe⟩:=pv
  simp only at hR hok
  refine aj (fun hc6=>?_) (fun hc6=>?_)
  ·simp at hc6
   rw [if_neg (by omega)] at hR
   simp only [go_sem,seval,h0,h5,h6]
   refine fin (by rfl) ?_
   rw [hR];rfl
  ·simp at hc6
   rw [if_pos (by omega)] at hR
   obtain ⟨k1,k2,k3⟩:=hok (by omega)
   subst k1
   have hsrc : aJ Tryz.prog σ 1 59 (.sl 1 [.int .u8 (px : Int)] true)=some (([UInt8.ofNat px] : Bs).length,([UInt8.ofNat px] : Bs).map aK):=by
    rw [CW px k3];exact kC (c:=[UInt8.ofNat px])
   simp only [go_sem,seval,h0,h5,h6]
   refine hB.dU hsrc (by simp only [List.length_cons,List.length_nil];omega) fun v' σ' hB' _=>?_
   simp only [go_sem,seval,h0,h5,h6]
   refine ⟨s.length-(i+4),by omega,i+4,f,v',out++[UInt8.ofNat px], ?_⟩
   and_intros
   all_goals first | rfl | exact hB' | exact hR | omega | (simp only [List.length_append,List.length_cons,List.length_nil];omega)
 ·simp at hc5
  rw [if_neg (by omega)] at hR
  simp only [go_sem,seval,h0,h5,h6,e1]
  refine ⟨by omega, ?_⟩
  simp only [go_sem,seval,Int.toNat_natCast,g1]
  refine ah (KO s[i+1]) ?_<;>simp only [go_sem,seval,h0,h5,h6,e1]
  cases hx : mM s[i+1] with
  | none =>
   simp only [hx] at hR
   simp only [go_sem,seval,h0,h5,h6,hx]
   refine fin (by rfl) ?_
   rw [hR];rfl
  | some x =>
   simp only [hx] at hR
   simp only [go_sem,seval,h0,h5,h6,e1,e2,hx]
   refine hB.dU (kC (c:=[x])) (by simp only [List.length_cons,List.length_nil];omega) fun v' σ' hB' _=>?_
   simp only [go_sem,seval,h0,h5,h6,e2]
   refine ⟨s.length-(i+2),by omega,i+2,f,v',out++[x], ?_⟩
   and_intros
   all_goals first | rfl | exact hB' | exact hR | omega | (simp only [List.length_append,List.length_cons,List.length_nil];omega)
end Go.V
namespace Go.V
open Go.Proofs
set_option maxRecDepth 100000
theorem KF (s : Bs) (hs : s.length≤10000000) : PV Tryz.prog G0 86 [.str s] (IV (bT s)):=by
 refine pv e86 (by simp) rfl rfl ?_
 simp only [go_sem,seval,c86]
 refine aj (fun h=>?_) (fun h=>?_)
 ·simp at h
  simp only [go_sem,seval]
  exact fin (by rfl) (by rw [h];rfl)
 have h0 : 0 < s.length:=by
  cases s with
  | nil=>simp at h
  | cons c s'=>simp
 have g : s.getD 0 0=s[0]:=by simp [List.getD_eq_getElem?_getD,h0]
 have hu : bT s=if s[0].toNat=34 then kR s s.length 1 [] else ([],0,2):=by simp [bT,h0]
 simp only [go_sem,seval,Int.toNat_zero,g]
 refine ⟨by omega,aj (fun h=>?_) (fun h=>?_)⟩
 ·simp only [go_sem,seval]
  refine fin (by rfl) ?_
  simp at h
  rw [hu,if_neg (by omega)]
  rfl
 simp at h
 rw [if_pos (by omega)] at hu
 simp only [go_sem,seval]
 refine aG (fun m ρ σ=>∃ (i f : Nat) (v : VV) (out : Bs),m=s.length-i∧i≤s.length∧s.length≤f+i∧out.length≤i∧ρ.get 0=.str s∧ρ.get 5=v∧ρ.get 6=.int .i64 i∧jU σ v out∧bT s=kR s f i out) (n:=s.length-1) ?_
  ⟨1,s.length,_,[],rfl,by omega,by omega,by simp,rfl,rfl,rfl,.inl ⟨rfl,rfl⟩,hu⟩
 rintro m ρ σ ⟨i,f,v,out,rfl,hi,hf,hout,h0,h5,h6,hB,hR⟩
 simp only [go_sem,seval,h0,h5,h6]
 refine aj (fun h=>?_) (fun h=>?_)
 rotate_left
 ·simp at h
  simp only [go_sem,seval,h0,h5,h6]
  refine fin (by rfl) ?_
  rw [hR,EK (by omega)]
  rfl
 simp at h
 obtain ⟨f,rfl⟩ : ∃ k,f=k+1:=⟨f-1,by omega⟩
 have g : s.getD i 0=s[i]:=by simp [List.getD_eq_getElem?_getD,h]
 have e1 : IntKind.i64.wrap ((i : Int)+1)=((i+1 : Nat) : Int):=by rw [iw (by omega)];omega
 have e2 : IntKind.i64.wrap (((i+1 : Nat) : Int)+1)=((i+2 : Nat) : Int):=by rw [iw (by omega)];omega
 have gi : s[i]?=some s[i]:=by simp [h]
 simp only [kR,gi] at hR
 simp only [go_sem,seval,h0,h5,h6,Int.toNat_natCast,g]
 refine ⟨by omega,aj (fun hc=>?_) (fun hc=>?_)⟩
 ·simp only [go_sem,seval,h0,h5,h6,hB.conv,e1]
  refine fin (by rfl) ?_
  simp at hc
  rw [hR,if_pos (by omega)];rfl
 simp only [beq_eq_false_iff_ne,ne_eq] at hc
 rw [if_neg (by omega)] at hR
 simp only [go_sem,seval,h0,h5,h6,e1]
 refine aj (fun hc2=>?_) (fun hc2=>?_)
 ·simp only [go_sem,seval,h0,h5,h6]
  refine fin (by rfl) ?_
  simp at hc2
  rw [hR,if_pos (by omega)];rfl
 simp only [decide_eq_false_iff_not] at hc2
 rw [if_neg (by omega)] at hR
 simp only [go_sem,seval,h0,h5,h6,e1]
 refine aj (fun hc3=>?_) (fun hc3=>?_)
 ·simp at hc3
  rw [if_pos (by omega)] at hR
  simp only [go_sem,seval,h0,h5,h6,e1]
  refine hB.dU (kC (c:=[s[i]])) (by simp only [List.length_cons,List.length_nil];omega) fun v' σ' hB' _=>?_
  simp only [go_sem,seval,h0,h5,h6,e1]
  refine ⟨s.length-(i+1),by omega,i+1,f,v',out++[s[i]], ?_⟩
  and_intros
  all_goals first | rfl | exact hB' | exact hR | omega | (simp only [List.length_append,List.length_cons,List.length_nil];omega)
 simp at hc3
 rw [if_neg (by omega)] at hR
 simp only [go_sem,seval,h0,h5,h6,e1]
 refine aj (fun hc4=>?_) (fun hc4=>?_)
 ·simp at hc4
  simp only [go_sem,seval,h0,h5,h6,e1]
  refine fin (by rfl) ?_
  have gn : s[i+1]?=none:=List.getElem?_eq_none (by omega)
  rw [hR,gn];rfl
 simp at hc4
 have h1 : i+1 < s.length:=by omega
 have g1 : s.getD (i+1) 0=s[i+1]:=by simp [List.getD_eq_getElem?_getD,h1]
 have gi1 : s[i+1]?=some s[i+1]:=by simp [h1]
 simp only [gi1] at hR
 simp only [go_sem,seval,h0,h5,h6,e1,Int.toNat_natCast,g1]
 refine ⟨by omega,aj (fun hc5=>?_) (fun hc5=>?_)⟩
 ·simp at hc5
  rw [if_neg (by omega)] at hR
  simp only [go_sem,seval,h0,h5,h6,e1,Int.toNat_natCast,g1]
  refine ⟨by omega, ?_⟩
  refine ah (TR s[i+1]) ?_<;>simp only [go_sem,seval,h0,h5,h6,e1]
  cases hx : mM s[i+1] with
  | none =>
   simp only [hx] at hR
   simp only [go_sem,seval,h0,h5,h6,hx]
   refine fin (by rfl) ?_
   rw [hR];rfl
  | some x =>
   simp only [hx] at hR
   simp only [go_sem,seval,h0,h5,h6,e1,e2,hx]
   refine hB.dU (kC (c:=[x])) (by simp only [List.length_cons,List.length_nil];omega) fun v' σ' hB' _=>?_
   simp only [go_sem,seval,h0,h5,h6,e2]
   refine ⟨s.length-(i+2),by omega,i+2,f,v',out++[x], ?_⟩
   and_intros
   all_goals first | rfl | exact hB' | exact hR | omega | (simp only [List.length_append,List.length_cons,List.length_nil];omega)
 ·simp at hc5
  rw [if_pos (by omega)] at hR
  have e3 : IntKind.i64.wrap (((i+1 : Nat) : Int)+2)=((i+3 : Nat) : Int):=by rw [iw (by omega)];omega
  have e4 : IntKind.i64.wrap (((i+1 : Nat) : Int)+3)=((i+4 : Nat) : Int):=by rw [iw (by omega)];omega
  have w0 : IntKind.u8.wrap 0=0:=by decide
  simp only [go_sem,seval,h0,h5,h6]
  refine dI ?_
  simp only [go_sem,seval,h0,h5,h6,e2]
  refine aj (fun hk=>?_) (fun hk=>?_)
  ·simp at hk
   have gn : s[i+2]?=none:=List.getElem?_eq_none (by omega)
   simp only [go_sem,seval,h0,h5,h6]
   refine fin (by rfl) ?_
   rw [hR]
   simp [iZ,gn,IV]
  simp at hk
  have h2 : i+2 < s.length:=by omega
  have g2 : s.getD (i+2) 0=s[i+2]:=by simp [List.getD_eq_getElem?_getD,h2]
  have gi2 : s[i+2]?=some s[i+2]:=by simp [h2]
  simp only [go_sem,seval,h0,h5,h6,e2,Int.toNat_natCast,g2]
  refine ⟨by omega, ?_⟩
  refine ah (MK s[i+2]) ?_<;>simp only [go_sem,seval,h0,h5,h6,e2]
  cases hx : jJ s[i+2] with
  | none =>
   simp only [go_sem,seval,h0,h5,h6,hx,e2]
   refine fin (by rfl) ?_
   rw [hR]
   simp [iZ,gi2,hx,IV]
  | some x =>
   have hx16:=nI hx
   have d1 : decide (15 < (x : Int))=false:=by simp;omega
   have w1 : IntKind.u8.wrap (0+(x : Int))=x:=by rw [bw (by omega)];omega
   simp only [go_sem,seval,h0,h5,h6,hx,e2,d1,w0,w1]
   refine dI ?_
   simp only [go_sem,seval,h0,h5,h6,e3]
   refine aj (fun hk'=>?_) (fun hk'=>?_)
   ·simp at hk'
    have gn : s[i+3]?=none:=List.getElem?_eq_none (by omega)
    simp only [go_sem,seval,h0,h5,h6]
    refine fin (by rfl) ?_
    rw [hR]
    simp [iZ,gi2,hx,gn,IV]
   simp at hk'
   have h3 : i+3 < s.length:=by omega
   have g3 : s.getD (i+3) 0=s[i+3]:=by simp [List.getD_eq_getElem?_getD,h3]
   have gi3 : s[i+3]?=some s[i+3]:=by simp [h3]
   simp only [go_sem,seval,h0,h5,h6,e3,Int.toNat_natCast,g3]
   refine ⟨by omega, ?_⟩
   refine ah (MK s[i+3]) ?_<;>simp only [go_sem,seval,h0,h5,h6,e3]
   cases hy : jJ s[i+3] with
   | none =>
    simp only [go_sem,seval,h0,h5,h6,hy,e3]
    refine fin (by rfl) ?_
    rw [hR]
    simp [iZ,gi2,gi3,hx,hy,IV]
    omega
   | some y =>
    have hy16:=nI hy
    have d2 : decide (15 < (y : Int))=false:=by simp;omega
    have w2 : IntKind.u8.wrap (16*(x : Int))=((16*x : Nat) : Int):=by rw [bw (by omega)];omega
    have w3 : IntKind.u8.wrap (((16*x : Nat) : Int)+(y : Int))=((16*x+y : Nat) : Int):=by rw [bw (by omega)];omega
    have hp : iZ s (i+2)=(16*x+y,i+4,0):=by simp [iZ,gi2,gi3,hx,hy]
    rw [hp] at hR
    simp only [if_true] at hR
    simp only [go_sem,seval,h0,h5,h6,hy,e3,d2,w2,w3]
    refine dI ?_
    have hsrc : aJ Tryz.prog σ 1 59 (.sl 1 [.int .u8 ((16*x+y : Nat) : Int)] true)=some (([UInt8.ofNat (16*x+y)] : Bs).length,([UInt8.ofNat (16*x+y)] : Bs).map aK):=by
     rw [CW _ (by omega)];exact kC (c:=[UInt8.ofNat (16*x+y)])
    simp only [go_sem,seval,h0,h5,h6,e4]
    refine hB.dU hsrc (by simp only [List.length_cons,List.length_nil];omega) fun v' σ' hB' _=>?_
    simp only [go_sem,seval,h0,h5,h6,e4]
    refine ⟨s.length-(i+4),by omega,i+4,f,v',out++[UInt8.ofNat (16*x+y)], ?_⟩
    and_intros
    all_goals first | rfl | exact hB' | exact hR | omega | (simp only [List.length_append,List.length_cons,List.length_nil];omega)
end Go.V
namespace Go.V
open Go.Proofs
set_option maxRecDepth 100000
def dL (e at_ : Int) : VV:=if e=0 then .nili else .ifc 135 (.ptr [.int .i64 at_,.ifc 31 (.int .i64 e)] 0)
theorem wK (e a : Int) : PV Tryz.prog G0 47 [.int .i64 e,.int .i64 a] (dL e a):=by
 refine pv e47 (by simp) rfl (by unfold dL;split<;>rfl) ?_
 simp only [go_sem,seval,c47]
 refine aj (fun h=>?_) (fun h=>?_)
 ·simp at h
  simp only [go_sem,seval]
  exact fin (by unfold dL;split<;>rfl) (by rw [dL,if_pos h])
 ·simp at h
  simp only [go_sem,seval]
  refine ⟨_,3,rfl, ?_⟩
  rw [dL,if_neg h]
  rfl
def sW (u : Nat) (neg : Bool) : Int × Nat:=if neg then (if 9223372036854775808 < u then (0,4) else (-(u : Int),0)) else if 9223372036854775807 < u then (0,4) else (u,0)
theorem Q5 (u : Nat) (hu : u < 18446744073709551616) (b : Bool) : PV Tryz.prog G0 127 [.int .u64 u,.bool b] (.tup [.int .i64 (sW u b).1,.int .i64 (sW u b).2]):=by
 refine pv e127 (by simp) rfl rfl ?_
 simp only [go_sem,seval,c127]
 cases b with
 | true =>
  simp only [go_sem,seval]
  refine aj (fun h=>?_) (fun h=>?_)
  ·simp at h
   simp only [go_sem,seval]
   refine fin (by rfl) ?_
   simp only [sW,if_true,Bool.false_eq_true,if_false]
   rw [if_pos (by omega)]
   rfl
  ·simp at h
   simp only [go_sem,seval]
   refine fin (by rfl) ?_
   rw [ZV,wu64]
   simp only [sW,if_true]
   rw [if_neg (by omega)]
   simp only [VV.tup.injEq,List.cons.injEq,VV.int.injEq,true_and,and_true]
   refine ⟨by omega,rfl⟩
 | false =>
  simp only [go_sem,seval]
  refine aj (fun h=>?_) (fun h=>?_)
  ·simp at h
   simp only [go_sem,seval]
   refine fin (by rfl) ?_
   simp only [sW,if_true,Bool.false_eq_true,if_false]
   rw [if_pos (by omega)]
   rfl
  ·simp at h
   simp only [go_sem,seval]
   refine fin (by rfl) ?_
   rw [iw (by omega)]
   simp only [sW,Bool.false_eq_true,if_false]
   rw [if_neg (by omega)]
   rfl
end Go.V
namespace Go.V
variable {P : Program} {G : Nat→Option (List VV)}
theorem vV {Q Q' : Out→Env→Store→Prop} {ρ : Env} {σ : Store} {g : Option Bool} {op : Op} {ty : TypeId} {d : Option Nat} {r : List VO} (hq : ∀ o ρ σ,Q o ρ σ→Q' o ρ σ) (h : xw P G g op ty d r Q ρ σ) : xw P G g op ty d r Q' ρ σ:=by
 unfold xw at h ⊢
 split
 ·exact nJ hq _ _ _ h
 ·exact nJ hq _ _ _ h
 ·exact h
theorem jY {Q Q' : Out→Env→Store→Prop} {ρ : Env} {σ : Store} {v : VV} {a b : aA} (hq : ∀ o ρ σ,Q o ρ σ→Q' o ρ σ) (h : pV P G v a b Q ρ σ) : pV P G v a b Q' ρ σ:=by
 cases v with
 | bool t =>
  cases t
  ·rw [zi] at h ⊢;exact iC b hq _ _ h
  ·rw [Au] at h ⊢;exact iC a hq _ _ h
 | _=>exact h
theorem yB {K M : Env→Store→Prop} {Q : Out→Env→Store→Prop} (h : ∀ ρ σ,M ρ σ→K ρ σ) : ∀ o ρ σ,eX M Q o ρ σ→eX K Q o ρ σ:=kV h fun _ _ _ h=>h
theorem ZH {c : aA} {Q Q' : Out→Env→Store→Prop} {Q₂ : Out→Env→Store→Prop} (h : ∀ o ρ σ,Q o ρ σ→Q' o ρ σ) : ∀ o ρ σ,eX (jQ P G c Q) Q₂ o ρ σ→eX (jQ P G c Q') Q₂ o ρ σ :=
 kV (fun ρ σ hh=>iC c h ρ σ hh) fun _ _ _ h=>h
theorem iD {a b : aA} {Q : Out→Env→Store→Prop} {ρ : Env} {σ : Store} (M : Env→Store→Prop) (h : jQ P G a (eX M Q) ρ σ) (hm : ∀ ρ σ,M ρ σ→jQ P G b Q ρ σ) : jQ P G (.seq a b) Q ρ σ :=
 iC a (yB hm) ρ σ h
end Go.V
namespace Go.V
open Go.Proofs
set_option maxRecDepth 100000
def dJ (c : UInt8) : Bool:=decide (48≤c.toNat) && decide (c.toNat≤57)
def dD (b : Bs) : Nat:=b.foldl (fun a c=>10*a+(c.toNat-48)) 0
def isNeg (s : Bs) : Bool:=(s.head?.map (fun c=>c.toNat == 45)).getD false
def body (s : Bs) : Bs:=if isNeg s then s.drop 1 else s
def jf (s : Bs) : Bool:=!(body s).isEmpty && !(((body s).head?.map (fun c=>c.toNat == 48)).getD false && decide (1 < s.length)) && (body s).all dJ
def parseNum (s : Bs) : Int × Nat:=if jf s then (if isNeg s then (if 9223372036854775808 < dD (body s) then (0,4) else (-(dD (body s) : Int),0)) else if 9223372036854775807 < dD (body s) then (0,4) else (dD (body s),0)) else (0,2)
theorem yw (s : Bs) : body s=s.drop (if isNeg s then 1 else 0):=by unfold body;split<;>simp
theorem X5 (s : Bs) (hs : s.length≤10000000) : PV Tryz.prog G0 170 [.str s] (.bool (jf s)):=by
 refine pv e170 (by simp) rfl rfl ?_
 simp only [go_sem,seval,c170]
 refine vV (ZH (yB (M:=fun ρ σ=>ρ.get 0=.str s∧ρ.get 3=.int .i64 ((if isNeg s then 1 else 0 : Nat) : Int)) ?_)) ?_
 ·rintro ρ σ ⟨h0,h3⟩
  have hb:=yw s
  have hk : (if isNeg s then 1 else 0 : Nat)≤s.length:=by
   split
   ·rename_i h
    cases s with
    | nil=>simp [isNeg] at h
    | cons c r=>simp
   ·omega
  generalize (if isNeg s then 1 else 0 : Nat)=k at h3 hb hk
  simp only [go_sem,seval,h0,h3]
  refine vV (ZH (yB (M:=fun ρ σ=>ρ.get 0=.str s∧ρ.get 3=.int .i64 k∧k < s.length∧(s[k]?.map (fun c=>c.toNat == 48)=some true→¬ 1 < s.length)) ?_)) ?_
  ·rintro ρ σ ⟨h0,h3,hkl,h48⟩
   simp only [go_sem,seval,h0,h3]
   refine aG (fun m ρ σ=>∃ i : Nat,m=s.length-i∧k≤i∧i≤s.length∧ρ.get 0=.str s∧ρ.get 4=.int .i64 i∧((s.drop k).take (i-k)).all dJ=true) (n:=s.length-k) ?_ ⟨k,rfl,Nat.le_refl _,hk,by simp only [go_sem,seval,h0],rfl,by simp⟩
   rintro m ρ σ ⟨i,rfl,hki,hi,h0,h4,hall⟩
   have hbl : (body s).length=s.length-k:=by rw [hb];simp
   have hne : (body s).isEmpty=false:=by
    cases hbs : body s with
    | nil=>rw [hbs] at hbl;simp at hbl;omega
    | cons c r=>rfl
   have hhd : ((body s).head?.map (fun c=>c.toNat == 48)).getD false=true→¬ 1 < s.length:=by
    rw [hb,List.head?_drop]
    intro h
    apply h48
    cases hc : s[k]? with
    | none=>rw [hc] at h;simp at h
    | some c=>rw [hc] at h;simpa using h
   have hw : jf s=(body s).all dJ:=by
    unfold jf
    rw [hne]
    cases h : ((body s).head?.map (fun c=>c.toNat == 48)).getD false with
    | false=>simp
    | true=>simp [hhd h]
   simp only [go_sem,seval,h0,h4]
   refine aj (fun h=>?_) (fun h=>?_)
   ·simp at h
    have g : s.getD i 0=s[i]:=by simp [List.getD_eq_getElem?_getD,h]
    have hc:=s[i].toNat_lt
    have e1 : IntKind.i64.wrap ((i : Int)+1)=((i+1 : Nat) : Int):=by rw [iw (by omega)];omega
    have hin : s[i] ∈ body s:=by
     rw [hb,List.mem_iff_getElem?]
     exact ⟨i-k,by rw [List.getElem?_drop,show k+(i-k)=i by omega];simp [h]⟩
    have bad : dJ s[i]=false→jf s=false:=by
     intro hd
     rw [hw,List.all_eq_false]
     exact ⟨_,hin,by simp [hd]⟩
    have next : dJ s[i]=true→((s.drop k).take (i+1-k)).all dJ=true:=by
     intro hd
     rw [show i+1-k=(i-k)+1 by omega,List.take_add_one,List.getElem?_drop,show k+(i-k)=i by omega]
     simp [h,hall,hd]
    simp only [go_sem,seval,h0,h4,Int.toNat_natCast,g]
    refine ⟨by omega, ?_⟩
    repeat' (first | (refine aY (fun h=>?_) (fun h=>?_)<;>simp only [go_sem,seval,h,h0,h4,g,Int.toNat_natCast,e1]) | (refine aj (fun h=>?_) (fun h=>?_)<;>simp only [go_sem,seval,h,h0,h4,g,Int.toNat_natCast,e1]) | (refine bF (fun h=>?_) (fun h=>?_)<;>simp only [go_sem,seval,h,h0,h4,g,Int.toNat_natCast,e1]) | (refine aS (fun h=>?_) (fun h=>?_)<;>simp only [go_sem,seval,h,h0,h4,g,Int.toNat_natCast,e1]) | (refine bg (fun h=>?_) (fun h=>?_)<;>simp only [go_sem,seval,h,h0,h4,g,Int.toNat_natCast,e1]) | (refine dB (fun h=>?_) (fun h=>?_)<;>simp only [go_sem,seval,h,h0,h4,g,Int.toNat_natCast,e1]))
    ·rename_i h1
     refine ⟨by omega,aj (fun h2=>?_) (fun h2=>?_)⟩
     ·simp only [go_sem,seval,h0,h4]
      refine fin (by rfl) ?_
      simp at h2
      rw [bad (by simp [dJ];omega)]
     ·simp only [go_sem,seval,h0,h4,e1]
      simp at h2 h
      refine ⟨s.length-(i+1),by omega,i+1, ?_⟩
      have:=next (by simp [dJ];omega)
      and_intros
      all_goals first | rfl | exact this | omega
    ·simp at h
     refine fin (by rfl) ?_
     rw [bad (by simp [dJ];omega)]
   ·simp at h
    simp only [go_sem,seval,h0,h4]
    refine fin (by rfl) ?_
    rw [hw,hb]
    rw [List.take_of_length_le (by simp;omega)] at hall
    rw [hall]
  ·have key : ∀ (h : k < s.length) ,s.getD k 0=s[k]:=fun h=>by simp [List.getD_eq_getElem?_getD,h]
   refine bF (fun hkl=>?_) (fun hkl=>?_)
   ·have hlt : k < s.length:=by simp at hkl;omega
    have g:=key hlt
    have hbl : (body s).length=s.length-k:=by rw [hb];simp
    have hgk : s[k]?=some s[k]:=by simp [hlt]
    have bad : s[k].toNat=48→1 < s.length→jf s=false:=by
     intro h1 h2
     unfold jf
     rw [hb,List.head?_drop,hgk]
     simp [h1,h2]
    simp only [go_sem,seval,h0,h3,hkl,Int.toNat_natCast,g]
    refine ⟨by omega,aS (fun h8=>?_) (fun h8=>?_)⟩
    ·simp only [go_sem,seval,h0,h3,hkl,h8]
     refine aj (fun h9=>?_) (fun h9=>?_)
     ·simp only [go_sem,seval,h0,h3]
      refine fin (by rfl) ?_
      simp at h8 h9
      rw [bad (by omega) (by omega)]
     ·simp only [go_sem,seval,h0,h3]
      simp at h9
      exact ⟨hlt,fun _=>by omega⟩
    ·simp only [go_sem,seval,h0,h3,hkl,h8]
     refine ⟨hlt,fun h=>?_⟩
     rw [hgk] at h
     simp at h h8
     omega
   ·have he : s.length≤k:=by simp at hkl;omega
    simp only [go_sem,seval,h0,h3,hkl]
    refine fin (by rfl) ?_
    have : body s=[]:=by rw [hb,List.drop_eq_nil_of_le he]
    unfold jf
    rw [this];rfl
 ·refine aS (fun hd=>?_) (fun hd=>?_)
  ·have h : 0 < s.length:=by simpa using hd
   have g : s.getD 0 0=s[0]:=by simp [List.getD_eq_getElem?_getD,h]
   have hn : isNeg s=(s[0].toNat == 45):=by
    cases s with
    | nil=>simp at h
    | cons c r=>simp [isNeg]
   simp only [go_sem,seval,hd,Int.toNat_zero,g]
   refine ⟨by omega,aj (fun h=>?_) (fun h=>?_)⟩
   ·simp at h
    have : isNeg s=true:=by rw [hn];simp;omega
    simp only [go_sem,seval,this]
   ·simp at h
    have : isNeg s=false:=by rw [hn];simp;omega
    simp only [go_sem,seval,this]
  ·have h : s=[]:=by simpa using hd
   have : isNeg s=false:=by rw [h];rfl
   simp only [go_sem,seval,hd,this]
end Go.V
namespace Go.V
open Go.Proofs
set_option maxRecDepth 100000
theorem zk (p : Bs) (c : UInt8) : dD (p++[c])=10*dD p+(c.toNat-48):=by simp [dD]
theorem Dj (q : Bs) : ∀ a b : Nat,a≤b→a≤q.foldl (fun a c=>10*a+(c.toNat-48)) b:=by
 induction q with
 | nil=>intro a b h;simpa using h
 | cons c q ih =>
  intro a b h
  simp only [List.foldl_cons]
  exact ih a (10*b+(c.toNat-48)) (by omega)
theorem Ic (p q : Bs) : dD p≤dD (p++q):=by
 unfold dD
 rw [List.foldl_append]
 exact Dj q _ _ (Nat.le_refl _)
theorem Jm (b : Bs) (j : Nat) : dD (b.take j)≤dD b:=by
 have:=Ic (b.take j) (b.drop j)
 rwa [List.take_append_drop] at this
theorem TS (s : Bs) (hs : s.length≤10000000) : PV Tryz.prog G0 131 [.str s] (.tup [.int .i64 (parseNum s).1,.int .i64 (parseNum s).2]):=by
 refine pv e131 (by simp) rfl rfl ?_
 simp only [go_sem,seval,c131]
 refine ah (X5 s hs) ?_<;>simp only [go_sem,seval]
 refine aY (fun h=>?_) (fun h=>?_)
 ·simp only [go_sem,seval]
  exact fin (by rfl) (by simp [parseNum,h])
 simp only [go_sem,seval]
 have hb:=yw s
 have hk0 : (if isNeg s then 1 else 0 : Nat)≤s.length:=by
  split
  ·rename_i h
   cases s with
   | nil=>simp [isNeg] at h
   | cons c r=>simp
  ·omega
 have hkn : isNeg s=true↔(if isNeg s then 1 else 0 : Nat)=1:=by split<;>simp_all
 have hneg : ∀ h : 0 < s.length,isNeg s=(s[0].toNat == 45):=by
  intro h
  cases s with
  | nil=>simp at h
  | cons c r=>simp [isNeg]
 have hall : (body s).all dJ=true:=by unfold jf at h;simp at h;simpa using h.2
 have hne : body s≠[]:=by intro e;unfold jf at h;rw [e] at h;simp at h
 generalize hk : (if isNeg s then 1 else 0 : Nat)=k at hb hk0 hkn
 have hk1 : k≤1:=by subst hk;split<;>omega
 have hbl : (body s).length=s.length-k:=by rw [hb];simp
 have hlen : k < s.length:=by
  have : (body s).length≠0:=by simpa using hne
  omega
 have hP : parseNum s=if isNeg s then (if 9223372036854775808 < dD (body s) then (0,4) else (-(dD (body s) : Int),0)) else if 9223372036854775807 < dD (body s) then (0,4) else (dD (body s),0):=by
  unfold parseNum;rw [if_pos h]
 refine aG (fun m ρ σ=>∃ (i v : Nat),m=s.length-i∧i≤s.length∧ρ.get 0=.str s∧ρ.get 4=.int .i64 (-(v : Int))∧ρ.get 11=.int .i64 s.length∧ρ.get 12=.int .i64 i∧v=dD ((body s).take (i-k))∧v≤9223372036854775808) (n:=s.length) ?_
  ⟨0,0,rfl,by omega,rfl,rfl,rfl,rfl,by simp [dD],by omega⟩
 rintro m ρ σ ⟨i,v,rfl,hi,h0,h4,h11,h12,hv,hv63⟩
 simp only [go_sem,seval,h0,h4,h11,h12]
 refine aj (fun hc=>?_) (fun hc=>?_)
 ·simp at hc
  have g : s.getD i 0=s[i]:=by simp [List.getD_eq_getElem?_getD,hc]
  have e1 : IntKind.i64.wrap ((i : Int)+1)=((i+1 : Nat) : Int):=by rw [iw (by omega)];omega
  have hcb:=s[i].toNat_lt
  have hdig : k≤i→48≤s[i].toNat∧s[i].toNat≤57:=by
   intro hki
   have hin : s[i] ∈ body s:=by
    rw [hb,List.mem_iff_getElem?]
    exact ⟨i-k,by rw [List.getElem?_drop,show k+(i-k)=i by omega];simp [hc]⟩
   have:=List.all_eq_true.1 hall _ hin
   simpa [dJ] using this
  have hsnoc : k≤i→dD ((body s).take (i+1-k))=10*v+(s[i].toNat-48):=by
   intro hki
   rw [show i+1-k=(i-k)+1 by omega,List.take_add_one,hb,List.getElem?_drop,show k+(i-k)=i by omega]
   simp only [List.getElem?_eq_getElem hc,Option.toList_some]
   rw [zk,hv,hb]
  simp only [go_sem,seval,h0,h4,h11,h12,Int.toNat_natCast,g]
  refine ⟨by omega,aj (fun hm=>?_) (fun hm=>?_)⟩
  ·simp only [go_sem,seval,h0,h4,h11,h12,e1]
   simp at hm
   refine ⟨s.length-(i+1),by omega,i+1,v, ?_⟩
   have hik : i < k:=by
    rcases Nat.lt_or_ge i k with h | h
    ·exact h
    ·have:=hdig h;omega
   have : v=dD ((body s).take (i+1-k)):=by rw [hv,show i-k=0 by omega,show i+1-k=0 by omega]
   and_intros
   all_goals first | rfl | exact this | omega
  ·simp at hm
   have hki : k≤i:=by
    rcases Nat.lt_or_ge i k with h | h
    ·exfalso
     have hk1' : k=1:=by omega
     have hi0 : i=0:=by omega
     subst hi0
     have h1:=hkn.2 hk1'
     rw [hneg hc] at h1
     simp at h1
     omega
    ·exact h
   obtain ⟨hd1,hd2⟩:=hdig hki
   obtain ⟨d,hd⟩ : ∃ d : Nat,s[i].toNat=48+d:=⟨s[i].toNat-48,by omega⟩
   have hs':=hsnoc hki
   rw [hd,show 48+d-48=d by omega] at hs'
   have e2 : IntKind.i64.wrap (IntKind.u8.wrap ((s[i].toNat : Int)-48))=(d : Int):=by rw [bw (by omega),iw (by omega)];omega
   have e3 : IntKind.i64.wrap (-9223372036854775808+(d : Int))=-((9223372036854775808-d : Nat) : Int):=by rw [iw (by omega)];omega
   have e4 : IntKind.i64.wrap (Int.tdiv (-((9223372036854775808-d : Nat) : Int)) 10)=-(((9223372036854775808-d) / 10 : Nat) : Int):=by
    rw [Int.neg_tdiv,show (10 : Int)=((10 : Nat) : Int) from rfl,Aj,iw (by omega)]
   simp only [go_sem,seval,h0,h4,h11,h12,Int.toNat_natCast,g,e2,e3,e4]
   refine ⟨by omega,aj (fun ho=>?_) (fun ho=>?_)⟩
   ·simp only [go_sem,seval,h0,h4]
    refine fin (by rfl) ?_
    simp at ho
    have hbig:=Jm (body s) (i+1-k)
    rw [hs'] at hbig
    rw [hP]
    split
    ·rw [if_pos (by omega)];rfl
    ·rw [if_pos (by omega)];rfl
   ·simp at ho
    have e5 : IntKind.i64.wrap (10*-(v : Int))=-((10*v : Nat) : Int):=by rw [iw (by omega)];omega
    have e6 : IntKind.i64.wrap (-((10*v : Nat) : Int)-(d : Int))=-((10*v+d : Nat) : Int):=by rw [iw (by omega)];omega
    simp only [go_sem,seval,h0,h4,h11,h12,e1,e5,e6]
    refine ⟨s.length-(i+1),by omega,i+1,10*v+d, ?_⟩
    and_intros
    all_goals first | rfl | exact hs'.symm | omega
 ·simp at hc
  have hvb : v=dD (body s):=by rw [hv,List.take_of_length_le (by omega)]
  have g : s.getD 0 0=s[0]:=by simp [List.getD_eq_getElem?_getD,show 0 < s.length by omega]
  have hng:=hneg (by omega)
  simp only [go_sem,seval,h0,h4,h11,h12,Int.toNat_zero,g]
  refine ⟨by omega,aj (fun hm=>?_) (fun hm=>?_)⟩
  ·simp only [go_sem,seval,h0,h4]
   refine fin (by rfl) ?_
   simp at hm
   rw [hP,if_pos (by rw [hng];simp;omega),if_neg (by omega),hvb]
   rfl
  ·simp at hm
   have hnn : ¬ isNeg s=true:=by rw [hng];simp;omega
   simp only [go_sem,seval,h0,h4]
   refine aj (fun hz=>?_) (fun hz=>?_)
   ·simp at hz
    simp only [go_sem,seval,h0,h4]
    refine fin (by rfl) ?_
    rw [hP,if_neg hnn,if_pos (by omega)]
    rfl
   ·simp at hz
    have e7 : IntKind.i64.wrap (0 - -(v : Int))=(v : Int):=by rw [iw (by omega)];omega
    simp only [go_sem,seval,h0,h4,e7]
    refine fin (by rfl) ?_
    rw [hP,if_neg hnn,if_neg (by omega),hvb]
    rfl
end Go.V
