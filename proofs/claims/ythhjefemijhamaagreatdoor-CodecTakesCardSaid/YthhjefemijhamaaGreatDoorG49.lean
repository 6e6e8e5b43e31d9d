/- Texts F103 F104 F105 L28 L29. -/
import Derived.Test.YthhjefemijhamaaGreatDoorG20
import Derived.Test.YthhjefemijhamaaGreatDoorG39
import Derived.Test.YthhjefemijhamaaGreatDoorG45
import Derived.Test.YthhjefemijhamaaGreatDoorG46
import Derived.Test.YthhjefemijhamaaGreatDoorG47
import Derived.Test.YthhjefemijhamaaGreatDoorG48
set_option linter.unusedVariables false
set_option linter.unusedSimpArgs false
namespace Go.V
open Go.Proofs
set_option maxRecDepth 100000
theorem BG (x : Bs) (c : UInt8) (hx : x≠[]) : nameB (x++[c])=(nameB x && iR c):=by
 cases x with
 | nil=>exact absurd rfl hx
 | cons d r=>simp [nameB,Bool.and_assoc]
theorem Ed (c : UInt8) : nameB [c]=qP c:=by simp [nameB]
def AU (s : Bs) (p : Nat) : Nat:=if qP (s.getD p 0) then aQ iR s (p+1) else p
theorem Nc (s : Bs) (a : Int) (ha : -9223372036854775808≤a∧a≤9223372036854775807) (hs : s.length≤10000000) : PV Tryz.prog G0 53 [.str s,.int .i64 a] (Zz (cZ s a)):=by
 have hpu : (Zz (cZ s a)).isPure=true:=by cases cZ s a<;>rfl
 refine pv e53 (by simp) rfl hpu ?_
 by_cases hneg : a < 0
 ·have b1 : decide (a < 0)=true:=decide_eq_true hneg
  simp only [go_sem,seval,c53,b1]
  refine fin hpu ?_
  rw [cZ,if_pos (.inl hneg)];rfl
 have b1 : decide (a < 0)=false:=decide_eq_false hneg
 by_cases hbig : (s.length : Int) < a
 ·have b2 : decide ((s.length : Int) < a)=true:=decide_eq_true hbig
  simp only [go_sem,seval,c53,b1,b2]
  refine fin hpu ?_
  rw [cZ,if_pos (.inr hbig)];rfl
 have b2 : decide ((s.length : Int) < a)=false:=decide_eq_false hbig
 obtain ⟨p0,rfl⟩ : ∃ p : Nat,a=(p : Int):=⟨a.toNat,by omega⟩
 have hp0 : p0≤s.length:=by omega
 have hN : cZ s p0=nZ s (aQ gU s p0):=by rw [cZ,if_neg (by omega)];rfl
 rw [hN] at hpu ⊢
 simp only [go_sem,seval,c53,b1,b2]
 refine bY (M:=fun ρ σ=>ρ.get 0=.str s∧ρ.get 1=.int .i64 (aQ gU s p0 : Nat)∧ρ.get 4=.mptr 0 0∧σ=[.own [.int .i64 0,.int .i64 0,.int .i64 0,.int .i64 0,.str []]]) ?_ ?_
 rotate_left
 ·refine aG (fun m ρ σ=>∃ i : Nat,m=s.length-i∧i≤s.length∧ρ.get 0=.str s∧ρ.get 1=.int .i64 i∧ρ.get 4=.mptr 0 0∧σ=[.own [.int .i64 0,.int .i64 0,.int .i64 0,.int .i64 0,.str []]]∧aQ gU s i=aQ gU s p0) (n:=s.length-p0) ?_ ⟨p0,rfl,hp0,rfl,rfl,rfl,rfl,rfl⟩
  rintro m ρ σ ⟨i,rfl,hi,h0,h1,h4,rfl,hR⟩
  simp only [go_sem,seval,h0,h1,h4]
  refine aS (fun hc=>?_) (fun hc=>?_)
  ·have hc' : i < s.length:=by simpa using hc
   have g : s.getD i 0=s[i]:=by simp [List.getD_eq_getElem?_getD,hc']
   have e1 : IntKind.i64.wrap ((i : Int)+1)=((i+1 : Nat) : Int):=by rw [iw (by omega)];omega
   simp only [go_sem,seval,h0,h1,h4,hc,Int.toNat_natCast,g]
   refine ⟨by omega, ?_⟩
   refine ah (PI (s[i].toNat : Int)) ?_<;>simp only [go_sem,seval,h0,h1,h4,hc]
   refine aj (fun hb=>?_) (fun hb=>?_)
   ·simp only [go_sem,seval,h0,h1,h4,e1]
    have:=ji (f:=gU) hc' hb
    exact ⟨s.length-(i+1),by omega,i+1,rfl,by omega,rfl,by rw [← hR];exact this.symm⟩
   ·have : aQ gU s i=i:=eu (f:=gU) fun _=>hb
    rw [this] at hR
    simp only [go_sem,seval,h0,h1,h4,← hR]
  ·have hc' : ¬ i < s.length:=by simpa using hc
   have : aQ gU s i=i:=eu fun h=>absurd h hc'
   rw [this] at hR
   simp only [go_sem,seval,h0,h1,h4,hc,← hR]
 rintro ρ σ ⟨h0,h1,h4,rfl⟩
 have hple : aQ gU s p0≤s.length:=jH hp0
 generalize aQ gU s p0=p at h1 hple hpu ⊢
 by_cases hend : p=s.length
 ·have bE : ((p : Int) == (s.length : Int))=true:=by simp;omega
  have hx : nZ s p=.tok 0 p p 0 []:=by
   unfold nZ;rw [List.getElem?_eq_none (by omega)]
  rw [hx] at hpu ⊢
  simp only [go_sem,seval,h0,h1,h4,bE]
  refine fin hpu ?_
  rfl
 have hc' : p < s.length:=by omega
 have bE : ((p : Int) == (s.length : Int))=false:=by simp;omega
 have g : s.getD p 0=s[p]:=by simp [List.getD_eq_getElem?_getD,hc']
 have gp : s[p]?=some s[p]:=by simp [hc']
 have hL : nZ s p=Ik s p s[p]:=by unfold nZ;rw [gp]
 unfold Ik at hL
 have a1 : (0 : Int)≤(p : Int):=by omega
 have a2 : (p : Int) < (s.length : Int):=by omega
 by_cases hq : s[p].toNat=34
 ·have bQ : ((s[p].toNat : Int) == 34)=true:=by simp;omega
  rw [if_pos hq] at hL
  have hul:=vY (s.drop p)
  have e1 : IntKind.i64.wrap ((p : Int)+((bT (s.drop p)).2.1 : Int))=((p+(bT (s.drop p)).2.1 : Nat) : Int):=by simp at hul;rw [iw (by omega)];omega
  simp only [go_sem,seval,h0,h1,h4,bE,Int.toNat_natCast,g,bQ]
  refine ⟨⟨a1,a2⟩, ?_⟩
  refine ⟨⟨⟨a1,by omega⟩,by omega⟩, ?_⟩
  have et : List.take (s.length-p) (List.drop p s)=s.drop p:=List.take_of_length_le (by simp)
  rw [et]
  have hU:=KF (s.drop p) (by simp;omega)
  simp only [IV] at hU
  generalize hu : bT (s.drop p)=u at hL hul hU e1
  obtain ⟨t,k,c⟩:=u
  simp only at hL hul hU e1
  refine ah (hU) ?_<;>simp only [go_sem,seval,h0,h1,h4]
  by_cases hc0 : c=0
  ·have bC : ((c : Int) == 0)=true:=by simp;omega
   rw [if_pos hc0] at hL
   rw [hL] at hpu ⊢
   simp only [go_sem,seval,h0,h1,h4,bC,bne,Bool.not_true,e1]
   refine fin hpu ?_
   rfl
  ·have bC : ((c : Int) == 0)=false:=by simp;omega
   rw [if_neg hc0] at hL
   rw [hL] at hpu ⊢
   simp only [go_sem,seval,h0,h1,h4,bC,bne,Bool.not_false,e1]
   refine fin hpu ?_
   rfl
 have bQ : ((s[p].toNat : Int) == 34)=false:=by simp;omega
 rw [if_neg hq] at hL
 by_cases hnum : s[p].toNat=45∨dJ s[p]=true
 ·have hlet : ¬ qP s[p]=true:=by
   intro h
   unfold qP pF at h
   rcases hnum with hh | hh
   ·rw [hh] at h;simp at h
   ·unfold dJ at hh
    simp at hh h
    omega
  rw [if_neg hlet,if_pos hnum] at hL
  have hNm:=Pj s p hc' hs
  by_cases hm : s[p].toNat=45
  ·have bM : ((s[p].toNat : Int) == 45)=true:=by simp;omega
   split at hNm
   ·rename_i he
    rw [if_pos he] at hL
    rw [hL] at hpu ⊢
    simp only [go_sem,seval,h0,h1,h4,bE,Int.toNat_natCast,g,bQ,bM]
    refine ⟨⟨a1,a2⟩, ?_⟩
    refine ah (hNm) ?_<;>simp only [go_sem,seval,h0,h1,h4,dW,oU]
    refine fin hpu ?_
    rfl
   ·rename_i he
    rw [if_neg he] at hL
    rw [hL] at hpu ⊢
    simp only [go_sem,seval,h0,h1,h4,bE,Int.toNat_natCast,g,bQ,bM]
    refine ⟨⟨a1,a2⟩, ?_⟩
    refine ah (hNm) ?_<;>simp only [go_sem,seval,h0,h1,h4,dW,oU]
    refine fin hpu ?_
    rfl
  ·have bM : ((s[p].toNat : Int) == 45)=false:=by simp;omega
   have hD:=A8 (s[p].toNat : Int)
   have hdb : dJ s[p]=true:=hnum.resolve_left hm
   rw [Du,hdb] at hD
   split at hNm
   ·rename_i he
    rw [if_pos he] at hL
    rw [hL] at hpu ⊢
    simp only [go_sem,seval,h0,h1,h4,bE,Int.toNat_natCast,g,bQ,bM]
    refine ⟨⟨a1,a2⟩, ?_⟩
    refine ah (hD) ?_<;>simp only [go_sem,seval,h0,h1,h4]
    refine ah (hNm) ?_<;>simp only [go_sem,seval,h0,h1,h4,dW,oU]
    refine fin hpu ?_
    rfl
   ·rename_i he
    rw [if_neg he] at hL
    rw [hL] at hpu ⊢
    simp only [go_sem,seval,h0,h1,h4,bE,Int.toNat_natCast,g,bQ,bM]
    refine ⟨⟨a1,a2⟩, ?_⟩
    refine ah (hD) ?_<;>simp only [go_sem,seval,h0,h1,h4]
    refine ah (hNm) ?_<;>simp only [go_sem,seval,h0,h1,h4,dW,oU]
    refine fin hpu ?_
    rfl
 have bM : ((s[p].toNat : Int) == 45)=false:=by simp;omega
 have hD:=A8 (s[p].toNat : Int)
 have hdb : dJ s[p]=false:=by simpa using fun h=>hnum (.inr h)
 rw [Du,hdb] at hD
 rw [if_neg hnum] at hL
 simp only [go_sem,seval,h0,h1,h4,bE,Int.toNat_natCast,g,bQ,bM]
 refine ⟨⟨a1,a2⟩, ?_⟩
 refine ah (hD) ?_<;>simp only [go_sem,seval,h0,h1,h4]
 have hW : ∀ i,p≤i→i < s.length→(s.drop p).take (i+1-p)=(s.drop p).take (i-p)++[s.getD i 0]:=by
  intro i h1 h2
  have h3 : i-p < (s.drop p).length:=by simp;omega
  rw [show i+1-p=(i-p)+1 by omega,List.take_succ_eq_append_getElem h3]
  congr 2
  rw [List.getElem_drop]
  simp [List.getD_eq_getElem?_getD,h2,show p+(i-p)=i by omega]
 refine bY (M:=fun ρ σ=>ρ.get 0=.str s∧ρ.get 1=.int .i64 p∧ρ.get 4=.mptr 0 0∧ρ.get 11=.int .i64 (AU s p : Nat)∧σ=[.own [.int .i64 0,.int .i64 0,.int .i64 0,.int .i64 0,.str []]]) ?_ ?_
 rotate_left
 ·refine aG (fun m ρ σ=>∃ i : Nat,m=s.length-i∧p≤i∧i≤s.length∧ρ.get 0=.str s∧ρ.get 1=.int .i64 p∧ρ.get 4=.mptr 0 0∧ρ.get 11=.int .i64 i∧σ=[.own [.int .i64 0,.int .i64 0,.int .i64 0,.int .i64 0,.str []]]∧(i=p∨(p < i∧qP s[p]=true∧nameB ((s.drop p).take (i-p))=true∧aQ iR s i=aQ iR s (p+1)))) (n:=s.length-p) ?_ ⟨p,rfl,by omega,hple,by simp only [go_sem,seval,h0],by simp only [go_sem,seval,h1],by simp only [go_sem,seval,h4],rfl,rfl,.inl rfl⟩
  rintro m ρ σ ⟨i,rfl,hpi,hi,h0,h1,h4,h11,rfl,hR⟩
  have stopAt : ∀ (hst : ∀ h : i < s.length,nameB ((s.drop p).take (i+1-p))=false),i=AU s p:=by
   intro hst
   unfold AU
   rw [g]
   rcases hR with rfl | ⟨hlt,hl,hn,hr⟩
   ·have:=hst hc'
    rw [hW i (Nat.le_refl _) hc',Nat.sub_self,List.take_zero,List.nil_append,Ed,g] at this
    rw [if_neg (by rw [this];simp)]
   ·rw [if_pos hl,← hr]
    refine (eu fun h=>?_).symm
    have h2:=hst h
    rw [hW i hpi h,BG _ _ (by intro e;have:=congrArg List.length e;simp at this;omega),hn,Bool.true_and] at h2
    simpa [List.getD_eq_getElem?_getD,h] using h2
  simp only [go_sem,seval,h0,h1,h4,h11]
  refine aS (fun hc=>?_) (fun hc=>?_)
  ·have hci : i < s.length:=by simpa using hc
   have e1 : IntKind.i64.wrap ((i : Int)+1)=((i+1 : Nat) : Int):=by rw [iw (by omega)];omega
   have hNa:=YT ((s.drop p).take (i+1-p)) (by rw [List.length_take,List.length_drop];omega)
   cases hb : nameB ((s.drop p).take (i+1-p)) with
   | true =>
    rw [hb] at hNa
    simp only [go_sem,seval,h0,h1,h4,h11,hc,Int.toNat_natCast,e1]
    refine ⟨by omega, ?_⟩
    refine ah (hNa) ?_<;>simp only [go_sem,seval,h0,h1,h4,h11,hc,e1]
    refine ⟨s.length-(i+1),by omega,i+1,rfl,by omega,by omega,rfl,.inr ⟨by omega, ?_,hb, ?_⟩⟩
    ·rcases hR with rfl | ⟨_,hl,_,_⟩
     ·rw [hW i (Nat.le_refl _) hci,Nat.sub_self,List.take_zero,List.nil_append,Ed,g] at hb
      exact hb
     ·exact hl
    ·rcases hR with rfl | ⟨hlt,hl,hn,hr⟩
     ·rfl
     ·rw [hW i hpi hci,BG _ _ (by intro e;have:=congrArg List.length e;simp at this;omega),hn,Bool.true_and] at hb
      rw [← hr]
      refine (ji hci ?_).symm
      simpa [List.getD_eq_getElem?_getD,hci] using hb
   | false =>
    rw [hb] at hNa
    have:=stopAt fun _=>hb
    simp only [go_sem,seval,h0,h1,h4,h11,hc,Int.toNat_natCast,e1]
    refine ⟨by omega, ?_⟩
    refine ah (hNa) ?_<;>simp only [go_sem,seval,h0,h1,h4,h11,hc,e1]
    rw [← this]
  ·have hci : ¬ i < s.length:=by simpa using hc
   have:=stopAt fun h=>absurd h hci
   simp only [go_sem,seval,h0,h1,h4,h11,hc,← this]
 rintro ρ σ ⟨h0,h1,h4,h11,rfl⟩
 have hwT : AU s p=if qP s[p]=true then aQ iR s (p+1) else p:=by unfold AU;rw [g]
 by_cases hlet : qP s[p]=true
 ·rw [if_pos hlet] at hL hwT
  rw [hL] at hpu ⊢
  have hre : aQ iR s (p+1)≤s.length:=jH hc'
  have hrg : p+1≤aQ iR s (p+1):=oZ
  rw [hwT] at h11
  generalize aQ iR s (p+1)=q at h11 hre hrg hpu ⊢
  have bW : decide ((p : Int) < (q : Int))=true:=decide_eq_true (by omega)
  simp only [go_sem,seval,h0,h1,h4,h11,bW,Int.toNat_natCast]
  refine ⟨by omega, ?_⟩
  refine fin hpu ?_
  rfl
 rw [if_neg hlet] at hL hwT
 rw [hwT] at h11
 have bW : decide ((p : Int) < (p : Int))=false:=decide_eq_false (by omega)
 have hsl : fH 1 (.sl 23 (aX.map VV.str) true) (aX.map fun b=>[VV.str b]):=fH.of (wX aX) (by decide) (by rfl)
 have hlen : ∀ {σ},cO Tryz.prog 25 (.sl 23 (aX.map VV.str) true) σ=okV (.int .i64 23) σ:=by intro σ;rw [hsl.cO dM];rfl
 simp only [go_sem,seval,h0,h1,h4,h11,bW]
 refine ah (TD) ?_<;>simp only [go_sem,seval,h0,h1,h4,hlen]
 refine bY (M:=fun ρ σ=>ρ.get 0=.str s∧ρ.get 1=.int .i64 p∧ρ.get 4=.mptr 0 0∧σ=[.own [.int .i64 0,.int .i64 0,.int .i64 0,.int .i64 0,.str []]]∧qA s p=none) ?_ ?_
 ·rintro ρ σ ⟨h0,h1,h4,rfl,hs0⟩
  rw [hs0] at hL
  rw [hL] at hpu ⊢
  simp only [go_sem,seval,h0,h1,h4]
  refine fin hpu ?_
  rfl
 refine aG (fun m ρ σ=>∃ (i : Nat),m=23-i∧i≤23∧ρ.get 0=.str s∧ρ.get 1=.int .i64 p∧ρ.get 4=.mptr 0 0∧ρ.get 105=.sl 23 (aX.map VV.str) true∧ρ.get 106=.int .i64 23∧ρ.get 107=.int .i64 i ∧
   σ=[.own [.int .i64 0,.int .i64 0,.int .i64 0,.int .i64 0,.str []]]∧qA s p=(aX.drop i).find? (oG s p)) (n:=23) ?_ ⟨0,rfl,by omega,by simp only [go_sem,seval,h0],by simp only [go_sem,seval,h1],by simp only [go_sem,seval,h4],rfl,rfl,rfl,rfl,rfl⟩
 rintro m ρ σ ⟨i,rfl,hi,h0,h1,h4,h105,h106,h107,rfl,hf⟩
 simp only [go_sem,seval,h0,h1,h4,h105,h106,h107]
 refine aj (fun hc=>?_) (fun hc=>?_)
 rotate_left
 ·simp at hc
  have : aX.drop i=[]:=List.drop_eq_nil_of_le (by rw [oP];omega)
  rw [this] at hf
  simp only [go_sem,seval,h0,h1,h4]
  exact hf
 simp at hc
 have hc2 : i < 23:=by omega
 have hlt : i < aX.length:=by rw [oP];exact hc2
 have hx2:=y5 _ (List.getElem_mem hlt)
 have hg:=Uk hc2
 have hd : aX.drop i=aX[i]::aX.drop (i+1):=List.drop_eq_getElem_cons hlt
 rw [hd] at hf
 generalize aX[i]=x at hx2 hg hf
 have e1 : IntKind.i64.wrap ((p : Int)+(x.length : Int))=((p+x.length : Nat) : Int):=by rw [iw (by omega)];omega
 have e2 : IntKind.i64.wrap ((i : Int)+1)=((i+1 : Nat) : Int):=by rw [iw (by omega)];omega
 have hS:=QZ s x p hple (by omega) hs
 simp only [go_sem,seval,h0,h1,h4,h105,h106,h107,Int.toNat_natCast,Nat.mul_one,hg,List.length_map,oP]
 refine ⟨by omega,by omega, ?_⟩
 cases hh : oG s p x with
 | true =>
  rw [hh] at hS
  rw [List.find?_cons_of_pos hh] at hf
  rw [hf] at hL
  rw [hL] at hpu ⊢
  refine ah (hS) ?_<;>simp only [go_sem,seval,h0,h1,h4,h105,h106,h107,e1]
  refine fin hpu ?_
  rfl
 | false =>
  rw [hh] at hS
  rw [List.find?_cons_of_neg (by rw [hh];simp)] at hf
  refine ah (hS) ?_<;>simp only [go_sem,seval,h0,h1,h4,h105,h106,h107,e2]
  exact ⟨23-(i+1),by omega,i+1,rfl,by omega,rfl,hf⟩
end Go.V
namespace Go.V
open Go.Proofs
set_option maxRecDepth 100000
def gZ (s : Bs) (a : Int) (n w e : Int) : List VV:=[.str s,.int .i64 a,.int .i64 n,.int .i64 w,.int .i64 e]
theorem nC (k a e : Int) (n : Int) (t sg : Bs) : PV Tryz.prog G0 149 [.agg [.int .i64 k,.int .i64 a,.int .i64 e,.int .i64 n,.str t],.str sg] (.bool (decide (k=1) && t == sg)):=by
 refine pv e149 (by simp) rfl rfl ?_
 simp only [go_sem,seval,c149]
 by_cases h : k=1
 ·have b : (k == 1)=true:=by simpa using h
  simp only [go_sem,seval,b]
  exact fin (by rfl) (by simp [h])
 ·have b : (k == 1)=false:=by simpa using h
  simp only [go_sem,seval,b]
  exact fin (by rfl) (by simp [h])
theorem yJ (id : Nat) (s : Bs) (a n w0 e0 w e : Int) (σ : Store) (h : σ[id]?=some (.own (gZ s a n w0 e0))) :
  CV Tryz.prog G0 103 [.mptr id 0,.int .i64 w,.int .i64 e] σ fun r σ'=>r=.ret (.tup [])∧σ'=if e0=0 then σ.set id (.own (gZ s a n w e)) else σ:=by
 refine cv e103 (by simp) ?_
 have hl:=(List.getElem?_eq_some_iff.1 h).1
 by_cases h0 : e0=0
 ·have b : (e0 == 0)=true:=by simpa using h0
  rw [if_pos h0]
  unfold gZ at h ⊢
  have g1:=List.getElem?_set_self (a:=Obj.own [.str s,.int .i64 a,.int .i64 n,.int .i64 w,.int .i64 e0]) hl
  simp only [go_sem,seval,c103,h,b,g1]
  rw [List.set_set]
 ·have b : (e0 == 0)=false:=by simpa using h0
  rw [if_neg h0]
  unfold gZ at h
  simp only [go_sem,seval,c103,h,b]
theorem DV : ∀ l : List Bs,(strs l).flatten=l.map VV.str
 | []=>rfl
 | b::l=>by have:=DV l;simp only [strs,List.map_cons,List.flatten_cons] at this ⊢;rw [this];rfl
theorem Xz {σ : Store} {v : VV} {l : List Bs} (h : jI 1 σ v (strs l)) (hl : l.length≤1000000) (k : Bs) : CV Tryz.prog G0 148 [v,.str k] σ fun r σ'=>r=.ret (.bool (l.contains k))∧σ'=σ:=by
 refine cv e148 (by simp) ?_
 have hlen : ∀ {σ'},cO Tryz.prog 25 v σ'=okV (.int .i64 l.length) σ':=by intro σ';rw [h.cO dM];simp [strs]
 simp only [go_sem,seval,c148,hlen]
 refine bY (M:=fun ρ τ=>τ=σ∧l.contains k=false) ?_ ?_
 ·rintro ρ τ ⟨rfl,hf⟩
  simp only [go_sem,seval]
  rw [hf]
 refine aG (fun m ρ τ=>∃ j : Nat,m=l.length-j∧j≤l.length∧ρ.get 1=.str k∧ρ.get 7=v∧ρ.get 8=.int .i64 l.length∧ρ.get 9=.int .i64 j∧τ=σ∧(l.take j).contains k=false) (n:=l.length) ?_ ⟨0,rfl,by omega,rfl,rfl,rfl,rfl,rfl,by simp⟩
 rintro m ρ τ ⟨j,rfl,hj,q1,q7,q8,q9,rfl,hR⟩
 simp only [go_sem,seval,q8,q9]
 refine aj (fun hc=>?_) (fun hc=>?_)
 rotate_left
 ·have hc' : j=l.length:=by simp at hc;omega
  subst hc'
  simp only [go_sem,seval]
  rw [← hR,List.take_length]
 have hc' : j < l.length:=by simpa using hc
 obtain ⟨jd,rfl,hjd⟩:=h.dP (by intro e;have:=congrArg List.length e;simp [strs] at this;rw [this] at hc';simp at hc')
 rw [DV] at hjd
 have a1 : (0 : Int)≤(j : Int):=by omega
 have a2 : (j : Int) < ((strs l).length : Int):=by simp [strs];omega
 have a3 : j*1 < (l.map VV.str).length:=by simp;omega
 have a4 : (l.map VV.str).getD (j*1) .undef=.str l[j]:=by simp [List.getD_eq_getElem?_getD,hc']
 have e2 : IntKind.i64.wrap ((j : Int)+1)=((j+1 : Nat) : Int):=by rw [iw (by omega)];omega
 have hT : (l.take (j+1)).contains k=((l.take j).contains k || l[j] == k):=by
  rw [List.take_succ_eq_append_getElem hc',Bool.eq_iff_iff]
  simp only [List.contains_iff_mem,List.mem_append,List.mem_singleton,Bool.or_eq_true,beq_iff_eq]
  exact or_congr_right ⟨Eq.symm,Eq.symm⟩
 simp only [go_sem,seval,q1,q7,q8,q9,hjd,Int.toNat_natCast,Nat.zero_add,a1,a2,a3,a4]
 by_cases he : l[j]=k
 ·have b : (l[j] == k)=true:=by simpa using he
  have hm : l.contains k=true:=by simp;rw [← he];exact List.getElem_mem hc'
  simp only [go_sem,seval,b]
  rw [hm]
 ·have b : (l[j] == k)=false:=by simpa using he
  simp only [go_sem,seval,b,q1,q7,q8,q9,e2]
  exact ⟨l.length-(j+1),by omega,j+1,rfl,by omega,rfl,by rw [hT,hR,b];rfl⟩
theorem zF (id : Nat) (s : Bs) (a n w e : Int) (he : e≠0) (σ : Store) (h : σ[id]?=some (.own (gZ s a n w e))) : CV Tryz.prog G0 102 [.mptr id 0] σ fun r σ'=>r=.ret oU∧∃ τ,σ'=σ++τ:=by
 refine cv e102 (by simp) ?_
 have b : (e == 0)=false:=by simpa using he
 unfold gZ at h
 have h' : ∀ τ,(σ++τ)[id]?=some (.own [.str s,.int .i64 a,.int .i64 n,.int .i64 w,.int .i64 e]):=fun τ=>by rw [List.getElem?_append_left (List.getElem?_eq_some_iff.1 h).1];exact h
 simp only [go_sem,seval,c102,h',b,bne,Bool.not_false,SS]
 exact ⟨rfl,_,rfl⟩
def NxQ (id : Nat) (s : Bs) (n : Int) (σ : Store) : Lx→dX→Store→Prop
 | .tok k x e i t,r,σ'=>r=.ret (dW k x e i t)∧∃ τ,σ'=σ.set id (.own (gZ s e n 0 0))++τ
 | .err c p,r,σ'=>(∃ (x e i : Int) (t : Bs),r=.ret (dW 0 x e i t))∧∃ a τ,σ'=σ.set id (.own (gZ s a n p c))++τ
theorem Si {s : Bs} {a : Int} {c p : Nat} (h : cZ s a=.err c p) : aT s a=.err c p:=by unfold aT;rw [h]
theorem Oi {s : Bs} {a : Int} {x e : Nat} {i : Int} {t : Bs} (h : cZ s a=.tok 0 x e i t) : aT s a=.err 10 s.length:=by unfold aT;rw [h];rfl
theorem PZ {s : Bs} {a : Int} {k x e : Nat} {i : Int} {t : Bs} (h : cZ s a=.tok k x e i t) (hk : k≠0) : aT s a=.tok k x e i t:=by
 unfold aT;rw [h]
 split
 ·rename_i h;cases h;exact absurd rfl hk
 ·rfl
theorem RX {σ : Store} {id : Nat} {x y : Obj} (h : σ[id]?=some x) (τ : List Obj) : (σ++τ).set id y=σ.set id y++τ:=by
 rw [List.set_append,if_pos (List.getElem?_eq_some_iff.1 h).1]
theorem EU (id : Nat) (s : Bs) (a n : Int) (ha : -9223372036854775808≤a∧a≤9223372036854775807) (hs : s.length≤10000000) (σ : Store) (h : σ[id]?=some (.own (gZ s a n 0 0))) : CV Tryz.prog G0 102 [.mptr id 0] σ (NxQ id s n σ (aT s a)):=by
 refine cv e102 (by simp) ?_
 have hl:=(List.getElem?_eq_some_iff.1 h).1
 have hN:=Nc s a ha hs
 have hss:=fun τ y=>RX (y:=y) h τ
 unfold gZ at h
 have h' : ∀ τ,(σ++τ)[id]?=some (.own [.str s,.int .i64 a,.int .i64 n,.int .i64 0,.int .i64 0]):=fun τ=>by rw [List.getElem?_append_left hl];exact h
 cases hx : cZ s a with
 | err c p =>
  rw [hx] at hN
  rw [Si hx]
  have hc0:=kK hx
  have bC : ((c : Int) == 0)=false:=by simp;omega
  simp only [Zz,oU,dW] at hN
  simp only [go_sem,seval,c102,h',bne,beq_self_eq_true,Bool.not_true,SS]
  refine fZ (hN) ?_<;>simp only [go_sem,seval,h',SS,bC,bne,Bool.not_false]
  refine CV.mono (yJ id s a n 0 0 p c _ (h' _)) ?_
  rintro _ σ' ⟨rfl,rfl⟩
  rw [if_pos rfl,hss]
  obtain ⟨σ2,hσ2⟩ : ∃ σ2,σ2=σ.set id (Obj.own (gZ s a n p c)):=⟨_,rfl⟩
  have hlen : σ.length=σ2.length:=by rw [hσ2];simp
  rw [← hσ2,hlen]
  simp only [go_sem,seval,aO,SS]
  exact ⟨⟨0,0,0,[],rfl⟩,a,_,by rw [hσ2]⟩
 | tok k x e i t =>
  rw [hx] at hN
  simp only [Zz,dW] at hN
  by_cases hk : k=0
  ·have bK : ((k : Int) == 0)=true:=by simp;omega
   subst hk
   rw [Oi hx]
   simp only [go_sem,seval,c102,h',bne,beq_self_eq_true,Bool.not_true,SS]
   refine fZ (hN) ?_<;>simp only [go_sem,seval,h',SS,bK]
   refine CV.mono (yJ id s a n 0 0 s.length 10 _ (h' _)) ?_
   rintro _ σ' ⟨rfl,rfl⟩
   rw [if_pos rfl,hss]
   obtain ⟨σ2,hσ2⟩ : ∃ σ2,σ2=σ.set id (Obj.own (gZ s a n s.length 10)):=⟨_,rfl⟩
   have hlen : σ.length=σ2.length:=by rw [hσ2];simp
   rw [← hσ2,hlen]
   simp only [go_sem,seval,aO,SS]
   exact ⟨⟨x,e,i,t,rfl⟩,a,_,by rw [hσ2];rfl⟩
  ·have bK : ((k : Int) == 0)=false:=by simp;omega
   rw [PZ hx hk]
   simp only [go_sem,seval,c102,h',bne,beq_self_eq_true,Bool.not_true,SS]
   have g0 : ∀ y a b,(σ.set id y++[a,b])[σ.length]?=some a:=fun y a b=>by rw [List.getElem?_append_right (by simp)];simp
   have g1 : ∀ y a b,(σ.set id y++[a,b])[σ.length+1]?=some b:=fun y a b=>by rw [List.getElem?_append_right (by simp)];simp
   have g2 : ∀ y a b c,(σ.set id y++[a,b]).set σ.length c=σ.set id y++[c,b]:=fun y a b c=>by rw [List.set_append,if_neg (by simp)];simp
   refine fZ (hN) ?_<;>simp only [go_sem,seval,h',SS,bK,hss,g0,g1,g2]
   exact ⟨rfl,_,rfl⟩
end Go.V
namespace Go.V
open Go.Proofs
set_option maxRecDepth 100000
theorem Az {σ : Store} {id : Nat} {x y : Obj} {τ : List Obj} (h : σ[id]?=some x) : (σ.set id y++τ)[id]?=some y:=by
 have hl:=(List.getElem?_eq_some_iff.1 h).1
 rw [List.getElem?_append_left (by simpa using hl),List.getElem?_set_self hl]
theorem Nv {σ : Store} {id : Nat} {x y z : Obj} {τ : List Obj} (h : σ[id]?=some x) : (σ.set id y++τ).set id z=σ.set id z++τ:=by
 have hl:=(List.getElem?_eq_some_iff.1 h).1
 rw [List.set_append,if_pos (by simpa using hl),List.set_set]
def AfQ (id : Nat) (s : Bs) (n : Int) (σ : Store) (en : Bs) : Lx→dX→Store→Prop
 | .tok k x e i t,r,σ'=>(k=1∧t=[44]∧r=.ret (.bool true)∧∃ τ,σ'=σ.set id (.own (gZ s e n 0 0))++τ)∨(¬ (k=1∧t=[44])∧k=1∧t=en∧r=.ret (.bool false)∧∃ τ,σ'=σ.set id (.own (gZ s e n 0 0))++τ) ∨
   (¬ (k=1∧t=[44])∧¬ (k=1∧t=en)∧r=.ret (.bool false)∧∃ a τ,σ'=σ.set id (.own (gZ s a n x 2))++τ)
 | .err c p,r,σ'=>r=.ret (.bool false)∧∃ a τ,σ'=σ.set id (.own (gZ s a n p c))++τ
theorem U3 (id : Nat) (s : Bs) (a n : Int) (ha : -9223372036854775808≤a∧a≤9223372036854775807) (hs : s.length≤10000000) (σ : Store) (h : σ[id]?=some (.own (gZ s a n 0 0))) (en : Bs) : CV Tryz.prog G0 147 [.mptr id 0,.str en] σ (AfQ id s n σ en (aT s a)):=by
 refine cv e147 (by simp) ?_
 have hX:=EU id s a n ha hs σ h
 cases hx : aT s a with
 | err c p =>
  rw [hx] at hX
  have hc0:=gX hx
  simp only [go_sem,seval,c147]
  refine CV.mono hX ?_
  rintro r σ' ⟨⟨x,e,i,t,rfl⟩,a',τ,rfl⟩
  have i1:=nC 0 x e i t [44]
  have i2:=nC 0 x e i t en
  simp only [show decide ((0 : Int)=1)=false by decide,Bool.false_and] at i1 i2
  have hid:=Az (y:=.own (gZ s a' n p c)) (τ:=τ) h
  obtain ⟨σ2,hσ2⟩ : ∃ σ2,σ2=σ.set id (.own (gZ s a' n p c))++τ:=⟨_,rfl⟩
  rw [← hσ2] at hid ⊢
  simp only [go_sem,seval,aO,dW,SS]
  refine ah (i1) ?_<;>simp only [go_sem,seval,SS]
  refine ah (i2) ?_<;>simp only [go_sem,seval,Bool.not_false,SS]
  refine CV.mono (yJ id s a' n p c x 2 _ (by rw [List.getElem?_append_left (List.getElem?_eq_some_iff.1 hid).1];exact hid)) ?_
  rintro _ σ' ⟨rfl,rfl⟩
  rw [if_neg (by omega)]
  simp only [go_sem,seval,aO]
  exact ⟨rfl,a',_,by rw [hσ2,List.append_assoc]⟩
 | tok k x e i t =>
  rw [hx] at hX
  simp only [go_sem,seval,c147]
  refine CV.mono hX ?_
  rintro r σ' ⟨rfl,τ,rfl⟩
  have i1:=nC k x e i t [44]
  have i2:=nC k x e i t en
  have hid:=Az (y:=.own (gZ s e n 0 0)) (τ:=τ) h
  have hfl : ∀ υ z,(σ.set id (.own (gZ s e n 0 0))++τ++υ).set id z=σ.set id z++(τ++υ):=fun υ z=>by rw [List.append_assoc,Nv h]
  obtain ⟨σ2,hσ2⟩ : ∃ σ2,σ2=σ.set id (.own (gZ s e n 0 0))++τ:=⟨_,rfl⟩
  rw [← hσ2] at hid hfl ⊢
  have hkI : ((k : Int)=1)↔k=1:=by omega
  by_cases c1 : k=1∧t=[44]
  ·have e1 : (decide ((k : Int)=1) && t == [44])=true:=by simp [c1]
   rw [e1] at i1
   simp only [go_sem,seval,aO,dW,SS]
   refine ah (i1) ?_<;>simp only [go_sem,seval,SS]
   exact .inl ⟨c1.1,c1.2,rfl,_,by rw [hσ2,List.append_assoc]⟩
  have e1 : (decide ((k : Int)=1) && t == [44])=false:=by
   rw [Bool.eq_false_iff];intro h;simp [hkI] at h;exact c1 h
  rw [e1] at i1
  by_cases c2 : k=1∧t=en
  ·have e2 : (decide ((k : Int)=1) && t == en)=true:=by simp [c2]
   rw [e2] at i2
   simp only [go_sem,seval,aO,dW,SS]
   refine ah (i1) ?_<;>simp only [go_sem,seval,SS]
   refine ah (i2) ?_<;>simp only [go_sem,seval,Bool.not_true,SS]
   exact .inr (.inl ⟨c1,c2.1,c2.2,rfl,_,by rw [hσ2,List.append_assoc]⟩)
  have e2 : (decide ((k : Int)=1) && t == en)=false:=by
   rw [Bool.eq_false_iff];intro h;simp [hkI] at h;exact c2 h
  rw [e2] at i2
  simp only [go_sem,seval,aO,dW,SS]
  refine ah (i1) ?_<;>simp only [go_sem,seval,SS]
  refine ah (i2) ?_<;>simp only [go_sem,seval,Bool.not_false,SS]
  refine CV.mono (yJ id s e n 0 0 x 2 _ (by rw [List.getElem?_append_left (List.getElem?_eq_some_iff.1 hid).1];exact hid)) ?_
  rintro _ σ' ⟨rfl,rfl⟩
  rw [if_pos rfl,hfl]
  simp only [go_sem,seval,aO]
  exact .inr (.inr ⟨c1,c2,rfl,_,_,rfl⟩)
theorem JH (id : Nat) (s : Bs) (a n w e : Int) (he : e≠0) (σ : Store) (h : σ[id]?=some (.own (gZ s a n w e))) (en : Bs) : CV Tryz.prog G0 147 [.mptr id 0,.str en] σ fun r σ'=>r=.ret (.bool false)∧∃ τ,σ'=σ++τ:=by
 refine cv e147 (by simp) ?_
 have hl:=(List.getElem?_eq_some_iff.1 h).1
 have i1:=nC 0 0 0 0 [] [44]
 have i2:=nC 0 0 0 0 [] en
 simp only [show decide ((0 : Int)=1)=false by decide,Bool.false_and] at i1 i2
 simp only [go_sem,seval,c147]
 refine CV.mono (zF id s a n w e he σ h) ?_
 rintro r σ' ⟨rfl,τ,rfl⟩
 have hid : ∀ υ,(σ++τ++υ)[id]?=some (.own (gZ s a n w e)):=fun υ=>by rw [List.append_assoc,List.getElem?_append_left hl];exact h
 obtain ⟨σ2,hσ2⟩ : ∃ σ2,σ2=σ++τ:=⟨_,rfl⟩
 rw [← hσ2] at hid ⊢
 simp only [go_sem,seval,aO,oU,dW,SS]
 refine ah (i1) ?_<;>simp only [go_sem,seval,SS]
 refine ah (i2) ?_<;>simp only [go_sem,seval,Bool.not_false,SS]
 refine CV.mono (yJ id s a n w e 0 2 _ (hid _)) ?_
 rintro _ σ' ⟨rfl,rfl⟩
 rw [if_neg he]
 simp only [go_sem,seval,aO]
 exact ⟨_,by rw [hσ2,List.append_assoc]⟩
def EmQ (id : Nat) (s : Bs) (a n : Int) (σ : Store) (en : Bs) : Lx→dX→Store→Prop
 | .tok k _ e _ t,r,σ'=>(k=1∧t=en∧r=.ret (.bool true)∧∃ τ,σ'=σ.set id (.own (gZ s e n 0 0))++τ)∨(¬ (k=1∧t=en)∧r=.ret (.bool false)∧∃ τ,σ'=σ.set id (.own (gZ s a n 0 0))++τ)
 | .err c p,r,σ'=>r=.ret (.bool false)∧∃ a τ,σ'=σ.set id (.own (gZ s a n p c))++τ
theorem WY (id : Nat) (s : Bs) (a n : Int) (ha : -9223372036854775808≤a∧a≤9223372036854775807) (hs : s.length≤10000000) (σ : Store) (h : σ[id]?=some (.own (gZ s a n 0 0))) (en : Bs) : CV Tryz.prog G0 146 [.mptr id 0,.str en] σ (EmQ id s a n σ en (aT s a)):=by
 refine cv e146 (by simp) ?_
 have hX:=EU id s a n ha hs σ h
 have h0:=h
 unfold gZ at h0
 cases hx : aT s a with
 | err c p =>
  rw [hx] at hX
  have hc0:=gX hx
  have bC : ((c : Int) == 0)=false:=by simp;omega
  simp only [go_sem,seval,c146,h0]
  refine CV.mono hX ?_
  rintro r σ' ⟨⟨x,e,i,t,rfl⟩,a',τ,rfl⟩
  have i2:=nC 0 x e i t en
  simp only [show decide ((0 : Int)=1)=false by decide,Bool.false_and] at i2
  have hid : (σ.set id (.own (gZ s a' n p c))++τ)[id]?=some (.own [.str s,.int .i64 a',.int .i64 n,.int .i64 p,.int .i64 c]):=Az h
  simp only [go_sem,seval,aO,dW]
  refine ah (i2) ?_<;>simp only [go_sem,seval,hid,bC,SS]
  exact ⟨rfl,a',τ,rfl⟩
 | tok k x e i t =>
  rw [hx] at hX
  simp only [go_sem,seval,c146,h0]
  refine CV.mono hX ?_
  rintro r σ' ⟨rfl,τ,rfl⟩
  have i2:=nC k x e i t en
  have hid : (σ.set id (.own (gZ s e n 0 0))++τ)[id]?=some (.own [.str s,.int .i64 e,.int .i64 n,.int .i64 0,.int .i64 0]):=Az h
  have hfl : ∀ z,(σ.set id (.own (gZ s e n 0 0))++τ).set id z=σ.set id z++τ:=fun z=>by rw [Nv h]
  have hkI : ((k : Int)=1)↔k=1:=by omega
  by_cases c2 : k=1∧t=en
  ·have e2 : (decide ((k : Int)=1) && t == en)=true:=by simp [c2]
   rw [e2] at i2
   simp only [go_sem,seval,aO,dW,SS]
   refine ah (i2) ?_<;>simp only [go_sem,seval,SS]
   exact .inl ⟨c2.1,c2.2,rfl,_,rfl⟩
  have e2 : (decide ((k : Int)=1) && t == en)=false:=by
   rw [Bool.eq_false_iff];intro h;simp [hkI] at h;exact c2 h
  rw [e2] at i2
  simp only [go_sem,seval,aO,dW]
  refine ah (i2) ?_<;>simp only [go_sem,seval,hid,hfl,beq_self_eq_true]
  exact .inr ⟨c2,rfl,τ,rfl⟩
end Go.V
namespace Go.V
theorem wO : ∀ {l : List Tr} {q n n1 n2 : Nat} {vs : List T} {x : Tr} {v : T},Tr.xZ l q n=(n1,.inl vs)→x.mk q n1=(n2,.ok v)→Tr.xZ (l++[x]) q n=(n2,.inl (vs++[v]))
 | [],q,n,n1,n2,vs,x,v,h,hx=>by
  simp only [Tr.xZ,Prod.mk.injEq,Sum.inl.injEq] at h
  obtain ⟨rfl,rfl⟩:=h
  simp only [List.nil_append,Tr.xZ,hx]
 | y::l,q,n,n1,n2,vs,x,v,h,hx=>by
  unfold Tr.xZ at h
  split at h
  ·cases h
  ·rename_i n3 w e1
   split at h
   ·cases h
   ·rename_i n4 ws e2
    simp only [Prod.mk.injEq,Sum.inl.injEq] at h
    obtain ⟨rfl,rfl⟩:=h
    simp only [List.cons_append,Tr.xZ,e1,wO e2 hx]
theorem EL {α : Type} (l : List (Bs × α)) (k : Bs) : (lk l k).isSome=(l.map (·.1)).contains k:=by
 unfold lk
 rw [Option.isSome_map,Bool.eq_iff_iff,List.find?_isSome,List.contains_iff_mem,List.mem_map]
 simp
theorem Ej (k : Bs) (v : T) (x : Bs) : ∀ l : List (Bs × T),x ∈ (bP k v l).map (·.1)↔x=k∨x ∈ l.map (·.1)
 | []=>by simp [bP]
 | (k',v')::l=>by
  have ih:=Ej k v x l
  unfold bP
  split
  ·simp
  ·split
   ·rename_i h;subst h;simp
   ·simp only [List.map_cons,List.mem_cons,ih];exact or_left_comm
theorem Em (ps : List (Bs × T)) (x : Bs) : x ∈ (insL ps).map (·.1)↔x ∈ ps.map (·.1):=by
 have key : ∀ (ps acc : List (Bs × T)),x ∈ (ps.foldl (fun acc p=>bP p.1 p.2 acc) acc).map (·.1)↔x ∈ acc.map (·.1)∨x ∈ ps.map (·.1):=by
  intro ps
  induction ps with
  | nil=>intro acc;simp
  | cons p ps ih =>
   intro acc
   rw [List.foldl_cons,ih,Ej]
   simp only [List.map_cons,List.mem_cons]
   rw [or_assoc,or_left_comm]
 have:=key ps []
 simpa [insL] using this
structure Rw (q n0 n' : Nat) (ks : List Bs) (Xs : List Tr) (seen : List Bs) (vs : List T) (m : Md) : Prop where
 ms : Tr.xZ Xs (q+1) n0=(n',.inl vs)
 ok : ∀ x ∈ Xs,oV x∧nS 4000 x
 nd : seen.Nodup
 kl : ∀ k ∈ ks,k.length≤4000
 md : match m with
  | .val=>False
  | .vec acc=>acc=vs∧ks=[]∧seen=[]
  | .map acc=>acc=insL (ks.zip vs)∧seen=ks∧ks.length=vs.length
  | .set acc=>acc=insL (vs.map fun v=>(v.key,v))∧seen=vs.map T.key∧ks=[]
def Md.kd : Md→Int
 | .map _=>5
 | .set _=>6
 | _=>4
theorem JE {kd : Int} (h : kd=4∨kd=5∨kd=6) : (dZ kd).kd=kd:=by
 rcases h with rfl | rfl | rfl<;>rfl
theorem Rw.begin {q n : Nat} (kd : Int) : Rw q n n [] [] [] [] (dZ kd):=by
 refine ⟨rfl,by simp,List.nodup_nil,by simp, ?_⟩
 unfold dZ
 by_cases h4 : kd=4
 ·rw [if_pos h4];exact ⟨rfl,rfl,rfl⟩
 ·rw [if_neg h4]
  by_cases h5 : kd=5
  ·rw [if_pos h5];exact ⟨rfl,rfl,rfl⟩
  ·rw [if_neg h5];exact ⟨rfl,rfl,rfl⟩
section
variable {q n0 n' n'' : Nat} {ks seen : List Bs} {Xs : List Tr} {vs : List T} {x : Tr} {v : T}
theorem Rw.len {m : Md} (h : Rw q n0 n' ks Xs seen vs m) : vs.length=Xs.length:=(FW h.ms).1
theorem Rw.vec {acc : List T} (h : Rw q n0 n' ks Xs seen vs (.vec acc)) (hx : x.mk (q+1) n'=(n'',.ok v)) (h1 : oV x) (h2 : nS 4000 x) : Rw q n0 n'' ks (Xs++[x]) seen (vs++[v]) (.vec (acc++[v])):=by
 refine ⟨wO h.ms hx,fun y hy=>?_,h.nd,h.kl, ?_⟩
 ·rcases List.mem_append.1 hy with hy | hy
  ·exact h.ok y hy
  ·simp at hy;subst hy;exact ⟨h1,h2⟩
 ·obtain ⟨rfl,rfl,rfl⟩:=h.md;exact ⟨rfl,rfl,rfl⟩
theorem Rw.lkm {acc : List (Bs × T)} (h : Rw q n0 n' ks Xs seen vs (.map acc)) (k : Bs) : (lk acc k).isSome=seen.contains k:=by
 obtain ⟨rfl,rfl,hl⟩:=h.md
 rw [EL,Bool.eq_iff_iff,List.contains_iff_mem,List.contains_iff_mem,Em,(wL _ vs hl).1]
theorem Rw.map {acc : List (Bs × T)} (h : Rw q n0 n' ks Xs seen vs (.map acc)) (k : Bs) (hk : seen.contains k=false) (hl : k.length≤4000) (hx : x.mk (q+1) n'=(n'',.ok v)) (h1 : oV x) (h2 : nS 4000 x) : Rw q n0 n'' (ks++[k]) (Xs++[x]) (seen++[k]) (vs++[v]) (.map (bP k v acc)):=by
 refine ⟨wO h.ms hx,fun y hy=>?_, ?_,fun y hy=>?_, ?_⟩
 ·rcases List.mem_append.1 hy with hy | hy
  ·exact h.ok y hy
  ·simp at hy;subst hy;exact ⟨h1,h2⟩
 ·have : k ∉ seen:=by simpa using hk
  exact List.nodup_append.2 ⟨h.nd,by simp,fun a ha b hb e=>by simp at hb;subst hb;subst e;exact this ha⟩
 ·rcases List.mem_append.1 hy with hy | hy
  ·exact h.kl y hy
  ·simp at hy;subst hy;exact hl
 ·obtain ⟨rfl,rfl,hl⟩:=h.md
  refine ⟨?_,rfl,by simp [hl]⟩
  rw [List.zip_append hl]
  simp only [yI,List.zip_cons_cons,List.zip_nil_right,yK]
theorem Rw.lks {acc : List (Bs × T)} (h : Rw q n0 n' ks Xs seen vs (.set acc)) (k : Bs) : (lk acc k).isSome=seen.contains k:=by
 obtain ⟨rfl,rfl,hl⟩:=h.md
 rw [EL,Bool.eq_iff_iff,List.contains_iff_mem,List.contains_iff_mem,Em,List.map_map]
 rfl
theorem Rw.set {acc : List (Bs × T)} (h : Rw q n0 n' ks Xs seen vs (.set acc)) (hk : seen.contains v.key=false) (hx : x.mk (q+1) n'=(n'',.ok v)) (h1 : oV x) (h2 : nS 4000 x) : Rw q n0 n'' ks (Xs++[x]) (seen++[v.key]) (vs++[v]) (.set (bP v.key v acc)):=by
 refine ⟨wO h.ms hx,fun y hy=>?_, ?_,h.kl, ?_⟩
 ·rcases List.mem_append.1 hy with hy | hy
  ·exact h.ok y hy
  ·simp at hy;subst hy;exact ⟨h1,h2⟩
 ·have : v.key ∉ seen:=by simpa using hk
  exact List.nodup_append.2 ⟨h.nd,by simp,fun a ha b hb e=>by simp at hb;subst hb;subst e;exact this ha⟩
 ·obtain ⟨rfl,rfl,hl⟩:=h.md
  refine ⟨?_,by simp,hl⟩
  simp only [yI,List.map_append,List.map_cons,List.map_nil,yK]
theorem Rw.fin {n : Nat} {m : Md} (h : Rw q (n+1) n' ks Xs seen vs m) (hq : q≤64) (hn : n+1≤16384) : (Tr.node m.kd 0 [] ks Xs).mk q n=(n',.ok m.fin):=by
 have hlen:=h.len
 have hd:=h.md
 have own : wo m.kd 0 [] ks Xs.length=0:=by
  unfold wo
  cases m with
  | val=>exact hd.elim
  | vec acc=>obtain ⟨_,rfl,_⟩:=hd;simp [Md.kd]
  | map acc =>
   obtain ⟨_,e,hl⟩:=hd
   have:=OQ (e ▸ h.nd)
   simp only [Md.kd,if_true]
   rw [if_neg (by omega),if_neg (by simp),if_neg this]
  | set acc=>obtain ⟨_,_,rfl⟩:=hd;simp [Md.kd]
 unfold Tr.mk
 rw [if_neg (by omega),if_neg (by omega),own,if_neg (by simp),h.ms]
 cases m with
 | val=>exact hd.elim
 | vec acc=>obtain ⟨rfl,_,_⟩:=hd;simp [Md.kd,lg,Md.fin]
 | map acc=>obtain ⟨rfl,_,_⟩:=hd;simp [Md.kd,lg,Md.fin]
 | set acc =>
  obtain ⟨rfl,rfl,_⟩:=hd
  have:=fun hh=>(VP (vs:=vs)).1 hh h.nd
  have e4 : lg 6 ks vs=.ok (.set ((insL (vs.map fun v=>(v.key,v))).map (·.2))):=by
   unfold lg
   rw [if_neg (by decide),if_neg (by decide),if_neg this]
  simp only [Md.kd,Md.fin,e4]
  rfl
end
end Go.V
namespace Go.V
def zT (s : Bs) (a : Int) (w c : Nat) : Lx:=if c=0 then aT s a else .err c w
theorem Ae {s : Bs} {a : Int} {w c c' p : Nat} (h : zT s a w c=.err c' p) : c'≠0:=by
 unfold zT at h
 split at h
 ·exact gX h
 ·cases h;assumption
theorem zV {s : Bs} {a : Int} {w c k x e : Nat} {i : Int} {t : Bs} (h : zT s a w c=.tok k x e i t) : c=0∧aT s a=.tok k x e i t:=by
 unfold zT at h
 split at h
 ·rename_i hc;exact ⟨hc,h⟩
 ·cases h
def Yh (s : Bs) (a : Int) : Int:=match aT s a with
 | .tok _ x _ _ _=>x
 | .err _ _=>0
def MW (f : Nat) (s : Bs) (a : Int) (n q w c : Nat) : Option Rs:=match zT s a w c with
 | .err c p=>some (.er c p)
 | .tok ..=>rd f s a n q .val
def rdA (f : Nat) (s : Bs) (a : Int) (n q : Nat) (kd : Int) : Option Rs:=match aT s a with
 | .err c p=>some (.er c p)
 | .tok k _ e _ t=>if k=1∧t=(dZ kd).cl then some (.ok (dZ kd).fin e n) else rd f s a n q (dZ kd)
def YJ (f : Nat) (s : Bs) (a : Int) (n q : Nat) (m : Md) : Option Rs:=match aT s a with
 | .err c p=>some (.er c p)
 | .tok k x e _ t=>if k=1∧t=[44] then rd f s e n q m else if k=1∧t=m.cl then some (.ok m.fin e n) else some (.er 2 x)
variable {g : Nat} {s : Bs} {a : Int} {n q : Nat} {R : Rs}
theorem FD {Rv : Rs} (h : rd g s a n q .val=some Rv) : MW g s a n q 0 0=some Rv:=by
 simp only [MW,zT,if_true]
 cases g with
 | zero=>simp [rd] at h
 | succ g =>
  cases hp : aT s a with
  | err c p=>simp only [rd,Md.isVal,if_true,hp] at h;exact h
  | tok=>exact h
theorem YH {acc : List T} (h : rd (g+1) s a n q (.vec acc)=some R) : ∃ Rv,MW g s a n (q+1) 0 0=some Rv∧(∀ c p,Rv=.er c p→R=.er c p)∧∀ v e n',Rv=.ok v e n'→YJ g s e n' q (.vec (acc++[v]))=some R:=by
 rw [rd] at h
 simp only [Md.isVal,Bool.false_eq_true,if_false,one] at h
 cases hr : rd g s a n (q+1) .val with
 | none=>rw [hr] at h;simp at h
 | some Rv =>
  rw [hr] at h
  refine ⟨Rv,FD hr, ?_, ?_⟩
  ·rintro c p rfl;simpa using h.symm
  ·rintro v e n' rfl;exact h
theorem Yq {acc : List (Bs × T)} (h : rd (g+1) s a n q (.set acc)=some R) : ∃ Rv,MW g s a n (q+1) 0 0=some Rv∧(∀ c p,Rv=.er c p→R=.er c p)∧∀ v e n',Rv=.ok v e n'→∃ p : Nat,Yh s a=p∧((lk acc v.key).isSome=true→R=.er 6 p)∧((lk acc v.key).isSome=false→YJ g s e n' q (.set (bP v.key v acc))=some R):=by
 rw [rd] at h
 simp only [Md.isVal,Bool.false_eq_true,if_false,one] at h
 cases hp : aT s a with
 | err c p =>
  simp only [hp] at h
  refine ⟨.er c p,by simp [MW,zT,hp], ?_, ?_⟩
  ·rintro c p he;cases he;simpa using h.symm
  ·intro v e n' he;cases he
 | tok k x e i t =>
  simp only [hp] at h
  cases hr : rd g s a n (q+1) .val with
  | none=>rw [hr] at h;simp at h
  | some Rv =>
   rw [hr] at h
   refine ⟨Rv,FD hr, ?_, ?_⟩
   ·rintro c p rfl;simpa using h.symm
   ·rintro v e n' rfl
    refine ⟨x,by simp [Yh,hp],fun h1=>?_,fun h1=>?_⟩
    ·simp only [h1,if_true] at h;simpa using h.symm
    ·simp only [h1,Bool.false_eq_true,if_false] at h;exact h
theorem YD {acc : List (Bs × T)} (h : rd (g+1) s a n q (.map acc)=some R) : match aT s a with
  | .err c p=>R=.er c p
  | .tok k x e _ t=>(k≠4→R=.er 2 x)∧(k=4→((lk acc t).isSome=true→R=.er 6 x)∧((lk acc t).isSome=false→match aT s e with
   | .err c p=>R=.er c p
   | .tok k2 x2 e2 _ t2=>(¬ (k2=1∧t2=[58])→R=.er 2 x2)∧(k2=1∧t2=[58]→∃ Rv,MW g s e2 n (q+1) 0 0=some Rv∧(∀ c p,Rv=.er c p→R=.er c p)∧∀ v e n',Rv=.ok v e n'→YJ g s e n' q (.map (bP t v acc))=some R))):=by
 rw [rd] at h
 simp only [Md.isVal,Bool.false_eq_true,if_false,one] at h
 cases hp : aT s a with
 | err c p=>simp only [hp] at h ⊢;simpa using h.symm
 | tok k x e i t =>
  simp only [hp] at h ⊢
  refine ⟨fun hk=>?_,fun hk=>⟨fun h1=>?_,fun h1=>?_⟩⟩
  ·rw [if_pos hk] at h;simpa using h.symm
  ·rw [if_neg (by omega),if_pos h1] at h;simpa using h.symm
  ·rw [if_neg (by omega),if_neg (by simp [h1])] at h
   cases hp2 : aT s e with
   | err c p=>simp only [hp2] at h ⊢;simpa using h.symm
   | tok k2 x2 e2 i2 t2 =>
    simp only [hp2] at h ⊢
    refine ⟨fun h2=>?_,fun h2=>?_⟩
    ·rw [if_neg h2] at h;simpa using h.symm
    ·rw [if_pos h2] at h
     cases hr : rd g s e2 n (q+1) .val with
     | none=>rw [hr] at h;simp at h
     | some Rv =>
      rw [hr] at h
      refine ⟨Rv,FD hr, ?_, ?_⟩
      ·rintro c p rfl;simpa using h.symm
      ·rintro v e n' rfl;exact h
end Go.V
