/- Texts F14 F15 F16. -/
import Derived.Test.YthhjefemijhamaaGreatDoorG16
set_option linter.unusedVariables false
set_option linter.unusedSimpArgs false
namespace Go.V
open Go.Proofs
set_option maxRecDepth 100000
def letB (c : UInt8) : Bool:=isLetter c.toNat
def wordB (c : UInt8) : Bool:=letB c || isDigit c.toNat
def blankB (c : UInt8) : Bool:=blank c.toNat
def runEnd (f : UInt8→Bool) (s : Bs) (p : Nat) : Nat:=p+((s.drop p).takeWhile f).length
inductive Lx where
 | tok (k a e : Nat) (n : Int) (t : Bs)
 | err (code place : Nat)
def lexC (s : Bs) (p : Nat) (c : UInt8) : Lx :=
  if c.toNat=34 then (if (unquote (s.drop p)).2.2=0 then .tok 4 p (p+(unquote (s.drop p)).2.1) 0 (unquote (s.drop p)).1 else .err (unquote (s.drop p)).2.2 (p+(unquote (s.drop p)).2.1))
  else if letB c then .tok 2 p (runEnd wordB s (p+1)) 0 ((s.drop p).take (runEnd wordB s (p+1)-p))
  else if c.toNat=45∨digB c=true then
   (if (parseNum ((s.drop p).take (runEnd digB s (p+1)-p))).2=0 then .tok 3 p (runEnd digB s (p+1)) (parseNum ((s.drop p).take (runEnd digB s (p+1)-p))).1 [] else .err (parseNum ((s.drop p).take (runEnd digB s (p+1)-p))).2 p)
  else match signAt s p with
   | some x=>.tok 1 p (p+x.length) 0 x
   | none=>.err 2 p
def lexAt (s : Bs) (p : Nat) : Lx:=match s[p]? with
 | none=>.tok 0 p p 0 []
 | some c=>lexC s p c
def lexNext (s : Bs) (a : Int) : Lx:=if a < 0∨s.length < a then .err 1 0 else lexAt s (runEnd blankB s a.toNat)
def lxV : Lx→VV
 | .tok k a e n t=>.tup [tokV k a e n t,.nili]
 | .err c p=>.tup [tok0,faultV c p]
theorem digI (c : UInt8) : (decide ((48 : Int)≤(c.toNat : Int)) && decide ((c.toNat : Int)≤57))=digB c:=by
 unfold digB
 rw [show decide ((48 : Int)≤(c.toNat : Int))=decide (48≤c.toNat) from decide_eq_decide.2 (by omega),show decide ((c.toNat : Int)≤57)=decide (c.toNat≤57) from decide_eq_decide.2 (by omega)]
theorem runEnd_step {f : UInt8→Bool} {s : Bs} {p : Nat} (h : p < s.length) (hf : f s[p]=true) : runEnd f s p=runEnd f s (p+1):=by
 unfold runEnd
 rw [List.drop_eq_getElem_cons h,List.takeWhile_cons,if_pos hf]
 simp;omega
theorem runEnd_stop {f : UInt8→Bool} {s : Bs} {p : Nat} (h : ∀ h : p < s.length,f s[p]=false) : runEnd f s p=p:=by
 unfold runEnd
 by_cases hp : p < s.length
 ·rw [List.drop_eq_getElem_cons hp,List.takeWhile_cons,if_neg (by simp [h hp])];rfl
 ·rw [List.drop_eq_nil_of_le (by omega)];rfl
theorem runEnd_le {f : UInt8→Bool} {s : Bs} {p : Nat} (h : p≤s.length) : runEnd f s p≤s.length:=by
 unfold runEnd
 have:=(List.takeWhile_sublist (l:=s.drop p) f).length_le
 rw [List.length_drop] at this
 omega
theorem runEnd_ge {f : UInt8→Bool} {s : Bs} {p : Nat} : p≤runEnd f s p:=Nat.le_add_right _ _
theorem inBlockV_mono {id : Nat} {Q Q' : Out→Env→Store→Prop} (h : ∀ o ρ σ,Q o ρ σ→Q' o ρ σ) : ∀ o ρ σ,inBlockV id Q o ρ σ→inBlockV id Q' o ρ σ:=by
 intro o ρ σ hh
 cases o with
 | exit j=>rw [inBlockV_exit] at hh ⊢;split<;>rename_i e<;>simp only [e,if_true,if_false] at hh<;>exact h _ _ _ hh
 | _=>exact h _ _ _ hh
theorem wpV_cutB {P : Program} {G : Nat→Option (List VV)} {c : VCode} {id : Nat} {K M : Env→Store→Prop} {Q : Out→Env→Store→Prop} {ρ : Env} {σ : Store} (hm : ∀ ρ σ,M ρ σ→K ρ σ) (h : wpV P G c (inBlockV id (thenV M Q)) ρ σ) : wpV P G c (inBlockV id (thenV K Q)) ρ σ :=
 wpV_mono c (inBlockV_mono (cut1 hm)) ρ σ h
theorem p_Next (s : Bs) (a : Int) (ha : -9223372036854775808≤a∧a≤9223372036854775807) (hs : s.length≤10000000) : PV Tryz.prog G0 48 [.str s,.int .i64 a] (lxV (lexNext s a)):=by
 have hpu : (lxV (lexNext s a)).isPure=true:=by
  cases lexNext s a with
  | tok=>rfl
  | err=>simp only [lxV,VV.isPure,VV.arePure,faultV_pure,tokV];rfl
 refine pv e48 (by simp) rfl hpu ?_
 simp only [go_sem,seval,c48]
 repeat' (first | (refine condO_split_not (fun h=>?_) (fun h=>?_)<;>simp only [go_sem,seval,h]) | (refine condO_split (fun h=>?_) (fun h=>?_)<;>simp only [go_sem,seval,h]) | (refine wantO_split_not (fun h=>?_) (fun h=>?_)<;>simp only [go_sem,seval,h]) | (refine wantO_split (fun h=>?_) (fun h=>?_)<;>simp only [go_sem,seval,h]) | (refine dwantO_split_not (fun h=>?_) (fun h=>?_)<;>simp only [go_sem,seval,h]) | (refine dwantO_split (fun h=>?_) (fun h=>?_)<;>simp only [go_sem,seval,h]))
 ·have h' : (s.length : Int) < a:=by simpa using h
  refine callO_pure (p_New 1 0) ?_<;>simp only [go_sem,seval]
  refine fin hpu ?_
  rw [lexNext,if_pos (.inr h')];rfl
 rotate_left
 ·have h' : a < 0:=by simpa using h
  refine callO_pure (p_New 1 0) ?_<;>simp only [go_sem,seval]
  refine fin hpu ?_
  rw [lexNext,if_pos (.inl h')];rfl
 rename_i ha0
 simp at h ha0
 obtain ⟨p0,rfl⟩ : ∃ p : Nat,a=(p : Int):=⟨a.toNat,by omega⟩
 have hp0 : p0≤s.length:=by omega
 have hN : lexNext s p0=lexAt s (runEnd blankB s p0):=by rw [lexNext,if_neg (by omega)];rfl
 rw [hN] at hpu ⊢
 refine wpV_cutB (M:=fun ρ σ=>ρ.get 0=.str s∧ρ.get 1=.int .i64 (runEnd blankB s p0 : Nat)∧ρ.get 4=.mptr 0 0∧ρ.get 5=.nili∧σ=[.own [.int .i64 0,.int .i64 0,.int .i64 0,.int .i64 0,.str []]]) ?_ ?_
 ·rintro ρ σ ⟨h0,h1,h4,h5,rfl⟩
  have hple : runEnd blankB s p0≤s.length:=runEnd_le hp0
  generalize runEnd blankB s p0=p at h1 hple hpu
  simp only [go_sem,seval,h0,h1,h4,h5]
  have e1 : IntKind.i64.wrap ((p : Int)+1)=((p+1 : Nat) : Int):=by rw [iw (by omega)];omega
  simp only [go_sem,seval,e1]
  refine condO_split (fun hc=>?_) (fun hc=>?_)
  ·have hc' : p=s.length:=by simp at hc;omega
   have hx : lexAt s p=.tok 0 p p 0 []:=by
    unfold lexAt;rw [List.getElem?_eq_none (by omega)]
   rw [hx] at hpu ⊢
   simp only [go_sem,seval,h0,h1,h4,h5]
   refine fin hpu ?_
   rfl
  have hc' : p < s.length:=by simp at hc;omega
  have g : s.getD p 0=s[p]:=by simp [List.getD_eq_getElem?_getD,hc']
  have gp : s[p]?=some s[p]:=by simp [hc']
  have hL : lexAt s p=lexC s p s[p]:=by unfold lexAt;rw [gp]
  unfold lexC at hL
  simp only [go_sem,seval,h0,h1,h4,h5,Int.toNat_natCast,g]
  refine ⟨by omega,condO_split (fun hq=>?_) (fun hq=>?_)⟩
  ·have hq' : s[p].toNat=34:=by simp at hq;omega
   rw [if_pos hq'] at hL
   simp only [go_sem,seval,h0,h1,h4,h5]
   refine callO_pure (p_text s p hple hs) ?_<;>simp only [go_sem,seval,h0,h1,h4,h5]
   by_cases hu : (unquote (s.drop p)).2.2=0
   ·have hT : textV s p=.tup [tokV 4 p (p+(unquote (s.drop p)).2.1 : Nat) 0 (unquote (s.drop p)).1,.nili]:=by unfold textV;rw [if_pos hu]
    rw [if_pos hu] at hL
    rw [hL] at hpu ⊢
    simp only [go_sem,seval,h0,h1,h4,h5,hT,tokV]
    refine fin hpu ?_
    rfl
   ·have hT : textV s p=.tup [tok0,faultV (unquote (s.drop p)).2.2 (p+(unquote (s.drop p)).2.1 : Nat)]:=by unfold textV;rw [if_neg hu]
    rw [if_neg hu] at hL
    rw [hL] at hpu ⊢
    simp only [go_sem,seval,h0,h1,h4,h5,hT,tok0,tokV]
    refine fin hpu ?_
    rfl
  ·have hq' : ¬ s[p].toNat=34:=by simp at hq;omega
   rw [if_neg hq'] at hL
   simp only [go_sem,seval,h0,h1,h4,h5]
   refine callO_pure (p_letter (s[p].toNat : Int) false) ?_<;>simp only [go_sem,seval,h0,h1,h4,h5]
   refine condO_split (fun hw=>?_) (fun hw=>?_)
   ·rw [if_pos (show letB s[p]=true from hw)] at hL
    simp only [go_sem,seval,h0,h1,h4,h5]
    refine wpV_cutB (M:=fun ρ σ=>ρ.get 0=.str s∧ρ.get 1=.int .i64 p∧ρ.get 4=.mptr 0 0∧ρ.get 5=.nili∧ρ.get 6=.mptr 1 0∧σ=[.own [.int .i64 0,.int .i64 0,.int .i64 0,.int .i64 0,.str []],.own [.int .i64 0,.int .i64 p,.int .i64 (runEnd wordB s (p+1) : Nat),.int .i64 0,.str []]]) ?_ ?_
    ·rintro ρ σ ⟨h0,h1,h4,h5,h6,rfl⟩
     have hre : runEnd wordB s (p+1)≤s.length:=runEnd_le hc'
     have hrg : p+1≤runEnd wordB s (p+1):=runEnd_ge
     simp only [go_sem,seval,h0,h1,h4,h5,h6,Int.toNat_natCast]
     refine ⟨by omega,by omega, ?_⟩
     refine fin hpu ?_
     rw [hL];rfl
    ·refine wpV_loop_inv (fun m ρ σ=>∃ i : Nat,m=s.length-i∧i≤s.length∧ρ.get 0=.str s∧ρ.get 1=.int .i64 p∧ρ.get 4=.mptr 0 0∧ρ.get 5=.nili∧ρ.get 6=.mptr 1 0∧σ=[.own [.int .i64 0,.int .i64 0,.int .i64 0,.int .i64 0,.str []],.own [.int .i64 0,.int .i64 p,.int .i64 i,.int .i64 0,.str []]]∧runEnd wordB s i=runEnd wordB s (p+1)) (n:=s.length-(p+1)) ?_ ⟨p+1,rfl,hc',h0,h1,h4,h5,rfl,rfl,rfl⟩
     rintro m ρ σ ⟨i,rfl,hi,h0,h1,h4,h5,h6,rfl,hR⟩
     simp only [go_sem,seval,h0,h1,h4,h5,h6]
     refine wantO_split (fun hc=>?_) (fun hc=>?_)
     ·have hci : i < s.length:=by simpa using hc
      have g : s.getD i 0=s[i]:=by simp [List.getD_eq_getElem?_getD,hci]
      have e1 : IntKind.i64.wrap ((i : Int)+1)=((i+1 : Nat) : Int):=by rw [iw (by omega)];omega
      simp only [go_sem,seval,h0,h1,h4,h5,h6,hc,Int.toNat_natCast,g]
      refine ⟨by omega, ?_⟩
      refine callO_pure (p_letter (s[i].toNat : Int) true) ?_<;>simp only [go_sem,seval,h0,h1,h4,h5,h6,hc]
      refine condO_split (fun hb=>?_) (fun hb=>?_)
      ·simp only [go_sem,seval,h0,h1,h4,h5,h6,e1]
       refine ⟨s.length-(i+1),by omega,i+1, ?_⟩
       have:=runEnd_step (f:=wordB) hci hb
       and_intros
       all_goals first | rfl | omega | (rw [← hR];exact this.symm)
      ·have : runEnd wordB s i=i:=runEnd_stop (f:=wordB) fun _=>hb
       rw [this] at hR
       simp only [go_sem,seval,h0,h1,h4,h5,h6,← hR]
     ·have hci : ¬ i < s.length:=by simpa using hc
      have : runEnd wordB s i=i:=runEnd_stop fun h=>absurd h hci
      rw [this] at hR
      simp only [go_sem,seval,h0,h1,h4,h5,h6,hc,← hR]
   ·rw [if_neg (show ¬ letB s[p]=true by rw [show letB s[p]=false from hw];simp)] at hL
    simp only [go_sem,seval,h0,h1,h4,h5]
    refine condO_split (fun hm=>?_) (fun hm=>?_)
    ·simp only [go_sem,seval,h0,h1,h4,h5]
     have hnum : s[p].toNat=45∨digB s[p]=true:=.inl (by simp at hm;omega)
     rw [if_pos hnum] at hL
     refine wpV_cutB (M:=fun ρ σ=>ρ.get 0=.str s∧ρ.get 1=.int .i64 p∧ρ.get 4=.mptr 0 0∧ρ.get 5=.nili∧ρ.get 6=.mptr 1 0∧σ=[.own [.int .i64 0,.int .i64 0,.int .i64 0,.int .i64 0,.str []],.own [.int .i64 0,.int .i64 p,.int .i64 (runEnd digB s (p+1) : Nat),.int .i64 0,.str []]]) ?_ ?_
     ·rintro ρ σ ⟨h0,h1,h4,h5,h6,rfl⟩
      have hre : runEnd digB s (p+1)≤s.length:=runEnd_le hc'
      have hrg : p+1≤runEnd digB s (p+1):=runEnd_ge
      generalize runEnd digB s (p+1)=q at hL hre hrg
      simp only [go_sem,seval,h0,h1,h4,h5,h6,Int.toNat_natCast]
      refine ⟨by omega, ?_⟩
      have hxl : ((s.drop p).take (q-p)).length≤10000000:=by rw [List.length_take,List.length_drop];omega
      generalize (s.drop p).take (q-p)=x at hL hxl
      refine callO_pure (p_Parse x hxl) ?_<;>simp only [go_sem,seval,h0,h1,h4,h5,h6]
      refine condO_split (fun he=>?_) (fun he=>?_)
      ·have he' : ¬ (parseNum x).2=0:=by simp at he;omega
       rw [if_neg he'] at hL
       rw [hL] at hpu ⊢
       simp only [go_sem,seval,h0,h1,h4,h5,h6]
       refine callO_pure (p_New ((parseNum x).2 : Int) (p : Int)) ?_<;>simp only [go_sem,seval,h0,h1,h4,h5,h6]
       refine fin hpu ?_
       rfl
      ·have he' : (parseNum x).2=0:=by simp at he;omega
       rw [if_pos he'] at hL
       rw [hL] at hpu ⊢
       simp only [go_sem,seval,h0,h1,h4,h5,h6]
       refine fin hpu ?_
       rfl
     ·refine wpV_loop_inv (fun m ρ σ=>∃ i : Nat,m=s.length-i∧i≤s.length∧ρ.get 0=.str s∧ρ.get 1=.int .i64 p∧ρ.get 4=.mptr 0 0∧ρ.get 5=.nili∧ρ.get 6=.mptr 1 0∧σ=[.own [.int .i64 0,.int .i64 0,.int .i64 0,.int .i64 0,.str []],.own [.int .i64 0,.int .i64 p,.int .i64 i,.int .i64 0,.str []]]∧runEnd digB s i=runEnd digB s (p+1)) (n:=s.length-(p+1)) ?_ ⟨p+1,rfl,hc',h0,h1,h4,h5,rfl,rfl,rfl⟩
      rintro m ρ σ ⟨i,rfl,hi,h0,h1,h4,h5,h6,rfl,hR⟩
      simp only [go_sem,seval,h0,h1,h4,h5,h6]
      refine wantO_split (fun hc=>?_) (fun hc=>?_)
      ·have hci : i < s.length:=by simpa using hc
       have g : s.getD i 0=s[i]:=by simp [List.getD_eq_getElem?_getD,hci]
       have e1 : IntKind.i64.wrap ((i : Int)+1)=((i+1 : Nat) : Int):=by rw [iw (by omega)];omega
       simp only [go_sem,seval,h0,h1,h4,h5,h6,hc,Int.toNat_natCast,g]
       refine ⟨by omega, ?_⟩
       refine callO_pure (p_digit (s[i].toNat : Int)) ?_<;>simp only [go_sem,seval,h0,h1,h4,h5,h6,hc]
       refine condO_split (fun hb=>?_) (fun hb=>?_)
       ·have hb' : digB s[i]=true:=by rw [← hb];exact (digI _).symm
        simp only [go_sem,seval,h0,h1,h4,h5,h6,e1]
        refine ⟨s.length-(i+1),by omega,i+1, ?_⟩
        have:=runEnd_step (f:=digB) hci hb'
        and_intros
        all_goals first | rfl | omega | (rw [← hR];exact this.symm)
       ·have hb' : digB s[i]=false:=by rw [← hb];exact (digI _).symm
        have : runEnd digB s i=i:=runEnd_stop (f:=digB) fun _=>hb'
        rw [this] at hR
        simp only [go_sem,seval,h0,h1,h4,h5,h6,← hR]
      ·have hci : ¬ i < s.length:=by simpa using hc
       have : runEnd digB s i=i:=runEnd_stop fun h=>absurd h hci
       rw [this] at hR
       simp only [go_sem,seval,h0,h1,h4,h5,h6,hc,← hR]
    ·simp only [go_sem,seval,h0,h1,h4,h5]
     refine callO_pure (p_digit (s[p].toNat : Int)) ?_<;>simp only [go_sem,seval,h0,h1,h4,h5]
     refine condO_split (fun hb=>?_) (fun hb=>?_)
     ·simp only [go_sem,seval,h0,h1,h4,h5]
      have hnum : s[p].toNat=45∨digB s[p]=true:=.inr (by rw [← hb];exact (digI _).symm)
      rw [if_pos hnum] at hL
      refine wpV_cutB (M:=fun ρ σ=>ρ.get 0=.str s∧ρ.get 1=.int .i64 p∧ρ.get 4=.mptr 0 0∧ρ.get 5=.nili∧ρ.get 6=.mptr 1 0∧σ=[.own [.int .i64 0,.int .i64 0,.int .i64 0,.int .i64 0,.str []],.own [.int .i64 0,.int .i64 p,.int .i64 (runEnd digB s (p+1) : Nat),.int .i64 0,.str []]]) ?_ ?_
      ·rintro ρ σ ⟨h0,h1,h4,h5,h6,rfl⟩
       have hre : runEnd digB s (p+1)≤s.length:=runEnd_le hc'
       have hrg : p+1≤runEnd digB s (p+1):=runEnd_ge
       generalize runEnd digB s (p+1)=q at hL hre hrg
       simp only [go_sem,seval,h0,h1,h4,h5,h6,Int.toNat_natCast]
       refine ⟨by omega, ?_⟩
       have hxl : ((s.drop p).take (q-p)).length≤10000000:=by rw [List.length_take,List.length_drop];omega
       generalize (s.drop p).take (q-p)=x at hL hxl
       refine callO_pure (p_Parse x hxl) ?_<;>simp only [go_sem,seval,h0,h1,h4,h5,h6]
       refine condO_split (fun he=>?_) (fun he=>?_)
       ·have he' : ¬ (parseNum x).2=0:=by simp at he;omega
        rw [if_neg he'] at hL
        rw [hL] at hpu ⊢
        simp only [go_sem,seval,h0,h1,h4,h5,h6]
        refine callO_pure (p_New ((parseNum x).2 : Int) (p : Int)) ?_<;>simp only [go_sem,seval,h0,h1,h4,h5,h6]
        refine fin hpu ?_
        rfl
       ·have he' : (parseNum x).2=0:=by simp at he;omega
        rw [if_pos he'] at hL
        rw [hL] at hpu ⊢
        simp only [go_sem,seval,h0,h1,h4,h5,h6]
        refine fin hpu ?_
        rfl
      ·refine wpV_loop_inv (fun m ρ σ=>∃ i : Nat,m=s.length-i∧i≤s.length∧ρ.get 0=.str s∧ρ.get 1=.int .i64 p∧ρ.get 4=.mptr 0 0∧ρ.get 5=.nili∧ρ.get 6=.mptr 1 0∧σ=[.own [.int .i64 0,.int .i64 0,.int .i64 0,.int .i64 0,.str []],.own [.int .i64 0,.int .i64 p,.int .i64 i,.int .i64 0,.str []]]∧runEnd digB s i=runEnd digB s (p+1)) (n:=s.length-(p+1)) ?_ ⟨p+1,rfl,hc',h0,h1,h4,h5,rfl,rfl,rfl⟩
       rintro m ρ σ ⟨i,rfl,hi,h0,h1,h4,h5,h6,rfl,hR⟩
       simp only [go_sem,seval,h0,h1,h4,h5,h6]
       refine wantO_split (fun hc=>?_) (fun hc=>?_)
       ·have hci : i < s.length:=by simpa using hc
        have g : s.getD i 0=s[i]:=by simp [List.getD_eq_getElem?_getD,hci]
        have e1 : IntKind.i64.wrap ((i : Int)+1)=((i+1 : Nat) : Int):=by rw [iw (by omega)];omega
        simp only [go_sem,seval,h0,h1,h4,h5,h6,hc,Int.toNat_natCast,g]
        refine ⟨by omega, ?_⟩
        refine callO_pure (p_digit (s[i].toNat : Int)) ?_<;>simp only [go_sem,seval,h0,h1,h4,h5,h6,hc]
        refine condO_split (fun hb=>?_) (fun hb=>?_)
        ·have hb' : digB s[i]=true:=by rw [← hb];exact (digI _).symm
         simp only [go_sem,seval,h0,h1,h4,h5,h6,e1]
         refine ⟨s.length-(i+1),by omega,i+1, ?_⟩
         have:=runEnd_step (f:=digB) hci hb'
         and_intros
         all_goals first | rfl | omega | (rw [← hR];exact this.symm)
        ·have hb' : digB s[i]=false:=by rw [← hb];exact (digI _).symm
         have : runEnd digB s i=i:=runEnd_stop (f:=digB) fun _=>hb'
         rw [this] at hR
         simp only [go_sem,seval,h0,h1,h4,h5,h6,← hR]
       ·have hci : ¬ i < s.length:=by simpa using hc
        have : runEnd digB s i=i:=runEnd_stop fun h=>absurd h hci
        rw [this] at hR
        simp only [go_sem,seval,h0,h1,h4,h5,h6,hc,← hR]
     ·have hnum : ¬ (s[p].toNat=45∨digB s[p]=true):=by
       have h1 : digB s[p]=false:=by rw [← hb];exact (digI _).symm
       simp at hm
       rw [h1];simp;omega
      rw [if_neg hnum] at hL
      simp only [go_sem,seval,h0,h1,h4,h5]
      refine callO_pure (p_sign s p hple hs) ?_<;>simp only [go_sem,seval,h0,h1,h4,h5]
      cases hsg : signAt s p with
      | none =>
       rw [hsg] at hL
       rw [hL] at hpu ⊢
       simp only [go_sem,seval,h0,h1,h4,h5,tok0,tokV]
       refine fin hpu ?_
       rfl
      | some x =>
       rw [hsg] at hL
       rw [hL] at hpu ⊢
       simp only [go_sem,seval,h0,h1,h4,h5,tokV]
       refine fin hpu ?_
       rfl
 ·refine wpV_loop_inv (fun m ρ σ=>∃ i : Nat,m=s.length-i∧i≤s.length∧ρ.get 0=.str s∧ρ.get 1=.int .i64 i∧ρ.get 4=.mptr 0 0∧ρ.get 5=.nili∧σ=[.own [.int .i64 0,.int .i64 0,.int .i64 0,.int .i64 0,.str []]]∧runEnd blankB s i=runEnd blankB s p0) (n:=s.length-p0) ?_ ⟨p0,rfl,hp0,rfl,rfl,rfl,rfl,rfl,rfl⟩
  rintro m ρ σ ⟨i,rfl,hi,h0,h1,h4,h5,rfl,hR⟩
  simp only [go_sem,seval,h0,h1,h4,h5]
  refine wantO_split (fun hc=>?_) (fun hc=>?_)
  ·have hc' : i < s.length:=by simpa using hc
   have g : s.getD i 0=s[i]:=by simp [List.getD_eq_getElem?_getD,hc']
   have e1 : IntKind.i64.wrap ((i : Int)+1)=((i+1 : Nat) : Int):=by rw [iw (by omega)];omega
   simp only [go_sem,seval,h0,h1,h4,h5,hc,Int.toNat_natCast,g]
   refine ⟨by omega, ?_⟩
   refine callO_pure (p_Blank (s[i].toNat : Int)) ?_<;>simp only [go_sem,seval,h0,h1,h4,h5,hc]
   refine condO_split (fun hb=>?_) (fun hb=>?_)
   ·simp only [go_sem,seval,h0,h1,h4,h5,e1]
    refine ⟨s.length-(i+1),by omega,i+1, ?_⟩
    have:=runEnd_step (f:=blankB) hc' hb
    and_intros
    all_goals first | rfl | omega | (rw [← hR];exact this.symm)
   ·have : runEnd blankB s i=i:=runEnd_stop (f:=blankB) fun _=>hb
    rw [this] at hR
    simp only [go_sem,seval,h0,h1,h4,h5,← hR]
  ·have hc' : ¬ i < s.length:=by simpa using hc
   have : runEnd blankB s i=i:=runEnd_stop fun h=>absurd h hc'
   rw [this] at hR
   simp only [go_sem,seval,h0,h1,h4,h5,hc,← hR]
end Go.V
namespace Go.V
open Go.Proofs
set_option maxRecDepth 100000
def rotZ (h k : Int) : Int:=IntKind.u64.wrap ↑(BitVec.ofInt 64 (IntKind.u64.wrap (h*2 ^ min (IntKind.u64.wrap ↑(BitVec.ofInt 64 (IntKind.u64.wrap k) &&& 63#64).toNat).toNat 64)) |||
 BitVec.ofInt 64 (h.fdiv (2 ^ min (IntKind.u64.wrap (64-IntKind.u64.wrap ↑(BitVec.ofInt 64 (IntKind.u64.wrap k) &&& 63#64).toNat)).toNat 64))).toNat
theorem w64_nonneg (n : Int) : 0≤IntKind.u64.wrap n:=by rw [wu64];omega
theorem p_Rotate (h k : Int) : PV Tryz.prog G0 217 [.int .u64 h,.int .i64 k] (.int .u64 (rotZ h k)):=by
 refine pv e217 (by simp) rfl rfl ?_
 simp only [go_sem,seval,c217]
 exact ⟨w64_nonneg _,w64_nonneg _,fin (by rfl) rfl⟩
def stepZ (h k : Int) : Int:=IntKind.u64.wrap (rotZ (IntKind.u64.wrap (IntKind.u64.wrap ↑(BitVec.ofInt 64 h ^^^ BitVec.ofInt 64 k).toNat*11400714819323198485)) 31+15485907386658061715)
theorem p_Step (h k : Int) : PV Tryz.prog G0 199 [.int .u64 h,.int .u64 k] (.int .u64 (stepZ h k)):=by
 refine pv e199 (by simp) rfl rfl ?_
 simp only [go_sem,seval,c199]
 refine callO_pure (p_Rotate _ _) ?_<;>simp only [go_sem,seval]
 exact fin (by rfl) rfl
def endZ (h : Int) : Int:=IntKind.u64.wrap ↑(BitVec.ofInt 64 (IntKind.u64.wrap (IntKind.u64.wrap ↑(BitVec.ofInt 64 h ^^^ BitVec.ofInt 64 (h.fdiv (2 ^ min 32 64))).toNat*15485907386658061715)) ^^^
 BitVec.ofInt 64 ((IntKind.u64.wrap (IntKind.u64.wrap ↑(BitVec.ofInt 64 h ^^^ BitVec.ofInt 64 (h.fdiv (2 ^ min 32 64))).toNat*15485907386658061715)).fdiv (2 ^ min 32 64))).toNat
theorem p_End (h : Int) : PV Tryz.prog G0 201 [.int .u64 h] (.int .u64 (endZ h)):=by
 refine pv e201 (by simp) rfl rfl ?_
 simp only [go_sem,seval,c201]
 exact fin (by rfl) rfl
def narrowZ (h k : Int) : Int:=if k≤0 then 0 else if k≥64 then h else IntKind.u64.wrap ↑(BitVec.ofInt 64 h &&& BitVec.ofInt 64 (IntKind.u64.wrap (IntKind.u64.wrap (1*2 ^ min (IntKind.u64.wrap k).toNat 64)-1))).toNat
theorem p_Narrow (h k : Int) : PV Tryz.prog G0 188 [.int .u64 h,.int .i64 k] (.int .u64 (narrowZ h k)):=by
 refine pv e188 (by simp) rfl rfl ?_
 simp only [go_sem,seval,c188]
 refine condO_split (fun h1=>?_) (fun h1=>?_)
 ·simp only [go_sem,seval]
  refine fin (by rfl) ?_
  unfold narrowZ;rw [if_pos (by simpa using h1)]
 ·simp only [go_sem,seval]
  refine condO_split (fun h2=>?_) (fun h2=>?_)
  ·simp only [go_sem,seval]
   refine fin (by rfl) ?_
   unfold narrowZ;rw [if_neg (by simp at h1;omega),if_pos (by simpa using h2)]
  ·simp only [go_sem,seval]
   refine ⟨w64_nonneg _,fin (by rfl) ?_⟩
   unfold narrowZ;rw [if_neg (by simp at h1;omega),if_neg (by simp at h2;omega)]
   rfl
def chunkN (h : Int) (k : Nat) : Nat:=if k≥13 then 0 else ((BitVec.ofInt 64 (h.fdiv (2 ^ min (IntKind.u64.wrap (IntKind.i64.wrap (5*(k : Int)))).toNat 64)) &&& 31#64).toNat)
theorem chunkN_lt (h : Int) (k : Nat) : chunkN h k < 32:=by
 unfold chunkN
 split
 ·omega
 ·rw [BitVec.toNat_and]
  have:=Nat.and_le_right (n:=(BitVec.ofInt 64 (h.fdiv (2 ^ min (IntKind.u64.wrap (IntKind.i64.wrap (5*(k : Int)))).toNat 64))).toNat) (m:=(31#64).toNat)
  have e : (31#64).toNat=31:=by decide
  omega
theorem p_Chunk (h : Int) (k : Nat) : PV Tryz.prog G0 162 [.int .u64 h,.int .i64 k] (.int .i64 (chunkN h k)):=by
 have hlt:=chunkN_lt h k
 refine pv e162 (by simp) rfl rfl ?_
 have h0 : decide ((k : Int) < 0)=false:=by simp
 simp only [go_sem,seval,c162,h0,Bool.not_false]
 refine condO_split (fun h1=>?_) (fun h1=>?_)
 ·simp only [go_sem,seval]
  refine fin (by rfl) ?_
  unfold chunkN;rw [if_pos (by simp at h1;omega)];rfl
 ·have e:=hlt
  unfold chunkN at e
  rw [if_neg (by simp at h1;omega)] at e
  simp only [go_sem,seval]
  refine ⟨w64_nonneg _,fin (by rfl) ?_⟩
  unfold chunkN;rw [if_neg (by simp at h1;omega)]
  have e0 : ∀ q : Nat,q < 32→IntKind.i64.wrap (IntKind.u64.wrap (q : Int))=q:=fun q hq=>by rw [uw (by omega),iw (by omega)]
  exact congrArg (VV.int .i64) (e0 _ e)
def wstepZ (x : Int) : Option UInt8→Int
 | none=>IntKind.u64.wrap (x*2 ^ min 8 64)
 | some b=>IntKind.u64.wrap ↑(BitVec.ofInt 64 (IntKind.u64.wrap (x*2 ^ min 8 64)) ||| BitVec.ofInt 64 (IntKind.u64.wrap (b.toNat : Int))).toNat
def wordZ (s : Bs) (p : Nat) (n : Nat) : Int:=(List.range n).foldl (fun x i=>wstepZ x s[p+i]?) 0
theorem wordZ_succ (s : Bs) (p n : Nat) : wordZ s p (n+1)=wstepZ (wordZ s p n) s[p+n]?:=by simp [wordZ,List.range_succ]
theorem p_mword (s : Bs) (p : Nat) (hp : p≤s.length) (hs : s.length≤1000000000) : PV Tryz.prog G0 200 [.str s,.int .i64 p] (.int .u64 (wordZ s p 8)):=by
 refine pv e200 (by simp) rfl rfl ?_
 simp only [go_sem,seval,c200]
 refine wpV_loop_inv (fun m ρ σ=>∃ i : Nat,m=8-i∧i≤8∧ρ.get 0=.str s∧ρ.get 1=.int .i64 p∧ρ.get 5=.int .u64 (wordZ s p i)∧ρ.get 7=.int .i64 i∧σ=[]) (n:=8) ?_ ⟨0,rfl,by omega,rfl,rfl,rfl,rfl,rfl⟩
 rintro m ρ σ ⟨i,rfl,hi,h0,h1,h5,h7,rfl⟩
 simp only [go_sem,seval,h0,h1,h5,h7]
 refine condO_split (fun hc=>?_) (fun hc=>?_)
 ·have hc' : i < 8:=by simp at hc;omega
  have e1 : IntKind.i64.wrap ((p : Int)+i)=((p+i : Nat) : Int):=by rw [iw (by omega)];omega
  have e2 : IntKind.i64.wrap ((i : Int)+1)=((i+1 : Nat) : Int):=by rw [iw (by omega)];omega
  simp only [go_sem,seval,h0,h1,h5,h7,e1]
  refine condO_split (fun hb=>?_) (fun hb=>?_)
  ·have hb' : p+i < s.length:=by simp at hb;omega
   have g : s.getD (p+i) 0=s[p+i]:=by simp [List.getD_eq_getElem?_getD,hb']
   have hw:=wordZ_succ s p i
   rw [List.getElem?_eq_getElem hb'] at hw
   simp only [go_sem,seval,h0,h1,h5,h7,e1,e2,Int.toNat_natCast,g]
   refine ⟨by omega, ?_⟩
   refine ⟨8-(i+1),by omega,i+1, ?_⟩
   and_intros
   all_goals first | rfl | omega | (rw [hw];rfl)
  ·have hw:=wordZ_succ s p i
   rw [List.getElem?_eq_none (by simp at hb;omega)] at hw
   simp only [go_sem,seval,h0,h1,h5,h7,e1,e2]
   refine ⟨8-(i+1),by omega,i+1, ?_⟩
   and_intros
   all_goals first | rfl | omega | (rw [hw];rfl)
 ·have hc' : i=8:=by simp at hc;omega
  subst hc'
  simp only [go_sem,seval,h0,h1,h5,h7]
  exact fin (by rfl) rfl
def loopZ (s : Bs) (h : Int) (n : Nat) : Int:=(List.range n).foldl (fun h i=>stepZ h (wordZ s (8*i) 8)) h
theorem loopZ_succ (s : Bs) (h : Int) (n : Nat) : loopZ s h (n+1)=stepZ (loopZ s h n) (wordZ s (8*n) 8):=by simp [loopZ,List.range_succ]
def textZ (seed : Int) (s : Bs) : Int:=endZ (loopZ s (stepZ seed (IntKind.u64.wrap (s.length : Int))) ((s.length+7) / 8))
theorem p_Text (seed : Int) (s : Bs) (hs : s.length≤1000000000) : PV Tryz.prog G0 189 [.int .u64 seed,.str s] (.int .u64 (textZ seed s)):=by
 refine pv e189 (by simp) rfl rfl ?_
 simp only [go_sem,seval,c189]
 refine callO_pure (p_Step _ _) ?_<;>simp only [go_sem,seval]
 refine wpV_loop_inv (fun m ρ σ=>∃ i : Nat,m=(s.length+7) / 8-i∧i≤(s.length+7) / 8∧ρ.get 1=.str s∧ρ.get 5=.int .u64 (loopZ s (stepZ seed (IntKind.u64.wrap (s.length : Int))) i)∧ρ.get 6=.int .i64 (8*i : Nat)∧σ=[]) (n:=(s.length+7) / 8) ?_ ⟨0,rfl,by omega,rfl,rfl,rfl,rfl⟩
 rintro m ρ σ ⟨i,rfl,hi,h1,h5,h6,rfl⟩
 simp only [go_sem,seval,h1,h5,h6]
 refine condO_split (fun hc=>?_) (fun hc=>?_)
 ·have hc' : 8*i < s.length:=by simp at hc;omega
  have e2 : IntKind.i64.wrap (((8*i : Nat) : Int)+8)=((8*(i+1) : Nat) : Int):=by rw [iw (by omega)];omega
  simp only [go_sem,seval,h1,h5,h6]
  refine callO_pure (p_mword s (8*i) (by omega) hs) ?_<;>simp only [go_sem,seval,h1,h5,h6]
  refine callO_pure (p_Step _ _) ?_<;>simp only [go_sem,seval,h1,h5,h6,e2]
  refine ⟨(s.length+7) / 8-(i+1),by omega,i+1, ?_⟩
  and_intros
  all_goals first | rfl | omega | (rw [loopZ_succ])
 ·have hc' : i=(s.length+7) / 8:=by simp at hc;omega
  subst hc'
  simp only [go_sem,seval,h1,h5,h6]
  refine callO_pure (p_End _) ?_<;>simp only [go_sem,seval]
  exact fin (by rfl) rfl
def sumZ (seed bits : Int) (k : Bs) : Int:=narrowZ (textZ seed k) bits
inductive PtrV : VV→Prop
 | nil : PtrV .nilp
 | ptr (cells : List VV) (off : Nat) (h : VV.arePure cells=true) : PtrV (.ptr cells off)
theorem PtrV.pure {v : VV} (h : PtrV v) : v.isPure=true:=by cases h with | nil=>rfl | ptr c o h=>exact h
theorem p_Sum (seed bits n : Int) (root : VV) (hr : PtrV root) (k : Bs) (hs : k.length≤1000000000) : PV Tryz.prog G0 163 [.agg [.int .u64 seed,.int .i64 bits,.int .i64 n,root],.str k] (.int .u64 (sumZ seed bits k)):=by
 refine pv e163 (by simp) (by simp [VV.arePure,VV.isPure,hr.pure]) rfl ?_
 have hc : root.isCell=true:=by cases hr<;>rfl
 simp only [go_sem,seval] at hc
 simp only [go_sem,seval,c163,hc]
 refine dcallO_pure (p_Text seed k hs) (by simp only [go_sem,seval,hc]) ?_<;>simp only [go_sem,seval,hc]
 refine dcallO_pure (p_Narrow _ bits) (by simp only [go_sem,seval,hc]) ?_<;>simp only [go_sem,seval,hc]
 exact fin (by rfl) rfl
end Go.V
namespace Go.V
open Go.Proofs
set_option maxRecDepth 100000
structure Blk (k : Nat) (xs : List (List VV)) : Prop where
 len : ∀ x ∈ xs,x.length=k
 pure : ∀ x ∈ xs,VV.arePure x=true
 cell : ∀ x ∈ xs,allCells x=true
theorem Blk.nil {k : Nat} : Blk k []:=⟨by simp,by simp,by simp⟩
theorem Blk.append {k : Nat} {xs ys : List (List VV)} (h : Blk k xs) (h' : Blk k ys) : Blk k (xs++ys) :=
 ⟨fun x hx=>(List.mem_append.1 hx).elim (h.len x) (h'.len x),fun x hx=>(List.mem_append.1 hx).elim (h.pure x) (h'.pure x),fun x hx=>(List.mem_append.1 hx).elim (h.cell x) (h'.cell x)⟩
theorem Blk.sub {k : Nat} {xs ys : List (List VV)} (h : Blk k xs) (hs : ∀ y ∈ ys,y ∈ xs) : Blk k ys:=⟨fun x hx=>h.len x (hs x hx),fun x hx=>h.pure x (hs x hx),fun x hx=>h.cell x (hs x hx)⟩
theorem Blk.take {k : Nat} {xs : List (List VV)} (h : Blk k xs) (i : Nat) : Blk k (xs.take i):=h.sub fun _ hy=>List.mem_of_mem_take hy
theorem Blk.drop {k : Nat} {xs : List (List VV)} (h : Blk k xs) (i : Nat) : Blk k (xs.drop i):=h.sub fun _ hy=>List.mem_of_mem_drop hy
theorem Blk.tail {k : Nat} {x : List VV} {xs : List (List VV)} (h : Blk k (x::xs)) : Blk k xs:=h.sub fun _ hy=>List.mem_cons_of_mem _ hy
theorem Blk.cons {k : Nat} {x : List VV} {xs : List (List VV)} (h : Blk k (x::xs)) : x.length=k∧Blk k xs:=⟨h.len x (by simp),h.tail⟩
theorem Blk.flat {k : Nat} : ∀ {xs : List (List VV)},Blk k xs→xs.flatten.length=xs.length*k
 | [],_=>by simp
 | x::xs,h=>by simp [h.cons.1,Blk.flat h.cons.2,Nat.add_mul,Nat.add_comm]
theorem Blk.fdrop {k : Nat} : ∀ {xs : List (List VV)} (i : Nat),Blk k xs→xs.flatten.drop (i*k)=(xs.drop i).flatten
 | _,0,_=>by simp
 | [],_+1,_=>by simp
 | x::xs,i+1,h=>by
  have:=Blk.fdrop (xs:=xs) i h.cons.2
  rw [List.flatten_cons,List.drop_succ_cons,← this,show (i+1)*k=x.length+i*k by rw [h.cons.1,Nat.add_mul,Nat.one_mul,Nat.add_comm],List.drop_append]
  simp
theorem Blk.ftake {k : Nat} : ∀ {xs : List (List VV)} (i : Nat),Blk k xs→xs.flatten.take (i*k)=(xs.take i).flatten
 | _,0,_=>by simp
 | [],_+1,_=>by simp
 | x::xs,i+1,h=>by
  have:=Blk.ftake (xs:=xs) i h.cons.2
  rw [List.flatten_cons,List.take_succ_cons,List.flatten_cons,← this,show (i+1)*k=x.length+i*k by rw [h.cons.1,Nat.add_mul,Nat.one_mul,Nat.add_comm],List.take_append,List.take_of_length_le (Nat.le_add_right _ _)]
  simp
theorem Blk.fget {k : Nat} {xs : List (List VV)} (h : Blk k xs) {i : Nat} (hi : i < xs.length) : (xs.flatten.drop (i*k)).take k=xs[i]:=by
 rw [h.fdrop,List.drop_eq_getElem_cons hi,List.flatten_cons,List.take_append_of_le_length (by rw [h.len _ (List.getElem_mem hi)];exact Nat.le_refl _)]
 rw [List.take_of_length_le (by rw [h.len _ (List.getElem_mem hi)];exact Nat.le_refl _)]
theorem arePure_append : ∀ (xs ys : List VV),VV.arePure (xs++ys)=(VV.arePure xs && VV.arePure ys)
 | [],ys=>by simp [VV.arePure]
 | x::xs,ys=>by simp [VV.arePure,arePure_append xs ys,Bool.and_assoc]
theorem Blk.fpure {k : Nat} : ∀ {xs : List (List VV)},Blk k xs→VV.arePure xs.flatten=true
 | [],_=>by simp [VV.arePure]
 | x::xs,h=>by rw [List.flatten_cons,arePure_append,h.pure x (by simp),Blk.fpure h.cons.2];rfl
theorem Blk.fcell {k : Nat} : ∀ {xs : List (List VV)},Blk k xs→allCells xs.flatten=true
 | [],_=>by simp [allCells]
 | x::xs,h=>by
  have h1:=h.cell x (by simp)
  have h2:=Blk.fcell h.cons.2
  unfold allCells at h1 h2 ⊢
  rw [List.flatten_cons,List.all_append,h1,h2];rfl
inductive SlV (k : Nat) : VV→List (List VV)→Prop
 | nil : SlV k .nils []
 | sl (xs : List (List VV)) (t : Bool) (h : Blk k xs) : SlV k (.sl xs.length xs.flatten t) xs
theorem SlV.blk {k : Nat} {v : VV} {xs : List (List VV)} (h : SlV k v xs) : Blk k xs:=by cases h with | nil=>exact .nil | sl _ _ h=>exact h
theorem SlV.pure {k : Nat} {v : VV} {xs : List (List VV)} (h : SlV k v xs) : v.isPure=true:=by
 cases h with
 | nil=>rfl
 | sl xs t h=>simp only [VV.isPure];exact h.fpure
theorem SlV.of {k : Nat} {xs : List (List VV)} (h : Blk k xs) {n : Nat} {cells : List VV} {t : Bool} (hn : n=xs.length) (hc : cells=xs.flatten) : SlV k (.sl n cells t) xs:=by subst hn hc;exact .sl xs t h
theorem tslS_und {P : Program} {t : TypeId} (h : (tsl P t).isSome=true) : ∃ e,P.underlying t=some (.slice e):=by
 unfold tsl at h
 split at h
 ·exact ⟨_,by assumption⟩
 ·cases h
@[go_sem] theorem evLenS_nils {P : Program} {t : TypeId} {σ : Store} (h : (tsl P t).isSome=true) : evLen P t .nils σ=okV (.int .i64 0) σ:=by
 obtain ⟨e,he⟩:=tslS_und h;simp [evLen,he]
@[go_sem] theorem evLenS_sl {P : Program} {t : TypeId} {σ : Store} {n : Nat} {cells : List VV} {b : Bool} (h : (tsl P t).isSome=true) : evLen P t (.sl n cells b) σ=okV (.int .i64 n) σ:=by
 obtain ⟨e,he⟩:=tslS_und h;simp [evLen,he]
@[go_sem] theorem evLenS_msl {P : Program} {t : TypeId} {σ : Store} {id off n sz : Nat} (h : (tsl P t).isSome=true) : evLen P t (.msl id off n sz) σ=okV (.int .i64 n) σ:=by
 obtain ⟨e,he⟩:=tslS_und h;simp [evLen,he]
theorem SlV.src {P : Program} {σ : Store} {k : Nat} {t e : TypeId} {v : VV} {xs : List (List VV)} (h : SlV k v xs) (ht : tsl P t=some e) : srcCells P σ k t v=some (xs.length,xs.flatten):=by
 cases h with
 | nil=>simp [srcCells,ht,slLen,slCells]
 | sl xs t h=>simp [srcCells,ht,slLen,slCells,h.flat]
theorem SlV.evLen {P : Program} {σ : Store} {k : Nat} {t e : TypeId} {v : VV} {xs : List (List VV)} (h : SlV k v xs) (ht : tsl P t=some e) : evLen P t v σ=okV (.int .i64 xs.length) σ:=by
 cases h with
 | nil=>exact evLenS_nils (by simp [ht])
 | sl xs t h=>exact evLenS_sl (by simp [ht])
theorem app_own {P : Program} {t tx e : TypeId} {k by_ : Nat} {z : List VV} {σ : Store} {id n : Nat} {xs ys : List (List VV)} {x : VV} (ht : tsl P t=some e) (hk : tsz P e=some k) (hy : tby P e=some by_) (hz : tzero P e=some z) (hzk : z.length=k) (hk0 : 0 < k) (hb : by_≤1000)
  (hid : σ[id]?=some (.own xs.flatten)) (hB : Blk k xs) (hC : Blk k ys) (hl : xs.length+ys.length≤1000000) (hn : n=xs.length) (hx : srcCells P σ k tx x=some (ys.length,ys.flatten)) :
  ∃ p,p∧evAppend P t tx (.msl id 0 n k) x σ=some ⟨p,.msl σ.length 0 (xs++ys).length k,σ.set id .dead++[.own (xs++ys).flatten]⟩:=by
 subst hn
 have h1 : (xs.flatten.drop 0).take (xs.length*k)=xs.flatten:=by rw [List.drop_zero,List.take_of_length_le (by rw [hB.flat];exact Nat.le_refl _)]
 refine ⟨_, ?_,by simp only [evAppend,ht,hk,hy,hz,hx,hid,h1,List.flatten_append,List.length_append,if_true];rfl⟩
 refine ⟨⟨by omega, ?_,hC.flat,hk0,hC.fcell,hzk⟩,by rw [hB.flat];omega,by rw [hB.fcell]⟩
 have:=Nat.mul_le_mul hl hb
 omega
theorem stepO_app {t tx e : TypeId} {k by_ : Nat} {z : List VV} {σ : Store} {id n : Nat} {xs ys : List (List VV)} {x : VV} (ht : tsl Tryz.prog t=some e) (hk : tsz Tryz.prog e=some k) (hy : tby Tryz.prog e=some by_) (hz : tzero Tryz.prog e=some z) (hzk : z.length=k) (hk0 : 0 < k) (hb : by_≤1000)
  (hid : σ[id]?=some (.own xs.flatten)) (hB : Blk k xs) (hC : Blk k ys) (hl : xs.length+ys.length≤1000000) (hn : n=xs.length) (hx : srcCells Tryz.prog σ k tx x=some (ys.length,ys.flatten))
  {d : Nat} {r : List VO} {Q : Out→Env→Store→Prop} {ρ : Env} (h : opsW Tryz.prog G0 r Q ((d,.msl σ.length 0 (xs++ys).length k)::ρ) (σ.set id .dead++[.own (xs++ys).flatten])) :
  stepO Tryz.prog G0 (evAppend Tryz.prog t tx (.msl id 0 n k) x σ) (some d) r Q ρ:=by
 obtain ⟨p,hp,he⟩:=app_own ht hk hy hz hzk hk0 hb hid hB hC hl hn hx
 rw [he]
 exact ⟨hp,h⟩
theorem mapM_fz {σ : Store} {n : Nat} : ∀ {cells : List VV},VV.arePure cells=true→cells.mapM (fz n σ)=some cells
 | [],_=>rfl
 | x::xs,h=>by
  simp only [VV.arePure,Bool.and_eq_true] at h
  rw [List.mapM_cons,fz_pure h.1,mapM_fz h.2];rfl
theorem fz_msl' {m : Nat} {σ : Store} {id n k : Nat} {xs : List (List VV)} (h : σ[id]?=some (.frz xs.flatten)) (hB : Blk k xs) (hn : n=xs.length) : fz (m+1) σ (.msl id 0 n k)=some (.sl xs.length xs.flatten false):=by
 subst hn
 have h1 : (xs.flatten.drop 0).take (xs.length*k)=xs.flatten:=by rw [List.drop_zero,List.take_of_length_le (by rw [hB.flat];exact Nat.le_refl _)]
 simp only [fz,VV.isPure,h,h1,mapM_fz hB.fpure,hB.flat,Nat.zero_add,Nat.le_refl,if_true,Option.map_some]
 rfl
theorem fz_msl {σ : Store} {id n k : Nat} {xs : List (List VV)} (h : σ[id]?=some (.frz xs.flatten)) (hB : Blk k xs) (hn : n=xs.length) : fz 1 σ (.msl id 0 n k)=some (.sl xs.length xs.flatten false):=fz_msl' h hB hn
theorem fz_new {m : Nat} {σ : Store} {id : Nat} {cells : List VV} (h : σ[id]?=some (.frz cells)) (hp : VV.arePure cells=true) : fz (m+1) σ (.mptr id 0)=some (.ptr cells 0):=by
 simp only [fz,VV.isPure,h,mapM_fz hp,Option.map_some]
 rfl
theorem p_both (va vb : VV) (xs ys : List (List VV)) (ha : SlV 11 va xs) (hb : SlV 11 vb ys) (hl : xs.length+ys.length≤1000000) : PV Tryz.prog G0 116 [va,vb] (.sl (xs++ys).length (xs++ys).flatten false):=by
 have hB:=(ha.blk.append hb.blk)
 have hpu:=hB.fpure
 refine pv e116 (by simp) (by simp [VV.arePure,ha.pure,hb.pure]) (by simp only [VV.isPure];exact hpu) ?_
 have e1 : IntKind.i64.wrap ((xs.length : Int)+ys.length)=((xs.length+ys.length : Nat) : Int):=by rw [iw (by omega)];omega
 simp only [go_sem,seval,c116,ha.evLen k_tsl_120,hb.evLen k_tsl_120,e1]
 refine ⟨by omega, ?_⟩
 refine stepO_app (xs:=[]) (ys:=xs) k_tsl_120 k_tsz_42 k_tby_42 k_tzero_42 rfl (by decide) (by decide) rfl .nil ha.blk (by simp;omega) rfl (ha.src k_tsl_120) ?_
 simp only [go_sem,seval]
 refine stepO_app (xs:=xs) (ys:=ys) k_tsl_120 k_tsz_42 k_tby_42 k_tzero_42 rfl (by decide) (by decide) rfl ha.blk hb.blk hl rfl (hb.src k_tsl_120) ?_
 simp only [go_sem,seval]
 exact ⟨_,1,rfl,fz_msl rfl hB rfl⟩
theorem p_both' (va vb : VV) (xs ys : List (List VV)) (ha : SlV 1 va xs) (hb : SlV 1 vb ys) (hl : xs.length+ys.length≤1000000) : PV Tryz.prog G0 182 [va,vb] (.sl (xs++ys).length (xs++ys).flatten false):=by
 have hB:=(ha.blk.append hb.blk)
 have hpu:=hB.fpure
 refine pv e182 (by simp) (by simp [VV.arePure,ha.pure,hb.pure]) (by simp only [VV.isPure];exact hpu) ?_
 have e1 : IntKind.i64.wrap ((xs.length : Int)+ys.length)=((xs.length+ys.length : Nat) : Int):=by rw [iw (by omega)];omega
 simp only [go_sem,seval,c182,ha.evLen k_tsl_143,hb.evLen k_tsl_143,e1]
 refine ⟨by omega, ?_⟩
 refine stepO_app (xs:=[]) (ys:=xs) k_tsl_143 k_tsz_35 k_tby_35 k_tzero_35 rfl (by decide) (by decide) rfl .nil ha.blk (by simp;omega) rfl (ha.src k_tsl_143) ?_
 simp only [go_sem,seval]
 refine stepO_app (xs:=xs) (ys:=ys) k_tsl_143 k_tsz_35 k_tby_35 k_tzero_35 rfl (by decide) (by decide) rfl ha.blk hb.blk hl rfl (hb.src k_tsl_143) ?_
 simp only [go_sem,seval]
 exact ⟨_,1,rfl,fz_msl rfl hB rfl⟩
inductive RN : Nat→VV→List (List VV)→Prop
 | leaf {v : VV} {xs : List (List VV)} (h : SlV 11 v xs) (hne : xs≠[]) : RN 1 (.ptr [.int .i64 xs.length,.int .i64 1,.nils,v] 0) xs
 | inner {d : Nat} {v : VV} {ks : List (VV × List (List VV))} (h : SlV 1 v (ks.map fun k=>[k.1])) (hk : ∀ k ∈ ks,RN d k.1 k.2) (h2 : 2≤ks.length) : RN (d+1) (.ptr [.int .i64 (ks.map (·.2)).flatten.length,.int .i64 (d+1 : Nat),v,.nils] 0) (ks.map (·.2)).flatten
def RP (v : VV) (xs : List (List VV)) : Prop:=(v=.nilp∧xs=[])∨∃ d,RN d v xs
theorem RN.ne {d : Nat} {v : VV} {xs : List (List VV)} (h : RN d v xs) : xs≠[]∧v.isPure=true∧Blk 11 xs∧1≤d∧d≤xs.length:=by
 induction h with
 | leaf h hne=>exact ⟨hne,by simp [VV.isPure,VV.arePure,h.pure],h.blk,by omega,by have:=List.length_pos_iff.2 hne;omega⟩
 | @inner d v ks h hk h2 ih =>
  match ks,h2 with
  | a::b::ks,_ =>
   have h1:=ih a (by simp)
   have h3:=ih b (by simp)
   refine ⟨by simp [h1.1],by simp [VV.isPure,VV.arePure,h.pure],⟨?_, ?_, ?_⟩,by omega, ?_⟩
   ·intro x hx
    obtain ⟨l,hl,hx⟩:=List.mem_flatten.1 hx
    obtain ⟨k,hk',rfl⟩:=List.mem_map.1 hl
    exact (ih k hk').2.2.1.len x hx
   ·intro x hx
    obtain ⟨l,hl,hx⟩:=List.mem_flatten.1 hx
    obtain ⟨k,hk',rfl⟩:=List.mem_map.1 hl
    exact (ih k hk').2.2.1.pure x hx
   ·intro x hx
    obtain ⟨l,hl,hx⟩:=List.mem_flatten.1 hx
    obtain ⟨k,hk',rfl⟩:=List.mem_map.1 hl
    exact (ih k hk').2.2.1.cell x hx
   ·have:=List.length_pos_iff.2 h3.1
    simp only [List.map_cons,List.flatten_cons,List.length_append];omega
theorem RP.pure {v : VV} {xs : List (List VV)} (h : RP v xs) : v.isPure=true:=by
 rcases h with ⟨rfl,_⟩ | ⟨d,h⟩
 ·rfl
 ·exact h.ne.2.1
theorem RP.blk {v : VV} {xs : List (List VV)} (h : RP v xs) : Blk 11 xs:=by
 rcases h with ⟨_,rfl⟩ | ⟨d,h⟩
 ·exact .nil
 ·exact h.ne.2.2.1
theorem x_leaf (v : VV) (xs : List (List VV)) (h : SlV 11 v xs) : ∃ r,RP r xs∧PV Tryz.prog G0 115 [v] r∧(xs≠[]→RN 1 r xs):=by
 by_cases hx : xs=[]
 ·refine ⟨.nilp,.inl ⟨rfl,hx⟩, ?_,fun h=>absurd hx h⟩
  refine pv e115 (by simp) (by simp [VV.arePure,h.pure]) rfl ?_
  subst hx
  simp only [go_sem,seval,c115,h.evLen k_tsl_120]
  exact fin (by rfl) rfl
 ·have hr:=RN.leaf h hx
  refine ⟨_,.inr ⟨1,hr⟩, ?_,fun _=>hr⟩
  refine pv e115 (by simp) (by simp [VV.arePure,h.pure]) hr.ne.2.1 ?_
  have h0 : ((xs.length : Int) == 0)=false:=by have:=List.length_pos_iff.2 hx;simp;omega
  have hp:=hr.ne.2.1
  cases h with
  | nil=>exact absurd rfl hx
  | sl xs t h =>
   simp only [go_sem,seval,c115,h0]
   exact ⟨_,1,rfl,fz_new rfl hp⟩
end Go.V
