/- Texts F11 F12 F13 F14. -/
import Derived.Test.YthhjefemijhamaaGreatDoorG16
set_option linter.unusedVariables false
set_option linter.unusedSimpArgs false
namespace Go.V
open Go.Proofs
set_option maxRecDepth 100000
theorem MO (s : Bs) (hs : s.length≤10000000) : PV Tryz.prog G0 81 [.str s] (.tup [.int .i64 (parseNum s).1,.int .i64 (parseNum s).2]):=by
 refine pv e81 (by simp) rfl rfl ?_
 simp only [go_sem,seval,c81]
 have hb:=yw s
 have hk0 : (if isNeg s then 1 else 0 : Nat)≤s.length:=by
  split
  ·rename_i h
   cases s with
   | nil=>simp [isNeg] at h
   | cons c r=>simp
  ·omega
 have hkn : isNeg s=true↔(if isNeg s then 1 else 0 : Nat)=1:=by split<;>simp_all
 have hneg : ∀ h : 0 < s.length,isNeg s=(s[0].toNat == 45):=by
  intro h
  cases s with
  | nil=>simp at h
  | cons c r=>simp [isNeg]
 generalize hk : (if isNeg s then 1 else 0 : Nat)=k at hb hk0 hkn
 have hk1 : k≤1:=by subst hk;split<;>omega
 have hbl : (body s).length=s.length-k:=by rw [hb];simp
 have hgb : ∀ i (h : i < s.length),k≤i→(body s)[i-k]?=some s[i]:=by
  intro i h hki
  rw [hb,List.getElem?_drop,show k+(i-k)=i by omega];simp [h]
 have hbad : jf s=false→parseNum s=(0,2):=by intro h;unfold parseNum;rw [if_neg (by simp [h])]
 have hnd : ∀ i (h : i < s.length),k≤i→dJ s[i]=false→jf s=false:=by
  intro i h hki hd
  have hin : s[i] ∈ body s:=List.mem_iff_getElem?.2 ⟨_,hgb i h hki⟩
  have : (body s).all dJ=false:=by rw [List.all_eq_false];exact ⟨_,hin,by simp [hd]⟩
  unfold jf;rw [this];simp
 have hlead : ∀ (h : k < s.length),s[k].toNat=48→1 < s.length→jf s=false:=by
  intro h h48 h1
  have:=hgb k h (Nat.le_refl _)
  rw [Nat.sub_self] at this
  unfold jf
  rw [List.head?_eq_getElem?,this]
  simp [h48,h1]
 refine aG (fun m ρ σ=>∃ (i u : Nat) (over : Bool),m=s.length-i∧i≤s.length∧ρ.get 0=.str s∧ρ.get 4=.bool (isNeg s && decide (0 < i))∧ρ.get 5=.int .i64 ((i-k : Nat) : Int)∧ρ.get 6=.bool over∧ρ.get 7=.int .u64 u∧ρ.get 12=.int .i64 s.length∧ρ.get 13=.int .i64 i ∧
   ((body s).take (i-k)).all dJ=true∧(1≤i-k→∀ h : k < s.length,s[k].toNat=48→¬ 1 < s.length)∧over=decide (18446744073709551616≤dD ((body s).take (i-k)))∧(over=false→u=dD ((body s).take (i-k)))∧u < 18446744073709551616) (n:=s.length) ?_
  ⟨0,0,false,rfl,by omega,rfl,by simp only [go_sem,seval],by simp only [go_sem,seval,Nat.zero_sub],rfl,rfl,rfl,rfl,by simp,by omega,by simp [dD],by simp [dD],by omega⟩
 rintro m ρ σ ⟨i,u,over,rfl,hi,h0,h4,h5,h6,h7,h12,h13,hall,hz,hover,hu,hu64⟩
 simp only [go_sem,seval,h0,h4,h5,h6,h7,h12,h13]
 refine aj (fun hc=>?_) (fun hc=>?_)
 ·simp at hc
  have g : s.getD i 0=s[i]:=by simp [List.getD_eq_getElem?_getD,hc]
  have e1 : IntKind.i64.wrap ((i : Int)+1)=((i+1 : Nat) : Int):=by rw [iw (by omega)];omega
  have hcb:=s[i].toNat_lt
  simp only [go_sem,seval,h0,h4,h5,h6,h7,h12,h13,Int.toNat_natCast,g]
  refine ⟨by omega, ?_⟩
  have e5 : k≤i→IntKind.i64.wrap (((i-k : Nat) : Int)+1)=((i+1-k : Nat) : Int):=by intro h;rw [iw (by omega)];omega
  have hdig : ∀ d : Nat,s[i].toNat=48+d→d≤9→k≤i→dD ((body s).take (i+1-k))=10*dD ((body s).take (i-k))+d∧((body s).take (i+1-k)).all dJ=true:=by
   intro d hd hd9 hki
   have : (body s).take (i+1-k)=(body s).take (i-k)++[s[i]]:=by
    rw [show i+1-k=(i-k)+1 by omega,List.take_add_one,hgb i hc hki];rfl
   rw [this,zk,hd,List.all_append,hall]
   refine ⟨by omega, ?_⟩
   simp [dJ,hd];omega
  have hge : s[i].toNat≠45∨i≠0→k≤i:=by
   intro h
   rcases Nat.lt_or_ge i k with h' | h'
   ·exfalso
    have hk1' : k=1:=by omega
    have hi0 : i=0:=by omega
    subst hi0
    have h1:=hkn.2 hk1'
    rw [hneg hc] at h1
    simp at h1
    omega
   ·exact h'
  have e7 : ∀ d : Nat,s[i].toNat=48+d→d≤9→IntKind.u64.wrap (IntKind.u8.wrap ((s[i].toNat : Int)-48))=(d : Int):=by
   intro d hd hd9;rw [bw (by omega),uw (by omega)];omega
  have e8 : ∀ d : Nat,d≤9→IntKind.u64.wrap (Int.tdiv (IntKind.u64.wrap (18446744073709551615-(d : Int))) 10)=(((18446744073709551615-d) / 10 : Nat) : Int):=by
   intro d hd9
   rw [uw (n:=18446744073709551615-(d : Int)) (by omega),show (18446744073709551615-(d : Int))=((18446744073709551615-d : Nat) : Int) by omega,show (10 : Int)=((10 : Nat) : Int) from rfl,Aj,uw (by omega)]
  have e9 : ∀ d : Nat,d≤9→IntKind.u64.wrap (IntKind.u64.wrap (10*(u : Int))+(d : Int))=(((10*u+d) % 18446744073709551616 : Nat) : Int):=by
   intro d hd9;rw [wu64,wu64];omega
  have below : (isNeg s && decide (0 < i))=(isNeg s && decide (0 < i+1))∨(i=0∧isNeg s=true):=by
   by_cases h : i=0
   ·cases hn : isNeg s
    ·left;simp
    ·right;exact ⟨h,rfl⟩
   ·left;simp;omega
  have bad : k≤i→dJ s[i]=false→∀ {σ : Store},∃ y n,dX.ret (.tup [.int .i64 0,.int .i64 2])=dX.ret y∧fz n σ y=some (.tup [.int .i64 (parseNum s).1,.int .i64 (parseNum s).2]):=by
   intro hki hd σ
   exact fin (by rfl) (by rw [hbad (hnd i hc hki hd)];rfl)
  refine aS (fun hm=>?_) (fun hm=>?_)
  ·simp only [go_sem,seval,h0,h4,h5,h6,h7,h12,h13,hm]
   simp at hm
   refine aj (fun hz0=>?_) (fun hz0=>?_)
   ·simp at hz0
    subst hz0
    have hn : isNeg s=true:=by rw [hneg hc];simp;omega
    have hk1' : k=1:=hkn.1 hn
    simp only [go_sem,seval,h0,h4,h5,h6,h7,h12,h13,e1]
    refine ⟨s.length-1,by omega,1,u,over, ?_⟩
    subst hk1'
    and_intros
    all_goals first | rfl | omega | exact hover | exact hu | (rw [hn];rfl) | (simp;done) | skip
    all_goals trace_state
   ·simp at hz0
    have h48 : ((s[i].toNat : Int) == 48)=false:=by simp;omega
    have h49 : decide (49≤(s[i].toNat : Int))=false:=by simp;omega
    simp only [go_sem,seval,h0,h4,h5,h6,h7,h12,h13,h48,h49]
    exact bad (hge (by omega)) (by simp [dJ];omega)
  ·have hki : k≤i:=hge (by simp at hm;omega)
   simp only [go_sem,seval,h0,h4,h5,h6,h7,h12,h13,hm]
   refine aS (fun h8=>?_) (fun h8=>?_)
   ·have h8' : s[i].toNat=48:=by simp at h8;omega
    simp only [go_sem,seval,h0,h4,h5,h6,h7,h12,h13,hm,h8]
    refine aS (fun hq=>?_) (fun hq=>?_)
    ·have hik : i=k:=by simp at hq;omega
     simp only [go_sem,seval,h0,h4,h5,h6,h7,h12,h13,hm,h8,hq]
     refine aj (fun hl=>?_) (fun hl=>?_)
     ·simp only [go_sem,seval,h0,h4]
      refine fin (by rfl) ?_
      subst hik
      rw [hbad (hlead hc h8' (by simp at hl;omega))];rfl
     ·have hl' : ¬ 1 < s.length:=by simp at hl;omega
      obtain ⟨d,hd⟩ : ∃ d : Nat,s[i].toNat=48+d:=⟨s[i].toNat-48,by omega⟩
      have hd9 : d≤9:=by omega
      have hlz : 1≤i+1-k→∀ h : k < s.length,s[k].toNat=48→¬ 1 < s.length:=by
       intro _ h h48
       rcases Nat.eq_or_lt_of_le hki with hik | hik
       ·exact hl'
       ·exact hz (by omega) h h48
      obtain ⟨hA,hB⟩:=hdig _ hd hd9 hki
      have f7:=e7 _ hd hd9
      have f8:=e8 _ hd9
      have f9:=e9 _ hd9
      have f5:=e5 hki
      have hbel : (isNeg s && decide (0 < i))=(isNeg s && decide (0 < i+1)):=by
       rcases below with h | ⟨h1,h2⟩
       ·exact h
       ·have:=hkn.1 h2;omega
      cases over with
      | true =>
       simp only [go_sem,seval,h0,h4,h5,h6,h7,h12,h13,f5,f7,f8,f9,e1,hm,h8,hq]
       refine ⟨s.length-(i+1),by omega,i+1,(10*u+d) % 18446744073709551616,true, ?_⟩
       have o1 : true=decide (18446744073709551616≤dD ((body s).take (i+1-k))):=by
        have:=of_decide_eq_true hover.symm
        rw [hA];symm;rw [decide_eq_true_eq];omega
       and_intros
       all_goals first | rfl | exact hB | exact hlz | exact o1 | (intro h;cases h) | omega | rw [hbel]
      | false =>
       have hv:=hu rfl
       have hv64:=of_decide_eq_false hover.symm
       simp only [go_sem,seval,h0,h4,h5,h6,h7,h12,h13,f5,f7,f8,f9,e1,hm,h8,hq]
       refine ⟨s.length-(i+1),by omega,i+1,(10*u+d) % 18446744073709551616,decide (((18446744073709551615-d) / 10 : Nat) < (u : Int)), ?_⟩
       have o1 : decide ((((18446744073709551615-d) / 10 : Nat) : Int) < (u : Int))=decide (18446744073709551616≤dD ((body s).take (i+1-k))):=by
        rw [hA];rw [decide_eq_decide];omega
       have o2 : decide ((((18446744073709551615-d) / 10 : Nat) : Int) < (u : Int))=false→(10*u+d) % 18446744073709551616=dD ((body s).take (i+1-k)):=by
        intro h;rw [hA];rw [decide_eq_false_iff_not] at h;omega
       and_intros
       all_goals first | rfl | exact hB | exact hlz | exact o1 | exact o2 | omega | rw [hbel]
    ·have hik : i≠k:=by simp at hq;omega
     simp only [go_sem,seval,h0,h4,h5,h6,h7,h12,h13,hm,h8,hq]
     obtain ⟨d,hd⟩ : ∃ d : Nat,s[i].toNat=48+d:=⟨s[i].toNat-48,by omega⟩
     have hd9 : d≤9:=by omega
     have hlz : 1≤i+1-k→∀ h : k < s.length,s[k].toNat=48→¬ 1 < s.length:=by
      intro _ h h48
      rcases Nat.eq_or_lt_of_le hki with hik | hik
      ·exact absurd hik.symm ‹_›
      ·exact hz (by omega) h h48
     obtain ⟨hA,hB⟩:=hdig _ hd hd9 hki
     have f7:=e7 _ hd hd9
     have f8:=e8 _ hd9
     have f9:=e9 _ hd9
     have f5:=e5 hki
     have hbel : (isNeg s && decide (0 < i))=(isNeg s && decide (0 < i+1)):=by
      rcases below with h | ⟨h1,h2⟩
      ·exact h
      ·have:=hkn.1 h2;omega
     cases over with
     | true =>
      simp only [go_sem,seval,h0,h4,h5,h6,h7,h12,h13,f5,f7,f8,f9,e1,hm,h8,hq]
      refine ⟨s.length-(i+1),by omega,i+1,(10*u+d) % 18446744073709551616,true, ?_⟩
      have o1 : true=decide (18446744073709551616≤dD ((body s).take (i+1-k))):=by
       have:=of_decide_eq_true hover.symm
       rw [hA];symm;rw [decide_eq_true_eq];omega
      and_intros
      all_goals first | rfl | exact hB | exact hlz | exact o1 | (intro h;cases h) | omega | rw [hbel]
     | false =>
      have hv:=hu rfl
      have hv64:=of_decide_eq_false hover.symm
      simp only [go_sem,seval,h0,h4,h5,h6,h7,h12,h13,f5,f7,f8,f9,e1,hm,h8,hq]
      refine ⟨s.length-(i+1),by omega,i+1,(10*u+d) % 18446744073709551616,decide (((18446744073709551615-d) / 10 : Nat) < (u : Int)), ?_⟩
      have o1 : decide ((((18446744073709551615-d) / 10 : Nat) : Int) < (u : Int))=decide (18446744073709551616≤dD ((body s).take (i+1-k))):=by
       rw [hA];rw [decide_eq_decide];omega
      have o2 : decide ((((18446744073709551615-d) / 10 : Nat) : Int) < (u : Int))=false→(10*u+d) % 18446744073709551616=dD ((body s).take (i+1-k)):=by
       intro h;rw [hA];rw [decide_eq_false_iff_not] at h;omega
      and_intros
      all_goals first | rfl | exact hB | exact hlz | exact o1 | exact o2 | omega | rw [hbel]
   ·have h8' : s[i].toNat≠48:=by simp at h8;omega
    simp only [go_sem,seval,h0,h4,h5,h6,h7,h12,h13,hm,h8]
    refine aS (fun h9=>?_) (fun h9=>?_)
    ·simp only [go_sem,seval,h0,h4,h5,h6,h7,h12,h13,hm,h8,h9]
     refine aj (fun h57=>?_) (fun h57=>?_)
     ·have h9' : 49≤s[i].toNat:=by simp at h9;omega
      have h57' : s[i].toNat≤57:=by simp at h57;omega
      obtain ⟨d,hd⟩ : ∃ d : Nat,s[i].toNat=48+d:=⟨s[i].toNat-48,by omega⟩
      have hd9 : d≤9:=by omega
      have hlz : 1≤i+1-k→∀ h : k < s.length,s[k].toNat=48→¬ 1 < s.length:=by
       intro _ h h48
       rcases Nat.eq_or_lt_of_le hki with hik | hik
       ·subst hik;exact absurd h48 h8'
       ·exact hz (by omega) h h48
      obtain ⟨hA,hB⟩:=hdig _ hd hd9 hki
      have f7:=e7 _ hd hd9
      have f8:=e8 _ hd9
      have f9:=e9 _ hd9
      have f5:=e5 hki
      have hbel : (isNeg s && decide (0 < i))=(isNeg s && decide (0 < i+1)):=by
       rcases below with h | ⟨h1,h2⟩
       ·exact h
       ·have:=hkn.1 h2;omega
      cases over with
      | true =>
       simp only [go_sem,seval,h0,h4,h5,h6,h7,h12,h13,f5,f7,f8,f9,e1,hm,h8,h9,h57]
       refine ⟨s.length-(i+1),by omega,i+1,(10*u+d) % 18446744073709551616,true, ?_⟩
       have o1 : true=decide (18446744073709551616≤dD ((body s).take (i+1-k))):=by
        have:=of_decide_eq_true hover.symm
        rw [hA];symm;rw [decide_eq_true_eq];omega
       and_intros
       all_goals first | rfl | exact hB | exact hlz | exact o1 | (intro h;cases h) | omega | rw [hbel]
      | false =>
       have hv:=hu rfl
       have hv64:=of_decide_eq_false hover.symm
       simp only [go_sem,seval,h0,h4,h5,h6,h7,h12,h13,f5,f7,f8,f9,e1,hm,h8,h9,h57]
       refine ⟨s.length-(i+1),by omega,i+1,(10*u+d) % 18446744073709551616,decide (((18446744073709551615-d) / 10 : Nat) < (u : Int)), ?_⟩
       have o1 : decide ((((18446744073709551615-d) / 10 : Nat) : Int) < (u : Int))=decide (18446744073709551616≤dD ((body s).take (i+1-k))):=by
        rw [hA];rw [decide_eq_decide];omega
       have o2 : decide ((((18446744073709551615-d) / 10 : Nat) : Int) < (u : Int))=false→(10*u+d) % 18446744073709551616=dD ((body s).take (i+1-k)):=by
        intro h;rw [hA];rw [decide_eq_false_iff_not] at h;omega
       and_intros
       all_goals first | rfl | exact hB | exact hlz | exact o1 | exact o2 | omega | rw [hbel]
     ·simp only [go_sem,seval,h0,h4]
      exact bad hki (by simp at h57;simp [dJ];omega)
    ·simp only [go_sem,seval,h0,h4,h5,h6,h7,h12,h13,hm,h8,h9]
     exact bad hki (by simp at h9;simp [dJ];omega)
 ·simp at hc
  have hik : i-k=s.length-k:=by omega
  have htk : (body s).take (i-k)=body s:=List.take_of_length_le (by omega)
  rw [htk] at hall hover hu
  simp only [go_sem,seval,h0,h4,h5,h6,h7,h12,h13]
  refine aj (fun hz0=>?_) (fun hz0=>?_)
  ·simp at hz0
   simp only [go_sem,seval,h0,h4]
   refine fin (by rfl) ?_
   have : body s=[]:=List.eq_nil_of_length_eq_zero (by omega)
   rw [hbad (by unfold jf;rw [this];rfl)];rfl
  ·simp at hz0
   have hkl : k < s.length:=by omega
   have hok : jf s=true:=by
    have hne : (body s).isEmpty=false:=by
     cases hbs : body s with
     | nil=>rw [hbs] at hbl;simp at hbl;omega
     | cons c r=>rfl
    have hg:=hgb k hkl (Nat.le_refl _)
    rw [Nat.sub_self] at hg
    unfold jf
    rw [hne,hall,List.head?_eq_getElem?,hg]
    have:=hz (by omega) hkl
    by_cases h48 : s[k].toNat=48
    ·have:=this h48;simp [h48,this]
    ·simp [h48]
   have hP : parseNum s=if isNeg s then (if 9223372036854775808 < dD (body s) then (0,4) else (-(dD (body s) : Int),0)) else if 9223372036854775807 < dD (body s) then (0,4) else (dD (body s),0):=by
    unfold parseNum;rw [if_pos hok]
   have hb2 : (isNeg s && decide (0 < i))=isNeg s:=by simp;omega
   cases over with
   | true =>
    have ho:=of_decide_eq_true hover.symm
    simp only [go_sem,seval,h0,h4,h6]
    refine fin (by rfl) ?_
    rw [hP]
    split
    ·rw [if_pos (by omega)];rfl
    ·rw [if_pos (by omega)];rfl
   | false =>
    have hv:=hu rfl
    simp only [go_sem,seval,h0,h4,h6,h7,hb2]
    refine ah (Q5 u hu64 (isNeg s)) ?_<;>simp only [go_sem,seval,h0,h4]
    refine fin (by rfl) ?_
    rw [hP,← hv]
    rfl
end Go.V
namespace Go.V
open Go.Proofs
set_option maxRecDepth 100000
def dW (k a e n : Int) (t : Bs) : VV:=.agg [.int .i64 k,.int .i64 a,.int .i64 e,.int .i64 n,.str t]
abbrev oU : VV:=dW 0 0 0 0 []
def oG (s : Bs) (p : Nat) (x : Bs) : Bool:=decide (p+x.length≤s.length) && ((s.drop p).take x.length == x)
def qA (s : Bs) (p : Nat) : Option Bs:=aX.find? (oG s p)
theorem y5 : ∀ x ∈ aX,x.length≤2:=by decide
theorem aaN : G0 1=some (aX.map .str):=rfl
theorem oP : aX.length=23:=rfl
theorem Vy : (aX.map VV.str).take 23=aX.map .str:=rfl
theorem Uk {i : Nat} (h : i < 23) : (aX.map VV.str).getD i .undef=.str (aX[i]'(by rw [oP];exact h)):=by
 have h' : i < aX.length:=by rw [oP];exact h
 simp [List.getD_eq_getElem?_getD,h']
theorem Ze (s : Bs) (p : Nat) (hp : p≤s.length) (hs : s.length≤10000000) : PV Tryz.prog G0 82 [.str s,.int .i64 p] (match qA s p with
  | some x=>.tup [dW 1 p (p+x.length : Nat) 0 x,.nili]
  | none=>.tup [oU,dL 2 p]):=by
 refine pv e82 (by simp) rfl (by split<;>rfl) ?_
 simp only [go_sem,seval,c82,aaN,List.length_map,oP,Vy]
 refine aG (fun m ρ σ=>∃ (i : Nat),m=23-i∧i≤23∧ρ.get 0=.str s∧ρ.get 1=.int .i64 p∧ρ.get 4=.mptr 0 0∧ρ.get 9=.agg (aX.map .str)∧ρ.get 10=.int .i64 i ∧
   σ=[.own [.int .i64 0,.int .i64 0,.int .i64 0,.int .i64 0,.str []]]∧qA s p=(aX.drop i).find? (oG s p)) (n:=23) ?_ ⟨0,rfl,by omega,rfl,rfl,rfl,rfl,rfl,rfl,rfl⟩
 rintro m ρ σ ⟨i,rfl,hi,h0,h1,h4,h9,h10,rfl,hf⟩
 simp only [go_sem,seval,h0,h1,h4,h9,h10]
 refine aj (fun hc=>?_) (fun hc=>?_)
 ·simp at hc
  have hc' : i < 23:=by omega
  have hlt : i < aX.length:=by rw [oP];exact hc'
  have hx2:=y5 _ (List.getElem_mem hlt)
  have hg:=Uk hc'
  have hd : aX.drop i=aX[i]::aX.drop (i+1):=List.drop_eq_getElem_cons hlt
  rw [hd] at hf
  generalize aX[i]=x at hx2 hg hf
  have e1 : IntKind.i64.wrap ((p : Int)+(x.length : Int))=((p+x.length : Nat) : Int):=by rw [iw (by omega)];omega
  have e2 : IntKind.i64.wrap ((i : Int)+1)=((i+1 : Nat) : Int):=by rw [iw (by omega)];omega
  simp only [go_sem,seval,h0,h1,h4,h9,h10,Int.toNat_natCast,Nat.mul_one,hg,List.length_map,oP,e1]
  refine ⟨by omega,aS (fun hl=>?_) (fun hl=>?_)⟩
  ·have hl' : p+x.length≤s.length:=by simp at hl;omega
   have e3 : p+x.length-p=x.length:=by omega
   simp only [go_sem,seval,hl,h0,h1,h4,h9,h10,Int.toNat_natCast,e1,e3]
   refine ⟨by omega,aj (fun he=>?_) (fun he=>?_)⟩
   ·have hh : oG s p x=true:=by simp only [oG,he,Bool.and_true,decide_eq_true_eq];omega
    rw [List.find?_cons_of_pos hh] at hf
    simp only [go_sem,seval,h0,h1,h4,h9,h10]
    refine fin (by rw [hf];rfl) ?_
    rw [hf]
    rfl
   ·have hh : ¬ oG s p x=true:=by simp [oG,he]
    rw [List.find?_cons_of_neg hh] at hf
    simp only [go_sem,seval,h0,h1,h4,h9,h10,e2]
    refine ⟨23-(i+1),by omega,i+1, ?_⟩
    and_intros
    all_goals first | rfl | exact hf | omega
  ·have hl' : ¬ p+x.length≤s.length:=by simp at hl;omega
   have hh : ¬ oG s p x=true:=by simp [oG];omega
   rw [List.find?_cons_of_neg hh] at hf
   simp only [go_sem,seval,hl,h0,h1,h4,h9,h10,e2]
   refine ⟨23-(i+1),by omega,i+1, ?_⟩
   and_intros
   all_goals first | rfl | exact hf | omega
 ·simp at hc
  have : aX.drop i=[]:=List.drop_eq_nil_of_le (by rw [oP];omega)
  rw [this] at hf
  simp only [go_sem,seval,h0,h1,h4,h9,h10]
  refine ah (wK 2 p) ?_<;>simp only [go_sem,seval,h0,h1,h4]
  refine fin (by rw [hf];rfl) ?_
  rw [hf]
  rfl
end Go.V
namespace Go.V
open Go.Proofs
set_option maxRecDepth 100000
theorem QZ (s x : Bs) (p : Nat) (hp : p≤s.length) (hx : x.length≤1000) (hs : s.length≤10000000) : PV Tryz.prog G0 91 [.str s,.int .i64 p,.str x] (.bool (oG s p x)):=by
 refine pv e91 (by simp) rfl rfl ?_
 have e1 : IntKind.i64.wrap ((s.length : Int)-p)=((s.length-p : Nat) : Int):=by rw [iw (by omega)];omega
 have e2 : IntKind.i64.wrap ((p : Int)+x.length)=((p+x.length : Nat) : Int):=by rw [iw (by omega)];omega
 have e3 : p+x.length-p=x.length:=by omega
 simp only [go_sem,seval,c91,e1]
 refine aS (fun hl=>?_) (fun hl=>?_)
 ·have hl' : p+x.length≤s.length:=by simp at hl;omega
  simp only [go_sem,seval,hl,e1,e2,e3,Int.toNat_natCast]
  refine ⟨by omega,fin (by rfl) ?_⟩
  simp only [oG,VV.bool.injEq]
  rw [show decide (p+x.length≤s.length)=true by simpa using hl']
  simp
 ·have hl' : ¬ p+x.length≤s.length:=by simp at hl;omega
  simp only [go_sem,seval,hl]
  exact fin (by rfl) (by simp [oG,hl'])
theorem TD : PV Tryz.prog G0 90 [] (.sl 23 (aX.map .str) true):=by
 refine pv e90 (by simp) rfl rfl ?_
 simp only [go_sem,seval,c90]
 exact fin (by rfl) rfl
theorem Sm {s : Bs} {i : Nat} (h : i≤s.length) : (iZ s i).2.1≤s.length:=by
 unfold iZ
 cases ha : s[i]? with
 | none=>exact Nat.le_refl _
 | some a =>
  simp only
  cases jJ a with
  | none=>exact h
  | some x =>
   simp only
   cases hb : s[i+1]? with
   | none=>exact Nat.le_refl _
   | some b =>
    have:=(List.getElem?_eq_some_iff.1 hb).1
    simp only
    cases jJ b with
    | none=>simp only;omega
    | some y=>simp only;omega
theorem xX {s : Bs} : ∀ (f i : Nat) (out : Bs),i≤s.length→(kR s f i out).2.1≤s.length
 | 0,i,out,h=>Nat.le_refl _
 | f+1,i,out,h=>by
  unfold kR
  cases hc : s[i]? with
  | none=>exact Nat.le_refl _
  | some c =>
   have h1:=(List.getElem?_eq_some_iff.1 hc).1
   simp only
   split
   ·exact h1
   split
   ·exact h
   split
   ·exact xX f _ _ h1
   cases hd : s[i+1]? with
   | none=>exact Nat.le_refl _
   | some d =>
    have h2:=(List.getElem?_eq_some_iff.1 hd).1
    simp only
    split
    ·split
     ·rename_i hp
      exact xX f _ _ (IG hp).2.1
     ·exact Sm h2
    ·cases mM d with
     | none=>simp only;omega
     | some x=>exact xX f _ _ h2
theorem vY (s : Bs) : (bT s).2.1≤s.length:=by
 unfold bT
 split
 ·exact Nat.zero_le _
 ·rename_i c hc
  have:=(List.getElem?_eq_some_iff.1 hc).1
  split
  ·exact xX _ _ _ this
  ·exact Nat.zero_le _
def zl (s : Bs) (p : Nat) : VV:=if (bT (s.drop p)).2.2=0 then .tup [dW 4 p (p+(bT (s.drop p)).2.1 : Nat) 0 (bT (s.drop p)).1,.nili] else .tup [oU,dL (bT (s.drop p)).2.2 (p+(bT (s.drop p)).2.1 : Nat)]
theorem mg (e a : Int) : (dL e a).isPure=true:=by unfold dL;split<;>rfl
theorem Zm (s : Bs) (p : Nat) (hp : p≤s.length) (hs : s.length≤10000000) : PV Tryz.prog G0 78 [.str s,.int .i64 p] (zl s p):=by
 have hpu : (zl s p).isPure=true:=by
  unfold zl;split
  ·rfl
  ·simp only [VV.isPure,VV.ak,mg,dW];rfl
 refine pv e78 (by simp) rfl hpu ?_
 simp only [go_sem,seval,c78,Int.toNat_natCast]
 have hl : (s.drop p).take (s.length-p)=s.drop p:=List.take_of_length_le (by simp)
 have hu:=Pm (s.drop p) (by simp;omega)
 have hle:=vY (s.drop p)
 rw [List.length_drop] at hle
 refine ⟨by omega, ?_⟩
 rw [hl]
 refine ah hu ?_
 have hT : zl s p=if (bT (s.drop p)).2.2=0 then .tup [dW 4 p (p+(bT (s.drop p)).2.1 : Nat) 0 (bT (s.drop p)).1,.nili] else .tup [oU,dL (bT (s.drop p)).2.2 (p+(bT (s.drop p)).2.1 : Nat)]:=rfl
 generalize bT (s.drop p)=r at hT hle
 obtain ⟨x,n,e⟩:=r
 simp only at hT hle
 have e1 : IntKind.i64.wrap ((p : Int)+n)=((p+n : Nat) : Int):=by rw [iw (by omega)];omega
 simp only [go_sem,seval,IV,e1]
 refine aj (fun h=>?_) (fun h=>?_)
 ·have he : ¬ e=0:=by simp at h;omega
  simp only [go_sem,seval,e1]
  refine ah (wK (e : Int) ((p+n : Nat) : Int)) ?_<;>simp only [go_sem,seval]
  refine fin hpu ?_
  rw [hT,if_neg he];rfl
 ·have he : e=0:=by simp at h;omega
  simp only [go_sem,seval,e1]
  refine fin hpu ?_
  rw [hT,if_pos he];rfl
end Go.V
namespace Go.V
open Go.Proofs
set_option maxRecDepth 100000
def qP (c : UInt8) : Bool:=pF c.toNat
def iR (c : UInt8) : Bool:=qP c || isDigit c.toNat
def gU (c : UInt8) : Bool:=blank c.toNat
def aQ (f : UInt8→Bool) (s : Bs) (p : Nat) : Nat:=p+((s.drop p).takeWhile f).length
inductive Lx where
 | tok (k a e : Nat) (n : Int) (t : Bs)
 | err (code place : Nat)
def Ik (s : Bs) (p : Nat) (c : UInt8) : Lx :=
  if c.toNat=34 then (if (bT (s.drop p)).2.2=0 then .tok 4 p (p+(bT (s.drop p)).2.1) 0 (bT (s.drop p)).1 else .err (bT (s.drop p)).2.2 (p+(bT (s.drop p)).2.1))
  else if qP c then .tok 2 p (aQ iR s (p+1)) 0 ((s.drop p).take (aQ iR s (p+1)-p))
  else if c.toNat=45∨dJ c=true then
   (if (parseNum ((s.drop p).take (aQ dJ s (p+1)-p))).2=0 then .tok 3 p (aQ dJ s (p+1)) (parseNum ((s.drop p).take (aQ dJ s (p+1)-p))).1 [] else .err (parseNum ((s.drop p).take (aQ dJ s (p+1)-p))).2 p)
  else match qA s p with
   | some x=>.tok 1 p (p+x.length) 0 x
   | none=>.err 2 p
def nZ (s : Bs) (p : Nat) : Lx:=match s[p]? with
 | none=>.tok 0 p p 0 []
 | some c=>Ik s p c
def cZ (s : Bs) (a : Int) : Lx:=if a < 0∨s.length < a then .err 1 0 else nZ s (aQ gU s a.toNat)
def X4 : Lx→VV
 | .tok k a e n t=>.tup [dW k a e n t,.nili]
 | .err c p=>.tup [oU,dL c p]
def Zz : Lx→VV
 | .tok k a e n t=>.tup [dW k a e n t,.int .i64 0,.int .i64 0]
 | .err c p=>.tup [oU,.int .i64 p,.int .i64 c]
theorem Du (c : UInt8) : (decide ((48 : Int)≤(c.toNat : Int)) && decide ((c.toNat : Int)≤57))=dJ c:=by
 unfold dJ
 rw [show decide ((48 : Int)≤(c.toNat : Int))=decide (48≤c.toNat) from decide_eq_decide.2 (by omega),show decide ((c.toNat : Int)≤57)=decide (c.toNat≤57) from decide_eq_decide.2 (by omega)]
theorem ji {f : UInt8→Bool} {s : Bs} {p : Nat} (h : p < s.length) (hf : f s[p]=true) : aQ f s p=aQ f s (p+1):=by
 unfold aQ
 rw [List.drop_eq_getElem_cons h,List.takeWhile_cons,if_pos hf]
 simp;omega
theorem eu {f : UInt8→Bool} {s : Bs} {p : Nat} (h : ∀ h : p < s.length,f s[p]=false) : aQ f s p=p:=by
 unfold aQ
 by_cases hp : p < s.length
 ·rw [List.drop_eq_getElem_cons hp,List.takeWhile_cons,if_neg (by simp [h hp])];rfl
 ·rw [List.drop_eq_nil_of_le (by omega)];rfl
theorem jH {f : UInt8→Bool} {s : Bs} {p : Nat} (h : p≤s.length) : aQ f s p≤s.length:=by
 unfold aQ
 have:=(List.takeWhile_sublist (l:=s.drop p) f).length_le
 rw [List.length_drop] at this
 omega
theorem oZ {f : UInt8→Bool} {s : Bs} {p : Nat} : p≤aQ f s p:=Nat.le_add_right _ _
theorem oQ {id : Nat} {Q Q' : Out→Env→Store→Prop} (h : ∀ o ρ σ,Q o ρ σ→Q' o ρ σ) : ∀ o ρ σ,gY id Q o ρ σ→gY id Q' o ρ σ:=by
 intro o ρ σ hh
 cases o with
 | exit j=>rw [uZ] at hh ⊢;split<;>rename_i e<;>simp only [e,if_true,if_false] at hh<;>exact h _ _ _ hh
 | _=>exact h _ _ _ hh
theorem bY {P : Program} {G : Nat→Option (List VV)} {c : aA} {id : Nat} {K M : Env→Store→Prop} {Q : Out→Env→Store→Prop} {ρ : Env} {σ : Store} (hm : ∀ ρ σ,M ρ σ→K ρ σ) (h : jQ P G c (gY id (eX M Q)) ρ σ) : jQ P G c (gY id (eX K Q)) ρ σ :=
 iC c (oQ (yB hm)) ρ σ h
theorem P9 (s : Bs) (a : Int) (ha : -9223372036854775808≤a∧a≤9223372036854775807) (hs : s.length≤10000000) : PV Tryz.prog G0 48 [.str s,.int .i64 a] (X4 (cZ s a)):=by
 have hpu : (X4 (cZ s a)).isPure=true:=by
  cases cZ s a with
  | tok=>rfl
  | err=>simp only [X4,VV.isPure,VV.ak,mg,dW];rfl
 refine pv e48 (by simp) rfl hpu ?_
 simp only [go_sem,seval,c48]
 repeat' (first | (refine aY (fun h=>?_) (fun h=>?_)<;>simp only [go_sem,seval,h]) | (refine aj (fun h=>?_) (fun h=>?_)<;>simp only [go_sem,seval,h]) | (refine bF (fun h=>?_) (fun h=>?_)<;>simp only [go_sem,seval,h]) | (refine aS (fun h=>?_) (fun h=>?_)<;>simp only [go_sem,seval,h]) | (refine bg (fun h=>?_) (fun h=>?_)<;>simp only [go_sem,seval,h]) | (refine dB (fun h=>?_) (fun h=>?_)<;>simp only [go_sem,seval,h]))
 ·have h' : (s.length : Int) < a:=by simpa using h
  refine ah (wK 1 0) ?_<;>simp only [go_sem,seval]
  refine fin hpu ?_
  rw [cZ,if_pos (.inr h')];rfl
 rotate_left
 ·have h' : a < 0:=by simpa using h
  refine ah (wK 1 0) ?_<;>simp only [go_sem,seval]
  refine fin hpu ?_
  rw [cZ,if_pos (.inl h')];rfl
 rename_i ha0
 simp at h ha0
 obtain ⟨p0,rfl⟩ : ∃ p : Nat,a=(p : Int):=⟨a.toNat,by omega⟩
 have hp0 : p0≤s.length:=by omega
 have hN : cZ s p0=nZ s (aQ gU s p0):=by rw [cZ,if_neg (by omega)];rfl
 rw [hN] at hpu ⊢
 refine bY (M:=fun ρ σ=>ρ.get 0=.str s∧ρ.get 1=.int .i64 (aQ gU s p0 : Nat)∧ρ.get 4=.mptr 0 0∧ρ.get 5=.nili∧σ=[.own [.int .i64 0,.int .i64 0,.int .i64 0,.int .i64 0,.str []]]) ?_ ?_
 ·rintro ρ σ ⟨h0,h1,h4,h5,rfl⟩
  have hple : aQ gU s p0≤s.length:=jH hp0
  generalize aQ gU s p0=p at h1 hple hpu
  simp only [go_sem,seval,h0,h1,h4,h5]
  have e1 : IntKind.i64.wrap ((p : Int)+1)=((p+1 : Nat) : Int):=by rw [iw (by omega)];omega
  simp only [go_sem,seval,e1]
  refine aj (fun hc=>?_) (fun hc=>?_)
  ·have hc' : p=s.length:=by simp at hc;omega
   have hx : nZ s p=.tok 0 p p 0 []:=by
    unfold nZ;rw [List.getElem?_eq_none (by omega)]
   rw [hx] at hpu ⊢
   simp only [go_sem,seval,h0,h1,h4,h5]
   refine fin hpu ?_
   rfl
  have hc' : p < s.length:=by simp at hc;omega
  have g : s.getD p 0=s[p]:=by simp [List.getD_eq_getElem?_getD,hc']
  have gp : s[p]?=some s[p]:=by simp [hc']
  have hL : nZ s p=Ik s p s[p]:=by unfold nZ;rw [gp]
  unfold Ik at hL
  simp only [go_sem,seval,h0,h1,h4,h5,Int.toNat_natCast,g]
  refine ⟨by omega,aj (fun hq=>?_) (fun hq=>?_)⟩
  ·have hq' : s[p].toNat=34:=by simp at hq;omega
   rw [if_pos hq'] at hL
   simp only [go_sem,seval,h0,h1,h4,h5]
   refine ah (Zm s p hple hs) ?_<;>simp only [go_sem,seval,h0,h1,h4,h5]
   by_cases hu : (bT (s.drop p)).2.2=0
   ·have hT : zl s p=.tup [dW 4 p (p+(bT (s.drop p)).2.1 : Nat) 0 (bT (s.drop p)).1,.nili]:=by unfold zl;rw [if_pos hu]
    rw [if_pos hu] at hL
    rw [hL] at hpu ⊢
    simp only [go_sem,seval,h0,h1,h4,h5,hT,dW]
    refine fin hpu ?_
    rfl
   ·have hT : zl s p=.tup [oU,dL (bT (s.drop p)).2.2 (p+(bT (s.drop p)).2.1 : Nat)]:=by unfold zl;rw [if_neg hu]
    rw [if_neg hu] at hL
    rw [hL] at hpu ⊢
    simp only [go_sem,seval,h0,h1,h4,h5,hT,oU,dW]
    refine fin hpu ?_
    rfl
  ·have hq' : ¬ s[p].toNat=34:=by simp at hq;omega
   rw [if_neg hq'] at hL
   simp only [go_sem,seval,h0,h1,h4,h5]
   refine ah (G9 (s[p].toNat : Int) false) ?_<;>simp only [go_sem,seval,h0,h1,h4,h5]
   refine aj (fun hw=>?_) (fun hw=>?_)
   ·rw [if_pos (show qP s[p]=true from hw)] at hL
    simp only [go_sem,seval,h0,h1,h4,h5]
    refine bY (M:=fun ρ σ=>ρ.get 0=.str s∧ρ.get 1=.int .i64 p∧ρ.get 4=.mptr 0 0∧ρ.get 5=.nili∧ρ.get 6=.mptr 1 0∧σ=[.own [.int .i64 0,.int .i64 0,.int .i64 0,.int .i64 0,.str []],.own [.int .i64 0,.int .i64 p,.int .i64 (aQ iR s (p+1) : Nat),.int .i64 0,.str []]]) ?_ ?_
    ·rintro ρ σ ⟨h0,h1,h4,h5,h6,rfl⟩
     have hre : aQ iR s (p+1)≤s.length:=jH hc'
     have hrg : p+1≤aQ iR s (p+1):=oZ
     simp only [go_sem,seval,h0,h1,h4,h5,h6,Int.toNat_natCast]
     refine ⟨by omega,by omega, ?_⟩
     refine fin hpu ?_
     rw [hL];rfl
    ·refine aG (fun m ρ σ=>∃ i : Nat,m=s.length-i∧i≤s.length∧ρ.get 0=.str s∧ρ.get 1=.int .i64 p∧ρ.get 4=.mptr 0 0∧ρ.get 5=.nili∧ρ.get 6=.mptr 1 0∧σ=[.own [.int .i64 0,.int .i64 0,.int .i64 0,.int .i64 0,.str []],.own [.int .i64 0,.int .i64 p,.int .i64 i,.int .i64 0,.str []]]∧aQ iR s i=aQ iR s (p+1)) (n:=s.length-(p+1)) ?_ ⟨p+1,rfl,hc',h0,h1,h4,h5,rfl,rfl,rfl⟩
     rintro m ρ σ ⟨i,rfl,hi,h0,h1,h4,h5,h6,rfl,hR⟩
     simp only [go_sem,seval,h0,h1,h4,h5,h6]
     refine aS (fun hc=>?_) (fun hc=>?_)
     ·have hci : i < s.length:=by simpa using hc
      have g : s.getD i 0=s[i]:=by simp [List.getD_eq_getElem?_getD,hci]
      have e1 : IntKind.i64.wrap ((i : Int)+1)=((i+1 : Nat) : Int):=by rw [iw (by omega)];omega
      simp only [go_sem,seval,h0,h1,h4,h5,h6,hc,Int.toNat_natCast,g]
      refine ⟨by omega, ?_⟩
      refine ah (G9 (s[i].toNat : Int) true) ?_<;>simp only [go_sem,seval,h0,h1,h4,h5,h6,hc]
      refine aj (fun hb=>?_) (fun hb=>?_)
      ·simp only [go_sem,seval,h0,h1,h4,h5,h6,e1]
       refine ⟨s.length-(i+1),by omega,i+1, ?_⟩
       have:=ji (f:=iR) hci hb
       and_intros
       all_goals first | rfl | omega | (rw [← hR];exact this.symm)
      ·have : aQ iR s i=i:=eu (f:=iR) fun _=>hb
       rw [this] at hR
       simp only [go_sem,seval,h0,h1,h4,h5,h6,← hR]
     ·have hci : ¬ i < s.length:=by simpa using hc
      have : aQ iR s i=i:=eu fun h=>absurd h hci
      rw [this] at hR
      simp only [go_sem,seval,h0,h1,h4,h5,h6,hc,← hR]
   ·rw [if_neg (show ¬ qP s[p]=true by rw [show qP s[p]=false from hw];simp)] at hL
    simp only [go_sem,seval,h0,h1,h4,h5]
    refine aj (fun hm=>?_) (fun hm=>?_)
    ·simp only [go_sem,seval,h0,h1,h4,h5]
     have hnum : s[p].toNat=45∨dJ s[p]=true:=.inl (by simp at hm;omega)
     rw [if_pos hnum] at hL
     refine bY (M:=fun ρ σ=>ρ.get 0=.str s∧ρ.get 1=.int .i64 p∧ρ.get 4=.mptr 0 0∧ρ.get 5=.nili∧ρ.get 6=.mptr 1 0∧σ=[.own [.int .i64 0,.int .i64 0,.int .i64 0,.int .i64 0,.str []],.own [.int .i64 0,.int .i64 p,.int .i64 (aQ dJ s (p+1) : Nat),.int .i64 0,.str []]]) ?_ ?_
     ·rintro ρ σ ⟨h0,h1,h4,h5,h6,rfl⟩
      have hre : aQ dJ s (p+1)≤s.length:=jH hc'
      have hrg : p+1≤aQ dJ s (p+1):=oZ
      generalize aQ dJ s (p+1)=q at hL hre hrg
      simp only [go_sem,seval,h0,h1,h4,h5,h6,Int.toNat_natCast]
      refine ⟨by omega, ?_⟩
      have hxl : ((s.drop p).take (q-p)).length≤10000000:=by rw [List.length_take,List.length_drop];omega
      generalize (s.drop p).take (q-p)=x at hL hxl
      refine ah (MO x hxl) ?_<;>simp only [go_sem,seval,h0,h1,h4,h5,h6]
      refine aj (fun he=>?_) (fun he=>?_)
      ·have he' : ¬ (parseNum x).2=0:=by simp at he;omega
       rw [if_neg he'] at hL
       rw [hL] at hpu ⊢
       simp only [go_sem,seval,h0,h1,h4,h5,h6]
       refine ah (wK ((parseNum x).2 : Int) (p : Int)) ?_<;>simp only [go_sem,seval,h0,h1,h4,h5,h6]
       refine fin hpu ?_
       rfl
      ·have he' : (parseNum x).2=0:=by simp at he;omega
       rw [if_pos he'] at hL
       rw [hL] at hpu ⊢
       simp only [go_sem,seval,h0,h1,h4,h5,h6]
       refine fin hpu ?_
       rfl
     ·refine aG (fun m ρ σ=>∃ i : Nat,m=s.length-i∧i≤s.length∧ρ.get 0=.str s∧ρ.get 1=.int .i64 p∧ρ.get 4=.mptr 0 0∧ρ.get 5=.nili∧ρ.get 6=.mptr 1 0∧σ=[.own [.int .i64 0,.int .i64 0,.int .i64 0,.int .i64 0,.str []],.own [.int .i64 0,.int .i64 p,.int .i64 i,.int .i64 0,.str []]]∧aQ dJ s i=aQ dJ s (p+1)) (n:=s.length-(p+1)) ?_ ⟨p+1,rfl,hc',h0,h1,h4,h5,rfl,rfl,rfl⟩
      rintro m ρ σ ⟨i,rfl,hi,h0,h1,h4,h5,h6,rfl,hR⟩
      simp only [go_sem,seval,h0,h1,h4,h5,h6]
      refine aS (fun hc=>?_) (fun hc=>?_)
      ·have hci : i < s.length:=by simpa using hc
       have g : s.getD i 0=s[i]:=by simp [List.getD_eq_getElem?_getD,hci]
       have e1 : IntKind.i64.wrap ((i : Int)+1)=((i+1 : Nat) : Int):=by rw [iw (by omega)];omega
       simp only [go_sem,seval,h0,h1,h4,h5,h6,hc,Int.toNat_natCast,g]
       refine ⟨by omega, ?_⟩
       refine ah (zS (s[i].toNat : Int)) ?_<;>simp only [go_sem,seval,h0,h1,h4,h5,h6,hc]
       refine aj (fun hb=>?_) (fun hb=>?_)
       ·have hb' : dJ s[i]=true:=by rw [← hb];exact (Du _).symm
        simp only [go_sem,seval,h0,h1,h4,h5,h6,e1]
        refine ⟨s.length-(i+1),by omega,i+1, ?_⟩
        have:=ji (f:=dJ) hci hb'
        and_intros
        all_goals first | rfl | omega | (rw [← hR];exact this.symm)
       ·have hb' : dJ s[i]=false:=by rw [← hb];exact (Du _).symm
        have : aQ dJ s i=i:=eu (f:=dJ) fun _=>hb'
        rw [this] at hR
        simp only [go_sem,seval,h0,h1,h4,h5,h6,← hR]
      ·have hci : ¬ i < s.length:=by simpa using hc
       have : aQ dJ s i=i:=eu fun h=>absurd h hci
       rw [this] at hR
       simp only [go_sem,seval,h0,h1,h4,h5,h6,hc,← hR]
    ·simp only [go_sem,seval,h0,h1,h4,h5]
     refine ah (zS (s[p].toNat : Int)) ?_<;>simp only [go_sem,seval,h0,h1,h4,h5]
     refine aj (fun hb=>?_) (fun hb=>?_)
     ·simp only [go_sem,seval,h0,h1,h4,h5]
      have hnum : s[p].toNat=45∨dJ s[p]=true:=.inr (by rw [← hb];exact (Du _).symm)
      rw [if_pos hnum] at hL
      refine bY (M:=fun ρ σ=>ρ.get 0=.str s∧ρ.get 1=.int .i64 p∧ρ.get 4=.mptr 0 0∧ρ.get 5=.nili∧ρ.get 6=.mptr 1 0∧σ=[.own [.int .i64 0,.int .i64 0,.int .i64 0,.int .i64 0,.str []],.own [.int .i64 0,.int .i64 p,.int .i64 (aQ dJ s (p+1) : Nat),.int .i64 0,.str []]]) ?_ ?_
      ·rintro ρ σ ⟨h0,h1,h4,h5,h6,rfl⟩
       have hre : aQ dJ s (p+1)≤s.length:=jH hc'
       have hrg : p+1≤aQ dJ s (p+1):=oZ
       generalize aQ dJ s (p+1)=q at hL hre hrg
       simp only [go_sem,seval,h0,h1,h4,h5,h6,Int.toNat_natCast]
       refine ⟨by omega, ?_⟩
       have hxl : ((s.drop p).take (q-p)).length≤10000000:=by rw [List.length_take,List.length_drop];omega
       generalize (s.drop p).take (q-p)=x at hL hxl
       refine ah (MO x hxl) ?_<;>simp only [go_sem,seval,h0,h1,h4,h5,h6]
       refine aj (fun he=>?_) (fun he=>?_)
       ·have he' : ¬ (parseNum x).2=0:=by simp at he;omega
        rw [if_neg he'] at hL
        rw [hL] at hpu ⊢
        simp only [go_sem,seval,h0,h1,h4,h5,h6]
        refine ah (wK ((parseNum x).2 : Int) (p : Int)) ?_<;>simp only [go_sem,seval,h0,h1,h4,h5,h6]
        refine fin hpu ?_
        rfl
       ·have he' : (parseNum x).2=0:=by simp at he;omega
        rw [if_pos he'] at hL
        rw [hL] at hpu ⊢
        simp only [go_sem,seval,h0,h1,h4,h5,h6]
        refine fin hpu ?_
        rfl
      ·refine aG (fun m ρ σ=>∃ i : Nat,m=s.length-i∧i≤s.length∧ρ.get 0=.str s∧ρ.get 1=.int .i64 p∧ρ.get 4=.mptr 0 0∧ρ.get 5=.nili∧ρ.get 6=.mptr 1 0∧σ=[.own [.int .i64 0,.int .i64 0,.int .i64 0,.int .i64 0,.str []],.own [.int .i64 0,.int .i64 p,.int .i64 i,.int .i64 0,.str []]]∧aQ dJ s i=aQ dJ s (p+1)) (n:=s.length-(p+1)) ?_ ⟨p+1,rfl,hc',h0,h1,h4,h5,rfl,rfl,rfl⟩
       rintro m ρ σ ⟨i,rfl,hi,h0,h1,h4,h5,h6,rfl,hR⟩
       simp only [go_sem,seval,h0,h1,h4,h5,h6]
       refine aS (fun hc=>?_) (fun hc=>?_)
       ·have hci : i < s.length:=by simpa using hc
        have g : s.getD i 0=s[i]:=by simp [List.getD_eq_getElem?_getD,hci]
        have e1 : IntKind.i64.wrap ((i : Int)+1)=((i+1 : Nat) : Int):=by rw [iw (by omega)];omega
        simp only [go_sem,seval,h0,h1,h4,h5,h6,hc,Int.toNat_natCast,g]
        refine ⟨by omega, ?_⟩
        refine ah (zS (s[i].toNat : Int)) ?_<;>simp only [go_sem,seval,h0,h1,h4,h5,h6,hc]
        refine aj (fun hb=>?_) (fun hb=>?_)
        ·have hb' : dJ s[i]=true:=by rw [← hb];exact (Du _).symm
         simp only [go_sem,seval,h0,h1,h4,h5,h6,e1]
         refine ⟨s.length-(i+1),by omega,i+1, ?_⟩
         have:=ji (f:=dJ) hci hb'
         and_intros
         all_goals first | rfl | omega | (rw [← hR];exact this.symm)
        ·have hb' : dJ s[i]=false:=by rw [← hb];exact (Du _).symm
         have : aQ dJ s i=i:=eu (f:=dJ) fun _=>hb'
         rw [this] at hR
         simp only [go_sem,seval,h0,h1,h4,h5,h6,← hR]
       ·have hci : ¬ i < s.length:=by simpa using hc
        have : aQ dJ s i=i:=eu fun h=>absurd h hci
        rw [this] at hR
        simp only [go_sem,seval,h0,h1,h4,h5,h6,hc,← hR]
     ·have hnum : ¬ (s[p].toNat=45∨dJ s[p]=true):=by
       have h1 : dJ s[p]=false:=by rw [← hb];exact (Du _).symm
       simp at hm
       rw [h1];simp;omega
      rw [if_neg hnum] at hL
      simp only [go_sem,seval,h0,h1,h4,h5]
      refine ah (Ze s p hple hs) ?_<;>simp only [go_sem,seval,h0,h1,h4,h5]
      cases hsg : qA s p with
      | none =>
       rw [hsg] at hL
       rw [hL] at hpu ⊢
       simp only [go_sem,seval,h0,h1,h4,h5,oU,dW]
       refine fin hpu ?_
       rfl
      | some x =>
       rw [hsg] at hL
       rw [hL] at hpu ⊢
       simp only [go_sem,seval,h0,h1,h4,h5,dW]
       refine fin hpu ?_
       rfl
 ·refine aG (fun m ρ σ=>∃ i : Nat,m=s.length-i∧i≤s.length∧ρ.get 0=.str s∧ρ.get 1=.int .i64 i∧ρ.get 4=.mptr 0 0∧ρ.get 5=.nili∧σ=[.own [.int .i64 0,.int .i64 0,.int .i64 0,.int .i64 0,.str []]]∧aQ gU s i=aQ gU s p0) (n:=s.length-p0) ?_ ⟨p0,rfl,hp0,rfl,rfl,rfl,rfl,rfl,rfl⟩
  rintro m ρ σ ⟨i,rfl,hi,h0,h1,h4,h5,rfl,hR⟩
  simp only [go_sem,seval,h0,h1,h4,h5]
  refine aS (fun hc=>?_) (fun hc=>?_)
  ·have hc' : i < s.length:=by simpa using hc
   have g : s.getD i 0=s[i]:=by simp [List.getD_eq_getElem?_getD,hc']
   have e1 : IntKind.i64.wrap ((i : Int)+1)=((i+1 : Nat) : Int):=by rw [iw (by omega)];omega
   simp only [go_sem,seval,h0,h1,h4,h5,hc,Int.toNat_natCast,g]
   refine ⟨by omega, ?_⟩
   refine ah (UY (s[i].toNat : Int)) ?_<;>simp only [go_sem,seval,h0,h1,h4,h5,hc]
   refine aj (fun hb=>?_) (fun hb=>?_)
   ·simp only [go_sem,seval,h0,h1,h4,h5,e1]
    refine ⟨s.length-(i+1),by omega,i+1, ?_⟩
    have:=ji (f:=gU) hc' hb
    and_intros
    all_goals first | rfl | omega | (rw [← hR];exact this.symm)
   ·have : aQ gU s i=i:=eu (f:=gU) fun _=>hb
    rw [this] at hR
    simp only [go_sem,seval,h0,h1,h4,h5,← hR]
  ·have hc' : ¬ i < s.length:=by simpa using hc
   have : aQ gU s i=i:=eu fun h=>absurd h hc'
   rw [this] at hR
   simp only [go_sem,seval,h0,h1,h4,h5,hc,← hR]
end Go.V
