/- Texts F6 F8 B1 F9 F10 F11 F12 F13. -/
import Derived.Test.YthhjefemijhamaaGreatDoorG15
set_option linter.unusedVariables false
set_option linter.unusedSimpArgs false
namespace Go.V
open Go.Proofs
set_option maxRecDepth 100000
def unqGo (s : Bs) : Nat→Nat→Bs→Bs × Nat × Nat
 | 0,_,_=>([],s.length,10)
 | f+1,i,out=>match s[i]? with
  | none=>([],s.length,10)
  | some c =>
   if c.toNat=34 then (out,i+1,0)
   else if c.toNat < 32 then ([],i,2)
   else if c.toNat≠92 then unqGo s f (i+1) (out++[c])
   else match s[i+1]? with
    | none=>([],s.length,10)
    | some d =>
     if d.toNat=120 then (if (pairV s (i+2)).2.2=0 then unqGo s f (i+4) (out++[UInt8.ofNat (pairV s (i+2)).1]) else ([],(pairV s (i+2)).2.1,(pairV s (i+2)).2.2))
     else match escOf d with
      | none=>([],i+1,2)
      | some x=>unqGo s f (i+2) (out++[x])
def unquote (s : Bs) : Bs × Nat × Nat:=match s[0]? with
 | none=>([],0,10)
 | some c=>if c.toNat=34 then unqGo s s.length 1 [] else ([],0,2)
theorem pairV_ok {s : Bs} {i : Nat} (h : (pairV s i).2.2=0) : (pairV s i).2.1=i+2∧i+2≤s.length∧(pairV s i).1 < 256:=by
 unfold pairV at *
 split at h
 ·simp at h
 ·rename_i a ha
  split at h
  ·simp at h
  ·rename_i x hx
   split at h
   ·simp at h
   ·rename_i b hb
    split at h
    ·simp at h
    ·rename_i y hy
     have:=(List.getElem?_eq_some_iff.1 hb).1
     have h1:=hexval_lt hx
     have h2:=hexval_lt hy
     simp only [ha,hx,hb,hy]
     exact ⟨trivial,by omega,by omega⟩
def unqT (r : Bs × Nat × Nat) : VV:=.tup [.str r.1,.int .i64 r.2.1,.int .i64 r.2.2]
theorem unqGo_end {s : Bs} {f i : Nat} {out : Bs} (h : s.length≤i) : unqGo s f i out=([],s.length,10):=by
 cases f with
 | zero=>rfl
 | succ f=>simp only [unqGo,List.getElem?_eq_none h]
theorem p_Unquote (s : Bs) (hs : s.length≤10000000) : PV Tryz.prog G0 126 [.str s] (unqT (unquote s)):=by
 refine pv e126 (by simp) rfl rfl ?_
 simp only [go_sem,seval,c126]
 refine condO_split (fun h=>?_) (fun h=>?_)
 ·simp at h
  simp only [go_sem,seval]
  exact fin (by rfl) (by rw [h];rfl)
 have h0 : 0 < s.length:=by
  cases s with
  | nil=>simp at h
  | cons c s'=>simp
 have g : s.getD 0 0=s[0]:=by simp [List.getD_eq_getElem?_getD,h0]
 have hu : unquote s=if s[0].toNat=34 then unqGo s s.length 1 [] else ([],0,2):=by simp [unquote,h0]
 simp only [go_sem,seval,Int.toNat_zero,g]
 refine ⟨by omega,condO_split (fun h=>?_) (fun h=>?_)⟩
 ·simp only [go_sem,seval]
  refine fin (by rfl) ?_
  simp at h
  rw [hu,if_neg (by omega)]
  rfl
 simp at h
 rw [if_pos (by omega)] at hu
 simp only [go_sem,seval]
 refine ⟨by omega, ?_⟩
 refine wpV_loop_inv (fun m ρ σ=>∃ (i f : Nat) (v : VV) (out : Bs),m=s.length-i∧i≤s.length∧s.length≤f+i∧out.length≤i∧ρ.get 0=.str s∧ρ.get 5=v∧ρ.get 6=.int .i64 i∧BSl σ v out∧unquote s=unqGo s f i out) (n:=s.length-1) ?_
  ⟨1,s.length,_,[],rfl,by omega,by omega,by simp,rfl,rfl,rfl,.inr (.inr ⟨0,rfl,rfl⟩),hu⟩
 rintro m ρ σ ⟨i,f,v,out,rfl,hi,hf,hout,h0,h5,h6,hB,hR⟩
 simp only [go_sem,seval,h0,h5,h6]
 refine condO_split (fun h=>?_) (fun h=>?_)
 rotate_left
 ·simp at h
  simp only [go_sem,seval,h0,h5,h6]
  refine fin (by rfl) ?_
  rw [hR,unqGo_end (by omega)]
  rfl
 simp at h
 obtain ⟨f,rfl⟩ : ∃ k,f=k+1:=⟨f-1,by omega⟩
 have g : s.getD i 0=s[i]:=by simp [List.getD_eq_getElem?_getD,h]
 have e1 : IntKind.i64.wrap ((i : Int)+1)=((i+1 : Nat) : Int):=by rw [iw (by omega)];omega
 have e2 : IntKind.i64.wrap (((i+1 : Nat) : Int)+1)=((i+2 : Nat) : Int):=by rw [iw (by omega)];omega
 have gi : s[i]?=some s[i]:=by simp [h]
 simp only [unqGo,gi] at hR
 simp only [go_sem,seval,h0,h5,h6,Int.toNat_natCast,g]
 refine ⟨by omega,condO_split (fun hc=>?_) (fun hc=>?_)⟩
 ·simp only [go_sem,seval,h0,h5,h6,hB.conv,e1]
  refine fin (by rfl) ?_
  simp at hc
  rw [hR,if_pos (by omega)];rfl
 simp only [beq_eq_false_iff_ne,ne_eq] at hc
 rw [if_neg (by omega)] at hR
 simp only [go_sem,seval,h0,h5,h6,e1]
 refine condO_split (fun hc2=>?_) (fun hc2=>?_)
 ·simp only [go_sem,seval,h0,h5,h6]
  refine fin (by rfl) ?_
  simp at hc2
  rw [hR,if_pos (by omega)];rfl
 simp only [decide_eq_false_iff_not] at hc2
 rw [if_neg (by omega)] at hR
 simp only [go_sem,seval,h0,h5,h6,e1]
 refine condO_split (fun hc3=>?_) (fun hc3=>?_)
 ·simp at hc3
  rw [if_pos (by omega)] at hR
  simp only [go_sem,seval,h0,h5,h6,e1]
  refine hB.stepAppend (src_sl (c:=[s[i]])) (by simp only [List.length_cons,List.length_nil];omega) fun v' σ' hB' _=>?_
  simp only [go_sem,seval,h0,h5,h6,e1]
  refine ⟨s.length-(i+1),by omega,i+1,f,v',out++[s[i]], ?_⟩
  and_intros
  all_goals first | rfl | exact hB' | exact hR | omega | (simp only [List.length_append,List.length_cons,List.length_nil];omega)
 simp at hc3
 rw [if_neg (by omega)] at hR
 simp only [go_sem,seval,h0,h5,h6,e1]
 refine condO_split (fun hc4=>?_) (fun hc4=>?_)
 ·simp at hc4
  simp only [go_sem,seval,h0,h5,h6,e1]
  refine fin (by rfl) ?_
  have gn : s[i+1]?=none:=List.getElem?_eq_none (by omega)
  rw [hR,gn];rfl
 simp at hc4
 have h1 : i+1 < s.length:=by omega
 have g1 : s.getD (i+1) 0=s[i+1]:=by simp [List.getD_eq_getElem?_getD,h1]
 have gi1 : s[i+1]?=some s[i+1]:=by simp [h1]
 simp only [gi1] at hR
 simp only [go_sem,seval,h0,h5,h6,e1,Int.toNat_natCast,g1]
 refine ⟨by omega,condO_split (fun hc5=>?_) (fun hc5=>?_)⟩
 ·simp at hc5
  rw [if_pos (by omega)] at hR
  simp only [go_sem,seval,h0,h5,h6,e1,e2]
  (first | refine callO_pure (p_pair s (i+2) (by omega) (by omega)) ?_ | refine dpureO_of (p_pair s (i+2) (by omega) (by omega)) ?_ | refine dpureO_save (p_pair s (i+2) (by omega) (by omega)) ?_ | refine dcallO_pure (p_pair s (i+2) (by omega) (by omega)) (by simp only [go_sem,seval,h0,h5,h6,e1,e2]) ?_ | refine dcallO_pure (p_pair s (i+2) (by omega) (by omega)) ?_ ?_)<;>simp only [go_sem,seval,h0,h5,h6,e1,e2]
  have hok:=@pairV_ok s (i+2)
  generalize pairV s (i+2)=pv at hR hok
  obtain ⟨px,pn,pe⟩:=pv
  simp only at hR hok
  refine condO_split (fun hc6=>?_) (fun hc6=>?_)
  ·simp at hc6
   rw [if_neg (by omega)] at hR
   simp only [go_sem,seval,h0,h5,h6]
   refine fin (by rfl) ?_
   rw [hR];rfl
  ·simp at hc6
   rw [if_pos (by omega)] at hR
   obtain ⟨k1,k2,k3⟩:=hok (by omega)
   subst k1
   have hsrc : srcCells Tryz.prog σ 1 59 (.sl 1 [.int .u8 (px : Int)] true)=some (([UInt8.ofNat px] : Bs).length,([UInt8.ofNat px] : Bs).map byteCell):=by
    rw [cellN px k3];exact src_sl (c:=[UInt8.ofNat px])
   simp only [go_sem,seval,h0,h5,h6]
   refine hB.stepAppend hsrc (by simp only [List.length_cons,List.length_nil];omega) fun v' σ' hB' _=>?_
   simp only [go_sem,seval,h0,h5,h6]
   refine ⟨s.length-(i+4),by omega,i+4,f,v',out++[UInt8.ofNat px], ?_⟩
   and_intros
   all_goals first | rfl | exact hB' | exact hR | omega | (simp only [List.length_append,List.length_cons,List.length_nil];omega)
 ·simp at hc5
  rw [if_neg (by omega)] at hR
  simp only [go_sem,seval,h0,h5,h6,e1]
  refine ⟨by omega, ?_⟩
  simp only [go_sem,seval,Int.toNat_natCast,g1]
  (first | refine callO_pure (p_byLetter s[i+1]) ?_ | refine dpureO_of (p_byLetter s[i+1]) ?_ | refine dpureO_save (p_byLetter s[i+1]) ?_ | refine dcallO_pure (p_byLetter s[i+1]) (by simp only [go_sem,seval,h0,h5,h6,e1]) ?_ | refine dcallO_pure (p_byLetter s[i+1]) ?_ ?_)<;>simp only [go_sem,seval,h0,h5,h6,e1]
  cases hx : escOf s[i+1] with
  | none =>
   simp only [hx] at hR
   simp only [go_sem,seval,h0,h5,h6,hx]
   refine fin (by rfl) ?_
   rw [hR];rfl
  | some x =>
   simp only [hx] at hR
   simp only [go_sem,seval,h0,h5,h6,e1,e2,hx]
   refine hB.stepAppend (src_sl (c:=[x])) (by simp only [List.length_cons,List.length_nil];omega) fun v' σ' hB' _=>?_
   simp only [go_sem,seval,h0,h5,h6,e2]
   refine ⟨s.length-(i+2),by omega,i+2,f,v',out++[x], ?_⟩
   and_intros
   all_goals first | rfl | exact hB' | exact hR | omega | (simp only [List.length_append,List.length_cons,List.length_nil];omega)
end Go.V
namespace Go.V
open Go.Proofs
set_option maxRecDepth 100000
def faultV (e at_ : Int) : VV:=if e=0 then .nili else .ifc 135 (.ptr [.int .i64 at_,.ifc 31 (.int .i64 e)] 0)
theorem p_New (e a : Int) : PV Tryz.prog G0 47 [.int .i64 e,.int .i64 a] (faultV e a):=by
 refine pv e47 (by simp) rfl (by unfold faultV;split<;>rfl) ?_
 simp only [go_sem,seval,c47]
 refine condO_split (fun h=>?_) (fun h=>?_)
 ·simp at h
  simp only [go_sem,seval]
  exact fin (by unfold faultV;split<;>rfl) (by rw [faultV,if_pos h])
 ·simp at h
  simp only [go_sem,seval]
  refine ⟨_,3,rfl, ?_⟩
  rw [faultV,if_neg h]
  rfl
def signedV (u : Nat) (neg : Bool) : Int × Nat:=if neg then (if 9223372036854775808 < u then (0,4) else (-(u : Int),0)) else if 9223372036854775807 < u then (0,4) else (u,0)
theorem p_signed (u : Nat) (hu : u < 18446744073709551616) (b : Bool) : PV Tryz.prog G0 127 [.int .u64 u,.bool b] (.tup [.int .i64 (signedV u b).1,.int .i64 (signedV u b).2]):=by
 refine pv e127 (by simp) rfl rfl ?_
 simp only [go_sem,seval,c127]
 cases b with
 | true =>
  simp only [go_sem,seval]
  refine condO_split (fun h=>?_) (fun h=>?_)
  ·simp at h
   simp only [go_sem,seval]
   refine fin (by rfl) ?_
   simp only [signedV,if_true,Bool.false_eq_true,if_false]
   rw [if_pos (by omega)]
   rfl
  ·simp at h
   simp only [go_sem,seval]
   refine fin (by rfl) ?_
   rw [wi64,wu64]
   simp only [signedV,if_true]
   rw [if_neg (by omega)]
   simp only [VV.tup.injEq,List.cons.injEq,VV.int.injEq,true_and,and_true]
   refine ⟨by omega,rfl⟩
 | false =>
  simp only [go_sem,seval]
  refine condO_split (fun h=>?_) (fun h=>?_)
  ·simp at h
   simp only [go_sem,seval]
   refine fin (by rfl) ?_
   simp only [signedV,if_true,Bool.false_eq_true,if_false]
   rw [if_pos (by omega)]
   rfl
  ·simp at h
   simp only [go_sem,seval]
   refine fin (by rfl) ?_
   rw [iw (by omega)]
   simp only [signedV,Bool.false_eq_true,if_false]
   rw [if_neg (by omega)]
   rfl
end Go.V
namespace Go.V
variable {P : Program} {G : Nat→Option (List VV)}
theorem condO_mono {Q Q' : Out→Env→Store→Prop} {ρ : Env} {σ : Store} {v : VV} {a b : VCode} (hq : ∀ o ρ σ,Q o ρ σ→Q' o ρ σ) (h : condO P G v a b Q ρ σ) : condO P G v a b Q' ρ σ:=by
 cases v with
 | bool t =>
  cases t
  ·rw [condO_false] at h ⊢;exact wpV_mono b hq _ _ h
  ·rw [condO_true] at h ⊢;exact wpV_mono a hq _ _ h
 | _=>exact h
theorem cut1 {K M : Env→Store→Prop} {Q : Out→Env→Store→Prop} (h : ∀ ρ σ,M ρ σ→K ρ σ) : ∀ o ρ σ,thenV M Q o ρ σ→thenV K Q o ρ σ:=thenV_mono h fun _ _ _ h=>h
theorem wpV_seq_cut {a b : VCode} {Q : Out→Env→Store→Prop} {ρ : Env} {σ : Store} (M : Env→Store→Prop) (h : wpV P G a (thenV M Q) ρ σ) (hm : ∀ ρ σ,M ρ σ→wpV P G b Q ρ σ) : wpV P G (.seq a b) Q ρ σ :=
 wpV_mono a (cut1 hm) ρ σ h
end Go.V
namespace Go.V
open Go.Proofs
set_option maxRecDepth 100000
def digB (c : UInt8) : Bool:=decide (48≤c.toNat) && decide (c.toNat≤57)
def numVal (b : Bs) : Nat:=b.foldl (fun a c=>10*a+(c.toNat-48)) 0
def isNeg (s : Bs) : Bool:=(s.head?.map (fun c=>c.toNat == 45)).getD false
def body (s : Bs) : Bs:=if isNeg s then s.drop 1 else s
def wordOK (s : Bs) : Bool:=!(body s).isEmpty && !(((body s).head?.map (fun c=>c.toNat == 48)).getD false && decide (1 < s.length)) && (body s).all digB
def parseNum (s : Bs) : Int × Nat:=if wordOK s then (if isNeg s then (if 9223372036854775808 < numVal (body s) then (0,4) else (-(numVal (body s) : Int),0)) else if 9223372036854775807 < numVal (body s) then (0,4) else (numVal (body s),0)) else (0,2)
theorem body_drop (s : Bs) : body s=s.drop (if isNeg s then 1 else 0):=by unfold body;split<;>simp
end Go.V
namespace Go.V
open Go.Proofs
set_option maxRecDepth 100000
theorem numVal_snoc (p : Bs) (c : UInt8) : numVal (p++[c])=10*numVal p+(c.toNat-48):=by simp [numVal]
end Go.V
namespace Go.V
open Go.Proofs
set_option maxRecDepth 100000
theorem p_Parse (s : Bs) (hs : s.length≤10000000) : PV Tryz.prog G0 81 [.str s] (.tup [.int .i64 (parseNum s).1,.int .i64 (parseNum s).2]):=by
 refine pv e81 (by simp) rfl rfl ?_
 simp only [go_sem,seval,c81]
 have hb:=body_drop s
 have hk0 : (if isNeg s then 1 else 0 : Nat)≤s.length:=by
  split
  ·rename_i h
   cases s with
   | nil=>simp [isNeg] at h
   | cons c r=>simp
  ·omega
 have hkn : isNeg s=true↔(if isNeg s then 1 else 0 : Nat)=1:=by split<;>simp_all
 have hneg : ∀ h : 0 < s.length,isNeg s=(s[0].toNat == 45):=by
  intro h
  cases s with
  | nil=>simp at h
  | cons c r=>simp [isNeg]
 generalize hk : (if isNeg s then 1 else 0 : Nat)=k at hb hk0 hkn
 have hk1 : k≤1:=by subst hk;split<;>omega
 have hbl : (body s).length=s.length-k:=by rw [hb];simp
 have hgb : ∀ i (h : i < s.length),k≤i→(body s)[i-k]?=some s[i]:=by
  intro i h hki
  rw [hb,List.getElem?_drop,show k+(i-k)=i by omega];simp [h]
 have hbad : wordOK s=false→parseNum s=(0,2):=by intro h;unfold parseNum;rw [if_neg (by simp [h])]
 have hnd : ∀ i (h : i < s.length),k≤i→digB s[i]=false→wordOK s=false:=by
  intro i h hki hd
  have hin : s[i] ∈ body s:=List.mem_iff_getElem?.2 ⟨_,hgb i h hki⟩
  have : (body s).all digB=false:=by rw [List.all_eq_false];exact ⟨_,hin,by simp [hd]⟩
  unfold wordOK;rw [this];simp
 have hlead : ∀ (h : k < s.length),s[k].toNat=48→1 < s.length→wordOK s=false:=by
  intro h h48 h1
  have:=hgb k h (Nat.le_refl _)
  rw [Nat.sub_self] at this
  unfold wordOK
  rw [List.head?_eq_getElem?,this]
  simp [h48,h1]
 refine wpV_loop_inv (fun m ρ σ=>∃ (i u : Nat) (over : Bool),m=s.length-i∧i≤s.length∧ρ.get 0=.str s∧ρ.get 4=.bool (isNeg s && decide (0 < i))∧ρ.get 5=.int .i64 ((i-k : Nat) : Int)∧ρ.get 6=.bool over∧ρ.get 7=.int .u64 u∧ρ.get 12=.int .i64 s.length∧ρ.get 13=.int .i64 i ∧
   ((body s).take (i-k)).all digB=true∧(1≤i-k→∀ h : k < s.length,s[k].toNat=48→¬ 1 < s.length)∧over=decide (18446744073709551616≤numVal ((body s).take (i-k)))∧(over=false→u=numVal ((body s).take (i-k)))∧u < 18446744073709551616) (n:=s.length) ?_
  ⟨0,0,false,rfl,by omega,rfl,by simp only [go_sem,seval],by simp only [go_sem,seval,Nat.zero_sub],rfl,rfl,rfl,rfl,by simp,by omega,by simp [numVal],by simp [numVal],by omega⟩
 rintro m ρ σ ⟨i,u,over,rfl,hi,h0,h4,h5,h6,h7,h12,h13,hall,hz,hover,hu,hu64⟩
 simp only [go_sem,seval,h0,h4,h5,h6,h7,h12,h13]
 refine condO_split (fun hc=>?_) (fun hc=>?_)
 ·simp at hc
  have g : s.getD i 0=s[i]:=by simp [List.getD_eq_getElem?_getD,hc]
  have e1 : IntKind.i64.wrap ((i : Int)+1)=((i+1 : Nat) : Int):=by rw [iw (by omega)];omega
  have hcb:=s[i].toNat_lt
  simp only [go_sem,seval,h0,h4,h5,h6,h7,h12,h13,Int.toNat_natCast,g]
  refine ⟨by omega, ?_⟩
  have e5 : k≤i→IntKind.i64.wrap (((i-k : Nat) : Int)+1)=((i+1-k : Nat) : Int):=by intro h;rw [iw (by omega)];omega
  have hdig : ∀ d : Nat,s[i].toNat=48+d→d≤9→k≤i→numVal ((body s).take (i+1-k))=10*numVal ((body s).take (i-k))+d∧((body s).take (i+1-k)).all digB=true:=by
   intro d hd hd9 hki
   have : (body s).take (i+1-k)=(body s).take (i-k)++[s[i]]:=by
    rw [show i+1-k=(i-k)+1 by omega,List.take_add_one,hgb i hc hki];rfl
   rw [this,numVal_snoc,hd,List.all_append,hall]
   refine ⟨by omega, ?_⟩
   simp [digB,hd];omega
  have hge : s[i].toNat≠45∨i≠0→k≤i:=by
   intro h
   rcases Nat.lt_or_ge i k with h' | h'
   ·exfalso
    have hk1' : k=1:=by omega
    have hi0 : i=0:=by omega
    subst hi0
    have h1:=hkn.2 hk1'
    rw [hneg hc] at h1
    simp at h1
    omega
   ·exact h'
  have e7 : ∀ d : Nat,s[i].toNat=48+d→d≤9→IntKind.u64.wrap (IntKind.u8.wrap ((s[i].toNat : Int)-48))=(d : Int):=by
   intro d hd hd9;rw [bw (by omega),uw (by omega)];omega
  have e8 : ∀ d : Nat,d≤9→IntKind.u64.wrap (Int.tdiv (IntKind.u64.wrap (18446744073709551615-(d : Int))) 10)=(((18446744073709551615-d) / 10 : Nat) : Int):=by
   intro d hd9
   rw [uw (n:=18446744073709551615-(d : Int)) (by omega),show (18446744073709551615-(d : Int))=((18446744073709551615-d : Nat) : Int) by omega,show (10 : Int)=((10 : Nat) : Int) from rfl,tdivN,uw (by omega)]
  have e9 : ∀ d : Nat,d≤9→IntKind.u64.wrap (IntKind.u64.wrap (10*(u : Int))+(d : Int))=(((10*u+d) % 18446744073709551616 : Nat) : Int):=by
   intro d hd9;rw [wu64,wu64];omega
  have below : (isNeg s && decide (0 < i))=(isNeg s && decide (0 < i+1))∨(i=0∧isNeg s=true):=by
   by_cases h : i=0
   ·cases hn : isNeg s
    ·left;simp
    ·right;exact ⟨h,rfl⟩
   ·left;simp;omega
  have bad : k≤i→digB s[i]=false→∀ {σ : Store},∃ y n,CRes.ret (.tup [.int .i64 0,.int .i64 2])=CRes.ret y∧fz n σ y=some (.tup [.int .i64 (parseNum s).1,.int .i64 (parseNum s).2]):=by
   intro hki hd σ
   exact fin (by rfl) (by rw [hbad (hnd i hc hki hd)];rfl)
  refine wantO_split (fun hm=>?_) (fun hm=>?_)
  ·simp only [go_sem,seval,h0,h4,h5,h6,h7,h12,h13,hm]
   simp at hm
   refine condO_split (fun hz0=>?_) (fun hz0=>?_)
   ·simp at hz0
    subst hz0
    have hn : isNeg s=true:=by rw [hneg hc];simp;omega
    have hk1' : k=1:=hkn.1 hn
    simp only [go_sem,seval,h0,h4,h5,h6,h7,h12,h13,e1]
    refine ⟨s.length-1,by omega,1,u,over, ?_⟩
    subst hk1'
    and_intros
    all_goals first | rfl | omega | exact hover | exact hu | (rw [hn];rfl) | (simp;done) | skip
    all_goals trace_state
   ·simp at hz0
    have h48 : ((s[i].toNat : Int) == 48)=false:=by simp;omega
    have h49 : decide (49≤(s[i].toNat : Int))=false:=by simp;omega
    simp only [go_sem,seval,h0,h4,h5,h6,h7,h12,h13,h48,h49]
    exact bad (hge (by omega)) (by simp [digB];omega)
  ·have hki : k≤i:=hge (by simp at hm;omega)
   simp only [go_sem,seval,h0,h4,h5,h6,h7,h12,h13,hm]
   refine wantO_split (fun h8=>?_) (fun h8=>?_)
   ·have h8' : s[i].toNat=48:=by simp at h8;omega
    simp only [go_sem,seval,h0,h4,h5,h6,h7,h12,h13,hm,h8]
    refine wantO_split (fun hq=>?_) (fun hq=>?_)
    ·have hik : i=k:=by simp at hq;omega
     simp only [go_sem,seval,h0,h4,h5,h6,h7,h12,h13,hm,h8,hq]
     refine condO_split (fun hl=>?_) (fun hl=>?_)
     ·simp only [go_sem,seval,h0,h4]
      refine fin (by rfl) ?_
      subst hik
      rw [hbad (hlead hc h8' (by simp at hl;omega))];rfl
     ·have hl' : ¬ 1 < s.length:=by simp at hl;omega
      obtain ⟨d,hd⟩ : ∃ d : Nat,s[i].toNat=48+d:=⟨s[i].toNat-48,by omega⟩
      have hd9 : d≤9:=by omega
      have hlz : 1≤i+1-k→∀ h : k < s.length,s[k].toNat=48→¬ 1 < s.length:=by
       intro _ h h48
       rcases Nat.eq_or_lt_of_le hki with hik | hik
       ·exact hl'
       ·exact hz (by omega) h h48
      obtain ⟨hA,hB⟩:=hdig _ hd hd9 hki
      have f7:=e7 _ hd hd9
      have f8:=e8 _ hd9
      have f9:=e9 _ hd9
      have f5:=e5 hki
      have hbel : (isNeg s && decide (0 < i))=(isNeg s && decide (0 < i+1)):=by
       rcases below with h | ⟨h1,h2⟩
       ·exact h
       ·have:=hkn.1 h2;omega
      cases over with
      | true =>
       simp only [go_sem,seval,h0,h4,h5,h6,h7,h12,h13,f5,f7,f8,f9,e1,hm,h8,hq]
       refine ⟨s.length-(i+1),by omega,i+1,(10*u+d) % 18446744073709551616,true, ?_⟩
       have o1 : true=decide (18446744073709551616≤numVal ((body s).take (i+1-k))):=by
        have:=of_decide_eq_true hover.symm
        rw [hA];symm;rw [decide_eq_true_eq];omega
       and_intros
       all_goals first | rfl | exact hB | exact hlz | exact o1 | (intro h;cases h) | omega | rw [hbel]
      | false =>
       have hv:=hu rfl
       have hv64:=of_decide_eq_false hover.symm
       simp only [go_sem,seval,h0,h4,h5,h6,h7,h12,h13,f5,f7,f8,f9,e1,hm,h8,hq]
       refine ⟨s.length-(i+1),by omega,i+1,(10*u+d) % 18446744073709551616,decide (((18446744073709551615-d) / 10 : Nat) < (u : Int)), ?_⟩
       have o1 : decide ((((18446744073709551615-d) / 10 : Nat) : Int) < (u : Int))=decide (18446744073709551616≤numVal ((body s).take (i+1-k))):=by
        rw [hA];rw [decide_eq_decide];omega
       have o2 : decide ((((18446744073709551615-d) / 10 : Nat) : Int) < (u : Int))=false→(10*u+d) % 18446744073709551616=numVal ((body s).take (i+1-k)):=by
        intro h;rw [hA];rw [decide_eq_false_iff_not] at h;omega
       and_intros
       all_goals first | rfl | exact hB | exact hlz | exact o1 | exact o2 | omega | rw [hbel]
    ·have hik : i≠k:=by simp at hq;omega
     simp only [go_sem,seval,h0,h4,h5,h6,h7,h12,h13,hm,h8,hq]
     obtain ⟨d,hd⟩ : ∃ d : Nat,s[i].toNat=48+d:=⟨s[i].toNat-48,by omega⟩
     have hd9 : d≤9:=by omega
     have hlz : 1≤i+1-k→∀ h : k < s.length,s[k].toNat=48→¬ 1 < s.length:=by
      intro _ h h48
      rcases Nat.eq_or_lt_of_le hki with hik | hik
      ·exact absurd hik.symm ‹_›
      ·exact hz (by omega) h h48
     obtain ⟨hA,hB⟩:=hdig _ hd hd9 hki
     have f7:=e7 _ hd hd9
     have f8:=e8 _ hd9
     have f9:=e9 _ hd9
     have f5:=e5 hki
     have hbel : (isNeg s && decide (0 < i))=(isNeg s && decide (0 < i+1)):=by
      rcases below with h | ⟨h1,h2⟩
      ·exact h
      ·have:=hkn.1 h2;omega
     cases over with
     | true =>
      simp only [go_sem,seval,h0,h4,h5,h6,h7,h12,h13,f5,f7,f8,f9,e1,hm,h8,hq]
      refine ⟨s.length-(i+1),by omega,i+1,(10*u+d) % 18446744073709551616,true, ?_⟩
      have o1 : true=decide (18446744073709551616≤numVal ((body s).take (i+1-k))):=by
       have:=of_decide_eq_true hover.symm
       rw [hA];symm;rw [decide_eq_true_eq];omega
      and_intros
      all_goals first | rfl | exact hB | exact hlz | exact o1 | (intro h;cases h) | omega | rw [hbel]
     | false =>
      have hv:=hu rfl
      have hv64:=of_decide_eq_false hover.symm
      simp only [go_sem,seval,h0,h4,h5,h6,h7,h12,h13,f5,f7,f8,f9,e1,hm,h8,hq]
      refine ⟨s.length-(i+1),by omega,i+1,(10*u+d) % 18446744073709551616,decide (((18446744073709551615-d) / 10 : Nat) < (u : Int)), ?_⟩
      have o1 : decide ((((18446744073709551615-d) / 10 : Nat) : Int) < (u : Int))=decide (18446744073709551616≤numVal ((body s).take (i+1-k))):=by
       rw [hA];rw [decide_eq_decide];omega
      have o2 : decide ((((18446744073709551615-d) / 10 : Nat) : Int) < (u : Int))=false→(10*u+d) % 18446744073709551616=numVal ((body s).take (i+1-k)):=by
       intro h;rw [hA];rw [decide_eq_false_iff_not] at h;omega
      and_intros
      all_goals first | rfl | exact hB | exact hlz | exact o1 | exact o2 | omega | rw [hbel]
   ·have h8' : s[i].toNat≠48:=by simp at h8;omega
    simp only [go_sem,seval,h0,h4,h5,h6,h7,h12,h13,hm,h8]
    refine wantO_split (fun h9=>?_) (fun h9=>?_)
    ·simp only [go_sem,seval,h0,h4,h5,h6,h7,h12,h13,hm,h8,h9]
     refine condO_split (fun h57=>?_) (fun h57=>?_)
     ·have h9' : 49≤s[i].toNat:=by simp at h9;omega
      have h57' : s[i].toNat≤57:=by simp at h57;omega
      obtain ⟨d,hd⟩ : ∃ d : Nat,s[i].toNat=48+d:=⟨s[i].toNat-48,by omega⟩
      have hd9 : d≤9:=by omega
      have hlz : 1≤i+1-k→∀ h : k < s.length,s[k].toNat=48→¬ 1 < s.length:=by
       intro _ h h48
       rcases Nat.eq_or_lt_of_le hki with hik | hik
       ·subst hik;exact absurd h48 h8'
       ·exact hz (by omega) h h48
      obtain ⟨hA,hB⟩:=hdig _ hd hd9 hki
      have f7:=e7 _ hd hd9
      have f8:=e8 _ hd9
      have f9:=e9 _ hd9
      have f5:=e5 hki
      have hbel : (isNeg s && decide (0 < i))=(isNeg s && decide (0 < i+1)):=by
       rcases below with h | ⟨h1,h2⟩
       ·exact h
       ·have:=hkn.1 h2;omega
      cases over with
      | true =>
       simp only [go_sem,seval,h0,h4,h5,h6,h7,h12,h13,f5,f7,f8,f9,e1,hm,h8,h9,h57]
       refine ⟨s.length-(i+1),by omega,i+1,(10*u+d) % 18446744073709551616,true, ?_⟩
       have o1 : true=decide (18446744073709551616≤numVal ((body s).take (i+1-k))):=by
        have:=of_decide_eq_true hover.symm
        rw [hA];symm;rw [decide_eq_true_eq];omega
       and_intros
       all_goals first | rfl | exact hB | exact hlz | exact o1 | (intro h;cases h) | omega | rw [hbel]
      | false =>
       have hv:=hu rfl
       have hv64:=of_decide_eq_false hover.symm
       simp only [go_sem,seval,h0,h4,h5,h6,h7,h12,h13,f5,f7,f8,f9,e1,hm,h8,h9,h57]
       refine ⟨s.length-(i+1),by omega,i+1,(10*u+d) % 18446744073709551616,decide (((18446744073709551615-d) / 10 : Nat) < (u : Int)), ?_⟩
       have o1 : decide ((((18446744073709551615-d) / 10 : Nat) : Int) < (u : Int))=decide (18446744073709551616≤numVal ((body s).take (i+1-k))):=by
        rw [hA];rw [decide_eq_decide];omega
       have o2 : decide ((((18446744073709551615-d) / 10 : Nat) : Int) < (u : Int))=false→(10*u+d) % 18446744073709551616=numVal ((body s).take (i+1-k)):=by
        intro h;rw [hA];rw [decide_eq_false_iff_not] at h;omega
       and_intros
       all_goals first | rfl | exact hB | exact hlz | exact o1 | exact o2 | omega | rw [hbel]
     ·simp only [go_sem,seval,h0,h4]
      exact bad hki (by simp at h57;simp [digB];omega)
    ·simp only [go_sem,seval,h0,h4,h5,h6,h7,h12,h13,hm,h8,h9]
     exact bad hki (by simp at h9;simp [digB];omega)
 ·simp at hc
  have hik : i-k=s.length-k:=by omega
  have htk : (body s).take (i-k)=body s:=List.take_of_length_le (by omega)
  rw [htk] at hall hover hu
  simp only [go_sem,seval,h0,h4,h5,h6,h7,h12,h13]
  refine condO_split (fun hz0=>?_) (fun hz0=>?_)
  ·simp at hz0
   simp only [go_sem,seval,h0,h4]
   refine fin (by rfl) ?_
   have : body s=[]:=List.eq_nil_of_length_eq_zero (by omega)
   rw [hbad (by unfold wordOK;rw [this];rfl)];rfl
  ·simp at hz0
   have hkl : k < s.length:=by omega
   have hok : wordOK s=true:=by
    have hne : (body s).isEmpty=false:=by
     cases hbs : body s with
     | nil=>rw [hbs] at hbl;simp at hbl;omega
     | cons c r=>rfl
    have hg:=hgb k hkl (Nat.le_refl _)
    rw [Nat.sub_self] at hg
    unfold wordOK
    rw [hne,hall,List.head?_eq_getElem?,hg]
    have:=hz (by omega) hkl
    by_cases h48 : s[k].toNat=48
    ·have:=this h48;simp [h48,this]
    ·simp [h48]
   have hP : parseNum s=if isNeg s then (if 9223372036854775808 < numVal (body s) then (0,4) else (-(numVal (body s) : Int),0)) else if 9223372036854775807 < numVal (body s) then (0,4) else (numVal (body s),0):=by
    unfold parseNum;rw [if_pos hok]
   have hb2 : (isNeg s && decide (0 < i))=isNeg s:=by simp;omega
   cases over with
   | true =>
    have ho:=of_decide_eq_true hover.symm
    simp only [go_sem,seval,h0,h4,h6]
    refine fin (by rfl) ?_
    rw [hP]
    split
    ·rw [if_pos (by omega)];rfl
    ·rw [if_pos (by omega)];rfl
   | false =>
    have hv:=hu rfl
    simp only [go_sem,seval,h0,h4,h6,h7,hb2]
    (first | refine callO_pure (p_signed u hu64 (isNeg s)) ?_ | refine dpureO_of (p_signed u hu64 (isNeg s)) ?_ | refine dpureO_save (p_signed u hu64 (isNeg s)) ?_ | refine dcallO_pure (p_signed u hu64 (isNeg s)) (by simp only [go_sem,seval,h0,h4]) ?_ | refine dcallO_pure (p_signed u hu64 (isNeg s)) ?_ ?_)<;>simp only [go_sem,seval,h0,h4]
    refine fin (by rfl) ?_
    rw [hP,← hv]
    rfl
end Go.V
namespace Go.V
open Go.Proofs
set_option maxRecDepth 100000
def tokV (k a e n : Int) (t : Bs) : VV:=.agg [.int .i64 k,.int .i64 a,.int .i64 e,.int .i64 n,.str t]
abbrev tok0 : VV:=tokV 0 0 0 0 []
def hasAt (s : Bs) (p : Nat) (x : Bs) : Bool:=decide (p+x.length≤s.length) && ((s.drop p).take x.length == x)
def signAt (s : Bs) (p : Nat) : Option Bs:=signTexts.find? (hasAt s p)
theorem signs_short : ∀ x ∈ signTexts,x.length≤2:=by decide
theorem sg_G : G0 1=some (signTexts.map .str):=rfl
theorem sg_len : signTexts.length=23:=rfl
theorem sg_take : (signTexts.map VV.str).take 23=signTexts.map .str:=rfl
theorem sg_get {i : Nat} (h : i < 23) : (signTexts.map VV.str).getD i .undef=.str (signTexts[i]'(by rw [sg_len];exact h)):=by
 have h' : i < signTexts.length:=by rw [sg_len];exact h
 simp [List.getD_eq_getElem?_getD,h']
theorem p_sign (s : Bs) (p : Nat) (hp : p≤s.length) (hs : s.length≤10000000) : PV Tryz.prog G0 82 [.str s,.int .i64 p] (match signAt s p with
  | some x=>.tup [tokV 1 p (p+x.length : Nat) 0 x,.nili]
  | none=>.tup [tok0,faultV 2 p]):=by
 refine pv e82 (by simp) rfl (by split<;>rfl) ?_
 simp only [go_sem,seval,c82,sg_G,List.length_map,sg_len,sg_take]
 refine wpV_loop_inv (fun m ρ σ=>∃ (i : Nat),m=23-i∧i≤23∧ρ.get 0=.str s∧ρ.get 1=.int .i64 p∧ρ.get 4=.mptr 0 0∧ρ.get 9=.agg (signTexts.map .str)∧ρ.get 10=.int .i64 i ∧
   σ=[.own [.int .i64 0,.int .i64 0,.int .i64 0,.int .i64 0,.str []]]∧signAt s p=(signTexts.drop i).find? (hasAt s p)) (n:=23) ?_ ⟨0,rfl,by omega,rfl,rfl,rfl,rfl,rfl,rfl,rfl⟩
 rintro m ρ σ ⟨i,rfl,hi,h0,h1,h4,h9,h10,rfl,hf⟩
 simp only [go_sem,seval,h0,h1,h4,h9,h10]
 refine condO_split (fun hc=>?_) (fun hc=>?_)
 ·simp at hc
  have hc' : i < 23:=by omega
  have hlt : i < signTexts.length:=by rw [sg_len];exact hc'
  have hx2:=signs_short _ (List.getElem_mem hlt)
  have hg:=sg_get hc'
  have hd : signTexts.drop i=signTexts[i]::signTexts.drop (i+1):=List.drop_eq_getElem_cons hlt
  rw [hd] at hf
  generalize signTexts[i]=x at hx2 hg hf
  have e1 : IntKind.i64.wrap ((p : Int)+(x.length : Int))=((p+x.length : Nat) : Int):=by rw [iw (by omega)];omega
  have e2 : IntKind.i64.wrap ((i : Int)+1)=((i+1 : Nat) : Int):=by rw [iw (by omega)];omega
  simp only [go_sem,seval,h0,h1,h4,h9,h10,Int.toNat_natCast,Nat.mul_one,hg,List.length_map,sg_len,e1]
  refine ⟨by omega,wantO_split (fun hl=>?_) (fun hl=>?_)⟩
  ·have hl' : p+x.length≤s.length:=by simp at hl;omega
   have e3 : p+x.length-p=x.length:=by omega
   simp only [go_sem,seval,hl,h0,h1,h4,h9,h10,Int.toNat_natCast,e1,e3]
   refine ⟨by omega,condO_split (fun he=>?_) (fun he=>?_)⟩
   ·have hh : hasAt s p x=true:=by simp only [hasAt,he,Bool.and_true,decide_eq_true_eq];omega
    rw [List.find?_cons_of_pos hh] at hf
    simp only [go_sem,seval,h0,h1,h4,h9,h10]
    refine fin (by rw [hf];rfl) ?_
    rw [hf]
    rfl
   ·have hh : ¬ hasAt s p x=true:=by simp [hasAt,he]
    rw [List.find?_cons_of_neg hh] at hf
    simp only [go_sem,seval,h0,h1,h4,h9,h10,e2]
    refine ⟨23-(i+1),by omega,i+1, ?_⟩
    and_intros
    all_goals first | rfl | exact hf | omega
  ·have hl' : ¬ p+x.length≤s.length:=by simp at hl;omega
   have hh : ¬ hasAt s p x=true:=by simp [hasAt];omega
   rw [List.find?_cons_of_neg hh] at hf
   simp only [go_sem,seval,hl,h0,h1,h4,h9,h10,e2]
   refine ⟨23-(i+1),by omega,i+1, ?_⟩
   and_intros
   all_goals first | rfl | exact hf | omega
 ·simp at hc
  have : signTexts.drop i=[]:=List.drop_eq_nil_of_le (by rw [sg_len];omega)
  rw [this] at hf
  simp only [go_sem,seval,h0,h1,h4,h9,h10]
  (first | refine callO_pure (p_New 2 p) ?_ | refine dpureO_of (p_New 2 p) ?_ | refine dpureO_save (p_New 2 p) ?_ | refine dcallO_pure (p_New 2 p) (by simp only [go_sem,seval,h0,h1,h4]) ?_ | refine dcallO_pure (p_New 2 p) ?_ ?_)<;>simp only [go_sem,seval,h0,h1,h4]
  refine fin (by rw [hf];rfl) ?_
  rw [hf]
  rfl
end Go.V
namespace Go.V
open Go.Proofs
set_option maxRecDepth 100000
theorem pairV_le {s : Bs} {i : Nat} (h : i≤s.length) : (pairV s i).2.1≤s.length:=by
 unfold pairV
 cases ha : s[i]? with
 | none=>exact Nat.le_refl _
 | some a =>
  simp only
  cases hexval a with
  | none=>exact h
  | some x =>
   simp only
   cases hb : s[i+1]? with
   | none=>exact Nat.le_refl _
   | some b =>
    have:=(List.getElem?_eq_some_iff.1 hb).1
    simp only
    cases hexval b with
    | none=>simp only;omega
    | some y=>simp only;omega
theorem unqGo_le {s : Bs} : ∀ (f i : Nat) (out : Bs),i≤s.length→(unqGo s f i out).2.1≤s.length
 | 0,i,out,h=>Nat.le_refl _
 | f+1,i,out,h=>by
  unfold unqGo
  cases hc : s[i]? with
  | none=>exact Nat.le_refl _
  | some c =>
   have h1:=(List.getElem?_eq_some_iff.1 hc).1
   simp only
   split
   ·exact h1
   split
   ·exact h
   split
   ·exact unqGo_le f _ _ h1
   cases hd : s[i+1]? with
   | none=>exact Nat.le_refl _
   | some d =>
    have h2:=(List.getElem?_eq_some_iff.1 hd).1
    simp only
    split
    ·split
     ·rename_i hp
      exact unqGo_le f _ _ (pairV_ok hp).2.1
     ·exact pairV_le h2
    ·cases escOf d with
     | none=>simp only;omega
     | some x=>exact unqGo_le f _ _ h2
theorem unquote_le (s : Bs) : (unquote s).2.1≤s.length:=by
 unfold unquote
 split
 ·exact Nat.zero_le _
 ·rename_i c hc
  have:=(List.getElem?_eq_some_iff.1 hc).1
  split
  ·exact unqGo_le _ _ _ this
  ·exact Nat.zero_le _
def textV (s : Bs) (p : Nat) : VV:=if (unquote (s.drop p)).2.2=0 then .tup [tokV 4 p (p+(unquote (s.drop p)).2.1 : Nat) 0 (unquote (s.drop p)).1,.nili] else .tup [tok0,faultV (unquote (s.drop p)).2.2 (p+(unquote (s.drop p)).2.1 : Nat)]
theorem faultV_pure (e a : Int) : (faultV e a).isPure=true:=by unfold faultV;split<;>rfl
theorem p_text (s : Bs) (p : Nat) (hp : p≤s.length) (hs : s.length≤10000000) : PV Tryz.prog G0 78 [.str s,.int .i64 p] (textV s p):=by
 have hpu : (textV s p).isPure=true:=by
  unfold textV;split
  ·rfl
  ·simp only [VV.isPure,VV.arePure,faultV_pure,tokV];rfl
 refine pv e78 (by simp) rfl hpu ?_
 simp only [go_sem,seval,c78,Int.toNat_natCast]
 have hl : (s.drop p).take (s.length-p)=s.drop p:=List.take_of_length_le (by simp)
 have hu:=p_Unquote (s.drop p) (by simp;omega)
 have hle:=unquote_le (s.drop p)
 rw [List.length_drop] at hle
 refine ⟨by omega, ?_⟩
 rw [hl]
 refine callO_pure hu ?_
 have hT : textV s p=if (unquote (s.drop p)).2.2=0 then .tup [tokV 4 p (p+(unquote (s.drop p)).2.1 : Nat) 0 (unquote (s.drop p)).1,.nili] else .tup [tok0,faultV (unquote (s.drop p)).2.2 (p+(unquote (s.drop p)).2.1 : Nat)]:=rfl
 generalize unquote (s.drop p)=r at hT hle
 obtain ⟨x,n,e⟩:=r
 simp only at hT hle
 have e1 : IntKind.i64.wrap ((p : Int)+n)=((p+n : Nat) : Int):=by rw [iw (by omega)];omega
 simp only [go_sem,seval,unqT,e1]
 refine condO_split (fun h=>?_) (fun h=>?_)
 ·have he : ¬ e=0:=by simp at h;omega
  simp only [go_sem,seval,e1]
  (first | refine callO_pure (p_New (e : Int) ((p+n : Nat) : Int)) ?_ | refine dpureO_of (p_New (e : Int) ((p+n : Nat) : Int)) ?_ | refine dpureO_save (p_New (e : Int) ((p+n : Nat) : Int)) ?_ | refine dcallO_pure (p_New (e : Int) ((p+n : Nat) : Int)) (by simp only [go_sem,seval]) ?_ | refine dcallO_pure (p_New (e : Int) ((p+n : Nat) : Int)) ?_ ?_)<;>simp only [go_sem,seval]
  refine fin hpu ?_
  rw [hT,if_neg he];rfl
 ·have he : e=0:=by simp at h;omega
  simp only [go_sem,seval,e1]
  refine fin hpu ?_
  rw [hT,if_pos he];rfl
end Go.V
