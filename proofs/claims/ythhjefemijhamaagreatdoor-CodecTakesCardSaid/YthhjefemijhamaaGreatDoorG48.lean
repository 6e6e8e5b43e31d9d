/- Texts F102. -/
import Derived.Test.YthhjefemijhamaaGreatDoorG16
import Derived.Test.YthhjefemijhamaaGreatDoorG17
set_option linter.unusedVariables false
set_option linter.unusedSimpArgs false
namespace Go.V
open Go.Proofs
set_option maxRecDepth 100000
theorem Pj (s : Bs) (p : Nat) (hp : p < s.length) (hs : s.length≤10000000) : PV Tryz.prog G0 88 [.str s,.int .i64 p]
  (if (parseNum ((s.drop p).take (aQ dJ s (p+1)-p))).2=0 then .tup [dW 3 p (aQ dJ s (p+1) : Nat) (parseNum ((s.drop p).take (aQ dJ s (p+1)-p))).1 [],.int .i64 0,.int .i64 0] else .tup [oU,.int .i64 p,.int .i64 (parseNum ((s.drop p).take (aQ dJ s (p+1)-p))).2]):=by
 refine pv e88 (by simp) rfl (by split<;>rfl) ?_
 have e1 : IntKind.i64.wrap ((p : Int)+1)=((p+1 : Nat) : Int):=by rw [iw (by omega)];omega
 simp only [go_sem,seval,c88,e1]
 refine bY (M:=fun ρ σ=>ρ.get 0=.str s∧ρ.get 1=.int .i64 p∧ρ.get 4=.mptr 0 0∧ρ.get 7=.int .i64 (aQ dJ s (p+1) : Nat)∧σ=[.own [.int .i64 0,.int .i64 0,.int .i64 0,.int .i64 0,.str []]]) ?_ ?_
 ·rintro ρ σ ⟨h0,h1,h4,h7,rfl⟩
  have hre : aQ dJ s (p+1)≤s.length:=jH hp
  have hrg : p+1≤aQ dJ s (p+1):=oZ
  generalize aQ dJ s (p+1)=q at h7 hre hrg ⊢
  simp only [go_sem,seval,h0,h1,h4,h7,Int.toNat_natCast]
  refine ⟨by omega, ?_⟩
  have hxl : ((s.drop p).take (q-p)).length≤10000000:=by rw [List.length_take,List.length_drop];omega
  generalize (s.drop p).take (q-p)=x at hxl ⊢
  refine ah (TS x hxl) ?_<;>simp only [go_sem,seval,h0,h1,h4,h7]
  refine aY (fun he=>?_) (fun he=>?_)
  ·have he' : ¬ (parseNum x).2=0:=by simp at he;omega
   simp only [go_sem,seval,h0,h1,h4,h7]
   rw [if_neg he']
   exact fin (by rfl) rfl
  ·have he' : (parseNum x).2=0:=by simp at he;omega
   simp only [go_sem,seval,h0,h1,h4,h7]
   rw [if_pos he']
   exact fin (by rfl) rfl
 ·refine aG (fun m ρ σ=>∃ i : Nat,m=s.length-i∧i≤s.length∧ρ.get 0=.str s∧ρ.get 1=.int .i64 p∧ρ.get 4=.mptr 0 0∧ρ.get 7=.int .i64 i∧σ=[.own [.int .i64 0,.int .i64 0,.int .i64 0,.int .i64 0,.str []]]∧aQ dJ s i=aQ dJ s (p+1)) (n:=s.length-(p+1)) ?_ ⟨p+1,rfl,hp,rfl,rfl,rfl,rfl,rfl,rfl⟩
  rintro m ρ σ ⟨i,rfl,hi,h0,h1,h4,h7,rfl,hR⟩
  simp only [go_sem,seval,h0,h1,h4,h7]
  refine aS (fun hc=>?_) (fun hc=>?_)
  ·have hci : i < s.length:=by simpa using hc
   have g : s.getD i 0=s[i]:=by simp [List.getD_eq_getElem?_getD,hci]
   have e1 : IntKind.i64.wrap ((i : Int)+1)=((i+1 : Nat) : Int):=by rw [iw (by omega)];omega
   simp only [go_sem,seval,h0,h1,h4,h7,hc,Int.toNat_natCast,g]
   refine ⟨by omega, ?_⟩
   refine ah (A8 (s[i].toNat : Int)) ?_<;>simp only [go_sem,seval,h0,h1,h4,h7,hc]
   refine aj (fun hb=>?_) (fun hb=>?_)
   ·have hb' : dJ s[i]=true:=by rw [← hb];exact (Du _).symm
    simp only [go_sem,seval,h0,h1,h4,h7,e1]
    have:=ji (f:=dJ) hci hb'
    exact ⟨s.length-(i+1),by omega,i+1,rfl,by omega,rfl,by rw [← hR];exact this.symm⟩
   ·have hb' : dJ s[i]=false:=by rw [← hb];exact (Du _).symm
    have : aQ dJ s i=i:=eu (f:=dJ) fun _=>hb'
    rw [this] at hR
    simp only [go_sem,seval,h0,h1,h4,h7,← hR]
  ·have hci : ¬ i < s.length:=by simpa using hc
   have : aQ dJ s i=i:=eu fun h=>absurd h hci
   rw [this] at hR
   simp only [go_sem,seval,h0,h1,h4,h7,hc,← hR]
def nameB : Bs→Bool
 | []=>false
 | c::r=>qP c && r.all iR
def Ce (t : Bs) (j : Nat) : Bool:=qP (t.getD j 0) || (decide (0 < j) && isDigit (t.getD j 0).toNat)
theorem Et (t : Bs) : nameB t=true↔0 < t.length∧∀ j,j < t.length→Ce t j=true:=by
 cases t with
 | nil=>simp [nameB]
 | cons c r =>
  simp only [nameB,Bool.and_eq_true,List.all_eq_true,List.length_cons]
  constructor
  ·rintro ⟨h1,h2⟩
   refine ⟨by omega,fun j hj=>?_⟩
   cases j with
   | zero=>simp [Ce,h1]
   | succ j =>
    have hj' : j < r.length:=by omega
    have:=h2 _ (List.getElem_mem hj')
    simp [Ce,List.getD_eq_getElem?_getD,hj']
    simpa [iR] using this
  ·rintro ⟨_,h⟩
   refine ⟨by simpa [Ce] using h 0 (by omega),fun x hx=>?_⟩
   obtain ⟨j,hj,rfl⟩:=List.getElem_of_mem hx
   have:=h (j+1) (by omega)
   simp [Ce,List.getD_eq_getElem?_getD,hj] at this
   simpa [iR] using this
theorem YT (t : Bs) (ht : t.length≤10000000) : PV Tryz.prog G0 89 [.str t] (.bool (nameB t)):=by
 refine pv e89 (by simp) rfl rfl ?_
 simp only [go_sem,seval,c89]
 refine bY (M:=fun ρ σ=>ρ.get 0=.str t∧∀ j,j < t.length→Ce t j=true) ?_ ?_
 ·rintro ρ σ ⟨h0,h⟩
  simp only [go_sem,seval,h0]
  refine fin (by rfl) ?_
  simp only [VV.bool.injEq]
  rw [Bool.eq_iff_iff,Et]
  simp
  exact fun _=>h
 refine aG (fun m ρ σ=>∃ i : Nat,m=t.length-i∧i≤t.length∧ρ.get 0=.str t∧ρ.get 7=.int .i64 t.length∧ρ.get 8=.int .i64 i∧∀ j,j < i→Ce t j=true) (n:=t.length) ?_ ⟨0,rfl,by omega,rfl,rfl,rfl,fun j h=>absurd h (by omega)⟩
 rintro m ρ σ ⟨i,rfl,hi,h0,h7,h8,hR⟩
 simp only [go_sem,seval,h7,h8]
 refine aj (fun hc=>?_) (fun hc=>?_)
 rotate_left
 ·have hc' : i=t.length:=by simp at hc;omega
  subst hc'
  simp only [go_sem,seval,h0]
  exact hR
 have hc' : i < t.length:=by simpa using hc
 have e1 : IntKind.i64.wrap ((i : Int)+1)=((i+1 : Nat) : Int):=by rw [iw (by omega)];omega
 have hn : Ce t i=(qP (t.getD i 0) || (decide (0 < i) && isDigit (t.getD i 0).toNat)):=rfl
 generalize hcc : t.getD i 0=c at hn
 simp only [go_sem,seval,h0,h7,h8,Int.toNat_natCast,hcc]
 refine ⟨by omega,vV (yB (M:=fun ρ σ=>ρ.get 0=.str t∧ρ.get 3=.int .i64 i∧ρ.get 4=.int .u8 c.toNat∧ρ.get 5=.bool (qP c)∧ρ.get 7=.int .i64 t.length∧ρ.get 8=.int .i64 i) ?_) ?_⟩
 ·rintro ρ σ ⟨h0,h3,h4,h5,h7,h8⟩
  have stop : Ce t i=false→∃ z n,dX.ret (VV.bool false)=dX.ret z∧fz n (σ.map Obj.fr) z=some (.bool (nameB t)):=by
   intro hh
   refine fin (by rfl) ?_
   have : ¬ nameB t=true:=fun hb=>by
    have:=((Et t).1 hb).2 i hc'
    rw [hh] at this;cases this
   simp at this
   rw [this]
  have go : Ce t i=true→∀ j,j < i+1→Ce t j=true:=by
   intro hh j hj
   by_cases e : j=i
   ·subst e;exact hh
   ·exact hR j (by omega)
  cases hl : qP c with
  | true =>
   rw [hl] at hn h5
   simp only [go_sem,seval,h0,h3,h4,h5,h7,h8,e1,Bool.not_true]
   exact ⟨t.length-(i+1),by omega,i+1,rfl,by omega,rfl,go (by rw [hn];rfl)⟩
  | false =>
   rw [hl] at hn h5
   by_cases hi0 : i=0
   ·have b0 : ((i : Int) == 0)=true:=by simp;omega
    simp only [go_sem,seval,h0,h3,h4,h5,h7,h8,Bool.not_false,Bool.not_true,b0]
    exact stop (by rw [hn];simp [hi0])
   have b0 : ((i : Int) == 0)=false:=by simp;omega
   by_cases hlo : (c.toNat : Int) < 48
   ·have b1 : decide ((c.toNat : Int) < 48)=true:=decide_eq_true hlo
    simp only [go_sem,seval,h0,h3,h4,h5,h7,h8,Bool.not_false,Bool.not_true,b0,b1]
    exact stop (by rw [hn];simp [isDigit];omega)
   have b1 : decide ((c.toNat : Int) < 48)=false:=decide_eq_false hlo
   by_cases hhi : 57 < (c.toNat : Int)
   ·have b2 : decide (57 < (c.toNat : Int))=true:=decide_eq_true hhi
    simp only [go_sem,seval,h0,h3,h4,h5,h7,h8,Bool.not_false,Bool.not_true,b0,b1,b2]
    exact stop (by rw [hn];simp [isDigit];omega)
   have b2 : decide (57 < (c.toNat : Int))=false:=decide_eq_false hhi
   simp only [go_sem,seval,h0,h3,h4,h5,h7,h8,Bool.not_false,Bool.not_true,b0,b1,b2,e1]
   exact ⟨t.length-(i+1),by omega,i+1,rfl,by omega,rfl,go (by rw [hn];simp [isDigit];omega)⟩
 ·repeat' (first | (refine aY (fun h=>?_) (fun h=>?_)<;>simp only [go_sem,seval,h]) | (refine aj (fun h=>?_) (fun h=>?_)<;>simp only [go_sem,seval,h]) | (refine bF (fun h=>?_) (fun h=>?_)<;>simp only [go_sem,seval,h]) | (refine aS (fun h=>?_) (fun h=>?_)<;>simp only [go_sem,seval,h]) | (refine bg (fun h=>?_) (fun h=>?_)<;>simp only [go_sem,seval,h]) | (refine dB (fun h=>?_) (fun h=>?_)<;>simp only [go_sem,seval,h]))
  all_goals (simp_all [qP,pF]<;>omega)
end Go.V
