/- Texts F130. -/
import Derived.Test.YtgmhpemjlbgfcaaGreatDoorG32
import Derived.Test.YtgmhpemjlbgfcaaGreatDoorG39
set_option linter.unusedVariables false
set_option linter.unusedSimpArgs false
namespace Go.V
open Go.Proofs
set_option maxRecDepth 100000
def lF : Option Nat→VV
 | none=>.tup [.int .i64 0,.bool false]
 | some j=>.tup [.int .i64 j,.bool true]
theorem dV (o : Option Nat) : (lF o).isPure=true:=by cases o<;>rfl
theorem AY {i : Int} {n j : Nat} (h : gV i n=some j) : j < n:=by
 unfold gV at h
 split at h
 ·cases h
 ·cases h
  split<;>omega
theorem Qn (i : Int) (n : Nat) (hn : n≤1000000) (hi : -9223372036854775808≤i∧i≤9223372036854775807) : PV Tryz.prog G0 42 [.int .i64 i,.int .i64 n] (lF (gV i n)):=by
 refine pv e42 (by simp) rfl (dV _) ?_
 by_cases h1 : n=0
 ·have b1 : decide ((n : Int) < 1)=true:=decide_eq_true (by omega)
  simp only [go_sem,seval,c42,b1]
  exact fin (dV _) (by rw [gV,if_pos (.inl h1)];rfl)
 have b1 : decide ((n : Int) < 1)=false:=decide_eq_false (by omega)
 by_cases h2 : (n : Int)≤i
 ·have b2 : decide ((n : Int)≤i)=true:=decide_eq_true h2
  simp only [go_sem,seval,c42,b1,b2]
  exact fin (dV _) (by rw [gV,if_pos (.inr (.inl h2))];rfl)
 have b2 : decide ((n : Int)≤i)=false:=decide_eq_false h2
 by_cases h3 : 0≤i
 ·have b3 : decide (0≤i)=true:=decide_eq_true h3
  simp only [go_sem,seval,c42,b1,b2,b3]
  exact fin (dV _) (by rw [gV,if_neg (by omega),if_pos h3];simp only [lF];rw [Int.toNat_of_nonneg h3])
 have b3 : decide (0≤i)=false:=decide_eq_false h3
 have e1 : IntKind.i64.wrap ((n : Int)+i)=(n : Int)+i:=iw (by omega)
 by_cases h4 : (n : Int)+i < 0
 ·have b4 : decide ((n : Int)+i < 0)=true:=decide_eq_true h4
  simp only [go_sem,seval,c42,b1,b2,b3,e1,b4]
  exact fin (dV _) (by rw [gV,if_pos (.inr (.inr h4))];rfl)
 ·have b4 : decide ((n : Int)+i < 0)=false:=decide_eq_false h4
  simp only [go_sem,seval,c42,b1,b2,b3,e1,b4]
  exact fin (dV _) (by rw [gV,if_neg (by omega),if_neg h3];simp only [lF];rw [Int.toNat_of_nonneg (by omega)])
theorem AB {k i : Int} {t : Bs} (h : qm k i t=0) : 0≤k∧k < 4:=by
 unfold qm at h
 repeat' split at h
 all_goals omega
theorem QX {v : T} {x : Vl} (h : oL v x) (hx : x.ok) : v.len≤1000000∧PV Tryz.prog G0 43 [x.vv] (.int .i64 v.len):=by
 cases h with
 | sc k i t h hb hi=>exact ⟨by simp [T.len],Ip _ hx rfl 0 rfl (by omega)⟩
 | vec items h ho root hR =>
  have hsl:=jF (items.map (·.2))
  have hil : items.length≤1000000:=by have:=hx.hm;simp at hsl this;omega
  have:=O7 _ hx _ hR 0 rfl (by simpa using hil)
  simp only [T.len,List.length_map]
  exact ⟨hil,by simpa using this⟩
 | map items seed bits hr ps hi hp hM h ho =>
  have hsl:=jF (items.map (·.2.2))
  have hil : items.length≤1000000:=by have:=hx.hm;simp at hsl this;omega
  simp only [T.len,List.length_map]
  exact ⟨hil,Ip _ hx rfl _ rfl hil⟩
 | set items seed bits hr ps hi hp hM h ho hk =>
  have hsl:=jF (items.map (·.2.2))
  have hil : items.length≤1000000:=by have:=hx.hm;simp at hsl this;omega
  simp only [T.len,List.length_map]
  exact ⟨hil,Ip _ hx rfl _ rfl hil⟩
def GR : Option Vl→VV→Prop
 | some y,R=>y.ok∧R=.tup [y.vv,.int .i64 0]
 | none,R=>∃ e : Int,e≠0∧R=.tup [Vl.zero.vv,.int .i64 e]
theorem Pn (x : Vl) (hx : x.ok) (sk ix : Int) (t : Bs) (h : 0≤sk∧sk≤2) (hk : x.k≠sk+4) : PV Tryz.prog G0 87 [x.vv,lJ sk ix t] (.int .i64 3):=by
 refine pv e87 (by simp) (by simp [VV.ak,VV.isPure,Vl.vv,hx.pure]) rfl ?_
 have d1 : x.cells.length=11:=rfl
 have d2 : x.cells.all VV.aC=true:=hx.cell
 have d3 : x.cells.take 11=x.cells:=rfl
 have dx : x.cells.getD 3 .undef=.int .i64 x.k:=rfl
 have b1 : decide (sk < 0)=false:=decide_eq_false (by omega)
 have b2 : decide (2 < sk)=false:=decide_eq_false (by omega)
 have e1 : IntKind.i64.wrap (sk+4)=sk+4:=iw (by omega)
 have b3 : (x.k != sk+4)=true:=by simpa using hk
 simp only [go_sem,seval,c87,Vl.vv,d1,d2,d3,dx,b1,b2,b3,e1,Bool.not_false]
 exact fin (by rfl) rfl
theorem Ew (x : Vl) (hx : x.ok) (sk ix : Int) (t : Bs) (h : 0≤sk∧sk≤2) (hk : x.k≠sk+4) : PV Tryz.prog G0 44 [x.vv,lJ sk ix t] (.tup [Vl.zero.vv,.int .i64 3]):=by
 have hF:=Pn x hx sk ix t h hk
 refine pv e44 (by simp) (by simp [VV.ak,VV.isPure,Vl.vv,hx.pure]) rfl ?_
 have d1 : x.cells.length=11:=rfl
 have d2 : x.cells.all VV.aC=true:=hx.cell
 have d3 : x.cells.take 11=x.cells:=rfl
 simp only [go_sem,seval,c44,Vl.vv,d1,d2,d3]
 (first | refine ah (hF) ?_ | refine aK (hF) ?_ | refine aI (hF) ?_ | refine aj (hF) (by simp only [go_sem,seval,d1,d2,d3,Vl.vv,Vl.zero,Vl.cells]) ?_ | refine aj (hF) ?_ ?_)<;>simp only [go_sem,seval,d1,d2,d3,Vl.vv,Vl.zero,Vl.cells]
 exact fin (by rfl) rfl
theorem W9 {v : T} {x : Vl} (h : oL v x) (hx : x.ok) (t : Bs) (ht : t.length≤1000000000) :
  ∃ o R,(match v.atKey t with | some w=>∃ y,o=some y∧oL w y | none=>o=none)∧GR o R∧PV Tryz.prog G0 44 [x.vv,lJ 1 0 t] R:=by
 have no : ∀ hk : x.k≠1+4,GR none (.tup [Vl.zero.vv,.int .i64 3])∧PV Tryz.prog G0 44 [x.vv,lJ 1 0 t] (.tup [Vl.zero.vv,.int .i64 3]):=fun hk=>⟨⟨3,by decide,rfl⟩,Ew x hx 1 0 t (by decide) hk⟩
 cases h with
 | sc k i t' h hb hi=>exact ⟨none,_,rfl,no (by have:=AB h;simp only [JH];omega)⟩
 | vec items h ho root hR=>exact ⟨none,_,rfl,no (by simp)⟩
 | set items seed bits hr ps hi hp hM h ho hk=>exact ⟨none,_,rfl,no (by simp)⟩
 | map items seed bits hr ps hi hp hM h ho =>
  have hsl:=jF (items.map (·.2.2))
  have hil : items.length≤1000000:=by have:=hx.hm;simp at hsl this;omega
  have hpl : ps.length=items.length:=by simpa using hp.length_eq
  have hpo : ∀ p ∈ ps,p.2.ok:=fun p hpm=>by
   obtain ⟨q,hq,rfl⟩:=List.mem_map.1 (hp.mem_iff.1 hpm)
   exact (ho q hq).1
  have hG:=Vf _ hx ps hM hpo (by omega) 1 0 t (.inl rfl) rfl ht
  rw [QJ hM.nodup hp.symm,GN (fun q=>q.2) t items] at hG
  simp only [T.atKey,GN (fun q=>q.1) t items]
  cases hl : lk items t with
  | none =>
   rw [hl] at hG
   exact ⟨none,_,rfl,⟨5,by decide,rfl⟩,hG⟩
  | some q =>
   rw [hl] at hG
   have hq:=vM hl
   exact ⟨some q.2,_,⟨q.2,rfl,h _ hq⟩,⟨(ho _ hq).1,rfl⟩,hG⟩
theorem Xm {v : T} {x : Vl} (h : oL v x) (hx : x.ok) (j : Nat) (hj : j < v.len) :
  ∃ o R,(match v.OH j with | some w=>∃ y,o=some y∧oL w y | none=>o=none)∧GR o R∧PV Tryz.prog G0 44 [x.vv,lJ 0 j []] R:=by
 have no : ∀ hk : x.k≠0+4,GR none (.tup [Vl.zero.vv,.int .i64 3])∧PV Tryz.prog G0 44 [x.vv,lJ 0 j []] (.tup [Vl.zero.vv,.int .i64 3]):=fun hk=>⟨⟨3,by decide,rfl⟩,Ew x hx 0 j [] (by decide) hk⟩
 cases h with
 | sc k i t' h hb hi=>exact ⟨none,_,rfl,no (by have:=AB h;simp only [JH];omega)⟩
 | map items seed bits hr ps hi hp hM h ho=>exact ⟨none,_,rfl,no (by simp)⟩
 | set items seed bits hr ps hi hp hM h ho hk=>exact ⟨none,_,rfl,no (by simp)⟩
 | vec items h ho root hR =>
  have hsl:=jF (items.map (·.2))
  have hil : items.length≤1000000:=by have:=hx.hm;simp at hsl this;omega
  simp only [T.len,List.length_map] at hj
  have hm:=List.getElem_mem hj
  have hG:=Gt _ items[j].2 hx (ho _ hm) rfl rfl _ hR (by simpa using hil) j (by simpa using hj) (by simp)
  refine ⟨some items[j].2,_, ?_,⟨ho _ hm,rfl⟩,hG⟩
  simp only [T.OH,List.getElem?_map,List.getElem?_eq_getElem hj,Option.map_some]
  exact ⟨_,rfl,h _ hm⟩
end Go.V
