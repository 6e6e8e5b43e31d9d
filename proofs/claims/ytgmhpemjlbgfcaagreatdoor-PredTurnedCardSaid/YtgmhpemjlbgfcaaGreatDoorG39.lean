/- Texts F96 F98 F99 L30 L31. -/
import Derived.Test.YtgmhpemjlbgfcaaGreatDoorG12
import Derived.Test.YtgmhpemjlbgfcaaGreatDoorG32
import Derived.Test.YtgmhpemjlbgfcaaGreatDoorG33
import Derived.Test.YtgmhpemjlbgfcaaGreatDoorG36
import Derived.Test.YtgmhpemjlbgfcaaGreatDoorG38
set_option linter.unusedVariables false
set_option linter.unusedSimpArgs false
namespace Go.V
open Go.Proofs
set_option maxRecDepth 100000
theorem jZ.bZ {k : Nat} {σ : Store} {v : VV} {xs : List (List VV)} (h : jZ k σ v xs) (hne : xs≠[]) : ∃ id,v=.bZ id 0 xs.length k∧σ[id]?=some (.own xs.flatten):=by
 cases h with
 | own hB h=>exact ⟨_,rfl,h⟩
 | _=>exact absurd rfl hne
theorem jZ.aT {k : Nat} {σ : Store} {v : VV} {xs : List (List VV)} (h : jZ k σ v xs) {t e : TypeId} (ht : iF Tryz.prog t=some e) {σ' : Store} : aT Tryz.prog t v σ'=okV (.int .i64 xs.length) σ':=by
 cases h with
 | nil=>exact qw (by simp [ht])
 | emp=>exact AQ (by simp [ht])
 | own=>exact y9 (by simp [ht])
theorem JM (k i : Int) (t : Bs) (keys : List Bs) (items : List Tr) (kv iv : VV) (cs : List (List VV)) (hk : dG 1 kv (keys.map fun b=>[VV.str b])) (hcs : jl items cs) (hi : dG 5 iv cs) (hOK : jk (.node k i t keys items)) (hSm : FY (.node k i t keys items)) (q n : Nat) (hq : q≤65) (hn : n≤16384)
  (ih : ∀ (j : Nat) (h : j < items.length) (h' : j < cs.length) (n : Nat),q≤64→n≤16384→PV Tryz.prog G0 76 [.agg cs[j],.int .i64 (q+1 : Nat),.int .i64 n] (.tup [.int .i64 (items[j].mk (q+1) n).1,.int .i64 (FD (items[j].mk (q+1) n))])) :
  PV Tryz.prog G0 76 [.agg [.int .i64 k,.int .i64 i,.str t,kv,iv],.int .i64 q,.int .i64 n] (.tup [.int .i64 ((Tr.node k i t keys items).mk q n).1,.int .i64 (FD ((Tr.node k i t keys items).mk q n))]):=by
 obtain ⟨htl,hkl2,hkl,hil,hSi⟩ : t.length≤200∧(∀ k ∈ keys,k.length≤200)∧keys.length≤450∧items.length≤400∧∀ x ∈ items,FY x:=by cases hSm;exact ⟨‹_›,‹_›,‹_›,‹_›,‹_›⟩
 have hOi : ∀ x ∈ items,jk x:=by cases hOK;assumption
 have hkp:=hk.pure
 have hip:=hi.pure
 have hkc:=hk.cell
 have hic:=hi.cell
 have hcl:=hcs.len
 have hisl : ∀ {σ},aT Tryz.prog 27 iv σ=okV (.int .i64 items.length) σ:=by intro σ;rw [hi.aT bK,hcl]
 have hO:=U9 k i t keys items.length kv iv cs hk hcl hi (by omega) (by omega)
 have w1 : IntKind.i64.wrap ((n : Int)+1)=((n+1 : Nat) : Int):=by rw [iw (by omega)];omega
 have wq : IntKind.i64.wrap ((q : Int)+1)=((q+1 : Nat) : Int):=by rw [iw (by omega)];omega
 refine pv e76 (by simp) (by simp only [VV.ak,VV.isPure,hkp,hip];rfl) rfl ?_
 simp only [go_sem,seval] at hkc
 simp only [go_sem,seval] at hic
 obtain ⟨M,hM⟩ : ∃ M,M=Tr.mk (.node k i t keys items) q n:=⟨_,rfl⟩
 rw [← hM]
 unfold Tr.mk at hM
 by_cases c1 : 64 < q
 ·have b1 : decide ((64 : Int) < (q : Int))=true:=decide_eq_true (by omega)
  rw [if_pos c1] at hM
  subst hM
  simp only [go_sem,seval,c76,hkc,hic,w1,b1,FD]
  exact fin (by rfl) rfl
 have b1 : decide ((64 : Int) < (q : Int))=false:=decide_eq_false (by omega)
 rw [if_neg c1] at hM
 by_cases c2 : 16384 < n+1
 ·have b2 : decide ((16384 : Int) < ((n+1 : Nat) : Int))=true:=decide_eq_true (by omega)
  rw [if_pos c2] at hM
  subst hM
  simp only [go_sem,seval,c76,hkc,hic,w1,b1,b2,FD]
  exact fin (by rfl) rfl
 have b2 : decide ((16384 : Int) < ((n+1 : Nat) : Int))=false:=decide_eq_false (by omega)
 rw [if_neg c2] at hM
 by_cases c3 : fF k i t keys items.length=0
 rotate_left
 ·have b3 : (fF k i t keys items.length == 0)=false:=by simpa using c3
  rw [if_pos c3] at hM
  subst hM
  simp only [go_sem,seval,c76,hkc,hic,w1,b1,b2,FD]
  refine ah (hO) ?_<;>simp only [go_sem,seval,b3,bne,Bool.not_false]
  exact fin (by rfl) rfl
 have b3 : (fF k i t keys items.length == 0)=true:=by simpa using c3
 rw [if_neg (by simpa using c3)] at hM
 simp only [go_sem,seval,c76,hkc,hic,w1,b1,b2]
 refine ah (hO) ?_<;>simp only [go_sem,seval,b3,bne,Bool.not_true,hisl,hkc,hic]
 by_cases c4 : k < 4
 ·rw [if_pos c4] at hM
  have hnil : items=[]:=by
   unfold fF at c3
   rw [if_neg (by omega),if_neg (by omega)] at c3
   split at c3
   ·split at c3
    ·omega
    ·exact List.eq_nil_of_length_eq_zero (by omega)
   ·omega
  subst hnil
  subst hM
  have b6 : (k == 6)=false:=by simp;omega
  refine iH ?_
  simp only [go_sem,seval,hkc,hic,b6,bne,Bool.not_false,FD,List.length_nil]
  exact fin (by rfl) rfl
 rw [if_neg c4] at hM
 refine bf (M:=fun ρ τ=>∃ (vs : List T) (n' : Nat),Tr.sD items (q+1) (n+1)=(n',.inl vs)∧ρ.get 2=.int .i64 n'∧ρ.get 3=.mptr 0 0∧τ[0]?=some (.own [.int .i64 k,.int .i64 i,.str t,kv,iv])) ?_ ?_
 rotate_left
 ·refine aF (fun m ρ τ=>∃ (j : Nat) (vs : List T) (n' : Nat),m=items.length-j∧j≤items.length∧n'≤16384∧lG items (q+1) (n+1) j n' vs∧ρ.get 1=.int .i64 q∧ρ.get 2=.int .i64 n'∧ρ.get 3=.mptr 0 0∧ρ.get 32=iv∧ρ.get 33=.int .i64 items.length∧ρ.get 34=.int .i64 j∧τ[0]?=some (.own [.int .i64 k,.int .i64 i,.str t,kv,iv])) (n:=items.length) ?_ ⟨0,[],n+1,rfl,by omega,by omega,.zero,rfl,rfl,rfl,rfl,rfl,rfl,rfl⟩
  rintro m ρ τ ⟨j,vs,n',rfl,hj,hn',hAt,q1,q2,q3,q32,q33,q34,t0⟩
  simp only [go_sem,seval,q32,q33,q34]
  refine aG (fun hc=>?_) (fun hc=>?_)
  rotate_left
  ·have hc' : j=items.length:=by simp at hc;omega
   subst hc'
   simp only [go_sem,seval,q1,q2,q3]
   exact ⟨vs,n',hAt.all,rfl,t0⟩
  have hc' : j < items.length:=by simpa using hc
  have hcj : j < cs.length:=by omega
  obtain ⟨tg,hit,a3,a4⟩:=hi.jr hcj
  rw [hcl] at hit
  have x1:=hi.blk.len _ (List.getElem_mem hcj)
  have x3 : cs[j].all VV.aC=true:=hi.blk.cell _ (List.getElem_mem hcj)
  have x4 : cs[j].take 5=cs[j]:=List.take_of_length_le (by omega)
  have a1 : (0 : Int)≤(j : Int):=by omega
  have a2 : (j : Int) < (items.length : Int):=by omega
  have a6 : IntKind.i64.wrap ((j : Int)+1)=((j+1 : Nat) : Int):=by rw [iw (by omega)];omega
  have t0' : ∀ υ,(τ++υ)[0]?=some (.own [.int .i64 k,.int .i64 i,.str t,kv,iv]):=fun υ=>by rw [List.getElem?_append_left (List.getElem?_eq_some_iff.1 t0).1];exact t0
  have hih:=ih j hc' hcj n' (by omega) hn'
  obtain ⟨MR,hMR⟩ : ∃ M,M=items[j].mk (q+1) n':=⟨_,rfl⟩
  rw [← hMR] at hih
  obtain ⟨n1,R⟩:=MR
  simp only [go_sem,seval,q1,q2,q3,q32,q33,q34,hit,a1,a2,a3,a4,x1,x3,x4,wq,Int.toNat_natCast,SS]
  cases R with
  | er e =>
   have be : (e == 0)=false:=by simpa using Nq items[j] (q+1) n' n1 e hMR.symm
   rw [hAt.er hc' hMR.symm] at hM
   simp only at hM
   subst hM
   refine ah (hih) ?_<;>simp only [go_sem,seval,q1,q2,q3,q32,q33,q34,FD,be,bne,Bool.not_false]
   exact fin (by rfl) rfl
  | ok v =>
   have hn1:=(xW items[j] (q+1) n' n1 v (hOi _ (List.getElem_mem hc')) hMR.symm).2.2
   refine ah (hih) ?_<;>simp only [go_sem,seval,q1,q2,q3,q32,q33,q34,FD,beq_self_eq_true,bne,Bool.not_true,a6]
   exact ⟨items.length-(j+1),by omega,j+1,_,n1,rfl,by omega,hn1,hAt.ok hc' hMR.symm,rfl,hit,rfl,by rw [← hit];exact t0' _⟩
 rintro ρ τ ⟨vs,n',hm,q2,q3,t0⟩
 rw [hm] at hM
 simp only at hM
 obtain ⟨m1,m2⟩:=Dc hm
 by_cases h6 : k=6
 rotate_left
 ·have b6 : (k == 6)=false:=by simpa using h6
  have : M=(n',.ok (if k=4 then .vec vs else .map (insL (keys.zip vs)))):=by
   rw [hM]
   unfold jP
   split
   ·rfl
   ·have h5 : k=5:=by
     unfold fF at c3
     refine Classical.byContradiction fun h=>?_
     rw [if_neg h,if_neg (by omega),if_neg (by omega)] at c3
     omega
    rw [if_pos h5]
  subst this
  simp only [go_sem,seval,q2,q3,t0,hkc,hic,b6,bne,Bool.not_false,FD]
  exact fin (by rfl) rfl
 have b6 : (k == 6)=true:=by simpa using h6
 have hm' : M=(n',if (insL (vs.map fun v=>(v.key,v))).length < vs.length then .er 6 else .ok (.set ((insL (vs.map fun v=>(v.key,v))).map (·.2)))):=by
  rw [hM];unfold jP;rw [if_neg (by omega),if_neg (by omega)]
 obtain ⟨L,hL⟩ : ∃ L,L=vs.map T.key:=⟨_,rfl⟩
 have hLl : L.length=items.length:=by rw [hL,List.length_map,m1]
 have good : ∀ b : Bool,(b=true↔L.Nodup)→VV.tup [.int .i64 n',.int .i64 (if b=true then 0 else 6)]=VV.tup [.int .i64 M.1,.int .i64 (FD M)]:=by
  intro b hb
  rw [hL] at hb
  by_cases hn : (vs.map T.key).Nodup
  ·rw [hm',if_neg (fun h=>IE.1 h hn),if_pos (hb.2 hn)];rfl
  ·rw [hm',if_pos (IE.2 hn),if_neg (fun h=>hn (hb.1 h))];rfl
 obtain ⟨g1,g2,g3,g4⟩:=qA items _ _ _ _ hOi hm (by omega)
 have hsm:=yZ items _ _ _ _ hOi hSi hm
 simp only [go_sem,seval,q2,q3,t0,hkc,hic,b6,bne,Bool.not_true,hisl]
 refine bf (M:=fun ρ τ=>ρ.get 2=.int .i64 n'∧jZ 1 τ (ρ.get 12) (L.map fun b=>[VV.str b])) ?_ ?_
 rotate_left
 ·refine aF (fun m ρ τ=>∃ j : Nat,m=items.length-j∧j≤items.length∧jZ 1 τ (ρ.get 12) ((L.take j).map fun b=>[VV.str b])∧ρ.get 2=.int .i64 n'∧ρ.get 56=iv∧ρ.get 57=.int .i64 items.length∧ρ.get 58=.int .i64 j) (n:=items.length) ?_ ⟨0,rfl,by omega,.nil,q2,rfl,rfl,rfl⟩
  rintro m ρ τ ⟨j,rfl,hj,hG,q2,q56,q57,q58⟩
  simp only [go_sem,seval,q56,q57,q58]
  refine aG (fun hc=>?_) (fun hc=>?_)
  rotate_left
  ·have hc' : j=L.length:=by simp at hc;omega
   rw [hc',List.take_length] at hG
   simp only [go_sem,seval,q2]
   exact hG
  have hc' : j < items.length:=by simpa using hc
  have hcj : j < cs.length:=by omega
  have hjL : j < L.length:=by omega
  have hjv : j < vs.length:=by omega
  obtain ⟨tg,hit,a3,a4⟩:=hi.jr hcj
  rw [hcl] at hit
  have x1:=hi.blk.len _ (List.getElem_mem hcj)
  have x3 : cs[j].all VV.aC=true:=hi.blk.cell _ (List.getElem_mem hcj)
  have x4 : cs[j].take 5=cs[j]:=List.take_of_length_le (by omega)
  have a1 : (0 : Int)≤(j : Int):=by omega
  have a2 : (j : Int) < (items.length : Int):=by omega
  have a6 : IntKind.i64.wrap ((j : Int)+1)=((j+1 : Nat) : Int):=by rw [iw (by omega)];omega
  obtain ⟨na,nb,hab⟩:=m2 j hc' hjv
  obtain ⟨c',hT,hCan⟩:=Df items cs hcs hOi (fun x hx=>(hSi x hx).mono (by decide)) j hc' hcj _ _ _ _ hab
  have hmem : vs[j] ∈ vs:=List.getElem_mem hjv
  have hKey:=BZ vs[j] c' (q+1) hT ((hsm _ hmem).mono (by decide)) (C9 g1 _ hmem) (by have:=x9 hmem;omega)
  have hLj : vs[j].key=L[j]:=by simp [hL]
  rw [hLj] at hKey
  have hB1 : dh 1 [[VV.str L[j]]]:=wG [(L[j],())]
  simp only [go_sem,seval,q2,q56,q57,q58,hit,a1,a2,a3,a4,x1,x3,x4,Int.toNat_natCast,SS]
  refine ah (hCan) ?_<;>simp only [go_sem,seval,q2,q56,q57,q58]
  refine ah (hKey) ?_<;>simp only [go_sem,seval,q2,q56,q57,q58]
  refine (hG.snoc [.own cs[j]]).step (ys:=[[VV.str L[j]]]) dM oD uQ mQ rfl (by decide) (by decide) hB1 (by simp;omega) ((dG.sl [[VV.str L[j]]] true hB1).src dM) fun w σ' g K N=>?_
  simp only [go_sem,seval,q2,q56,q57,q58,a6]
  exact ⟨items.length-(j+1),by omega,j+1,rfl,by omega,by rw [List.take_succ_eq_append_getElem hjL,List.map_append];exact g,hit,rfl⟩
 rintro ρ τ ⟨q2,hG⟩
 have hlen : ∀ {σ'},aT Tryz.prog 26 (ρ.get 12) σ'=okV (.int .i64 L.length) σ':=by intro σ';rw [hG.aT dM];simp
 obtain ⟨w,hw⟩ : ∃ w,w=ρ.get 12:=⟨_,rfl⟩
 rw [← hw] at hG hlen
 simp only [go_sem,seval,q2,← hw,hlen]
 refine bf (M:=fun ρ τ=>ρ.get 2=.int .i64 n'∧Apart L L.length) ?_ ?_
 ·rintro ρ τ ⟨q2,hA⟩
  simp only [go_sem,seval,q2]
  exact fin (by rfl) (good true ⟨fun _=>hA.nodup,fun _=>rfl⟩)
 refine aF (fun m ρ τ=>∃ a : Nat,m=L.length-a∧a≤L.length∧Apart L a∧ρ.get 2=.int .i64 n'∧ρ.get 12=w∧ρ.get 70=.int .i64 L.length∧ρ.get 71=.int .i64 a∧jZ 1 τ w (L.map fun b=>[VV.str b])) (n:=L.length) ?_ ⟨0,rfl,by omega,fun x y _ _ _ h=>absurd h (Nat.not_lt_zero _),q2,hw.symm,rfl,rfl,hG⟩
 rintro m ρ τ ⟨a,rfl,ha,hA,q2,q12,q70,q71,hG⟩
 simp only [go_sem,seval,q70,q71]
 refine aG (fun hc=>?_) (fun hc=>?_)
 rotate_left
 ·have hc' : a=L.length:=by simp at hc;omega
  subst hc'
  simp only [go_sem,seval,q2]
  exact hA
 have hc' : a < L.length:=by simpa using hc
 have w6 : IntKind.i64.wrap ((a : Int)+1)=((a+1 : Nat) : Int):=by rw [iw (by omega)];omega
 simp only [go_sem,seval,q2,q12,q70,q71]
 refine aF (fun m ρ τ=>∃ b : Nat,m=a-b∧b≤a∧(∀ (x : Nat) (hx : x < L.length),x < b→L[x]≠L[a])∧ρ.get 2=.int .i64 n'∧ρ.get 12=w∧ρ.get 15=.int .i64 a∧ρ.get 70=.int .i64 L.length∧ρ.get 71=.int .i64 a∧ρ.get 74=.int .i64 a∧ρ.get 75=.int .i64 b∧jZ 1 τ w (L.map fun b=>[VV.str b])) (n:=a) ?_ ⟨0,rfl,by omega,fun x _ h=>absurd h (Nat.not_lt_zero _),q2,q12,rfl,q70,q71,rfl,rfl,hG⟩
 rintro m ρ τ ⟨b,rfl,hb,hB,q2,q12,q15,q70,q71,q74,q75,hG⟩
 simp only [go_sem,seval,q74,q75]
 refine aG (fun hc2=>?_) (fun hc2=>?_)
 rotate_left
 ·have hb' : b=a:=by simp at hc2;omega
  subst hb'
  simp only [go_sem,seval,q2,q12,q70,q71,w6]
  refine ⟨L.length-(b+1),by omega,b+1,rfl,by omega,fun x y hx hy hxy hy1=>?_,rfl,hG⟩
  by_cases hyb : y < b
  ·exact hA x y hx hy hxy hyb
  ·obtain rfl : y=b:=by omega
   exact hB x hx (by omega)
 have hb' : b < a:=by simpa using hc2
 have hbl : b < L.length:=by omega
 have w7 : IntKind.i64.wrap ((b : Int)+1)=((b+1 : Nat) : Int):=by rw [iw (by omega)];omega
 obtain ⟨id,hwm,hid⟩:=hG.bZ (by intro e;have:=congrArg List.length e;simp at this;rw [this] at hbl;simp at hbl)
 rw [List.length_map] at hwm
 have hSl : dG 1 (.sl (L.map fun b=>[VV.str b]).length (L.map fun b=>[VV.str b]).flatten false) (L.map fun b=>[VV.str b]):=dG.of hG.blk rfl rfl
 obtain ⟨_,_,c3,c4⟩:=hSl.uP hc'
 obtain ⟨_,_,d3,d4⟩:=hSl.uP hbl
 have c1 : (0 : Int)≤(a : Int):=by omega
 have c2 : (a : Int) < (L.length : Int):=by omega
 have d1 : (0 : Int)≤(b : Int):=by omega
 have d2 : (b : Int) < (L.length : Int):=by omega
 by_cases he : L[a]=L[b]
 ·have e9 : (L[a] == L[b])=true:=by simpa using he
  simp only [go_sem,seval,q2,q12,q15,q70,q71,q74,q75,hwm,hid,c1,c2,c3,c4,d1,d2,d3,d4,e9,Nat.zero_add,Int.toNat_natCast]
  exact fin (by rfl) (good false ⟨(by simp),fun hn=>absurd he.symm (xw hn L.length b a hbl hc' hb' hc')⟩)
 ·have e9 : (L[a] == L[b])=false:=by simpa using he
  simp only [go_sem,seval,q2,q12,q15,q70,q71,q74,q75,hwm,hid,c1,c2,c3,c4,d1,d2,d3,d4,e9,w7,Nat.zero_add,Int.toNat_natCast]
  refine ⟨a-(b+1),by omega,b+1,rfl,by omega,fun x hx hxb=>?_,rfl,by rw [← hwm];exact hG⟩
  by_cases hxb' : x < b
  ·exact hB x hx hxb'
  ·obtain rfl : x=b:=by omega
   exact fun h=>he h.symm
mutual
theorem NZ : ∀ (x : Tr) (c : List VV),kV x c→jk x→FY x→∀ (q n : Nat),q≤65→n≤16384→PV Tryz.prog G0 76 [.agg c,.int .i64 q,.int .i64 n] (.tup [.int .i64 (x.mk q n).1,.int .i64 (FD (x.mk q n))])
 | .node k i t keys items,c,h,hO,hS,q,n,hq,hn=>by
  cases h with
  | node h1 h2 h3 h4 h5 =>
  have hOi : ∀ x ∈ items,jk x:=by cases hO;assumption
  have hSi : ∀ x ∈ items,FY x:=by cases hS;assumption
  exact JM k i t keys items _ _ _ h1 h2 h3 hO hS q n hq hn fun j h h' n hq hn=>Ju items _ h2 hOi hSi j h h' (q+1) n (by omega) hn
theorem Ju : ∀ (l : List Tr) (cs : List (List VV)),jl l cs→(∀ x ∈ l,jk x)→(∀ x ∈ l,FY x)→∀ (j : Nat) (h : j < l.length) (h' : j < cs.length) (q n : Nat),q≤65→n≤16384→PV Tryz.prog G0 76 [.agg cs[j],.int .i64 q,.int .i64 n] (.tup [.int .i64 (l[j].mk q n).1,.int .i64 (FD (l[j].mk q n))])
 | x::l,c::cs,.cons h1 h2,hO,hS,0,_,_,q,n,hq,hn=>NZ x c h1 (hO x (by simp)) (hS x (by simp)) q n hq hn
 | x::l,c::cs,.cons h1 h2,hO,hS,j+1,h,h',q,n,hq,hn=>Ju l cs h2 (fun y hy=>hO y (by simp [hy])) (fun y hy=>hS y (by simp [hy])) j (by simpa using h) (by simpa using h') q n hq hn
end
theorem KE {x : Tr} {c : List VV} (h : kV x c) (hO : jk x) (hS : FY x) : PV Tryz.prog G0 34 [.agg c] (.int .i64 (FD (x.mk 1 0))):=by
 obtain ⟨x1,x2,x3⟩:=h.cells
 have x4 : c.take 5=c:=List.take_of_length_le (by omega)
 have hL:=NZ x c h hO hS 1 0 (by omega) (by omega)
 refine pv e34 (by simp) (by simp only [VV.ak,VV.isPure,x2];rfl) rfl ?_
 simp only [go_sem,seval,c34,x1,x3,x4]
 refine ah (hL) ?_<;>simp only [go_sem,seval]
 exact fin (by rfl) rfl
end Go.V
namespace Go.V
open Go.Proofs
set_option maxRecDepth 100000
def pa : Option Code→Code
 | some (.seq a _)=>a
 | _=>.skip
def po : Option Code→Array Oper
 | some (.seq _ (.seq (.region _ o _) _))=>o
 | _=>#[]
def pb : Option Code→Code
 | some (.seq _ (.seq _ b))=>b
 | _=>.skip
def va : aA→aA
 | .seq a _=>a
 | _=>.skip
def vd : aA→List DO
 | .seq _ (.seq (.draw ds) _)=>ds.take 7
 | _=>[]
def vb : aA→aA
 | .seq _ (.seq _ b)=>b
 | _=>.skip
theorem UQ : Tryz.f50.body=some (.seq (pa Tryz.f50.body) (.seq (.region 1 (po Tryz.f50.body) true) (pb Tryz.f50.body))):=by kernel_rfl
theorem XR : comp lab 25 (pa Tryz.f50.body)=some (va c50):=by kernel_rfl
theorem Xo : comp lab 25 (pb Tryz.f50.body)=some (vb c50):=by kernel_rfl
theorem XE : (GH lab ((po Tryz.f50.body).extract 0 7)).mapM (KR ((po Tryz.f50.body).extract 0 7))=some (vd c50):=by kernel_rfl
theorem Xk : zC ((po Tryz.f50.body).extract 0 7) 25 (vd c50)=true:=by kernel_rfl
theorem Xy : Td (po Tryz.f50.body) 7 25=true:=by kernel_rfl
theorem Wn : (po Tryz.f50.body).size=11:=by kernel_rfl
theorem XM {xs : List VV} {σ : Store} {R : gY→Store→Prop} (hn : xs.length≤25)
  (h : iO Tryz.prog G0 (va c50) (dD (fun ρ σ=>aV Tryz.prog G0 (vd c50) [] (dD (fun ρ σ=>CG Tryz.prog G0 (po Tryz.f50.body) 4 (parts 4 (Array.replicate 7 true)) (dD (fun ρ σ=>iO Tryz.prog G0 (vb c50) (rO Tryz.prog [] R) ρ σ) (rO Tryz.prog [] R)) ρ σ) (dD (fun ρ σ=>iO Tryz.prog G0 (vb c50) (rO Tryz.prog [] R) ρ σ) (rO Tryz.prog [] R))) ρ σ) (rO Tryz.prog [] R)) (dH 0 xs) σ) : CV Tryz.prog G0 50 xs σ R:=by
 refine UA (fn:=Tryz.f50) (by kernel_rfl) UQ (show xs.length≤25 from hn) ?_
 show VW false Tryz.prog G0 none 25 _ (rO Tryz.prog [] R) _ _
 refine MK (iG mix _ _ XR (.inl ⟨rfl,rfl⟩) _ _ _ h) fun ρ σ h=>?_
 refine MK (RY mix (by rw [Wn];decide) XE Xk Xy (by rw [Wn];exact h)) fun ρ σ h=>?_
 exact iG mix _ _ Xo (.inl ⟨rfl,rfl⟩) _ _ _ h
theorem Qh (tI vI : Nat) (s : St) (x : Vl) (c : List VV) (k0 i0 : Int) (t0 : Bs) (kv iv : VV) (K : Int) (xv : Vl) (keys : List (List VV)) (done : List (List VV)) (σ : Store) (hx : x.ok) (hP : PV Tryz.prog G0 22 [x.vv] (.agg c)) (hcB : dh 5 [c]) (hxk : xv.k=K) (htv : tI≠vI)
  (ht : σ[tI]?=some (.own [.int .i64 k0,.int .i64 i0,.str t0,kv,iv])) (hv : σ[vI]?=some (.own xv.cells)) (hk : jZ 1 σ kv keys) (hi : jZ 5 σ iv done) (hkl : keys.length+1≤1000000) (hil : done.length+1≤1000000)
  (sk : ∀ id o n z,kv=.bZ id o n z→id≠tI∧id≠vI) (si : ∀ id o n z,iv=.bZ id o n z→id≠tI∧id≠vI) (ski : ∀ id o n z o' n' z',kv=.bZ id o n z→iv≠.bZ id o' n' z') :
  CV Tryz.prog G0 50 [.agg s.cells,x.vv,.mptr tI 0,.mptr vI 0] σ fun r σ'=>r=.ret (.tup [])∧∃ kv' iv',σ'[tI]?=some (.own [.int .i64 k0,.int .i64 i0,.str t0,kv',iv'])∧jZ 1 σ' kv' (if K=5 then keys++[[.str s.t]] else keys)∧jZ 5 σ' iv' (done++[c])∧(kv'=kv∨EG σ kv')∧(K≠5→kv'=kv)∧EG σ iv' ∧
   (∀ id o n z o' n' z',kv'=.bZ id o n z→iv'≠.bZ id o' n' z')∧High (fun j=>j=tI∨(∃ o n z,kv=.bZ j o n z)∨(∃ o n z,iv=.bZ j o n z)) σ σ':=by
 refine XM (by simp) ?_
 have lt1:=(List.getElem?_eq_some_iff.1 ht).1
 have lt2:=(List.getElem?_eq_some_iff.1 hv).1
 have s1 : s.cells.length=3:=rfl
 have s2 : s.cells.all VV.aC=true:=rfl
 have s3 : s.cells.take 3=s.cells:=rfl
 have x1 : x.cells.length=11:=rfl
 have x2 : x.cells.all VV.aC=true:=hx.cell
 have x3 : x.cells.take 11=x.cells:=rfl
 have t0' : ∀ υ,(σ++υ)[tI]?=some (.own [.int .i64 k0,.int .i64 i0,.str t0,kv,iv]):=fun υ=>by rw [List.getElem?_append_left lt1];exact ht
 have hic:=hi.cell
 have hisl : ∀ {σ},aT Tryz.prog 27 iv σ=okV (.int .i64 done.length) σ:=by intro σ;rw [hi.aT bK]
 simp only [go_sem,seval] at hic
 simp only [go_sem,seval,va,vd,vb,c50,s1,s2,s3,x1,x2,x3,Vl.vv,t0',hisl,hic,SS]
 refine aj (by exact hP) ?_ ?_
 ·simp only [go_sem,seval,t0',hisl,hic,SS]
 simp only [go_sem,seval,t0',hisl,hic,SS]
 have zB : dh 5 [[VV.int .i64 0,.int .i64 0,.str [],.nils,.nils]]:=⟨by simp,by simp [VV.ak,VV.isPure],by simp [VV.aC,aQ]⟩
 refine (hi.snoc _).Ey (ys:=[[VV.int .i64 0,.int .i64 0,.str [],.nils,.nils]]) bK lK oZ lD rfl (by decide) (by decide) zB (by simpa using hil) (by have:=(dG.sl [[VV.int .i64 0,.int .i64 0,.str [],.nils,.nils]] true zB).src (P:=Tryz.prog) (σ:=σ++[Obj.own s.cells,Obj.own x.cells]) bK;simpa using this) fun v1 σ1 g1 K1 N1=>?_
 obtain ⟨id,e,hid⟩:=g1.bZ (by simp)
 rw [List.length_append,List.length_cons,List.length_nil] at e
 subst e
 simp only [go_sem,seval]
 have nid:=N1 id _ _ _ rfl
 simp only [List.length_append,List.length_cons,List.length_nil] at nid
 have t1 : σ1[tI]?=some (.own [.int .i64 k0,.int .i64 i0,.str t0,kv,iv]):=by
  rw [K1.2 tI (by simp;omega) (fun o n z e=>(si _ _ _ _ e).1 rfl)];exact t0' _
 have lid:=(List.getElem?_eq_some_iff.1 hid).1
 have lt1':=(List.getElem?_eq_some_iff.1 t1).1
 have hkc:=hk.cell
 simp only [go_sem,seval] at hkc
 have a1 : (0 : Int)≤(done.length : Int):=by omega
 have a2 : (done.length : Int) < (done.length : Int)+1:=by omega
 have o7 : ((po Tryz.f50.body)[7]?).map (fun o=>(o.dst,o.op,o.type,o.guard))=some (some 13,.indexAddr 27 (.tmp 12) (.tmp 10),0,none):=by kernel_rfl
 have o8 : ((po Tryz.f50.body)[8]?).map (fun o=>(o.dst,o.op,o.type,o.guard))=some (none,.store 29 (.tmp 13) (.tmp 9),0,none):=by kernel_rfl
 have o9 : ((po Tryz.f50.body)[9]?).map (fun o=>(o.dst,o.op,o.type,o.guard))=some (some 14,.fieldAddr 29 (.tmp 2) 4,0,none):=by kernel_rfl
 have o10 : ((po Tryz.f50.body)[10]?).map (fun o=>(o.dst,o.op,o.type,o.guard))=some (none,.store 27 (.tmp 14) (.tmp 12),0,none):=by kernel_rfl
 have cl : c.length=5:=hcB.len _ (by simp)
 have ca : c.all VV.aC=true:=hcB.cell _ (by simp)
 have hfl : done.flatten.length=done.length*5:=hi.blk.flat
 have P1 : List.take (0+(done.length : Int).toNat*5) (done++[[VV.int IntKind.i64 0,VV.int IntKind.i64 0,VV.str [],VV.nils,VV.nils]]).flatten++(c++List.drop (0+(done.length : Int).toNat*5+5) (done++[[VV.int IntKind.i64 0,VV.int IntKind.i64 0,VV.str [],VV.nils,VV.nils]]).flatten)=(done++[c]).flatten:=by
  rw [Int.toNat_natCast,Nat.zero_add,← hfl]
  simp
 have P2 : 0+(done.length : Int).toNat*5+5≤(done++[[VV.int IntKind.i64 0,VV.int IntKind.i64 0,VV.str [],VV.nils,VV.nils]]).flatten.length:=by
  rw [Int.toNat_natCast,Nat.zero_add,← hfl]
  simp
 have nit : id≠tI:=by omega
 have hid2 : ∀ o,(σ1.set tI o)[id]?=some (.own (done++[[VV.int IntKind.i64 0,VV.int IntKind.i64 0,VV.str [],VV.nils,VV.nils]]).flatten):=fun o=>by rw [List.getElem?_set_ne (Ne.symm nit)];exact hid
 have t2 : ∀ o,(σ1.set id o)[tI]?=some (.own [.int .i64 k0,.int .i64 i0,.str t0,kv,iv]):=fun o=>by rw [List.getElem?_set_ne nit];exact t1
 have cm : ∀ a b,(σ1.set tI a).set id b=(σ1.set id b).set tI a:=fun a b=>List.set_comm _ _ (Ne.symm nit)
 refine AX (Q:=dD (fun ρ σ'=>ρ.get 2=.mptr tI 0∧ρ.get 3=.mptr vI 0∧ρ.get 4=.mptr σ.length 0∧σ'=(σ1.set id (.own (done++[c]).flatten)).set tI (.own [.int .i64 k0,.int .i64 i0,.str t0,kv,.bZ id 0 (done.length+1) 5])) fun _ _ _=>False) ?_ _ _ _ _ ?_
 ·rintro o ρ σ2 h
  cases o<;>simp only [dD] at h ⊢
  obtain ⟨q2,q3,q4,rfl⟩:=h
  have x1 : ((σ1.set id (.own (done++[c]).flatten)).set tI (.own [.int .i64 k0,.int .i64 i0,.str t0,kv,.bZ id 0 (done.length+1) 5]))[vI]?=some (.own xv.cells):=by
   rw [List.getElem?_set_ne htv,List.getElem?_set_ne (by omega),K1.2 vI (by simp;omega) (fun o n z e=>(si _ _ _ _ e).2 rfl),List.getElem?_append_left lt2];exact hv
  have x2 : ((σ1.set id (.own (done++[c]).flatten)).set tI (.own [.int .i64 k0,.int .i64 i0,.str t0,kv,.bZ id 0 (done.length+1) 5]))[σ.length]?=some (.own s.cells):=by
   rw [List.getElem?_set_ne (by omega),List.getElem?_set_ne (by omega),K1.2 _ (by simp) (fun o n z e=>by have:=hi.dom e;omega),List.getElem?_append_right (by omega)];simp
  have x3 : ((σ1.set id (.own (done++[c]).flatten)).set tI (.own [.int .i64 k0,.int .i64 i0,.str t0,kv,.bZ id 0 (done.length+1) 5]))[tI]?=some (.own [.int .i64 k0,.int .i64 i0,.str t0,kv,.bZ id 0 (done.length+1) 5]):=List.getElem?_set_self (by simp;omega)
  have x4 : ((σ1.set id (.own (done++[c]).flatten)).set tI (.own [.int .i64 k0,.int .i64 i0,.str t0,kv,.bZ id 0 (done.length+1) 5]))[id]?=some (.own (done++[c]).flatten):=by rw [List.getElem?_set_ne (Ne.symm nit),List.getElem?_set_self (by omega)]
  obtain ⟨σ2,hσ2⟩ : ∃ σ2,σ2=(σ1.set id (.own (done++[c]).flatten)).set tI (.own [.int .i64 k0,.int .i64 i0,.str t0,kv,.bZ id 0 (done.length+1) 5]):=⟨_,rfl⟩
  have g2 : jZ 5 σ2 (.bZ id 0 (done++[c]).length 5) (done++[c]):=.own (hi.blk.append hcB) (by rw [hσ2];exact x4)
  rw [List.length_append,List.length_cons,List.length_nil] at g2
  have L2 : σ2.length=σ1.length:=by rw [hσ2];simp
  have L1 : σ.length+2≤σ1.length:=by have:=K1.1;simpa using this
  have H2 : ∀ j,j < σ.length→j≠tI→(∀ o n z,iv≠.bZ j o n z)→σ2[j]?=σ[j]?:=fun j h1 h2 h3=>by
   rw [hσ2,List.getElem?_set_ne (Ne.symm h2),List.getElem?_set_ne (by omega),K1.2 j (by simp;omega) (fun o n z e=>h3 o n z e),List.getElem?_append_left h1]
  have hk2 : jZ 1 σ2 kv keys:=hk.keep fun j o n z e=>H2 j (hk.dom e) (sk _ _ _ _ e).1 fun o' n' z' e'=>ski _ _ _ _ _ _ _ e e'
  rw [← hσ2] at x1 x2 x3 ⊢
  by_cases h5 : K=5
  ·have b5 : (xv.k == 5)=true:=by rw [hxk];simpa using h5
   simp only [go_sem,seval,q2,q3,q4,x1,x2,x3,Vl.cells,St.cells,b5,hkc,hic]
   have hBs : dh 1 [[VV.str s.t]]:=⟨by simp,by simp [VV.ak,VV.isPure],by simp [VV.aC,aQ]⟩
   refine hk2.step (ys:=[[VV.str s.t]]) dM oD uQ mQ rfl (by decide) (by decide) hBs (by simpa using hkl) ((dG.sl [[VV.str s.t]] true hBs).src dM) fun v3 σ3 g3 K3 N3=>?_
   have x5 : σ3[tI]?=some (.own [.int .i64 k0,.int .i64 i0,.str t0,kv,.bZ id 0 (done.length+1) 5]):=by
    rw [K3.2 tI (by omega) (fun o n z e=>(sk _ _ _ _ e).1 rfl)];exact x3
   have l5:=(List.getElem?_eq_some_iff.1 x5).1
   have g3c:=g3.cell
   have g3u:=iq g3c
   have g3d:=cellC g3c
   simp only [go_sem,seval] at g3c
   simp only [go_sem,seval] at g3u
   simp only [go_sem,seval] at g3d
   simp only [go_sem,seval,q2,x5,g3c,g3u,g3d]
   rw [List.getElem?_set_self l5,if_pos h5]
   have e3:=K3.1
   have n3 : ∀ o n z,v3≠.bZ tI o n z:=fun o n z e=>by have:=N3 _ _ _ _ e;omega
   refine ⟨_,_,rfl,g3.keep fun j o n z e=>List.getElem?_set_ne fun h=>n3 _ _ _ (h ▸ e),(g2.kept K3 fun j o n z o' n' z' e e'=>by cases e;have:=hk.dom e';omega).keep fun j o n z e=>List.getElem?_set_ne (by cases e;omega),.inr fun j o n z e=>by have:=N3 _ _ _ _ e;omega,fun h=>absurd h5 h,fun _ _ _ _ e=>by cases e;omega,fun j o n z o' n' z' e e'=>?_,⟨by simp;omega,fun j h1 h2=>?_⟩⟩
   ·have:=N3 _ _ _ _ e
    cases e'
    omega
   ·rw [List.getElem?_set_ne (fun e=>h2 (.inl e.symm)),K3.2 j (by omega) fun o n z e=>h2 (.inr (.inl ⟨o,n,z,e⟩))]
    exact H2 j h1 (fun e=>h2 (.inl e)) fun o n z e=>h2 (.inr (.inr ⟨o,n,z,e⟩))
  ·have b5 : (xv.k == 5)=false:=by rw [hxk];simpa using h5
   simp only [go_sem,seval,q2,q3,q4,x1,x2,x3,Vl.cells,St.cells,b5]
   rw [if_neg h5]
   refine ⟨_,_,rfl,hk2,g2,.inl rfl,fun _=>rfl,fun _ _ _ _ e=>by cases e;omega,fun j o n z o' n' z' e e'=>?_,⟨by omega,fun j h1 h2=>?_⟩⟩
   ·have:=hk.dom e
    cases e'
    omega
   ·exact H2 j h1 (fun e=>h2 (.inl e)) fun o n z e=>h2 (.inr (.inr ⟨o,n,z,e⟩))
 refine fK (is:=[7,9]) (by kernel_rfl) (by simp) fun i hi=>?_
 simp only [List.mem_cons,List.not_mem_nil,or_false] at hi
 rcases hi with rfl | rfl
 ·refine ⟨_,_,_,o7, ?_⟩
  simp only [go_sem,seval,a1]
  refine ⟨by omega, ?_⟩
  refine fK (is:=[8,9]) (by kernel_rfl) (by simp) fun i hi=>?_
  simp only [List.mem_cons,List.not_mem_nil,or_false] at hi
  rcases hi with rfl | rfl
  ·refine ⟨_,_,_,o8, ?_⟩
   simp only [go_sem,seval,hid,hid2,cl,ca,P1]
   refine ⟨P2, ?_⟩
   refine fK (is:=[9]) (by kernel_rfl) (by simp) fun i hi=>?_
   simp only [List.mem_cons,List.not_mem_nil,or_false] at hi
   obtain rfl:=hi
   refine ⟨_,_,_,o9, ?_⟩
   simp only [go_sem,seval]
   refine fK (is:=[10]) (by kernel_rfl) (by simp) fun i hi=>?_
   simp only [List.mem_cons,List.not_mem_nil,or_false] at hi
   obtain rfl:=hi
   refine ⟨_,_,_,o10, ?_⟩
   simp only [go_sem,seval,t1,t2,hkc,hic]
   exact ⟨by kernel_rfl,rfl,rfl,rfl,rfl⟩
  ·refine ⟨_,_,_,o9, ?_⟩
   simp only [go_sem,seval]
   refine fK (is:=[8,10]) (by kernel_rfl) (by simp) fun i hi=>?_
   simp only [List.mem_cons,List.not_mem_nil,or_false] at hi
   rcases hi with rfl | rfl
   ·refine ⟨_,_,_,o8, ?_⟩
    simp only [go_sem,seval,hid,hid2,cl,ca,P1]
    refine ⟨P2, ?_⟩
    refine fK (is:=[10]) (by kernel_rfl) (by simp) fun i hi=>?_
    simp only [List.mem_cons,List.not_mem_nil,or_false] at hi
    obtain rfl:=hi
    refine ⟨_,_,_,o10, ?_⟩
    simp only [go_sem,seval,t1,t2,hkc,hic]
    exact ⟨by kernel_rfl,rfl,rfl,rfl,rfl⟩
   ·refine ⟨_,_,_,o10, ?_⟩
    simp only [go_sem,seval,t1,t2,hkc,hic]
    refine fK (is:=[8]) (by kernel_rfl) (by simp) fun i hi=>?_
    simp only [List.mem_cons,List.not_mem_nil,or_false] at hi
    obtain rfl:=hi
    refine ⟨_,_,_,o8, ?_⟩
    simp only [go_sem,seval,hid,hid2,cl,ca,P1]
    refine ⟨P2, ?_⟩
    exact ⟨by kernel_rfl,rfl,rfl,rfl,by rw [cm]⟩
 ·refine ⟨_,_,_,o9, ?_⟩
  simp only [go_sem,seval]
  refine fK (is:=[7,10]) (by kernel_rfl) (by simp) fun i hi=>?_
  simp only [List.mem_cons,List.not_mem_nil,or_false] at hi
  rcases hi with rfl | rfl
  ·refine ⟨_,_,_,o7, ?_⟩
   simp only [go_sem,seval,a1]
   refine ⟨by omega, ?_⟩
   refine fK (is:=[8,10]) (by kernel_rfl) (by simp) fun i hi=>?_
   simp only [List.mem_cons,List.not_mem_nil,or_false] at hi
   rcases hi with rfl | rfl
   ·refine ⟨_,_,_,o8, ?_⟩
    simp only [go_sem,seval,hid,hid2,cl,ca,P1]
    refine ⟨P2, ?_⟩
    refine fK (is:=[10]) (by kernel_rfl) (by simp) fun i hi=>?_
    simp only [List.mem_cons,List.not_mem_nil,or_false] at hi
    obtain rfl:=hi
    refine ⟨_,_,_,o10, ?_⟩
    simp only [go_sem,seval,t1,t2,hkc,hic]
    exact ⟨by kernel_rfl,rfl,rfl,rfl,rfl⟩
   ·refine ⟨_,_,_,o10, ?_⟩
    simp only [go_sem,seval,t1,t2,hkc,hic]
    refine fK (is:=[8]) (by kernel_rfl) (by simp) fun i hi=>?_
    simp only [List.mem_cons,List.not_mem_nil,or_false] at hi
    obtain rfl:=hi
    refine ⟨_,_,_,o8, ?_⟩
    simp only [go_sem,seval,hid,hid2,cl,ca,P1]
    refine ⟨P2, ?_⟩
    exact ⟨by kernel_rfl,rfl,rfl,rfl,by rw [cm]⟩
  ·refine ⟨_,_,_,o10, ?_⟩
   simp only [go_sem,seval,t1,t2,hkc,hic]
   refine fK (is:=[7]) (by kernel_rfl) (by simp) fun i hi=>?_
   simp only [List.mem_cons,List.not_mem_nil,or_false] at hi
   obtain rfl:=hi
   refine ⟨_,_,_,o7, ?_⟩
   simp only [go_sem,seval,a1]
   refine ⟨by omega, ?_⟩
   refine fK (is:=[8]) (by kernel_rfl) (by simp) fun i hi=>?_
   simp only [List.mem_cons,List.not_mem_nil,or_false] at hi
   obtain rfl:=hi
   refine ⟨_,_,_,o8, ?_⟩
   simp only [go_sem,seval,hid,hid2,cl,ca,P1]
   refine ⟨P2, ?_⟩
   exact ⟨by kernel_rfl,rfl,rfl,rfl,by rw [cm]⟩
end Go.V
namespace Go.V
open Go.Proofs
set_option maxRecDepth 100000
def strs (l : List Bs) : List (List VV):=l.map fun b=>[VV.str b]
def aaA (x : Vl) (keys : List Bs) (cs : List (List VV)) (i : Nat) (D : DS) (τ : Store) : Prop :=
 ∃ kv iv,τ[2]?=some (.own [.int .i64 x.k,.int .i64 x.si,.str x.st,kv,iv])∧τ[0]?=some (.own x.cells)∧jZ 1 τ kv (strs (keys.take i))∧jZ 5 τ iv (cs.take i)∧(strs (keys.take i)=[]→kv=.nils)∧(cs.take i=[]→iv=.nils) ∧
  (∀ id o n z,kv=.bZ id o n z→3≤id)∧(∀ id o n z,iv=.bZ id o n z→3≤id)∧(∀ id o n z o' n' z',kv=.bZ id o n z→iv≠.bZ id o' n' z')∧∀ id,D id↔id=0∨id=2∨(∃ o n z,kv=.bZ id o n z)∨∃ o n z,iv=.bZ id o n z
theorem aaA.cls (x : Vl) (keys : List Bs) (cs : List (List VV)) (hcs : dh 5 cs) (hl : cs.length≤1000000) (hkl : x.k=5→keys.length=cs.length) (hk0 : x.k≠5→keys=[]) (A : Nat→List VV→Prop)
  (hA : ∀ i args,(h : i < cs.length)→A i args→∃ (s : St) (y : Vl),args=[.agg s.cells,y.vv]∧y.ok∧PV Tryz.prog G0 22 [y.vv] (.agg cs[i])∧(x.k=5→keys[i]?=some s.t)) : Cls (.fn (.func 50) [] [.mptr 2 0,.mptr 0 0]) (aaA x keys cs) A 0 cs.length (.tup []):=by
 refine ⟨?_, ?_, ?_⟩
 ·rintro i D τ ⟨kv,iv,h2,h0,g1,g2,_,_,_,_,_,hD⟩ id hid
  rcases (hD id).1 hid with rfl | rfl | ⟨o,n,z,e⟩ | ⟨o,n,z,e⟩
  ·exact (List.getElem?_eq_some_iff.1 h0).1
  ·exact (List.getElem?_eq_some_iff.1 h2).1
  ·exact g1.dom e
  ·exact g2.dom e
 ·rintro i D τ τ' ⟨kv,iv,h2,h0,g1,g2,n1,n2,s1,s2,s3,hD⟩ hlow
  exact ⟨kv,iv,(hlow.same 2 ((hD 2).2 (.inr (.inl rfl)))).trans h2,(hlow.same 0 ((hD 0).2 (.inl rfl))).trans h0,g1.keep fun id o n z e=>hlow.same id ((hD id).2 (.inr (.inr (.inl ⟨o,n,z,e⟩)))),g2.keep fun id o n z e=>hlow.same id ((hD id).2 (.inr (.inr (.inr ⟨o,n,z,e⟩)))),n1,n2,s1,s2,s3,hD⟩
 ·rintro i D τ args _ hi ha ⟨kv,iv,h2,h0,g1,g2,n1,n2,s1,s2,s3,hD⟩
  obtain ⟨s,y,rfl,hy,hP,hK⟩:=hA i args hi ha
  have l2:=(List.getElem?_eq_some_iff.1 h2).1
  have hcB : dh 5 [cs[i]]:=⟨fun c hc=>by simp at hc;subst hc;exact hcs.len _ (List.getElem_mem hi),fun c hc=>by simp at hc;subst hc;exact hcs.pure _ (List.getElem_mem hi),fun c hc=>by simp at hc;subst hc;exact hcs.cell _ (List.getElem_mem hi)⟩
  refine ⟨uf, ?_⟩
  refine CV.mono (Qh 2 0 s y cs[i] x.k x.si x.st kv iv x.k x (strs (keys.take i)) (cs.take i) τ hy hP hcB rfl (by decide) h2 h0 g1 g2 (by simp only [strs,List.length_map,List.length_take];omega) (by simp only [List.length_take];omega) (fun id o n z e=>by have:=s1 _ _ _ _ e;omega) (fun id o n z e=>by have:=s2 _ _ _ _ e;omega) s3) ?_
  rintro _ τ' ⟨rfl,kv',iv',k2,k3,k4,k5,k6,k7,k8,k9⟩
  have e1 : (if x.k=5 then strs (keys.take i)++[[VV.str s.t]] else strs (keys.take i))=strs (keys.take (i+1)):=by
   split
   ·rename_i h5
    have h:=hK h5
    rw [List.take_add_one,h]
    simp [strs]
   ·rename_i h5
    rw [hk0 h5];simp
  have e2 : cs.take i++[cs[i]]=cs.take (i+1):=by rw [List.take_succ_eq_append_getElem hi]
  rw [e1] at k3
  rw [e2] at k4
  have p1 : ∀ id o n z,kv'=.bZ id o n z→3≤id:=fun id o n z e=>by
   rcases k5 with rfl | k5
   ·exact s1 _ _ _ _ e
   ·have:=k5 _ _ _ _ e;omega
  have p2 : ∀ id o n z,iv'=.bZ id o n z→3≤id:=fun id o n z e=>by have:=k7 _ _ _ _ e;omega
  refine ⟨rfl,fun id=>id=0∨id=2∨(∃ o n z,kv'=.bZ id o n z)∨∃ o n z,iv'=.bZ id o n z,⟨kv',iv',k2, ?_,k3,k4,fun h=>?_,fun h=>?_,p1,p2,k8,fun _=>.rfl⟩,fun id hid=>?_,⟨k9.len,fun id a b=>k9.same id a fun hc=>b ((hD id).2 ?_)⟩⟩
  ·rw [k9.same 0 (by omega) (by
    rintro (h | ⟨o,n,z,e⟩ | ⟨o,n,z,e⟩)
    ·cases h
    ·have:=s1 _ _ _ _ e;omega
    ·have:=s2 _ _ _ _ e;omega)];exact h0
  ·by_cases h5 : x.k=5
   ·exfalso
    have h:=congrArg List.length h
    simp only [strs,List.length_map,List.length_take,List.length_nil] at h
    have:=hkl h5
    omega
   ·rw [k6 h5]
    exact n1 (by rw [hk0 h5];simp [strs])
  ·exfalso
   have h:=congrArg List.length h
   simp only [List.length_take,List.length_nil] at h
   omega
  ·rcases hid with rfl | rfl | ⟨o,n,z,e⟩ | ⟨o,n,z,e⟩
   ·exact .inl ((hD 0).2 (.inl rfl))
   ·exact .inl ((hD 2).2 (.inr (.inl rfl)))
   ·rcases k5 with rfl | k5
    ·exact .inl ((hD id).2 (.inr (.inr (.inl ⟨o,n,z,e⟩))))
    ·exact .inr (k5 _ _ _ _ e)
   ·exact .inr (k7 _ _ _ _ e)
  ·rcases hc with rfl | ⟨o,n,z,e⟩ | ⟨o,n,z,e⟩
   ·exact .inr (.inl rfl)
   ·exact .inr (.inr (.inl ⟨o,n,z,e⟩))
   ·exact .inr (.inr (.inr ⟨o,n,z,e⟩))
end Go.V
namespace Go.V
def T.len : T→Nat
 | .sc _ _ _=>0
 | .vec l=>l.length
 | .map l=>l.length
 | .set l=>l.length
def T.atKey : T→Bs→Option T
 | .map l,k=>lk l k
 | _,_=>none
def T.OH : T→Nat→Option T
 | .vec l,i=>l[i]?
 | _,_=>none
def gV (i : Int) (n : Nat) : Option Nat:=if n=0∨(n : Int)≤i∨(n : Int)+i < 0 then none else some (if 0≤i then i.toNat else (n+i).toNat)
structure Sg where
 k : Int
 i : Int
 lo : Int
 hi : Int
 t : Bs
def T.step (v : T) (s : Sg) : Option T:=if s.k=0 then v.atKey s.t else match gV s.i v.len with
 | none=>none
 | some j=>if s.k=1 then v.OH j else none
def T.walk : T→List Sg→Option T
 | v,[]=>some v
 | v,s::r=>match v.step s with
  | none=>none
  | some w=>w.walk r
theorem MG : ∀ {l : List T} {v : T},v ∈ l→v.nd≤T.oQ l
 | x::l,v,h=>by
  simp only [T.oQ]
  rcases List.mem_cons.1 h with rfl | h
  ·omega
  ·have:=MG h;omega
theorem Pz : ∀ {l : List (Bs × T)} {p : Bs × T},p ∈ l→p.2.nd≤T.mP l
 | x::l,v,h=>by
  simp only [T.mP]
  rcases List.mem_cons.1 h with rfl | h
  ·omega
  ·have:=Pz h;omega
end Go.V
namespace Go.V
def DI (a b : Int) : Int:=if a < b then -1 else if b < a then 1 else 0
def Ve (k i : Int) (t : Bs) (k' i' : Int) (t' : Bs) : Int:=if DI k k'≠0 then DI k k' else if DI i i'≠0 then DI i i' else tH t t'
def T.kq : T→Int
 | .sc k _ _=>k
 | .vec _=>4
 | .map _=>5
 | .set _=>6
mutual
def T.ord : T→T→Int
 | .sc k i t,.sc k' i' t'=>Ve k i t k' i' t'
 | .vec l,.vec m=>T.Zt l m
 | .map l,.map m=>T.ZB l m
 | .set l,.set m=>T.Zt l m
 | v,w=>DI v.kq w.kq
def T.Zt : List T→List T→Int
 | [],[]=>0
 | [],_::_=>-1
 | _::_,[]=>1
 | x::l,y::m=>if x.ord y≠0 then x.ord y else T.Zt l m
def T.ZB : List (Bs × T)→List (Bs × T)→Int
 | [],[]=>0
 | [],_::_=>-1
 | _::_,[]=>1
 | p::l,q::m=>if tH p.1 q.1≠0 then tH p.1 q.1 else if p.2.ord q.2≠0 then p.2.ord q.2 else T.ZB l m
end
def Cmp (n : Int) (a b : Bs) : Prop:=(n < 0∧∀ r r',bl (a++r) (b++r')=true)∨(0 < n∧∀ r r',bl (b++r') (a++r)=true)
theorem ZT (p x y : Bs) : bl (p++x) (p++y)=bl x y:=by
 induction p with
 | nil=>rfl
 | cons a p ih =>
  have:=vC a a (p++x) (p++y)
  rw [ih] at this
  simp only [List.cons_append]
  cases h1 : bl x y<;>cases h2 : bl (a::(p++x)) (a::(p++y))<;>simp_all
theorem aal {a b : UInt8} (h : a < b) (x y : Bs) : bl (a::x) (b::y)=true:=(vC a b x y).2 (.inl h)
theorem ZH {a : UInt8} {x y : Bs} (h : bl x y=true) : bl (a::x) (a::y)=true:=(vC a a x y).2 (.inr ⟨rfl,h⟩)
theorem Yp (s t : Bs) : (tH s t=-1∧bl s t=true)∨(tH s t=0∧s=t)∨(tH s t=1∧bl t s=true):=by
 unfold tH
 by_cases h : bl s t=true
 ·exact .inl ⟨by rw [if_pos h],h⟩
 ·by_cases e : s=t
  ·subst e;exact .inr (.inl ⟨by simp [jA],rfl⟩)
  ·refine .inr (.inr ⟨?_,ER h e⟩)
   rw [if_neg h,if_pos]
   simp [h,e]
theorem Fe (a b : Int) : (DI a b=-1∧a < b)∨(DI a b=0∧a=b)∨(DI a b=1∧b < a):=by
 unfold DI
 rcases Int.lt_trichotomy a b with h | h | h
 ·exact .inl ⟨by rw [if_pos h],h⟩
 ·subst h;exact .inr (.inl ⟨by simp,rfl⟩)
 ·exact .inr (.inr ⟨by rw [if_neg (by omega),if_pos h],h⟩)
theorem Cmp.lt {n : Int} {a b : Bs} (hn : n=-1) (h : ∀ r r',bl (a++r) (b++r')=true) : Cmp n a b:=.inl ⟨by omega,h⟩
theorem Cmp.cons {n : Int} {a b : Bs} {c : UInt8} (h : Cmp n a b) : Cmp n (c::a) (c::b):=h.imp (fun h=>⟨h.1,fun r r'=>ZH (h.2 r r')⟩) (fun h=>⟨h.1,fun r r'=>ZH (h.2 r r')⟩)
theorem Cmp.app {n : Int} {a b : Bs} (h : Cmp n a b) (x y : Bs) : Cmp n (a++x) (b++y):=h.imp (fun h=>⟨h.1,fun r r'=>by rw [List.append_assoc,List.append_assoc];exact h.2 _ _⟩) (fun h=>⟨h.1,fun r r'=>by rw [List.append_assoc,List.append_assoc];exact h.2 _ _⟩)
theorem Cmp.pre {n : Int} {a b : Bs} (h : Cmp n a b) (p : Bs) : Cmp n (p++a) (p++b):=h.imp (fun h=>⟨h.1,fun r r'=>by rw [List.append_assoc,List.append_assoc,ZT];exact h.2 _ _⟩) (fun h=>⟨h.1,fun r r'=>by rw [List.append_assoc,List.append_assoc,ZT];exact h.2 _ _⟩)
theorem Cmp.ne {n : Int} {a b : Bs} (h : Cmp n a b) : n≠0:=by rcases h with h | h<;>omega
theorem Cmp.nil {c : UInt8} (hc : c≠0) (x y : Bs) : Cmp (-1) (0::x) (c::y):=.lt rfl fun r r'=>aal (by rw [UInt8.lt_iff_toNat_lt];have : c.toNat≠0:=fun e=>hc (UInt8.toNat_inj.1 e);have e : (0 : UInt8).toNat=0:=rfl;omega) _ _
end Go.V
