/- Texts L9 F77 L10 F78. -/
import Derived.Test.YthhjefemijhamaaGreatDoorG41
set_option linter.unusedVariables false
set_option linter.unusedSimpArgs false
namespace Go.V
def mb : Nat→Bs
 | 0=>[]
 | i+1=>mb i++((if 0 < i then [44] else [])++[55])
def mc : Nat→Bs
 | 0=>[93]
 | k+1=>44::55::mc k
theorem mb_mc (k : Nat) : ∀ i,0 < i→mb (i+k)++[93]=mb i++mc k:=by
 induction k with
 | zero=>intro i _;rfl
 | succ k ih =>
  intro i hi
  have h1:=ih (i+1) (by omega)
  rw [show i+(k+1)=i+1+k by omega,h1]
  simp [mb,mc,hi]
def manyS (n : Nat) : Bs:=91::(mb n++[93])
theorem manyS_zero : manyS 0=[91,93]:=rfl
theorem manyS_succ (k : Nat) : manyS (k+1)=91::55::mc k:=by
 unfold manyS
 rw [show k+1=1+k by omega,mb_mc k 1 (by omega)]
 rfl
theorem mb_len (n : Nat) : (mb n).length=if n=0 then 0 else 2*n-1:=by
 induction n with
 | zero=>rfl
 | succ n ih =>
  rw [mb,List.length_append,ih]
  by_cases h : n=0
  ·subst h;rfl
  ·rw [if_neg h,if_pos (by omega),if_neg (by omega)];simp;omega
theorem manyS_len (n : Nat) : (manyS n).length=if n=0 then 2 else 2*n+1:=by
 unfold manyS
 rw [List.length_cons,List.length_append,mb_len]
 split
 ·rfl
 ·simp;omega
abbrev seven : T:=.sc 2 7 []
theorem rd_seven {s : Bs} {p : Nat} {d : UInt8} {rest : Bs} (f n q : Nat) (h : s.drop p=55::d::rest) (hd : digB d=false) (hq : q≤64) : rd (f+1) s p n q .val=if 16384 < n+1 then some (.er 8 p) else some (.ok seven (p+1) (n+1)):=by
 rw [rd,Md.isVal,if_pos rfl,tok_seven h hd]
 simp only [beginP,if_true]
 rw [if_neg (by omega)]
theorem rd_many (k : Nat) : ∀ (s : Bs) (j f : Nat),s.drop (1+2*j)=55::mc k→j≤16383→k+2≤f→rd f s (1+2*j : Nat) (1+j) 1 (.vec (List.replicate j seven))=some (if j+k+1 < 16384 then .ok (.vec (List.replicate (j+k+1) seven)) (2*(j+k+1)+1) (j+k+2) else .er 8 32767):=by
 induction k with
 | zero =>
  intro s j f hs hj hf
  obtain ⟨f,rfl⟩ : ∃ f',f=f'+2:=⟨f-2,by omega⟩
  rw [rd,if_neg (by simp [Md.isVal])]
  simp only [one]
  rw [rd_seven f (1+j) (1+1) hs (by decide) (by omega)]
  by_cases h : 16384 < 1+j+1
  ·rw [if_pos h]
   simp only
   rw [if_neg (by omega),show 1+2*j=32767 by omega]
  ·rw [if_neg h]
   simp only
   have h2 : s.drop (1+2*j+1)=[93]:=by rw [← List.drop_drop,hs];rfl
   rw [tok_close h2,if_pos (by omega)]
   simp only [Md.cl,Md.fin]
   rw [if_neg (by decide),if_pos (by decide)]
   rw [← List.replicate_succ',show j+0+1=j+1 by omega,show 1+2*j+1+1=2*(j+1)+1 by omega,show 1+j+1=j+0+2 by omega]
 | succ k ih =>
  intro s j f hs hj hf
  obtain ⟨f,rfl⟩ : ∃ f',f=f'+2:=⟨f-2,by omega⟩
  rw [rd,if_neg (by simp [Md.isVal])]
  simp only [one]
  rw [rd_seven f (1+j) (1+1) hs (by decide) (by omega)]
  by_cases h : 16384 < 1+j+1
  ·rw [if_pos h]
   simp only
   rw [if_neg (by omega),show 1+2*j=32767 by omega]
  ·rw [if_neg h]
   simp only
   have h2 : s.drop (1+2*j+1)=44::55::mc k:=by rw [← List.drop_drop,hs];rfl
   have h3 : s.drop (1+2*(j+1))=55::mc k:=by rw [show 1+2*(j+1)=1+2*j+1+1 by omega,← List.drop_drop,h2];rfl
   rw [tok_comma h2]
   simp only [and_self,if_true]
   rw [← List.replicate_succ',show ((1+2*j+1+1 : Nat) : Int)=((1+2*(j+1) : Nat) : Int) by omega,show 1+j+1=1+(j+1) by omega,ih s (j+1) (f+1) h3 (by omega) (by omega),show j+1+k+1=j+(k+1)+1 by omega,show j+1+k+2=j+(k+1)+2 by omega]
theorem rdP_many (n : Nat) (hn : n≤16484) : ∃ f,rdP f (manyS n)=some (if n < 16384 then .ok (.vec (List.replicate n seven)) (n+1) else .er 8 32767):=by
 cases n with
 | zero=>exact ⟨5,by rw [manyS_zero];rfl⟩
 | succ k =>
  refine ⟨k+4, ?_⟩
  have hlen:=manyS_len (k+1)
  rw [if_neg (by omega)] at hlen
  unfold rdP
  rw [if_neg (by omega)]
  have h0 : (manyS (k+1)).drop 0=91::55::mc k:=manyS_succ k
  have h1 : (manyS (k+1)).drop 1=55::mc k:=by rw [manyS_succ];rfl
  have hr : rd (k+4) (manyS (k+1)) 0 0 1 .val=rd (k+3) (manyS (k+1)) (1+2*0 : Nat) (1+0) 1 (.vec (List.replicate 0 seven)):=by
   have ho:=tok_open h0
   rw [show ((0 : Nat) : Int)=0 from rfl] at ho
   rw [rd,Md.isVal,if_pos rfl,ho]
   simp only [beginP]
   rw [if_neg (by decide),if_neg (by decide),if_pos (by decide),if_pos (by decide)]
   simp only
   rw [if_neg (by omega),if_neg (by omega),if_neg (by decide)]
   have h7 : peekP (manyS (k+1)) (0+1 : Nat)=.tok 3 1 2 7 []:=by
    cases k with
    | zero=>exact tok_seven h1 (by decide)
    | succ k=>exact tok_seven h1 (by decide)
   rw [h7]
   simp only
   rw [if_neg (by simp)]
   rfl
  rw [hr,rd_many k (manyS (k+1)) 0 (k+3) h1 (by omega) (by omega)]
  by_cases h : 0+k+1 < 16384
  ·rw [if_pos h,if_pos (by omega)]
   simp only
   have h2 : lexNext (manyS (k+1)) (2*(0+k+1)+1 : Nat)=.tok 0 (2*(k+1)+1) (2*(k+1)+1) 0 []:=by
    have : (2*(0+k+1)+1 : Nat)=(manyS (k+1)).length:=by omega
    rw [this,lexNext_end,hlen]
   rw [h2]
   simp only [if_true]
   rw [show 0+k+1=k+1 by omega,show 0+k+2=k+1+1 by omega]
  ·rw [if_neg h,if_neg (by omega)]
end Go.V
namespace Go.V
open Go.Proofs
set_option maxRecDepth 100000
theorem vec_rp {l : List T} {x : Vl} (h : RVl (.vec l) x) : x.n=0∧∃ xs,RP x.root xs∧xs.length=l.length:=by
 generalize hv : T.vec l=v at h
 cases h with
 | vec items h ho root hR =>
  cases hv
  exact ⟨rfl,_,hR,by simp⟩
 | _=>cases hv
theorem conf_not (seed bits : Int) : ∀ b : Bs,[VV.int .u64 seed,.int .i64 bits]≠b.map byteCell:=by
 intro b e
 cases b with
 | nil=>cases e
 | cons c b=>simp [byteCell] at e
theorem l_Many (seed bits n : Int) (hn : -9223372036854775808≤n∧n≤9223372036854775807) : PV Tryz.prog G0 6 [.agg [.int .u64 seed,.int .i64 bits],.int .i64 n] (.bool true):=by
 have hL:=p_live
 refine pv e6 (by simp) rfl rfl ?_
 by_cases h1 : n < 0
 ·have b1 : decide (n < 0)=true:=decide_eq_true h1
  simp only [go_sem,seval,c6]
  refine callO_pure (hL) ?_<;>simp only [go_sem,seval,Bool.not_true,b1]
  refine callO_pure (hL) ?_<;>simp only [go_sem,seval]
  exact fin (by rfl) rfl
 have b1 : decide (n < 0)=false:=decide_eq_false h1
 by_cases h2 : 16484 < n
 ·have b2 : decide (16484 < n)=true:=decide_eq_true h2
  simp only [go_sem,seval,c6]
  refine callO_pure (hL) ?_<;>simp only [go_sem,seval,Bool.not_true,Bool.not_false,b1,b2]
  refine callO_pure (hL) ?_<;>simp only [go_sem,seval]
  exact fin (by rfl) rfl
 have b2 : decide (16484 < n)=false:=decide_eq_false h2
 obtain ⟨N,rfl⟩ : ∃ N : Nat,n=N:=⟨n.toNat,by omega⟩
 obtain ⟨f,hf⟩:=rdP_many N (by omega)
 have hml:=manyS_len N
 have hmb:=mb_len N
 simp only [go_sem,seval,c6]
 refine callO_pure (hL) ?_<;>simp only [go_sem,seval,Bool.not_true,Bool.not_false,b1,b2]
 refine wpV_cutB (M:=fun ρ τ=>∃ bb,ρ.get 1=.int .i64 N∧ρ.get 2=.mptr 0 0∧ρ.get 5=bb∧τ[0]?=some (.own [.int .u64 seed,.int .i64 bits])∧BSl τ bb (91::mb N)) ?_ ?_
 rotate_left
 ·refine wpV_loop_inv (fun m ρ τ=>∃ (i : Nat) (bb : VV),m=N-i∧i≤N∧ρ.get 1=.int .i64 N∧ρ.get 2=.mptr 0 0∧ρ.get 5=bb∧ρ.get 21=.int .i64 N∧ρ.get 22=.int .i64 i∧τ[0]?=some (.own [.int .u64 seed,.int .i64 bits])∧BSl τ bb (91::mb i)) (n:=N) ?_ ⟨0,_,rfl,by omega,rfl,rfl,rfl,rfl,rfl,rfl, ?_⟩
  rotate_left
  ·exact .inr (.inl rfl)
  rintro m ρ τ ⟨i,bb,rfl,hi,q1,q2,q5,q21,q22,hc0,hB⟩
  simp only [go_sem,seval,q1,q2,q5,q21,q22]
  refine condO_split (fun hc=>?_) (fun hc=>?_)
  rotate_left
  ·have hc' : i=N:=by simp at hc;omega
   subst hc'
   simp only [go_sem,seval,q1,q2,q5]
   exact ⟨hc0,hB⟩
  have hc' : i < N:=by simpa using hc
  have hml':=mb_len i
  have c6 : IntKind.i64.wrap ((i : Int)+1)=((i+1 : Nat) : Int):=by rw [iw (by omega)];omega
  have hmi : (mb i).length≤40000:=by rw [hml'];split<;>omega
  simp only [go_sem,seval,q1,q2,q5,q21,q22]
  refine condO_mono (cut1 (M:=fun ρ τ=>∃ bb,ρ.get 1=.int .i64 N∧ρ.get 2=.mptr 0 0∧ρ.get 5=bb∧ρ.get 21=.int .i64 N∧ρ.get 22=.int .i64 i∧τ[0]?=some (.own [.int .u64 seed,.int .i64 bits])∧BSl τ bb (91::(mb i++(if 0 < i then [44] else [])))) ?_) ?_
  rotate_left
  ·refine condO_split (fun hc=>?_) (fun hc=>?_)
   ·have h0 : 0 < i:=by simpa using hc
    rw [if_pos h0]
    simp only [go_sem,seval,q1,q2,q5,q21,q22]
    refine hB.stepApp (src_one (c:=44)) (by simp;omega) fun v3 σ3 a1 a2 a3=>?_
    simp only [go_sem,seval,q1,q2,q5,q21,q22]
    exact ⟨by rw [a2.2 0 (List.getElem?_eq_some_iff.1 hc0).1 (hB.not hc0 (conf_not seed bits))];exact hc0,by simpa using a1⟩
   ·have h0 : ¬ 0 < i:=by simpa using hc
    rw [if_neg h0]
    simp only [go_sem,seval,q1,q2,q5,q21,q22]
    exact ⟨hc0,by simpa using hB⟩
  rintro ρ τ2 ⟨bb2,q1,q2,q5,q21,q22,hc2,hB2⟩
  have hif : (if 0 < i then ([44] : Bs) else []).length≤1:=by split<;>simp
  simp only [go_sem,seval,q1,q2,q5,q21,q22]
  refine hB2.stepApp (src_one (c:=55)) (by simp only [List.length_cons,List.length_append,List.length_nil];omega) fun v3 σ3 a1 a2 a3=>?_
  simp only [go_sem,seval,q1,q2,q5,q21,q22,c6]
  refine ⟨N-(i+1),by omega,i+1,v3,rfl,by omega, ?_⟩
  have hc3 : σ3[0]?=some (.own [.int .u64 seed,.int .i64 bits]):=by rw [a2.2 0 (List.getElem?_eq_some_iff.1 hc2).1 (hB2.not hc2 (conf_not seed bits))];exact hc2
  and_intros
  all_goals first | rfl | assumption | (simpa [mb,List.append_assoc] using a1)
 ·rintro ρ τ ⟨bb,q1,q2,q5,hc0,hB⟩
  simp only [go_sem,seval,q1,q2,q5]
  refine hB.stepApp (src_one (c:=93)) (by rw [List.length_cons,hmb];simp;split<;>omega) fun v3 σ3 a1 a2 a3=>?_
  have hc3 : σ3[0]?=some (.own [.int .u64 seed,.int .i64 bits]):=by rw [a2.2 0 (List.getElem?_eq_some_iff.1 hc0).1 (hB.not hc0 (conf_not seed bits))];exact hc0
  rw [show (91::mb N++[93] : Bs)=manyS N by simp [manyS]] at a1
  simp only [go_sem,seval,q1,q2,hc3,a1.conv]
  refine CV.mono (c_Parse f seed bits (manyS N) _ σ3 (by rw [hml];split<;>omega) hf) ?_
  rintro r σ4 hQ
  by_cases h3 : N < 16384
  ·rw [if_pos h3] at hQ
   obtain ⟨x,hv,hxo,hxb,hxn,hnn,rfl,hC⟩:=hQ
   obtain ⟨hx0,xs,hR,hxl⟩:=vec_rp hv
   simp at hxl
   have b3 : decide ((N : Int) < 16384)=true:=decide_eq_true (by omega)
   have hLen:=p_vLen x hxo xs hR 0 (by simpa using hx0) (by omega)
   have hNod:=p_Nodes x hxo
   rw [hxl,Nat.add_zero] at hLen
   rw [hxn] at hNod
   simp only [Vl.vv] at hLen hNod
   have d1 : x.cells.length=11:=rfl
   have d2 : x.cells.all VV.isCell=true:=hxo.cell
   have d3 : x.cells.take 11=x.cells:=rfl
   have e1 : IntKind.i64.wrap ((N : Int)+1)=((N+1 : Nat) : Int):=by rw [iw (by omega)];omega
   simp only [go_sem,seval,resK,Vl.vv,q1,b3,d1,d2,d3,SS]
   refine callO_pure (hLen) ?_<;>simp only [go_sem,seval,q1,d1,d2,d3,SS]
   refine callO_pure (hNod) ?_<;>simp only [go_sem,seval,q1,e1]
   exact fin (by rfl) (by simp)
  ·rw [if_neg h3] at hQ
   obtain ⟨rfl,hC⟩:=hQ
   have b3 : decide ((N : Int) < 16384)=false:=decide_eq_false (by omega)
   have hA:=p_At 8 32767 32767 8
   have hF : faultV ((8 : Nat) : Int) ((32767 : Nat) : Int)=faultV 8 32767:=rfl
   have z1 : Vl.zero.cells.length=11:=rfl
   have z2 : Vl.zero.cells.all VV.isCell=true:=rfl
   have z3 : Vl.zero.cells.take 11=Vl.zero.cells:=rfl
   obtain ⟨w,hw⟩:=faultV_ne (e:=8) 32767 (by omega)
   rw [hw] at hA
   simp only [go_sem,seval,resK,Vl.vv,hF,hw,q1,b3,z1,z2,z3,SS]
   refine callO_pure (hA) ?_<;>simp only [go_sem,seval]
   exact fin (by rfl) rfl
end Go.V
namespace Go.V
def nest : Nat→T
 | 0=>.vec []
 | k+1=>.vec [nest k]
def deepS (d : Nat) : Bs:=List.replicate d 91++List.replicate d 93
theorem deepS_len (d : Nat) : (deepS d).length=2*d:=by simp [deepS];omega
theorem rd_deep (k : Nat) : ∀ (s : Bs) (p d f : Nat),d=p+(k+1)→p≤64→s.drop p=List.replicate (k+1) 91++List.replicate d 93→2*k+2≤f→rd f s p p (p+1) .val=some (if d≤64 then .ok (nest k) (p+2*(k+1)) d else .er 7 64):=by
 induction k with
 | zero =>
  intro s p d f hd hp hs hf
  obtain ⟨f,rfl⟩ : ∃ f',f=f'+2:=⟨f-2,by omega⟩
  subst hd
  have h0 : s.drop p=91::93::List.replicate p 93:=by rw [hs];rfl
  rw [rd,Md.isVal,if_pos rfl,tok_open h0]
  simp only [beginP]
  rw [if_neg (by decide),if_neg (by decide),if_pos (by decide),if_pos (by decide)]
  simp only
  by_cases h64 : 64 < p+1
  ·rw [if_pos h64,if_neg (by omega),show p=64 by omega]
  ·rw [if_neg h64,if_neg (by omega),if_neg (by decide)]
   have h1 : s.drop (p+1)=93::List.replicate p 93:=by rw [← List.drop_drop,h0];rfl
   rw [tok_close h1]
   simp only [openM,Md.cl,Md.fin,if_true,and_self]
   rw [if_pos (by omega)]
   rfl
 | succ k ih =>
  intro s p d f hd hp hs hf
  obtain ⟨f,rfl⟩ : ∃ f',f=f'+2:=⟨f-2,by omega⟩
  have h0 : s.drop p=91::91::(List.replicate k 91++List.replicate d 93):=by rw [hs];rfl
  have h1 : s.drop (p+1)=List.replicate (k+1) 91++List.replicate d 93:=by rw [← List.drop_drop,h0];rfl
  have h1' : s.drop (p+1)=91::(List.replicate k 91++List.replicate d 93):=by rw [h1];rfl
  rw [rd,Md.isVal,if_pos rfl,tok_open h0]
  simp only [beginP]
  rw [if_neg (by decide),if_neg (by decide),if_pos (by decide),if_pos (by decide)]
  simp only
  by_cases h64 : 64 < p+1
  ·rw [if_pos h64,if_neg (by omega),show p=64 by omega]
  ·rw [if_neg h64,if_neg (by omega),if_neg (by decide),tok_open h1']
   simp only [openM,if_true]
   rw [if_neg (by decide),rd,if_neg (by simp [Md.isVal])]
   simp only [one]
   rw [ih s (p+1) d f (by omega) (by omega) h1 (by omega)]
   by_cases hd64 : d≤64
   ·rw [if_pos hd64,if_pos hd64]
    simp only
    have h2 : s.drop (p+1+2*(k+1))=93::List.replicate p 93:=by
     rw [← List.drop_drop,h1,List.drop_append,List.drop_replicate,List.drop_replicate,List.length_replicate,show k+1-2*(k+1)=0 by omega,show d-(2*(k+1)-(k+1))=p+1 by omega]
     rfl
    rw [tok_close h2]
    simp only [Md.cl]
    rw [if_neg (by decide),if_pos (by decide),show p+1+2*(k+1)+1=p+2*(k+1+1) by omega]
    rfl
   ·rw [if_neg hd64,if_neg hd64]
theorem rdP_deep (d : Nat) (h1 : 1≤d) (h2 : d≤200) : ∃ f,rdP f (deepS d)=some (if d≤64 then .ok (nest (d-1)) d else .er 7 64):=by
 obtain ⟨k,rfl⟩ : ∃ k,d=k+1:=⟨d-1,by omega⟩
 refine ⟨2*k+2, ?_⟩
 have hl:=deepS_len (k+1)
 have hr:=rd_deep k (deepS (k+1)) 0 (k+1) (2*k+2) (by omega) (by omega) rfl (by omega)
 unfold rdP
 rw [if_neg (by omega)]
 rw [show ((0 : Nat) : Int)=0 from rfl] at hr
 rw [hr]
 by_cases h : k+1≤64
 ·rw [if_pos h,if_pos h]
  simp only
  have : 0+2*(k+1)=(deepS (k+1)).length:=by omega
  rw [this,lexNext_end]
  rfl
 ·rw [if_neg h,if_neg h]
theorem nest_enc (k : Nat) : (nest k).enc=deepS (k+1):=by
 induction k with
 | zero=>rfl
 | succ k ih =>
  unfold nest
  simp only [T.enc,T.encs,Bool.false_eq_true,if_false,List.nil_append,List.append_nil,ih,deepS]
  rw [List.replicate_succ (n:=k+1),List.replicate_succ' (n:=k+1) (a:=(93 : UInt8))]
  simp
end Go.V
namespace Go.V
open Go.Proofs
set_option maxRecDepth 100000
theorem nest_below : ∀ (k : Nat) {x : Vl},RVl (nest k) x→x.below=k
 | 0,x,h=>by
  unfold nest at h
  generalize hv : T.vec []=v at h
  cases h with
  | vec items h ho root hR =>
   cases items with
   | nil=>rfl
   | cons p items=>cases hv
  | _=>cases hv
 | k+1,x,h=>by
  unfold nest at h
  generalize hv : T.vec [nest k]=v at h
  cases h with
  | vec items h ho root hR =>
   cases items with
   | nil=>cases hv
   | cons p items =>
    cases items with
    | cons p' items=>simp at hv
    | nil =>
     simp only [List.map_cons,List.map_nil,T.vec.injEq,List.cons.injEq,and_true] at hv
     have:=nest_below k (x:=p.2) (by rw [hv];exact h p (by simp))
     simp [maxD,this]
  | _=>cases hv
theorem l_Deep (seed bits n : Int) (hn : -9223372036854775808≤n∧n≤9223372036854775807) : PV Tryz.prog G0 5 [.agg [.int .u64 seed,.int .i64 bits],.int .i64 n] (.bool true):=by
 have hL:=p_live
 refine pv e5 (by simp) rfl rfl ?_
 by_cases h1 : n < 1
 ·have b1 : decide (n < 1)=true:=decide_eq_true h1
  simp only [go_sem,seval,c5]
  refine callO_pure (hL) ?_<;>simp only [go_sem,seval,Bool.not_true,b1]
  refine callO_pure (hL) ?_<;>simp only [go_sem,seval]
  exact fin (by rfl) rfl
 have b1 : decide (n < 1)=false:=decide_eq_false h1
 by_cases h2 : 200 < n
 ·have b2 : decide (200 < n)=true:=decide_eq_true h2
  simp only [go_sem,seval,c5]
  refine callO_pure (hL) ?_<;>simp only [go_sem,seval,Bool.not_true,Bool.not_false,b1,b2]
  refine callO_pure (hL) ?_<;>simp only [go_sem,seval]
  exact fin (by rfl) rfl
 have b2 : decide (200 < n)=false:=decide_eq_false h2
 obtain ⟨N,rfl⟩ : ∃ N : Nat,n=N:=⟨n.toNat,by omega⟩
 obtain ⟨f,hf⟩:=rdP_deep N (by omega) (by omega)
 have hdl:=deepS_len N
 simp only [go_sem,seval,c5]
 refine callO_pure (hL) ?_<;>simp only [go_sem,seval,Bool.not_true,Bool.not_false,b1,b2]
 refine wpV_cutB (M:=fun ρ τ=>∃ bb,ρ.get 1=.int .i64 N∧ρ.get 2=.mptr 0 0∧ρ.get 5=bb∧τ[0]?=some (.own [.int .u64 seed,.int .i64 bits])∧BSl τ bb (List.replicate N 91)) ?_ ?_
 rotate_left
 ·refine wpV_loop_inv (fun m ρ τ=>∃ (i : Nat) (bb : VV),m=N-i∧i≤N∧ρ.get 1=.int .i64 N∧ρ.get 2=.mptr 0 0∧ρ.get 5=bb∧ρ.get 20=.int .i64 N∧ρ.get 21=.int .i64 i∧τ[0]?=some (.own [.int .u64 seed,.int .i64 bits])∧BSl τ bb (List.replicate i 91)) (n:=N) ?_ ⟨0,_,rfl,by omega,rfl,rfl,rfl,rfl,rfl,rfl, ?_⟩
  rotate_left
  ·exact .inr (.inl rfl)
  rintro m ρ τ ⟨i,bb,rfl,hi,q1,q2,q5,q20,q21,hc0,hB⟩
  simp only [go_sem,seval,q1,q2,q5,q20,q21]
  refine condO_split (fun hc=>?_) (fun hc=>?_)
  rotate_left
  ·have hc' : i=N:=by simp at hc;omega
   subst hc'
   simp only [go_sem,seval,q1,q2,q5]
   exact ⟨hc0,hB⟩
  have hc' : i < N:=by simpa using hc
  have c6 : IntKind.i64.wrap ((i : Int)+1)=((i+1 : Nat) : Int):=by rw [iw (by omega)];omega
  simp only [go_sem,seval,q1,q2,q5,q20,q21]
  refine hB.stepApp (src_one (c:=91)) (by simp;omega) fun v3 σ3 a1 a2 a3=>?_
  simp only [go_sem,seval,q1,q2,q5,q20,q21,c6]
  refine ⟨N-(i+1),by omega,i+1,v3,rfl,by omega, ?_⟩
  have hc3 : σ3[0]?=some (.own [.int .u64 seed,.int .i64 bits]):=by rw [a2.2 0 (List.getElem?_eq_some_iff.1 hc0).1 (hB.not hc0 (conf_not seed bits))];exact hc0
  rw [← List.replicate_succ'] at a1
  and_intros
  all_goals first | rfl | assumption
 rintro ρ τ ⟨bb,q1,q2,q5,hc0,hB⟩
 simp only [go_sem,seval,q1,q2,q5]
 refine wpV_cutB (M:=fun ρ τ=>∃ bb,ρ.get 1=.int .i64 N∧ρ.get 2=.mptr 0 0∧ρ.get 5=bb∧τ[0]?=some (.own [.int .u64 seed,.int .i64 bits])∧BSl τ bb (deepS N)) ?_ ?_
 rotate_left
 ·refine wpV_loop_inv (fun m ρ τ=>∃ (i : Nat) (bb : VV),m=N-i∧i≤N∧ρ.get 1=.int .i64 N∧ρ.get 2=.mptr 0 0∧ρ.get 5=bb∧ρ.get 27=.int .i64 N∧ρ.get 28=.int .i64 i∧τ[0]?=some (.own [.int .u64 seed,.int .i64 bits])∧BSl τ bb (List.replicate N 91++List.replicate i 93)) (n:=N) ?_ ⟨0,bb,rfl,by omega,q1,q2,q5,rfl,rfl,hc0,by simpa using hB⟩
  rintro m ρ τ ⟨i,bb,rfl,hi,q1,q2,q5,q20,q21,hc0,hB⟩
  simp only [go_sem,seval,q1,q2,q5,q20,q21]
  refine condO_split (fun hc=>?_) (fun hc=>?_)
  rotate_left
  ·have hc' : i=N:=by simp at hc;omega
   subst hc'
   simp only [go_sem,seval,q1,q2,q5]
   exact ⟨hc0,hB⟩
  have hc' : i < N:=by simpa using hc
  have c6 : IntKind.i64.wrap ((i : Int)+1)=((i+1 : Nat) : Int):=by rw [iw (by omega)];omega
  simp only [go_sem,seval,q1,q2,q5,q20,q21]
  refine hB.stepApp (src_one (c:=93)) (by simp;omega) fun v3 σ3 a1 a2 a3=>?_
  simp only [go_sem,seval,q1,q2,q5,q20,q21,c6]
  refine ⟨N-(i+1),by omega,i+1,v3,rfl,by omega, ?_⟩
  have hc3 : σ3[0]?=some (.own [.int .u64 seed,.int .i64 bits]):=by rw [a2.2 0 (List.getElem?_eq_some_iff.1 hc0).1 (hB.not hc0 (conf_not seed bits))];exact hc0
  rw [List.append_assoc,← List.replicate_succ'] at a1
  and_intros
  all_goals first | rfl | assumption
 ·rintro ρ τ ⟨bb,q1,q2,q5,hc0,hB⟩
  refine wpV_seq_cut (M:=fun ρ τ'=>ρ.get 1=.int .i64 N∧ρ.get 5=bb∧BSl τ' bb (deepS N)∧∃ k,ρ.get 6=.mptr k 0∧((N≤64∧ρ.get 7=.nili∧∃ x,RVl (nest (N-1)) x∧x.ok∧τ'[k]?=some (.own x.cells))∨(64 < N∧τ'[k]?=some (.own Vl.zero.cells)∧ρ.get 7=faultV 7 64))) ?_ ?_
  ·simp only [go_sem,seval,q1,q2,q5,hc0,hB.conv]
   refine CV.mono (c_Parse f seed bits (deepS N) _ τ (by omega) hf) ?_
   rintro r σ4 hQ
   have hB4 : ∀ σ',Ch (fun _=>False) τ σ'→BSl σ' bb (deepS N):=fun σ' hC=>hB.low fun id o n z e=>hC.same id (hB.dom e) (by simp)
   by_cases h3 : N≤64
   ·rw [if_pos h3] at hQ
    obtain ⟨x,hv,hxo,hxb,hxn,hnn,rfl,hC⟩:=hQ
    have d1 : x.cells.length=11:=rfl
    have d2 : x.cells.all VV.isCell=true:=hxo.cell
    have d3 : x.cells.take 11=x.cells:=rfl
    simp only [go_sem,seval,resK,Vl.vv,q1,q5,d1,d2,d3,SS]
    exact ⟨(hB4 σ4 hC).snoc _,_,rfl,.inl ⟨h3,x,hv,hxo,by simp⟩⟩
   ·rw [if_neg h3] at hQ
    obtain ⟨rfl,hC⟩:=hQ
    have z1 : Vl.zero.cells.length=11:=rfl
    have z2 : Vl.zero.cells.all VV.isCell=true:=rfl
    have z3 : Vl.zero.cells.take 11=Vl.zero.cells:=rfl
    simp only [go_sem,seval,resK,Vl.vv,q1,q5,z1,z2,z3,SS]
    exact ⟨(hB4 σ4 hC).snoc _,_,rfl,.inr ⟨by omega,by simp⟩⟩
  rintro ρ τ4 ⟨q1,q5,hB4,k,q6,⟨h3,q7,x,hv,hxo,hx⟩ | ⟨h3,hx,q7⟩⟩
  ·have b3 : decide (64 < (N : Int))=false:=decide_eq_false (by omega)
   have hD:=p_Depth x hxo
   have hE:=p_Encode hv hxo (by rw [nest_enc,deepS_len];omega)
   rw [nest_enc,show N-1+1=N by omega] at hE
   rw [nest_below _ hv,show N-1+1=N by omega] at hD
   simp only [Vl.vv] at hD hE
   have d1 : x.cells.length=11:=rfl
   have d2 : x.cells.all VV.isCell=true:=hxo.cell
   have d3 : x.cells.take 11=x.cells:=rfl
   refine wpV_seq_cut (M:=fun ρ τ'=>ρ.get 1=.int .i64 N∧ρ.get 5=bb∧ρ.get 6=.mptr k 0∧ρ.get 7=.nili∧τ'=τ4) ?_ ?_
   ·simp only [go_sem,seval,q1,q5,q6,q7,b3]
   rintro ρ _ ⟨q1,q5,q6,q7,rfl⟩
   simp only [go_sem,seval,q1,q5,q6,q7,hx,d1,d2,d3]
   refine dcallO_pure (hD) (by simp only [go_sem,seval,q1,q5,q6,q7,hx,d1,d2,d3]) ?_<;>simp only [go_sem,seval,q1,q5,q6,q7,hx,d1,d2,d3]
   refine dpureO_of (hE) ?_<;>simp only [go_sem,seval,q1,q5,q6,q7,hx,hB4.conv]
   exact fin (by rfl) (by simp)
  ·have b3 : decide (64 < (N : Int))=true:=decide_eq_true (by omega)
   have hA:=p_At 7 64 64 7
   have hK:=p_vKind Vl.zero zero_ok
   simp only [Vl.vv] at hK
   have z1 : Vl.zero.cells.length=11:=rfl
   have z2 : Vl.zero.cells.all VV.isCell=true:=rfl
   have z3 : Vl.zero.cells.take 11=Vl.zero.cells:=rfl
   obtain ⟨w,hw⟩:=faultV_ne (e:=7) 64 (by omega)
   rw [hw] at hA q7
   simp only [go_sem,seval,q1,q6,q7,b3]
   refine callO_pure (hA) ?_<;>simp only [go_sem,seval,q6,hx,z1,z2,z3]
   refine callO_pure (hK) ?_<;>simp only [go_sem,seval]
   exact fin (by rfl) rfl
end Go.V
