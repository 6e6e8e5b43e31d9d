/- Texts F153 F154 F155. -/
import Derived.Test.YtgmhpemjlbgfcaaGreatDoorG45
import Derived.Test.YtgmhpemjlbgfcaaGreatDoorG48
set_option linter.unusedVariables false
set_option linter.unusedSimpArgs false
namespace Go.V
open Go.Proofs
set_option maxRecDepth 100000
def Zj : List Am→List Bool→Option (List Bool)
 | [],st=>some st
 | a::l,st=>if a.right=true then (match CW st a.k with
  | none=>none
  | some st'=>Zj l st') else none
def Ij (l : List Am) : Prop:=Zj l []=some [true]
theorem aaN (l : List Am) : ∀ (i : Nat) (st : List Bool),(JG l i st).1=0↔Zj l st=some [true]:=by
 induction l with
 | nil =>
  intro i st
  unfold JG Zj
  by_cases h : st=[true]
  ·simp [h]
  ·simp [h]
 | cons a l ih =>
  intro i st
  unfold JG Zj
  by_cases h : a.right=true
  ·rw [if_pos h,if_pos h]
   cases hd : CW st a.k with
   | none=>simp
   | some st'=>exact ih _ _
  ·rw [if_neg h,if_neg h];simp
theorem Zb (l : List Am) : (WA l).1=0↔l.length≤64∧Ij l:=by
 unfold WA
 by_cases h : 64 < l.length
 ·rw [if_pos h];constructor
  ·intro h;cases h
  ·intro h2;omega
 ·rw [if_neg h,aaN];exact ⟨fun h2=>⟨by omega,h2⟩,fun h2=>h2.2⟩
theorem Xr (a b : List Am) : ∀ st,Zj (a++b) st=(Zj a st).bind (Zj b):=by
 induction a with
 | nil=>intro st;rfl
 | cons x a ih =>
  intro st
  simp only [List.cons_append,Zj]
  split
  ·cases CW st x.k with
   | none=>rfl
   | some st'=>exact ih st'
  ·rfl
theorem ZO {st st' : List Bool} {n : Nat} {b : Bool} (q : List Bool) (h : CX st n b=some st') : CX (q++st) n b=some (q++st'):=by
 unfold CX at h ⊢
 split at h
 ·cases h
 ·rename_i h1
  split at h
  ·rename_i h2
   cases h
   have e : (q++st).length-n=q.length+(st.length-n):=by simp;omega
   rw [if_neg (by simp;omega),e,List.drop_append,List.take_append]
   have e1 : List.drop (q.length+(st.length-n)) q=[]:=List.drop_eq_nil_of_le (by omega)
   have e2 : List.take (q.length+(st.length-n)) q=q:=List.take_of_length_le (by omega)
   rw [e1,e2,show q.length+(st.length-n)-q.length=st.length-n by omega,List.nil_append,if_pos h2]
  ·cases h
theorem Z4 {st st' : List Bool} {k : Int} (q : List Bool) (h : CW st k=some st') : CW (q++st) k=some (q++st'):=by
 have key : ∀ {n b},(CX st n b).map (·++[true])=some st'→(CX (q++st) n b).map (·++[true])=some (q++st'):=by
  intro n b h
  rw [Option.map_eq_some_iff] at h
  obtain ⟨s,h1,rfl⟩:=h
  rw [ZO q h1];simp
 unfold CW at h ⊢
 split at h
 ·rename_i h1;rw [if_pos h1];exact key h
 ·rename_i h1;rw [if_neg h1]
  split at h
  ·rename_i h1;rw [if_pos h1];exact key h
  ·rename_i h1;rw [if_neg h1]
   split at h
   ·rename_i h1;rw [if_pos h1];exact key h
   ·rename_i h1;rw [if_neg h1];cases h;simp
theorem aaD (l : List Am) : ∀ {st st' : List Bool} (q : List Bool),Zj l st=some st'→Zj l (q++st)=some (q++st'):=by
 induction l with
 | nil=>intro st st' q h;simp only [Zj] at h ⊢;cases h;rfl
 | cons a l ih =>
  intro st st' q h
  simp only [Zj] at h ⊢
  split at h
  ·rename_i h1
   rw [if_pos h1]
   cases hd : CW st a.k with
   | none=>rw [hd] at h;cases h
   | some s =>
    rw [hd] at h
    rw [Z4 q hd]
    exact ih q h
  ·cases h
theorem ZI {l : List Am} (h : Ij l) (q : List Bool) : Zj l q=some (q++[true]):=by
 have:=aaD l q h
 simpa using this
theorem aaE {st st' : List Bool} {a : Am} {v : T} {its : List Jv} (q : List Jv) (h : CW st a.k=some st') (hl : st.length=its.length) : Zh v (its++q) a=Zh v its a++q:=by
 obtain ⟨-,h5,h6,h7⟩:=Uk (v:=v) h hl
 unfold Zh
 by_cases k5 : a.k=5
 ·obtain ⟨b,x,r,rfl⟩:=h5 k5
  rw [if_pos k5,if_pos k5];rfl
 rw [if_neg k5,if_neg k5]
 by_cases k6 : a.k=6
 ·obtain ⟨x,r,rfl⟩:=h6 k6
  rw [if_pos k6,if_pos k6];rfl
 rw [if_neg k6,if_neg k6]
 by_cases k7 : a.k=7
 ·obtain ⟨b,x,r,rfl⟩:=h7 (.inl k7)
  rw [if_pos k7,if_pos k7];rfl
 rw [if_neg k7,if_neg k7]
 by_cases k8 : a.k=8
 ·obtain ⟨b,x,r,rfl⟩:=h7 (.inr k8)
  rw [if_pos k8,if_pos k8];rfl
 rw [if_neg k8,if_neg k8];rfl
theorem Z5 (v : T) (l : List Am) : ∀ {st st' : List Bool} {its : List Jv} (q : List Jv),Zj l st=some st'→st.length=its.length→Zy v l (its++q)=Zy v l its++q∧(Zy v l its).length=st'.length:=by
 induction l with
 | nil=>intro st st' its q h hl;simp only [Zj] at h;cases h;exact ⟨rfl,hl.symm⟩
 | cons a l ih =>
  intro st st' its q h hl
  simp only [Zj] at h
  split at h
  ·cases hd : CW st a.k with
   | none=>rw [hd] at h;cases h
   | some s =>
    rw [hd] at h
    obtain ⟨hlen,-⟩:=Uk (v:=v) hd hl
    simp only [Zy]
    rw [aaE q hd hl]
    exact ih q h hlen.symm
  ·cases h
theorem Yo (v : T) (a b : List Am) : ∀ st,Zy v (a++b) st=Zy v b (Zy v a st):=by
 induction a with
 | nil=>intro st;rfl
 | cons x a ih=>intro st;exact ih _
theorem Yp {l : List Am} (h : Ij l) (v : T) : ∃ i : Jv,i.holds=holdsA l v∧∀ q,Zy v l q=i::q:=by
 have h0:=(Z5 v l (its:=[]) [] h rfl).2
 obtain ⟨i,hi⟩ : ∃ i,Zy v l []=[i]:=by
  match hh : Zy v l [],h0 with
  | [i],_=>exact ⟨i,rfl⟩
 refine ⟨i,by unfold holdsA;rw [hi],fun q=>?_⟩
 have:=(Z5 v l (its:=[]) q h rfl).1
 rw [List.nil_append,hi] at this
 exact this
theorem Yu {l : List Am} {v : T} {i : Jv} {r : List Jv} (h : Zy v l []=i::r) : holdsA l v=i.holds:=by unfold holdsA;rw [h]
def nA (k : Int) : Am:=⟨k,[],0,0,0,[]⟩
theorem YL {a : List Am} (ha : Ij a) (v : T) : Ij (a++[nA 6])∧holdsA (a++[nA 6]) v=!holdsA a v:=by
 obtain ⟨i,h1,h2⟩:=Yp ha v
 refine ⟨?_, ?_⟩
 ·unfold Ij;rw [Xr,ha];rfl
 ·rw [← h1];exact Yu (i:=tr (!i.holds)) (r:=[]) (by rw [Yo,h2];rfl)
theorem ZW {a b : List Am} (ha : Ij a) (hb : Ij b) (v : T) : Ij (a++b++[nA 7])∧holdsA (a++b++[nA 7]) v=(holdsA a v && holdsA b v):=by
 obtain ⟨i,h1,h2⟩:=Yp ha v
 obtain ⟨j,h3,h4⟩:=Yp hb v
 refine ⟨?_, ?_⟩
 ·unfold Ij;rw [Xr,Xr,ha,Option.bind_some,ZI hb];rfl
 ·rw [← h1,← h3];exact Yu (i:=tr (i.holds && j.holds)) (r:=[]) (by rw [Yo,Yo,h2,h4];rfl)
theorem ZK {a b : List Am} (ha : Ij a) (hb : Ij b) (v : T) : Ij (a++b++[nA 8])∧holdsA (a++b++[nA 8]) v=(holdsA a v || holdsA b v):=by
 obtain ⟨i,h1,h2⟩:=Yp ha v
 obtain ⟨j,h3,h4⟩:=Yp hb v
 refine ⟨?_, ?_⟩
 ·unfold Ij;rw [Xr,Xr,ha,Option.bind_some,ZI hb];rfl
 ·rw [← h1,← h3];exact Yu (i:=tr (i.holds || j.holds)) (r:=[]) (by rw [Yo,Yo,h2,h4];rfl)
end Go.V
namespace Go.V
open Go.Proofs
set_option maxRecDepth 100000
def Rq (l : List Am) : Bool:=l.all (fun a=>yV a.p && decide (a.ct.length≤300)) && decide (l.length≤100)
theorem Zx (l : List Am) (v : VV) (cs : List (List VV)) (hv : dG 6 v cs) (hl : YX l cs) (hll : l.length≤9223372036854775807) : PV Tryz.prog G0 11 [v] (.bool (Rq l)):=by
 have hvp:=hv.pure
 have hvc:=hv.cell
 simp only [go_sem,seval] at hvc
 have lp : ∀ {σ},aT Tryz.prog 25 v σ=okV (.int .i64 l.length) σ:=by intro σ;rw [hv.aT Dp,hl.1]
 have a0 : ∀ j : Nat,(0 : Int)≤(j : Int):=fun j=>by omega
 refine pv e11 (by simp) (by simp only [VV.ak,VV.isPure,hvp];rfl) rfl ?_
 simp only [go_sem,seval,c11,hvc,lp]
 refine bf (M:=fun ρ τ=>ρ.get 0=v∧∀ (i : Nat) (h : i < l.length),(yV l[i].p && decide (l[i].ct.length≤300))=true) ?_ ?_
 ·rintro ρ τ ⟨q0,hall⟩
  simp only [go_sem,seval,q0,lp]
  refine fin (by rfl) ?_
  have e : l.all (fun a=>yV a.p && decide (a.ct.length≤300))=true:=by
   rw [List.all_eq_true]
   intro s hs
   obtain ⟨i,hi,rfl⟩:=List.getElem_of_mem hs
   exact hall i hi
  unfold Rq
  rw [e,Bool.true_and]
  congr 1
  rw [decide_eq_decide]
  omega
 refine aF (fun m ρ τ=>∃ j : Nat,m=l.length-j∧j≤l.length∧(∀ (i : Nat) (h : i < l.length),i < j→(yV l[i].p && decide (l[i].ct.length≤300))=true)∧ρ.get 0=v∧ρ.get 5=v∧ρ.get 6=.int .i64 l.length∧ρ.get 7=.int .i64 j) (n:=l.length) ?_ ⟨0,rfl,by omega,fun _ _ h=>absurd h (Nat.not_lt_zero _),rfl,rfl,rfl,rfl⟩
 rintro m ρ τ ⟨j,rfl,hj,hall,q0,q5,q6,q7⟩
 by_cases hc' : j < l.length
 rotate_left
 ·have a5 : decide ((j : Int) < (l.length : Int))=false:=decide_eq_false (by omega)
  simp only [go_sem,seval,q0,q6,q7,a5]
  exact fun i h=>hall i h (by omega)
 have hcs : j < cs.length:=by rw [hl.1];exact hc'
 obtain ⟨tg,hit,a3,a4⟩:=hv.jr hcs
 rw [hl.1] at hit
 have a2 : (j : Int) < (l.length : Int):=by omega
 have a5 : decide ((j : Int) < (l.length : Int))=true:=decide_eq_true a2
 have a6 : IntKind.i64.wrap ((j : Int)+1)=((j+1 : Nat) : Int):=by rw [iw (by omega)];omega
 have hA:=hl.2 j hc' hcs
 obtain ⟨s1,s0,s2⟩:=hA.cells
 have s3 : cs[j].take 6=cs[j]:=List.take_of_length_le (by omega)
 have bad : (yV l[j].p && decide (l[j].ct.length≤300))=false→Rq l=false:=fun h=>by
  unfold Rq
  rw [List.all_eq_false.2 ⟨_,List.getElem_mem hc',by rw [h];decide⟩,Bool.false_and]
 have good : (yV l[j].p && decide (l[j].ct.length≤300))=true→∀ (i : Nat) (h : i < l.length),i < j+1→(yV l[i].p && decide (l[i].ct.length≤300))=true:=fun h i hi h1=>by
  rcases Nat.lt_succ_iff_lt_or_eq.1 h1 with h1 | rfl
  ·exact hall i hi h1
  ·exact h
 generalize cs[j]=cc at *
 generalize l[j]=a at *
 cases hA with
 | @mk pw hpw hpl hpi hpci =>
 have hS:=Qu a.p pw hpw hpl
 have tA0 : (τ++[Obj.own (a.cells pw)])[τ.length]?=some (.own (a.cells pw)):=by simp
 have g1 : (a.cells pw).getD 1 .undef=pw:=rfl
 have g5 : (a.cells pw).getD 5 .undef=.str a.ct:=rfl
 have hpc:=hpw.cell
 simp only [go_sem,seval] at hpc
 cases hs : yV a.p with
 | false =>
  rw [hs] at hS
  rw [bad (by rw [hs];rfl)]
  simp only [go_sem,seval,q0,q5,q6,q7,hit,a0,a2,a3,a4,a5,Int.toNat_natCast,s1,s2,s3,tA0,g1,SS]
  (first | refine ah (hS) ?_ | refine aK (hS) ?_ | refine aI (hS) ?_ | refine aj (hS) (by simp only [go_sem,seval,q0,Bool.not_false]) ?_ | refine aj (hS) ?_ ?_)<;>simp only [go_sem,seval,q0,Bool.not_false]
  exact fin (by rfl) rfl
 | true =>
 rw [hs] at hS
 by_cases ht : a.ct.length≤300
 ·have b : decide ((300 : Int) < (a.ct.length : Int))=false:=decide_eq_false (by omega)
  simp only [go_sem,seval,q0,q5,q6,q7,hit,a0,a2,a3,a4,a5,Int.toNat_natCast,s1,s2,s3,tA0,g1,SS]
  (first | refine ah (hS) ?_ | refine aK (hS) ?_ | refine aI (hS) ?_ | refine aj (hS) (by simp only [go_sem,seval,q0,q5,q6,q7,Bool.not_true,s1,tA0,g5,b,a6]) ?_ | refine aj (hS) ?_ ?_)<;>simp only [go_sem,seval,q0,q5,q6,q7,Bool.not_true,s1,tA0,g5,b,a6]
  exact ⟨l.length-(j+1),by omega,j+1,rfl,by omega,good (by rw [hs];simpa using ht),hit,hit,rfl⟩
 ·have b : decide ((300 : Int) < (a.ct.length : Int))=true:=decide_eq_true (by omega)
  rw [bad (by rw [hs];simpa using ht)]
  simp only [go_sem,seval,q0,q5,q6,q7,hit,a0,a2,a3,a4,a5,Int.toNat_natCast,s1,s2,s3,tA0,g1,SS]
  (first | refine ah (hS) ?_ | refine aK (hS) ?_ | refine aI (hS) ?_ | refine aj (hS) (by simp only [go_sem,seval,q0,q5,q6,q7,Bool.not_true,s1,tA0,g5,b]) ?_ | refine aj (hS) ?_ ?_)<;>simp only [go_sem,seval,q0,q5,q6,q7,Bool.not_true,s1,tA0,g5,b]
  exact fin (by rfl) rfl
theorem aaH (k : Int) : AmV (nA k) ((nA k).cells .nils):=.mk .nil (by simp [nA]) (fun s h=>by simp [nA] at h) (by simp [nA])
theorem AmV.blk {a : Am} {c : List VV} (h : AmV a c) : dh 6 [c]:=by
 obtain ⟨h1,h2,h3⟩:=h.cells
 exact ⟨by simpa using h1,by simpa using h2,by simpa [aQ] using h3⟩
theorem YX.app {a b : List Am} {ca cb : List (List VV)} (ha : YX a ca) (hb : YX b cb) : YX (a++b) (ca++cb):=by
 refine ⟨by simp [ha.1,hb.1],fun j h h'=>?_⟩
 by_cases hlt : j < a.length
 ·rw [List.getElem_append_left hlt,List.getElem_append_left (by rw [ha.1];exact hlt)]
  exact ha.2 j hlt _
 ·rw [List.getElem_append_right (by omega),List.getElem_append_right (by rw [ha.1];omega)]
  have:=ha.1
  simp only [this]
  exact hb.2 _ _ _
theorem YX.one {a : Am} {c : List VV} (h : AmV a c) : YX [a] [c]:=⟨rfl,fun j h1 h2=>by
 have : j=0:=by simpa using h1
 subst this;exact h⟩
theorem ZX (k : Int) (lvs : List VV) (css : List (List (List VV))) (hlen : css.length=lvs.length) (h : ∀ (j : Nat) (h : j < lvs.length) (h' : j < css.length),dG 6 lvs[j] css[j]) (hl : lvs.length≤100) (hs : css.flatten.length≤1000) :
  ∃ r,dG 6 r (css.flatten++[(nA k).cells .nils])∧PV Tryz.prog G0 16 [.int .i64 k,.sl lvs.length lvs true] r:=by
 have hB : dh 6 css.flatten:=by
  have key : ∀ (css : List (List (List VV))),(∀ c ∈ css,dh 6 c)→dh 6 css.flatten:=by
   intro css
   induction css with
   | nil=>intro _;exact .nil
   | cons c r ih=>intro h;exact (h c (by simp)).append (ih fun x hx=>h x (by simp [hx]))
  refine key css fun c hc=>?_
  obtain ⟨j,hj,rfl⟩:=List.getElem_of_mem hc
  exact (h j (by omega) hj).blk
 have hBA : dh 6 [(nA k).cells .nils]:=(aaH k).blk
 refine ⟨_,.sl _ false (hB.append hBA), ?_⟩
 have hpp : VV.ak lvs=true:=by
  have key : ∀ l : List VV,(∀ v ∈ l,v.isPure=true)→VV.ak l=true:=by
   intro l
   induction l with
   | nil=>intro _;rfl
   | cons v l ih=>intro h;simp only [VV.ak,h v (by simp),ih fun x hx=>h x (by simp [hx])];rfl
  refine key _ fun v hv=>?_
  obtain ⟨j,hj,rfl⟩:=List.getElem_of_mem hv
  exact (h j hj (by omega)).pure
 refine pv e16 (by simp) (by simp only [VV.ak,VV.isPure,hpp];rfl) (by simp only [VV.isPure];exact (hB.append hBA).pW) ?_
 have a0 : ∀ j : Nat,(0 : Int)≤(j : Int):=fun j=>by omega
 simp only [go_sem,seval,c16]
 refine bf (M:=fun ρ τ=>ρ.get 0=.int .i64 k∧jZ 6 τ (ρ.get 5) css.flatten) ?_ ?_
 ·rintro ρ τ ⟨q0,hG⟩
  have hc:=hG.cell
  simp only [go_sem,seval,q0,hc]
  refine hG.step (ys:=[(nA k).cells .nils]) Dp Zp Zv YS rfl (by decide) (by decide) hBA (by rw [List.length_singleton];omega) (by exact (dG.sl [(nA k).cells .nils] true hBA).src (P:=Tryz.prog) (σ:=τ) Dp) fun v' σ' g K N=>?_
  simp only [go_sem,seval]
  exact ⟨_,1,rfl,g.fz (by simp) 0⟩
 refine aF (fun m ρ τ=>∃ j : Nat,m=lvs.length-j∧j≤lvs.length∧jZ 6 τ (ρ.get 5) (css.take j).flatten∧ρ.get 0=.int .i64 k∧ρ.get 9=.sl lvs.length lvs true∧ρ.get 10=.int .i64 lvs.length∧ρ.get 11=.int .i64 j) (n:=lvs.length) ?_ ⟨0,rfl,by omega,.emp,rfl,rfl,rfl,rfl⟩
 rintro m ρ τ ⟨j,rfl,hj,hG,q0,q9,q10,q11⟩
 by_cases hc' : j < lvs.length
 rotate_left
 ·have a5 : decide ((j : Int) < (lvs.length : Int))=false:=decide_eq_false (by omega)
  rw [List.take_of_length_le (by omega)] at hG
  simp only [go_sem,seval,q0,q10,q11,a5]
  exact hG
 have hj' : j < css.length:=by omega
 have hS:=h j hc' hj'
 have a2 : (j : Int) < (lvs.length : Int):=by omega
 have a3 : j*1 < lvs.length:=by omega
 have a4 : lvs.getD (j*1) .undef=lvs[j]:=by rw [Nat.mul_one,List.getD_eq_getElem?_getD,List.getElem?_eq_getElem hc'];rfl
 have a5 : decide ((j : Int) < (lvs.length : Int))=true:=decide_eq_true a2
 have a6 : IntKind.i64.wrap ((j : Int)+1)=((j+1 : Nat) : Int):=by rw [iw (by omega)];omega
 have e1 : (css.take (j+1)).flatten=(css.take j).flatten++css[j]:=by rw [List.take_succ_eq_append_getElem hj',List.flatten_append,List.flatten_singleton]
 have hle : (css.take j).flatten.length+css[j].length≤css.flatten.length:=by
  have e2 : css.flatten=(css.take (j+1)).flatten++(css.drop (j+1)).flatten:=by rw [← List.flatten_append,List.take_append_drop]
  rw [e2,e1,List.length_append,List.length_append];omega
 obtain ⟨w,hw⟩ : ∃ w,w=ρ.get 5:=⟨_,rfl⟩
 rw [← hw] at hG
 have hc:=hG.cell
 have hc2:=hS.cell
 simp only [go_sem,seval,q0,q9,q10,q11,← hw,a0,a2,a3,a4,a5,Int.toNat_natCast]
 refine hG.step (ys:=css[j]) Dp Zp Zv YS rfl (by decide) (by decide) hS.blk (by omega) (hS.src Dp) fun v' σ' g K N=>?_
 simp only [go_sem,seval,q0,q9,q10,q11,a6]
 exact ⟨lvs.length-(j+1),by omega,j+1,rfl,by omega,by rw [e1];exact g,rfl⟩
end Go.V
namespace Go.V
open Go.Proofs
set_option maxRecDepth 100000
theorem dG.Yv {k : Nat} {v : VV} {xs : List (List VV)} (h : dG k v xs) : v.cells=[v]:=by cases h<;>rfl
theorem dG.und {k : Nat} {v : VV} {xs : List (List VV)} (h : dG k v xs) : v.uD=false:=by cases h<;>rfl
def FV (l : List Am) (v : VV) : Prop:=∃ cs,dG 6 v cs∧YX l cs
theorem Zf {l : List Am} {v : VV} (h : FV l v) (k : Int) (hl : l.length≤500) : ∃ r,FV (l++[nA k]) r∧PV Tryz.prog G0 16 [.int .i64 k,.sl 1 [v] true] r:=by
 obtain ⟨cs,h1,h2⟩:=h
 have hc:=h2.1
 obtain ⟨r,hr,hp⟩:=ZX k [v] [cs] rfl (fun j hj hj'=>by
  have : j=0:=by simpa using hj
  subst this;exact h1) (by simp) (by simp;omega)
 exact ⟨r,⟨_,hr,by simpa using h2.app (.one (aaH k))⟩,hp⟩
theorem Y8 {a b : List Am} {u v : VV} (ha : FV a u) (hb : FV b v) (k : Int) (hl : a.length+b.length≤500) : ∃ r,FV (a++b++[nA k]) r∧PV Tryz.prog G0 16 [.int .i64 k,.sl 2 [u,v] true] r:=by
 obtain ⟨ca,h1,h2⟩:=ha
 obtain ⟨cb,g1,g2⟩:=hb
 have hc:=h2.1
 have hd:=g2.1
 obtain ⟨r,hr,hp⟩:=ZX k [u,v] [ca,cb] rfl (fun j hj hj'=>by
  match j,hj with
  | 0,_=>exact h1
  | 1,_=>exact g1) (by simp) (by simp;omega)
 exact ⟨r,⟨_,hr,by simpa using (h2.app g2).app (.one (aaH k))⟩,hp⟩
theorem aaS (k : Int) : AmB (nA k):=⟨by simp [nA],fun s h=>by simp [nA] at h,by simp [nA]⟩
theorem IW {v : T} {X : Vl} (hv : oL v X) (hX : X.ok) {l : List Am} {lv : VV} (h : FV l lv) (hb : ∀ a ∈ l,AmB a) (hg : Ij l) (hl : l.length≤64) :
  PV Tryz.prog G0 15 [lv,X.vv] (.tup [.bool (holdsA l v),.nili]):=by
 obtain ⟨cs,h1,h2⟩:=h
 have:=aap hv hX l lv cs h1 h2 hb (by omega)
 rw [if_pos ((Zb l).2 ⟨hl,hg⟩)] at this
 exact this
theorem ZM {l : List Am} (h : Rq l=true) : (∀ a ∈ l,AmB a)∧l.length≤100:=by
 unfold Rq at h
 rw [Bool.and_eq_true,List.all_eq_true] at h
 refine ⟨fun a ha=>?_,by simpa using h.2⟩
 have h1:=h.1 a ha
 rw [Bool.and_eq_true] at h1
 have h2:=h1.1
 unfold yV at h2
 rw [Bool.and_eq_true,List.all_eq_true] at h2
 have h3 : a.p.length≤60:=by simpa using h2.2
 have h4 : a.ct.length≤300:=by simpa using h1.2
 exact ⟨by omega,fun s hs=>by
  have : s.t.length≤400:=by simpa using h2.1 s hs
  omega,by omega⟩
theorem aaf (s1 b1 : Int) {x : Tr} {c : List VV} (hx : kV x c) (hOx : jk x) (la lb : List Am) (va vb : VV) (ha : FV la va) (hb : FV lb vb) (hla : la.length≤9223372036854775807) (hlb : lb.length≤9223372036854775807) :
  PV Tryz.prog G0 3 [.agg [.int .u64 s1,.int .i64 b1],va,vb,.agg c] (.bool true):=by
 have hL:=UY
 obtain ⟨x1,x2,x3⟩:=hx.cells
 have x4 : c.take 5=c:=List.take_of_length_le (by omega)
 obtain ⟨ca,hsa,hva⟩:=ha
 obtain ⟨cb,hsb,hvb⟩:=hb
 have hap:=hsa.pure
 have hac:=hsa.cell
 have hbp:=hsb.pure
 have hbc:=hsb.cell
 simp only [go_sem,seval] at hac hbc
 have lpa : ∀ {σ},aT Tryz.prog 25 va σ=okV (.int .i64 la.length) σ:=by intro σ;rw [hsa.aT Dp,hva.1]
 have lpb : ∀ {σ},aT Tryz.prog 25 vb σ=okV (.int .i64 lb.length) σ:=by intro σ;rw [hsb.aT Dp,hvb.1]
 have hSa:=Zx la va ca hsa hva hla
 have hSb:=Zx lb vb cb hsb hvb hlb
 have hCa:=aaC la va ca hsa hva hla
 have hCb:=aaC lb vb cb hsb hvb hlb
 have hRt:=Sr hx hOx true
 refine pv e3 (by simp) (by simp only [VV.ak,VV.isPure,x2,hap,hbp];rfl) rfl ?_
 refine eU (M:=fun ρ τ=>ρ.get 1=va∧ρ.get 2=vb∧ρ.get 4=.mptr 0 0∧ρ.get 7=.mptr 1 0∧τ=[.own [.int .u64 s1,.int .i64 b1],.own c]) ?_ ?_
 ·simp only [go_sem,seval,c3,x1,x3,x4,hac,hbc]
 rintro ρ _ ⟨q1,q2,q4,q7,rfl⟩
 cases ra : Rq la with
 | false =>
  rw [ra] at hSa
  simp only [go_sem,seval,q1,q2,q4,q7]
  (first | refine ah (hL) ?_ | refine aK (hL) ?_ | refine aI (hL) ?_ | refine aj (hL) (by simp only [go_sem,seval,Bool.not_true,Bool.not_false,q1,q2,q4,q7,hac,hbc]) ?_ | refine aj (hL) ?_ ?_)<;>simp only [go_sem,seval,Bool.not_true,Bool.not_false,q1,q2,q4,q7,hac,hbc]
  (first | refine ah (hSa) ?_ | refine aK (hSa) ?_ | refine aI (hSa) ?_ | refine aj (hSa) (by simp only [go_sem,seval,Bool.not_true,Bool.not_false,q1,q2,q4,q7,hac,hbc]) ?_ | refine aj (hSa) ?_ ?_)<;>simp only [go_sem,seval,Bool.not_true,Bool.not_false,q1,q2,q4,q7,hac,hbc]
  (first | refine ah (hL) ?_ | refine aK (hL) ?_ | refine aI (hL) ?_ | refine aj (hL) (by simp only [go_sem,seval]) ?_ | refine aj (hL) ?_ ?_)<;>simp only [go_sem,seval]
  exact fin (by rfl) rfl
 | true =>
 rw [ra] at hSa
 cases rb : Rq lb with
 | false =>
  rw [rb] at hSb
  simp only [go_sem,seval,q1,q2,q4,q7]
  (first | refine ah (hL) ?_ | refine aK (hL) ?_ | refine aI (hL) ?_ | refine aj (hL) (by simp only [go_sem,seval,Bool.not_true,Bool.not_false,q1,q2,q4,q7,hac,hbc]) ?_ | refine aj (hL) ?_ ?_)<;>simp only [go_sem,seval,Bool.not_true,Bool.not_false,q1,q2,q4,q7,hac,hbc]
  (first | refine ah (hSa) ?_ | refine aK (hSa) ?_ | refine aI (hSa) ?_ | refine aj (hSa) (by simp only [go_sem,seval,Bool.not_true,Bool.not_false,q1,q2,q4,q7,hac,hbc]) ?_ | refine aj (hSa) ?_ ?_)<;>simp only [go_sem,seval,Bool.not_true,Bool.not_false,q1,q2,q4,q7,hac,hbc]
  (first | refine ah (hSb) ?_ | refine aK (hSb) ?_ | refine aI (hSb) ?_ | refine aj (hSb) (by simp only [go_sem,seval,Bool.not_true,Bool.not_false,q1,q2,q4,q7,hac,hbc]) ?_ | refine aj (hSb) ?_ ?_)<;>simp only [go_sem,seval,Bool.not_true,Bool.not_false,q1,q2,q4,q7,hac,hbc]
  (first | refine ah (hL) ?_ | refine aK (hL) ?_ | refine aI (hL) ?_ | refine aj (hL) (by simp only [go_sem,seval]) ?_ | refine aj (hL) ?_ ?_)<;>simp only [go_sem,seval]
  exact fin (by rfl) rfl
 | true =>
 rw [rb] at hSb
 obtain ⟨hBa,hla1⟩:=ZM ra
 obtain ⟨hBb,hlb1⟩:=ZM rb
 have w1 : IntKind.i64.wrap ((la.length : Int)+(lb.length : Int))=(la.length : Int)+(lb.length : Int):=iw (by omega)
 by_cases hsum : la.length+lb.length≤60
 rotate_left
 ·have bl : decide ((60 : Int) < (la.length : Int)+(lb.length : Int))=true:=decide_eq_true (by omega)
  simp only [go_sem,seval,q1,q2,q4,q7]
  (first | refine ah (hL) ?_ | refine aK (hL) ?_ | refine aI (hL) ?_ | refine aj (hL) (by simp only [go_sem,seval,Bool.not_true,Bool.not_false,q1,q2,q4,q7,hac,hbc]) ?_ | refine aj (hL) ?_ ?_)<;>simp only [go_sem,seval,Bool.not_true,Bool.not_false,q1,q2,q4,q7,hac,hbc]
  (first | refine ah (hSa) ?_ | refine aK (hSa) ?_ | refine aI (hSa) ?_ | refine aj (hSa) (by simp only [go_sem,seval,Bool.not_true,Bool.not_false,q1,q2,q4,q7,hac,hbc]) ?_ | refine aj (hSa) ?_ ?_)<;>simp only [go_sem,seval,Bool.not_true,Bool.not_false,q1,q2,q4,q7,hac,hbc]
  (first | refine ah (hSb) ?_ | refine aK (hSb) ?_ | refine aI (hSb) ?_ | refine aj (hSb) (by simp only [go_sem,seval,Bool.not_true,Bool.not_false,q1,q2,q4,q7,hac,hbc,lpa,lpb,w1,bl]) ?_ | refine aj (hSb) ?_ ?_)<;>simp only [go_sem,seval,Bool.not_true,Bool.not_false,q1,q2,q4,q7,hac,hbc,lpa,lpb,w1,bl]
  (first | refine ah (hL) ?_ | refine aK (hL) ?_ | refine aI (hL) ?_ | refine aj (hL) (by simp only [go_sem,seval]) ?_ | refine aj (hL) ?_ ?_)<;>simp only [go_sem,seval]
  exact fin (by rfl) rfl
 have bl : decide ((60 : Int) < (la.length : Int)+(lb.length : Int))=false:=decide_eq_false (by omega)
 cases hr : x.right with
 | false =>
  rw [hr] at hRt
  simp only [go_sem,seval,q1,q2,q4,q7]
  (first | refine ah (hL) ?_ | refine aK (hL) ?_ | refine aI (hL) ?_ | refine aj (hL) (by simp only [go_sem,seval,Bool.not_true,Bool.not_false,q1,q2,q4,q7,hac,hbc]) ?_ | refine aj (hL) ?_ ?_)<;>simp only [go_sem,seval,Bool.not_true,Bool.not_false,q1,q2,q4,q7,hac,hbc]
  (first | refine ah (hSa) ?_ | refine aK (hSa) ?_ | refine aI (hSa) ?_ | refine aj (hSa) (by simp only [go_sem,seval,Bool.not_true,Bool.not_false,q1,q2,q4,q7,hac,hbc]) ?_ | refine aj (hSa) ?_ ?_)<;>simp only [go_sem,seval,Bool.not_true,Bool.not_false,q1,q2,q4,q7,hac,hbc]
  (first | refine ah (hSb) ?_ | refine aK (hSb) ?_ | refine aI (hSb) ?_ | refine aj (hSb) (by simp only [go_sem,seval,Bool.not_true,Bool.not_false,q1,q2,q4,q7,hac,hbc,lpa,lpb,w1,bl,x1,x3,x4]) ?_ | refine aj (hSb) ?_ ?_)<;>simp only [go_sem,seval,Bool.not_true,Bool.not_false,q1,q2,q4,q7,hac,hbc,lpa,lpb,w1,bl,x1,x3,x4]
  (first | refine ah (hRt) ?_ | refine aK (hRt) ?_ | refine aI (hRt) ?_ | refine aj (hRt) (by simp only [go_sem,seval,Bool.not_true,Bool.not_false]) ?_ | refine aj (hRt) ?_ ?_)<;>simp only [go_sem,seval,Bool.not_true,Bool.not_false]
  (first | refine ah (hL) ?_ | refine aK (hL) ?_ | refine aI (hL) ?_ | refine aj (hL) (by simp only [go_sem,seval]) ?_ | refine aj (hL) ?_ ?_)<;>simp only [go_sem,seval]
  exact fin (by rfl) rfl
 | true =>
 rw [hr] at hRt
 by_cases ea : (WA la).1=0
 rotate_left
 ·rw [Ob _ ea] at hCa
  simp only [go_sem,seval,q1,q2,q4,q7]
  (first | refine ah (hL) ?_ | refine aK (hL) ?_ | refine aI (hL) ?_ | refine aj (hL) (by simp only [go_sem,seval,Bool.not_true,Bool.not_false,q1,q2,q4,q7,hac,hbc]) ?_ | refine aj (hL) ?_ ?_)<;>simp only [go_sem,seval,Bool.not_true,Bool.not_false,q1,q2,q4,q7,hac,hbc]
  (first | refine ah (hSa) ?_ | refine aK (hSa) ?_ | refine aI (hSa) ?_ | refine aj (hSa) (by simp only [go_sem,seval,Bool.not_true,Bool.not_false,q1,q2,q4,q7,hac,hbc]) ?_ | refine aj (hSa) ?_ ?_)<;>simp only [go_sem,seval,Bool.not_true,Bool.not_false,q1,q2,q4,q7,hac,hbc]
  (first | refine ah (hSb) ?_ | refine aK (hSb) ?_ | refine aI (hSb) ?_ | refine aj (hSb) (by simp only [go_sem,seval,Bool.not_true,Bool.not_false,q1,q2,q4,q7,hac,hbc,lpa,lpb,w1,bl,x1,x3,x4]) ?_ | refine aj (hSb) ?_ ?_)<;>simp only [go_sem,seval,Bool.not_true,Bool.not_false,q1,q2,q4,q7,hac,hbc,lpa,lpb,w1,bl,x1,x3,x4]
  (first | refine ah (hRt) ?_ | refine aK (hRt) ?_ | refine aI (hRt) ?_ | refine aj (hRt) (by simp only [go_sem,seval,Bool.not_true,Bool.not_false,q1,q2,q4,q7,hac,hbc]) ?_ | refine aj (hRt) ?_ ?_)<;>simp only [go_sem,seval,Bool.not_true,Bool.not_false,q1,q2,q4,q7,hac,hbc]
  (first | refine ah (hCa) ?_ | refine aK (hCa) ?_ | refine aI (hCa) ?_ | refine aj (hCa) (by simp only [go_sem,seval,q1,q2,q4,q7]) ?_ | refine aj (hCa) ?_ ?_)<;>simp only [go_sem,seval,q1,q2,q4,q7]
  (first | refine ah (hL) ?_ | refine aK (hL) ?_ | refine aI (hL) ?_ | refine aj (hL) (by simp only [go_sem,seval]) ?_ | refine aj (hL) ?_ ?_)<;>simp only [go_sem,seval]
  exact fin (by rfl) rfl
 have na : zD (WA la).1 (WA la).2=.nili:=by unfold zD;rw [if_pos ea]
 rw [na] at hCa
 by_cases eb : (WA lb).1=0
 rotate_left
 ·rw [Ob _ eb] at hCb
  simp only [go_sem,seval,q1,q2,q4,q7]
  (first | refine ah (hL) ?_ | refine aK (hL) ?_ | refine aI (hL) ?_ | refine aj (hL) (by simp only [go_sem,seval,Bool.not_true,Bool.not_false,q1,q2,q4,q7,hac,hbc]) ?_ | refine aj (hL) ?_ ?_)<;>simp only [go_sem,seval,Bool.not_true,Bool.not_false,q1,q2,q4,q7,hac,hbc]
  (first | refine ah (hSa) ?_ | refine aK (hSa) ?_ | refine aI (hSa) ?_ | refine aj (hSa) (by simp only [go_sem,seval,Bool.not_true,Bool.not_false,q1,q2,q4,q7,hac,hbc]) ?_ | refine aj (hSa) ?_ ?_)<;>simp only [go_sem,seval,Bool.not_true,Bool.not_false,q1,q2,q4,q7,hac,hbc]
  (first | refine ah (hSb) ?_ | refine aK (hSb) ?_ | refine aI (hSb) ?_ | refine aj (hSb) (by simp only [go_sem,seval,Bool.not_true,Bool.not_false,q1,q2,q4,q7,hac,hbc,lpa,lpb,w1,bl,x1,x3,x4]) ?_ | refine aj (hSb) ?_ ?_)<;>simp only [go_sem,seval,Bool.not_true,Bool.not_false,q1,q2,q4,q7,hac,hbc,lpa,lpb,w1,bl,x1,x3,x4]
  (first | refine ah (hRt) ?_ | refine aK (hRt) ?_ | refine aI (hRt) ?_ | refine aj (hRt) (by simp only [go_sem,seval,Bool.not_true,Bool.not_false,q1,q2,q4,q7,hac,hbc]) ?_ | refine aj (hRt) ?_ ?_)<;>simp only [go_sem,seval,Bool.not_true,Bool.not_false,q1,q2,q4,q7,hac,hbc]
  (first | refine ah (hCa) ?_ | refine aK (hCa) ?_ | refine aI (hCa) ?_ | refine aj (hCa) (by simp only [go_sem,seval,q1,q2,q4,q7,hac,hbc]) ?_ | refine aj (hCa) ?_ ?_)<;>simp only [go_sem,seval,q1,q2,q4,q7,hac,hbc]
  (first | refine ah (hCb) ?_ | refine aK (hCb) ?_ | refine aI (hCb) ?_ | refine aj (hCb) (by simp only [go_sem,seval,q1,q2,q4,q7]) ?_ | refine aj (hCb) ?_ ?_)<;>simp only [go_sem,seval,q1,q2,q4,q7]
  (first | refine ah (hL) ?_ | refine aK (hL) ?_ | refine aI (hL) ?_ | refine aj (hL) (by simp only [go_sem,seval]) ?_ | refine aj (hL) ?_ ?_)<;>simp only [go_sem,seval]
  exact fin (by rfl) rfl
 have nb : zD (WA lb).1 (WA lb).2=.nili:=by unfold zD;rw [if_pos eb]
 rw [nb] at hCb
 have gA:=((Zb la).1 ea).2
 have gB:=((Zb lb).1 eb).2
 unfold Tr.right at hr
 rw [Bool.and_eq_true] at hr
 have hs4:=D9 hr.1
 have e1 : FD (x.mk 1 0)=0:=by simpa using hr.2
 have hTx:=Tr.CO hs4
 obtain ⟨v,hmv,hvw,hvn,hvk,hve⟩:=VK hOx hs4 e1
 refine eU (M:=fun ρ τ=>ρ.get 1=va∧ρ.get 2=vb∧ρ.get 4=.mptr 0 0∧ρ.get 7=.mptr 1 0∧τ[0]?=some (.own [.int .u64 s1,.int .i64 b1])∧τ[1]?=some (.own c)) ?_ ?_
 ·simp only [go_sem,seval,q1,q2,q4,q7]
  (first | refine ah (hL) ?_ | refine aK (hL) ?_ | refine aI (hL) ?_ | refine aj (hL) (by simp only [go_sem,seval,Bool.not_true,Bool.not_false,q1,q2,q4,q7,hac,hbc]) ?_ | refine aj (hL) ?_ ?_)<;>simp only [go_sem,seval,Bool.not_true,Bool.not_false,q1,q2,q4,q7,hac,hbc]
  (first | refine ah (hSa) ?_ | refine aK (hSa) ?_ | refine aI (hSa) ?_ | refine aj (hSa) (by simp only [go_sem,seval,Bool.not_true,Bool.not_false,q1,q2,q4,q7,hac,hbc]) ?_ | refine aj (hSa) ?_ ?_)<;>simp only [go_sem,seval,Bool.not_true,Bool.not_false,q1,q2,q4,q7,hac,hbc]
  (first | refine ah (hSb) ?_ | refine aK (hSb) ?_ | refine aI (hSb) ?_ | refine aj (hSb) (by simp only [go_sem,seval,Bool.not_true,Bool.not_false,q1,q2,q4,q7,hac,hbc,lpa,lpb,w1,bl,x1,x3,x4]) ?_ | refine aj (hSb) ?_ ?_)<;>simp only [go_sem,seval,Bool.not_true,Bool.not_false,q1,q2,q4,q7,hac,hbc,lpa,lpb,w1,bl,x1,x3,x4]
  (first | refine ah (hRt) ?_ | refine aK (hRt) ?_ | refine aI (hRt) ?_ | refine aj (hRt) (by simp only [go_sem,seval,Bool.not_true,Bool.not_false,q1,q2,q4,q7,hac,hbc]) ?_ | refine aj (hRt) ?_ ?_)<;>simp only [go_sem,seval,Bool.not_true,Bool.not_false,q1,q2,q4,q7,hac,hbc]
  (first | refine ah (hCa) ?_ | refine aK (hCa) ?_ | refine aI (hCa) ?_ | refine aj (hCa) (by simp only [go_sem,seval,q1,q2,q4,q7,hac,hbc]) ?_ | refine aj (hCa) ?_ ?_)<;>simp only [go_sem,seval,q1,q2,q4,q7,hac,hbc]
  (first | refine ah (hCb) ?_ | refine aK (hCb) ?_ | refine aI (hCb) ?_ | refine aj (hCb) (by simp only [go_sem,seval,q1,q2,q4,q7]) ?_ | refine aj (hCb) ?_ ?_)<;>simp only [go_sem,seval,q1,q2,q4,q7]
 rintro ρ τ ⟨q1,q2,q4,q7,t0,t1⟩
 refine eU (M:=fun ρ τ=>∃ (X : Vl) (k : Nat),oL v X∧X.ok∧ρ.get 1=va∧ρ.get 2=vb∧ρ.get 9=.mptr k 0∧τ[k]?=some (.own X.cells)) ?_ ?_
 ·simp only [go_sem,seval,q1,q2,q4,q7,t0,t1,x1,x3,x4]
  refine CV.mono (QM hx hOx hTx s1 b1 hmv _) ?_
  rintro r σ' ⟨X,hvX,hXo,rfl,hch⟩
  have d1 : X.cells.length=11:=rfl
  have d2 : X.cells.all VV.aC=true:=hXo.cell
  have d3 : X.cells.take 11=X.cells:=rfl
  simp only [go_sem,seval,gZ,Vl.vv,q1,q2,q4,d1,d2,d3,SS]
  exact ⟨X,σ'.length,hvX,hXo,rfl,by simp⟩
 rintro ρ τ ⟨X,k,hvX,hXo,q1,q2,q9,tk⟩
 have d1 : X.cells.length=11:=rfl
 have d2 : X.cells.all VV.aC=true:=hXo.cell
 have d3 : X.cells.take 11=X.cells:=rfl
 have FA : FV la va:=⟨ca,hsa,hva⟩
 have FB : FV lb vb:=⟨cb,hsb,hvb⟩
 have BN : ∀ {l : List Am} {k : Int},(∀ a ∈ l,AmB a)→∀ a ∈ l++[nA k],AmB a:=fun h a ha=>by
  rcases List.mem_append.1 ha with ha | ha
  ·exact h a ha
  ·rw [List.mem_singleton] at ha;rw [ha];exact aaS _
 have BC : ∀ {l r : List Am},(∀ a ∈ l,AmB a)→(∀ a ∈ r,AmB a)→∀ a ∈ l++r,AmB a:=fun h g a ha=>by
  rcases List.mem_append.1 ha with ha | ha
  ·exact h a ha
  ·exact g a ha
 have hA:=IW hvX hXo FA hBa gA (by omega)
 have hB:=IW hvX hXo FB hBb gB (by omega)
 obtain ⟨rn,Fn,hWn⟩:=Zf FA 6 (by omega)
 obtain ⟨gn,en⟩:=YL gA v
 have hN:=IW hvX hXo Fn (BN hBa) gn (by simp;omega)
 obtain ⟨rm,Fm,hWm⟩:=Zf FB 6 (by omega)
 obtain ⟨gm,em⟩:=YL gB v
 obtain ⟨ru,Fu,hWu⟩:=Y8 FA FB 7 (by omega)
 obtain ⟨gu,eu⟩:=ZW gA gB v
 have hU:=IW hvX hXo Fu (BN (BC hBa hBb)) gu (by simp;omega)
 obtain ⟨ro,Fo,hWo⟩:=Y8 FA FB 8 (by omega)
 obtain ⟨go,eo⟩:=ZK gA gB v
 have hO:=IW hvX hXo Fo (BN (BC hBa hBb)) go (by simp;omega)
 obtain ⟨rd,Fd,hWd⟩:=Zf Fu 6 (by simp;omega)
 obtain ⟨gd,ed⟩:=YL gu v
 have hD:=IW hvX hXo Fd (BN (BN (BC hBa hBb))) gd (by simp;omega)
 obtain ⟨re,Fe,hWe⟩:=Y8 Fn Fm 8 (by simp;omega)
 obtain ⟨ge,ee⟩:=ZK gn gm v
 have hE:=IW hvX hXo Fe (BN (BC (BN hBa) (BN hBb))) ge (by simp;omega)
 rw [en] at hN
 rw [eu] at hU
 rw [eo] at hO
 rw [ed,eu] at hD
 rw [ee,en,em] at hE
 have ka:=hsa.Yv
 have kb:=hsb.Yv
 have ua:=hsa.und
 have ub:=hsb.und
 have kn : rn.cells=[rn]:=by obtain ⟨_,h,_⟩:=Fn;exact h.Yv
 have un : rn.uD=false:=by obtain ⟨_,h,_⟩:=Fn;exact h.und
 have km : rm.cells=[rm]:=by obtain ⟨_,h,_⟩:=Fm;exact h.Yv
 have um : rm.uD=false:=by obtain ⟨_,h,_⟩:=Fm;exact h.und
 have ku : ru.cells=[ru]:=by obtain ⟨_,h,_⟩:=Fu;exact h.Yv
 have uu : ru.uD=false:=by obtain ⟨_,h,_⟩:=Fu;exact h.und
 simp only [go_sem,seval,VV.cells,VV.uD] at ka kb ua ub kn km ku un um uu
 have cn : rn.aC=true:=by obtain ⟨_,h,_⟩:=Fn;exact h.cell
 have cm : rm.aC=true:=by obtain ⟨_,h,_⟩:=Fm;exact h.cell
 have cu : ru.aC=true:=by obtain ⟨_,h,_⟩:=Fu;exact h.cell
 have co : ro.aC=true:=by obtain ⟨_,h,_⟩:=Fo;exact h.cell
 have cd : rd.aC=true:=by obtain ⟨_,h,_⟩:=Fd;exact h.cell
 have ce : re.aC=true:=by obtain ⟨_,h,_⟩:=Fe;exact h.cell
 simp only [go_sem,seval] at cn cm cu co cd ce
 clear gA gB gn gm gu go gd ge hBa hBb
 generalize holdsA la v=p at *
 generalize holdsA lb v=q at *
 simp only [Vl.vv] at hA hB hN hU hO hD hE
 clear hSa hSb hCa hCb hRt BN BC
 refine eU (M:=fun ρ τ'=>ρ.get 1=va∧ρ.get 2=vb∧ρ.get 9=.mptr k 0∧ρ.get 10=.bool p∧ρ.get 11=.nili∧τ'=τ) ?_ ?_
 ·simp only [go_sem,seval,q1,q2,q9,tk,d1,d2,d3,hac,hbc]
  (first | refine ah (hA) ?_ | refine aK (hA) ?_ | refine aI (hA) ?_ | refine aj (hA) (by simp only [go_sem,seval,q1,q2,q9]) ?_ | refine aj (hA) ?_ ?_)<;>simp only [go_sem,seval,q1,q2,q9]
 rintro ρ τ ⟨q1,q2,q9,q10,q11,rfl⟩
 refine eU (M:=fun ρ τ'=>ρ.get 1=va∧ρ.get 2=vb∧ρ.get 9=.mptr k 0∧ρ.get 10=.bool p∧ρ.get 11=.nili∧ρ.get 12=.bool q∧ρ.get 13=.nili∧τ'=τ) ?_ ?_
 ·simp only [go_sem,seval,q1,q2,q9,q10,q11,tk,d1,d2,d3,hac,hbc]
  (first | refine ah (hB) ?_ | refine aK (hB) ?_ | refine aI (hB) ?_ | refine aj (hB) (by simp only [go_sem,seval,q1,q2,q9,q10,q11]) ?_ | refine aj (hB) ?_ ?_)<;>simp only [go_sem,seval,q1,q2,q9,q10,q11]
 rintro ρ τ ⟨q1,q2,q9,q10,q11,q12,q13,rfl⟩
 refine eU (M:=fun ρ τ'=>ρ.get 1=va∧ρ.get 2=vb∧ρ.get 9=.mptr k 0∧ρ.get 10=.bool p∧ρ.get 11=.nili∧ρ.get 12=.bool q∧ρ.get 13=.nili∧ρ.get 14=.bool (!p)∧ρ.get 15=.nili∧τ'=τ) ?_ ?_
 ·simp only [go_sem,seval,q1,q2,q9,q10,q11,q12,q13,tk,d1,d2,d3,hac,hbc,ka,kb,ua,ub]
  (first | refine ah (hWn) ?_ | refine aK (hWn) ?_ | refine aI (hWn) ?_ | refine aj (hWn) (by simp only [go_sem,seval,q1,q2,q9,q10,q11,q12,q13,tk,d1,d2,d3,cn]) ?_ | refine aj (hWn) ?_ ?_)<;>simp only [go_sem,seval,q1,q2,q9,q10,q11,q12,q13,tk,d1,d2,d3,cn]
  (first | refine ah (hN) ?_ | refine aK (hN) ?_ | refine aI (hN) ?_ | refine aj (hN) (by simp only [go_sem,seval,q1,q2,q9,q10,q11,q12,q13]) ?_ | refine aj (hN) ?_ ?_)<;>simp only [go_sem,seval,q1,q2,q9,q10,q11,q12,q13]
 rintro ρ τ ⟨q1,q2,q9,q10,q11,q12,q13,q14,q15,rfl⟩
 refine eU (M:=fun ρ τ'=>ρ.get 1=va∧ρ.get 2=vb∧ρ.get 9=.mptr k 0∧ρ.get 10=.bool p∧ρ.get 11=.nili∧ρ.get 12=.bool q∧ρ.get 13=.nili∧ρ.get 14=.bool (!p)∧ρ.get 15=.nili∧ρ.get 16=.bool (p && q)∧ρ.get 17=.nili∧τ'=τ) ?_ ?_
 ·simp only [go_sem,seval,q1,q2,q9,q10,q11,q12,q13,q14,q15,tk,d1,d2,d3,hac,hbc,ka,kb,ua,ub]
  (first | refine ah (hWu) ?_ | refine aK (hWu) ?_ | refine aI (hWu) ?_ | refine aj (hWu) (by simp only [go_sem,seval,q1,q2,q9,q10,q11,q12,q13,q14,q15,tk,d1,d2,d3,cu]) ?_ | refine aj (hWu) ?_ ?_)<;>simp only [go_sem,seval,q1,q2,q9,q10,q11,q12,q13,q14,q15,tk,d1,d2,d3,cu]
  (first | refine ah (hU) ?_ | refine aK (hU) ?_ | refine aI (hU) ?_ | refine aj (hU) (by simp only [go_sem,seval,q1,q2,q9,q10,q11,q12,q13,q14,q15]) ?_ | refine aj (hU) ?_ ?_)<;>simp only [go_sem,seval,q1,q2,q9,q10,q11,q12,q13,q14,q15]
 rintro ρ τ ⟨q1,q2,q9,q10,q11,q12,q13,q14,q15,q16,q17,rfl⟩
 refine eU (M:=fun ρ τ'=>ρ.get 1=va∧ρ.get 2=vb∧ρ.get 9=.mptr k 0∧ρ.get 10=.bool p∧ρ.get 11=.nili∧ρ.get 12=.bool q∧ρ.get 13=.nili∧ρ.get 14=.bool (!p)∧ρ.get 15=.nili∧ρ.get 16=.bool (p && q)∧ρ.get 17=.nili∧ρ.get 18=.bool (p || q)∧ρ.get 19=.nili∧τ'=τ) ?_ ?_
 ·simp only [go_sem,seval,q1,q2,q9,q10,q11,q12,q13,q14,q15,q16,q17,tk,d1,d2,d3,hac,hbc,ka,kb,ua,ub]
  (first | refine ah (hWo) ?_ | refine aK (hWo) ?_ | refine aI (hWo) ?_ | refine aj (hWo) (by simp only [go_sem,seval,q1,q2,q9,q10,q11,q12,q13,q14,q15,q16,q17,tk,d1,d2,d3,co]) ?_ | refine aj (hWo) ?_ ?_)<;>simp only [go_sem,seval,q1,q2,q9,q10,q11,q12,q13,q14,q15,q16,q17,tk,d1,d2,d3,co]
  (first | refine ah (hO) ?_ | refine aK (hO) ?_ | refine aI (hO) ?_ | refine aj (hO) (by simp only [go_sem,seval,q1,q2,q9,q10,q11,q12,q13,q14,q15,q16,q17]) ?_ | refine aj (hO) ?_ ?_)<;>simp only [go_sem,seval,q1,q2,q9,q10,q11,q12,q13,q14,q15,q16,q17]
 rintro ρ τ ⟨q1,q2,q9,q10,q11,q12,q13,q14,q15,q16,q17,q18,q19,rfl⟩
 refine eU (M:=fun ρ τ'=>ρ.get 1=va∧ρ.get 2=vb∧ρ.get 9=.mptr k 0∧ρ.get 10=.bool p∧ρ.get 11=.nili∧ρ.get 12=.bool q∧ρ.get 13=.nili∧ρ.get 14=.bool (!p)∧ρ.get 15=.nili∧ρ.get 16=.bool (p && q)∧ρ.get 17=.nili∧ρ.get 18=.bool (p || q)∧ρ.get 19=.nili∧ρ.get 20=.bool (!(p && q))∧ρ.get 21=.nili∧τ'=τ) ?_ ?_
 ·simp only [go_sem,seval,q1,q2,q9,q10,q11,q12,q13,q14,q15,q16,q17,q18,q19,tk,d1,d2,d3,hac,hbc,ka,kb,ua,ub]
  (first | refine ah (hWu) ?_ | refine aK (hWu) ?_ | refine aI (hWu) ?_ | refine aj (hWu) (by simp only [go_sem,seval,q1,q2,q9,q10,q11,q12,q13,q14,q15,q16,q17,q18,q19,tk,d1,d2,d3,cu,ku,uu]) ?_ | refine aj (hWu) ?_ ?_)<;>simp only [go_sem,seval,q1,q2,q9,q10,q11,q12,q13,q14,q15,q16,q17,q18,q19,tk,d1,d2,d3,cu,ku,uu]
  (first | refine ah (hWd) ?_ | refine aK (hWd) ?_ | refine aI (hWd) ?_ | refine aj (hWd) (by simp only [go_sem,seval,q1,q2,q9,q10,q11,q12,q13,q14,q15,q16,q17,q18,q19,tk,d1,d2,d3,cd]) ?_ | refine aj (hWd) ?_ ?_)<;>simp only [go_sem,seval,q1,q2,q9,q10,q11,q12,q13,q14,q15,q16,q17,q18,q19,tk,d1,d2,d3,cd]
  (first | refine ah (hD) ?_ | refine aK (hD) ?_ | refine aI (hD) ?_ | refine aj (hD) (by simp only [go_sem,seval,q1,q2,q9,q10,q11,q12,q13,q14,q15,q16,q17,q18,q19]) ?_ | refine aj (hD) ?_ ?_)<;>simp only [go_sem,seval,q1,q2,q9,q10,q11,q12,q13,q14,q15,q16,q17,q18,q19]
 rintro ρ τ ⟨q1,q2,q9,q10,q11,q12,q13,q14,q15,q16,q17,q18,q19,q20,q21,rfl⟩
 refine eU (M:=fun ρ τ'=>ρ.get 10=.bool p∧ρ.get 11=.nili∧ρ.get 12=.bool q∧ρ.get 13=.nili∧ρ.get 14=.bool (!p)∧ρ.get 15=.nili∧ρ.get 16=.bool (p && q)∧ρ.get 17=.nili∧ρ.get 18=.bool (p || q)∧ρ.get 19=.nili∧ρ.get 20=.bool (!(p && q))∧ρ.get 21=.nili∧ρ.get 22=.bool (!p || !q)∧ρ.get 23=.nili∧τ'=τ) ?_ ?_
 ·simp only [go_sem,seval,q1,q2,q9,q10,q11,q12,q13,q14,q15,q16,q17,q18,q19,q20,q21,tk,d1,d2,d3,hac,hbc,ka,kb,ua,ub]
  (first | refine ah (hWn) ?_ | refine aK (hWn) ?_ | refine aI (hWn) ?_ | refine aj (hWn) (by simp only [go_sem,seval,q1,q2,q9,q10,q11,q12,q13,q14,q15,q16,q17,q18,q19,q20,q21,tk,d1,d2,d3,cn,hbc,kb,ub]) ?_ | refine aj (hWn) ?_ ?_)<;>simp only [go_sem,seval,q1,q2,q9,q10,q11,q12,q13,q14,q15,q16,q17,q18,q19,q20,q21,tk,d1,d2,d3,cn,hbc,kb,ub]
  (first | refine ah (hWm) ?_ | refine aK (hWm) ?_ | refine aI (hWm) ?_ | refine aj (hWm) (by simp only [go_sem,seval,q1,q2,q9,q10,q11,q12,q13,q14,q15,q16,q17,q18,q19,q20,q21,tk,d1,d2,d3,cm,cn,kn,km,un,um]) ?_ | refine aj (hWm) ?_ ?_)<;>simp only [go_sem,seval,q1,q2,q9,q10,q11,q12,q13,q14,q15,q16,q17,q18,q19,q20,q21,tk,d1,d2,d3,cm,cn,kn,km,un,um]
  (first | refine ah (hWe) ?_ | refine aK (hWe) ?_ | refine aI (hWe) ?_ | refine aj (hWe) (by simp only [go_sem,seval,q1,q2,q9,q10,q11,q12,q13,q14,q15,q16,q17,q18,q19,q20,q21,tk,d1,d2,d3,ce]) ?_ | refine aj (hWe) ?_ ?_)<;>simp only [go_sem,seval,q1,q2,q9,q10,q11,q12,q13,q14,q15,q16,q17,q18,q19,q20,q21,tk,d1,d2,d3,ce]
  (first | refine ah (hE) ?_ | refine aK (hE) ?_ | refine aI (hE) ?_ | refine aj (hE) (by simp only [go_sem,seval,q10,q11,q12,q13,q14,q15,q16,q17,q18,q19,q20,q21]) ?_ | refine aj (hE) ?_ ?_)<;>simp only [go_sem,seval,q10,q11,q12,q13,q14,q15,q16,q17,q18,q19,q20,q21]
 rintro ρ τ ⟨q10,q11,q12,q13,q14,q15,q16,q17,q18,q19,q20,q21,q22,q23,rfl⟩
 refine eU (M:=fun ρ τ=>ρ.get 10=.bool p∧ρ.get 12=.bool q∧ρ.get 14=.bool (!p)∧ρ.get 16=.bool (p && q)∧ρ.get 18=.bool (p || q)∧ρ.get 20=.bool (!(p && q))∧ρ.get 22=.bool (!p || !q)) ?_ ?_
 ·simp only [go_sem,seval,q10,q11,q12,q13,q14,q15,q16,q17,q18,q19,q20,q21,q22,q23]
 rintro ρ τ ⟨q10,q12,q14,q16,q18,q20,q22⟩
 cases p<;>cases q<;>simp only [Bool.not_true,Bool.not_false,Bool.true_and,Bool.false_and,Bool.true_or,Bool.false_or,Bool.and_true,Bool.and_false,Bool.or_true,Bool.or_false] at q14 q16 q18 q20 q22<;>simp only [go_sem,seval,q10,q12,q14,q16,q18,q20,q22,JQ,Bool.not_true,Bool.not_false,beq_self_eq_true]<;>exact fin (by rfl) rfl
end Go.V
