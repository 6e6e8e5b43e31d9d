/- Texts F86 F87 F88 L25 F90. -/
import Derived.Test.YtgmhpemjlbgfcaaGreatDoorG25
import Derived.Test.YtgmhpemjlbgfcaaGreatDoorG33
import Derived.Test.YtgmhpemjlbgfcaaGreatDoorG34
import Derived.Test.YtgmhpemjlbgfcaaGreatDoorG35
set_option linter.unusedVariables false
set_option linter.unusedSimpArgs false
namespace Go.V
open Go.Proofs
set_option maxRecDepth 100000
def Wu (wid q : Nat) (σ : Store) : Nat × Hz→gY→Store→Prop
 | (n',.er e),r,σ'=>r=.ret (.tup [Vl.zero.vv,.int .i64 e])∧σ'[wid]?=some (.own [.int .i64 n'])∧Ch (·=wid) σ σ'
 | (n',.ok v),r,σ'=>∃ x : Vl,oL v x∧x.ok∧x.below+q≤64∧x.more+1=v.nd∧r=.ret (.tup [x.vv,.int .i64 0])∧σ'[wid]?=some (.own [.int .i64 n'])∧Ch (·=wid) σ σ'
theorem LQ (P : Nat→Prop) (xs : List (List VV)) (hB : dh 11 xs) (hl : xs.length≤100000) {w : VV} {τ : Store} (hs : (xs=[]∧w=.nils)∨(xs≠[]∧∃ jd,P jd∧w=.bZ jd 0 xs.length 11∧τ[jd]?=some (.own xs.flatten))) :
  ∃ root,RP root xs∧∀ R : gY→Store→Prop,(∀ τ',τ'.length=τ.length→(∀ i,¬ P i→τ'[i]?=τ[i]?)→R (.ret (.agg [root])) τ')→CV Tryz.prog G0 122 [w] τ R:=by
 rcases hs with ⟨rfl,rfl⟩ | ⟨hne,jd,hjd,rfl,hown⟩
 ·obtain ⟨r,hR,hP⟩:=FT .nils [] .nil (by simp)
  exact ⟨r,hR,fun R hR'=>nN hP (hR' τ rfl fun _ _=>rfl)⟩
 ·obtain ⟨r,hR,hP⟩:=FT (.sl xs.length xs.flatten false) xs (dG.of hB rfl rfl) hl
  refine ⟨r,hR,fun R hR'=>wK hown (Na 1 ?_ hP (hR' _ (by simp) fun i hi=>List.getElem?_set_ne (fun e=>by subst e;exact hi hjd)))⟩
  have hlt:=(List.getElem?_eq_some_iff.1 hown).1
  simp only [List.mapM_cons,List.mapM_nil,BU (List.getElem?_set_self hlt) hB rfl]
  rfl
theorem KC (k i : Int) (t : Bs) (keys : List Bs) (items : List Tr) (kv iv : VV) (cs : List (List VV)) (hk : dG 1 kv (keys.map fun b=>[VV.str b])) (hcs : jl items cs) (hi : dG 5 iv cs) (hOK : jk (.node k i t keys items)) (hSm : FY (.node k i t keys items))
  (seed bits : Int) (q n wid : Nat) (σ : Store) (hw : σ[wid]?=some (.own [.int .i64 n])) (hq : q≤65) (hn : n≤16384)
  (ih : ∀ (j : Nat) (h : j < items.length) (h' : j < cs.length) (n : Nat) (σ : Store),q≤64→σ[wid]?=some (.own [.int .i64 n])→n≤16384→CV Tryz.prog G0 80 [.mptr wid 0,.agg [.int .u64 seed,.int .i64 bits],.agg cs[j],.int .i64 (q+1 : Nat)] σ (Wu wid (q+1) σ (items[j].mk (q+1) n))) :
  CV Tryz.prog G0 80 [.mptr wid 0,.agg [.int .u64 seed,.int .i64 bits],.agg [.int .i64 k,.int .i64 i,.str t,kv,iv],.int .i64 q] σ (Wu wid q σ (Tr.mk (.node k i t keys items) q n)):=by
 obtain ⟨htl,hkl2,hkl,hil,hSi⟩ : t.length≤200∧(∀ k ∈ keys,k.length≤200)∧keys.length≤450∧items.length≤400∧∀ x ∈ items,FY x:=by cases hSm;exact ⟨‹_›,‹_›,‹_›,‹_›,‹_›⟩
 obtain ⟨hir,hOi⟩ : (-9223372036854775808≤i∧i≤9223372036854775807)∧∀ x ∈ items,jk x:=by cases hOK;exact ⟨⟨‹_›,‹_›⟩,‹_›⟩
 have hkc:=hk.cell
 have hic:=hi.cell
 have hwl:=(List.getElem?_eq_some_iff.1 hw).1
 have hO:=Vy k i t keys items.length kv iv cs hk hcs.len hi (by omega) (by omega)
 have w1 : IntKind.i64.wrap ((n : Int)+1)=((n+1 : Nat) : Int):=by rw [iw (by omega)];omega
 have hz : Vl.zero.vv=.agg [.int .i64 0,.int .i64 0,.str [],.int .i64 0,.nilp,.int .u64 0,.int .i64 0,.int .i64 0,.nilp,.int .i64 0,.int .i64 0]:=rfl
 simp only [go_sem,seval] at hkc
 simp only [go_sem,seval] at hic
 obtain ⟨M,hM⟩ : ∃ M,M=Tr.mk (.node k i t keys items) q n:=⟨_,rfl⟩
 rw [← hM]
 unfold Tr.mk at hM
 obtain ⟨σ1,h1⟩ : ∃ σ1,σ1=σ++[Obj.own [.int .u64 seed,.int .i64 bits],.own [.int .i64 k,.int .i64 i,.str t,kv,iv],.own [.int .i64 0,.int .i64 0,.str [],.int .i64 0,.nilp,.int .u64 0,.int .i64 0,.int .i64 0,.nilp,.int .i64 0,.int .i64 0]]:=⟨_,rfl⟩
 obtain ⟨σ2,h2⟩ : ∃ σ2,σ2=σ1.set wid (.own [.int .i64 (n+1 : Nat)]):=⟨_,rfl⟩
 have g0 : σ1[wid]?=some (.own [.int .i64 n]):=by rw [h1,List.getElem?_append_left hwl];exact hw
 have l1 : σ1.length=σ.length+3:=by rw [h1];simp
 have l2 : σ2.length=σ.length+3:=by rw [h2];simp [l1]
 have k0 : σ2[wid]?=some (.own [.int .i64 (n+1 : Nat)]):=by rw [h2,List.getElem?_set_self (by omega)]
 have k1 : σ2[σ.length]?=some (.own [.int .u64 seed,.int .i64 bits]):=by rw [h2,List.getElem?_set_ne (by omega),h1];simp
 have k2 : σ2[σ.length+1]?=some (.own [.int .i64 k,.int .i64 i,.str t,kv,iv]):=by rw [h2,List.getElem?_set_ne (by omega),h1];simp
 have k3 : σ2[σ.length+(1+1)]?=some (.own [.int .i64 0,.int .i64 0,.str [],.int .i64 0,.nilp,.int .u64 0,.int .i64 0,.int .i64 0,.nilp,.int .i64 0,.int .i64 0]):=by rw [h2,List.getElem?_set_ne (by omega),h1];simp
 refine cv e80 (by simp) ?_
 refine eU (M:=fun ρ τ=>ρ.get 0=.mptr wid 0∧ρ.get 3=.int .i64 q∧ρ.get 5=.mptr σ.length 0∧ρ.get 6=.mptr (σ.length+1) 0∧ρ.get 8=.mptr (σ.length+(1+1)) 0∧τ=σ1) ?_ ?_
 ·simp only [go_sem,seval,hkc,hic,← h1,SS]
 rintro ρ _ ⟨q0,q3,q5,q6,q8,rfl⟩
 have hch : Ch (·=wid) σ σ2:=⟨by omega,fun j hj hne=>by rw [h2,List.getElem?_set_ne (by omega),h1,List.getElem?_append_left hj]⟩
 have k4:=uZ k3
 have z7 : σ2.length=σ.length+(1+1)+1:=by omega
 refine eU (M:=fun ρ τ=>ρ.get 0=.mptr wid 0∧ρ.get 3=.int .i64 q∧ρ.get 5=.mptr σ.length 0∧ρ.get 6=.mptr (σ.length+1) 0∧ρ.get 8=.mptr (σ.length+(1+1)) 0∧τ=σ2) ?_ ?_
 ·simp only [go_sem,seval,q0,q3,q5,q6,q8,g0,w1,← h2]
 rintro ρ σ3 ⟨q0,q3,q5,q6,q8,rfl⟩
 by_cases c1 : 64 < q
 ·have b1 : decide ((64 : Int) < (q : Int))=true:=decide_eq_true (by omega)
  rw [if_pos c1] at hM
  subst hM
  simp only [go_sem,seval,q0,q3,q5,q6,q8,b1,k3,k4]
  exact ⟨by rw [hz],k0,hch⟩
 rw [if_neg c1] at hM
 have b1 : decide ((64 : Int) < (q : Int))=false:=decide_eq_false (by omega)
 by_cases c2 : 16384 < n+1
 ·have b2 : decide ((16384 : Int) < ((n+1 : Nat) : Int))=true:=decide_eq_true (by omega)
  rw [if_pos c2] at hM
  subst hM
  simp only [go_sem,seval,q0,q3,q5,q6,q8,b1,b2,k0,k3,k4]
  exact ⟨by rw [hz],k0,hch⟩
 rw [if_neg c2] at hM
 have b2 : decide ((16384 : Int) < ((n+1 : Nat) : Int))=false:=decide_eq_false (by omega)
 by_cases c3 : fF k i t keys items.length=0
 rotate_left
 ·have b3 : (fF k i t keys items.length == 0)=false:=by simpa using c3
  rw [if_pos c3] at hM
  subst hM
  simp only [go_sem,seval,q0,q3,q5,q6,q8,b1,b2,k0,k2,k3,k4,hkc,hic]
  refine ah (hO) ?_<;>simp only [go_sem,seval,q0,q3,q5,q6,q8,b3,bne,Bool.not_false,k3,k4]
  exact ⟨by rw [hz],k0,hch⟩
 rw [if_neg (by simpa using c3)] at hM
 have b3 : (fF k i t keys items.length == 0)=true:=by simpa using c3
 by_cases c4 : k < 4
 ·have b4 : decide (k < 4)=true:=decide_eq_true c4
  rw [if_pos c4] at hM
  subst hM
  have hck : qm k i t=0:=by
   unfold fF at c3
   rw [if_neg (by omega),if_neg (by omega)] at c3
   split at c3
   ·split at c3
    ·omega
    ·exact c3
   ·omega
  have hP:=Q9 k i t
  have xo:=N9 k i t
  obtain ⟨x,hx⟩ : ∃ x,x=JH k i t:=⟨_,rfl⟩
  rw [← hx] at hP xo
  have d1 : x.cells.length=11:=rfl
  have d2 : x.cells.all VV.aC=true:=xo.cell
  have d3 : x.cells.take 11=x.cells:=rfl
  have z8 : σ.length+2 < σ3.length:=by omega
  simp only [Vl.vv] at hP
  simp only [go_sem,seval,q0,q3,q5,q6,q8,b1,b2,k0,k2,k3,k4,hkc,hic]
  refine ah (hO) ?_<;>simp only [go_sem,seval,q0,q3,q5,q6,q8,b3,b4,bne,Bool.not_true,k2,k3,k4,hkc,hic]
  refine ah (hP) ?_<;>simp only [go_sem,seval,q0,q3,q5,q6,q8,k3,d1,d2,d3,List.getElem?_set_self z8]
  refine ⟨x,by rw [hx];exact .sc k i t hck (by omega) hir,xo,by rw [hx];simp [JH];omega,by rw [hx];simp [JH,T.nd],rfl, ?_,⟨by simp;omega,fun j hj hne=>?_⟩⟩
  ·rw [List.getElem?_set_ne (by omega)];exact k0
  ·rw [List.getElem?_set_ne (by omega)];exact hch.same j hj hne
 have b4 : decide (k < 4)=false:=decide_eq_false c4
 rw [if_neg c4] at hM
 have hisl : ∀ {σ},aT Tryz.prog 27 iv σ=okV (.int .i64 items.length) σ:=by intro σ;rw [hi.aT bK,hcs.len]
 simp only [go_sem,seval,q0,q3,q5,q6,q8,b1,b2,k0,k2,k3,k4,hkc,hic]
 refine ah (hO) ?_<;>simp only [go_sem,seval,q0,q3,q5,q6,q8,b3,b4,bne,Bool.not_true,k2,k3,k4,hkc,hic,hisl]
 have hcl:=hcs.len
 have hBi:=hi.blk
 have hBk:=hk.blk
 have wq : IntKind.i64.wrap ((q : Int)+1)=((q+1 : Nat) : Int):=by rw [iw (by omega)];omega
 refine bf (M:=fun ρ τ=>∃ (zs : List (T × Vl)) (n' : Nat),Tr.sD items (q+1) (n+1)=(n',.inl (zs.map (·.1)))∧(∀ p ∈ zs,oL p.1 p.2∧p.2.ok∧p.2.below+(q+1)≤64∧p.2.more+1=p.1.nd)∧ρ.get 5=.mptr σ.length 0∧ρ.get 6=.mptr (σ.length+1) 0∧ρ.get 8=.mptr (σ.length+(1+1)) 0∧τ[wid]?=some (.own [.int .i64 n'])∧Ch (fun j=>j=wid) σ3 τ ∧
  ((zs=[]∧ρ.get 11=.nils)∨(zs≠[]∧∃ jd,σ3.length≤jd∧ρ.get 11=.bZ jd 0 zs.length 11∧τ[jd]?=some (.own (zs.map (·.2.cells)).flatten)))) ?_ ?_
 ·rintro ρ τ ⟨zs,n',hm,hzs,q5,q6,q8,hwτ,hCh,hsl⟩
  rw [hm] at hM
  simp only at hM
  obtain ⟨g1,g2,g3,g4⟩:=qA items (q+1) (n+1) n' _ hOi hm (by omega)
  rw [List.length_map] at g4
  have hsum:=I5 zs fun p hp=>(hzs p hp).2.2.2
  have hmx : maxD (zs.map (·.2))≤64-q:=maxD_le fun x hx=>by obtain ⟨p,hp,rfl⟩:=List.mem_map.1 hx;have:=(hzs p hp).2.2.1;omega
  have hlt : σ3.length≤τ.length:=hCh.len
  have t1 : τ[σ.length]?=some (.own [.int .u64 seed,.int .i64 bits]):=by rw [hCh.same _ (by omega) (by omega)];exact k1
  have t2 : τ[σ.length+1]?=some (.own [.int .i64 k,.int .i64 i,.str t,kv,iv]):=by rw [hCh.same _ (by omega) (by omega)];exact k2
  have t3 : τ[σ.length+(1+1)]?=some (.own [.int .i64 0,.int .i64 0,.str [],.int .i64 0,.nilp,.int .u64 0,.int .i64 0,.int .i64 0,.nilp,.int .i64 0,.int .i64 0]):=by rw [hCh.same _ (by omega) (by omega)];exact k3
  have hB : dh 11 (zs.map (·.2.cells)):=⟨fun c hc=>by
    obtain ⟨p,hp,rfl⟩:=List.mem_map.1 hc;rfl,fun c hc=>by
    obtain ⟨p,hp,rfl⟩:=List.mem_map.1 hc;exact (hzs p hp).2.1.pure,fun c hc=>by
    obtain ⟨p,hp,rfl⟩:=List.mem_map.1 hc;exact (hzs p hp).2.1.cell⟩
  have fin' : ∀ (τ' : Store) (x : Vl) (v : T),M=(n',.ok v)→oL v x→x.ok→x.below+q≤64→x.more+1=v.nd→τ'[wid]?=τ[wid]?→(∀ i,i < σ.length→i≠wid→τ'[i]?=τ[i]?)→τ.length≤τ'.length→Wu wid q σ M (.ret (.tup [x.vv,.int .i64 0])) τ':=by
   intro τ' x v hM hv hxo hb hm' h1 h2 h3
   subst hM
   exact ⟨x,hv,hxo,hb,hm',rfl,by rw [h1];exact hwτ,⟨by omega,fun i hi hne=>by rw [h2 i hi hne,hCh.same i (by omega) hne];exact hch.same i hi hne⟩⟩
  by_cases c5 : k=4
  ·subst c5
   unfold jP at hM
   rw [if_pos rfl] at hM
   obtain ⟨root,hR,hC⟩:=LQ (fun j=>σ3.length≤j) (zs.map (·.2.cells)) hB (by simp;omega) (w:=ρ.get 11) (τ:=τ) (by
    rcases hsl with ⟨rfl,h⟩ | ⟨hne,jd,h1,h2,h3⟩
    ·exact .inl ⟨rfl,h⟩
    ·exact .inr ⟨by simpa using hne,jd,h1,by simpa using h2,h3⟩)
   have hR' : RP root ((zs.map (·.2)).map (·.cells)):=by rw [List.map_map];exact hR
   have hV:=OY root (zs.map (·.2)) (by intro y hy;obtain ⟨p,hp,rfl⟩:=List.mem_map.1 hy;exact (hzs p hp).2.1) hR' (by simp;omega) (by omega) (by omega)
   have hv : oL (.vec (zs.map (·.1))) ⟨0,0,[],4,root,0,0,0,.nilp,maxD (zs.map (·.2)),dw (zs.map (·.2))⟩:=.vec zs (fun p hp=>(hzs p hp).1) (fun p hp=>(hzs p hp).2.1) root hR
   have hxo : (⟨0,0,[],4,root,0,0,0,.nilp,maxD (zs.map (·.2)),dw (zs.map (·.2))⟩ : Vl).ok:=⟨hR.pure,hR.cell,rfl,rfl,by simp only;omega,by simp only;omega⟩
   have hb : (⟨0,0,[],4,root,0,0,0,.nilp,maxD (zs.map (·.2)),dw (zs.map (·.2))⟩ : Vl).below+q≤64:=by simp only;omega
   have hmn : (⟨0,0,[],4,root,0,0,0,.nilp,maxD (zs.map (·.2)),dw (zs.map (·.2))⟩ : Vl).more+1=(T.vec (zs.map (·.1))).nd:=by simp only [T.nd];omega
   generalize (⟨0,0,[],4,root,0,0,0,.nilp,maxD (zs.map (·.2)),dw (zs.map (·.2))⟩ : Vl)=x at *
   have d1 : x.cells.length=11:=rfl
   have d2 : x.cells.all VV.aC=true:=hxo.cell
   have d3 : x.cells.take 11=x.cells:=rfl
   have hrc:=hR.cell
   simp only [Vl.vv] at hV
   simp only [go_sem,seval] at hrc
   simp only [go_sem,seval,q5,q6,q8,t2,hkc,hic]
   refine hC _ fun τ' hl' hs'=>?_
   have t3' : τ'[σ.length+(1+1)]?=some (.own [.int .i64 0,.int .i64 0,.str [],.int .i64 0,.nilp,.int .u64 0,.int .i64 0,.int .i64 0,.nilp,.int .i64 0,.int .i64 0]):=by rw [hs' _ (by omega)];exact t3
   have l3 : σ.length+(1+1) < τ'.length:=by omega
   simp only [go_sem,seval,gZ,hrc]
   refine ah (hV) ?_<;>simp only [go_sem,seval,q5,q6,q8,t3',hrc,d1,d2,d3,List.getElem?_set_self l3]
   exact fin' _ x _ hM hv hxo hb hmn (by rw [List.getElem?_set_ne (by omega),hs' _ (by omega)]) (fun i hi hne=>by rw [List.getElem?_set_ne (by omega),hs' _ (by omega)]) (by simp;omega)
  ·have c56 : k=5∨k=6:=by
    by_cases h5 : k=5
    ·exact .inl h5
    by_cases h6 : k=6
    ·exact .inr h6
    exfalso
    unfold fF at c3
    rw [if_neg h5,if_neg (by omega),if_neg (by omega)] at c3
    omega
   have b5 : (k == 4)=false:=by simpa using c5
   have hzl : zs.length=items.length:=g4
   obtain ⟨prs,hp1,hp2,hp3,hp4⟩:=NY (zs:=zs) c56 (by rw [hzl];exact c3)
   rw [hp4] at hM
   have hsm:=yZ items (q+1) (n+1) n' _ hOi hSi hm
   have hprm : ∀ p ∈ prs,oL p.2.1 p.2.2∧p.2.2.ok∧p.2.2.below+(q+1)≤64∧p.2.2.more+1=p.2.1.nd∧p.1.length≤20000000∧(k=5→p.1.length≤200)∧(k=6→p.1=p.2.1.key):=by
    intro p hp
    obtain ⟨j,hj,rfl⟩:=List.getElem_of_mem hp
    obtain ⟨e1,e2,e3⟩:=hp2 j hj (by omega)
    have hz:=hzs _ (List.getElem_mem (l:=zs) (n:=j) (by omega))
    rw [← e1] at hz e3
    have hk5 : k=5→prs[j].1.length≤200:=fun h=>hkl2 _ (List.mem_of_getElem? (e2 h))
    have hv1 : prs[j].2.1 ∈ zs.map (·.1):=by rw [e1];exact List.mem_map.2 ⟨_,List.getElem_mem (by omega),rfl⟩
    have hle:=(DC _ (hsm _ hv1)).1
    have hnd : prs[j].2.1.nd≤T.oQ (zs.map (·.1)):=by
     have:=x9 hv1;exact this
    refine ⟨hz.1,hz.2.1,hz.2.2.1,hz.2.2.2, ?_,hk5,e3⟩
    rcases c56 with h | h
    ·have:=hk5 h;omega
    ·rw [e3 h];omega
   have hlen : ∀ {σ : Store},aT Tryz.prog 196 (ρ.get 11) σ=okV (.int .i64 zs.length) σ:=by
    intro σ
    rcases hsl with ⟨rfl,h⟩ | ⟨hne,jd,h1,h2,h3⟩
    ·rw [h,qw (by simp [dS])];rfl
    ·rw [h2,y9 (by simp [dS])]
   simp only [go_sem,seval,q5,q6,q8,t1,t2,hkc,hic,b5]
   refine ah (TK seed bits) ?_<;>simp only [go_sem,seval,q5,q6,q8,hlen,SS]
   have hlim : ∀ q ∈ aY prs,q ∈ prs:=ni prs
   have hpm : ∀ (m : Nat) (ps : List iE),ps.Perm ((aY (prs.take m)).map fun q=>(q.1,q.2.2))→ps.length=(aY (prs.take m)).length∧∀ q ∈ ps,q.2.ok∧q.1.length≤1000000000:=by
    intro m ps hp
    refine ⟨by simpa using hp.length_eq,fun q hq=>?_⟩
    obtain ⟨p,hp',rfl⟩:=List.mem_map.1 (hp.mem_iff.1 hq)
    have:=hprm p (List.mem_of_mem_take (ni _ p hp'))
    exact ⟨this.2.1,by simp only;omega⟩
   refine bf (M:=fun ρ' τ'=>∃ (hr : VV) (ps : List iE),lQ (lW seed bits) hr ps∧ps.Perm ((aY prs).map fun q=>(q.1,q.2.2))∧τ'[τ.length]?=some (.own [.int .u64 seed,.int .i64 bits,.int .i64 (aY prs).length,hr])∧τ.length < τ'.length∧(∀ i,i < τ.length→τ'[i]?=τ[i]?)∧ρ'.get 6=.mptr (σ.length+1) 0∧ρ'.get 8=.mptr (σ.length+(1+1)) 0∧ρ'.get 16=.mptr τ.length 0∧ρ'.get 11=ρ.get 11) ?_ ?_
   ·rintro ρ' τ' ⟨hr,ps,hM',hpp,hm16,hlt',hsame,r6,r8,r16,r11⟩
    have hcl:=uI prs
    have hrc:=hM'.cell
    have hru:=iq hrc
    have hrl:=cellC hrc
    have t2' : τ'[σ.length+1]?=some (.own [.int .i64 k,.int .i64 i,.str t,kv,iv]):=by rw [hsame _ (by omega)];exact t2
    have t3' : τ'[σ.length+(1+1)]?=some (.own [.int .i64 0,.int .i64 0,.str [],.int .i64 0,.nilp,.int .u64 0,.int .i64 0,.int .i64 0,.nilp,.int .i64 0,.int .i64 0]):=by rw [hsame _ (by omega)];exact t3
    have l3 : σ.length+(1+1) < τ'.length:=by omega
    have hL:=Ba seed bits (aY prs).length hr hM'.pure hM'.cell
    simp only [go_sem,seval] at hrc
    simp only [go_sem,seval] at hru
    simp only [go_sem,seval] at hrl
    by_cases hlt6 : (aY prs).length < zs.length
    ·have b6 : decide (((aY prs).length : Int) < (zs.length : Int))=true:=decide_eq_true (by omega)
     rw [if_pos hlt6] at hM
     have t4:=uZ t3'
     subst hM
     simp only [go_sem,seval,r6,r8,r16,r11,hm16,hrc,hru,hrl]
     refine ah (hL) ?_<;>simp only [go_sem,seval,r6,r8,r16,r11,hlen,b6,t3',t4]
     exact ⟨by rw [hz],by rw [hsame _ (by omega)];exact hwτ,⟨by omega,fun i hi hne=>by rw [hsame _ (by omega),hCh.same i (by omega) hne];exact hch.same i hi hne⟩⟩
    ·have b6 : decide (((aY prs).length : Int) < (zs.length : Int))=false:=decide_eq_false (by omega)
     rw [if_neg hlt6] at hM
     have e1 : maxD (oM ps)=maxD ((aY prs).map (·.2.2)):=by rw [Aw (hpp.map (·.2)),List.map_map];rfl
     have e2 : dw (oM ps)=dw ((aY prs).map (·.2.2)):=by rw [A8 (hpp.map (·.2)),List.map_map];rfl
     have e3:=Jl (aY prs) fun q hq=>(hprm q (hlim q hq)).2.2.2.1
     have hgood:=wV (q:=q) (by omega) (k:=k) (keys:=keys) (l:=zs.map (·.1)) (by
      rcases c56 with h | h
      ·subst h
       exact .inr (.inl ⟨rfl,by rw [List.length_map];exact hp3 rfl,Xw c3⟩)
      ·exact .inr (.inr h)) g1 (by rw [hp4,if_neg hlt6])
     have hnd : T.mP ((aY prs).map fun q=>(q.1,q.2.1))+1=(if k=5 then T.map ((aY prs).map fun q=>(q.1,q.2.1)) else T.set ((aY prs).map fun q=>q.2.1)).nd:=by
      split
      ·simp only [T.nd];omega
      ·have:=BM ((aY prs).map fun q=>(q.1,q.2.1))
       rw [List.map_map] at this
       simp only [T.nd]
       rw [← this,Nat.add_comm];rfl
     have hmx2 : maxD ((aY prs).map (·.2.2))≤64-q:=maxD_le fun x hx=>by
      obtain ⟨p,hp,rfl⟩:=List.mem_map.1 hx
      have:=(hprm p (hlim p hp)).2.2.1;omega
     have hps:=hpm prs.length ps (by rw [List.take_length];exact hpp)
     rw [List.take_length] at hps
     have hK:=RG k c56 seed bits (aY prs).length hr ps hM' (fun p hp=>(hps.2 p hp).1) (by omega) (by omega) (by omega)
     have hv : oL (if k=5 then .map ((aY prs).map fun q=>(q.1,q.2.1)) else .set ((aY prs).map fun q=>q.2.1)) ⟨0,0,[],k,.nilp,seed,bits,(aY prs).length,hr,maxD (oM ps),dw (oM ps)⟩:=by
      rw [e1,e2]
      rcases c56 with h | h
      ·subst h
       rw [if_pos rfl]
       exact .map (aY prs) seed bits hr ps (wJ prs) hpp hM' (fun q hq=>(hprm q (hlim q hq)).1) fun q hq=>⟨(hprm q (hlim q hq)).2.1,by have:=(hprm q (hlim q hq)).2.2.2.2.2.1 rfl;omega⟩
      ·subst h
       rw [if_neg (by decide)]
       exact .set (aY prs) seed bits hr ps (wJ prs) hpp hM' (fun q hq=>(hprm q (hlim q hq)).1) (fun q hq=>⟨(hprm q (hlim q hq)).2.1,by have:=(hprm q (hlim q hq)).2.2.2.2.1;omega⟩) fun q hq=>(hprm q (hlim q hq)).2.2.2.2.2.2 rfl
     have hxo : (⟨0,0,[],k,.nilp,seed,bits,(aY prs).length,hr,maxD (oM ps),dw (oM ps)⟩ : Vl).ok:=⟨rfl,rfl,hM'.pure,hM'.cell,by simp only;omega,by simp only;omega⟩
     have hb : (⟨0,0,[],k,.nilp,seed,bits,(aY prs).length,hr,maxD (oM ps),dw (oM ps)⟩ : Vl).below+q≤64:=by simp only;omega
     have hmn : (⟨0,0,[],k,.nilp,seed,bits,(aY prs).length,hr,maxD (oM ps),dw (oM ps)⟩ : Vl).more+1=(if k=5 then T.map ((aY prs).map fun q=>(q.1,q.2.1)) else T.set ((aY prs).map fun q=>q.2.1)).nd:=by simp only;omega
     generalize (⟨0,0,[],k,.nilp,seed,bits,(aY prs).length,hr,maxD (oM ps),dw (oM ps)⟩ : Vl)=x at *
     have d1 : x.cells.length=11:=rfl
     have d2 : x.cells.all VV.aC=true:=hxo.cell
     have d3 : x.cells.take 11=x.cells:=rfl
     simp only [Vl.vv] at hK
     simp only [go_sem,seval,r6,r8,r16,r11,hm16,hrc,hru,hrl]
     refine ah (hL) ?_<;>simp only [go_sem,seval,r6,r8,r16,r11,hlen,b6,t2',hkc,hic,hm16,hrc,hru,hrl]
     refine ah (hK) ?_<;>simp only [go_sem,seval,r6,r8,r16,r11,t3',d1,d2,d3,List.getElem?_set_self l3]
     exact fin' _ x _ hM hv hxo hb hmn (by rw [List.getElem?_set_ne (by omega),hsame _ (by omega)]) (fun i hi hne=>by rw [List.getElem?_set_ne (by omega),hsame _ (by omega)]) (by simp;omega)
   refine aF (fun m ρ' τ'=>∃ (j : Nat) (hr : VV) (ps : List iE),m=zs.length-j∧j≤zs.length∧lQ (lW seed bits) hr ps∧ps.Perm ((aY (prs.take j)).map fun q=>(q.1,q.2.2))∧τ'[τ.length]?=some (.own [.int .u64 seed,.int .i64 bits,.int .i64 (aY (prs.take j)).length,hr])∧τ.length < τ'.length∧(∀ i,i < τ.length→τ'[i]?=τ[i]?) ∧
    ρ'.get 6=.mptr (σ.length+1) 0∧ρ'.get 8=.mptr (σ.length+(1+1)) 0∧ρ'.get 16=.mptr τ.length 0∧ρ'.get 11=ρ.get 11∧ρ'.get 85=ρ.get 11∧ρ'.get 86=.int .i64 zs.length∧ρ'.get 87=.int .i64 j) (n:=zs.length) ?_ ⟨0,.nilp,[],rfl,by omega,.inl ⟨rfl,rfl⟩,by simp [aY],by simp [aY],by simp,fun i hi=>List.getElem?_append_left hi,q6,q8,rfl,rfl,rfl,rfl,rfl⟩
   rintro m ρ' τ' ⟨j,hr,ps,rfl,hj,hM',hpp,hm16,hlt',hsame,r6,r8,r16,r11,r85,r86,r87⟩
   simp only [go_sem,seval,r85,r86,r87]
   refine aG (fun hc=>?_) (fun hc=>?_)
   rotate_left
   ·have hc' : j=prs.length:=by simp at hc;omega
    rw [hc',List.take_length] at hpp hm16
    simp only [go_sem,seval,r6,r8,r16,r11]
    exact ⟨hr,ps,hM',hpp,hm16,hlt',hsame⟩
   have hc' : j < zs.length:=by simpa using hc
   have hjp : j < prs.length:=by omega
   obtain ⟨jd,hjd,q11,hown⟩ : ∃ jd,σ3.length≤jd∧ρ.get 11=.bZ jd 0 zs.length 11∧τ[jd]?=some (.own (zs.map (·.2.cells)).flatten):=by
    rcases hsl with ⟨rfl,_⟩ | ⟨_,h⟩
    ·simp at hc'
    ·exact h
   have hjl:=(List.getElem?_eq_some_iff.1 hown).1
   have hown' : τ'[jd]?=some (.own (zs.map (·.2.cells)).flatten):=by rw [hsame _ hjl];exact hown
   obtain ⟨p1,p2,p3⟩:=hp2 j hjp hc'
   have hpj:=hprm prs[j] (List.getElem_mem hjp)
   obtain ⟨x,hx⟩ : ∃ x,x=prs[j].2.2:=⟨_,rfl⟩
   have hxo : x.ok:=by rw [hx];exact hpj.2.1
   have d1 : x.cells.length=11:=rfl
   have d2 : x.cells.all VV.aC=true:=hxo.cell
   have d3 : x.cells.take 11=x.cells:=rfl
   have a1 : (0 : Int)≤(j : Int):=by omega
   have a2 : (j : Int) < (zs.length : Int):=by omega
   have a3 : j*11+11≤(zs.map (·.2.cells)).flatten.length:=by rw [hB.flat,List.length_map];omega
   have a4 : ((zs.map (·.2.cells)).flatten.drop (j*11)).take 11=x.cells:=by
    rw [hB.og (i:=j) (by simpa using hc'),hx,p1];simp
   have a6 : IntKind.i64.wrap ((j : Int)+1)=((j+1 : Nat) : Int):=by rw [iw (by omega)];omega
   have t2' : ∀ υ,(τ'++υ)[σ.length+1]?=some (.own [.int .i64 k,.int .i64 i,.str t,kv,iv]):=fun υ=>by rw [List.getElem?_append_left (by omega),hsame _ (by omega)];exact t2
   have m16 : ∀ υ,(τ'++υ)[τ.length]?=some (.own [.int .u64 seed,.int .i64 bits,.int .i64 (aY (prs.take j)).length,hr]):=fun υ=>by rw [List.getElem?_append_left hlt'];exact hm16
   obtain ⟨pl,pok⟩:=hpm j ps hpp
   have hjl2:=uI (prs.take j)
   rw [List.length_take] at hjl2
   obtain ⟨hr',qs,hq,hqp,hP⟩:=OB seed bits (aY (prs.take j)).length hr ps hM' pok pl.symm (by omega) prs[j].1 x hxo (by have:=hpj.2.2.2.2.1;omega)
   have hrise:=wJ (prs.take j)
   have hli : aY (prs.take (j+1))=cO prs[j].1 (prs[j].2.1,x) (aY (prs.take j)):=by
    rw [List.take_succ_eq_append_getElem hjp,Ag,hx]
   have hqp' : qs.Perm ((aY (prs.take (j+1))).map fun q=>(q.1,q.2.2)):=by rw [hli];exact Nk hrise hpp hqp
   have hql : qs.length=(aY (prs.take (j+1))).length:=by simpa using hqp'.length_eq
   rw [hql] at hP
   have hrc:=hM'.cell
   have hrc' : hr'.aC=true:=by obtain ⟨_,_,_,rfl,_⟩:=hq.cells;rfl
   have hru':=iq hrc'
   have hrl':=cellC hrc'
   simp only [go_sem,seval] at hrc
   simp only [go_sem,seval] at hrc'
   simp only [go_sem,seval] at hru'
   simp only [go_sem,seval] at hrl'
   simp only [Vl.vv] at hP
   have hfin : ∀ τ5 : Store,τ5=(τ'++[Obj.own x.cells]).set τ.length (.own [.int .u64 seed,.int .i64 bits,.int .i64 (aY (prs.take (j+1))).length,hr'])→lQ (lW seed bits) hr' qs∧τ5[τ.length]?=some (.own [.int .u64 seed,.int .i64 bits,.int .i64 (aY (prs.take (j+1))).length,hr'])∧τ.length < τ5.length∧∀ i,i < τ.length→τ5[i]?=τ[i]?:=by
    intro τ5 h
    subst h
    exact ⟨.inr hq,by rw [List.getElem?_set_self (by simp;omega)],by simp;omega,fun i hi=>by rw [List.getElem?_set_ne (by omega),List.getElem?_append_left (by omega)];exact hsame i hi⟩
   rcases c56 with h5 | h6
   ·subst h5
    have hkz:=hp3 rfl
    obtain ⟨tgk,hkt⟩:=hk.fP (by intro e;have:=congrArg List.length e;simp at this;rw [this] at hkz;simp at hkz;omega)
    rw [List.length_map] at hkt
    have c2 : (j : Int) < (keys.length : Int):=by omega
    have c3 : j*1 < (keys.map fun b=>[VV.str b]).flatten.length:=by rw [hBk.flat,List.length_map];omega
    have c4 : (keys.map fun b=>[VV.str b]).flatten.getD (j*1) .undef=VV.str prs[j].1:=by
     have h:=hBk.og (i:=j) (by simp;omega)
     have h2:=congrArg (·[0]?) h
     simp only [List.getElem?_take_of_lt (Nat.zero_lt_one),List.getElem?_drop,List.getElem_map,List.getElem?_cons_zero,Nat.add_zero] at h2
     have h3:=p2 rfl
     rw [List.getElem?_eq_getElem (by omega)] at h3
     rw [List.getD_eq_getElem?_getD,h2,Option.some.inj h3];rfl
    simp only [go_sem,seval,r6,r8,r16,r11,r85,r86,r87,q11,a1,a2,a3,a4,hown',d1,d2,d3,t2',m16,hrc,hkt,c2,c3,c4,Int.toNat_natCast,SS]
    refine aj (hP) (by simp only [go_sem,seval,r6,r8,r16,r11,r85,r86,r87,m16,hrc',hru',hrl',a6,SS]) ?_<;>simp only [go_sem,seval,r6,r8,r16,r11,r85,r86,r87,m16,hrc',hru',hrl',a6,SS]
    obtain ⟨f1,f2,f3,f4⟩:=hfin _ rfl
    exact ⟨zs.length-(j+1),by omega,j+1,hr',qs,rfl,by omega,f1,hqp',f2,f3,f4,q11,q11,rfl⟩
   ·subst h6
    have hKey:=Vj hpj.1 hpj.2.1 (by rw [← hpj.2.2.2.2.2.2 rfl];have:=hpj.2.2.2.2.1;omega)
    rw [← hpj.2.2.2.2.2.2 rfl,← hx] at hKey
    simp only [Vl.vv] at hKey
    simp only [go_sem,seval,r6,r8,r16,r11,r85,r86,r87,q11,a1,a2,a3,a4,hown',d1,d2,d3,t2',m16,hrc,Int.toNat_natCast,SS]
    refine aj (hKey) (by simp only [go_sem,seval,d1,d2,d3,m16,r16,hrc,SS]) ?_<;>simp only [go_sem,seval,d1,d2,d3,m16,r16,hrc,SS]
    refine aj (hP) (by simp only [go_sem,seval,r6,r8,r16,r11,r85,r86,r87,m16,hrc',hru',hrl',a6,SS]) ?_<;>simp only [go_sem,seval,r6,r8,r16,r11,r85,r86,r87,m16,hrc',hru',hrl',a6,SS]
    obtain ⟨f1,f2,f3,f4⟩:=hfin _ rfl
    exact ⟨zs.length-(j+1),by omega,j+1,hr',qs,rfl,by omega,f1,hqp',f2,f3,f4,q11,q11,rfl⟩
 refine aF (fun m ρ τ=>∃ (j : Nat) (zs : List (T × Vl)) (n' : Nat),m=items.length-j∧j≤items.length∧zs.length=j∧n'≤16384∧lG items (q+1) (n+1) j n' (zs.map (·.1))∧(∀ p ∈ zs,oL p.1 p.2∧p.2.ok∧p.2.below+(q+1)≤64∧p.2.more+1=p.1.nd)∧τ[wid]?=some (.own [.int .i64 n'])∧Ch (fun j=>j=wid) σ3 τ ∧
  ((zs=[]∧ρ.get 11=.nils)∨(zs≠[]∧∃ jd,σ3.length≤jd∧ρ.get 11=.bZ jd 0 zs.length 11∧τ[jd]?=some (.own (zs.map (·.2.cells)).flatten))) ∧
  ρ.get 0=.mptr wid 0∧ρ.get 3=.int .i64 q∧ρ.get 5=.mptr σ.length 0∧ρ.get 6=.mptr (σ.length+1) 0∧ρ.get 8=.mptr (σ.length+(1+1)) 0∧ρ.get 53=iv∧ρ.get 54=.int .i64 items.length∧ρ.get 55=.int .i64 j) (n:=items.length) ?_ ⟨0,[],n+1,rfl,by omega,rfl,by omega,.zero,by simp,k0,.refl _ _,.inl ⟨rfl,rfl⟩,q0,q3,q5,q6,q8,rfl,rfl,rfl⟩
 rintro m ρ τ ⟨j,zs,n',rfl,hj,hzl,hn',hAt,hzs,hwτ,hCh,hsl,q0,q3,q5,q6,q8,q53,q54,q55⟩
 simp only [go_sem,seval,q53,q54,q55]
 refine aG (fun hc=>?_) (fun hc=>?_)
 rotate_left
 ·have hc' : j=items.length:=by simp at hc;omega
  subst hc'
  simp only [go_sem,seval,q0,q3,q5,q6,q8]
  exact ⟨zs,n',hAt.all,hzs,hwτ,hCh,hsl⟩
 have hc' : j < items.length:=by simpa using hc
 have hcj : j < cs.length:=by omega
 have hlt : σ3.length≤τ.length:=hCh.len
 have t1 : τ[σ.length]?=some (.own [.int .u64 seed,.int .i64 bits]):=by rw [hCh.same _ (by omega) (by omega)];exact k1
 obtain ⟨tg,hit⟩:=hi.fP (by intro e;rw [e] at hcj;simp at hcj)
 rw [hcl] at hit
 have hT:=hcs.get j hc' hcj
 obtain ⟨x1,x2,x3⟩:=hT.cells
 have x4 : cs[j].take 5=cs[j]:=List.take_of_length_le (by omega)
 have a1 : (0 : Int)≤(j : Int):=by omega
 have a2 : (j : Int) < (items.length : Int):=by omega
 have a3 : j*5+5≤cs.flatten.length:=by rw [hBi.flat];omega
 have a4 : (cs.flatten.drop (j*5)).take 5=cs[j]:=hBi.og hcj
 have a6 : IntKind.i64.wrap ((j : Int)+1)=((j+1 : Nat) : Int):=by rw [iw (by omega)];omega
 have t1' : ∀ a,(τ++[a])[σ.length]?=some (.own [.int .u64 seed,.int .i64 bits]):=fun a=>by rw [List.getElem?_append_left (by omega)];exact t1
 have hih:=ih j hc' hcj n' (τ++[Obj.own cs[j]]) (by omega) (by rw [List.getElem?_append_left (by omega)];exact hwτ) hn'
 simp only [go_sem,seval,q0,q3,q5,q6,q8,q53,q54,q55,hit,a1,a2,a3,a4,x1,x3,x4,wq,t1',Int.toNat_natCast,SS]
 refine CV.mono hih ?_
 rintro r τ2 hr
 obtain ⟨MR,hMR⟩ : ∃ M,M=items[j].mk (q+1) n':=⟨_,rfl⟩
 rw [← hMR] at hr
 obtain ⟨n1,R⟩:=MR
 cases R with
 | er e =>
  obtain ⟨rfl,hw2,hch2⟩:=hr
  have hl2:=hch2.len
  rw [List.length_append,List.length_singleton] at hl2
  have be : (e == 0)=false:=by simpa using Nq items[j] (q+1) n' n1 e hMR.symm
  have r3 : ∀ a,(τ2++[a])[σ.length+(1+1)]?=some (.own [.int .i64 0,.int .i64 0,.str [],.int .i64 0,.nilp,.int .u64 0,.int .i64 0,.int .i64 0,.nilp,.int .i64 0,.int .i64 0]):=fun a=>by
   rw [List.getElem?_append_left (by omega),hch2.same _ (by simp;omega) (by omega),List.getElem?_append_left (by omega),hCh.same _ (by omega) (by omega)];exact k3
  have r4:=fun a=>uZ (r3 a)
  rw [hAt.er hc' hMR.symm] at hM
  simp only at hM
  subst hM
  simp only [go_sem,seval,gZ,hz,q8,be,bne,Bool.not_false,r3,r4,SS]
  refine ⟨by rw [hz],by rw [List.getElem?_append_left (by omega)];exact hw2,⟨by simp;omega,fun i hi hne=>?_⟩⟩
  rw [List.getElem?_append_left (by omega),hch2.same _ (by simp;omega) hne,List.getElem?_append_left (by omega),hCh.same _ (by omega) hne]
  exact hch.same _ hi hne
 | ok v =>
  obtain ⟨x,hv,hxo,hxb,hxm,rfl,hw2,hch2⟩:=hr
  have hl2:=hch2.len
  rw [List.length_append,List.length_singleton] at hl2
  have d1 : x.cells.length=11:=rfl
  have d2 : x.cells.all VV.aC=true:=hxo.cell
  have d3 : x.cells.take 11=x.cells:=rfl
  have hC : dh 11 [x.cells]:=hxo.blk
  have hn1:=(xW items[j] (q+1) n' n1 v (hOi _ (List.getElem_mem hc')) hMR.symm).2.2
  have hAt':=hAt.ok hc' hMR.symm
  have hzl2 : (zs++[(v,x)]).length=j+1:=by simp [hzl]
  have hzs' : ∀ p ∈ zs++[(v,x)],oL p.1 p.2∧p.2.ok∧p.2.below+(q+1)≤64∧p.2.more+1=p.1.nd:=by
   intro p hp
   rcases List.mem_append.1 hp with h | h
   ·exact hzs p h
   ·simp at h;subst h;exact ⟨hv,hxo,hxb,hxm⟩
  have hsrc : ∀ {σ : Store},aJ Tryz.prog σ 11 196 (.sl 1 x.cells true)=some ([x.cells].length,[x.cells].flatten):=by
   intro σ
   have:=(dG.sl [x.cells] true hC).src (P:=Tryz.prog) (σ:=σ) dS
   simpa using this
  have hmap : (zs++[(v,x)]).map (·.2.cells)=zs.map (·.2.cells)++[x.cells]:=by simp
  have hB : dh 11 (zs.map (·.2.cells)):=⟨fun c hc=>by
    obtain ⟨p,hp,rfl⟩:=List.mem_map.1 hc;rfl,fun c hc=>by
    obtain ⟨p,hp,rfl⟩:=List.mem_map.1 hc;exact (hzs p hp).2.1.pure,fun c hc=>by
    obtain ⟨p,hp,rfl⟩:=List.mem_map.1 hc;exact (hzs p hp).2.1.cell⟩
  have hs2 : ∀ i,i < σ3.length→i≠wid→τ2[i]?=σ3[i]?:=fun i hi hne=>by rw [hch2.same _ (by simp;omega) hne,List.getElem?_append_left (by omega)];exact hCh.same i hi hne
  rcases hsl with ⟨rfl,q11⟩ | ⟨hne,jd,hjd,q11,hown⟩
  ·simp only [go_sem,seval,gZ,Vl.vv,q0,q3,q5,q6,q8,q11,q53,q54,q55,bne,Bool.not_false,Bool.not_true,beq_self_eq_true,d1,d2,d3,SS]
   refine tq (ys:=[x.cells]) dS vH uO nO rfl (by decide) (by decide) hC (by simp) (by simp) hsrc ?_
   simp only [go_sem,seval,q0,q3,q5,q6,q8,q53,q54,q55,a6,SS]
   exact ⟨items.length-(j+1),by omega,j+1,[(v,x)],n1,rfl,by omega,by simpa using hzl2,hn1,by simpa using hAt',by simpa using hzs',by rw [List.getElem?_append_left (by omega)];exact hw2,⟨by simp;omega,fun i hi hne=>by rw [List.getElem?_append_left (by omega)];exact hs2 i hi hne⟩,.inr ⟨by simp,τ2.length+1,by omega,by simp,by rw [List.getElem?_append_right (by omega)];simp⟩,hit,rfl⟩
  ·simp only [go_sem,seval,gZ,Vl.vv,q0,q3,q5,q6,q8,q11,q53,q54,q55,bne,Bool.not_false,Bool.not_true,beq_self_eq_true,d1,d2,d3,SS]
   have hjl:=(List.getElem?_eq_some_iff.1 hown).1
   have hown' : (τ2++[Obj.own x.cells])[jd]?=some (.own (zs.map (·.2.cells)).flatten):=by
    rw [List.getElem?_append_left (by omega),hch2.same _ (by simp;omega) (by omega),List.getElem?_append_left hjl];exact hown
   refine jC (xs:=zs.map (·.2.cells)) (ys:=[x.cells]) dS vH uO nO rfl (by decide) (by decide) hown' hB hC (by simp;omega) (by simp) hsrc ?_
   simp only [go_sem,seval,q0,q3,q5,q6,q8,q53,q54,q55,a6,SS]
   exact ⟨items.length-(j+1),by omega,j+1,zs++[(v,x)],n1,rfl,by omega,hzl2,hn1,by rw [List.map_append];exact hAt',hzs',by rw [List.getElem?_append_left (by simp;omega),List.getElem?_set_ne (by omega),List.getElem?_append_left (by omega)];exact hw2,⟨by simp;omega,fun i hi hne=>by rw [List.getElem?_append_left (by simp;omega),List.getElem?_set_ne (by omega),List.getElem?_append_left (by omega)];exact hs2 i hi hne⟩,.inr ⟨by simp,τ2.length+1,by omega,by simp,by rw [List.getElem?_append_right (by simp)];simp⟩,hit,rfl⟩
end Go.V
namespace Go.V
open Go.Proofs
set_option maxRecDepth 100000
mutual
theorem Oc : ∀ (x : Tr) (c : List VV),kV x c→jk x→FY x→∀ (seed bits : Int) (q n wid : Nat) (σ : Store),σ[wid]?=some (.own [.int .i64 n])→q≤65→n≤16384 →
  CV Tryz.prog G0 80 [.mptr wid 0,.agg [.int .u64 seed,.int .i64 bits],.agg c,.int .i64 q] σ (Wu wid q σ (x.mk q n))
 | .node k i t keys items,c,h,hO,hS,seed,bits,q,n,wid,σ,hw,hq,hn=>by
  cases h with
  | node h1 h2 h3 h4 h5 =>
  have hOi : ∀ x ∈ items,jk x:=by cases hO;assumption
  have hSi : ∀ x ∈ items,FY x:=by cases hS;assumption
  exact KC k i t keys items _ _ _ h1 h2 h3 hO hS seed bits q n wid σ hw hq hn fun j h h' n σ hq hw hn=>Jd items _ h2 hOi hSi j h h' seed bits (q+1) n wid σ hw (by omega) hn
theorem Jd : ∀ (l : List Tr) (cs : List (List VV)),jl l cs→(∀ x ∈ l,jk x)→(∀ x ∈ l,FY x)→∀ (j : Nat) (h : j < l.length) (h' : j < cs.length) (seed bits : Int) (q n wid : Nat) (σ : Store),σ[wid]?=some (.own [.int .i64 n])→q≤65→n≤16384 →
  CV Tryz.prog G0 80 [.mptr wid 0,.agg [.int .u64 seed,.int .i64 bits],.agg cs[j],.int .i64 q] σ (Wu wid q σ (l[j].mk q n))
 | x::l,c::cs,.cons h1 h2,hO,hS,0,_,_,seed,bits,q,n,wid,σ,hw,hq,hn=>Oc x c h1 (hO x (by simp)) (hS x (by simp)) seed bits q n wid σ hw hq hn
 | x::l,c::cs,.cons h1 h2,hO,hS,j+1,h,h',seed,bits,q,n,wid,σ,hw,hq,hn=>Jd l cs h2 (fun y hy=>hO y (by simp [hy])) (fun y hy=>hS y (by simp [hy])) j (by simpa using h) (by simpa using h') seed bits q n wid σ hw hq hn
end
def Yl (σ : Store) : Nat × Hz→gY→Store→Prop
 | (_,.er e),r,σ'=>r=.ret (.tup [Vl.zero.vv,.int .i64 e])∧Ch (fun _=>False) σ σ'
 | (_,.ok v),r,σ'=>∃ x : Vl,oL v x∧x.ok∧x.below+1≤64∧x.more+1=v.nd∧r=.ret (.tup [x.vv,.int .i64 0])∧Ch (fun _=>False) σ σ'
theorem XI {x : Tr} {c : List VV} (h : kV x c) (hO : jk x) (hS : FY x) (seed bits : Int) (σ : Store) : CV Tryz.prog G0 38 [.agg [.int .u64 seed,.int .i64 bits],.agg c] σ (Yl σ (x.mk 1 0)):=by
 obtain ⟨x1,x2,x3⟩:=h.cells
 have x4 : c.take 5=c:=List.take_of_length_le (by omega)
 refine cv e38 (by simp) ?_
 simp only [go_sem,seval,c38,x1,x3,x4,SS]
 have hz : Vl.zero.vv=.agg [.int .i64 0,.int .i64 0,.str [],.int .i64 0,.nilp,.int .u64 0,.int .i64 0,.int .i64 0,.nilp,.int .i64 0,.int .i64 0]:=rfl
 refine CV.mono (Oc x c h hO hS seed bits 1 0 (σ.length+3) _ (by simp) (by omega) (by omega)) ?_
 rintro r σ' hr
 generalize x.mk 1 0=M at *
 obtain ⟨n1,R⟩:=M
 cases R with
 | er e =>
  obtain ⟨rfl,_,hch⟩:=hr
  have hl:=hch.len
  have r3 : σ'[σ.length+(1+1)]?=some (.own [.int .i64 0,.int .i64 0,.str [],.int .i64 0,.nilp,.int .u64 0,.int .i64 0,.int .i64 0,.nilp,.int .i64 0,.int .i64 0]):=by rw [hch.same _ (by simp) (by omega)];simp
  have r4:=uZ r3
  simp only [go_sem,seval,gZ,hz,r3,r4,SS]
  exact ⟨by rw [hz],⟨by simp at hl;omega,fun i hi _=>by rw [hch.same i (by simp;omega) (by omega),List.getElem?_append_left hi]⟩⟩
 | ok v =>
  obtain ⟨y,hv,hyo,hyb,hym,rfl,_,hch⟩:=hr
  have hl:=hch.len
  have l3 : σ.length+(1+1) < σ'.length:=by simp at hl;omega
  have d1 : y.cells.length=11:=rfl
  have d2 : y.cells.all VV.aC=true:=hyo.cell
  have d3 : y.cells.take 11=y.cells:=rfl
  have r3 : σ'[σ.length+(1+1)]?=some (.own [.int .i64 0,.int .i64 0,.str [],.int .i64 0,.nilp,.int .u64 0,.int .i64 0,.int .i64 0,.nilp,.int .i64 0,.int .i64 0]):=by rw [hch.same _ (by simp) (by omega)];simp
  simp only [go_sem,seval,gZ,Vl.vv,r3,d1,d2,d3,List.getElem?_set_self l3,SS]
  exact ⟨y,hv,hyo,hyb,hym,rfl,⟨by simp at hl ⊢;omega,fun i hi _=>by rw [List.getElem?_set_ne (by omega),hch.same i (by simp;omega) (by omega),List.getElem?_append_left hi]⟩⟩
def FD : Nat × Hz→Int
 | (_,.er e)=>e
 | (_,.ok _)=>0
end Go.V
namespace Go.V
open Go.Proofs
set_option maxRecDepth 100000
theorem Tr.CO {x : Tr} (h : (x.small 0 400).2=true) : FY x:=(AU x 0 400 (x.small 0 400).1 (by omega) (by rw [← h])).1
theorem VK {x : Tr} (hO : jk x) (hS : (x.small 0 400).2=true) (h : FD (x.mk 1 0)=0) : ∃ v,x.mk 1 0=(v.nd,.ok v)∧v.wf 1∧v.nd≤400∧v.key.length≤400000∧v.enc.length≤1200000:=by
 obtain ⟨M,hM⟩ : ∃ M,M=x.mk 1 0:=⟨_,rfl⟩
 rw [← hM] at h ⊢
 obtain ⟨n1,R⟩:=M
 cases R with
 | er e=>exact absurd h (Nq x 1 0 n1 e hM.symm)
 | ok v =>
  obtain ⟨h1,h2,h3⟩:=xW x 1 0 n1 v hO hM.symm
  have hs:=Tm x 1 0 n1 v hO (Tr.CO hS) hM.symm
  have hl:=DC v hs
  have h4:=E8 x 0 400 (x.small 0 400).1 1 0 n1 _ (by omega) (by rw [← hS]) hM.symm
  have h5:=(uq x 0 400 (by omega)).1
  exact ⟨v,by rw [h2,Nat.zero_add],h1,by omega,by omega,by omega⟩
end Go.V
namespace Go.V
mutual
def T.tree : T→Tr
 | .sc k i t=>.node k i t [] []
 | .vec l=>.node 4 0 [] [] (T.trees l)
 | .map l=>.node 5 0 [] (l.map (·.1)) (T.pV l)
 | .set l=>.node 6 0 [] [] (T.trees l)
def T.trees : List T→List Tr
 | []=>[]
 | x::l=>x.tree::T.trees l
def T.pV : List (Bs × T)→List Tr
 | []=>[]
 | p::l=>p.2.tree::T.pV l
end
theorem dn : ∀ l : List T,T.trees l=l.map T.tree
 | []=>rfl
 | x::l=>by simp [T.trees,dn l]
theorem fM : ∀ l : List (Bs × T),T.pV l=l.map (·.2.tree)
 | []=>rfl
 | x::l=>by simp [T.pV,fM l]
theorem mD : ∀ l : List T,l.length≤T.oQ l
 | []=>by simp
 | x::l=>by have:=mD l;have:=IQ x;simp only [T.oQ,List.length_cons];omega
theorem uU : ∀ l : List (Bs × T),l.length≤T.mP l
 | []=>by simp
 | x::l=>by have:=uU l;have:=IQ x.2;simp only [T.mP,List.length_cons];omega
end Go.V
namespace Go.V
open Go.Proofs
set_option maxRecDepth 100000
def cmn : Bs→Bs→Nat
 | a::x,b::y=>if a=b then cmn x y+1 else 0
 | _,_=>0
theorem L8 {x y : Bs} {n : Nat} (hx : n < x.length) (hy : n < y.length) (h : x[n]=y[n]) : cmn (x.drop n) (y.drop n)=cmn (x.drop (n+1)) (y.drop (n+1))+1:=by
 rw [List.drop_eq_getElem_cons hx,List.drop_eq_getElem_cons hy,cmn,if_pos h]
theorem yA {x y : Bs} {n : Nat} (h : ∀ (hx : n < x.length) (hy : n < y.length),x[n]≠y[n]) : cmn (x.drop n) (y.drop n)=0:=by
 by_cases hx : n < x.length
 ·by_cases hy : n < y.length
  ·rw [List.drop_eq_getElem_cons hx,List.drop_eq_getElem_cons hy,cmn,if_neg (h hx hy)]
  ·rw [List.drop_eq_nil_of_le (by omega : y.length≤n)];cases x.drop n<;>rfl
 ·rw [List.drop_eq_nil_of_le (by omega : x.length≤n)];rfl
theorem MW : ∀ x y : Bs,cmn x y≤x.length∧cmn x y≤y.length
 | a::x,b::y=>by have:=MW x y;unfold cmn;split<;>simp<;>omega
 | [],y=>by simp [cmn]
 | a::x,[]=>by simp [cmn]
def FU (x y : Bs) : Int:=if cmn x y=x.length∧cmn x y=y.length then 0 else if cmn x y=x.length then -1 else if cmn x y=y.length then 1 else if (x.getD (cmn x y) 0).toNat < (y.getD (cmn x y) 0).toNat then -1 else 1
theorem Jr : ∀ x y : Bs,decide (FU x y < 0)=bl x y
 | [],[]=>rfl
 | [],b::y=>rfl
 | a::x,[]=>by simp [FU,cmn,Gl]
 | a::x,b::y=>by
  have ih:=Jr x y
  by_cases h : a=b
  ·subst h
   have e : cmn (a::x) (a::y)=cmn x y+1:=by rw [cmn,if_pos rfl]
   have e2 : FU (a::x) (a::y)=FU x y:=by unfold FU;rw [e];simp
   have e3 : bl (a::x) (a::y)=bl x y:=by
    have:=vC a a x y
    cases h1 : bl x y<;>cases h2 : bl (a::x) (a::y)<;>simp_all
   rw [e2,e3,ih]
  ·have e : cmn (a::x) (b::y)=0:=by rw [cmn,if_neg h]
   have e3 : bl (a::x) (b::y)=decide (a < b):=by
    have:=vC a b x y
    cases h2 : bl (a::x) (b::y)<;>simp_all
   rw [e3]
   unfold FU
   rw [e]
   simp only [List.length_cons,List.getD_cons_zero,UInt8.lt_iff_toNat_lt]
   rw [if_neg (by omega),if_neg (by omega),if_neg (by omega)]
   split<;>simp_all
theorem Kw (x y : Bs) (hx : x.length≤1000000000) : PV Tryz.prog G0 138 [.str x,.str y] (.int .i64 (cmn x y : Nat)):=by
 refine pv e138 (by simp) rfl rfl ?_
 simp only [go_sem,seval,c138]
 refine bf (M:=fun ρ τ=>ρ.get 5=.int .i64 (cmn x y : Nat)) ?_ ?_
 ·rintro ρ τ q5
  simp only [go_sem,seval,q5]
  exact fin (by rfl) rfl
 refine aF (fun m ρ τ=>∃ n : Nat,m=x.length-n∧n≤x.length∧cmn x y=n+cmn (x.drop n) (y.drop n)∧ρ.get 0=.str x∧ρ.get 1=.str y∧ρ.get 5=.int .i64 n) (n:=x.length) ?_ ⟨0,rfl,by omega,by simp,rfl,rfl,rfl⟩
 rintro m ρ τ ⟨n,rfl,hn,he,q0,q1,q5⟩
 have a6 : IntKind.i64.wrap ((n : Int)+1)=((n+1 : Nat) : Int):=by rw [iw (by omega)];omega
 by_cases h1 : n < x.length
 rotate_left
 ·have b1 : decide ((n : Int) < (x.length : Int))=false:=decide_eq_false (by omega)
  have hz : cmn x y=n:=by rw [he,yA fun hx=>absurd hx h1];rfl
  simp only [go_sem,seval,q0,q1,q5,b1]
  rw [hz]
 have b1 : decide ((n : Int) < (x.length : Int))=true:=decide_eq_true (by omega)
 by_cases h2 : n < y.length
 rotate_left
 ·have b2 : decide ((n : Int) < (y.length : Int))=false:=decide_eq_false (by omega)
  have hz : cmn x y=n:=by rw [he,yA fun _ hy=>absurd hy h2];rfl
  simp only [go_sem,seval,q0,q1,q5,b1,b2]
  rw [hz]
 have b2 : decide ((n : Int) < (y.length : Int))=true:=decide_eq_true (by omega)
 have c0 : (0 : Int)≤(n : Int):=by omega
 have c1 : (n : Int) < (x.length : Int):=by omega
 have c2 : (n : Int) < (y.length : Int):=by omega
 by_cases h3 : x[n]=y[n]
 ·have b3 : (((x.getD n 0).toNat : Int) == ((y.getD n 0).toNat : Int))=true:=by simp [List.getD_eq_getElem?_getD,h1,h2,h3]
  simp only [go_sem,seval,q0,q1,q5,b1,b2,b3,c0,c1,c2,a6,Int.toNat_natCast]
  exact ⟨x.length-(n+1),by omega,n+1,rfl,by omega,by rw [he,L8 h1 h2 h3];omega,rfl⟩
 ·have b3 : (((x.getD n 0).toNat : Int) == ((y.getD n 0).toNat : Int))=false:=by
   simp [List.getD_eq_getElem?_getD,h1,h2]
   intro h;exact h3 (UInt8.toNat_inj.1 (by omega))
  have hz : cmn x y=n:=by rw [he,yA fun _ _=>h3];rfl
  simp only [go_sem,seval,q0,q1,q5,b1,b2,b3,c0,c1,c2,Int.toNat_natCast]
  rw [hz]
theorem MZ (x y : Bs) (hx : x.length≤1000000000) : PV Tryz.prog G0 92 [.str x,.str y] (.int .i64 (FU x y)):=by
 have hC:=Kw x y hx
 obtain ⟨l1,l2⟩:=MW x y
 refine pv e92 (by simp) rfl rfl ?_
 unfold FU
 generalize cmn x y=n at *
 have hb : ∀ a b : Nat,((a : Int) == (b : Int))=decide (a=b):=fun a b=>by
  by_cases h : a=b
  ·simp [h]
  ·simp [h];omega
 simp only [go_sem,seval,c92]
 by_cases h1 : n=x.length
 ·by_cases h2 : n=y.length
  ·have h3 : x.length=y.length:=by omega
   subst h1
   refine ah (hC) ?_<;>simp only [go_sem,seval,hb,h3,decide_true]
   exact fin (by rfl) rfl
  ·have h3 : ¬ x.length=y.length:=by omega
   subst h1
   refine ah (hC) ?_<;>simp only [go_sem,seval,hb,h3,decide_true,decide_false]
   exact fin (by rfl) (by simp)
 ·by_cases h2 : n=y.length
  ·subst h2
   refine ah (hC) ?_<;>simp only [go_sem,seval,hb,h1,decide_true,decide_false]
   exact fin (by rfl) (by simp)
  ·have c0 : (0 : Int)≤(n : Int):=by omega
   have c1 : (n : Int) < (x.length : Int):=by omega
   have c2 : (n : Int) < (y.length : Int):=by omega
   by_cases h3 : (x.getD n 0).toNat < (y.getD n 0).toNat
   ·have b3 : decide (((x.getD n 0).toNat : Int) < ((y.getD n 0).toNat : Int))=true:=decide_eq_true (by omega)
    refine ah (hC) ?_<;>simp only [go_sem,seval,hb,h1,h2,decide_false,c0,c1,c2,b3,Int.toNat_natCast]
    exact fin (by rfl) (by first | rw [if_pos h3] | rw [if_neg h3])
   ·have b3 : decide (((x.getD n 0).toNat : Int) < ((y.getD n 0).toNat : Int))=false:=decide_eq_false (by omega)
    refine ah (hC) ?_<;>simp only [go_sem,seval,hb,h1,h2,decide_false,c0,c1,c2,b3,Int.toNat_natCast]
    exact fin (by rfl) (by first | rw [if_pos h3] | rw [if_neg h3])
end Go.V
