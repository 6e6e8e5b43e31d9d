/- Texts F52 F53 F54 F55. -/
import Derived.Test.YtgmhpemjlbgfcaaGreatDoorG25
import Derived.Test.YtgmhpemjlbgfcaaGreatDoorG26
import Derived.Test.YtgmhpemjlbgfcaaGreatDoorG28
set_option linter.unusedVariables false
set_option linter.unusedSimpArgs false
namespace Go.V
open Go.Proofs
set_option maxRecDepth 100000
theorem Du {w : World} {O : Nat→Prop} {μ : List Loc} {b : Nat} : ∀ {xs : List VV} {o : Nat},VC w O μ xs b o→∃ vs : List Value,bI w O μ xs vs∧∀ (j : Nat) (v : Value),vs[j]?=some v→w.cell? ⟨b,o+j,none⟩=some v
 | [],o,_=>⟨[],by simp [bI],by simp⟩
 | x::xs,o,h=>by
  simp only [VC] at h
  obtain ⟨⟨v,hv,h1⟩,h2⟩:=h
  obtain ⟨vs,h3,h4⟩:=Du h2
  refine ⟨v::vs,by simp only [bI];exact ⟨v,vs,rfl,h1,h3⟩,fun j u hj=>?_⟩
  cases j with
  | zero=>simp at hj;subst hj;exact hv
  | succ j=>rw [show o+(j+1)=o+1+j by omega];exact h4 j u (by simpa using hj)
theorem Ep {w : World} {O : Nat→Prop} {μ : List Loc} {xs : List VV} {vs : List Value} (h : bI w O μ xs vs) (hc : aQ xs=true) : ∀ v ∈ vs,v.oneCell'=true:=by
 intro v hv
 obtain ⟨j,hj,rfl⟩:=List.getElem_of_mem hv
 obtain ⟨hl,h2⟩:=jf.1 h
 have hx : j < xs.length:=by omega
 refine sO (h2 j xs[j] _ (by simp [hx]) (by simp [hj])) ?_
 unfold aQ at hc
 exact List.all_eq_true.1 hc _ (List.getElem_mem _)
theorem y5 {k : Nat} {xs : List (List VV)} {y : List VV} (hB : dh k xs) (hy : y.length=k) {i t : Nat} (hi : i≤xs.length) {x : VV} (h : (xs.take i++([y]++xs.drop i)).flatten[t]?=some x) :
  (t < i*k∧xs.flatten[t]?=some x)∨(i*k≤t∧t < (i+1)*k∧y[t-i*k]?=some x)∨((i+1)*k≤t∧xs.flatten[t-k]?=some x):=by
 have h1 : (xs.take i).flatten.length=i*k:=by rw [(hB.take i).flat,List.length_take,Nat.min_eq_left hi]
 have e : (xs.take i++([y]++xs.drop i)).flatten=(xs.take i).flatten++(y++(xs.drop i).flatten):=by simp
 have e2 : xs.flatten=(xs.take i).flatten++(xs.drop i).flatten:=by rw [← List.flatten_append,List.take_append_drop]
 have hk : (i+1)*k=i*k+k:=by rw [Nat.add_mul,Nat.one_mul]
 rw [e,List.getElem?_append] at h
 split at h
 ·rename_i hlt
  rw [h1] at hlt
  exact .inl ⟨hlt,by rw [e2,List.getElem?_append_left (by rw [h1];exact hlt)];exact h⟩
 ·rename_i hge
  rw [h1] at hge h
  rw [List.getElem?_append] at h
  split at h
  ·rename_i hlt
   exact .inr (.inl ⟨by omega,by omega,h⟩)
  ·rename_i hge2
   refine .inr (.inr ⟨by omega, ?_⟩)
   rw [e2,List.getElem?_append_right (by rw [h1];omega),h1]
   rw [hy] at h
   rw [show t-k-i*k=t-i*k-k by omega];exact h
theorem LP (id n i : Nat) (xs : List (List VV)) (y : List VV) (tg : Bool) (σ : Store) (hB : dh 12 xs) (hy : dh 12 [y]) (hσ : σ[id]?=some (.own xs.flatten)) (hn : n=xs.length) (hi : i≤n) (hbig : n+1≤1000000) :
  CV Tryz.prog G0 216 [.bZ id 0 n 12,.int .i64 i,.sl 1 y tg] σ fun r σ'=>∃ jd,r=.ret (.bZ jd 0 (n+1) 12)∧σ'[jd]?=some (.own (xs.take i++([y]++xs.drop i)).flatten)∧(jd=id∨σ.length≤jd)∧High (·=id) σ σ':=by
 have hlt:=(List.getElem?_eq_some_iff.1 hσ).1
 have hyl : y.length=12:=hy.len y (by simp)
 by_cases hin : i=n
 ·subst hin
  have hx1 : ∀ τ : Store,aJ Tryz.prog τ 12 225 (.sl 1 y tg)=some ([y].length,[y].flatten):=fun τ=>TT hy
  have b1 : ((i : Int) == i)=true:=by simp
  have c1 : (i : Int)≤(i : Int):=by omega
  refine cv e216 (by simp) ?_
  have hfl : xs.flatten.length=i*12:=by rw [hB.flat,← hn]
  simp only [go_sem,seval,c216,hσ,b1,Int.toNat_natCast]
  refine ⟨⟨⟨by omega,by omega⟩,by omega⟩, ?_⟩
  refine jC (xs:=xs) (ys:=[y]) iZ qK qM lX rfl (by decide) (by decide) hσ hB hy (by simp;omega) hn (hx1 _) ?_
  simp only [go_sem,seval]
  refine ⟨σ.length,by simp [hn], ?_,.inr (Nat.le_refl _),⟨by simp,fun j h1 h2=>?_⟩⟩
  ·rw [List.getElem?_append_right (by simp)]
   simp [hn]
  ·rw [List.getElem?_append_left (by simpa using h1),List.getElem?_set_ne (fun e=>h2 e.symm)]
 ·have hin' : i < n:=by omega
  intro B w μ vs hS hG hv
  simp only [bI] at hv
  obtain ⟨vl,l1,hl1,h1,vi,l2,rfl,h2,vy,l3,rfl,h3,rfl⟩:=hv
  have hvs : vs=#[vl,vi,vy]:=by apply Array.ext';simpa using hl1
  subst hvs
  simp only [VR] at h1 h2 h3
  obtain ⟨L,cap,hL,rfl,hcap,hroom⟩:=h1
  subst h2
  rcases h3 with ⟨vb,vo,vc,rfl,hvc1,_,hvO,hvC⟩ | ⟨h3,_⟩
  rotate_left
  ·cases h3
  have hob:=hS.obj id _ L hσ hL
  simp only [xG] at hob
  obtain ⟨⟨c,e,hh,hsize⟩,hclen,hc⟩:=hob
  have hfl : xs.flatten.length=n*12:=by rw [hB.flat,← hn]
  have hown : OO B σ μ L.block:=.inr ⟨id,L,_,hL,rfl,hσ,rfl⟩
  have hno : ¬ OO B σ μ vb:=by
   rcases hvO with h | h
   ·rw [h] at hyl;simp at hyl
   ·exact h
  have hvb : vb≠L.block:=fun h=>hno (by rw [h];exact hown)
  obtain ⟨cs,hcs,hcs2⟩:=Du hc
  obtain ⟨ws,hws,hws2⟩:=Du hvC
  have hcl : cs.length=n*12:=by rw [hcs.length,hfl]
  have hwl : ws.length=12:=by rw [hws.length,hyl]
  have h1c:=Ep hcs hB.xg
  have h1w:=Ep hws (hy.cell y (by simp))
  have hnew : (xs.take i++([y]++xs.drop i)).flatten.length=(n+1)*12:=by
   have : dh 12 (xs.take i++([y]++xs.drop i)):=(hB.take i).append (hy.append (hB.drop i))
   rw [this.flat]
   simp
   omega
  have hge : ∀ {j : Nat} {x : VV},xs.flatten[j]?=some x→∃ v,cs[j]?=some v∧VR w (OO B σ μ) μ x v:=fun hx=>hcs.get hx
  have hgy : ∀ {j : Nat} {x : VV},y[j]?=some x→∃ v,ws[j]?=some v∧VR w (OO B σ μ) μ x v:=fun hx=>hws.get hx
  by_cases hcr : n+1≤cap
  ·
   have hvh : ∃ cv ev fr,w.heap[vb]?=some (.cells cv ev fr)∧cv.size≠0:=by
    have:=hws2 0 _ (List.getElem?_eq_getElem (by omega))
    unfold World.cell? at this
    cases hq : w.heap[vb]? with
    | none=>rw [hq] at this;simp at this
    | some o =>
     rw [hq] at this
     cases o with
     | cells cv ev fr =>
      refine ⟨cv,ev,fr,rfl,fun h0=>?_⟩
      have : cv=#[]:=by simpa using h0
      subst this
      simp at *
     | _=>simp at this
   obtain ⟨cv,ev,fr,hvh,hcv⟩:=hvh
   have hcell : ∀ j,j < (n+1)*12→(w.cell? ⟨L.block,L.base+0+j,none⟩).isSome=true:=fun j hj=>by
    have hmul:=Nat.mul_le_mul_right 12 hcr
    have : L.base+j < c.size:=by omega
    simp [World.cell?,hh,this]
   have hcon:=Ins.shift L.block (L.base+0) n cap i vb vo vc cs ws w hin' hcr (by omega) hvb hcl hwl (fun j v hj=>hcs2 j v hj) hcell (fun x=>by simp [World.frozen?,hh]) hws2 h1c h1w ev e cv.size c.size (by simp [World.shape?,hvh]) (by simp [World.shape?,hh]) hcv (by omega)
   refine (callsIn_wide.2 hcon).mono ?_
   rintro e' w' ⟨rfl,rfl⟩
   obtain ⟨W1,hW1⟩ : ∃ W1,W1=w.drew.setCells L.block (L.base+0+(i+1)*12) (cs.drop (i*12)):=⟨_,rfl⟩
   have hdl : (cs.drop (i*12)).length=n*12-i*12:=by rw [List.length_drop,hcl]
   obtain ⟨a1,a2,a3,a4,a5⟩:=fO w.drew L.block (L.base+0+(i+1)*12) (cs.drop (i*12))
   obtain ⟨b1,b2,b3,b4,b5⟩:=fO W1 L.block (L.base+0+i*12) ws
   obtain ⟨c1,k1,k2⟩:=fH w.drew L.block (cs.drop (i*12)) (L.base+0+(i+1)*12) c e hh
   rw [← hW1] at a1 a2 a3 a4 a5 k1 ⊢
   obtain ⟨c2,k3,k4⟩:=fH W1 L.block ws (L.base+0+i*12) c1 e k1
   have hsome1 : ∀ j,j < (cs.drop (i*12)).length→(w.drew.cell? ⟨L.block,L.base+0+(i+1)*12+j,none⟩).isSome=true:=fun j hj=>by
    have:=hcell ((i+1)*12+j) (by omega)
    rw [Nat.add_assoc (L.base+0)];exact this
   have hin1:=fun j hj=>World.cell?_setCells_in L.block (cs.drop (i*12)) (L.base+0+(i+1)*12) w.drew hsome1 j hj
   rw [← hW1] at hin1
   have hout1:=fun x hx=>World.cell?_setCells_out L.block (cs.drop (i*12)) (L.base+0+(i+1)*12) w.drew x hx
   rw [← hW1] at hout1
   have hsome2 : ∀ j,j < ws.length→(W1.cell? ⟨L.block,L.base+0+i*12+j,none⟩).isSome=true:=fun j hj=>by
    rw [hout1 _ (fun _ _=>.inl (by show L.base+0+i*12+j < _;omega))]
    have:=hcell (i*12+j) (by omega)
    rw [Nat.add_assoc (L.base+0)];exact this
   have hin2:=fun j hj=>World.cell?_setCells_in L.block ws (L.base+0+i*12) W1 hsome2 j hj
   have hout2:=fun x hx=>World.cell?_setCells_out L.block ws (L.base+0+i*12) W1 x hx
   have hturn:=hS.turn (w':=W1.setCells L.block (L.base+0+i*12) ws) hσ rfl hL (o':=.own (xs.take i++([y]++xs.drop i)).flatten) rfl
    (fun b hb hne=>(b2 b (by rw [a1];exact hb) hne).trans (a2 b hb hne)) (b1.trans a1) (b3.trans a3) (b4.trans a4) (b5.trans a5)
    (fun hE=>by
     refine ⟨⟨c2,e,k3,by rw [k4,k2];exact hsize⟩,by rw [hnew];have:=Nat.mul_le_mul_right 12 hcr;omega, ?_⟩
     rw [iU]
     intro t x ht
     rcases y5 hB hyl (by omega) ht with ⟨t1,t2⟩ | ⟨t1,t2,t3⟩ | ⟨t1,t2⟩
     ·obtain ⟨v,hv,hr⟩:=hge t2
      refine ⟨v, ?_,VR.ext hE _ _ hr⟩
      rw [hout2 _ (fun _ _=>.inl (by show L.base+t < _;omega)),hout1 _ (fun _ _=>.inl (by show L.base+t < _;omega))]
      exact hcs2 t v hv
     ·obtain ⟨v,hv,hr⟩:=hgy t3
      refine ⟨v, ?_,VR.ext hE _ _ hr⟩
      have:=hin2 (t-i*12) (by omega)
      rw [show L.base+0+i*12+(t-i*12)=L.base+t by omega] at this
      rw [this]
      obtain ⟨_,e⟩:=List.getElem?_eq_some_iff.1 hv
      rw [e]
     ·obtain ⟨v,hv,hr⟩:=hge t2
      refine ⟨v, ?_,VR.ext hE _ _ hr⟩
      have htl:=(List.getElem?_eq_some_iff.1 ht).1
      rw [hnew] at htl
      rw [hout2 _ (fun _ _=>.inr (by show _≤L.base+t;omega))]
      have:=hin1 (t-(i+1)*12) (by omega)
      rw [show L.base+0+(i+1)*12+(t-(i+1)*12)=L.base+t by omega] at this
      rw [this]
      obtain ⟨_,e⟩:=List.getElem?_eq_some_iff.1 hv
      rw [List.getElem_drop]
      simp only [show i*12+(t-(i+1)*12)=t-12 by omega,e])
   obtain ⟨s1,f1⟩:=hturn
   refine ⟨_,_,μ,⟨id,rfl,by rw [List.getElem?_set_self hlt],.inl rfl,⟨by simp,fun j _ h2=>List.getElem?_set_ne (fun e=>h2 e.symm)⟩⟩,f1,s1, ?_⟩
   simp only [nG,VR]
   exact ⟨L,cap,hL,rfl,hcr,hroom⟩
  ·
   have hcon:=Ins.grow L.block (L.base+0) n cap i vb vo vc cs ws w hin' hcap (by omega) (by omega) hcl hwl (fun j v hj=>hcs2 j v hj) hws2 h1c h1w
   refine (callsIn_wide.2 hcon).mono ?_
   rintro e' w' ⟨G,ROW,hG1,hR1,hR2,rfl,rfl⟩
   have hdl : (cs.drop (i*12)).length=n*12-i*12:=by rw [List.length_drop,hcl]
   have hmul:=Nat.mul_le_mul_right 12 hG1
   obtain ⟨W0,hW0⟩ : ∃ W0,W0=(w.alloc (.cells ROW 216)).drew:=⟨_,rfl⟩
   rw [← hW0]
   have z1 : W0.heap.size=w.heap.size+1:=by rw [hW0];show (w.heap.push _).size=_;simp
   have z2 : ∀ b,b < w.heap.size→W0.heap[b]?=w.heap[b]?:=fun b hb=>by rw [hW0];exact heap_alloc w _ hb
   have z3 : W0.heap[w.heap.size]?=some (.cells ROW 216 (0,0)):=by rw [hW0];exact heap_alloc_new' w _
   have z4 : W0.os=w.os∧W0.tape=w.tape∧W0.output=w.output:=by rw [hW0];exact ⟨rfl,rfl,rfl⟩
   obtain ⟨W1,hW1⟩ : ∃ W1,W1=(W0.setCells w.heap.size (i*12) ws).drew:=⟨_,rfl⟩
   rw [← hW1]
   obtain ⟨a1,a2,a3,a4,a5⟩:=fO W0 w.heap.size (i*12) ws
   obtain ⟨b1,b2,b3,b4,b5⟩:=fO W1 w.heap.size ((i+1)*12) (cs.drop (i*12))
   obtain ⟨c1,k1,k2⟩:=fH W0 w.heap.size ws (i*12) ROW 216 z3
   have a1 : W1.heap.size=w.heap.size+1:=by rw [hW1];exact a1.trans z1
   have a2 : ∀ k,k < w.heap.size→W1.heap[k]?=w.heap[k]?:=fun k hk=>by rw [hW1];exact (a2 k (by omega) (by omega)).trans (z2 k hk)
   have k1 : W1.heap[w.heap.size]?=some (.cells c1 216 (0,0)):=by rw [hW1];exact k1
   obtain ⟨c2,k3,k4⟩:=fH W1 w.heap.size (cs.drop (i*12)) ((i+1)*12) c1 216 k1
   have hsome0 : ∀ j,j < G*12→(W0.cell? ⟨w.heap.size,j,none⟩).isSome=true:=fun j hj=>by
    simp [World.cell?,z3,show j < ROW.size by omega]
   have hsome1 : ∀ j,j < ws.length→(W0.cell? ⟨w.heap.size,i*12+j,none⟩).isSome=true:=fun j hj=>hsome0 _ (by omega)
   have hin1 : ∀ j (hj : j < ws.length),W1.cell? ⟨w.heap.size,i*12+j,none⟩=some ws[j]:=fun j hj=>by
    rw [hW1];exact World.cell?_setCells_in w.heap.size ws (i*12) W0 hsome1 j hj
   have hout1 : ∀ j,j < i*12∨i*12+ws.length≤j→W1.cell? ⟨w.heap.size,j,none⟩=W0.cell? ⟨w.heap.size,j,none⟩:=fun j hj=>by
    rw [hW1];exact World.cell?_setCells_out w.heap.size ws (i*12) W0 ⟨w.heap.size,j,none⟩ (fun _ _=>hj)
   have hsome2 : ∀ j,j < (cs.drop (i*12)).length→(W1.cell? ⟨w.heap.size,(i+1)*12+j,none⟩).isSome=true:=fun j hj=>by
    rw [hout1 _ (by omega)]
    exact hsome0 _ (by omega)
   have hin2:=fun j hj=>World.cell?_setCells_in w.heap.size (cs.drop (i*12)) ((i+1)*12) W1 hsome2 j hj
   have hout2:=fun x hx=>World.cell?_setCells_out w.heap.size (cs.drop (i*12)) ((i+1)*12) W1 x hx
   obtain ⟨W2,hW2⟩ : ∃ W2,W2=W1.setCells w.heap.size ((i+1)*12) (cs.drop (i*12)):=⟨_,rfl⟩
   rw [← hW2] at b1 b2 b3 b4 b5 k3 hin2 hout2 ⊢
   have hh2 : ∀ b,b < w.heap.size→W2.heap[b]?=w.heap[b]?:=fun b hb=>(b2 b (by omega) (by omega)).trans (a2 b hb)
   have hF : Frame w σ μ W2 σ μ:=.still (by omega) hh2 (by rw [b3,hW1];exact a3.trans z4.1) (by rw [b4,hW1];exact a4.trans z4.2.1) (by rw [b5,hW1];exact a5.trans z4.2.2)
   have hpre : μ <+: μ++[⟨w.heap.size,0,G*12⟩]:=List.prefix_append _ _
   have hO : ∀ b,b < w.heap.size→OO B (σ++[.own (xs.take i++([y]++xs.drop i)).flatten]) (μ++[⟨w.heap.size,0,G*12⟩]) b→OO B σ μ b:=by
    rintro b hb (h | ⟨jd,L',o',q1,q2,q3,q4⟩)
    ·exact .inl h
    ·rcases aP q1 with q1 | ⟨q1,rfl⟩
     ·rcases aP q3 with q3 | ⟨q3,rfl⟩
      ·exact .inr ⟨jd,L',o',q1,q2,q3,q4⟩
      ·have:=(List.getElem?_eq_some_iff.1 q1).1;rw [hS.len] at this;omega
     ·simp at q2;omega
   have hE : Ext w (OO B σ μ) μ W2 (OO B (σ++[.own (xs.take i++([y]++xs.drop i)).flatten]) (μ++[⟨w.heap.size,0,G*12⟩])) (μ++[⟨w.heap.size,0,G*12⟩]):=by
    refine ⟨fun b o v _ hv=>by rw [cell_of_heap (hh2 b (cell_lt hv))];exact hv,fun b hb=>?_,hpre⟩
    by_cases hbl : b < w.heap.size
    ·exact .inl (hO b hbl hb)
    ·exact .inr (by omega)
   obtain ⟨s1,f1⟩:=hS.snoc hF hh2 (o:=.own (xs.take i++([y]++xs.drop i)).flatten) (L:=⟨w.heap.size,0,G*12⟩) (Nat.le_refl _) (by
    refine ⟨⟨c2,216,k3,by simp only;omega⟩,by rw [hnew];exact hmul, ?_⟩
    rw [iU]
    intro t x ht
    have htl:=(List.getElem?_eq_some_iff.1 ht).1
    rw [hnew] at htl
    rcases y5 hB hyl (by omega) ht with ⟨t1,t2⟩ | ⟨t1,t2,t3⟩ | ⟨t1,t2⟩
    ·obtain ⟨v,hv,hr⟩:=hge t2
     refine ⟨v, ?_,VR.ext hE _ _ hr⟩
     rw [Nat.zero_add,hout2 _ (fun _ _=>.inl (by show t < _;omega)),hout1 _ (.inl t1)]
     have:=hR2 t v (by rw [List.getElem?_take_of_lt t1];exact hv)
     simp [World.cell?,z3,this]
    ·obtain ⟨v,hv,hr⟩:=hgy t3
     refine ⟨v, ?_,VR.ext hE _ _ hr⟩
     rw [Nat.zero_add,hout2 _ (fun _ _=>.inl (by show t < _;omega))]
     have:=hin1 (t-i*12) (by omega)
     rw [show i*12+(t-i*12)=t by omega] at this
     rw [this]
     obtain ⟨_,e⟩:=List.getElem?_eq_some_iff.1 hv
     rw [e]
    ·obtain ⟨v,hv,hr⟩:=hge t2
     refine ⟨v, ?_,VR.ext hE _ _ hr⟩
     have:=hin2 (t-(i+1)*12) (by omega)
     rw [show (i+1)*12+(t-(i+1)*12)=t by omega] at this
     rw [Nat.zero_add,this]
     obtain ⟨_,e⟩:=List.getElem?_eq_some_iff.1 hv
     rw [List.getElem_drop]
     simp only [show i*12+(t-(i+1)*12)=t-12 by omega,e])
   refine ⟨_,_,_,⟨σ.length,rfl,by simp,.inr (Nat.le_refl _),.snoc _ _ _⟩,f1,s1, ?_⟩
   simp only [nG,VR]
   exact ⟨⟨w.heap.size,0,G*12⟩,G,by rw [← hS.len];simp,rfl,hG1,by simp⟩
end Go.V
namespace Go.V
open Go.Proofs
set_option maxRecDepth 100000
def lH {α : Type} (p : Bs × α) (ps : List (Bs × α)) : List (Bs × α):=p::ps.filter fun q=>!(q.1 == p.1)
theorem kW {α : Type} {p : Bs × α} {ps qs : List (Bs × α)} (h : ps.Perm qs) : (lH p ps).Perm (lH p qs):=(h.filter _).cons _
theorem l7 {α : Type} {p : Bs × α} {ps rest : List (Bs × α)} (h : ∀ q ∈ rest,q.1≠p.1) : lH p (ps++rest)=lH p ps++rest:=by
 have e : rest.filter (fun q=>!(q.1 == p.1))=rest:=List.filter_eq_self.2 (fun q hq=>by simpa using h q hq)
 unfold lH
 rw [List.filter_append,e,List.cons_append]
theorem zN {α : Type} {p : Bs × α} {ps : List (Bs × α)} (h : ∀ q ∈ ps,q.1≠p.1) : lH p ps=p::ps:=by
 unfold lH
 rw [List.filter_eq_self.2 (fun q hq=>by simpa using h q hq)]
theorem Ot {α : Type} {p q : Bs × α} {ps : List (Bs × α)} (h : q ∈ lH p ps) : q=p∨q ∈ ps:=by
 unfold lH at h
 rcases List.mem_cons.1 h with h | h
 ·exact .inl h
 ·exact .inr (List.mem_filter.1 h).1
theorem pG {α : Type} (k : Bs) (x : α) : ∀ {l : List (Bs × α)},cO k x l=l.take (rF l k)++(k,x)::l.drop (rF l k+(if hasK l k=true then 1 else 0))
 | []=>by simp [cO,rF,hasK]
 | (k',x')::l=>by
  have ih:=pG k x (l:=l)
  have hh : hasK ((k',x')::l) k=if bl k' k=true then hasK l k else (k' == k):=by
   by_cases hb : bl k' k=true
   ·rw [if_pos hb]
    have h4 : rF ((k',x')::l) k=rF l k+1:=by simp [rF,hb]
    unfold hasK
    rw [h4];simp
   ·rw [if_neg hb]
    have h4 : rF ((k',x')::l) k=0:=by simp [rF,hb]
    unfold hasK
    rw [h4];simp
  unfold cO
  by_cases h1 : bl k k'=true
  ·rw [if_pos h1]
   have h2 : bl k' k=false:=Eb h1
   have h3 : (k' == k)=false:=by simpa using (uo h1).symm
   have h4 : rF ((k',x')::l) k=0:=by unfold rF;rw [if_neg (by rw [h2];decide)]
   rw [hh,h4,h3,h2]
   simp
  ·rw [if_neg h1]
   by_cases h2 : k=k'
   ·subst h2
    have h4 : rF ((k,x')::l) k=0:=by unfold rF;rw [if_neg (by rw [jA];decide)]
    rw [if_pos rfl,hh,h4,jA]
    simp
   ·have h3 : bl k' k=true:=ER h1 h2
    have h4 : rF ((k',x')::l) k=rF l k+1:=by simp [rF,h3]
    rw [if_neg h2,hh,h4,if_pos h3,ih]
    simp only [List.take_succ_cons,List.cons_append]
    rw [show rF l k+1+(if hasK l k=true then 1 else 0)=(rF l k+(if hasK l k=true then 1 else 0))+1 by omega,List.drop_succ_cons]
theorem vZ {α : Type} {p : Bs × α} : ∀ {l : List (Bs × α)},iJ l→(cO p.1 p.2 l).Perm (lH p l)
 | [],_=>by simp [cO,lH]
 | (k',x')::l,h=>by
  obtain ⟨h1,h2⟩:=List.pairwise_cons.1 h
  have ih:=vZ (p:=p) h2
  unfold cO
  by_cases a : bl p.1 k'=true
  ·rw [if_pos a,zN]
   intro q hq e
   rcases List.mem_cons.1 hq with rfl | hq
   ·exact uo a e.symm
   ·exact uo (kE _ _ _ a (h1 q hq)) e.symm
  ·rw [if_neg a]
   by_cases b : p.1=k'
   ·rw [if_pos b]
    unfold lH
    rw [List.filter_cons_of_neg (by simp [b]),List.filter_eq_self.2]
    intro q hq
    have:=uo (h1 q hq)
    simp only [Bool.not_eq_true',beq_eq_false_iff_ne]
    intro e
    exact this (by rw [e];exact b.symm)
   ·rw [if_neg b]
    unfold lH at ih ⊢
    rw [List.filter_cons_of_pos (by simp;exact fun e=>b e.symm)]
    exact (ih.cons _).trans (.swap _ _ _)
theorem UK {P : Program} {t e : TypeId} {x y : Operand} {n : Nat} {c : List VV} {g : Bool} {σ : Store} (h : P.underlying t=some (.slice e)) : lV P .eql t x y (.sl n c g) .nils σ=okV (.bool false) σ:=by
 simp [lV,VV.tZ,VV.gK,VV.isAgg,Ci,h,okV]
theorem Ee {t tx e : TypeId} {k by_ : Nat} {z : List VV} {σ : Store} {ys : List (List VV)} {x : VV} (ht : iF Tryz.prog t=some e) (hk : eH Tryz.prog e=some k) (hy : Yr Tryz.prog e=some by_) (hz : bG Tryz.prog e=some z) (hzk : z.length=k) (hk0 : 0 < k) (hb : by_≤1000) (hC : dh k ys) (hl : ys.length≤1000000) (hne : ys≠[])
  (hx : aJ Tryz.prog σ k tx x=some (ys.length,ys.flatten)) {d : Option Nat} {r : List VO} {Q : Out→Env→Store→Prop} {ρ : Env} (h : bM Tryz.prog G0 r Q (dB ρ d (.bZ σ.length 0 ys.length k)) (σ++[.own ys.flatten])) : eF Tryz.prog G0 (bF Tryz.prog t tx (.sl 0 [] true) x σ) d r Q ρ:=by
 have hne' : ys.length≠0:=fun h=>hne (List.eq_nil_of_length_eq_zero h)
 have he : ∃ p,p∧bF Tryz.prog t tx (.sl 0 [] true) x σ=some ⟨p,.bZ σ.length 0 ys.length k,σ++[.own ys.flatten]⟩:=by
  refine ⟨_, ?_,by simp only [bF,ht,hk,hy,hz,hx,if_neg hne',if_true,List.nil_append,Nat.zero_add];rfl⟩
  have:=Nat.mul_le_mul hl hb
  refine ⟨⟨by omega,by omega,hC.flat,hk0,hC.xg,hzk⟩,by simp,rfl⟩
 obtain ⟨p,hp,he⟩:=he
 rw [he]
 exact ⟨hp,h⟩
theorem Qc (v : VV) (xs : List (List VV)) (h : dG 12 v xs) (hne : xs≠[]) (hl : xs.length≤1000000) (σ : Store) : CV Tryz.prog G0 215 [v] σ fun r σ'=>r=.ret (.bZ σ.length 0 xs.length 12)∧σ'=σ++[.own xs.flatten]:=by
 refine cv e215 (by simp) ?_
 obtain ⟨t,rfl⟩:=h.fP hne
 have hB:=h.blk
 simp only [go_sem,seval,c215,UK JV]
 refine Ee (ys:=xs) iZ qK qM lX rfl (by decide) (by decide) hB hl hne (h.src iZ) ?_
 simp only [go_sem,seval]
theorem I9 {τ : Store} {jd kd n : Nat} {xs : List (List VV)} {b : Bool} (h1 : τ[jd]?=some (.kH [.int .u32 0,.nils,.bZ kd 0 n 12])) (h2 : τ[kd]?=some (.kH xs.flatten)) (hB : dh 12 xs) (hn : n=xs.length) :
  fz 3 τ (.tup [.mptr jd 0,.bool b])=some (.tup [.ptr [.int .u32 0,.nils,.sl xs.length xs.flatten false] 0,.bool b]):=by
 have h3:=qN (m:=0) h2 hB hn
 have e1 : fz 1 τ (.int .u32 0)=some (.int .u32 0):=rfl
 have e2 : fz 1 τ .nils=some .nils:=rfl
 have e3 : fz 2 τ (.mptr jd 0)=some (.ptr [.int .u32 0,.nils,.sl xs.length xs.flatten false] 0):=by
  rw [fz]
  simp only [VV.isPure,h1,List.mapM_cons,List.mapM_nil,e1,e2,h3]
  rfl
 have e4 : fz 2 τ (.bool b)=some (.bool b):=rfl
 rw [fz]
 simp only [VV.isPure,VV.ak,List.mapM_cons,List.mapM_nil,e3,e4]
 rfl
theorem Ll (seed bits m : Int) (hr : VV) (hp : Dy hr) (sm : Bs→Int) (c : Nat→Nat) (v : VV) (ps : List iE) (p : iE) (hN : HN sm 13 c v ps) (hok : ∀ q ∈ ps,q.2.ok) (hpo : p.2.ok) (hpre : nZ sm c 13 p.1) (hl : ps.length+1≤1000000) :
  ∃ v' qs,HN sm 13 c v' qs∧qs.Perm (lH p ps)∧PV Tryz.prog G0 173 [.agg [.int .u64 seed,.int .i64 bits,.int .i64 m,hr],v,.int .i64 13,.agg (au p)] (.tup [v',.bool (!hasK ps p.1)]):=by
 cases hN with
 | row S hL=>omega
 | @deep _ l _ h hs h2 hpk =>
  have hpp:=hp.pure
  have hc : hr.aC=true:=by cases hp<;>rfl
  have hap:=(mM hpo).pure _ (List.mem_singleton.2 rfl)
  have hF:=Px l ps h hok hs (by omega) p.1
  have hlc:=h.cell
  have hlp:=h.pure
  have hle:=oW p.1 ps
  have hB:=h.blk
  have hml : (ps.map au).length=ps.length:=by simp
  obtain ⟨qs,hqs⟩ : ∃ qs,qs=cO p.1 p.2 ps:=⟨_,rfl⟩
  have hqa:=pG p.1 p.2 (l:=ps)
  rw [← hqs] at hqa
  have hqp : qs.Perm (lH p ps):=by rw [hqs];exact vZ hs
  have hqr : iJ qs:=by rw [hqs];exact jQ hs
  have hqm : ∀ q ∈ qs,q=p∨q ∈ ps:=fun q hq=>Ot (hqp.mem_iff.1 hq)
  have hqo : ∀ q ∈ qs,q.2.ok:=fun q hq=>by rcases hqm q hq with rfl | h;exact hpo;exact hok q h
  have hqB:=Ah hqo
  have hql : ps.length≤qs.length:=by
   rw [hqa]
   simp only [List.length_append,List.length_take,List.length_cons,List.length_drop]
   split<;>omega
  refine ⟨_,qs,.deep (dG.sl (qs.map au) false hqB) hqr (by omega) ?_,hqp, ?_⟩
  ·intro q hq
   rcases hqm q hq with rfl | h
   ·exact hpre
   ·exact hpk q h
  ·have d0 : (au p).getD 0 .undef=.str p.1:=rfl
   have c7 : (au p).length=12:=rfl
   have c8:=uH hpo
   have c9 : (au p).take 12=au p:=rfl
   refine pv e173 (by simp) (by simp [VV.ak,VV.isPure,hpp,hap,hlp]) (by simp [VV.isPure,VV.ak,hqB.pW]) ?_
   have hcc:=hc
   simp only [go_sem,seval] at hc
   simp only [go_sem,seval] at hlc
   simp only [go_sem,seval,c173,hc,hlc,d0,c7,c8,c9]
   refine aj (hF) (by simp only [go_sem,seval,hc,hlc,d0,c7,c8,c9]) ?_<;>simp only [go_sem,seval,hc,hlc,d0,c7,c8,c9]
   refine CV.mono (Qc l (ps.map au) h (by intro e;rw [e] at hml;simp at hml;omega) (by omega) _) ?_
   rintro _ σ1 ⟨rfl,rfl⟩
   cases hb : hasK ps p.1 with
   | true =>
    rw [hb] at hqa
    obtain ⟨hj,_⟩:=rJ hb
    have e1 : ((rF ps p.1 : Nat) : Int).toNat=rF ps p.1:=Int.toNat_natCast _
    have hfl : (ps.map au).flatten.length=ps.length*12:=by rw [hB.flat,hml]
    have hsp:=nS hB (mM hpo) (o:=rF ps p.1) (by simp;omega)
    have e2 : ((ps.map au).take (rF ps p.1)++([au p]++(ps.map au).drop (rF ps p.1+1)))=qs.map au:=by
     rw [hqa]
     simp
    simp only [splice,List.flatten_cons,List.flatten_nil,List.append_nil,List.length_cons,List.length_nil,Nat.zero_add] at hsp
    rw [e2] at hsp
    have hqn : qs.length=ps.length:=by
     rw [hqa]
     simp only [List.length_append,List.length_take,List.length_cons,List.length_drop,if_true]
     omega
    simp only [go_sem,seval,gZ,Bool.not_true,c7,c9,e1]
    refine ⟨⟨by omega,by omega⟩,⟨by omega,c8⟩,_,3,rfl, ?_⟩
    rw [Nat.zero_add]
    rw [c7] at hsp
    rw [hsp]
    exact I9 rfl rfl hqB (by simp [hqn])
   | false =>
    rw [hb] at hqa
    have hqn : qs.length=ps.length+1:=by
     rw [hqa]
     simp only [List.length_append,List.length_take,List.length_cons,List.length_drop]
     simp
     omega
    have e2 : ((ps.map au).take (rF ps p.1)++([au p]++(ps.map au).drop (rF ps p.1)))=qs.map au:=by
     rw [hqa]
     simp
    simp only [go_sem,seval,gZ,Bool.not_false,c7,c8,c9]
    refine CV.mono (LP 2 (ps.map au).length (rF ps p.1) (ps.map au) (au p) true [_,_,.own (ps.map au).flatten] hB (mM hpo) rfl rfl (by omega) (by omega)) ?_
    rintro _ σ2 ⟨jd,rfl,h3,h4,h5⟩
    rw [e2] at h3
    simp only [go_sem,seval,gZ,Bool.not_false]
    have hjl:=(List.getElem?_eq_some_iff.1 h3).1
    refine ⟨_,3,rfl, ?_⟩
    refine I9 (by simp;rfl) ?_ hqB (by simp [hqn])
    rw [List.map_append,List.getElem?_append_left (by simpa using hjl),List.getElem?_map,h3];rfl
end Go.V
namespace Go.V
open Go.Proofs
set_option maxRecDepth 100000
theorem Np {sm : Bs→Int} {L : Nat} {c : Nat→Nat} {S : Nat→Sl} (h1 : ∀ i p,i < 32→S i=.lone p→nZ sm (upd c L i) (L+1) p.1) (h2 : ∀ i v ps,i < 32→S i=.sub v ps→HN sm (L+1) (upd c L i) v ps) {k : Bs} :
  ∀ q ∈ iW (fun j=>if j=iD (sm k) L then .no else S j),q.1≠k:=by
 intro q hq e
 obtain ⟨j,hj,hqj⟩:=List.mem_flatMap.1 hq
 have hj:=List.mem_range.1 hj
 simp only at hqj
 split at hqj
 ·simp [Sl.ps] at hqj
 ·rename_i hne
  cases hS : S j with
  | no=>rw [hS] at hqj;simp [Sl.ps] at hqj
  | lone p =>
   rw [hS] at hqj
   simp [Sl.ps] at hqj
   subst hqj
   have:=(h1 j q hj hS).back.2
   rw [e] at this;exact hne this.symm
  | sub v qs =>
   rw [hS] at hqj
   have:=((h2 j v qs hj hS).U4 q hqj).back.2
   rw [e] at this;exact hne this.symm
theorem vF {τ : Store} {jd : Nat} {cells : List VV} {b : Bool} (h1 : τ[jd]?=some (.kH cells)) (hp : VV.ak cells=true) : fz 2 τ (.tup [.mptr jd 0,.bool b])=some (.tup [.ptr cells 0,.bool b]):=by
 have e3 : fz 1 τ (.mptr jd 0)=some (.ptr cells 0):=sF h1 hp
 have e4 : fz 1 τ (.bool b)=some (.bool b):=rfl
 rw [fz]
 simp only [VV.isPure,VV.ak,List.mapM_cons,List.mapM_nil,e3,e4]
 rfl
theorem HN.set {sm : Bs→Int} {L : Nat} {c : Nat→Nat} {S : Nat→Sl} (hL : L < 13) (h1 : ∀ i p,i < 32→S i=.lone p→nZ sm (upd c L i) (L+1) p.1) (h2 : ∀ i v ps,i < 32→S i=.sub v ps→HN sm (L+1) (upd c L i) v ps)
  {i : Nat} {s : Sl} {x' : Nat} {l' : VV} {DL : List VV} (hs : s.cells=some DL) (hR : kN (fun j=>if j=i then some DL else (S j).cells) x' l') (h3 : ∀ p,s=.lone p→nZ sm (upd c L i) (L+1) p.1) (h4 : ∀ v ps,s=.sub v ps→HN sm (L+1) (upd c L i) v ps) :
  HN sm L c (.ptr [.int .u32 x',l',.nils] 0) (iW fun j=>if j=i then s else S j):=by
 refine .row _ hL ?_ ?_ ?_
 ·refine (congrArg (fun f=>kN f x' l') (funext fun t=>?_)).mp hR
  split
  ·exact hs.symm
  ·rfl
 ·intro t p ht h
  split at h
  ·rename_i e;subst e;exact h3 p h
  ·exact h1 t p ht h
 ·intro t v ps ht h
  split at h
  ·rename_i e;subst e;exact h4 v ps h
  ·exact h2 t v ps ht h
set_option maxHeartbeats 1000000 in
theorem WZ (seed bits m : Int) (hr : VV) (hp : Dy hr) (d : Nat) : ∀ (L : Nat),L+d=13→∀ (c : Nat→Nat) (v : VV) (ps : List iE) (p : iE),HN (lW seed bits) L c v ps→(∀ q ∈ ps,q.2.ok∧q.1.length≤1000000000)→p.2.ok→p.1.length≤1000000000→nZ (lW seed bits) c L p.1→ps.length+1≤1000000 →
  ∃ v' qs,HN (lW seed bits) L c v' qs∧qs.Perm (lH p ps)∧PV Tryz.prog G0 173 [.agg [.int .u64 seed,.int .i64 bits,.int .i64 m,hr],v,.int .i64 L,.agg (au p)] (.tup [v',.bool (lk ps p.1).isNone]):=by
 have hSum:=fun k hk=>MQ seed bits m hr hp k hk
 have hFork:=fun d=>Ub seed bits m hr hp d
 obtain ⟨sm,hsm⟩ : ∃ sm,sm=lW seed bits:=⟨_,rfl⟩
 rw [← hsm] at hSum hFork ⊢
 have hpp:=hp.pure
 have hc : hr.aC=true:=by cases hp<;>rfl
 have hcc:=hc
 simp only [go_sem,seval] at hc
 induction d with
 | zero =>
  intro L hL c v ps p hN hok hpo hkl hpre hl
  obtain rfl : L=13:=by omega
  obtain ⟨v',qs,h1,h2,h3⟩:=Ll seed bits m hr hp sm c v ps p hN (fun q hq=>(hok q hq).1) hpo hpre hl
  refine ⟨v',qs,h1,h2, ?_⟩
  have : (!hasK ps p.1)=(lk ps p.1).isNone:=by
   cases hN with
   | row S hL=>omega
   | deep h hs h2 hpk =>
    cases hb : hasK ps p.1 with
    | false=>rw [zy hs hb];rfl
    | true =>
     obtain ⟨hj,hje⟩:=rJ hb
     have hm:=List.getElem_mem hj
     cases hlk : lk ps p.1 with
     | some x=>rfl
     | none=>exact absurd hje (Hf hlk _ hm)
  rw [← this];exact h3
 | succ d ih =>
  intro L hL c v ps p hN hok hpo hkl hpre hl
  have hqn:=hN.nodup
  cases hN with
  | deep h hs h2 hpk=>omega
  | @row _ _ x l S hL13 hR h1 h2 =>
   have hap:=(mM hpo).pure _ (List.mem_singleton.2 rfl)
   have hi : iD (sm p.1) L < 32:=nH _ _
   have hrest:=Np h1 h2 (k:=p.1)
   have hsplit:=l9 S hi
   have hset:=fun s=>qP S hi s
   have hCh:=xJ (sm p.1) L
   have hstep:=hpre.step
   have hS1:=hSum p.1 hkl
   generalize iD (sm p.1) L=i at *
   obtain ⟨rest,hre⟩ : ∃ rest,rest=iW (fun j=>if j=i then .no else S j):=⟨_,rfl⟩
   rw [← hre] at hrest hsplit hset
   have hlc:=hR.sl.cell
   have hlp:=hR.sl.pure
   have e1 : IntKind.i64.wrap ((L : Int)+1)=((L+1 : Nat) : Int):=by rw [iw (by omega)];omega
   have b13 : ((L : Int) == 13)=false:=by simp;omega
   have d0 : (au p).getD 0 .undef=.str p.1:=rfl
   have c7 : (au p).length=12:=rfl
   have c8:=uH hpo
   have c9 : (au p).take 12=au p:=rfl
   have c0 : (au p).drop 12=[]:=rfl
   have s7 : (au p++[VV.nilp]).length=13:=rfl
   have s8 : (au p++[VV.nilp]).all VV.aC=true:=(jv hpo).cell _ (by simp)
   have s9 : (au p++[VV.nilp]).take 13=au p++[VV.nilp]:=rfl
   have s0 : eX.drop 13=[]:=rfl
   simp only [go_sem,seval] at hlc
   have hlkr : ∀ qs : List iE,(∀ q ∈ qs,q.1≠p.1)→(∀ q ∈ (S i).ps,q ∈ qs)→(lk (iW S) p.1).isNone=true:=by
    intro qs hq hs
    rw [vg]
    ·rfl
    ·intro q hq' e
     rcases List.mem_append.1 (hsplit.mem_iff.1 hq') with h | h
     ·exact hq q (hs q h) e
     ·exact hrest q h e
   cases hS : S i with
   | no =>
    have hG:=rV _ x l hR i hi (by rw [hS];rfl)
    obtain ⟨l',hR',hP⟩:=kY _ x l hR i hi _ (jv hpo)
    refine ⟨_,_,HN.set hL13 h1 h2 (s:=.lone p) rfl hR' (by rintro q ⟨⟩;exact hstep) (by rintro _ _ ⟨⟩), ?_, ?_⟩
    ·refine (hset _).trans ?_
     rw [hS] at hsplit
     have:=kW (p:=p) hsplit
     rw [l7 hrest] at this
     exact this.symm
    ·rw [hlkr [] (by simp) (by rw [hS];simp [Sl.ps])]
     have hlc':=hR'.sl.cell
     have hlp':=hR'.sl.pure
     have hlu:=iq hlc'
     have hll:=cellC hlc'
     simp only [go_sem,seval] at hlc'
     simp only [go_sem,seval] at hlu
     simp only [go_sem,seval] at hll
     have g7 : eX.length=13:=rfl
     have g8 : eX.all VV.aC=true:=rfl
     have g9 : eX.take 13=eX:=rfl
     refine pv e173 (by simp) (by simp [VV.ak,VV.isPure,hpp,hap,hlp]) (by simp [VV.isPure,VV.ak,hlp']) ?_
     simp only [go_sem,seval,c173,hc,b13,d0,c7,c8,c9]
     refine ah (hS1) ?_<;>simp only [go_sem,seval,hc,d0,c7,c8,c9]
     refine ah (hCh) ?_<;>simp only [go_sem,seval,hc,d0,c7,c8,c9,hlc]
     refine ah (hG) ?_<;>simp only [go_sem,seval,hc,d0,c7,c8,c9,hlc,g7,g8,g9,Bool.not_false,s7,s8,s9,s0]
     refine aj (hP) (by simp only [go_sem,seval,hlc',hlu,hll]) ?_<;>simp only [go_sem,seval,hlc',hlu,hll]
     exact ⟨_,2,rfl,vF rfl (by simp [VV.isPure,VV.ak,hlp'])⟩
   | lone q =>
    have hqi : q ∈ (S i).ps:=by rw [hS];simp [Sl.ps]
    obtain ⟨hqo,hqk⟩:=hok q (qJ hi hqi)
    have hqpre:=(h1 i q hi hS)
    have hG:=jT _ x l hR i hi (au q++[.nilp]) (by rw [hS];rfl)
    have g7 : (au q++[VV.nilp]).length=13:=rfl
    have g8 : (au q++[VV.nilp]).all VV.aC=true:=(jv hqo).cell _ (by simp)
    have g9 : (au q++[VV.nilp]).take 13=au q++[VV.nilp]:=rfl
    have g1 : (au q++[VV.nilp]).getD 12 .undef=.nilp:=rfl
    have g2 : (au q++[VV.nilp]).getD 0 .undef=.str q.1:=rfl
    have g3 : (au q++[VV.nilp]).take 12=au q:=rfl
    have g4 : (au q++[VV.nilp]).drop 13=[]:=rfl
    have g5 : (au q).length=12:=rfl
    have g6:=uH hqo
    have gq : (au q).take 12=au q:=rfl
    rw [hS] at hsplit
    by_cases he : q.1=p.1
    ·obtain ⟨l',hR',hP⟩:=kY _ x l hR i hi _ (jv hpo)
     refine ⟨_,_,HN.set hL13 h1 h2 (s:=.lone p) rfl hR' (by rintro q ⟨⟩;exact hstep) (by rintro _ _ ⟨⟩), ?_, ?_⟩
     ·refine (hset _).trans ?_
      have:=kW (p:=p) hsplit
      rw [l7 hrest] at this
      have e2 : lH p [q]=[p]:=by unfold lH;simp [he]
      rw [show (Sl.lone q).ps=[q] from rfl,e2] at this
      exact this.symm
     ·have hsome : (lk (iW S) p.1).isNone=false:=by
       rw [xU hqn (x:=q.2) (by rw [← he];exact qJ hi hqi)];rfl
      rw [hsome]
      have hlc':=hR'.sl.cell
      have hlp':=hR'.sl.pure
      have hlu:=iq hlc'
      have hll:=cellC hlc'
      simp only [go_sem,seval] at hlc'
      simp only [go_sem,seval] at hlu
      simp only [go_sem,seval] at hll
      have b2 : (q.1 == p.1)=true:=by simp [he]
      refine pv e173 (by simp) (by simp [VV.ak,VV.isPure,hpp,hap,hlp]) (by simp [VV.isPure,VV.ak,hlp']) ?_
      simp only [go_sem,seval,c173,hc,b13,d0,c7,c8,c9]
      refine ah (hS1) ?_<;>simp only [go_sem,seval,hc,d0,c7,c8,c9]
      refine ah (hCh) ?_<;>simp only [go_sem,seval,hc,d0,c7,c8,c9,hlc]
      refine ah (hG) ?_<;>simp only [go_sem,seval,hc,d0,c7,c8,c9,hlc,g1,g2,g3,g4,g7,g8,g9,b2,Bool.not_false,Bool.not_true,s7,s8,s9]
      refine aj (hP) (by simp only [go_sem,seval,hlc',hlu,hll]) ?_<;>simp only [go_sem,seval,hlc',hlu,hll]
      exact ⟨_,2,rfl,vF rfl (by simp [VV.isPure,VV.ak,hlp'])⟩
    ·obtain ⟨w,qs,hw,hwq,hPF⟩:=hFork d (L+1) (by omega) (upd c L i) q p he hqo hpo hqk hkl hqpre hstep
     obtain ⟨l',hR',hP⟩:=kY _ x l hR i hi _ (qW hw)
     refine ⟨_,_,HN.set hL13 h1 h2 (s:=.sub w qs) rfl hR' (by rintro _ ⟨⟩) (by rintro _ _ ⟨⟩;exact hw), ?_, ?_⟩
     ·refine (hset _).trans ?_
      have:=kW (p:=p) hsplit
      rw [l7 hrest] at this
      have e2 : lH p [q]=[p,q]:=by rw [zN];simpa using he
      rw [show (Sl.lone q).ps=[q] from rfl,e2] at this
      exact ((hwq.trans (.swap _ _ _)).append_right _).trans this.symm
     ·rw [hlkr [q] (by simpa using he) (by rw [hS];simp [Sl.ps])]
      have hlc':=hR'.sl.cell
      have hlp':=hR'.sl.pure
      have hlu:=iq hlc'
      have hll:=cellC hlc'
      have hwc : w.aC=true:=by obtain ⟨_,_,_,rfl,_⟩:=hw.cells;rfl
      have hwu:=iq hwc
      have hwl:=cellC hwc
      simp only [Vl.zero,Vl.cells,List.cons_append,List.nil_append] at hP
      simp only [go_sem,seval] at hlc'
      simp only [go_sem,seval] at hlu
      simp only [go_sem,seval] at hll
      simp only [go_sem,seval] at hwc
      simp only [go_sem,seval] at hwu
      simp only [go_sem,seval] at hwl
      have b2 : (q.1 == p.1)=false:=by simp [he]
      refine pv e173 (by simp) (by simp [VV.ak,VV.isPure,hpp,hap,hlp]) (by simp [VV.isPure,VV.ak,hlp']) ?_
      simp only [go_sem,seval,c173,hc,b13,d0,c7,c8,c9]
      refine ah (hS1) ?_<;>simp only [go_sem,seval,hc,d0,c7,c8,c9]
      refine ah (hCh) ?_<;>simp only [go_sem,seval,hc,d0,c7,c8,c9,hlc]
      refine ah (hG) ?_<;>simp only [go_sem,seval,hc,d0,c7,c8,c9,hlc,g1,g2,g3,g4,g5,g6,gq,g7,g8,g9,b2,e1,Bool.not_false,Bool.not_true]
      refine ah (hPF) ?_<;>simp only [go_sem,seval,hwc,hwu,hwl,g4,g7]
      refine aj (hP) (by simp only [go_sem,seval,hlc',hlu,hll]) ?_<;>simp only [go_sem,seval,hlc',hlu,hll]
      exact ⟨_,2,rfl,vF rfl (by simp [VV.isPure,VV.ak,hlp'])⟩
   | sub v1 ps1 =>
    have hsub:=h2 i v1 ps1 hi hS
    have hmem : ∀ q ∈ ps1,q ∈ iW S:=fun q hq=>qJ hi (by rw [hS];exact hq)
    have hl1 : ps1.length≤(iW S).length:=by
     have:=hsplit.length_eq
     rw [List.length_append,hS] at this
     simp only [Sl.ps] at this
     omega
    obtain ⟨w,qs,hw,hwq,hPP⟩:=ih (L+1) (by omega) (upd c L i) v1 ps1 p hsub (fun q hq=>hok q (hmem q hq)) hpo hkl hstep (by omega)
    have hG:=jT _ x l hR i hi (.str []::(Vl.zero.cells++[v1])) (by rw [hS];rfl)
    obtain ⟨l',hR',hP⟩:=kY _ x l hR i hi _ (qW hw)
    rw [hS] at hsplit
    refine ⟨_,_,HN.set hL13 h1 h2 (s:=.sub w qs) rfl hR' (by rintro _ ⟨⟩) (by rintro _ _ ⟨⟩;exact hw), ?_, ?_⟩
    ·refine (hset _).trans ?_
     have:=kW (p:=p) hsplit
     rw [l7 hrest] at this
     exact (hwq.append_right _).trans this.symm
    ·have hlke : lk (iW S) p.1=lk ps1 p.1:=G7 hqn hmem fun q hq e=>by
      rcases List.mem_append.1 (hsplit.mem_iff.1 hq) with h | h
      ·exact h
      ·exact absurd e (hrest q h)
     rw [hlke]
     have hlc':=hR'.sl.cell
     have hlp':=hR'.sl.pure
     have hlu:=iq hlc'
     have hll:=cellC hlc'
     have hvp:=hsub.pure
     obtain ⟨_,_,_,rfl,_⟩:=hsub.cells
     have hwc : w.aC=true:=by obtain ⟨_,_,_,rfl,_⟩:=hw.cells;rfl
     have hwu:=iq hwc
     have hwl:=cellC hwc
     simp only [Vl.zero,Vl.cells,List.cons_append,List.nil_append] at hP hG
     simp only [go_sem,seval] at hlc'
     simp only [go_sem,seval] at hlu
     simp only [go_sem,seval] at hll
     simp only [go_sem,seval] at hwc
     simp only [go_sem,seval] at hwu
     simp only [go_sem,seval] at hwl
     refine pv e173 (by simp) (by simp [VV.ak,VV.isPure,hpp,hap,hlp]) (by simp [VV.isPure,VV.ak,hlp']) ?_
     simp only [go_sem,seval,c173,hc,b13,d0,c7,c8,c9]
     refine ah (hS1) ?_<;>simp only [go_sem,seval,hc,d0,c7,c8,c9]
     refine ah (hCh) ?_<;>simp only [go_sem,seval,hc,d0,c7,c8,c9,hlc]
     refine ah (hG) ?_<;>simp only [go_sem,seval,hc,d0,c7,c8,c9,hlc,e1,Bool.not_false,Bool.not_true]
     refine ah (hPP) ?_<;>simp only [go_sem,seval,hwc,hwu,hwl]
     refine aj (hP) (by simp only [go_sem,seval,hlc',hlu,hll]) ?_<;>simp only [go_sem,seval,hlc',hlu,hll]
     exact ⟨_,2,rfl,vF rfl (by simp [VV.isPure,VV.ak,hlp'])⟩
end Go.V
namespace Go.V
open Go.Proofs
set_option maxRecDepth 100000
theorem Mc {α : Type} {p : Bs × α} {ps : List (Bs × α)} (hn : jI ps) : (lH p ps).length=ps.length+(if (lk ps p.1).isNone=true then 1 else 0):=by
 cases h : lk ps p.1 with
 | none=>rw [zN (Hf h)];simp
 | some x =>
  have hm:=vM h
  obtain ⟨a,b,rfl⟩:=List.append_of_mem hm
  have hn' : jI ((p.1,x)::(a++b)):=hn.perm List.perm_middle
  obtain ⟨h1,_⟩:=List.pairwise_cons.1 hn'
  have h2:=(kW (p:=p) (List.perm_middle (a:=(p.1,x)) (l₁:=a) (l₂:=b))).length_eq
  rw [h2]
  have e : ((p.1,x)::(a++b)).filter (fun q=>!(q.1 == p.1))=a++b:=by
   rw [List.filter_cons_of_neg (by simp),List.filter_eq_self.2]
   intro q hq
   have:=h1 q hq
   simpa using this.symm
  unfold lH
  rw [e]
  simp
  omega
theorem hn0 {sm : Bs→Int} : HN sm 0 (fun _=>0) (.ptr [.int .u32 0,.nils,.nils] 0) []:=by
 have h:=HN.row (sm:=sm) (c:=fun _=>0) (L:=0) (fun _=>Sl.no) (by decide) (x:=0) (l:=.nils) kN.empty (by intro _ _ _ h;cases h) (by intro _ _ _ _ h;cases h)
 rw [qB] at h
 exact h
theorem OB (seed bits : Int) (n : Nat) (hr : VV) (ps : List iE) (h : lQ (lW seed bits) hr ps) (hok : ∀ q ∈ ps,q.2.ok∧q.1.length≤1000000000) (hn : n=ps.length) (hl : ps.length+1≤1000000) (k : Bs) (x : Vl) (hx : x.ok) (hk : k.length≤1000000000) :
  ∃ hr' qs,HN (lW seed bits) 0 (fun _=>0) hr' qs∧qs.Perm (lH (k,x) ps)∧PV Tryz.prog G0 124 [.agg [.int .u64 seed,.int .i64 bits,.int .i64 n,hr],.str k,x.vv] (.agg [.int .u64 seed,.int .i64 bits,.int .i64 qs.length,hr']):=by
 have hptr:=Jh h
 have hnd:=h.nodup
 obtain ⟨v0,hv0,hN0⟩ : ∃ v0,((hr=.nilp∧v0=VV.ptr [.int .u32 0,.nils,.nils] 0)∨(v0=hr∧∃ cells,hr=.ptr cells 0))∧HN (lW seed bits) 0 (fun _=>0) v0 ps:=by
  rcases h with ⟨rfl,rfl⟩ | h
  ·exact ⟨_,.inl ⟨rfl,rfl⟩,hn0⟩
  ·refine ⟨_,.inr ⟨rfl, ?_⟩,h⟩
   obtain ⟨_,_,_,rfl,_⟩:=h.cells;exact ⟨_,rfl⟩
 obtain ⟨hr',qs,hq,hqp,hP⟩:=WZ seed bits n hr hptr 13 0 rfl (fun _=>0) v0 ps (k,x) hN0 hok hx hk (fun j hj=>by omega) hl
 refine ⟨hr',qs,hq,hqp, ?_⟩
 have hlen : qs.length=n+(if (lk ps k).isNone=true then 1 else 0):=by rw [hqp.length_eq,Mc hnd,hn]
 have hpp:=h.pure
 have hc:=h.cell
 have hp':=hq.pure
 have hc' : hr'.aC=true:=by obtain ⟨_,_,_,rfl,_⟩:=hq.cells;rfl
 have hu':=iq hc'
 have hl':=cellC hc'
 have x1:=hx.rc
 have x2:=hx.hc
 have d1 : x.cells.length=11:=rfl
 have d2 : x.cells.all VV.aC=true:=hx.cell
 have d3 : x.cells.take 11=x.cells:=rfl
 have e1 : IntKind.i64.wrap ((n : Int)+1)=((n+1 : Nat) : Int):=by rw [iw (by omega)];omega
 have hz : [VV.str [],.int .i64 0,.int .i64 0,.str [],.int .i64 0,.nilp,.int .u64 0,.int .i64 0,.int .i64 0,.nilp,.int .i64 0,.int .i64 0].length=12:=rfl
 refine pv e124 (by simp) (by simp [VV.ak,VV.isPure,hpp,Vl.vv,hx.pure]) (by simp [VV.isPure,VV.ak,hp']) ?_
 simp only [go_sem,seval] at hc
 simp only [go_sem,seval] at hc'
 simp only [go_sem,seval] at hu'
 simp only [go_sem,seval] at hl'
 have hpc : (VV.agg (au (k,x)))=.agg (.str k::x.cells):=rfl
 rw [hpc] at hP
 rcases hv0 with ⟨rfl,rfl⟩ | ⟨rfl,cells,rfl⟩
 ·simp only [go_sem,seval,c124,Vl.vv,d1,d2,d3]
  refine wK (id:=3) (cells:=[.int .u32 0,.nils,.nils]) rfl ?_
  refine Na 1 ?_ hP ?_
  ·have e0 : ∀ (τ : Store) (y : VV),y.isPure=true→fz 1 τ y=some y:=fun τ y h=>qY h
   simp only [List.mapM_cons,List.mapM_nil]
   rw [e0 _ _ (by rfl),e0 _ (.int .i64 0) (by rfl),e0 _ (.agg (.str k::x.cells)) (by simp [VV.isPure,VV.ak,hx.pure])]
   rfl
  ·cases hz2 : (lk ps k).isNone with
   | true =>
    rw [hz2] at hlen
    simp only [if_true] at hlen
    simp only [go_sem,seval,gZ,hc',hu',hl',e1]
    rw [hlen]
    exact fin (by simp [VV.isPure,VV.ak,hp']) rfl
   | false =>
    rw [hz2] at hlen
    simp only [Bool.false_eq_true,if_false,Nat.add_zero] at hlen
    simp only [go_sem,seval,gZ,hc',hu',hl',e1]
    rw [hlen]
    exact fin (by simp [VV.isPure,VV.ak,hp']) rfl
 ·simp only [go_sem,seval,c124,Vl.vv,d1,d2,d3]
  refine ah (hP) ?_<;>simp only [go_sem,seval,hc',hu',hl',d1,d2,d3]
  cases hz2 : (lk ps k).isNone with
  | true =>
   rw [hz2] at hlen
   simp only [if_true] at hlen
   simp only [go_sem,seval,gZ,hc',hu',hl',e1]
   rw [hlen]
   exact fin (by simp [VV.isPure,VV.ak,hp']) rfl
  | false =>
   rw [hz2] at hlen
   simp only [Bool.false_eq_true,if_false,Nat.add_zero] at hlen
   simp only [go_sem,seval,gZ,hc',hu',hl',e1]
   rw [hlen]
   exact fin (by simp [VV.isPure,VV.ak,hp']) rfl
end Go.V
