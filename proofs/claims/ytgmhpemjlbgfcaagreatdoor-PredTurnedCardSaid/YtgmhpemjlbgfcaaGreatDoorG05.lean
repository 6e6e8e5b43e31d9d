/- Texts V10 V11 V12. -/
import Derived.Test.YtgmhpemjlbgfcaaGreatDoorG04
set_option linter.unusedVariables false
set_option linter.unusedSimpArgs false
namespace Go.V
open Go
section
variable {P : Program} {G : Nat→Option (List VV)} {B : Nat→Prop} {w : World} {σ : Store} {μ : List Loc}
theorem rU {O : Nat→Prop} (s : List UInt8) : bI w O μ (s.map aU) (byteCells ⟨s.toArray⟩):=by
 unfold byteCells
 simp only
 induction s with
 | nil=>simp [bI]
 | cons b s ih =>
  simp only [List.map_cons,bI]
  exact ⟨_,_,rfl,by simp [aU,VR],ih⟩
theorem uy (hS : SR B w σ μ) {k : Nat} {tx : TypeId} {x : VV} {v : Value} (hx : VR w (OO B σ μ) μ x v) {m : Nat} {news : List VV} (h : aJ P σ k tx x=some (m,news)) (hl : news.length=m*k) (hall : aQ news=true) :
  ∃ vs,Src P k tx v m vs w∧bI w (OO B σ μ) μ news vs:=by
 have sl : ∀ {m : Nat} {news : List VV},(match iF P tx,kK x,eG σ k x with
   | some _,some n,some cells=>some (n,cells)
   | _,_,_=>none)=some (m,news)→news.length=m*k→aQ news=true→∃ vs,Src P k tx v m vs w∧bI w (OO B σ μ) μ news vs:=by
  intro m news h hl hall
  split at h
  ·rename_i e n cells he hn hc
   cases h
   rcases kM hS hx hc with ⟨a,rfl,rfl,h3⟩ | ⟨b,o,n',cap,rfl,h2,h3,h4⟩
   ·rw [h3] at hn
    cases hn
    cases a with
    | none=>exact ⟨[],Src.ofNil w (dJ he) 0,by simp [bI]⟩
    | some a=>exact ⟨[],Src.ofSlice w (dJ he) a 0 0 [] (by simp) (fun j u hu=>by simp at hu) (by simp),by simp [bI]⟩
   ·rw [h2] at hn
    cases hn
    obtain ⟨vs,h5,h6⟩:=h4.vals
    refine ⟨vs,Src.ofSlice w (dJ he) ⟨b,o,none⟩ _ cap vs (by rw [h5.length,h3]) (fun j u hu=>by rw [iY];exact h6 j u hu) (cells_one h5 hall),h5⟩
  ·cases h
 cases x with
 | str s =>
  simp only [aJ] at h
  split at h
  ·rename_i hq
   obtain ⟨q1,rfl⟩:=hq
   cases h
   simp only [VR] at hx
   subst hx
   have hsz : (ByteArray.mk s.toArray).size=s.length:=by simp [ByteArray.size]
   have:=Src.ofString w (eu q1) ⟨s.toArray⟩
   rw [hsz] at this
   exact ⟨_,this,rU s⟩
  ·cases h
 | _=>exact sl h hl hall
theorem yL (z : Array Value) (n : Nat) : (Builtin.zeroCells z n).size=n*z.size:=by simp [Builtin.zeroCells]
theorem qU (hS : SR B w σ μ) {t tx e : TypeId} {ty : TypeId} {k by_ : Nat} {z : List VV} (ht : iF P t=some e) (hk : eH P e=some k) (hby : Yr P e=some by_) (hz : bG P e=some z) (hzk : z.length=k)
  {base : Option Addr} {n cap m : Nat} {olds : List VV} {ovs : List Value} {news : List VV} {nvs : List Value} {v : Value}
  (hold : (Builtin.firstCells k n (.slice base n cap)).run P w.drew=.ok ovs.toArray w.drew) (ho : bI w (OO B σ μ) μ olds ovs) (hol : olds.length=n*k)
  (hsrc : Src P k tx v m nvs w) (hn : bI w (OO B σ μ) μ news nvs) (hg : cap < n+m) (hbig : n+m≤1099511627776) (hbytes : (n+m)*by_≤140737488355328) (hnl : news.length=m*k) :
  bn P B w σ μ (Builtin.append_ #[t,tx] ty #[.slice base n cap,v]) (.bZ σ.length 0 (n+m) k) (σ++[.own (olds++news)]):=by
 unfold eH at hk
 unfold Yr at hby
 unfold bG at hz
 simp only [Option.map_eq_some_iff,Option.bind_eq_some_iff] at hk hby hz
 obtain ⟨i,hi,rfl⟩:=hk
 obtain ⟨i',hi',rfl⟩:=hby
 obtain ⟨i'',hi'',zv,hzv,rfl⟩:=hz
 rw [hi] at hi' hi''
 cases hi'
 cases hi''
 have hrun:=run_append_grow_src (P:=P) w t tx ty e i zv (dJ ht) hi hzv base n cap ovs hold v m nvs hsrc hg (by omega) (growslice_fits hg hbytes)
 have hzs : zv.cells.size=i.size:=by simpa using hzk
 generalize hcap : grownCap w (n+m) cap e=c at hrun
 have hc : n+m≤c:=by rw [← hcap];exact grownCap_ge w (n+m) cap e
 generalize hcells : (ovs++nvs).toArray++Builtin.zeroCells zv.cells (c-(n+m))=cs at hrun
 have hlen : (ovs++nvs).length=(n+m)*i.size:=by rw [List.length_append,ho.length,hn.length,hol,hnl,Nat.add_mul]
 have hcs : cs.size=c*i.size:=by
  rw [← hcells,Array.size_append,yL,hzs,List.size_toArray,hlen,← Nat.add_mul]
  congr 1;omega
 have hF0 : Frame w σ μ (w.drew.alloc (.cells cs e)) σ μ:=.still (by simp) (fun b hb=>heap_alloc w.drew _ hb) rfl rfl rfl
 have hpre : μ <+: μ++[⟨w.heap.size,0,c*i.size⟩]:=List.prefix_append _ _
 have hE : Ext w (OO B σ μ) μ (w.drew.alloc (.cells cs e)) (OO B (σ++[.own (olds++news)]) (μ++[⟨w.heap.size,0,c*i.size⟩])) (μ++[⟨w.heap.size,0,c*i.size⟩]):=by
  refine ⟨fun b o v _ hv=>by rw [cell_of_heap (w:=w) (heap_alloc w.drew _ (cell_lt hv))];exact hv,fun b hb=>?_,hpre⟩
  rcases hb with hb | ⟨id,L,o,h1,rfl,h3,h4⟩
  ·exact .inl (.inl hb)
  ·rcases aP h1 with h1 | ⟨h1,rfl⟩
   ·rcases aP h3 with h3 | ⟨h3,rfl⟩
    ·exact .inl (.inr ⟨id,L,o,h1,rfl,h3,h4⟩)
    ·have:=(List.getElem?_eq_some_iff.1 h1).1;rw [hS.len] at this;omega
   ·exact .inr (Nat.le_refl _)
 have hrange : (w.drew.alloc (.cells cs e)).rangeAt w.heap.size 0 (ovs++nvs):=by
  intro j u hu
  have hj : j < (ovs++nvs).length:=(List.getElem?_eq_some_iff.1 hu).1
  have : (w.drew.alloc (.cells cs e)).heap[w.heap.size]?=some (.cells cs e (0,0)):=heap_alloc_new' w.drew _
  simp only [World.cell?,this,Nat.zero_add]
  rw [← hcells]
  simp only [Option.isSome_none,Bool.false_eq_true,if_false]
  rw [Array.getElem?_append_left (by simpa using hj)]
  simpa using hu
 have:=hS.snoc hF0 (fun b hb=>heap_alloc w.drew _ hb) (o:=.own (olds++news)) (L:=⟨w.heap.size,0,c*i.size⟩) (Nat.le_refl _)
  ⟨⟨cs,e,heap_alloc_new' w.drew _,by simp [hcs]⟩,by
   have:=(ho.append hn).length
   rw [← this,hlen];exact Nat.mul_le_mul_right _ hc,VC.uG (bI.ext hE _ _ (ho.append hn)) hrange⟩
 refine ⟨_,_,_,this.2,this.1,hrun, ?_⟩
 simp only [VR]
 exact ⟨⟨w.heap.size,0,c*i.size⟩,c,by rw [← hS.len];simp,by simp,hc,by simp⟩
set_option maxHeartbeats 2000000 in
theorem FN (hS : SR B w σ μ) {t tx ty : TypeId} {s x : VV} {vs v : Value} (hs : VR w (OO B σ μ) μ s vs) (hx : VR w (OO B σ μ) μ x v) {out : aS}
  (h : bF P t tx s x σ=some out) (hp : out.pre) : bn P B w σ μ (Builtin.append_ #[t,tx] ty #[vs,v]) out.val out.st:=by
 unfold bF at h
 split at h
 ·cases h
 rename_i e ht
 split at h
 case h_2=>cases h
 rename_i k by_ z hk hby hz
 split at h
 ·cases h
 rename_i m news hsrc
 simp only at h
 have hi : ∃ i,P.info? e=some i∧i.size=k:=by unfold eH at hk;simpa [Option.map_eq_some_iff] using hk
 obtain ⟨i,hi,hik⟩:=hi
 cases s with
 | nils =>
  simp only [VR] at hs
  subst hs
  simp only at h
  split at h
  ·rename_i hm
   cases h
   subst hm
   have hrun : (Builtin.append_ #[t,tx] ty #[.slice none 0 0,v]).run P w=.ok (.slice none 0 0) w:=by
    have hkind : (∃ e',P.underlying tx=some (.slice e'))∨P.underlying tx=some .string:=by
     cases x with
     | str s =>
      simp only [aJ] at hsrc
      split at hsrc
      ·rename_i hq;exact .inr (eu hq.1)
      ·cases hsrc
     | _ =>
      simp only [aJ] at hsrc
      split at hsrc
      ·rename_i e' _ _ he _ _;exact .inl ⟨_,dJ he⟩
      ·cases hsrc
    have hlen : (Builtin.lenOf v).run P w=.ok 0 w∧(Builtin.firstCells k 0 v).run P w=.ok #[] w:=by
     cases x with
     | str s =>
      simp only [aJ] at hsrc
      split at hsrc
      ·simp only [Option.some.injEq,Prod.mk.injEq] at hsrc
       simp only [VR] at hx
       subst hx
       have h0 : s=[]:=List.eq_nil_of_length_eq_zero hsrc.1
       subst h0
       exact ⟨rfl,by simp [Builtin.firstCells]⟩
      ·cases hsrc
     | nils=>simp only [VR] at hx;subst hx;exact ⟨rfl,rfl⟩
     | sl n c tt =>
      simp only [aJ,kK] at hsrc
      split at hsrc
      ·rename_i hn _;simp only [Option.some.injEq,Prod.mk.injEq] at hsrc hn
       simp only [VR] at hx
       have h0 : n=0:=by omega
       rcases hx with ⟨b,o,cap,rfl,_⟩ | ⟨_,_,a,rfl⟩
       rotate_left
       ·exact ⟨rfl,by simp [Builtin.firstCells,loadCells,loadCellsFrom]⟩
       subst h0
       exact ⟨rfl,by simp [Builtin.firstCells,loadCells,loadCellsFrom]⟩
      ·cases hsrc
     | bZ id off n sz =>
      simp only [aJ,kK] at hsrc
      split at hsrc
      ·rename_i hn _;simp only [Option.some.injEq,Prod.mk.injEq] at hsrc hn
       simp only [VR] at hx
       obtain ⟨L,cap,_,rfl,_⟩:=hx
       have h0 : n=0:=by omega
       subst h0
       exact ⟨rfl,by simp [Builtin.firstCells,loadCells,loadCellsFrom]⟩
      ·cases hsrc
     | _=>simp [aJ,kK] at hsrc
    rcases hkind with ⟨e',hq⟩ | hq<;>simp [Builtin.append_,run_underlying (dJ ht),run_underlying hq,sizeOf,typeInfo,hi,hlen.1,hik,hlen.2]
   exact .same hS hrun (by simp [VR])
  ·rename_i hm
   cases h
   obtain ⟨h1,h2,h3,h4,h5,h6⟩:=hp
   obtain ⟨nvs,hsr,hnv⟩:=uy hS hx hsrc h3 h5
   have:=qU (ty:=ty) hS ht hk hby hz h6 (base:=none) (n:=0) (cap:=0) (olds:=[]) (ovs:=[]) (by simp [Builtin.firstCells]) (by simp [bI]) (by simp) hsr hnv (by omega) (by omega) (by omega) h3
   simpa using this
 | sl n cells tight =>
  simp only at h
  simp only [VR] at hs
  split at h
  ·rename_i hm
   cases h
   subst hm
   have hnil : news=[]:=by
    cases x with
    | str s =>
     simp only [aJ] at hsrc
     split at hsrc
     ·simp only [Option.some.injEq,Prod.mk.injEq] at hsrc
      have h0 : s=[]:=List.eq_nil_of_length_eq_zero hsrc.1
      subst h0
      exact hsrc.2.symm
     ·cases hsrc
    | _ =>
     simp only [aJ] at hsrc
     split at hsrc
     ·rename_i hn hcs
      simp only [Option.some.injEq,Prod.mk.injEq] at hsrc
      obtain ⟨rfl,rfl⟩:=hsrc
      rcases kM hS hx hcs with ⟨_,_,h0,_⟩ | ⟨_,_,n',_,_,h2,h3,_⟩
      ·exact h0
      ·rw [h2] at hn;cases hn
       exact List.eq_nil_of_length_eq_zero (by omega)
     ·cases hsrc
   subst hnil
   obtain ⟨nvs,hsr,hnv⟩:=uy hS hx hsrc (by simp) (by simp [aQ])
   have hn0 : nvs=[]:=List.eq_nil_of_length_eq_zero (by simpa using hnv.length)
   subst hn0
   rcases hs with ⟨b,o,cap,rfl,hcap,htight,hO,hc⟩ | ⟨rfl,rfl,a,rfl⟩
   rotate_left
   ·have hsr' : Src P i.size tx v 0 [] w:=by rw [hik];exact hsr
    have hrun : (Builtin.append_ #[t,tx] ty #[.slice (some a) 0 0,v]).run P w=.ok (.slice (some a) 0 0) w:=by
     rcases hsr'.kind with ⟨e',hq⟩ | hq<;>simp [Builtin.append_,run_underlying (dJ ht),run_underlying hq,sizeOf,typeInfo,hi,hsr'.len,hsr'.cells,storeCells]
    refine .same hS hrun ?_
    simp only [VR]
    exact .inr ⟨trivial,trivial,a,rfl⟩
   have hrun:=run_append_room_src (P:=P) w t tx ty e i (dJ ht) hi b o n cap v 0 [] (by rw [hik];exact hsr) (by omega) (fun j hj=>by simp at hj) (fun j hj=>by simp at hj)
   refine .same hS (v:=.slice (some ⟨b,o,none⟩) n cap) (by simpa [World.setCells] using hrun) ?_
   simp only [VR]
   exact .inl ⟨b,o,cap,rfl,hcap,htight,hO,hc⟩
  ·rename_i hm
   split at h
   ·rename_i htt
    cases h
    obtain ⟨⟨h1,h2,h3,h4,h5,h6⟩,h7,h8⟩:=hp
    obtain ⟨nvs,hsr,hnv⟩:=uy hS hx hsrc h3 h5
    rcases hs with ⟨b,o,cap,rfl,hcap,htight,hO,hc⟩ | ⟨rfl,rfl,a,rfl⟩
    rotate_left
    ·exact qU (ty:=ty) hS ht hk hby hz h6 (base:=some a) (olds:=[]) (ovs:=[]) (by simp [Builtin.firstCells,loadCells,loadCellsFrom]) (by simp [bI]) (by simp) hsr hnv (by omega) h1 h2 h3
    obtain ⟨ovs,ho1,ho2⟩:=hc.vals
    have hcn:=htight htt
    subst hcn
    exact qU (ty:=ty) hS ht hk hby hz h6 (base:=some ⟨b,o,none⟩) (olds:=cells) (ovs:=ovs)
     (run_firstCells_some (P:=P) w.drew k _ ⟨b,o,none⟩ _ _ ovs (by rw [ho1.length,h7]) (fun j u hu=>by rw [iY];exact ho2 j u hu)) ho1 h7 hsr hnv (by omega) h1 h2 h3
   ·cases h
 | bZ id off n sz =>
  simp only at h
  split at h
  ·rename_i cells ho
   split at h
   ·rename_i hsz
    subst hsz
    cases h
    obtain ⟨⟨h1,h2,h3,h4,h5,h6⟩,h7,h8⟩:=hp
    obtain ⟨nvs,hsr,hnv⟩:=uy hS hx hsrc h3 h5
    simp only [VR] at hs
    obtain ⟨L,cap,hL,rfl,hcap,hroom⟩:=hs
    have hob:=hS.obj id _ L ho hL
    obtain ⟨⟨c,ce,hh,hsize⟩,hclen,hc⟩:=hob
    have hpre : VC w (OO B σ μ) μ ((cells.drop off).take (n*sz)) L.block (L.base+off):=(hc.drop off).take _
    have hplen : ((cells.drop off).take (n*sz)).length=n*sz:=by simp;omega
    obtain ⟨ovs,ho1,ho2⟩:=hpre.vals
    have hovl : ovs.length=n*sz:=by rw [ho1.length,hplen]
    by_cases hfits : n+m≤cap
    ·have hmul : n*sz+m*sz≤cap*sz:=by rw [← Nat.add_mul];exact Nat.mul_le_mul_right _ hfits
     have hnvl : nvs.length=m*sz:=by rw [hnv.length,h3]
     have hin : ∀ j,j < nvs.length→L.base+off+n*sz+j < c.size:=by intro j hj;omega
     have hrun:=run_append_room_src (P:=P) w t tx ty e i (dJ ht) hi L.block (L.base+off) n cap v m nvs (by rw [hik];exact hsr) hfits
      (fun j hj=>by rw [hik];simp [World.cell?,hh,hin j hj]) (fun j hj=>by simp [World.frozen?,hh])
     rw [hik] at hrun
     obtain ⟨f1,f2,f3,f4,f5⟩:=fO w L.block (L.base+off+n*sz) nvs
     have:=hS.move ho rfl hL (o':=.own ((cells.drop off).take (n*sz)++news)) (L':=⟨L.block,L.base+off,cap*sz⟩) rfl rfl f2 f1 f3 f4 f5 (fun hE=>by
      obtain ⟨c',g1,g2⟩:=fH w L.block nvs (L.base+off+n*sz) c ce hh
      refine ⟨⟨c',ce,g1,by simp only;omega⟩,by simp only [List.length_append,hplen,h3];exact hmul, ?_⟩
      refine VC.append ?_ ?_
      ·rw [iU] at hpre ⊢
       intro j y hy
       obtain ⟨u,hu,hr⟩:=hpre j y hy
       have hj : j < n*sz:=by have:=(List.getElem?_eq_some_iff.1 hy).1;omega
       refine ⟨u, ?_,VR.ext hE _ _ hr⟩
       rw [World.cell?_setCells_out L.block nvs (L.base+off+n*sz) w ⟨L.block,L.base+off+j,none⟩ (fun _ _=>.inl (by show L.base+off+j < L.base+off+n*sz;omega))]
       exact hu
      ·rw [iU]
       intro j y hy
       obtain ⟨u,hu,hr⟩:=hnv.get hy
       have hj : j < nvs.length:=(List.getElem?_eq_some_iff.1 hu).1
       refine ⟨u, ?_,VR.ext hE _ _ hr⟩
       have g3:=World.cell?_setCells_in L.block nvs (L.base+off+n*sz) w (fun j hj=>by simp [World.cell?,hh,hin j hj]) j hj
       simp only [hplen]
       rw [g3]
       rw [List.getElem?_eq_getElem hj] at hu
       exact hu)
     refine ⟨_,_,_,this.2,this.1,hrun, ?_⟩
     simp only [VR]
     exact ⟨⟨L.block,L.base+off,cap*sz⟩,cap,by rw [← hS.len];simp,by simp,hfits,by simp⟩
    ·obtain ⟨d1,d2⟩:=hS.dead ho
     have hE1:=d2.ext (B:=B)
     have hsr' : Src P sz tx v m nvs w:=hsr
     have:=qU (ty:=ty) d1 ht hk hby hz h6 (base:=some ⟨L.block,L.base+off,none⟩) (n:=n) (cap:=cap) (olds:=(cells.drop off).take (n*sz)) (ovs:=ovs)
      (run_firstCells_some (P:=P) w.drew sz n ⟨L.block,L.base+off,none⟩ n cap ovs hovl (fun j u hu=>by rw [iY];exact ho2 j u hu)) (bI.ext hE1 _ _ ho1) hplen hsr' (bI.ext hE1 _ _ hnv) (by omega) h1 h2 h3
     obtain ⟨w',μ',u,g1,g2,g3,g4⟩:=this
     refine ⟨w',μ',u,d2.trans g1,g2,g3, ?_⟩
     simpa using g4
   ·cases h
  ·cases h
 | _=>cases h
end
end Go.V
namespace Go.V
open Go
section
variable {P : Program} {G : Nat→Option (List VV)} {B : Nat→Prop} {w : World} {σ : Store} {μ : List Loc}
theorem Ae {xs : List VV} (h : aQ xs=true) (n : Nat) : aQ (xs.take n)=true:=by
 simp only [aQ,List.all_eq_true] at h ⊢
 exact fun x hx=>h x (List.mem_of_mem_take hx)
theorem sS (hS : SR B w σ μ) {k : Nat} {tx : TypeId} {x : VV} {v : Value} (hx : VR w (OO B σ μ) μ x v) {m : Nat} {news : List VV} (h : aJ P σ k tx x=some (m,news)) (hl : news.length=m*k) {n : Nat} (hn : n≤m) :
  ∃ vs,(Builtin.lenOf v).run P w=.ok m w∧(Builtin.firstCells k n v).run P w=.ok vs.toArray w∧bI w (OO B σ μ) μ (news.take (n*k)) vs:=by
 have hnk : n*k≤m*k:=Nat.mul_le_mul_right _ hn
 have sl : ∀ {m : Nat} {news : List VV},(match iF P tx,kK x,eG σ k x with
   | some _,some n,some cells=>some (n,cells)
   | _,_,_=>none)=some (m,news)→news.length=m*k→n≤m→n*k≤m*k →
   ∃ vs,(Builtin.lenOf v).run P w=.ok m w∧(Builtin.firstCells k n v).run P w=.ok vs.toArray w∧bI w (OO B σ μ) μ (news.take (n*k)) vs:=by
  intro m news h hl hn hnk
  split at h
  ·rename_i e n' cells he hn' hc
   cases h
   rcases kM hS hx hc with ⟨a,rfl,rfl,h3⟩ | ⟨b,o,n'',cap,rfl,h2,h3,h4⟩
   ·rw [h3] at hn'
    cases hn'
    obtain rfl : n=0:=by omega
    exact ⟨[],rfl,by cases a<;>simp [Builtin.firstCells,loadCells,loadCellsFrom],by simp [bI]⟩
   ·rw [h2] at hn'
    cases hn'
    obtain ⟨vs,h5,h6⟩:=(h4.take (n*k)).vals
    exact ⟨vs,rfl,run_firstCells_some (P:=P) w k n ⟨b,o,none⟩ _ cap vs (by rw [h5.length];simp;omega) (fun j u hu=>by rw [iY];exact h6 j u hu),h5⟩
  ·cases h
 cases x with
 | str s =>
  simp only [aJ] at h
  split at h
  ·rename_i hq
   obtain ⟨q1,rfl⟩:=hq
   cases h
   simp only [VR] at hx
   subst hx
   have hb:=(rU (w:=w) (O:=OO B σ μ) (μ:=μ) s).take (n*1)
   refine ⟨_,rfl, ?_,hb⟩
   simp only [Builtin.firstCells,Sem.run_pure]
   congr 1
   apply Array.ext'
   simp [byteCells,List.extract_eq_take_drop]
  ·cases h
 | _=>exact sl h hl hn hnk
theorem JJ (hS : SR B w σ μ) {t tx ty : TypeId} {d x : VV} {vd v : Value} (hd : VR w (OO B σ μ) μ d vd) (hx : VR w (OO B σ μ) μ x v) {out : aS}
  (h : jw P t tx d x σ=some out) (hp : out.pre) : bn P B w σ μ (Builtin.copy_ #[t,tx] ty #[vd,v]) out.val out.st:=by
 unfold jw at h
 split at h
 ·cases h
 rename_i e ht
 split at h
 ·cases h
 rename_i k hk
 split at h
 ·rename_i m news id off n sz hsrc
  split at h
  ·rename_i cells ho
   split at h
   ·rename_i hsz
    subst hsz
    cases h
    obtain ⟨h1,h2,h3,h4⟩:=hp
    simp only [VR] at hd
    obtain ⟨L,cap,hL,rfl,hcap,hroom⟩:=hd
    have hmn1 : Nat.min m n≤m:=Nat.min_le_left _ _
    have hmn2 : Nat.min m n≤n:=Nat.min_le_right _ _
    obtain ⟨vs,hlen,hfirst,hvs⟩:=sS hS hx hsrc h1 hmn1
    obtain ⟨⟨c,ce,hh,hsize⟩,hclen,hc⟩:=hS.obj id _ L ho hL
    have hone:=cells_one hvs (Ae h3 _)
    have hmul : Nat.min m n*sz≤n*sz:=Nat.mul_le_mul_right _ hmn2
    have hmul' : Nat.min m n*sz≤m*sz:=Nat.mul_le_mul_right _ hmn1
    have hvl : vs.length=Nat.min m n*sz:=by rw [hvs.length];simp only [List.length_take];omega
    have hnl : (news.take (Nat.min m n*sz)).length=Nat.min m n*sz:=by simp only [List.length_take];omega
    have hst:=run_storeCells_cells (P:=P) L.block (L.base+off) vs 0 w (fun j hj=>by
      have : L.base+off+0+j < c.size:=by omega
      simp [World.cell?,hh];omega) (fun j hj=>by simp [World.frozen?,hh]) hone
    simp only [Nat.add_zero] at hst
    have hrun : (Builtin.copy_ #[t,tx] ty #[.slice (some ⟨L.block,L.base+off,none⟩) n cap,v]).run P w=.ok (.int .i64 (Nat.min m n : Nat)) (w.setCells L.block (L.base+off) vs):=by
     simp [Builtin.copy_,run_underlying (dJ ht),hlen,bP hk,hfirst,hst,goInt]
    obtain ⟨f1,f2,f3,f4,f5⟩:=fO w L.block (L.base+off) vs
    have hfit : off+(news.take (Nat.min m n*sz)).length≤cells.length:=by omega
    have:=hS.turn ho rfl hL (o':=.own (splice cells off (news.take (Nat.min m n*sz)))) rfl f2 f1 f3 f4 f5 (fun hE=>by
     obtain ⟨c',g1,g2⟩:=fH w L.block vs (L.base+off) c ce hh
     exact ⟨⟨c',ce,g1,by rw [g2];exact hsize⟩,by rw [mJ hfit];exact hclen,wR hE hc hvs hfit⟩)
    exact ⟨_,_,_,this.2,this.1,hrun,by simp [VR]⟩
   ·cases h
  ·cases h
 ·rename_i m news hsrc
  cases h
  simp only [VR] at hd
  subst hd
  obtain ⟨vs,hlen,hfirst,hvs⟩:=sS hS hx hsrc hp (Nat.zero_le _)
  refine .same hS (v:=.int .i64 0) ?_ (by simp [VR])
  simp [Builtin.copy_,run_underlying (dJ ht),hlen,bP hk,hfirst,goInt]
 ·rename_i m news cells' tight' hsrc
  cases h
  simp only [VR] at hd
  obtain ⟨vs,hlen,hfirst,hvs⟩:=sS hS hx hsrc hp (Nat.zero_le _)
  have hvl : vs=[]:=List.eq_nil_of_length_eq_zero (by rw [hvs.length];simp)
  subst hvl
  rcases hd with ⟨b,o,cap,rfl,_⟩ | ⟨_,_,a,rfl⟩
  rotate_left
  ·refine .same hS (v:=.int .i64 0) ?_ (by simp [VR])
   simp [Builtin.copy_,run_underlying (dJ ht),hlen,bP hk,hfirst,goInt,storeCells]
  refine .same hS (v:=.int .i64 0) ?_ (by simp [VR])
  simp [Builtin.copy_,run_underlying (dJ ht),hlen,bP hk,hfirst,goInt,storeCells]
 ·cases h
theorem zV (hS : SR B w σ μ) {t : TypeId} {l c : VV} {vl vc : Value} (hl : VR w (OO B σ μ) μ l vl) (hc : VR w (OO B σ μ) μ c vc) {out : aS}
  (h : gy P t l c σ=some out) (hp : out.pre) : bn P B w σ μ (Instr.makeSlice t vl vc) out.val out.st:=by
 unfold gy at h
 split at h
 ·cases h
 rename_i e ht
 split at h
 ·rename_i k by_ z kl l kc c hk hby hz
  cases h
  obtain ⟨h1,h2,h3,h4,h5,h6⟩:=hp
  simp only [VR] at hl hc
  subst hl hc
  unfold eH at hk
  unfold Yr at hby
  unfold bG at hz
  simp only [Option.map_eq_some_iff,Option.bind_eq_some_iff] at hk hby hz
  obtain ⟨i,hi,rfl⟩:=hk
  obtain ⟨i',hi',rfl⟩:=hby
  obtain ⟨i'',hi'',zv,hzv,rfl⟩:=hz
  rw [hi] at hi' hi''
  cases hi'
  cases hi''
  have hzs : zv.cells.size=i.size:=by simpa using h5
  have hrun:=run_make (P:=P) w t e i zv (dJ ht) hi hzv kl kc l c h1 h2 h4 (by omega)
  have hzr : bI w (OO B σ μ) μ (zv.cells.toList.map rP) zv.cells.toList:=jO _
  generalize hcs : madeCells zv.cells (c.toNat*i.size)=cs at hrun
  have hcsz : cs.size=c.toNat*i.size:=by rw [← hcs];exact size_madeCells _ _
  have hF0 : Frame w σ μ (w.alloc (.cells cs e)) σ μ:=.still (by simp) (fun b hb=>heap_alloc w _ hb) rfl rfl rfl
  have hrep:=Jg hzr (by rw [h5];exact h6) l.toNat
  rw [h5] at hrep
  have hlc : l.toNat*i.size≤c.toNat*i.size:=Nat.mul_le_mul_right _ (by omega)
  have hrange : (w.alloc (.cells cs e)).rangeAt w.heap.size 0 ((Array.range (l.toNat*i.size)).map (zv.cells[· % zv.cells.size]!)).toList:=by
   intro j u hu
   have hj : j < l.toNat*i.size:=by have:=(List.getElem?_eq_some_iff.1 hu).1;simpa using this
   simp only [World.cell?,heap_alloc_new',Nat.zero_add]
   rw [← hcs]
   rw [Array.getElem?_toList,Array.getElem?_map] at hu
   have hj' : j < c.toNat*i.size:=by omega
   simp only [madeCells,Option.isSome_none,Bool.false_eq_true,if_false,Array.getElem?_map]
   rw [← hu]
   simp [hj,hj']
  have hE : Ext w (OO B σ μ) μ (w.alloc (.cells cs e)) (OO B (σ++[.own (rep (zv.cells.toList.map rP) l.toNat)]) (μ++[⟨w.heap.size,0,c.toNat*i.size⟩])) (μ++[⟨w.heap.size,0,c.toNat*i.size⟩]):=by
   refine ⟨fun b o v _ hv=>by rw [cell_of_heap (heap_alloc w _ (cell_lt hv))];exact hv,fun b hb=>?_,List.prefix_append _ _⟩
   rcases hb with hb | ⟨id,L,o,h1,rfl,h3,h4⟩
   ·exact .inl (.inl hb)
   ·rcases aP h1 with h1 | ⟨h1,rfl⟩
    ·rcases aP h3 with h3 | ⟨h3,rfl⟩
     ·exact .inl (.inr ⟨id,L,o,h1,rfl,h3,h4⟩)
     ·have:=(List.getElem?_eq_some_iff.1 h1).1;rw [hS.len] at this;omega
    ·exact .inr (Nat.le_refl _)
  have:=hS.snoc hF0 (fun b hb=>heap_alloc w _ hb) (o:=.own (rep (zv.cells.toList.map rP) l.toNat)) (L:=⟨w.heap.size,0,c.toNat*i.size⟩) (Nat.le_refl _)
   ⟨⟨cs,e,heap_alloc_new' w _,by simp [hcsz]⟩,by rw [oH,h5];exact hlc,VC.uG (bI.ext hE _ _ hrep) hrange⟩
  refine ⟨_,_,_,this.2,this.1,hrun, ?_⟩
  simp only [VR]
  exact ⟨⟨w.heap.size,0,c.toNat*i.size⟩,c.toNat,by rw [← hS.len];simp,by simp,by omega,by simp⟩
 ·cases h
theorem Aq {t : TypeId} {z : List VV} (hz : bG P t=some z) : ∃ zv,(zeroValue t).run P w=.ok zv w∧∀ O,bI w O μ z zv.cells.toList:=by
 unfold bG at hz
 simp only [Option.bind_eq_some_iff,Option.map_eq_some_iff] at hz
 obtain ⟨i,hi,zv,hzv,rfl⟩:=hz
 exact ⟨zv,by simp [zeroValue,typeInfo,hi,hzv],fun O=>jO _⟩
end
end Go.V
namespace Go.V
open Go
section
variable {P : Program} {G : Nat→Option (List VV)} {B : Nat→Prop} {w : World} {σ : Store} {μ : List Loc}
theorem DW (hS : SR B w σ μ) {x : VV} {v : Value} (hx : VR w (OO B σ μ) μ x v) {xt at_ : TypeId} {c : Bool} {out : aS} (h : iP P x at_ c σ=some out) : bn P B w σ μ (Instr.typeAssert v xt at_ c) out.val out.st:=by
 have hu : Kz P at_=some false→∃ d,P.underlying at_=some d∧∀ ms,d≠.interface ms:=by
  intro ht
  unfold Kz at ht
  simp only [Option.map_eq_some_iff] at ht
  obtain ⟨d,hd,hf⟩:=ht
  exact ⟨d,hd,by rintro ms rfl;simp at hf⟩
 unfold iP at h
 split at h
 ·rename_i t y ht
  obtain ⟨d,hd,hni⟩:=hu ht
  simp only [VR] at hx
  obtain ⟨u,rfl,hr⟩:=hx
  split at h
  ·rename_i he
   cases h
   subst he
   refine .same hS (v:=if c then .tuple #[u,.bool true] else u) ?_ ?_
   ·cases d<;>first
     | exact absurd rfl (hni _)
     | (cases c<;>simp [Instr.typeAssert,run_underlying hd])
   ·cases c
    ·exact hr
    ·simp only [if_true,VR]
     refine ⟨_,rfl, ?_⟩
     simp only [bI]
     exact ⟨u,[.bool true],rfl,hr,.bool true,[],rfl,by simp [VR],rfl⟩
  ·rename_i hne
   split at h
   ·rename_i hc
    simp only [Bool.and_eq_true] at hc
    obtain ⟨rfl,hz⟩:=hc
    cases h
    obtain ⟨z,hz⟩:=Option.isSome_iff_exists.1 hz
    obtain ⟨zv,hzr,_⟩:=Aq (P:=P) (w:=w) (μ:=μ) hz
    refine .same hS (v:=.tuple #[zv,.bool false]) ?_ ?_
    ·cases d<;>first
      | exact absurd rfl (hni _)
      | simp [Instr.typeAssert,run_underlying hd,hne,hzr]
    ·simp only [VR]
     refine ⟨_,rfl, ?_⟩
     simp only [bI]
     exact ⟨zv,[.bool false],rfl,by simp [VR],.bool false,[],rfl,by simp [VR],rfl⟩
   ·cases h
 ·rename_i ht
  obtain ⟨d,hd,hni⟩:=hu ht
  simp only [VR] at hx
  subst hx
  split at h
  ·rename_i hc
   simp only [Bool.and_eq_true] at hc
   obtain ⟨rfl,hz⟩:=hc
   cases h
   obtain ⟨z,hz⟩:=Option.isSome_iff_exists.1 hz
   obtain ⟨zv,hzr,_⟩:=Aq (P:=P) (w:=w) (μ:=μ) hz
   refine .same hS (v:=.tuple #[zv,.bool false]) ?_ ?_
   ·cases d<;>first
     | exact absurd rfl (hni _)
     | simp [Instr.typeAssert,run_underlying hd,hzr]
   ·simp only [VR]
    refine ⟨_,rfl, ?_⟩
    simp only [bI]
    exact ⟨zv,[.bool false],rfl,by simp [VR],.bool false,[],rfl,by simp [VR],rfl⟩
  ·cases h
 ·cases h
theorem Ar (hS : SR B w σ μ) {mx : Bool} {x y r : VV} {v u : Value} (hx : VR w (OO B σ μ) μ x v) (hy : VR w (OO B σ μ) μ y u) (h : pU mx x y=some r) {ts : Array TypeId} {ty : TypeId} :
  bn P B w σ μ (if mx then Builtin.max_ ts ty #[v,u] else Builtin.min_ ts ty #[v,u]) r σ:=by
 unfold pU at h
 split at h
 ·rename_i k a k' b
  cases h
  simp only [VR] at hx hy
  subst hx hy
  cases mx
  ·exact .same hS (v:=.int k (if b < a then b else a)) (by simp [Builtin.min_,Builtin.min2]) (by simp [VR])
  ·exact .same hS (v:=.int k (if b > a then b else a)) (by simp [Builtin.max_,Builtin.max2]) (by simp [VR])
 ·cases h
theorem AZ {t e : TypeId} (h : uV P t=some e) : ∃ k,P.underlying t=some (.map k e)∧P.underlying k=some .string:=by
 unfold uV at h
 split at h
 ·rename_i k e' hu
  split at h
  ·rename_i hk
   cases h
   exact ⟨k,hu,eu hk⟩
  ·cases h
 ·cases h
theorem TW (a b : List UInt8) : ((⟨a.toArray⟩ : ByteArray) == ⟨b.toArray⟩)=(a == b):=by
 rw [beq_toListBytes]
 simp
def J7 (w : World) (O : Nat→Prop) (μ : List Loc) (es : List (List UInt8 × VV)) (ents : List MapEntry) : Prop :=
 ents.length=es.length∧∀ (i : Nat) (k : List UInt8) (x : VV) (e : MapEntry),es[i]?=some (k,x)→ents[i]?=some e→e.key=.string ⟨k.toArray⟩∧VR w O μ x e.val
theorem nR {O : Nat→Prop} (s : List UInt8) : ∀ (es : List (List UInt8 × VV)) (ents : List MapEntry) (i : Nat),J7 w O μ es ents →
  (ig es s=none→Instr.findNow .string (.string ⟨s.toArray⟩) ents i=some none∧∀ v,iL es s v=es++[(s,v)]) ∧
  (∀ x,ig es s=some x→∃ j val,Instr.findNow .string (.string ⟨s.toArray⟩) ents i=some (some (i+j,val))∧VR w O μ x val∧j < es.length∧(∃ y,es[j]?=some (s,y))∧∀ v,iL es s v=es.set j (s,v))
 | [],ents,i,h=>by
  have h1:=h.1
  cases ents with
  | nil=>exact ⟨fun _=>⟨rfl,fun _=>rfl⟩,fun x hx=>by simp [ig] at hx⟩
  | cons e l=>simp at h1
 | (k,y)::es,ents,i,h=>by
  cases ents with
  | nil=>have h1:=h.1;simp at h1
  | cons e l =>
   obtain ⟨hk,hv⟩:=h.2 0 k y e rfl rfl
   have hrest : J7 w O μ es l:=⟨by have:=h.1;simpa using this,fun j k x e' h1 h2=>h.2 (j+1) k x e' (by simpa using h1) (by simpa using h2)⟩
   have ih:=nR s es l (i+1) hrest
   simp only [ig,iL,Instr.findNow,hk,Instr.sameNow,TW]
   by_cases hq : (s == k)=true
   ·rw [hq]
    have hsk : s=k:=by simpa using hq
    subst hsk
    refine ⟨fun hn=>by simp at hn,fun x hx=>?_⟩
    simp at hx
    subst hx
    exact ⟨0,e.val,by simp,hv,by simp,⟨y,rfl⟩,fun v=>by simp⟩
   ·have hq' : (s == k)=false:=by simpa using hq
    rw [hq']
    simp only [Bool.false_eq_true,if_false]
    refine ⟨fun hn=>?_,fun x hx=>?_⟩
    ·obtain ⟨h1,h2⟩:=ih.1 hn
     exact ⟨h1,fun v=>by rw [h2];rfl⟩
    ·obtain ⟨j,val,h1,h2,h3,⟨z,h4⟩,h5⟩:=ih.2 x hx
     exact ⟨j+1,val,by rw [h1];congr 3;omega,h2,by simp;omega,⟨z,by simpa using h4⟩,fun v=>by rw [h5];simp⟩
theorem kL {k : TypeId} (hk : P.underlying k=some .string) (e : Bool) (s : ByteArray) : (Instr.checkKey e 10000 k (.string s)).run P w=.ok () w:=by
 have key : ∀ n,(Instr.checkKey e (n+1) k (.string s)).run P w=.ok () w:=fun n=>by simp [Instr.checkKey,run_underlying hk]
 exact key 9999
theorem Fv (hS : SR B w σ μ) {t e : TypeId} {id : Nat} {s : List UInt8} {es : List (List UInt8 × VV)} {z : VV} {vm vk : Value} {c : Bool} (ht : uV P t=some e) (hm : VR w (OO B σ μ) μ (.mmap id) vm) (hk : VR w (OO B σ μ) μ (.str s) vk)
  (ho : σ[id]?=some (.mp es)) (hz : yH P e=some z) : bn P B w σ μ (Instr.lookup t vm vk c) (if c then .tup [(ig es s).getD z,.bool (ig es s).isSome] else (ig es s).getD z) σ:=by
 obtain ⟨k,hu,hks⟩:=AZ ht
 simp only [VR] at hm hk
 obtain ⟨L,hL,rfl⟩:=hm
 subst hk
 obtain ⟨ents,clock,h1,h2,h3⟩:=hS.obj id _ L ho hL
 have hent : J7 w (OO B σ μ) μ es ents.toList:=⟨by simpa using h2,fun i k x e a b=>h3 i k x e a (by simpa using b)⟩
 obtain ⟨hn,hs⟩:=nR s es ents.toList 0 hent
 have hzv : ∃ zv,(zeroValue e).run P w=.ok zv w∧VR w (OO B σ μ) μ z zv:=by
  unfold yH at hz
  split at hz
  ·cases hz
  ·rename_i v _ hv
   simp only [Option.bind_eq_some_iff] at hv
   obtain ⟨i,hi,hzv⟩:=hv
   cases hz
   exact ⟨v,by simp [zeroValue,typeInfo,hi,hzv],xO v⟩
  ·cases hz
 obtain ⟨zv,hzr,hzvr⟩:=hzv
 have hget : (getObj L.block).run P w=.ok (.map ents clock) w:=by simp [getObj,Sem.run,h1]
 cases hg : ig es s with
 | none =>
  obtain ⟨hf,_⟩:=hn hg
  refine .same hS (v:=if c then .tuple #[zv,.bool false] else zv) ?_ ?_
  ·cases c<;>simp [Instr.lookup,run_underlying hu,hget,kL hks,Instr.findKey,run_underlying hks,hf,hzr]
  ·cases c
   ·exact hzvr
   ·simp only [if_true,VR]
    refine ⟨_,rfl, ?_⟩
    simp only [bI]
    exact ⟨zv,[.bool false],rfl,hzvr,.bool false,[],rfl,by simp [VR],rfl⟩
 | some x =>
  obtain ⟨j,val,hf,hv,_⟩:=hs x hg
  refine .same hS (v:=if c then .tuple #[val,.bool true] else val) ?_ ?_
  ·cases c<;>simp [Instr.lookup,run_underlying hu,hget,kL hks,Instr.findKey,run_underlying hks,hf]
  ·cases c
   ·exact hv
   ·simp only [if_true,VR]
    refine ⟨_,rfl, ?_⟩
    simp only [bI]
    exact ⟨val,[.bool true],rfl,hv,.bool true,[],rfl,by simp [VR],rfl⟩
theorem Zu (w : World) (r : Nat) (o : Go.Obj) : (∀ b,b < w.heap.size→b≠r→({ w with heap:=w.heap.setIfInBounds r o } : World).heap[b]?=w.heap[b]?)∧(r < w.heap.size→({ w with heap:=w.heap.setIfInBounds r o } : World).heap[r]?=some o) ∧
  ({ w with heap:=w.heap.setIfInBounds r o } : World).heap.size=w.heap.size:=by
 refine ⟨fun b _ hne=>?_,fun h=>?_,by simp⟩
 ·simp only
  rw [Array.getElem?_setIfInBounds_ne (fun e=>hne e.symm)]
 ·simp only
  rw [Array.getElem?_setIfInBounds_self_of_lt h]
theorem yC (hS : SR B w σ μ) {t e : TypeId} {id : Nat} {s : List UInt8} {es : List (List UInt8 × VV)} {x : VV} {vm vk v : Value} (ht : uV P t=some e) (hm : VR w (OO B σ μ) μ (.mmap id) vm) (hk : VR w (OO B σ μ) μ (.str s) vk)
  (hx : VR w (OO B σ μ) μ x v) (ho : σ[id]?=some (.mp es)) : ∃ w',(Instr.mapUpdate t vm vk v).run P w=.ok () w'∧Frame w σ μ w' (σ.set id (.mp (iL es s x))) μ∧SR B w' (σ.set id (.mp (iL es s x))) μ:=by
 obtain ⟨k,hu,hks⟩:=AZ ht
 simp only [VR] at hm hk
 obtain ⟨L,hL,rfl⟩:=hm
 subst hk
 obtain ⟨ents,clock,h1,h2,h3⟩:=hS.obj id _ L ho hL
 have hent : J7 w (OO B σ μ) μ es ents.toList:=⟨by simpa using h2,fun i k x e a b=>h3 i k x e a (by simpa using b)⟩
 obtain ⟨hn,hs⟩:=nR s es ents.toList 0 hent
 have hget : (getObj L.block).run P w=.ok (.map ents clock) w:=by simp [getObj,Sem.run,h1]
 have hlt : L.block < w.heap.size:=(Array.getElem?_eq_some_iff.1 h1).1
 have finish : ∀ (ents' : Array MapEntry) (clock' : Nat),(Instr.mapUpdate t (.map (some L.block)) (.string ⟨s.toArray⟩) v).run P w=.ok () { w with heap:=w.heap.setIfInBounds L.block (.map ents' clock') } →
   (∀ O',J7 w O' μ es ents.toList→VR w O' μ x v→J7 w O' μ (iL es s x) ents'.toList) →
   ∃ w',(Instr.mapUpdate t (.map (some L.block)) (.string ⟨s.toArray⟩) v).run P w=.ok () w'∧Frame w σ μ w' (σ.set id (.mp (iL es s x))) μ∧SR B w' (σ.set id (.mp (iL es s x))) μ:=by
  intro ents' clock' hrun hnew
  obtain ⟨f1,f2,f3⟩:=Zu w L.block (.map ents' clock')
  have hE':=hnew _ hent hx
  have:=hS.turn ho rfl hL (o':=.mp (iL es s x)) rfl f1 f3 rfl rfl rfl (fun hE=>by
   refine ⟨ents',clock',f2 hlt,by simpa using hE'.1,fun i k y e' a b=>?_⟩
   obtain ⟨g1,g2⟩:=hE'.2 i k y e' a (by simpa using b)
   exact ⟨g1,VR.ext hE _ _ g2⟩)
  exact ⟨_,hrun,this.2,this.1⟩
 cases hg : ig es s with
 | none =>
  obtain ⟨hf,hset⟩:=hn hg
  refine finish (ents.push { key:=.string ⟨s.toArray⟩,val:=v,born:=clock }) (clock+1) ?_ (fun O' ha hb=>?_)
  ·simp [Instr.mapUpdate,run_underlying hu,hget,kL hks,Instr.findKey,run_underlying hks,hf,setObj,Sem.run,h1]
  ·rw [hset]
   refine ⟨by simp [ha.1],fun i k y e' p q=>?_⟩
   rw [Array.toList_push] at q
   rcases aP p with p | ⟨p1,p2⟩
   ·rcases aP q with q | ⟨q1,_⟩
    ·exact ha.2 i k y e' p q
    ·have:=(List.getElem?_eq_some_iff.1 p).1;rw [ha.1] at q1;omega
   ·rcases aP q with q | ⟨_,q2⟩
    ·have:=(List.getElem?_eq_some_iff.1 q).1;rw [ha.1] at this;omega
    ·cases p2;subst q2;exact ⟨rfl,hb⟩
 | some y =>
  obtain ⟨j,val,hf,hv,hj,⟨y',hy'⟩,hset⟩:=hs y hg
  have hje : j < ents.size:=by omega
  refine finish (ents.modify j fun e=>{ e with key:=.string ⟨s.toArray⟩,val:=v }) clock ?_ (fun O' ha hb=>?_)
  ·have hkey : ents[j].key=.string ⟨s.toArray⟩:=(h3 j s y' ents[j] hy' (by simp [hje])).1
   have hsame : Instr.sameBits 10000 (.string ⟨s.toArray⟩) (.string ⟨s.toArray⟩)=true:=by
    have key : ∀ n,Instr.sameBits n (.string ⟨s.toArray⟩) (.string ⟨s.toArray⟩)=true:=fun n=>by cases n<;>simp [Instr.sameBits,beq_toListBytes]
    exact key 10000
   simp [Instr.mapUpdate,run_underlying hu,hget,kL hks,Instr.findKey,run_underlying hks,hf,setObj,Sem.run,h1,hje,hkey,Instr.keyThatStays,hsame]
  ·rw [hset]
   refine ⟨by simp [ha.1],fun i k z e' p q=>?_⟩
   have q' : (ents.modify j fun e=>{ e with key:=.string ⟨s.toArray⟩,val:=v })[i]?=some e':=by rw [Array.getElem?_toList] at q;exact q
   rw [Array.getElem?_modify] at q'
   rcases getElem?_set' p with ⟨rfl,p2,_⟩ | ⟨hne,p⟩
   ·rw [if_pos rfl] at q'
    cases p2
    simp [hje] at q'
    subst q'
    exact ⟨rfl,hb⟩
   ·rw [if_neg (fun e=>hne e.symm)] at q'
    exact ha.2 i k z e' p (by simpa using q')
end
end Go.V
