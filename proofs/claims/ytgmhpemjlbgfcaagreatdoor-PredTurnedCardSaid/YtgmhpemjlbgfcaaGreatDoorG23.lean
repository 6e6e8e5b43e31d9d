/- Texts F42. -/
import Derived.Test.YtgmhpemjlbgfcaaGreatDoorG21
import Derived.Test.YtgmhpemjlbgfcaaGreatDoorG22
set_option linter.unusedVariables false
set_option linter.unusedSimpArgs false
namespace Go.V
open Go.Proofs Go.Sort
set_option maxRecDepth 100000
theorem Gs {B : Nat→Prop} {w : World} {σ : Store} {μ : List Loc} (hS : SR B w σ μ) (os : Array Go.Obj) : SR B (grow w os) σ μ∧Frame w σ μ (grow w os) σ μ:=by
 have hh : ∀ b,b < w.heap.size→(grow w os).heap[b]?=w.heap[b]?:=fun b hb=>heap_grow_old w os hb
 exact ⟨hS.still hh (by simp),.still (by simp) hh rfl rfl rfl⟩
theorem flat_get {k : Nat} {xs : List (List VV)} (h : dh k xs) {t r : Nat} (ht : t < xs.length) (hr : r < k) : xs.flatten[t*k+r]?=xs[t][r]?:=by
 have:=h.og ht
 rw [← this,List.getElem?_take_of_lt hr,List.getElem?_drop]
theorem Ah {ps : List iE} (h : ∀ p ∈ ps,p.2.ok) : dh 12 (ps.map au):=by
 refine ⟨fun x hx=>?_,fun x hx=>?_,fun x hx=>?_⟩<;>obtain ⟨p,hp,rfl⟩:=List.mem_map.1 hx
 ·exact (mM (h p hp)).len _ (by simp)
 ·exact (mM (h p hp)).pure _ (by simp)
 ·exact (mM (h p hp)).cell _ (by simp)
def CP (k : Bs) : ByteArray:=⟨k.toArray⟩
theorem Bd (k : Bs) : (CP k).toList=k:=by
 simp [CP]
theorem QV (x y : Bs) : decide (Srt.LY (CP x) (CP y) < 0)=bl x y:=by
 unfold Srt.LY
 rw [Bd,Bd]
 cases h : bl x y with
 | true=>unfold bl at h;rw [if_pos h];rfl
 | false =>
  unfold bl at h
  rw [if_neg (by rw [h];decide)]
  split<;>rfl
theorem Ph {α : Type} : ∀ (l : List α),l.length=12→∃ a b c d e f g h i j k m,l=[a,b,c,d,e,f,g,h,i,j,k,m]
 | [a,b,c,d,e,f,g,h,i,j,k,m],_=>⟨a,b,c,d,e,f,g,h,i,j,k,m,rfl⟩
theorem Uo (id n : Nat) (ps : List iE) (hok : ∀ p ∈ ps,p.2.ok) (σ : Store) (hσ : σ[id]?=some (.own (ps.map au).flatten)) (hn : n=ps.length) (h0 : 0 < n) (hbig : n≤10000000) :
  CV Tryz.prog G0 186 [.bZ id 0 n 12,.fn (.func 187) [] []] σ fun r σ'=>r=.ret (.tup [])∧∃ qs : List iE,qs.Perm ps∧(qs.Pairwise fun p q=>bl q.1 p.1=false)∧σ'=σ.set id (.own (qs.map au).flatten):=by
 intro B w μ vs hS hG hv
 simp only [bI] at hv
 obtain ⟨vl,l1,hl1,h1,vf,l2,rfl,h2,rfl⟩:=hv
 have hvs : vs=#[vl,vf]:=by apply Array.ext';simpa using hl1
 subst hvs
 simp only [VR] at h1 h2
 obtain ⟨L,cap,hL,rfl,hcap,hroom⟩:=h1
 obtain ⟨a,cc,rfl,_,ha,hcc⟩:=h2
 simp only [bI] at ha hcc
 have ha : a=#[]:=by apply Array.ext';simpa using ha
 have hcc : cc=#[]:=by apply Array.ext';simpa using hcc
 subst ha hcc
 have hob:=hS.obj id _ L hσ hL
 simp only [xG] at hob
 obtain ⟨⟨c,e,hh,hsize⟩,hclen,hc⟩:=hob
 have hB:=Ah hok
 have hfl : (ps.map au).flatten.length=n*12:=by rw [hB.flat,List.length_map,hn]
 rw [hfl] at hclen
 let cl : Nat→Nat:=fun i=>if i < n then i else 0
 have hcl : ∀ i,cl i < n:=fun i=>by show (if i < n then i else 0) < n;split<;>omega
 have hcl' : ∀ i,i < n→cl i=i:=fun i hi=>by show (if i < n then i else 0)=i;rw [if_pos hi]
 let P : Nat→iE:=fun i=>ps[cl i]'(by rw [← hn];exact hcl i)
 let enc : Nat→List Value:=fun i=>(List.range 12).map fun r=>c[L.base+(cl i*12+r)]!
 have hk : ∀ i,(enc i).length=12:=fun i=>by simp [enc]
 have henc : ∀ i r,r < 12→(enc i)[r]! = c[L.base+(cl i*12+r)]! := fun i r hr=>by
  rw [List.getElem!_eq_getElem?_getD]
  simp [enc,hr]
 rw [iU] at hc
 have hcells : ∀ i r x,r < 12→(au (P i))[r]?=some x→VR w (OO B σ μ) μ x (c[L.base+(cl i*12+r)]!):=by
  intro i r x hr hx
  have hi:=hcl i
  have hx' : (ps.map au).flatten[cl i*12+r]?=some x:=by
   rw [flat_get hB (t:=cl i) (by simp;omega) hr]
   simpa [P] using hx
  obtain ⟨v,h1,h2⟩:=hc _ _ hx'
  have e1 : c[L.base+(cl i*12+r)]?=some v:=by simpa [World.cell?,hh] using h1
  rw [Array.getElem!_eq_getD,Array.getD_eq_getD_getElem?,e1]
  exact h2
 have hpl : ∀ i r,r < 12→∃ x,(au (P i))[r]?=some x∧x.aC=true:=by
  intro i r hr
  have hm : P i ∈ ps:=List.getElem_mem _
  have h1:=(mM (hok _ hm)).len (au (P i)) (by simp)
  have h2:=(mM (hok _ hm)).cell (au (P i)) (by simp)
  have hr' : r < (au (P i)).length:=by rw [h1];exact hr
  refine ⟨(au (P i))[r],by simp [hr'], ?_⟩
  unfold aQ at h2
  exact List.all_eq_true.1 h2 _ (List.getElem_mem _)
 have hone : ∀ x,∀ v ∈ enc x,v.oneCell'=true:=by
  intro x v hv
  simp only [enc,List.mem_map,List.mem_range] at hv
  obtain ⟨r,hr,rfl⟩:=hv
  obtain ⟨y,hy,hyc⟩:=hpl x r hr
  exact sO (hcells x r y hr hy) hyc
 have hkey : ∀ i,∃ l,enc i=.string (CP (P i).1)::l:=by
  intro i
  have h1:=hcells i 0 _ (by omega) (show (au (P i))[0]?=some (.str (P i).1) from rfl)
  simp only [VR] at h1
  refine ⟨(enc i).tail, ?_⟩
  have h2:=henc i 0 (by omega)
  rw [h1] at h2
  have h3:=hk i
  match he : enc i,h3 with
  | v::l,_ =>
   rw [he] at h2
   have : v=.string ⟨(P i).1.toArray⟩:=by simpa using h2
   rw [this];rfl
 let cf : Nat→Nat→Int:=fun i j=>Srt.LY (CP (P i).1) (CP (P j).1)
 have hlt : ∀ i j,ltOf cf i j=bl (P i).1 (P j).1:=fun i j=>QV _ _
 have hO : SWO (ltOf cf):=by
  refine ⟨fun x=>by rw [hlt];exact jA _,fun x y z h1 h2=>by rw [hlt] at *;exact kE _ _ _ h1 h2,fun x y z h1 h2=>?_⟩
  rw [hlt] at *
  cases h3 : bl (P x).1 (P z).1 with
  | false=>rfl
  | true =>
   cases h4 : bl (P y).1 (P x).1 with
   | true=>rw [kE _ _ _ h4 h3] at h2;cases h2
   | false=>rw [zO _ _ h1 h4] at h3;rw [h3] at h2;cases h2
 have eg : ∀ args w,(callFunc 187 args).run Tryz.prog w=.ok (.enter 187 args) w:=enters_of Tryz.func187 (by kernel_rfl) rfl
 let d : Array Nat:=(List.range n).toArray
 have hd : d.size=n:=by simp [d]
 have hcmp : CmpLays Tryz.prog 187 #[] enc 12 cf L.block (L.base+0) d.size w:=by
  intro m os dk _ x y
  obtain ⟨lx,hx⟩:=hkey x
  obtain ⟨ly,hy⟩:=hkey y
  have h1:=hk x
  have h2:=hk y
  obtain ⟨a0,a1,a2,a3,a4,a5,a6,a7,a8,a9,a10,a11,ea⟩:=Ph _ h1
  obtain ⟨b0,b1,b2,b3,b4,b5,b6,b7,b8,b9,b10,b11,eb⟩:=Ph _ h2
  rw [ea] at hx
  rw [eb] at hy
  have hx0 : a0=.string (CP (P x).1):=by simpa using (List.cons.inj hx).1
  have hy0 : b0=.string (CP (P y).1):=by simpa using (List.cons.inj hy).1
  rw [ea,eb,hx0,hy0]
  exact Srt.UR _ _ a1 a2 a3 a4 a5 a6 a7 a8 a9 a10 a11 b1 b2 b3 b4 b5 b6 b7 b8 b9 b10 b11 _
 have hblk : L.block < w.heap.size:=(Array.getElem?_eq_some_iff.1 hh).1
 have hdi : ∀ i,i < n→d[i]! = i:=fun i hi=>by simp [d,hi]
 have hH : HoldsK enc 12 w L.block (L.base+0) d:=by
  intro j hj
  rw [size_flatK,hd] at hj
  have hj1 : j / 12 < n:=by omega
  refine ⟨?_,by simp [World.frozen?,hh]⟩
  rw [get_flatK _ _ _ _ (by rw [hd];exact hj),henc _ _ (Nat.mod_lt _ (by decide)),hdi _ hj1,hcl' _ hj1,show j / 12*12+j % 12=j by omega]
  have : L.base+j < c.size:=by omega
  simp [World.cell?,hh,this]
 have hcon:=AnyQ.slices_SortFunc Tryz.KG 12 Tryz.isAgg216 Tryz.sizeOf216 enc hk hone cf hO 187 #[] L.block (L.base+0) cap d w eg hcmp hH hblk (by rw [hd];omega)
 change Go.Calls Tryz.prog 186 _ _ _ at hcon
 rw [hd] at hcon
 refine (callsIn_wide.2 hcon).mono ?_
 rintro e' w' ⟨rfl,d',m,os,hperm,hsort,rfl⟩
 obtain ⟨hp1,hp2,hp3⟩:=hperm
 have hd' : d'.size=n:=by rw [hp1,hd]
 have hp4 : d'.toList.Perm (List.range n):=by
  have e1 : (d'.extract 0 n).toList=d'.toList:=by simp [← hd']
  have e2 : (d.extract 0 n).toList=List.range n:=by simp [d]
  rwa [e1,e2] at hp3
 have hqp : (d'.toList.map P).Perm ps:=by
  have e1 : (List.range n).map P=ps:=by
   refine List.ext_getElem (by simp [hn]) fun i h1 h2=>?_
   have hi : i < n:=by simpa using h1
   simp only [List.getElem_map,List.getElem_range,P,hcl' i hi]
  have:=hp4.map P
  rwa [e1] at this
 have hqo : ∀ q ∈ d'.toList.map P,q.2.ok:=fun q hq=>hok q (hqp.mem_iff.1 hq)
 have hqB:=Ah hqo
 have hql : (d'.toList.map P).length=n:=by simp [hd']
 have hqfl : ((d'.toList.map P).map au).flatten.length=n*12:=by rw [hqB.flat,List.length_map,hql]
 let w2:=putRowK enc 12 (Go.Sort.ahead w m) L.block (L.base+0) d'
 have hh2 : w2.heap[L.block]?=some (.cells (putCells _root_.id (L.base+0) (flatK enc 12 d') c) e (0,0)):=by
  show (w.heap.modify L.block (onCells (putCells _root_.id (L.base+0) (flatK enc 12 d'))))[L.block]?=_
  rw [Array.getElem?_modify,if_pos rfl,hh]
  rfl
 have hturn:=hS.turn (w':=w2) hσ rfl hL (o':=.own ((d'.toList.map P).map au).flatten) rfl
  (fun b hb hne=>by
   show (w.heap.modify L.block (onCells (putCells _root_.id (L.base+0) (flatK enc 12 d'))))[b]?=_
   rw [Array.getElem?_modify,if_neg (fun h=>hne h.symm)])
  (by show (w.heap.modify _ _).size=_;simp) rfl rfl rfl
  (fun hE=>by
   refine ⟨⟨_,e,hh2,by simp [putCells];exact hsize⟩,by rw [hqfl];exact hclen, ?_⟩
   rw [iU]
   intro i x hx
   have hi : i < n*12:=by rw [← hqfl];exact (List.getElem?_eq_some_iff.1 hx).1
   have ht : i / 12 < n:=by omega
   have hr : i % 12 < 12:=Nat.mod_lt _ (by decide)
   have ht' : i / 12 < d'.size:=by omega
   have hx1 : (au (P d'[i / 12]!))[i % 12]?=some x:=by
    have h1:=flat_get hqB (t:=i / 12) (r:=i % 12) (by simp;omega) hr
    rw [show i / 12*12+i % 12=i by omega,hx] at h1
    rw [h1,getElem!_pos d' _ ht']
    simp
   refine ⟨c[L.base+(cl d'[i / 12]! * 12+i % 12)]!, ?_,VR.ext hE _ _ (hcells _ _ _ hr hx1)⟩
   have hb : L.base+i < c.size:=by omega
   have e3 : (flatK enc 12 d')[i]! = c[L.base+(cl d'[i / 12]! * 12+i % 12)]! := by
    rw [get_flatK _ _ _ _ (by rw [hd'];exact hi),henc _ _ hr]
   have e4 : (putCells _root_.id (L.base+0) (flatK enc 12 d') c)[L.base+i]?=some (c[L.base+(cl d'[i / 12]! * 12+i % 12)]!):=by
    unfold putCells
    rw [Array.getElem?_mapIdx,Array.getElem?_eq_getElem hb,Option.map_some]
    rw [if_pos ⟨by omega,by rw [size_flatK,hd'];omega⟩,show L.base+i-(L.base+0)=i by omega,e3]
    rfl
   simpa [World.cell?,hh2] using e4)
 obtain ⟨s1,f1⟩:=hturn
 obtain ⟨s2,f2⟩:=Gs s1 os
 refine ⟨.ret (.tup []),_,μ,⟨rfl,d'.toList.map P,hqp, ?_,rfl⟩,f1.trans f2,s2,by simp [nG,VR,bI]⟩
 rw [List.pairwise_iff_getElem]
 intro i j hi hj hij
 have hj' : j < n:=by rw [hql] at hj;exact hj
 have:=hsort i j (Nat.zero_le _) hij hj'
 rw [hlt,getElem!_pos d' _ (by omega),getElem!_pos d' _ (by omega)] at this
 simpa using this
end Go.V
