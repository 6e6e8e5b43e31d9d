/- Texts F94 L26 F95. -/
import Derived.Test.YtgmhpemjlbgfcaaGreatDoorG34
import Derived.Test.YtgmhpemjlbgfcaaGreatDoorG36
import Derived.Test.YtgmhpemjlbgfcaaGreatDoorG37
set_option linter.unusedVariables false
set_option linter.unusedSimpArgs false
namespace Go.V
open Go.Proofs
set_option maxRecDepth 100000
def kH (xs : List (List VV)) : VV:=if xs=[] then .nils else .sl xs.length xs.flatten false
theorem jL {k : Nat} {xs : List (List VV)} (h : dh k xs) : dG k (kH xs) xs:=by
 unfold kH
 split
 ·rename_i e;subst e;exact .nil
 ·exact dG.of h rfl rfl
theorem lM {k : Nat} {xs : List (List VV)} (h : dh k xs) : (kH xs).isPure=true:=(jL h).pure
theorem xX {α : Type} {n : Nat} {p : Nat→α→Prop} (h : ∀ i,i < n→∃ x,p i x) : ∃ l : List α,l.length=n∧∀ (i : Nat) (hi : i < l.length),p i l[i]:=by
 induction n with
 | zero=>exact ⟨[],rfl,fun i hi=>absurd hi (Nat.not_lt_zero _)⟩
 | succ n ih =>
  obtain ⟨l,hl,hp⟩:=ih fun i hi=>h i (by omega)
  obtain ⟨x,hx⟩:=h n (by omega)
  refine ⟨l++[x],by simp [hl],fun i hi=>?_⟩
  by_cases h1 : i < l.length
  ·rw [List.getElem_append_left h1];exact hp i h1
  ·have : i=n:=by simp at hi;omega
   subst this
   subst hl
   simpa using hx
theorem DJ : ∀ (l : List (Tr × List VV)),(∀ p ∈ l,kV p.1 p.2)→jl (l.map (·.1)) (l.map (·.2))
 | [],_=>.nil
 | p::l,h=>.cons (h p (by simp)) (DJ l fun q hq=>h q (by simp [hq]))
theorem jZ.cell {k : Nat} {σ : Store} {v : VV} {xs : List (List VV)} (h : jZ k σ v xs) : v.aC=true:=by cases h<;>rfl
theorem jZ.XL {k : Nat} {σ : Store} {v : VV} {xs : List (List VV)} (h : jZ k σ v xs) (hv : xs=[]→v=.nils) (m : Nat) : Go.V.fz (m+1) (σ.map Obj.fr) v=some (kH xs):=by
 unfold kH
 split
 ·rename_i e;rw [hv e];rfl
 ·rename_i e;exact h.fz e m
theorem Jp {α β : Type} (g : α→β) (k : Bs) : ∀ l : List (Bs × α),rF (l.map fun q=>(q.1,g q.2)) k=rF l k
 | []=>rfl
 | p::l=>by simp only [List.map_cons,rF,Jp g k l]
theorem YI (k i : Int) (t : Bs) (keys : List Bs) (items : List Tr) (kv iv : VV) (cs : List (List VV)) (hk : dG 1 kv (keys.map fun b=>[VV.str b])) (hcs : jl items cs) (hi : dG 5 iv cs) (hS : sK 4000 (.node k i t keys items)) (hir : -9223372036854775808≤i∧i≤9223372036854775807)
  (zs : List (T × List VV)) (hzl : zs.length=items.length) (hz : ∀ p ∈ zs,kV p.1.tree p.2∧p.1.yc 4000∧p.1.nd≤20000∧∃ q,p.1.wf q) (ih : ∀ (j : Nat) (h : j < cs.length) (h' : j < zs.length),PV Tryz.prog G0 20 [.agg cs[j]] (.agg zs[j].2))
  (prs : List (Bs × (T × List VV))) (hp1 : k=5∨k=6→prs.length=zs.length) (hp2 : k=5∨k=6→∀ (j : Nat) (h : j < prs.length) (h' : j < zs.length),prs[j].2=zs[j]∧(k=5→keys[j]?=some prs[j].1)∧(k=6→prs[j].1=zs[j].1.key)) (hp3 : k=5∨k=6→(aY prs).length=prs.length)
  (li : List (Bs × (T × List VV))) (hli : li=if k=5∨k=6 then aY prs else zs.map fun p=>([],p)) :
  PV Tryz.prog G0 20 [.agg [.int .i64 k,.int .i64 i,.str t,kv,iv]] (.agg [.int .i64 k,.int .i64 i,.str t,if k=5 then kH (li.map fun q=>[VV.str q.1]) else .nils,kH (li.map (·.2.2))]):=by
 obtain ⟨htl,hkl2,hkl,hil,hSi⟩ : t.length≤4000∧(∀ k ∈ keys,k.length≤4000)∧keys.length≤8050∧items.length≤8000∧∀ x ∈ items,sK 4000 x:=by cases hS;exact ⟨‹_›,‹_›,‹_›,‹_›,‹_›⟩
 have hkp:=hk.pure
 have hip:=hi.pure
 have hkc:=hk.cell
 have hic:=hi.cell
 have hcl:=hcs.len
 have hisl : ∀ {σ},aT Tryz.prog 27 iv σ=okV (.int .i64 cs.length) σ:=by intro σ;rw [hi.aT bK]
 have hzB : ∀ p ∈ zs,dh 5 [p.2]:=fun p hp=>by
  obtain ⟨c1,c2,c3⟩:=(hz p hp).1.cells
  exact ⟨by simpa using c1,by simpa using c2,fun x hx=>by simp at hx;subst hx;exact c3⟩
 have hlz : ∀ q ∈ li,q.2 ∈ zs:=by
  intro q hq
  rw [hli] at hq
  split at hq
  ·rename_i h56
   have:=ni _ q hq
   obtain ⟨j,hj,rfl⟩:=List.getElem_of_mem this
   rw [(hp2 h56 j hj (by have:=hp1 h56;omega)).1]
   exact List.getElem_mem _
  ·obtain ⟨p,hp,rfl⟩:=List.mem_map.1 hq;exact hp
 have blkOf : ∀ m : List (Bs × (T × List VV)),(∀ q ∈ m,q.2 ∈ zs)→dh 5 (m.map (·.2.2)):=fun m hm =>
  ⟨fun c hc=>by obtain ⟨q,hq,rfl⟩:=List.mem_map.1 hc;exact (hzB _ (hm q hq)).len _ (by simp),fun c hc=>by obtain ⟨q,hq,rfl⟩:=List.mem_map.1 hc;exact (hzB _ (hm q hq)).pure _ (by simp),fun c hc=>by obtain ⟨q,hq,rfl⟩:=List.mem_map.1 hc;exact (hzB _ (hm q hq)).cell _ (by simp)⟩
 have hBi:=blkOf li hlz
 have hBk : dh 1 (li.map fun q=>[VV.str q.1]):=wG _
 refine pv e20 (by simp) (by simp only [VV.ak,VV.isPure,hkp,hip];rfl) (by simp only [VV.isPure,VV.ak,lM hBi];split<;>simp [lM hBk,VV.isPure]) ?_
 simp only [go_sem,seval] at hkc
 simp only [go_sem,seval] at hic
 simp only [go_sem,seval,c20,hkc,hic,hisl]
 refine bf (M:=fun ρ τ=>ρ.get 1=.mptr 0 0∧ρ.get 2=.mptr 1 0∧τ[0]?=some (.own [.int .i64 k,.int .i64 i,.str t,kv,iv])∧τ[1]?=some (.own [.int .i64 0,.int .i64 0,.str [],.nils,.nils])∧ρ.get 3=(if k=5∨k=6 then kH (li.map fun q=>[VV.str q.1]) else .nils)∧(k=5∨k=6→ρ.get 4=kH (li.map (·.2.2)))∧(¬ (k=5∨k=6)→jZ 5 τ (ρ.get 4) (li.map (·.2.2))∧(li.map (·.2.2)=[]→ρ.get 4=.nils)∧∀ id o n z,ρ.get 4=.bZ id o n z→2≤id)) ?_ ?_
 ·rintro ρ τ ⟨q1,q2,t0,t1,q3,q4,q4'⟩
  have l1:=(List.getElem?_eq_some_iff.1 t1).1
  have hbi:=(jL hBi).cell
  have hbu:=iq hbi
  have hbc:=cellC hbi
  have hki:=(jL hBk).cell
  have hku:=iq hki
  have hkc':=cellC hki
  simp only [go_sem,seval] at hbi
  simp only [go_sem,seval] at hbu
  simp only [go_sem,seval] at hbc
  simp only [go_sem,seval] at hki
  simp only [go_sem,seval] at hku
  simp only [go_sem,seval] at hkc'
  by_cases h5 : k=5
  ·have b5 : (k == 5)=true:=by simpa using h5
   rw [if_pos (.inl h5)] at q3
   have q4'':=q4 (.inl h5)
   rw [if_pos h5]
   simp only [go_sem,seval,q1,q2,q3,q4'',t0,t1,hkc,hic,b5,bne,Bool.not_true,hbi,hbu,hbc,hki,hku,hkc',List.getElem?_set_self l1]
   exact fin (by simp only [VV.isPure,VV.ak,lM hBi,lM hBk];rfl) rfl
  have b5 : (k == 5)=false:=by simpa using h5
  rw [if_neg h5]
  by_cases h6 : k=6
  ·have q4'':=q4 (.inr h6)
   simp only [go_sem,seval,q1,q2,q4'',t0,t1,hkc,hic,b5,bne,Bool.not_false,hbi,hbu,hbc,List.getElem?_set_self l1]
   exact fin (by simp only [VV.isPure,VV.ak,lM hBi];rfl) rfl
  ·obtain ⟨hG,hnl,hid⟩:=q4' (by omega)
   obtain ⟨w,hw⟩ : ∃ w,w=ρ.get 4:=⟨_,rfl⟩
   rw [← hw] at hG hid hnl
   have g1 : w.aC=true:=hG.cell
   have g2:=iq g1
   have g3:=cellC g1
   simp only [go_sem,seval] at g1
   simp only [go_sem,seval] at g2
   simp only [go_sem,seval] at g3
   simp only [go_sem,seval,q1,q2,← hw,t0,t1,hkc,hic,b5,bne,Bool.not_false,g1,g2,g3,List.getElem?_set_self l1]
   have g7:=(hG.keep (σ':=τ.set 1 (.own [.int .i64 k,.int .i64 i,.str t,.nils,w])) fun id o n z e=>List.getElem?_set_ne (by have:=hid _ _ _ _ e;omega)).XL hnl 0
   refine ⟨_,2,rfl,LJ ?_⟩
   have e0 : ∀ y : VV,y.isPure=true→∀ σ,fz 1 σ y=some y:=fun y h σ=>qY h
   simp only [List.mapM_cons,List.mapM_nil,g7,e0 (.int .i64 k) rfl,e0 (.int .i64 i) rfl,e0 (.str t) rfl,e0 .nils rfl]
   rfl
 refine aF (fun m ρ τ=>∃ (j : Nat) (lj : List (Bs × (T × List VV))),m=cs.length-j∧j≤cs.length∧lj=(if k=5∨k=6 then aY (prs.take j) else (zs.take j).map fun p=>([],p))∧ρ.get 1=.mptr 0 0∧ρ.get 2=.mptr 1 0∧τ[0]?=some (.own [.int .i64 k,.int .i64 i,.str t,kv,iv])∧τ[1]?=some (.own [.int .i64 0,.int .i64 0,.str [],.nils,.nils])∧ρ.get 3=(if k=5∨k=6 then kH (lj.map fun q=>[VV.str q.1]) else .nils)∧(k=5∨k=6→ρ.get 4=kH (lj.map (·.2.2)))∧(¬ (k=5∨k=6)→jZ 5 τ (ρ.get 4) (lj.map (·.2.2))∧(lj.map (·.2.2)=[]→ρ.get 4=.nils)∧∀ id o n z,ρ.get 4=.bZ id o n z→2≤id) ∧
  ρ.get 9=iv∧ρ.get 10=.int .i64 cs.length∧ρ.get 11=.int .i64 j) (n:=cs.length) ?_ ⟨0,[],rfl,by omega,by split<;>simp [aY],rfl,rfl,rfl,rfl,by split<;>rfl,fun _=>rfl,fun _=>⟨.nil,fun _=>rfl,by intro id o n z h;cases h⟩,rfl,rfl,rfl⟩
 rintro m ρ τ ⟨j,lj,rfl,hj,hlj,q1,q2,t0,t1,q3,q4,q4',q9,q10,q11⟩
 simp only [go_sem,seval,q9,q10,q11]
 refine aG (fun hc=>?_) (fun hc=>?_)
 rotate_left
 ·have hc' : j=cs.length:=by simp at hc;omega
  subst hc'
  have : lj=li:=by
   rw [hlj,hli,hcl,← hzl]
   split
   ·rename_i h;rw [← hp1 h,List.take_length]
   ·rw [List.take_length]
  subst this
  simp only [go_sem,seval,q1,q2]
  exact ⟨t0,t1,q3,q4,q4'⟩
 have hc' : j < cs.length:=by simpa using hc
 have hjz : j < zs.length:=by omega
 obtain ⟨tg,hit,a3,a4⟩:=hi.jr hc'
 have x1:=hi.blk.len _ (List.getElem_mem hc')
 have x3 : cs[j].all VV.aC=true:=hi.blk.cell _ (List.getElem_mem hc')
 have x4 : cs[j].take 5=cs[j]:=List.take_of_length_le (by omega)
 have a1 : (0 : Int)≤(j : Int):=by omega
 have a2 : (j : Int) < (cs.length : Int):=by omega
 have a6 : IntKind.i64.wrap ((j : Int)+1)=((j+1 : Nat) : Int):=by rw [iw (by omega)];omega
 have t0' : ∀ υ,(τ++υ)[0]?=some (.own [.int .i64 k,.int .i64 i,.str t,kv,iv]):=fun υ=>by rw [List.getElem?_append_left (List.getElem?_eq_some_iff.1 t0).1];exact t0
 have l1:=(List.getElem?_eq_some_iff.1 t1).1
 have hih:=ih j hc' hjz
 have hzj:=hz _ (List.getElem_mem hjz)
 obtain ⟨y1,y2,y3⟩:=hzj.1.cells
 have y4 : zs[j].2.take 5=zs[j].2:=List.take_of_length_le (by omega)
 have kvP : k=5∨k=6→∃ hjp : j < prs.length,PV Tryz.prog G0 47 [kH (lj.map fun q=>[VV.str q.1]),kH (lj.map (·.2.2)),.str prs[j].1,.agg zs[j].2] (.tup [kH ((aY (prs.take (j+1))).map fun q=>[VV.str q.1]),kH ((aY (prs.take (j+1))).map (·.2.2))]):=by
  intro h56
  rw [if_pos h56] at hlj
  have hjp : j < prs.length:=by have:=hp1 h56;omega
  refine ⟨hjp, ?_⟩
  obtain ⟨f1,f2⟩:=Gw (hp3 h56) hjp
  rw [← hlj] at f1 f2
  have e0:=(hp2 h56 j hjp hjz).1
  have hlz' : ∀ q ∈ lj,q.2 ∈ zs:=by
   intro q hq
   rw [hlj] at hq
   obtain ⟨i',hi',rfl⟩:=List.getElem_of_mem (List.mem_of_mem_take (ni _ q hq))
   rw [(hp2 h56 i' hi' (by have:=hp1 h56;omega)).1]
   exact List.getElem_mem _
  have hkk : ∀ p ∈ lj.map (fun q=>(q.1,q.2.2)),p.1.length≤1000000000:=by
   intro p hp
   obtain ⟨q,hq,rfl⟩:=List.mem_map.1 hp
   rw [hlj] at hq
   obtain ⟨i',hi',rfl⟩:=List.getElem_of_mem (List.mem_of_mem_take (ni _ q hq))
   obtain ⟨g1,g2,g3⟩:=hp2 h56 i' hi' (by have:=hp1 h56;omega)
   rcases h56 with h | h
   ·have:=hkl2 _ (List.mem_of_getElem? (g2 h));simp only;omega
   ·simp only
    rw [g3 h]
    obtain ⟨_,s1,s2,_⟩:=hz _ (List.getElem_mem (l:=zs) (n:=i') (by have:=hp1 (.inr h);omega))
    have:=Dt _ s1;omega
  have hll : lj.length=j:=f1
  have hP:=VT (lj.map fun q=>(q.1,q.2.2)) (kH (lj.map fun q=>[VV.str q.1])) (kH (lj.map (·.2.2))) (by rw [List.map_map];exact jL (wG lj)) (by rw [List.map_map];exact jL (blkOf lj hlz')) prs[j].1 zs[j].2 (hzB _ (List.getElem_mem hjz)) (by rw [List.length_map];omega) hkk
  have hput : vS (lj.map fun q=>(q.1,q.2.2)) prs[j].1 zs[j].2=(aY (prs.take (j+1))).map fun q=>(q.1,q.2.2):=by
   unfold vS
   rw [Jp (fun p : T × List VV=>p.2),f2,List.map_append,List.map_cons,List.map_take,List.map_drop,e0]
  have hne : aY (prs.take (j+1))≠[]:=by rw [f2];simp
  rw [hput,List.map_map,List.map_map,List.length_map] at hP
  have z1 : kH ((aY (prs.take (j+1))).map fun q=>[VV.str q.1])=.sl (aY (prs.take (j+1))).length ((aY (prs.take (j+1))).map fun q=>[VV.str q.1]).flatten false:=by unfold kH;rw [if_neg (by simpa using hne),List.length_map]
  have z2 : kH ((aY (prs.take (j+1))).map (·.2.2))=.sl (aY (prs.take (j+1))).length ((aY (prs.take (j+1))).map (·.2.2)).flatten false:=by unfold kH;rw [if_neg (by simpa using hne),List.length_map]
  rw [z1,z2]
  exact hP
 have t0'' : ∀ υ,(τ++υ)[0]?=some (.own [.int .i64 k,.int .i64 i,.str t,kv,.sl cs.length cs.flatten tg]):=fun υ=>by rw [← hit];exact t0' υ
 by_cases h5 : k=5
 ·obtain ⟨hjp,hP⟩:=kvP (.inl h5)
  rw [if_pos (.inl h5)] at q3
  have q4'':=q4 (.inl h5)
  have b5 : (k == 5)=true:=by simpa using h5
  have hkj:=(hp2 (.inl h5) j hjp hjz).2.1 h5
  have hjk : j < keys.length:=(List.getElem?_eq_some_iff.1 hkj).1
  obtain ⟨tgk,hkt,c3,c4⟩:=hk.uP hjk
  have c2 : (j : Int) < (keys.length : Int):=by omega
  rw [List.getElem?_eq_getElem hjk,Option.some.injEq] at hkj
  rw [hkj] at c4
  simp only [go_sem,seval,q1,q2,q3,q4'',q9,q10,q11,hit,hkt,a1,a2,a3,a4,c2,c3,c4,x1,x3,x4,t0',b5,Int.toNat_natCast,SS]
  refine ah (hih) ?_<;>simp only [go_sem,seval,q1,q2,q3,q4'',q9,q10,q11,hkt,c2,c3,c4,a1,t0',b5,y1,y3,y4,Int.toNat_natCast,SS]
  refine aj (hP) (by simp only [go_sem,seval,q1,q2,q9,q10,q11,a6,SS]) ?_<;>simp only [go_sem,seval,q1,q2,q9,q10,q11,a6,SS]
  exact ⟨cs.length-(j+1),by omega,j+1,aY (prs.take (j+1)),rfl,by omega,by rw [if_pos (.inl h5)],by rw [← hit,← hkt];exact t0' _,by rw [List.getElem?_append_left l1];exact t1,by rw [if_pos (.inl h5)],fun _=>rfl,fun h=>absurd (.inl h5) h,hit,rfl⟩
 by_cases h6 : k=6
 ·obtain ⟨hjp,hP⟩:=kvP (.inr h6)
  rw [if_pos (.inr h6)] at q3
  have q4'':=q4 (.inr h6)
  have b5 : (k == 5)=false:=by simpa using h5
  have b6 : (k == 6)=true:=by simpa using h6
  have hkj:=(hp2 (.inr h6) j hjp hjz).2.2 h6
  obtain ⟨hT,s1,s2,q',s3⟩:=hzj
  have hKey:=BZ zs[j].1 zs[j].2 q' hT s1 s3 s2
  rw [← hkj] at hKey
  simp only [go_sem,seval,q1,q2,q3,q4'',q9,q10,q11,hit,a1,a2,a3,a4,x1,x3,x4,t0',hkc,b5,b6,Int.toNat_natCast,SS]
  refine ah (hih) ?_<;>simp only [go_sem,seval,q1,q2,q3,q4'',q9,q10,q11,t0',hkc,b5,b6,y1,y3,y4,SS]
  refine aj (hKey) (by simp only [go_sem,seval,y1,y3,y4,SS]) ?_<;>simp only [go_sem,seval,y1,y3,y4,SS]
  refine aj (hP) (by simp only [go_sem,seval,q1,q2,q9,q10,q11,a6,SS]) ?_<;>simp only [go_sem,seval,q1,q2,q9,q10,q11,a6,SS]
  exact ⟨cs.length-(j+1),by omega,j+1,aY (prs.take (j+1)),rfl,by omega,by rw [if_pos (.inr h6)],t0'' _,by rw [List.getElem?_append_left l1];exact t1,by rw [if_pos (.inr h6)],fun _=>rfl,fun h=>absurd (.inr h6) h,hit,rfl⟩
 ·have h56 : ¬ (k=5∨k=6):=by omega
  have b5 : (k == 5)=false:=by simpa using h5
  have b6 : (k == 6)=false:=by simpa using h6
  obtain ⟨hG,hnl,hid⟩:=q4' h56
  have hB1:=hzB _ (List.getElem_mem hjz)
  have hll : lj.length=j:=by rw [hlj,if_neg h56];simp;omega
  simp only [go_sem,seval,q1,q2,q9,q10,q11,hit,a1,a2,a3,a4,x1,x3,x4,t0',hkc,b5,b6,Int.toNat_natCast,SS]
  refine ah (hih) ?_<;>simp only [go_sem,seval,q1,q2,q9,q10,q11,t0',hkc,b5,b6,y1,y3,y4,SS]
  refine (hG.snoc [.own cs[j],.own zs[j].2]).step (ys:=[zs[j].2]) bK lK oZ lD rfl (by decide) (by decide) hB1 (by simp;omega) (by have:=(dG.sl [zs[j].2] true hB1).src (P:=Tryz.prog) (σ:=τ++[.own cs[j],.own zs[j].2]) bK;simpa using this) fun v σ' g K N=>?_
  simp only [go_sem,seval,q1,q2,q3,q9,q10,q11,a6]
  exact ⟨cs.length-(j+1),by omega,j+1,lj++[([],zs[j])],rfl,by omega,by rw [if_neg h56,hlj,if_neg h56,List.take_succ_eq_append_getElem hjz,List.map_append];rfl,by rw [K.2 0 (by simp) (fun o n z e=>by have:=hid _ _ _ _ e;omega)];exact t0'' _,by rw [K.2 1 (by simp) (fun o n z e=>by have:=hid _ _ _ _ e;omega),List.getElem?_append_left l1];exact t1,by rw [if_neg h56,if_neg h56],fun h=>absurd h h56,fun _=>⟨by simpa using g,by simp,fun id o n z e=>by have:=N _ _ _ _ e;simp at this;omega⟩,hit,rfl⟩
theorem C9 {q : Nat} : ∀ {l : List T},T.wfs q l→∀ v ∈ l,v.wf q
 | x::l,h,v,hv=>by
  rcases List.mem_cons.1 hv with rfl | hv
  ·exact h.1
  ·exact C9 h.2 v hv
def Qv (c : List VV) (v : T) : Prop:=∃ c',kV v.tree c'∧PV Tryz.prog G0 20 [.agg c] (.agg c')
theorem QI (k i : Int) (t : Bs) (keys : List Bs) (items : List Tr) (kv iv : VV) (cs : List (List VV)) (hk : dG 1 kv (keys.map fun b=>[VV.str b])) (hcs : jl items cs) (hi : dG 5 iv cs) (hS : sK 4000 (.node k i t keys items)) (hO : jk (.node k i t keys items)) (hkr : -9223372036854775808≤k∧k≤9223372036854775807)
  {q n n' : Nat} {v : T} (hm : (Tr.node k i t keys items).mk q n=(n',.ok v)) (ih : ∀ (j : Nat) (h : j < items.length) (h' : j < cs.length) (q n n' : Nat) (v : T),items[j].mk q n=(n',.ok v)→Qv cs[j] v) : Qv [.int .i64 k,.int .i64 i,.str t,kv,iv] v:=by
 have hir : -9223372036854775808≤i∧i≤9223372036854775807:=by cases hO;exact ⟨‹_›,‹_›⟩
 have hOi : ∀ x ∈ items,jk x:=by cases hO;assumption
 have hSi : ∀ x ∈ items,sK 4000 x:=by cases hS;assumption
 have hcl:=hcs.len
 have hil : items.length≤8000:=by cases hS;assumption
 have big : ∀ m : Nat,m≤8000→m≤9223372036854775807:=fun m h=>by omega
 unfold Tr.mk at hm
 split at hm
 ·cases hm
 rename_i hq
 split at hm
 ·cases hm
 rename_i hn
 split at hm
 ·cases hm
 rename_i hown
 have hown : fF k i t keys items.length=0:=by simpa using hown
 split at hm
 ·rename_i hk4
  simp only [Prod.mk.injEq,Hz.ok.injEq] at hm
  obtain ⟨_,rfl⟩:=hm
  have hnil : items=[]:=by
   unfold fF at hown
   rw [if_neg (by omega),if_neg (by omega)] at hown
   split at hown
   ·split at hown
    ·omega
    ·exact List.eq_nil_of_length_eq_zero (by omega)
   ·omega
  subst hnil
  have:=YI k i t keys [] kv iv cs hk hcs hi hS hir [] rfl (by simp) (fun j h h'=>absurd h' (Nat.not_lt_zero _)) [] (fun h=>rfl) (fun h=>absurd h (by omega)) (fun h=>rfl) [] (by rw [if_neg (by omega)];rfl)
  rw [if_neg (by omega)] at this
  exact ⟨_,.node .nil .nil .nil (by simp) (by simp) hkr.1 hkr.2 hir.1 hir.2,this⟩
 rename_i hk4
 obtain ⟨M,hM⟩ : ∃ M,M=Tr.sD items (q+1) (n+1):=⟨_,rfl⟩
 rw [← hM] at hm
 obtain ⟨n1,R⟩:=M
 cases R with
 | inr e=>simp at hm
 | inl vs =>
 simp only [Prod.mk.injEq] at hm
 obtain ⟨_,hp⟩:=hm
 obtain ⟨g1,g2,g3,g4⟩:=qA items _ _ _ _ hOi hM.symm (by omega)
 have hsm:=yZ items _ _ _ _ hOi hSi hM.symm
 obtain ⟨m1,m2⟩:=Dc hM.symm
 obtain ⟨zs,hzl,hzp⟩:=xX (p:=fun j (z : T × List VV)=>vs[j]?=some z.1∧kV z.1.tree z.2∧∀ h : j < cs.length,PV Tryz.prog G0 20 [.agg cs[j]] (.agg z.2)) (n:=items.length) (fun j hj=>by
  obtain ⟨a,b,hab⟩:=m2 j hj (by omega)
  obtain ⟨c',h1,h2⟩:=ih j hj (by omega) _ _ _ _ hab
  exact ⟨(vs[j],c'),by simp,h1,fun _=>h2⟩)
 have hzv : zs.map (·.1)=vs:=by
  apply List.ext_getElem (by simp;omega)
  intro j h1 h2
  simp only [List.length_map] at h1
  have:=(hzp j h1).1
  rw [List.getElem?_eq_getElem h2,Option.some.injEq] at this
  simp [this]
 have hz : ∀ p ∈ zs,kV p.1.tree p.2∧p.1.yc 4000∧p.1.nd≤20000∧∃ q,p.1.wf q:=by
  intro p hp'
  obtain ⟨j,hj,rfl⟩:=List.getElem_of_mem hp'
  have hmem : zs[j].1 ∈ vs:=by rw [← hzv];exact List.mem_map.2 ⟨_,List.getElem_mem hj,rfl⟩
  exact ⟨(hzp j hj).2.1,hsm _ hmem,by have:=x9 hmem;omega,q+1,C9 g1 _ hmem⟩
 have hih : ∀ (j : Nat) (h : j < cs.length) (h' : j < zs.length),PV Tryz.prog G0 20 [.agg cs[j]] (.agg zs[j].2):=fun j h h'=>(hzp j h').2.2 h
 by_cases h56 : k=5∨k=6
 ·obtain ⟨prs,p1,p2,p3,p4⟩:=NY (zs:=zs) h56 (by rw [hzl];exact hown)
  rw [hzv,hp] at p4
  split at p4
  ·cases p4
  rename_i hge
  have hle:=uI prs
  have hil2 : (aY prs).length≤8000:=by omega
  have hC:=YI k i t keys items kv iv cs hk hcs hi hS hir zs hzl hz hih prs (fun _=>p1) (fun _=>p2) (fun _=>by omega) (aY prs) (by rw [if_pos h56])
  have hmem : ∀ r ∈ aY prs,kV r.2.1.tree r.2.2:=fun r hr=>by
   obtain ⟨j,hj,rfl⟩:=List.getElem_of_mem (ni _ r hr)
   rw [(p2 j hj (by omega)).1]
   exact (hzp j (by omega)).2.1
  have hBi : dh 5 ((aY prs).map (·.2.2)):=⟨fun c hc=>by obtain ⟨r,hr,rfl⟩:=List.mem_map.1 hc;exact (hmem r hr).cells.1,fun c hc=>by obtain ⟨r,hr,rfl⟩:=List.mem_map.1 hc;exact (hmem r hr).cells.2.1,fun c hc=>by obtain ⟨r,hr,rfl⟩:=List.mem_map.1 hc;exact (hmem r hr).cells.2.2⟩
  have hTs:=DJ ((aY prs).map fun r=>(r.2.1.tree,r.2.2)) (fun p hp=>by obtain ⟨r,hr,rfl⟩:=List.mem_map.1 hp;exact hmem r hr)
  rw [List.map_map,List.map_map] at hTs
  have hit : i=0∧t=[]:=by
   unfold fF at hown
   rcases h56 with h | h
   ·rw [if_pos h] at hown
    split at hown
    ·omega
    split at hown
    ·omega
    ·rename_i hh;exact ⟨by simpa using fun e=>hh (.inl e),by simpa using fun e=>hh (.inr e)⟩
   ·rw [if_neg (by omega),if_pos (.inr h)] at hown
    split at hown
    ·omega
    ·rename_i hh;exact ⟨by simpa using fun e=>hh (.inr (.inl e)),by simpa using fun e=>hh (.inr (.inr e))⟩
  obtain ⟨rfl,rfl⟩:=hit
  simp only [Hz.ok.injEq] at p4
  rcases h56 with h | h
  ·subst h
   rw [if_pos rfl] at hC p4
   subst p4
   refine ⟨_, ?_,hC⟩
   simp only [T.tree,fM,List.map_map]
   refine .node ?_ hTs (jL hBi) (by simp;omega) (by simp;omega) (by omega) (by omega) (by omega) (by omega)
   rw [List.map_map]
   exact jL (wG (aY prs))
  ·subst h
   rw [if_neg (by decide)] at hC p4
   subst p4
   refine ⟨_, ?_,hC⟩
   simp only [T.tree,dn,List.map_map]
   exact .node .nil hTs (jL hBi) (by simp) (by simp;omega) (by omega) (by omega) (by omega) (by omega)
 ·have h4 : k=4:=by
   unfold fF at hown
   rw [if_neg (by omega)] at hown
   by_cases h : k=4
   ·exact h
   ·rw [if_neg (by omega),if_neg (by omega)] at hown;omega
  subst h4
  have hit : i=0∧t=[]:=by
   unfold fF at hown
   rw [if_neg (by omega),if_pos (.inl rfl)] at hown
   split at hown
   ·omega
   ·rename_i hh;exact ⟨by simpa using fun e=>hh (.inr (.inl e)),by simpa using fun e=>hh (.inr (.inr e))⟩
  obtain ⟨rfl,rfl⟩:=hit
  have hC:=YI 4 0 [] keys items kv iv cs hk hcs hi hS hir zs hzl hz hih [] (fun h=>absurd h (by omega)) (fun h=>absurd h (by omega)) (fun h=>absurd h (by omega)) (zs.map fun p=>([],p)) (by rw [if_neg (by omega)])
  rw [if_neg (by decide),List.map_map] at hC
  unfold jP at hp
  rw [if_pos rfl] at hp
  simp only [Hz.ok.injEq] at hp
  subst hp
  refine ⟨_, ?_,hC⟩
  have hmem : ∀ p ∈ zs,kV p.1.tree p.2:=fun p hp=>(hz p hp).1
  have hBi : dh 5 (zs.map (·.2)):=⟨fun c hc=>by obtain ⟨r,hr,rfl⟩:=List.mem_map.1 hc;exact (hmem r hr).cells.1,fun c hc=>by obtain ⟨r,hr,rfl⟩:=List.mem_map.1 hc;exact (hmem r hr).cells.2.1,fun c hc=>by obtain ⟨r,hr,rfl⟩:=List.mem_map.1 hc;exact (hmem r hr).cells.2.2⟩
  have hTs:=DJ (zs.map fun r=>(r.1.tree,r.2)) (fun p hp=>by obtain ⟨r,hr,rfl⟩:=List.mem_map.1 hp;exact hmem r hr)
  rw [List.map_map,List.map_map] at hTs
  simp only [T.tree,dn,← hzv,List.map_map]
  exact .node .nil hTs (jL hBi) (by simp) (by simp;omega) (by omega) (by omega) (by omega) (by omega)
mutual
theorem Oj : ∀ (x : Tr) (c : List VV),kV x c→jk x→sK 4000 x→∀ (q n n' : Nat) (v : T),x.mk q n=(n',.ok v)→Qv c v
 | .node k i t keys items,c,h,hO,hS,q,n,n',v,hm=>by
  cases h with
  | node h1 h2 h3 h4 h5 h6 h7 =>
  have hOi : ∀ x ∈ items,jk x:=by cases hO;assumption
  have hSi : ∀ x ∈ items,sK 4000 x:=by cases hS;assumption
  exact QI k i t keys items _ _ _ h1 h2 h3 hS hO ⟨h6,h7⟩ hm fun j h h' q n n' v hv=>Df items _ h2 hOi hSi j h h' q n n' v hv
theorem Df : ∀ (l : List Tr) (cs : List (List VV)),jl l cs→(∀ x ∈ l,jk x)→(∀ x ∈ l,sK 4000 x)→∀ (j : Nat) (h : j < l.length) (h' : j < cs.length) (q n n' : Nat) (v : T),l[j].mk q n=(n',.ok v)→Qv cs[j] v
 | x::l,c::cs,.cons h1 h2,hO,hS,0,_,_,q,n,n',v,hv=>Oj x c h1 (hO x (by simp)) (hS x (by simp)) q n n' v hv
 | x::l,c::cs,.cons h1 h2,hO,hS,j+1,h,h',q,n,n',v,hv=>Df l cs h2 (fun y hy=>hO y (by simp [hy])) (fun y hy=>hS y (by simp [hy])) j (by simpa using h) (by simpa using h') q n n' v hv
end
end Go.V
namespace Go.V
def Apart (l : List Bs) (a : Nat) : Prop:=∀ (x y : Nat) (hx : x < l.length) (hy : y < l.length),x < y→y < a→l[x]≠l[y]
theorem Apart.nodup {l : List Bs} (h : Apart l l.length) : l.Nodup:=by
 unfold List.Nodup
 rw [List.pairwise_iff_getElem]
 exact fun i j hi hj hij=>h i j hi hj hij hj
theorem xw {l : List Bs} (h : l.Nodup) (a : Nat) : Apart l a:=by
 unfold List.Nodup at h
 rw [List.pairwise_iff_getElem] at h
 exact fun x y hx hy hxy _=>h x y hx hy hxy
theorem Bo : ∀ (ks acc : List Bs),ks.Nodup→(∀ k ∈ ks,k ∉ acc)→(ks.foldl oP acc).length=acc.length+ks.length
 | [],acc,_,_=>by simp
 | k::ks,acc,hn,h=>by
  obtain ⟨n1,n2⟩:=List.nodup_cons.1 hn
  have ha : oP acc k=acc++[k]:=by unfold oP;rw [if_neg (h k (by simp))]
  simp only [List.foldl_cons,List.length_cons]
  rw [ha,Bo ks _ n2 ?_]
  ·simp;omega
  ·intro x hx hm
   rcases List.mem_append.1 hm with hm | hm
   ·exact h x (by simp [hx]) hm
   ·simp at hm;subst hm;exact n1 hx
theorem J4 {ks : List Bs} (h : ks.Nodup) : ¬ (Eh ks).length < ks.length:=by
 have:=Bo ks [] h (by simp)
 unfold Eh
 simp at this;omega
theorem QA {ks : List Bs} (h : ¬ ks.Nodup) : (Eh ks).length < ks.length:=by
 refine Classical.byContradiction fun hn=>h ?_
 have h1:=uT ks []
 exact (qX ks [] (by unfold Eh at hn;simp at h1 ⊢;omega)).1
theorem Ap (k : Bs) (v : T) : ∀ l : List (Bs × T),(k,v) ∈ cO k v l
 | []=>by simp [cO]
 | (k',v')::l=>by
  unfold cO
  split
  ·simp
  ·split
   ·simp
   ·exact List.mem_cons_of_mem _ (Ap k v l)
theorem yX : ∀ (ps acc : List (Bs × T)),iJ acc→(ps.foldl (fun acc p=>cO p.1 p.2 acc) acc).length=acc.length+ps.length→(ps.map (·.1)).Nodup∧∀ k ∈ ps.map (·.1),∀ p ∈ acc,p.1≠k
 | [],_,_,_=>by simp
 | p::ps,acc,hr,h=>by
  simp only [List.foldl_cons,List.length_cons] at h
  have h1:=jW ps (cO p.1 p.2 acc)
  have h2:=uJ (k:=p.1) (v:=p.2) (l:=acc)
  have hno : ∀ x ∈ acc,x.1≠p.1:=fun x hx e=>by have:=h2.2 hr ⟨x,hx,e⟩;omega
  obtain ⟨i1,i2⟩:=yX ps (cO p.1 p.2 acc) (jQ hr) (by have:=h2.1;omega)
  have hperm:=wo (x:=p.2) hno
  refine ⟨by simp only [List.map_cons];exact List.nodup_cons.2 ⟨fun hm=>i2 p.1 hm _ (Ap p.1 p.2 acc) rfl,i1⟩,fun k hk x hx=>?_⟩
  simp only [List.map_cons,List.mem_cons] at hk
  rcases hk with rfl | hk
  ·exact hno x hx
  ·exact i2 k hk x (hperm.mem_iff.2 (List.mem_cons_of_mem _ hx))
theorem IE {vs : List T} : (insL (vs.map fun v=>(v.key,v))).length < vs.length↔¬ (vs.map T.key).Nodup:=by
 have e : (vs.map fun v=>(v.key,v)).map (·.1)=vs.map T.key:=by rw [List.map_map];rfl
 have hle:=jW (vs.map fun v=>(v.key,v)) []
 constructor
 ·intro h hn
  have:=oG (vs.map fun v=>(v.key,v)) [] (by rw [e];exact hn) (by simp)
  unfold insL at h
  simp at this;omega
 ·intro hn
  refine Classical.byContradiction fun h=>hn ?_
  rw [← e]
  exact (yX _ [] List.Pairwise.nil (by unfold insL at h;simp at hle ⊢;omega)).1
end Go.V
namespace Go.V
open Go.Proofs
set_option maxRecDepth 100000
theorem U9 (k i : Int) (t : Bs) (keys : List Bs) (n : Nat) (kv iv : VV) (cs : List (List VV)) (hk : dG 1 kv (keys.map fun b=>[VV.str b])) (hcl : cs.length=n) (hi : dG 5 iv cs) (hkl : keys.length≤100000) (hil : n≤100000) :
  PV Tryz.prog G0 117 [.agg [.int .i64 k,.int .i64 i,.str t,kv,iv]] (.int .i64 (fF k i t keys n)):=by
 have hkp:=hk.pure
 have hip:=hi.pure
 have hkc:=hk.cell
 have hic:=hi.cell
 have hksl : ∀ {σ},aT Tryz.prog 26 kv σ=okV (.int .i64 keys.length) σ:=by intro σ;rw [hk.aT dM];simp
 have hisl : ∀ {σ},aT Tryz.prog 27 iv σ=okV (.int .i64 n) σ:=by intro σ;rw [hi.aT bK,hcl]
 have hPl:=EW k i t kv iv hkp hip hkc hic
 have hS:=Zn k i t
 refine pv e117 (by simp) (by simp only [VV.ak,VV.isPure,hkp,hip];rfl) rfl ?_
 simp only [go_sem,seval] at hkc
 simp only [go_sem,seval] at hic
 obtain ⟨E,hE⟩ : ∃ E,E=fF k i t keys n:=⟨_,rfl⟩
 rw [← hE]
 have bt : (t == [])=decide (t=[]):=by by_cases h : t=[]<;>simp [h]
 by_cases k0 : k < 0
 ·have b0 : decide (k < 0)=true:=decide_eq_true k0
  simp only [go_sem,seval,c117,hkc,hic,b0]
  exact fin (by rfl) (by rw [hE];unfold fF;rw [if_neg (by omega),if_neg (by omega),if_neg (by omega)])
 have b0 : decide (k < 0)=false:=decide_eq_false k0
 by_cases k6 : 6 < k
 ·have b6 : decide (6 < k)=true:=decide_eq_true k6
  simp only [go_sem,seval,c117,hkc,hic,b0,b6]
  exact fin (by rfl) (by rw [hE];unfold fF;rw [if_neg (by omega),if_neg (by omega),if_neg (by omega)])
 have b6 : decide (6 < k)=false:=decide_eq_false k6
 by_cases k3 : k≤3
 ·have b3 : decide (k≤3)=true:=decide_eq_true k3
  have hown : fF k i t keys n=if 0 < keys.length+n then 1 else qm k i t:=by
   unfold fF;rw [if_neg (by omega),if_neg (by omega),if_pos (by omega)]
  by_cases d1 : 0 < keys.length
  ·have e1 : decide ((0 : Int) < (keys.length : Int))=true:=decide_eq_true (by omega)
   simp only [go_sem,seval,c117,hkc,hic,b0,b6,b3,hksl,hisl,e1]
   exact fin (by rfl) (by rw [hE,hown,if_pos (by omega)])
  have e1 : decide ((0 : Int) < (keys.length : Int))=false:=decide_eq_false (by omega)
  by_cases d2 : 0 < n
  ·have e2 : decide ((0 : Int) < (n : Int))=true:=decide_eq_true (by omega)
   simp only [go_sem,seval,c117,hkc,hic,b0,b6,b3,hksl,hisl,e1,e2]
   exact fin (by rfl) (by rw [hE,hown,if_pos (by omega)])
  have e2 : decide ((0 : Int) < (n : Int))=false:=decide_eq_false (by omega)
  simp only [go_sem,seval,c117,hkc,hic,b0,b6,b3,hksl,hisl,e1,e2]
  refine ah (hPl) ?_<;>simp only [go_sem,seval]
  refine ah (hS) ?_<;>simp only [go_sem,seval]
  exact fin (by rfl) (by rw [hE,hown,if_neg (by omega)])
 have b3 : decide (k≤3)=false:=decide_eq_false k3
 have hk456 : k=4∨k=5∨k=6:=by omega
 have bad : ∀ P : (i≠0∨t≠[])∨(k=5∧keys.length≠n)∨(k≠5∧0 < keys.length),VV.int .i64 1=VV.int .i64 E:=by
  intro hP
  rw [hE]
  unfold fF
  by_cases h5 : k=5
  ·rw [if_pos h5]
   split
   ·rfl
   ·split
    ·rfl
    ·rename_i a b
     exfalso
     rcases hP with h | h | h
     ·exact b h
     ·exact a h.2
     ·exact h.1 h5
  ·rw [if_neg h5,if_pos (by omega),if_pos]
   rcases hP with h | h | h
   ·exact .inr h
   ·exact absurd h.1 h5
   ·exact .inl h.2
 by_cases d1 : i=0
 rotate_left
 ·have e1 : (i == 0)=false:=by simpa using d1
  simp only [go_sem,seval,c117,hkc,hic,b0,b6,b3,bne,e1,Bool.not_false]
  exact fin (by rfl) (bad (.inl (.inl d1)))
 by_cases d2 : t=[]
 rotate_left
 ·have e1 : (i == 0)=true:=by simpa using d1
  have e2 : (t == [])=false:=by simpa using d2
  simp only [go_sem,seval,c117,hkc,hic,b0,b6,b3,bne,e1,e2,Bool.not_false,Bool.not_true]
  exact fin (by rfl) (bad (.inl (.inr d2)))
 subst d1 d2
 by_cases d3 : (k=5∧keys.length≠n)∨(k≠5∧0 < keys.length)
 ·rcases d3 with ⟨d3,d4⟩ | ⟨d3,d4⟩
  ·have e3 : (k == 5)=true:=by simpa using d3
   have e4 : ((keys.length : Int) == (n : Int))=false:=by simp;omega
   simp only [go_sem,seval,c117,hkc,hic,b0,b6,b3,bne,e3,e4,hksl,hisl,Bool.not_false,Bool.not_true,beq_self_eq_true]
   exact fin (by rfl) (bad (.inr (.inl ⟨d3,d4⟩)))
  ·have e3 : (k == 5)=false:=by simpa using d3
   have e4 : decide ((0 : Int) < (keys.length : Int))=true:=decide_eq_true (by omega)
   simp only [go_sem,seval,c117,hkc,hic,b0,b6,b3,bne,e3,e4,hksl,hisl,Bool.not_false,Bool.not_true,beq_self_eq_true]
   exact fin (by rfl) (bad (.inr (.inr ⟨d3,d4⟩)))
 have good : ∀ b : Bool,(b=true↔keys.Nodup)→VV.int .i64 (if b=true then 0 else 6)=VV.int .i64 E:=by
  intro b hb
  have hnz : ¬ ((0 : Int)≠0∨([] : Bs)≠[]):=by simp
  rw [hE]
  unfold fF
  by_cases h5 : k=5
  ·rw [if_pos h5,if_neg (fun h=>d3 (.inl ⟨h5,h⟩)),if_neg hnz]
   by_cases hn : keys.Nodup
   ·rw [if_pos (hb.2 hn),if_neg (J4 hn)]
   ·rw [if_neg (fun h=>hn (hb.1 h)),if_pos (QA hn)]
  ·have hz : keys=[]:=List.eq_nil_of_length_eq_zero (by
    refine Classical.byContradiction fun h=>d3 (.inr ⟨h5,by omega⟩))
   subst hz
   rw [if_neg h5,if_pos (show k=4∨k=6 by omega),if_neg (show ¬ (0 < ([] : List Bs).length∨(0 : Int)≠0∨([] : Bs)≠[]) by simp),if_pos (hb.2 List.nodup_nil)]
 refine eU (M:=fun ρ τ=>ρ.get 1=.mptr 0 0∧τ=[.own [.int .i64 k,.int .i64 0,.str [],kv,iv]]) ?_ ?_
 ·simp only [go_sem,seval,hkc,hic]
 rintro ρ _ ⟨q1,rfl⟩
 refine eU (M:=fun ρ τ=>ρ.get 1=.mptr 0 0∧τ=[.own [.int .i64 k,.int .i64 0,.str [],kv,iv]]) ?_ ?_
 ·by_cases h5 : k=5
  ·have e3 : (k == 5)=true:=by simpa using h5
   have e4 : ((keys.length : Int) == (n : Int))=true:=by
    have : keys.length=n:=Classical.byContradiction fun h=>d3 (.inl ⟨h5,h⟩)
    simp;omega
   simp only [go_sem,seval,q1,hkc,hic,b0,b6,b3,bne,e3,e4,hksl,hisl,Bool.not_false,Bool.not_true,beq_self_eq_true]
  ·have e3 : (k == 5)=false:=by simpa using h5
   have e4 : decide ((0 : Int) < (keys.length : Int))=false:=decide_eq_false fun h=>d3 (.inr ⟨h5,by omega⟩)
   simp only [go_sem,seval,q1,hkc,hic,b0,b6,b3,bne,e3,e4,hksl,hisl,Bool.not_false,Bool.not_true,beq_self_eq_true]
 rintro ρ _ ⟨q1,rfl⟩
 simp only [go_sem,seval,q1,hkc,hic,hksl]
 refine bf (M:=fun ρ τ=>Apart keys keys.length) ?_ ?_
 ·rintro ρ τ hA
  simp only [go_sem,seval]
  exact fin (by rfl) (good true ⟨fun _=>hA.nodup,fun _=>rfl⟩)
 refine aF (fun m ρ τ=>∃ a : Nat,m=keys.length-a∧a≤keys.length∧Apart keys a∧ρ.get 1=.mptr 0 0∧ρ.get 66=.int .i64 keys.length∧ρ.get 67=.int .i64 a∧τ=[.own [.int .i64 k,.int .i64 0,.str [],kv,iv]]) (n:=keys.length) ?_ ⟨0,rfl,by omega,fun x y _ _ _ h=>absurd h (Nat.not_lt_zero _),q1,rfl,rfl,rfl⟩
 rintro m ρ _ ⟨a,rfl,ha,hA,q1,q66,q67,rfl⟩
 simp only [go_sem,seval,q66,q67]
 refine aG (fun hc=>?_) (fun hc=>?_)
 rotate_left
 ·have hc' : a=keys.length:=by simp at hc;omega
  subst hc'
  simp only [go_sem,seval,q1]
  exact hA
 have hc' : a < keys.length:=by simpa using hc
 have w6 : IntKind.i64.wrap ((a : Int)+1)=((a+1 : Nat) : Int):=by rw [iw (by omega)];omega
 simp only [go_sem,seval,q1,q66,q67]
 refine aF (fun m ρ τ=>∃ b : Nat,m=a-b∧b≤a∧(∀ (x : Nat) (hx : x < keys.length),x < b→keys[x]≠keys[a])∧ρ.get 1=.mptr 0 0∧ρ.get 3=.int .i64 a∧ρ.get 66=.int .i64 keys.length∧ρ.get 67=.int .i64 a∧ρ.get 70=.int .i64 a∧ρ.get 71=.int .i64 b∧τ=[.own [.int .i64 k,.int .i64 0,.str [],kv,iv]]) (n:=a) ?_ ⟨0,rfl,by omega,fun x _ h=>absurd h (Nat.not_lt_zero _),q1,rfl,q66,q67,rfl,rfl,rfl⟩
 rintro m ρ _ ⟨b,rfl,hb,hB,q1,q3,q66,q67,q70,q71,rfl⟩
 simp only [go_sem,seval,q70,q71]
 refine aG (fun hc2=>?_) (fun hc2=>?_)
 rotate_left
 ·have hb' : b=a:=by simp at hc2;omega
  subst hb'
  simp only [go_sem,seval,q1,q66,q67,w6]
  refine ⟨keys.length-(b+1),by omega,b+1,rfl,by omega,fun x y hx hy hxy hy1=>?_,rfl⟩
  by_cases hyb : y < b
  ·exact hA x y hx hy hxy hyb
  ·obtain rfl : y=b:=by omega
   exact hB x hx (by omega)
 have hb' : b < a:=by simpa using hc2
 have hbl : b < keys.length:=by omega
 have w7 : IntKind.i64.wrap ((b : Int)+1)=((b+1 : Nat) : Int):=by rw [iw (by omega)];omega
 obtain ⟨tg,hkt,c3,c4⟩:=hk.uP hc'
 obtain ⟨_,_,d3',d4⟩:=hk.uP hbl
 have c1 : (0 : Int)≤(a : Int):=by omega
 have c2 : (a : Int) < (keys.length : Int):=by omega
 have d1 : (0 : Int)≤(b : Int):=by omega
 have d2 : (b : Int) < (keys.length : Int):=by omega
 by_cases he : keys[a]=keys[b]
 ·have e9 : (keys[a] == keys[b])=true:=by simpa using he
  simp only [go_sem,seval,q1,q3,q66,q67,q70,q71,hkt,c1,c2,c3,c4,d1,d2,d3',d4,e9,Int.toNat_natCast]
  exact fin (by rfl) (good false ⟨(by simp),fun hn=>absurd he.symm (xw hn keys.length b a hbl hc' hb' hc')⟩)
 ·have e9 : (keys[a] == keys[b])=false:=by simpa using he
  simp only [go_sem,seval,q1,q3,q66,q67,q70,q71,hkt,c1,c2,c3,c4,d1,d2,d3',d4,e9,w7,Int.toNat_natCast]
  refine ⟨a-(b+1),by omega,b+1,rfl,by omega,fun x hx hxb=>?_,rfl⟩
  by_cases hxb' : x < b
  ·exact hB x hx hxb'
  ·obtain rfl : x=b:=by omega
   exact fun h=>he h.symm
end Go.V
