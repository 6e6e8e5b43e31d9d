/- Texts E7. -/
import Derived.Laws.NewBlocks
import Derived.Test.YtgmhpemjlbgfcaaGreatDoorG27
set_option linter.unusedVariables false
set_option linter.unusedSimpArgs false
namespace Go.V.Ins
open Go.Proofs Go.Shelf Go.RowKit Go.Lib
theorem t3 : Tryz.prog.underlying 3=some (.int .i64):=by kernel_rfl
theorem i196 : (Tryz.prog.info? 216).map (fun i=>(i.zero.isSome,i.size,i.bytes))=some (true,12,112):=by kernel_rfl
theorem Vx : (Tryz.prog.info? 216).bind (fun i=>i.zero.map fun z=>z.cells.size)=some 12:=by kernel_rfl
set_option maxHeartbeats 4000000 in
set_option maxRecDepth 100000 in
theorem grow (b off n c i vb voff vc : Nat) (cs vs : List Value) (w : World) (hi : i < n) (hnc : n≤c) (hroom : c < n+1) (hbig : n≤10000000)
  (hcl : cs.length=n*12) (hvl : vs.length=12)
  (hcs : ∀ j v,cs[j]?=some v→w.cell? ⟨b,off+j,none⟩=some v)
  (hvs : ∀ j v,vs[j]?=some v→w.cell? ⟨vb,voff+j,none⟩=some v) (h1c : ∀ v ∈ cs,v.oneCell'=true) (h1v : ∀ v ∈ vs,v.oneCell'=true) :
  Calls Tryz.prog 216 #[.slice (some ⟨b,off,none⟩) n c,.int .i64 i,.slice (some ⟨vb,voff,none⟩) 1 vc] w fun e w' =>
   ∃ (G : Nat) (ROW : Array Value),n+1≤G∧ROW.size=G*12∧(∀ (j : Nat) (v : Value),(cs.take (i*12))[j]?=some v→ROW[j]?=some v)∧e=.returned (.slice (some ⟨w.heap.size,0,none⟩) (n+1) G) ∧
   w'=(((w.alloc (.cells ROW 216)).drew.setCells w.heap.size (i*12) vs).drew).setCells w.heap.size ((i+1)*12) (cs.drop (i*12)):=by
 obtain ⟨i0,hi0⟩ : ∃ i0,Tryz.prog.info? 216=some i0:=by
  have:=i196
  cases h : Tryz.prog.info? 216 with
  | none=>rw [h] at this;cases this
  | some i0=>exact ⟨i0,rfl⟩
 have h196:=i196
 rw [hi0] at h196
 simp only [Option.map_some,Option.some.injEq,Prod.mk.injEq] at h196
 obtain ⟨hz0,hzs,hzb⟩:=h196
 obtain ⟨z0,hz0⟩:=Option.isSome_iff_exists.1 hz0
 have hzl:=Vx
 rw [hi0] at hzl
 simp only [Option.bind_some,hz0,Option.map_some,Option.some.injEq] at hzl
 have hz2 : ¬ ((i : Int)=(n : Int)):=by omega
 have hz3 : (c : Int) < (n : Int)+1:=by omega
 have hsz : (Tryz.prog.info? 216).map (·.size)=some 12:=NC
 have hbw : b < w.heap.size:=block_lt_of_cell (hcs 0 _ (List.getElem?_eq_getElem (by omega)))
 have hvw : vb < w.heap.size:=block_lt_of_cell (hvs 0 _ (List.getElem?_eq_getElem (by omega)))
 have hkk : (n : Int)+1-(i : Int)=((n+1-i : Nat) : Int):=by omega
 have hik : i+(n+1-i)=n+1:=by omega
 have hold : (Builtin.firstCells i0.size i (.slice (some ⟨b,off,none⟩) i c)).run Tryz.prog w.drew=.ok (cs.take (i*12)).toArray w.drew:=by
  rw [hzs]
  exact run_firstCells_some w.drew 12 i ⟨b,off,none⟩ i c (cs.take (i*12)) (by rw [List.length_take];omega) (fun j v hj=>by
   rw [Addr.add_lit]
   rw [List.getElem?_take] at hj
   split at hj
   ·exact hcs j v hj
   ·cases hj)
 have hrz : ∀ ty,(Builtin.append_ #[225,3] ty #[.slice (some ⟨b,off,none⟩) i c,.int .i64 ((n : Int)+1-(i : Int))]).run Tryz.prog w =
   .ok (.slice (some ⟨w.heap.size,0,none⟩) (n+1) (grownCap w (n+1) c 216)) (w.drew.alloc (.cells ((cs.take (i*12)).toArray++Builtin.zeroCells z0.cells (n+1-i)++Builtin.zeroCells z0.cells (grownCap w (n+1) c 216-(n+1))) 216)):=fun ty=>by
  have h:=Lib.run_append_grow_zeros w 225 3 ty 216 i0 _ .i64 .i64 t190 t3 hi0 hz0 (some ⟨b,off,none⟩) i c (cs.take (i*12)) hold (n+1-i) (by omega) (by omega) (by omega) (by omega) (by rw [hzb];omega) (by rw [hzb,hik];exact growslice_fits hroom (by omega))
  rw [hik] at h
  rw [hkk]
  exact h
 obtain ⟨G,hG⟩ : ∃ G,G=grownCap w (n+1) c 216:=⟨_,rfl⟩
 obtain ⟨ROW,hROW⟩ : ∃ ROW : Array Value,ROW=(cs.take (i*12)).toArray++Builtin.zeroCells z0.cells (n+1-i)++Builtin.zeroCells z0.cells (G-(n+1)):=⟨_,rfl⟩
 rw [← hG] at hrz
 rw [← hROW] at hrz
 have hGn : n+1≤G:=by rw [hG];exact grownCap_ge w _ _ _
 have hRl : ROW.size=G*12:=by
  rw [hROW]
  simp [Builtin.zeroCells,hzl]
  omega
 have hRt : ∀ (j : Nat) (v : Value),(cs.take (i*12))[j]?=some v→ROW[j]?=some v:=fun j v hj=>by
  rw [hROW,Array.append_assoc,Array.getElem?_append_left (by simpa using (List.getElem?_eq_some_iff.1 hj).1)]
  simpa using hj
 obtain ⟨W1,hW1⟩ : ∃ W1,W1=w.drew.alloc (.cells ROW 216):=⟨_,rfl⟩
 rw [← hW1] at hrz
 have hN : ∀ j,j < (n+1)*12→(W1.cell? ⟨w.heap.size,j,none⟩).isSome=true:=fun j hj=>by
  rw [hW1,World.cell?_alloc_at (w:=w.drew) ROW _ w.heap.size j rfl,Array.getElem?_eq_getElem (by omega)];rfl
 have hNf : ∀ j,W1.frozen? ⟨w.heap.size,j,none⟩=false:=fun j=>by rw [hW1];exact World.frozen?_alloc_at (w:=w.drew) ROW _ w.heap.size j rfl
 have hOb : ∀ j v,w.cell? ⟨b,j,none⟩=some v→W1.cell? ⟨b,j,none⟩=some v:=fun j v h=>by rw [hW1,World.cell?_alloc_past (w:=w.drew) _ b j hbw];exact h
 have hOv : ∀ j v,w.cell? ⟨vb,j,none⟩=some v→W1.cell? ⟨vb,j,none⟩=some v:=fun j v h=>by rw [hW1,World.cell?_alloc_past (w:=w.drew) _ vb j hvw];exact h
 have hcpA : ∀ (W : World),(∀ x,W.cell? x=W1.cell? x)→(∀ x,W.frozen? x=W1.frozen? x)→∀ ty dc,(Builtin.copy_ #[225,225] ty #[.slice (some ⟨w.heap.size,i*12,none⟩) (n+1-i) dc,.slice (some ⟨vb,voff,none⟩) 1 vc]).run Tryz.prog W=.ok (goInt (Nat.min 1 (n+1-i))) (W.setCells w.heap.size (i*12) vs):=fun W hWc hWf ty dc =>
  nP W _ _ ty 216 12 w.heap.size (i*12) (n+1-i) dc ⟨vb,voff,none⟩ 1 vc vs t190 NC (by rw [hvl];simp only [Nat.min_def];split<;>omega)
   (fun j v hj=>by rw [Addr.add_lit,hWc];exact hOv _ v (hvs j v hj))
   (fun j hj=>by rw [hWc];exact hN _ (by omega)) (fun j hj=>by rw [hWf];exact hNf _) h1v
 have hG63 : G≤9223372036854775807:=by
  have:=grownCap_le_maxLen w (n+1) c 216 (by unfold maxLen;omega)
  rw [← hG] at this
  unfold maxLen at this
  omega
 have hGi : ¬ (G=i):=by omega
 have hGim : ¬ (G=i+1):=by omega
 have hci : ¬ (c=i):=by omega
 have hbN : b≠w.heap.size:=by omega
 have hdl : (cs.drop (i*12)).length=n*12-i*12:=by rw [List.length_drop,hcl]
 have hcpB : ∀ (W : World),(∀ x,W.cell? x=(W1.setCells w.heap.size (i*12) vs).cell? x)→(∀ x,W.frozen? x=(W1.setCells w.heap.size (i*12) vs).frozen? x)→∀ ty dc sc,(Builtin.copy_ #[225,225] ty #[.slice (some ⟨w.heap.size,(i+1)*12,none⟩) (n-i) dc,.slice (some ⟨b,off+i*12,none⟩) (n-i) sc]).run Tryz.prog W=.ok (goInt (Nat.min (n-i) (n-i))) (W.setCells w.heap.size ((i+1)*12) (cs.drop (i*12))):=fun W hWc hWf ty dc sc =>
  nP W _ _ ty 216 12 w.heap.size ((i+1)*12) (n-i) dc ⟨b,off+i*12,none⟩ (n-i) sc (cs.drop (i*12)) t190 NC (by rw [hdl];simp only [Nat.min_def];split<;>omega)
   (fun j v hj=>by
    rw [Addr.add_lit,hWc,World.cell?_setCells_out _ _ _ _ _ (fun h _=>absurd h hbN),Nat.add_assoc]
    exact hOb _ v (hcs (i*12+j) v (by rwa [List.getElem?_drop] at hj)))
   (fun j hj=>by rw [hWc];exact isSome_setCells _ _ _ _ (fun t ht=>hN _ (by omega)) _ (hN _ (by omega)))
   (fun j hj=>by rw [hWf,World.frozen?_setCells];exact hNf _) (fun v hv=>h1c v (List.mem_of_mem_drop hv))
 subst hW1
 have hE1 : ∀ x,((w.alloc (.cells ROW 216)).drew).cell? x=(w.drew.alloc (.cells ROW 216)).cell? x:=fun x=>rfl
 have hE2 : ∀ x,((w.alloc (.cells ROW 216)).drew).frozen? x=(w.drew.alloc (.cells ROW 216)).frozen? x:=fun x=>rfl
 have hF1 : ∀ x,(((w.alloc (.cells ROW 216)).drew.setCells w.heap.size (i*12) vs).drew).cell? x=((w.drew.alloc (.cells ROW 216)).setCells w.heap.size (i*12) vs).cell? x:=fun x=>rfl
 have hF2 : ∀ x,(((w.alloc (.cells ROW 216)).drew.setCells w.heap.size (i*12) vs).drew).frozen? x=((w.drew.alloc (.cells ROW 216)).setCells w.heap.size (i*12) vs).frozen? x:=fun x=>rfl
 have hw1 : IntKind.i64.wrap ((i : Int)+1)=(i : Int)+1:=by rw [IntKind.wrap_i64];omega
 have hw2 : IntKind.i64.wrap ((n : Int)+1)=(n : Int)+1:=by rw [IntKind.wrap_i64];omega
 have hw3 : IntKind.i64.wrap ((n : Int)+1-i)=(n : Int)+1-i:=by rw [IntKind.wrap_i64];omega
 have hb1 : (0 : Int)≤(i : Int)+1:=by omega
 have hin : i≤n:=by omega
 have htn : ((i : Int)+1).toNat=i+1:=by omega
 have hb3 : (i : Int)≤(n : Int):=by omega
 have hb5 : (i : Int)≤(n : Int)+1:=by omega
 have mixed:=Go.V.mix
 suffices hmain : Calls Tryz.prog 216 #[.slice (some ⟨b,off,none⟩) n c,.int .i64 i,.slice (some ⟨vb,voff,none⟩) 1 vc] w fun e w'=>e=.returned (.slice (some ⟨w.heap.size,0,none⟩) (n+1) G)∧w'=(((w.alloc (.cells ROW 216)).drew.setCells w.heap.size (i*12) vs).drew).setCells w.heap.size ((i+1)*12) (cs.drop (i*12)) from
  hmain.mono fun _ _ ⟨x,y⟩=>⟨G,ROW,hGn,hRl,hRt,x,y⟩
 clear hkk hik hold hROW hG hRt
 go_enter Tryz.func216,Tryz.ntmps216
 go_wp2_with (first
  | (at_builtin;refine Lib.wpList_append_run _ rfl _ _ _ _ rfl _ _ rfl rfl _ _ (hrz _) ?_)
  | (at_builtin;refine wpList_copy_run _ rfl _ _ 225 225 rfl _ _ rfl rfl (hcpA _ hE1 hE2 _ _) ?_))
 go_region_law_o (refine rQ rfl _ _ 225 225 rfl (.slice (some ⟨w.heap.size,(i+1)*12,none⟩) (n-i) (G-(i+1))) (.slice (some ⟨b,off+i*12,none⟩) (n-i) (c-i)) (by simp [Act.eval,Act.put]) (by simp [Act.eval,Act.put]) (hcpB _ hF1 hF2 3 (G-(i+1)) (c-i)) ?_)
 go_wp2
 go_ret
 exact ⟨rfl,rfl⟩
end Go.V.Ins
