/- Texts E6. -/
import Derived.LaidEql
import Derived.Laws.Externs
import Derived.Laws.IdiomCopy
import Derived.Lib.AppendZerosOnto
import Derived.Lib.Overlaps
import Derived.Lib.SliceRun
import Derived.Lib.Walk
import Derived.RowKitTokens
import Derived.Shelf.RegionOpenPlain
import Derived.Stop.Asserts
import Derived.WalkKit
import Derived.Test.YtgmhpemjlbgfcaaGreatDoorG17
set_option linter.unusedVariables false
set_option linter.unusedSimpArgs false
namespace Go.V.Ins
open Go.Proofs Go.Shelf Go.RowKit Go.Lib
variable {P : Program}
theorem wp_copy_run (w : World) {o : Oper} {a : Act} {K : Act→World→Prop} {Q : Exit→Act→World→Prop} (d s : Operand) (t t' : TypeId)
  (ho : o.op=.call { callee:=.builtin .copy,args:=#[d,s],argTypes:=#[t,t'] }) (v u : Value) (hd : a.eval d=v) (hs : a.eval s=u) {v' : Value} {w' : World}
  (hr : (Builtin.copy_ #[t,t'] o.type #[v,u]).run P w=.ok v' w') (h : K (a.put o.dst v') w') : o.wp P a w K Q:=by
 unfold Oper.wp execOp
 simp only [ho,resolve,invoke,builtin,Sem.run_bind,Sem.run_pure,Result.andThen_ok,List.map_toArray,List.map_cons,List.map_nil,hd,hs,hr]
 exact h
theorem wpList_copy_run (w : World) {ops : Array Oper} {rest : List Oper} {o : Oper} {a : Act} {Q : Exit→Act→World→Prop} (hgd : o.guard=none) (d s : Operand) (t t' : TypeId)
  (ho : o.op=.call { callee:=.builtin .copy,args:=#[d,s],argTypes:=#[t,t'] }) (v u : Value) (hd : a.eval d=v) (hs : a.eval s=u) {v' : Value} {w' : World}
  (hr : (Builtin.copy_ #[t,t'] o.type #[v,u]).run P w=.ok v' w') (h : wpList P ops Q rest (a.put o.dst v') w') : wpList P ops Q (o::rest) a w :=
 wpList_plain hgd fun _ hK=>wp_copy_run w d s t t' ho v u hd hs hr (hK _ _ h)
theorem rQ {ops : Array Oper} {o : Oper} {a : Act} {w : World} {K : Act→World→Prop} {Q : Exit→Act→World→Prop} {E : Prop}
  (hg : o.guard=none) (d x : Operand) (dT sT : TypeId) (hop : o.op=Op.call { callee:=Callee.builtin Builtin.copy,args:=#[d,x],argTypes:=#[dT,sT] })
  (v u : Value) (hd : a.eval d=v) (hx : a.eval x=u) {v' : Value} {w' : World} (hr : (Builtin.copy_ #[dT,sT] o.type #[v,u]).run P w=.ok v' w') (hK : K (a.put o.dst v') w') :
  if Region.wanted o (yielded ops a.tmps)=true then Oper.wp P o a w K Q else E:=by
 have hw : Region.wanted o (yielded ops a.tmps)=true:=by simp [Region.wanted,hg]
 rw [if_pos hw]
 unfold Oper.wp
 simp [execOp,hop,resolve,invoke,builtin,hd,hx,hr,Result.andThen]
 exact hK
theorem nP (w : World) (dT sT ty elem : TypeId) (k b o dLen dCap : Nat) (a : Addr) (sLen sCap : Nat) (cs : List Value)
  (hu : P.underlying dT=some (.slice elem)) (hs : (P.info? elem).map (·.size)=some k) (hn : cs.length=Nat.min sLen dLen*k)
  (hsrc : ∀ j v,cs[j]?=some v→w.cell? (a.add j)=some v) (hc : ∀ j,j < cs.length→(w.cell? ⟨b,o+j,none⟩).isSome=true) (hf : ∀ j,j < cs.length→w.frozen? ⟨b,o+j,none⟩=false) (h1 : ∀ v ∈ cs,v.oneCell'=true) :
  (Builtin.copy_ #[dT,sT] ty #[.slice (some ⟨b,o,none⟩) dLen dCap,.slice (some a) sLen sCap]).run P w=.ok (goInt (Nat.min sLen dLen)) (w.setCells b o cs):=by
 have hl:=run_loadCells_list (P:=P) w a cs hsrc
 have hst:=run_storeCells_cells (P:=P) b o cs 0 w (by simpa using hc) (by simpa using hf) h1
 cases hq : P.info? elem with
 | none=>simp [hq] at hs
 | some i =>
  have hi : i.size=k:=by simpa [hq] using hs
  simp [Builtin.copy_,run_underlying hu,Builtin.lenOf,Builtin.firstCells,sizeOf,typeInfo,hq,hi,← hn,hl,hst]
theorem wF (w : World) (tS tR e : TypeId) (ht : P.underlying tS=some (.slice e)) (size : Nat) (hz : ∀ w,(Go.sizeOf e).run P w=.ok size w)
  (a b : Addr) (la ca lb cb : Nat) (hne : a.block≠b.block) (tA tB : TypeId) (kA kB : Nat)
  (hsa : w.shape? a.block=some (tA,kA)) (hsb : w.shape? b.block=some (tB,kB)) (hkA : kA≠0) (hkB : kB≠0)
  (hfb : w.frozen? b=false) (hfe : w.frozen? { block:=b.block,off:=kB }=false) :
  (Extern.SlicesOverlaps.overlaps #[tS,tS] #[tR] #[.slice (some a) la ca,.slice (some b) lb cb]).run P w=.ok (.bool false) w:=by
 have hnb : (a.block != b.block)=true:=by simpa using hne
 have hnb' : (a.block == b.block)=false:=by simpa using hne
 change Sem.run P (α:=Value) (do
  let some t:=(#[tS,tS] : Array TypeId)[0]? | stuck "slices.overlaps: no parameter types"
  let .slice elem ← underlying t | stuck "slices.overlaps: slice type expected"
  let size ← sizeOf elem
  match (some a : Option Addr),(some b : Option Addr) with
  | some a,some b =>
   if la=0∨lb=0∨size=0 then pure (Value.bool false)
   else if a.block != b.block && (← frozen a) && (← frozen b) then unsupported .addressObserved
   else do
    if a.block != b.block then do
     noView a;noView b
     if ← mayBeOne a b then return Value.bool ((← choose (.extern "sameAddr.stringBytes" 2)) == 1)
    pure (Value.bool (a.block == b.block && a.off < b.off+lb*size && b.off < a.off+la*size))
  | _,_=>pure (Value.bool false)) w=_
 by_cases h0 : la=0∨lb=0∨size=0
 ·simp [run_underlying ht,hz,h0]
 ·cases kB with
  | zero=>exact absurd rfl hkB
  | succ kB =>
   cases kA with
   | zero=>exact absurd rfl hkA
   | succ kA =>
    simp [run_underlying ht,hz,h0,hnb,hnb',frozen,noView,viewAt,mayBeOne,stringish,shape,Sem.run,hsa,hsb,hfb,hfe]
    try (repeat' split)<;>rfl
theorem isSome_setCells (b : Nat) (vs : List Value) (o : Nat) (w : World) (h : ∀ j,j < vs.length→(w.cell? ⟨b,o+j,none⟩).isSome=true) (k : Nat) (hk : (w.cell? ⟨b,k,none⟩).isSome=true) : ((w.setCells b o vs).cell? ⟨b,k,none⟩).isSome=true:=by
 by_cases hin : o≤k∧k < o+vs.length
 ·have:=World.cell?_setCells_in b vs o w h (k-o) (by omega)
  rw [show o+(k-o)=k by omega] at this
  rw [this];rfl
 ·rw [World.cell?_setCells_out b vs o w ⟨b,k,none⟩ (fun _ _=>by show k < o∨o+vs.length≤k;omega)]
  exact hk
theorem t190 : Tryz.prog.underlying 225=some (.slice 216):=by kernel_rfl
theorem NC : (Tryz.prog.info? 216).map (·.size)=some 12:=by kernel_rfl
theorem z196 (w : World) : (Go.sizeOf 216).run Tryz.prog w=.ok 12 w:=Tryz.sizeOf216 w
set_option maxHeartbeats 4000000 in
set_option maxRecDepth 100000 in
theorem shift (b off n c i vb voff vc : Nat) (cs vs : List Value) (w : World) (hi : i < n) (hroom : n+1≤c) (hc63 : n≤10000000) (hvb : vb≠b)
  (hcl : cs.length=n*12) (hvl : vs.length=12)
  (hcs : ∀ j v,cs[j]?=some v→w.cell? ⟨b,off+j,none⟩=some v) (hsp : ∀ j,j < (n+1)*12→(w.cell? ⟨b,off+j,none⟩).isSome=true) (hfz : ∀ x,w.frozen? ⟨b,x,none⟩=false)
  (hvs : ∀ j v,vs[j]?=some v→w.cell? ⟨vb,voff+j,none⟩=some v) (h1c : ∀ v ∈ cs,v.oneCell'=true) (h1v : ∀ v ∈ vs,v.oneCell'=true)
  (tA tB : TypeId) (kA kB : Nat) (hsa : w.shape? vb=some (tA,kA)) (hsb : w.shape? b=some (tB,kB)) (hkA : kA≠0) (hkB : kB≠0) :
  Calls Tryz.prog 216 #[.slice (some ⟨b,off,none⟩) n c,.int .i64 i,.slice (some ⟨vb,voff,none⟩) 1 vc] w fun e w' =>
   e=.returned (.slice (some ⟨b,off,none⟩) (n+1) c)∧w'=(w.drew.setCells b (off+(i+1)*12) (cs.drop (i*12))).setCells b (off+i*12) vs:=by
 have hz2 : ¬ ((i : Int)=(n : Int)):=by omega
 have hov : ∀ lb cb,(callFunc 238 #[.slice (some ⟨vb,voff,none⟩) 1 vc,.slice (some ⟨b,off+(i+1)*12,none⟩) lb cb]).run Tryz.prog w=.ok (.value (.bool false)) w:=fun lb cb=>by
  rw [run_callFunc_extern Tryz.func238 (by kernel_rfl) (by kernel_rfl) (by kernel_rfl) (e:=Extern.SlicesOverlaps.overlaps #[225,225] #[4]) (by kernel_rfl),
   wF w 225 4 216 t190 12 z196 ⟨vb,voff,none⟩ ⟨b,off+(i+1)*12,none⟩ 1 vc lb cb hvb tA tB kA kB hsa hsb hkA hkB (hfz _) (hfz _)]
  rfl
 have hdl : (cs.drop (i*12)).length=n*12-i*12:=by rw [List.length_drop,hcl]
 have hw1 : IntKind.i64.wrap ((i : Int)+1)=(i : Int)+1:=by rw [IntKind.wrap_i64];omega
 have hw2 : IntKind.i64.wrap ((n : Int)+1)=(n : Int)+1:=by rw [IntKind.wrap_i64];omega
 have hb1 : (0 : Int)≤(i : Int)+1:=by omega
 have hin : i≤n:=by omega
 have htn : ((i : Int)+1).toNat=i+1:=by omega
 have htn2 : ((n : Int)+1).toNat=n+1:=by omega
 have hb2 : ¬ (c=i+1):=by omega
 have hb3 : (i : Int)≤(n : Int)+1:=by omega
 have hb4 : ¬ (c=i):=by omega
 have hcp1 : ∀ ty dc sc,(Builtin.copy_ #[225,225] ty #[.slice (some ⟨b,off+(i+1)*12,none⟩) (n-i) dc,.slice (some ⟨b,off+i*12,none⟩) (n+1-i) sc]).run Tryz.prog w.drew=.ok (goInt (Nat.min (n+1-i) (n-i))) (w.drew.setCells b (off+(i+1)*12) (cs.drop (i*12))):=fun ty dc sc =>
  nP w.drew _ _ ty 216 12 b (off+(i+1)*12) (n-i) dc ⟨b,off+i*12,none⟩ (n+1-i) sc (cs.drop (i*12)) t190 NC (by rw [hdl];simp only [Nat.min_def];split<;>omega)
   (fun j v hj=>by rw [Addr.add_lit,Nat.add_assoc];exact hcs (i*12+j) v (by rwa [List.getElem?_drop] at hj))
   (fun j hj=>by rw [Nat.add_assoc];exact hsp _ (by omega)) (fun j hj=>hfz _) (fun v hv=>h1c v (List.mem_of_mem_drop hv))
 obtain ⟨W1,hW1⟩ : ∃ W1,W1=w.drew.setCells b (off+(i+1)*12) (cs.drop (i*12)):=⟨_,rfl⟩
 have hsp1 : ∀ k,k < (n+1)*12→(W1.cell? ⟨b,off+k,none⟩).isSome=true:=fun k hk=>by
  rw [hW1]
  exact isSome_setCells b _ _ _ (fun j hj=>by rw [Nat.add_assoc];exact hsp _ (by omega)) _ (hsp k hk)
 have hcp2 : ∀ (W : World),(∀ x,W.cell? x=W1.cell? x)→(∀ x,W.frozen? x=W1.frozen? x)→∀ ty dc,(Builtin.copy_ #[225,225] ty #[.slice (some ⟨b,off+i*12,none⟩) (n+1-i) dc,.slice (some ⟨vb,voff,none⟩) 1 vc]).run Tryz.prog W=.ok (goInt (Nat.min 1 (n+1-i))) (W.setCells b (off+i*12) vs):=fun W hWc hWf ty dc =>
  nP W _ _ ty 216 12 b (off+i*12) (n+1-i) dc ⟨vb,voff,none⟩ 1 vc vs t190 NC (by rw [hvl];simp only [Nat.min_def];split<;>omega)
   (fun j v hj=>by
    rw [Addr.add_lit,hWc,hW1,World.cell?_setCells_out b _ _ _ _ (fun h _=>absurd h hvb)]
    exact hvs j v hj)
   (fun j hj=>by rw [hWc,Nat.add_assoc];exact hsp1 _ (by omega)) (fun j hj=>by rw [hWf,hW1,World.frozen?_setCells];exact hfz _) h1v
 rw [← hW1] at hcp1
 go_enter Tryz.func216,Tryz.ntmps216
 go_wp2_with (simp only [hov])
 have mixed:=Go.V.mix
 go_region_law_o (refine rQ rfl _ _ 225 225 rfl _ _ (by simp [Act.eval,Act.put]) (by simp [Act.eval,Act.put]) (hcp1 _ _ _) ?_)
 go_wp2_with (at_builtin;refine wpList_copy_run _ rfl _ _ 225 225 rfl _ _ rfl rfl (hcp2 _ (fun _=>rfl) (fun _=>rfl) _ _) ?_)
 go_ret
 first | exact ⟨rfl,rfl⟩ | exact ⟨rfl,by rw [hW1]⟩
end Go.V.Ins
