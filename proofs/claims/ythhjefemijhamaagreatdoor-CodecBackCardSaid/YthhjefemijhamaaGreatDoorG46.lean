/- Texts J8. -/
import Derived.Carry
import Derived.Test.YthhjefemijhamaaGreatDoorG41
import Derived.Test.YthhjefemijhamaaGreatDoorG43
set_option linter.unusedVariables false
set_option linter.unusedSimpArgs false
namespace Go.V
open Go.Proofs Go.Proofs.YthhjefemijhamaaGreatDoor
open Go.ChangeShapes Go.WideShapes Go.ChangeAt Go.RowKit
set_option maxRecDepth 100000
def fTree (n : String) (t o b : Nat) : Field:={ name:=n,type:=t,offset:=o,embedded:=false,tag := "",pkgPath := "",byteOffset:=b }
theorem j_u28 : Tryz.prog.underlying 28=some (.struct #[fTree "Kind" 3 0 0,fTree "Int" 2 1 8,fTree "Text" 9 2 16,fTree "Keys" 25 3 32,fTree "Items" 26 4 56]):=by kernel_rfl
theorem j_u25 : Tryz.prog.underlying 25=some (.slice 9):=by kernel_rfl
theorem j_u26 : Tryz.prog.underlying 26=some (.slice 28):=by kernel_rfl
theorem j_u2 : Tryz.prog.underlying 2=some (.int .i64):=by kernel_rfl
theorem j_c28 : Tryz.prog.cellsOf 28=5:=by kernel_rfl
theorem j_c25 : Tryz.prog.cellsOf 25=1:=by kernel_rfl
theorem j_c26 : Tryz.prog.cellsOf 26=1:=by kernel_rfl
theorem j_c2 : Tryz.prog.cellsOf 2=1:=by kernel_rfl
section
variable {H : Type} {enc : TypeId × Value→H} {w : World} {base : Nat} {sp : Nat→Bool} {held : Bool}
theorem open_sl {t e k fuel : Nat} {cs : List Value} {x : DataW H × List MemPlace} (ht : Tryz.prog.underlying t=some (.slice e)) (hk : Tryz.prog.cellsOf e=k) (hk0 : 0 < k) (hsp : ∀ b,sp b=true) (h : DataW.trod enc Tryz.prog w base sp held fuel t cs=some x) :
  cs=[.slice none 0 0]∨(∃ a,cs=[.slice (some a) 0 0])∨∃ b o len cap n,fuel=n+1∧cs=[.slice (some ⟨b,o,none⟩) len cap]∧len≤cap∧cap≤maxLen ∧
   ∀ i,i < len→∃ cs' y,cs'.length=k∧(∀ j,j < k→w.cell? ⟨b,o+i*k+j,none⟩=cs'[j]?)∧DataW.trod enc Tryz.prog w base sp held n e cs'=some y:=by
 rcases DataW.trod_slice ht h with ⟨h0,_⟩ | ⟨a,len,cap,elems,rest,n,hf,rfl,_,hb,hl,hm,hlen,hel,hrest,_⟩
 ·exact .inl h0
 right
 rw [hk] at hel hrest
 have one : ∀ i,i < cap→∃ cs' y,w.cells? base (a.add (i*k)) k=some cs'∧DataW.trod enc Tryz.prog w base sp held n e cs'=some y:=by
  intro i hi
  by_cases h1 : i < len
  ·have:=hel i h1
   rw [List.getElem?_eq_getElem (by omega)] at this
   obtain ⟨cs',h2,h3⟩:=Option.bind_eq_some_iff.1 this
   exact ⟨cs',_,h2,h3⟩
  ·obtain ⟨r1,r2⟩:=hrest (hsp _)
   have:=r2 (i-len) (by omega)
   rw [List.getElem?_eq_getElem (by omega),show len+(i-len)=i by omega] at this
   obtain ⟨cs',h2,h3⟩:=Option.bind_eq_some_iff.1 this
   exact ⟨cs',_,h2,h3⟩
 by_cases hc : cap=0
 ·obtain rfl : len=0:=by omega
  subst hc
  exact .inl ⟨a,rfl⟩
 right
 have hspot : a.spot=none:=by
  obtain ⟨cs',y,h2,_⟩:=one 0 (by omega)
  obtain ⟨_,h4,h5⟩:=World.cells?_some h2
  have:=h5 0 hk0
  rw [List.getElem?_eq_getElem (by omega)] at this
  simp only [Nat.zero_mul,Addr.add,if_true] at this
  unfold World.cell? at this
  split at this
  ·split at this
   ·cases this
   ·rename_i hs;simpa using hs
  ·cases this
 obtain ⟨b,o,s⟩:=a
 simp only at hspot
 subst hspot
 refine ⟨b,o,len,cap,n,hf,rfl,hl,hm,fun i hi=>?_⟩
 obtain ⟨cs',y,h2,h3⟩:=one i (by omega)
 obtain ⟨_,h4,h5⟩:=World.cells?_some h2
 refine ⟨cs',y,h4,fun j hj=>?_,h3⟩
 rw [← h5 j hj]
 congr 1
 unfold Addr.add
 split<;>split<;>simp_all [Nat.add_assoc]
theorem choose_list {α : Type} {n : Nat} {p : Nat→α→Prop} (h : ∀ i,i < n→∃ x,p i x) : ∃ l : List α,l.length=n∧∀ (i : Nat) (hi : i < l.length),p i l[i]:=by
 induction n with
 | zero=>exact ⟨[],rfl,fun i hi=>absurd hi (Nat.not_lt_zero _)⟩
 | succ n ih =>
  obtain ⟨l,hl,hp⟩:=ih fun i hi=>h i (by omega)
  obtain ⟨x,hx⟩:=h n (by omega)
  refine ⟨l++[x],by simp [hl],fun i hi=>?_⟩
  by_cases h1 : i < l.length
  ·rw [List.getElem_append_left h1];exact hp i h1
  ·have : i=n:=by simp at hi;omega
   subst this
   subst hl
   simpa using hx
theorem vc_rows {O : Nat→Prop} {μ : List Loc} {b k : Nat} : ∀ (l : List (List VV)) (o : Nat),(∀ i (hi : i < l.length),l[i].length=k∧∀ j x,l[i][j]?=some x→∃ v,w.cell? ⟨b,o+i*k+j,none⟩=some v∧VR w O μ x v)→VC w O μ l.flatten b o
 | [],_,_=>by simp [VC]
 | c::l,o,h=>by
  have h0:=h 0 (by simp)
  simp only [List.getElem_cons_zero,Nat.zero_mul,Nat.add_zero] at h0
  rw [List.flatten_cons]
  refine VC.append (VC_iff.2 h0.2) ?_
  rw [h0.1]
  refine vc_rows (k:=k) l (o+k) fun i hi=>?_
  have:=h (i+1) (by simpa using hi)
  simp only [List.getElem_cons_succ] at this
  rwa [show o+(i+1)*k=o+k+i*k by rw [Nat.succ_mul];omega] at this
def NoO (O : Nat→Prop) : Prop:=∀ b,¬ O b
theorem open_strs {O : Nat→Prop} (hO : NoO O) {fuel : Nat} {cs : List Value} {x : DataW H × List MemPlace} (hsp : ∀ b,sp b=true) (h : DataW.trod enc Tryz.prog w base sp held fuel 25 cs=some x) :
  ∃ (keys : List Bs) (kv : VV) (v : Value),cs=[v]∧VR w O [] kv v∧SlV 1 kv (keys.map fun b=>[VV.str b])∧keys.length≤9223372036854775807:=by
 rcases open_sl j_u25 j_c9 (by decide) hsp h with rfl | ⟨a,rfl⟩ | ⟨b,o,len,cap,n,_,rfl,hl,hm,hel⟩
 ·exact ⟨[],.nils,_,rfl,by simp only [VR],.nil,by simp⟩
 ·exact ⟨[],.sl 0 [] false,_,rfl,by simp only [VR];exact .inr ⟨trivial,trivial,a,rfl⟩,SlV.of .nil rfl rfl,by simp⟩
 ·obtain ⟨keys,hkl,hk⟩:=choose_list (p:=fun i (s : Bs)=>w.cell? ⟨b,o+i*1+0,none⟩=some (.string ⟨s.toArray⟩)) (n:=len) (fun i hi=>by
   obtain ⟨cs',y,c1,c2,c3⟩:=hel i hi
   obtain ⟨s,rfl,_,_⟩:=DataW.trod_string j_und9 c3
   exact ⟨s.data.toList,by rw [c2 0 (by decide)];simp⟩)
  have hB : Blk 1 (keys.map fun b=>[VV.str b]):=⟨by simp,by simp [VV.arePure,VV.isPure],by simp [allCells,VV.isCell]⟩
  refine ⟨keys,.sl len (keys.map fun b=>[VV.str b]).flatten false,_,rfl, ?_,SlV.of hB (by simp [hkl]) rfl,by rw [hkl];have : maxLen=9223372036854775807:=rfl;omega⟩
  simp only [VR]
  refine .inl ⟨b,o,cap,rfl,hl,by simp,.inr (hO b),vc_rows (k:=1) _ _ fun i hi=>⟨by simp,fun j x hx=>?_⟩⟩
  simp only [List.length_map] at hi
  simp only [List.getElem_map] at hx
  match j,hx with
  | 0,hx =>
   simp only [List.getElem?_cons_zero,Option.some.injEq] at hx
   subst hx
   exact ⟨_,hk i hi,by simp only [VR]⟩
theorem TrVs_of : ∀ (l : List (Tr × List VV)),(∀ p ∈ l,TrV p.1 p.2)→TrVs (l.map (·.1)) (l.map (·.2))
 | [],_=>.nil
 | p::l,h=>.cons (h p (by simp)) (TrVs_of l fun q hq=>h q (by simp [hq]))
theorem open_tree {O : Nat→Prop} (hO : NoO O) (hsp : ∀ b,sp b=true) : ∀ (fuel : Nat) (cs : List Value) (x : DataW H × List MemPlace),DataW.trod enc Tryz.prog w base sp held fuel 28 cs=some x →
  ∃ (t : Tr) (c : List VV),TrV t c∧TrOK t∧VRs w O [] c cs:=by
 intro fuel
 induction fuel using Nat.strongRecOn with
 | ind fuel ih =>
 intro cs x h
 obtain ⟨xs,n,rfl,_,hcl,hxl,hf⟩:=DataW.trod_struct j_u28 h
 rw [j_c28] at hcl
 match cs,hcl with
 | [v0,v1,v2,v3,v4],_ =>
  have g : ∀ {i : Nat} {f : Field},i < 5→#[fTree "Kind" 3 0 0,fTree "Int" 2 1 8,fTree "Text" 9 2 16,fTree "Keys" 25 3 32,fTree "Items" 26 4 56][i]?=some f→∃ y,DataW.trod enc Tryz.prog w base sp held n f.type (([v0,v1,v2,v3,v4].drop f.offset).take (Tryz.prog.cellsOf f.type))=some y:=by
   intro i f hi hfi
   have:=hf i f hfi
   rw [List.getElem?_eq_getElem (by rw [hxl];exact hi)] at this
   exact ⟨_,this⟩
  obtain ⟨y0,g0⟩:=g (i:=0) (f:=fTree "Kind" 3 0 0) (by decide) rfl
  obtain ⟨y1,g1⟩:=g (i:=1) (f:=fTree "Int" 2 1 8) (by decide) rfl
  obtain ⟨y2,g2⟩:=g (i:=2) (f:=fTree "Text" 9 2 16) (by decide) rfl
  obtain ⟨y3,g3⟩:=g (i:=3) (f:=fTree "Keys" 25 3 32) (by decide) rfl
  obtain ⟨y4,g4⟩:=g (i:=4) (f:=fTree "Items" 26 4 56) (by decide) rfl
  simp only [fTree,j_c3,j_c2,j_c9,j_c25,j_c26,List.drop_zero,List.drop_succ_cons,List.take_succ_cons,List.take_zero] at g0 g1 g2 g3 g4
  obtain ⟨k,e0,_,w0⟩:=DataW.trod_int j_und3 g0
  obtain ⟨i,e1,_,w1⟩:=DataW.trod_int j_u2 g1
  obtain ⟨s,e2,_,_⟩:=DataW.trod_string j_und9 g2
  obtain ⟨keys,kv,u3,e3,hkv,hks,hkl⟩:=open_strs hO hsp g3
  simp only [List.cons.injEq,and_true] at e0 e1 e2 e3
  subst e0 e1 e2 e3
  have wk : -9223372036854775808≤k∧k≤9223372036854775807:=by simpa [Lit.wf,IntKind.min,IntKind.max,IntKind.signed,IntKind.bits] using w0
  have wi : -9223372036854775808≤i∧i≤9223372036854775807:=by simpa [Lit.wf,IntKind.min,IntKind.max,IntKind.signed,IntKind.bits] using w1
  have fin' : ∀ (items : List Tr) (iv : VV) (ics : List (List VV)),TrVs items ics→SlV 5 iv ics→items.length≤9223372036854775807→(∀ x ∈ items,TrOK x)→VR w O [] iv v4 →
    ∃ (t : Tr) (c : List VV),TrV t c∧TrOK t∧VRs w O [] c [.int .i64 k,.int .i64 i,.string s,v3,v4]:=by
   intro items iv ics h1 h2 h3 h4 h5
   refine ⟨.node k i s.data.toList keys items,_,.node hks h1 h2 hkl h3 wk.1 wk.2 wi.1 wi.2,.node wi.1 wi.2 h4, ?_⟩
   simp only [VRs,VR]
   exact ⟨_,_,rfl,rfl,_,_,rfl,rfl,_,_,rfl,rfl,_,_,rfl,hkv,_,_,rfl,h5,rfl⟩
  rcases open_sl j_u26 j_c28 (by decide) hsp g4 with e4 | ⟨a,e4⟩ | ⟨b,o,len,cap,m,rfl,e4,hl,hm,hel⟩
  ·simp only [List.cons.injEq,and_true] at e4
   subst e4
   exact fin' [] .nils [] .nil .nil (by simp) (by simp) (by simp only [VR])
  ·simp only [List.cons.injEq,and_true] at e4
   subst e4
   exact fin' [] (.sl 0 [] false) [] .nil (SlV.of .nil rfl rfl) (by simp) (by simp) (by simp only [VR];exact .inr ⟨trivial,trivial,a,rfl⟩)
  ·simp only [List.cons.injEq,and_true] at e4
   subst e4
   obtain ⟨l,hll,hlp⟩:=choose_list (p:=fun i (p : Tr × List VV)=>TrV p.1 p.2∧TrOK p.1∧∃ cs',cs'.length=5∧(∀ j,j < 5→w.cell? ⟨b,o+i*5+j,none⟩=cs'[j]?)∧VRs w O [] p.2 cs') (n:=len) (fun i hi=>by
    obtain ⟨cs',y,c1,c2,c3⟩:=hel i hi
    obtain ⟨t,c,t1,t2,t3⟩:=ih m (by omega) cs' y c3
    exact ⟨(t,c),t1,t2,cs',c1,c2,t3⟩)
   have hmem : ∀ p ∈ l,TrV p.1 p.2∧TrOK p.1:=fun p hp=>by
    obtain ⟨i,hi,rfl⟩:=List.getElem_of_mem hp
    exact ⟨(hlp i hi).1,(hlp i hi).2.1⟩
   have hB : Blk 5 (l.map (·.2)):=⟨fun c hc=>by
     obtain ⟨p,hp,rfl⟩:=List.mem_map.1 hc;exact (hmem p hp).1.cells.1,fun c hc=>by
     obtain ⟨p,hp,rfl⟩:=List.mem_map.1 hc;exact (hmem p hp).1.cells.2.1,fun c hc=>by
     obtain ⟨p,hp,rfl⟩:=List.mem_map.1 hc;exact (hmem p hp).1.cells.2.2⟩
   refine fin' (l.map (·.1)) (.sl len (l.map (·.2)).flatten false) (l.map (·.2)) (TrVs_of l fun p hp=>(hmem p hp).1) (SlV.of hB (by simp [hll]) rfl) (by rw [List.length_map,hll];have : maxLen=9223372036854775807:=rfl;omega) (fun x hx=>by
    obtain ⟨p,hp,rfl⟩:=List.mem_map.1 hx;exact (hmem p hp).2) ?_
   simp only [VR]
   refine .inl ⟨b,o,cap,rfl,hl,by simp,.inr (hO b),vc_rows (k:=5) _ _ fun i hi=>?_⟩
   simp only [List.length_map] at hi
   obtain ⟨t1,_,cs',c1,c2,c3⟩:=hlp i hi
   simp only [List.getElem_map]
   refine ⟨t1.cells.1,fun j x hx=>?_⟩
   obtain ⟨v,hv,hxv⟩:=c3.get hx
   have hj : j < 5:=by have:=(List.getElem?_eq_some_iff.1 hx).1;rw [t1.cells.1] at this;exact this
   exact ⟨v,by rw [c2 j hj];exact hv,hxv⟩
end
end Go.V
