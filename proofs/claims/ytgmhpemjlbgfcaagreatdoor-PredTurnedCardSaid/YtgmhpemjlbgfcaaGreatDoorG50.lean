/- Texts J23. -/
import Derived.Test.YtgmhpemjlbgfcaaGreatDoorG44
import Derived.Test.YtgmhpemjlbgfcaaGreatDoorG45
import Derived.Test.YtgmhpemjlbgfcaaGreatDoorG49
set_option linter.unusedVariables false
set_option linter.unusedSimpArgs false
namespace Go.V
open Go.Proofs Go.Proofs.YtgmhpemjlbgfcaaGreatDoor
open Go.ChangeShapes Go.WideShapes Go.ChangeAt Go.RowKit
set_option maxRecDepth 100000
theorem aaG : Tryz.prog.underlying 37=some (.struct #[fJ "Kind" 3 0 0,fJ "Int" 2 1 8,fJ "Text" 9 2 16]):=by kernel_rfl
theorem Z9 : Tryz.prog.cellsOf 37=3:=by kernel_rfl
theorem aau : Tryz.prog.underlying 53=some (.struct #[fJ "Kind" 3 0 0,fJ "Path" 51 1 8,fJ "Op" 3 2 32,fJ "Const" 37 3 40]):=by kernel_rfl
theorem ZJ : Tryz.prog.cellsOf 53=6:=by kernel_rfl
theorem aar : Tryz.prog.cellsOf 51=1:=by kernel_rfl
section
variable {H : Type} {enc : TypeId × Value→H} {w : World} {base : Nat} {sp : Nat→Bool} {held : Bool}
theorem Zw {fuel : Nat} {cs : List Value} {x : DataW H × List MemPlace} (h : DataW.trod enc Tryz.prog w base sp held fuel 37 cs=some x) :
  ∃ (k i : Int) (t : ByteArray),(-9223372036854775808≤i∧i≤9223372036854775807)∧cs=[.int .i64 k,.int .i64 i,.string t]:=by
 obtain ⟨xs,n,rfl,_,hcl,hxl,hf⟩:=DataW.trod_struct aaG h
 rw [Z9] at hcl
 match cs,hcl with
 | [v0,v1,v2],_ =>
  have g : ∀ {i : Nat} {f : Field},i < 3→#[fJ "Kind" 3 0 0,fJ "Int" 2 1 8,fJ "Text" 9 2 16][i]?=some f→∃ y,DataW.trod enc Tryz.prog w base sp held n f.type (([v0,v1,v2].drop f.offset).take (Tryz.prog.cellsOf f.type))=some y:=by
   intro i f hi hfi
   have:=hf i f hfi
   rw [List.getElem?_eq_getElem (by rw [hxl];exact hi)] at this
   exact ⟨_,this⟩
  obtain ⟨y0,g0⟩:=g (i:=0) (f:=fJ "Kind" 3 0 0) (by decide) rfl
  obtain ⟨y1,g1⟩:=g (i:=1) (f:=fJ "Int" 2 1 8) (by decide) rfl
  obtain ⟨y2,g2⟩:=g (i:=2) (f:=fJ "Text" 9 2 16) (by decide) rfl
  simp only [fJ,Qx,XG,QH,List.drop_zero,List.drop_succ_cons,List.take_succ_cons,List.take_zero] at g0 g1 g2
  obtain ⟨a0,e0,_,w0⟩:=DataW.trod_int sJ g0
  obtain ⟨a1,e1,_,w1⟩:=DataW.trod_int Xx g1
  obtain ⟨t,e2,_,_⟩:=DataW.trod_string BO g2
  simp only [List.cons.injEq,and_true] at e0 e1 e2
  subst e0 e1 e2
  exact ⟨a0,a1,t,by simpa [Lit.wf,IntKind.min,IntKind.max,IntKind.signed,IntKind.bits] using w1,rfl⟩
theorem ZN {O : Nat→Prop} (hO : Xj O) {fuel : Nat} {cs : List Value} {x : DataW H × List MemPlace} (hsp : ∀ b,sp b=true) (h : DataW.trod enc Tryz.prog w base sp held fuel 53 cs=some x) :
  ∃ (a : Am) (c : List VV),ZI a c∧bI w O [] c cs:=by
 obtain ⟨xs,n,rfl,_,hcl,hxl,hf⟩:=DataW.trod_struct aau h
 rw [ZJ] at hcl
 match cs,hcl with
 | [v0,v1,v2,v3,v4,v5],_ =>
  have g : ∀ {i : Nat} {f : Field},i < 4→#[fJ "Kind" 3 0 0,fJ "Path" 51 1 8,fJ "Op" 3 2 32,fJ "Const" 37 3 40][i]?=some f→∃ y,DataW.trod enc Tryz.prog w base sp held n f.type (([v0,v1,v2,v3,v4,v5].drop f.offset).take (Tryz.prog.cellsOf f.type))=some y:=by
   intro i f hi hfi
   have:=hf i f hfi
   rw [List.getElem?_eq_getElem (by rw [hxl];exact hi)] at this
   exact ⟨_,this⟩
  obtain ⟨y0,g0⟩:=g (i:=0) (f:=fJ "Kind" 3 0 0) (by decide) rfl
  obtain ⟨y1,g1⟩:=g (i:=1) (f:=fJ "Path" 51 1 8) (by decide) rfl
  obtain ⟨y2,g2⟩:=g (i:=2) (f:=fJ "Op" 3 2 32) (by decide) rfl
  obtain ⟨y3,g3⟩:=g (i:=3) (f:=fJ "Const" 37 3 40) (by decide) rfl
  simp only [fJ,Qx,aar,Z9,List.drop_zero,List.drop_succ_cons,List.take_succ_cons,List.take_zero] at g0 g1 g2 g3
  obtain ⟨a0,e0,_,w0⟩:=DataW.trod_int sJ g0
  obtain ⟨l,pw,u1,e1,r1,r2,r3,r4⟩:=JD hO hsp g1
  obtain ⟨a2,e2,_,w2⟩:=DataW.trod_int sJ g2
  obtain ⟨k,i,t,hi,e3⟩:=Zw g3
  simp only [List.cons.injEq,and_true] at e0 e1 e2 e3
  obtain ⟨e3,e4,e5⟩:=e3
  subst e0 e1 e2 e3 e4 e5
  refine ⟨⟨a0,l,a2,k,i,t.data.toList⟩,_,.mk (pw:=pw) r2 r4 r3 hi, ?_⟩
  simp only [Am.cells,bI,VR]
  exact ⟨_,_,rfl,rfl,_,_,rfl,r1,_,_,rfl,rfl,_,_,rfl,rfl,_,_,rfl,rfl,_,_,rfl,rfl,rfl⟩
end
end Go.V
