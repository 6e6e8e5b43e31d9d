/- Texts J3. -/
import Derived.JoinedOf
import Derived.LaidHandle
import Derived.RowKit
import Derived.SevenTiedAt
import Derived.Test.YthhjefemijhamaaGreatDoorG40
set_option linter.unusedVariables false
set_option linter.unusedSimpArgs false
namespace Go.V
open Go.Proofs Go.Proofs.YthhjefemijhamaaGreatDoor
open Go.ChangeShapes Go.WideShapes Go.ChangeAt Go.RowKit
set_option maxRecDepth 100000
theorem Fp : Tryz.prog.underlying 3=some (.int .i64):=by kernel_rfl
theorem TI : Tryz.prog.underlying 4=some .bool:=by kernel_rfl
theorem XJ : Tryz.prog.cellsOf 24=2:=by kernel_rfl
theorem XE : Tryz.prog.cellsOf 22=1:=by kernel_rfl
theorem aar : Tryz.prog.cellsOf 3=1:=by kernel_rfl
def SB : Field:={ name := "Seed",type:=22,offset:=0,embedded:=false,tag := "",pkgPath := "",byteOffset:=0 }
def Tq : Field:={ name := "Bits",type:=3,offset:=1,embedded:=false,tag := "",pkgPath := "",byteOffset:=8 }
theorem Uf : Tryz.prog.underlying 24=some (.struct #[SB,Tq]):=by kernel_rfl
theorem XB : Tryz.prog.underlying 22=some (.int .u64):=by kernel_rfl
theorem Eo {H : Type} {enc : TypeId × Value→H} {w : World} {base : Nat} {sp : Nat→Bool} {held : Bool} {r : Reach} {b0 : Nat} {v : Value} {d : DataW H} {ps : List MemPlace} (hval : Value.okWide Tryz.prog w r b0 24 v) (hd : DataW.Trod enc Tryz.prog w base sp held 24 v d ps) :
  ∃ a b : Int,v=.agg #[.int .u64 a,.int .i64 b]∧ps=[]∧d=.agg [.lit (.int .u64 a),.lit (.int .i64 b)]∧(Lit.int .u64 a).wf=true∧(Lit.int .i64 b).wf=true:=by
 obtain ⟨cs,rfl,hsz⟩:=okWide_struct Uf hval
 obtain ⟨fuel,hf⟩:=hd
 obtain ⟨y0,y1,n,hxy,hl,h0,h1⟩:=trod_struct2 Uf hf
 obtain ⟨a,ha,ha',wa⟩:=DataW.trod_int XB h0
 obtain ⟨b,hb,hb',wb⟩:=DataW.trod_int Fp h1
 rw [XJ] at hl
 simp only [SB,Tq,XE,aar,Value.cells,List.drop_zero] at ha hb hl
 match cs,hl with
 | ⟨[x,y]⟩,_ =>
  simp at ha hb
  subst ha hb
  refine ⟨a,b,rfl, ?_, ?_,wa,wb⟩
  ·have:=congrArg Prod.snd hxy
   simpa [ha',hb'] using this
  ·have:=congrArg Prod.fst hxy
   simpa [ha',hb'] using this
theorem ED {H : Type} {enc : TypeId × Value→H} {w : World} {base : Nat} {sp : Nat→Bool} {held : Bool} {a b : Int} (wa : (Lit.int .u64 a).wf=true) (wb : (Lit.int .i64 b).wf=true) : DataW.Trod enc Tryz.prog w base sp held 24 (.agg #[.int .u64 a,.int .i64 b]) (.agg [.lit (.int .u64 a),.lit (.int .i64 b)]) []:=by
 refine ⟨2, ?_⟩
 have:=trod_struct2_mk (enc:=enc) (w:=w) (base:=base) (spare:=sp) (held:=held) (n:=1) (cs:=[.int .u64 a,.int .i64 b]) Uf (by rw [XJ];rfl) (by rw [show SB.type=22 from rfl,XE];exact trod_int_mk 0 XB wa) (by rw [show Tq.type=3 from rfl,aar];exact trod_int_mk 0 Fp wb)
 exact this
theorem VE {σ : Store} : ∀ {n : Nat} {y : VV} {b : Bool},fz n σ y=some (.bool b)→y=.bool b:=by
 intro n y b h
 cases n with
 | zero=>unfold fz at h;split at h<;>cases h;rfl
 | succ n =>
  unfold fz at h
  split at h
  ·cases h;rfl
  ·exfalso
   repeat' split at h
   all_goals first
    | cases h;done
    | (simp only [Option.map_eq_some_iff] at h;obtain ⟨_,_,h⟩:=h;cases h;done)
    | (simp only [Option.bind_eq_bind,Option.bind_eq_some_iff] at h;obtain ⟨_,_,_,_,h⟩:=h;cases h;done)
theorem Hg {f : FuncId} {xs : List VV} {x : VV} (h : PV Tryz.prog G0 f xs x) {W : World} {vs : Array Value} (hL : laidMetH Tryz.prog uX W) (hv : dF W (OO (fun _=>False) [] []) [] xs vs.toList) :
  Calls Tryz.prog f vs W fun e W'=>∃ r σ' μ',(∃ y n,r=dX.ret y∧fz n (σ'.map Obj.fr) y=some x)∧Frame W [] [] W' σ' μ'∧SR (fun _=>False) W' σ' μ'∧lu W' (OO (fun _=>False) σ' μ') μ' r e :=
 (h.2.2.2 (fun _=>False) W [] vs ⟨rfl,by simp,by simp,by simp,by simp⟩ (LC hL) hv).calls fun _=>by simp [Fence.room,Fence.wide]
theorem CY {f : FuncId} {xs : List VV} (h : PV Tryz.prog G0 f xs (.bool true)) {W : World} {vs : Array Value} (hL : laidMetH Tryz.prog uX W) (hv : dF W (OO (fun _=>False) [] []) [] xs vs.toList) :
  Calls Tryz.prog f vs W fun e W'=>e=.returned (.bool true)∧Below W.heap.size W W':=by
 refine (Hg h hL hv).mono fun e W' ⟨r,σ',μ',⟨y,n,hr,hy⟩,hF,hS,hE⟩=>?_
 subst hr
 have:=VE hy
 subst this
 constructor
 ·cases e with
  | returned v=>simp only [lu,VR] at hE;rw [hE]
  | panicked c=>exact hE.elim
  | outgrown=>exact hE.elim
 ·exact ⟨hF.os,hF.tape,hF.output,hF.size,fun k hk=>hF.heap k hk (by rintro ⟨id,L,o,h,_⟩;simp at h)⟩
noncomputable def laidWorld (os : Os) : World :=
 let w0:=World.laidAll Tryz.prog os [("math/bits.deBruijn32tab",Rows.laid_math_bits_deBruijn32tab),("placket/lex.signs",Rows.laid_placket_lex_signs)]
 { w0 with heap:=w0.heap.modify 0 fun
   | .cells _ t frozen=>.cells #[.iface 222 (.agg #[.pointer (some ⟨3,50,none⟩)])] t frozen
   | o=>o }
theorem laidWorld_met (os : Os) (args : Array Value) : laidMetH Tryz.prog uX ((laidWorld os).forCall (fun _ _=>0) ⟨#[],args,[]⟩).memory :=
 laidMetH_of_parts (laidMet_of_run' 8 (by kernel_rfl) (by kernel_rfl)) (by kernel_rfl)
end Go.V
