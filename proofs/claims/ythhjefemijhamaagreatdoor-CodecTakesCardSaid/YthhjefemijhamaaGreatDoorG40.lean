/- Texts J1 J2. -/
import Derived.ChangeSame
import Derived.Handy
import Derived.Lay
import Derived.OpenShut
import Derived.ProofKit
import Derived.Test.YthhjefemijhamaaGreatDoorTie
import Derived.WalkKit
import Derived.Test.YthhjefemijhamaaGreatDoorG39
set_option linter.unusedVariables false
set_option linter.unusedSimpArgs false
namespace Go.V
open Go.Proofs Go.Proofs.YthhjefemijhamaaGreatDoor
set_option maxRecDepth 100000
theorem Xx : ownKnob Tryz.prog.godebug=none:=by kernel_rfl
theorem ZN : Tryz.prog.globalNamed "placket/lex.signs"=some 1:=by kernel_rfl
theorem ZJ : Tryz.prog.globalNamed "math/bits.deBruijn32tab"=some 2:=by kernel_rfl
theorem aa7 : Tryz.prog.globalNamed "errors.errorType"=some 0:=by kernel_rfl
theorem aaQ : (Tryz.prog.cutTypes.find? (·.1 == "internal/reflectlite.rtype")).map (·.2)=some 222:=by kernel_rfl
theorem YP : Tryz.prog.types.size=329:=by kernel_rfl
theorem ZE : ((List.range 329).filter fun t=>Tryz.prog.rowNamed t [101,114,114,111,114])=[50]:=by kernel_rfl
theorem Yo : typeHandle Tryz.prog 50=.pointer (some ⟨3,50,none⟩):=by kernel_rfl
theorem C9 : Tryz.prog.underlying 9=some .string:=by kernel_rfl
theorem Zq : Tryz.prog.underlying 5=some (.int .u8):=by kernel_rfl
end Go.V
namespace Go.V
open Go.Proofs Go.Proofs.YthhjefemijhamaaGreatDoor
set_option maxRecDepth 100000
theorem ZP : (Tryz.prog.globals[1]?).map (·.type)=some 202:=by kernel_rfl
theorem aag : (Tryz.prog.globals[2]?).map (·.type)=some 291:=by kernel_rfl
theorem YR : Tryz.prog.underlying 202=some (.array 23 9):=by kernel_rfl
theorem Zd : Tryz.prog.underlying 291=some (.array 32 5):=by kernel_rfl
theorem aaT : Tryz.prog.cellsOf 9=1:=by kernel_rfl
theorem aaX : Tryz.prog.cellsOf 5=1:=by kernel_rfl
theorem XO {w : World} {O : Nat→Prop} {μ : List Loc} {b : Nat} : ∀ (cells : List VV) (o : Nat),(∀ i x,cells[i]?=some x→∃ v,w.cell? ⟨b,o+i,none⟩=some v∧VR w O μ x v)→VC w O μ cells b o
 | [],_,_=>by unfold VC;trivial
 | x::xs,o,h=>by
  unfold VC
  refine ⟨by have:=h 0 x rfl;simpa using this,XO xs (o+1) fun i y hy=>?_⟩
  have:=h (i+1) y (by simpa using hy)
  rwa [show o+(i+1)=o+1+i by omega] at this
def uX : List (String × DataW Unit):=[("math/bits.deBruijn32tab",Rows.laid_math_bits_deBruijn32tab),("errors.errorType",Rows.laid_errors_errorType),("placket/lex.signs",Rows.laid_placket_lex_signs)]
theorem VT : (Rows.laid_placket_lex_signs : DataW Unit)=.agg (aX.map fun s=>.lit (.string s)):=rfl
theorem Us : (Rows.laid_math_bits_deBruijn32tab : DataW Unit)=.agg (jk.map fun n=>.lit (.int .u8 n)):=rfl
theorem LC {W : World} (h : laidMetH Tryz.prog uX W) : MC G0 W (OO (fun _=>False) [] []) []:=by
 have h' : laidMet Tryz.prog [("math/bits.deBruijn32tab",Rows.laid_math_bits_deBruijn32tab),("placket/lex.signs",Rows.laid_placket_lex_signs)] W∧handlesMet Tryz.prog [("errors.errorType",Rows.laid_errors_errorType)] W:=h
 obtain ⟨⟨ps,hL,_,_⟩,hH⟩:=h'
 obtain ⟨g,t,cs,fuel,p,q,e1,e2,e3,e4,hL2,_⟩:=hL
 obtain ⟨g',t',cs',fuel',p',q',f1,f2,f3,f4,_,_⟩:=hL2
 obtain ⟨name,u,ty,k1,k2,k3,k4,k5⟩:=hH _ (List.mem_singleton.2 rfl)
 obtain rfl:=Option.some.inj (ZJ.symm.trans e1)
 obtain rfl:=Option.some.inj (aag.symm.trans e2)
 obtain rfl:=Option.some.inj (ZN.symm.trans f1)
 obtain rfl:=Option.some.inj (ZP.symm.trans f2)
 have en : name=[101,114,114,111,114]:=(Option.some.inj k1).symm
 subst en
 obtain rfl:=Option.some.inj (aaQ.symm.trans k2)
 have hm : ty ∈ (List.range 329).filter fun t=>Tryz.prog.rowNamed t [101,114,114,111,114]:=List.mem_filter.2 ⟨List.mem_range.2 (by rw [← YP];exact k3),k4⟩
 rw [ZE] at hm
 obtain rfl:=List.mem_singleton.1 hm
 rw [Yo] at k5
 intro g cells hg
 have hO : ∀ b,¬ OO (fun _=>False) [] [] b:=by intro b;rw [RG];exact fun h=>h
 unfold VR
 refine ⟨g,0,rfl,.inr (hO g),XO cells 0 fun i x hx=>?_⟩
 unfold G0 at hg
 split at hg
 ·rename_i hge
  subst hge
  cases hg
  obtain ⟨xs,m,rfl,hxs,hl,hn,hi⟩:=DataW.trod_array YR f4
  rw [List.getElem?_map,Option.map_eq_some_iff] at hx
  obtain ⟨s,hs,rfl⟩:=hx
  have hil:=(List.getElem?_eq_some_iff.1 hs).1
  rw [oP] at hil
  have h1:=hi i hil
  rw [aaT,List.getElem?_eq_getElem (by omega)] at h1
  obtain ⟨s',hc,hx',_⟩:=DataW.trod_string C9 h1
  rw [Nat.mul_one] at hc
  have hci : cs'[i]?=some (.string s'):=by
   have:=congrArg (·[0]?) hc
   simpa using this
  refine ⟨.string s',by rw [Nat.zero_add,World.var?_cell ZN f3 i];exact hci, ?_⟩
  have hag : (aX.map fun s=>(DataW.lit (.string s) : DataW Unit))=xs.map (·.1):=DataW.agg.inj (VT.symm.trans (congrArg Prod.fst hxs))
  have h2:=congrArg (·[i]?) hag
  simp only [List.getElem?_map,hs,Option.map_some] at h2
  rw [List.getElem?_eq_getElem (by omega),Option.map_some,Option.some.injEq,hx'] at h2
  unfold VR
  have h3 : s=s'.data.toList:=by injection h2 with h2;injection h2
  rw [h3,Array.toArray_toList]
 ·split at hg
  ·rename_i hge
   subst hge
   cases hg
   obtain ⟨xs,m,rfl,hxs,hl,hn,hi⟩:=DataW.trod_array Zd e4
   rw [List.getElem?_map,Option.map_eq_some_iff] at hx
   obtain ⟨s,hs,rfl⟩:=hx
   have hil:=(List.getElem?_eq_some_iff.1 hs).1
   rw [show jk.length=32 from rfl] at hil
   have h1:=hi i hil
   rw [aaX,List.getElem?_eq_getElem (by omega)] at h1
   obtain ⟨n,hc,hx',_⟩:=DataW.trod_int Zq h1
   rw [Nat.mul_one] at hc
   have hci : cs[i]?=some (.int .u8 n):=by
    have:=congrArg (·[0]?) hc
    simpa using this
   refine ⟨.int .u8 n,by rw [Nat.zero_add,World.var?_cell ZJ e3 i];exact hci, ?_⟩
   have hag : (jk.map fun n=>(DataW.lit (.int .u8 n) : DataW Unit))=xs.map (·.1):=DataW.agg.inj (Us.symm.trans (congrArg Prod.fst hxs))
   have h2:=congrArg (·[i]?) hag
   simp only [List.getElem?_map,hs,Option.map_some] at h2
   rw [List.getElem?_eq_getElem (by omega),Option.map_some,Option.some.injEq,hx'] at h2
   unfold VR
   injection h2 with h2
   injection h2 with _ h2
   rw [h2]
  ·split at hg
   ·rename_i hge
    subst hge
    cases hg
    cases i with
    | succ i=>simp at hx
    | zero =>
     simp only [List.getElem?_cons_zero,Option.some.injEq] at hx
     subst hx
     refine ⟨_,by have:=World.var?_cell aa7 k5 0;simpa using this, ?_⟩
     simp [VR,dF]
   ·cases hg
end Go.V
