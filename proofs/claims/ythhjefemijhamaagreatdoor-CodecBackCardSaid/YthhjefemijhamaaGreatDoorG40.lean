/- Texts J1 J2. -/
import Derived.ChangeSame
import Derived.Handy
import Derived.Lay
import Derived.OpenShut
import Derived.ProofKit
import Derived.Test.YthhjefemijhamaaGreatDoorTie
import Derived.WalkKit
import Derived.Test.YthhjefemijhamaaGreatDoorG39
set_option linter.unusedVariables false
set_option linter.unusedSimpArgs false
namespace Go.V
open Go.Proofs Go.Proofs.YthhjefemijhamaaGreatDoor
set_option maxRecDepth 100000
theorem j_own : ownKnob Tryz.prog.godebug=none:=by kernel_rfl
theorem j_sg : Tryz.prog.globalNamed "placket/lex.signs"=some 1:=by kernel_rfl
theorem j_db : Tryz.prog.globalNamed "math/bits.deBruijn32tab"=some 2:=by kernel_rfl
theorem j_et : Tryz.prog.globalNamed "errors.errorType"=some 0:=by kernel_rfl
theorem j_rt : (Tryz.prog.cutTypes.find? (·.1 == "internal/reflectlite.rtype")).map (·.2)=some 222:=by kernel_rfl
theorem j_size : Tryz.prog.types.size=329:=by kernel_rfl
theorem j_row : ((List.range 329).filter fun t=>Tryz.prog.rowNamed t [101,114,114,111,114])=[50]:=by kernel_rfl
theorem j_hand : typeHandle Tryz.prog 50=.pointer (some ⟨3,50,none⟩):=by kernel_rfl
theorem j_und9 : Tryz.prog.underlying 9=some .string:=by kernel_rfl
theorem j_und5 : Tryz.prog.underlying 5=some (.int .u8):=by kernel_rfl
end Go.V
namespace Go.V
open Go.Proofs Go.Proofs.YthhjefemijhamaaGreatDoor
set_option maxRecDepth 100000
theorem j_sgt : (Tryz.prog.globals[1]?).map (·.type)=some 202:=by kernel_rfl
theorem j_dbt : (Tryz.prog.globals[2]?).map (·.type)=some 291:=by kernel_rfl
theorem j_u202 : Tryz.prog.underlying 202=some (.array 23 9):=by kernel_rfl
theorem j_u291 : Tryz.prog.underlying 291=some (.array 32 5):=by kernel_rfl
theorem j_c9 : Tryz.prog.cellsOf 9=1:=by kernel_rfl
theorem j_c5 : Tryz.prog.cellsOf 5=1:=by kernel_rfl
theorem vc_of {w : World} {O : Nat→Prop} {μ : List Loc} {b : Nat} : ∀ (cells : List VV) (o : Nat),(∀ i x,cells[i]?=some x→∃ v,w.cell? ⟨b,o+i,none⟩=some v∧VR w O μ x v)→VC w O μ cells b o
 | [],_,_=>by unfold VC;trivial
 | x::xs,o,h=>by
  unfold VC
  refine ⟨by have:=h 0 x rfl;simpa using this,vc_of xs (o+1) fun i y hy=>?_⟩
  have:=h (i+1) y (by simpa using hy)
  rwa [show o+(i+1)=o+1+i by omega] at this
def laidL : List (String × DataW Unit):=[("math/bits.deBruijn32tab",Rows.laid_math_bits_deBruijn32tab),("errors.errorType",Rows.laid_errors_errorType),("placket/lex.signs",Rows.laid_placket_lex_signs)]
theorem j_signs : (Rows.laid_placket_lex_signs : DataW Unit)=.agg (signTexts.map fun s=>.lit (.string s)):=rfl
theorem j_bruijn : (Rows.laid_math_bits_deBruijn32tab : DataW Unit)=.agg (deBruijn.map fun n=>.lit (.int .u8 n)):=rfl
theorem gl_of_laid {W : World} (h : laidMetH Tryz.prog laidL W) : GlR G0 W (OO (fun _=>False) [] []) []:=by
 have h' : laidMet Tryz.prog [("math/bits.deBruijn32tab",Rows.laid_math_bits_deBruijn32tab),("placket/lex.signs",Rows.laid_placket_lex_signs)] W∧handlesMet Tryz.prog [("errors.errorType",Rows.laid_errors_errorType)] W:=h
 obtain ⟨⟨ps,hL,_,_⟩,hH⟩:=h'
 obtain ⟨g,t,cs,fuel,p,q,e1,e2,e3,e4,hL2,_⟩:=hL
 obtain ⟨g',t',cs',fuel',p',q',f1,f2,f3,f4,_,_⟩:=hL2
 obtain ⟨name,u,ty,k1,k2,k3,k4,k5⟩:=hH _ (List.mem_singleton.2 rfl)
 obtain rfl:=Option.some.inj (j_db.symm.trans e1)
 obtain rfl:=Option.some.inj (j_dbt.symm.trans e2)
 obtain rfl:=Option.some.inj (j_sg.symm.trans f1)
 obtain rfl:=Option.some.inj (j_sgt.symm.trans f2)
 have en : name=[101,114,114,111,114]:=(Option.some.inj k1).symm
 subst en
 obtain rfl:=Option.some.inj (j_rt.symm.trans k2)
 have hm : ty ∈ (List.range 329).filter fun t=>Tryz.prog.rowNamed t [101,114,114,111,114]:=List.mem_filter.2 ⟨List.mem_range.2 (by rw [← j_size];exact k3),k4⟩
 rw [j_row] at hm
 obtain rfl:=List.mem_singleton.1 hm
 rw [j_hand] at k5
 intro g cells hg
 have hO : ∀ b,¬ OO (fun _=>False) [] [] b:=by intro b;rw [OO_nil];exact fun h=>h
 unfold VR
 refine ⟨g,0,rfl,.inr (hO g),vc_of cells 0 fun i x hx=>?_⟩
 unfold G0 at hg
 split at hg
 ·rename_i hge
  subst hge
  cases hg
  obtain ⟨xs,m,rfl,hxs,hl,hn,hi⟩:=DataW.trod_array j_u202 f4
  rw [List.getElem?_map,Option.map_eq_some_iff] at hx
  obtain ⟨s,hs,rfl⟩:=hx
  have hil:=(List.getElem?_eq_some_iff.1 hs).1
  rw [sg_len] at hil
  have h1:=hi i hil
  rw [j_c9,List.getElem?_eq_getElem (by omega)] at h1
  obtain ⟨s',hc,hx',_⟩:=DataW.trod_string j_und9 h1
  rw [Nat.mul_one] at hc
  have hci : cs'[i]?=some (.string s'):=by
   have:=congrArg (·[0]?) hc
   simpa using this
  refine ⟨.string s',by rw [Nat.zero_add,World.var?_cell j_sg f3 i];exact hci, ?_⟩
  have hag : (signTexts.map fun s=>(DataW.lit (.string s) : DataW Unit))=xs.map (·.1):=DataW.agg.inj (j_signs.symm.trans (congrArg Prod.fst hxs))
  have h2:=congrArg (·[i]?) hag
  simp only [List.getElem?_map,hs,Option.map_some] at h2
  rw [List.getElem?_eq_getElem (by omega),Option.map_some,Option.some.injEq,hx'] at h2
  unfold VR
  have h3 : s=s'.data.toList:=by injection h2 with h2;injection h2
  rw [h3,Array.toArray_toList]
 ·split at hg
  ·rename_i hge
   subst hge
   cases hg
   obtain ⟨xs,m,rfl,hxs,hl,hn,hi⟩:=DataW.trod_array j_u291 e4
   rw [List.getElem?_map,Option.map_eq_some_iff] at hx
   obtain ⟨s,hs,rfl⟩:=hx
   have hil:=(List.getElem?_eq_some_iff.1 hs).1
   rw [show deBruijn.length=32 from rfl] at hil
   have h1:=hi i hil
   rw [j_c5,List.getElem?_eq_getElem (by omega)] at h1
   obtain ⟨n,hc,hx',_⟩:=DataW.trod_int j_und5 h1
   rw [Nat.mul_one] at hc
   have hci : cs[i]?=some (.int .u8 n):=by
    have:=congrArg (·[0]?) hc
    simpa using this
   refine ⟨.int .u8 n,by rw [Nat.zero_add,World.var?_cell j_db e3 i];exact hci, ?_⟩
   have hag : (deBruijn.map fun n=>(DataW.lit (.int .u8 n) : DataW Unit))=xs.map (·.1):=DataW.agg.inj (j_bruijn.symm.trans (congrArg Prod.fst hxs))
   have h2:=congrArg (·[i]?) hag
   simp only [List.getElem?_map,hs,Option.map_some] at h2
   rw [List.getElem?_eq_getElem (by omega),Option.map_some,Option.some.injEq,hx'] at h2
   unfold VR
   injection h2 with h2
   injection h2 with _ h2
   rw [h2]
  ·split at hg
   ·rename_i hge
    subst hge
    cases hg
    cases i with
    | succ i=>simp at hx
    | zero =>
     simp only [List.getElem?_cons_zero,Option.some.injEq] at hx
     subst hx
     refine ⟨_,by have:=World.var?_cell j_et k5 0;simpa using this, ?_⟩
     simp [VR,VRs]
   ·cases hg
end Go.V
