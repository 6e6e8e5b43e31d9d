/- Texts J20. -/
import Derived.ChangeSame
import Derived.Handy
import Derived.Lay
import Derived.OpenShut
import Derived.ProofKit
import Derived.Test.YtgmhpemjlbgfcaaGreatDoorTie
import Derived.WalkKit
import Derived.Test.YtgmhpemjlbgfcaaGreatDoorG17
set_option linter.unusedVariables false
set_option linter.unusedSimpArgs false
namespace Go.V
open Go.Proofs Go.Proofs.YtgmhpemjlbgfcaaGreatDoor
set_option maxRecDepth 100000
theorem VA : ownKnob Tryz.prog.godebug=none:=by kernel_rfl
theorem VD : Tryz.prog.globalNamed "placket/lex.signs"=some 3:=by kernel_rfl
theorem WE : Tryz.prog.globalNamed "placket/pred.signs"=some 0:=by kernel_rfl
theorem WS : Tryz.prog.globalNamed "placket/pred.names"=some 1:=by kernel_rfl
theorem VE : Tryz.prog.globalNamed "math/bits.deBruijn32tab"=some 4:=by kernel_rfl
theorem Xv : Tryz.prog.globalNamed "errors.errorType"=some 2:=by kernel_rfl
theorem Xl : (Tryz.prog.cutTypes.find? (·.1 == "internal/reflectlite.rtype")).map (·.2)=some 282:=by kernel_rfl
theorem Uw : Tryz.prog.types.size=381:=by kernel_rfl
theorem VI : ((List.range 381).filter fun t=>Tryz.prog.rowNamed t [101,114,114,111,114])=[34]:=by kernel_rfl
theorem TU : typeHandle Tryz.prog 34=.pointer (some ⟨5,34,none⟩):=by kernel_rfl
theorem BO : Tryz.prog.underlying 9=some .string:=by kernel_rfl
theorem Ua : Tryz.prog.underlying 5=some (.int .u8):=by kernel_rfl
theorem Wq : (Tryz.prog.globals[3]?).map (·.type)=some 300:=by kernel_rfl
theorem VH : (Tryz.prog.globals[0]?).map (·.type)=some 122:=by kernel_rfl
theorem VN : (Tryz.prog.globals[1]?).map (·.type)=some 164:=by kernel_rfl
theorem WI : (Tryz.prog.globals[4]?).map (·.type)=some 342:=by kernel_rfl
theorem Vz : Tryz.prog.underlying 300=some (.array 23 9):=by kernel_rfl
theorem WX : Tryz.prog.underlying 122=some (.array 6 9):=by kernel_rfl
theorem VZ : Tryz.prog.underlying 164=some (.array 7 9):=by kernel_rfl
theorem VY : Tryz.prog.underlying 342=some (.array 32 5):=by kernel_rfl
theorem QH : Tryz.prog.cellsOf 9=1:=by kernel_rfl
theorem Xn : Tryz.prog.cellsOf 5=1:=by kernel_rfl
theorem SB {w : World} {O : Nat→Prop} {μ : List Loc} {b : Nat} : ∀ (cells : List VV) (o : Nat),(∀ i x,cells[i]?=some x→∃ v,w.cell? ⟨b,o+i,none⟩=some v∧VR w O μ x v)→VC w O μ cells b o
 | [],_,_=>by unfold VC;trivial
 | x::xs,o,h=>by
  unfold VC
  refine ⟨by have:=h 0 x rfl;simpa using this,SB xs (o+1) fun i y hy=>?_⟩
  have:=h (i+1) y (by simpa using hy)
  rwa [show o+(i+1)=o+1+i by omega] at this
def YO : List (String × DataW Unit):=[("math/bits.deBruijn32tab",Rows.laid_math_bits_deBruijn32tab),("errors.errorType",Rows.laid_errors_errorType),("placket/lex.signs",Rows.laid_placket_lex_signs),("placket/pred.signs",Rows.laid_placket_pred_signs),("placket/pred.names",Rows.laid_placket_pred_names)]
def WM : List (String × DataW Unit):=[("math/bits.deBruijn32tab",Rows.laid_math_bits_deBruijn32tab),("placket/lex.signs",Rows.laid_placket_lex_signs),("placket/pred.signs",Rows.laid_placket_pred_signs),("placket/pred.names",Rows.laid_placket_pred_names)]
theorem tX {H : Type} {enc : TypeId × Value→H} {w : World} {base : Nat} {sp : Nat→Bool} {held : Bool} {fuel t n : Nat} {cs : List Value} {texts : List (List UInt8)} {d : DataW H} {p : List MemPlace} (hu : Tryz.prog.underlying t=some (.array n 9)) (hn : texts.length=n)
  (hd : d=.agg (texts.map fun s=>.lit (.string s))) (h : DataW.trod enc Tryz.prog w base sp held fuel t cs=some (d,p)) {i : Nat} {s : List UInt8} (hs : texts[i]?=some s) : ∃ s' : ByteArray,cs[i]?=some (.string s')∧s'.data.toList=s:=by
 obtain ⟨xs,m,rfl,hxs,hl,hxl,hi⟩:=DataW.trod_array hu h
 have hil:=(List.getElem?_eq_some_iff.1 hs).1
 rw [hn] at hil
 have h1:=hi i hil
 rw [QH,List.getElem?_eq_getElem (by omega)] at h1
 obtain ⟨s',hc,hx',_⟩:=DataW.trod_string BO h1
 rw [Nat.mul_one] at hc
 have hci : cs[i]?=some (.string s'):=by
  have:=congrArg (·[0]?) hc
  simpa using this
 have hag : (texts.map fun s=>(DataW.lit (.string s) : DataW H))=xs.map (·.1):=DataW.agg.inj (hd.symm.trans (congrArg Prod.fst hxs))
 have h2:=congrArg (·[i]?) hag
 simp only [List.getElem?_map,hs,Option.map_some] at h2
 rw [List.getElem?_eq_getElem (by omega),Option.map_some,Option.some.injEq,hx'] at h2
 refine ⟨s',hci, ?_⟩
 injection h2 with h2
 injection h2 with h2
 exact h2.symm
theorem Gf {H : Type} {enc : TypeId × Value→H} {w : World} {base : Nat} {sp : Nat→Bool} {held : Bool} {fuel t n : Nat} {cs : List Value} {ns : List Int} {d : DataW H} {p : List MemPlace} (hu : Tryz.prog.underlying t=some (.array n 5)) (hn : ns.length=n)
  (hd : d=.agg (ns.map fun s=>.lit (.int .u8 s))) (h : DataW.trod enc Tryz.prog w base sp held fuel t cs=some (d,p)) {i : Nat} {s : Int} (hs : ns[i]?=some s) : cs[i]?=some (.int .u8 s):=by
 obtain ⟨xs,m,rfl,hxs,hl,hxl,hi⟩:=DataW.trod_array hu h
 have hil:=(List.getElem?_eq_some_iff.1 hs).1
 rw [hn] at hil
 have h1:=hi i hil
 rw [Xn,List.getElem?_eq_getElem (by omega)] at h1
 obtain ⟨s',hc,hx',_⟩:=DataW.trod_int Ua h1
 rw [Nat.mul_one] at hc
 have hci : cs[i]?=some (.int .u8 s'):=by
  have:=congrArg (·[0]?) hc
  simpa using this
 have hag : (ns.map fun s=>(DataW.lit (.int .u8 s) : DataW H))=xs.map (·.1):=DataW.agg.inj (hd.symm.trans (congrArg Prod.fst hxs))
 have h2:=congrArg (·[i]?) hag
 simp only [List.getElem?_map,hs,Option.map_some] at h2
 rw [List.getElem?_eq_getElem (by omega),Option.map_some,Option.some.injEq,hx'] at h2
 injection h2 with h2
 injection h2 with _ h2
 rw [hci,h2]
theorem GZ {W : World} (h : laidMetH Tryz.prog YO W) : Jm G0 W (OO (fun _=>False) [] []) []:=by
 have h' : laidMet Tryz.prog WM W∧handlesMet Tryz.prog [("errors.errorType",Rows.laid_errors_errorType)] W:=h
 obtain ⟨⟨ps,hL,_,_⟩,hH⟩:=h'
 obtain ⟨g,t,cs,fuel,p,q,e1,e2,e3,e4,hL2,_⟩:=hL
 obtain ⟨g',t',cs',fuel',p',q',f1,f2,f3,f4,hL3,_⟩:=hL2
 obtain ⟨g'',t'',cs'',fuel'',p'',q'',d1,d2,d3,d4,hL4,_⟩:=hL3
 obtain ⟨g3,t3,cs3,fuel3,p3,q3,c1,c2,c3,c4,_,_⟩:=hL4
 obtain ⟨name,u,ty,k1,k2,k3,k4,k5⟩:=hH _ (List.mem_singleton.2 rfl)
 obtain rfl:=Option.some.inj (VE.symm.trans e1)
 obtain rfl:=Option.some.inj (WI.symm.trans e2)
 obtain rfl:=Option.some.inj (VD.symm.trans f1)
 obtain rfl:=Option.some.inj (Wq.symm.trans f2)
 obtain rfl:=Option.some.inj (WE.symm.trans d1)
 obtain rfl:=Option.some.inj (VH.symm.trans d2)
 obtain rfl:=Option.some.inj (WS.symm.trans c1)
 obtain rfl:=Option.some.inj (VN.symm.trans c2)
 have en : name=[101,114,114,111,114]:=(Option.some.inj k1).symm
 subst en
 obtain rfl:=Option.some.inj (Xl.symm.trans k2)
 have hm : ty ∈ (List.range 381).filter fun t=>Tryz.prog.rowNamed t [101,114,114,111,114]:=List.mem_filter.2 ⟨List.mem_range.2 (by rw [← Uw];exact k3),k4⟩
 rw [VI] at hm
 obtain rfl:=List.mem_singleton.1 hm
 rw [TU] at k5
 intro g cells hg
 have hO : ∀ b,¬ OO (fun _=>False) [] [] b:=by intro b;rw [MJ];exact fun h=>h
 unfold VR
 refine ⟨g,0,rfl,.inr (hO g),SB cells 0 fun i x hx=>?_⟩
 have str : ∀ {g : Nat} {name : String} {cs : Array Value} {texts : List (List UInt8)},Tryz.prog.globalNamed name=some g→W.var? Tryz.prog name=some cs→(∀ {i : Nat} {s : List UInt8},texts[i]?=some s→∃ s' : ByteArray,cs.toList[i]?=some (.string s')∧s'.data.toList=s)→(texts.map VV.str)[i]?=some x→∃ v,W.cell? ⟨g,0+i,none⟩=some v∧VR W (OO (fun _=>False) [] []) [] x v:=by
  intro g name cs texts hj hv hc hx
  rw [List.getElem?_map,Option.map_eq_some_iff] at hx
  obtain ⟨s,hs,rfl⟩:=hx
  obtain ⟨s',h1,h2⟩:=hc hs
  refine ⟨.string s',by rw [Nat.zero_add,World.var?_cell hj hv i];simpa using h1, ?_⟩
  unfold VR
  rw [← h2,Array.toArray_toList]
 unfold G0 at hg
 split at hg
 ·rename_i hge
  subst hge
  cases hg
  exact str VD f3 (tX Vz rfl rfl f4) hx
 split at hg
 ·rename_i hge
  subst hge
  cases hg
  rw [List.getElem?_map,Option.map_eq_some_iff] at hx
  obtain ⟨s,hs,rfl⟩:=hx
  refine ⟨.int .u8 s,by rw [Nat.zero_add,World.var?_cell VE e3 i];simpa using Gf VY rfl rfl e4 hs, ?_⟩
  unfold VR;rfl
 split at hg
 ·rename_i hge
  subst hge
  cases hg
  cases i with
  | succ i=>simp at hx
  | zero =>
   simp only [List.getElem?_cons_zero,Option.some.injEq] at hx
   subst hx
   refine ⟨_,by have:=World.var?_cell Xv k5 0;simpa using this, ?_⟩
   simp [VR,bI]
 split at hg
 ·rename_i hge
  subst hge
  cases hg
  exact str WE d3 (tX WX rfl rfl d4) hx
 split at hg
 ·rename_i hge
  subst hge
  cases hg
  exact str WS c3 (tX VZ rfl rfl c4) hx
 ·cases hg
end Go.V
