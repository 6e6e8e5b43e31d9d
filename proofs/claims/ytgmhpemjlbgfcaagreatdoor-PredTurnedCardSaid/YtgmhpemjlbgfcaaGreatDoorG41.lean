/- Texts F131. -/
import Derived.Test.YtgmhpemjlbgfcaaGreatDoorG14
import Derived.Test.YtgmhpemjlbgfcaaGreatDoorG17
set_option linter.unusedVariables false
set_option linter.unusedSimpArgs false
namespace Go.V
open Go.Proofs
set_option maxRecDepth 100000
def Yb : List Nat:=[37,39,49,50,64,65,66,68,69,70,79,80,95,96,108,109,110,111,113,141,142,143,160,161,174,177,182,183,184,185,186,187,188,198,199,200,201,202,206,208,215,216,220,225,226,230,231,232,233,238,239,242,244,245,246,247,248,249,250,251,255,256,257,258,259,260,261,262,263,265,266]
def XV (f : FuncId) : Bool:=match Yb.contains f with
 | true=>false
 | false=>true
def Dn : Option RR→Bool
 | some (.fin (.ret (.bool true)) _)=>true
 | _=>false
theorem GK {r : Option RR} (h : Dn r=true) : ∃ σ,r=some (.fin (.ret (.bool true)) σ):=by
 unfold Dn at h
 split at h
 ·exact ⟨_,rfl⟩
 ·cases h
theorem LZ : Dn (run Tryz.prog G0 lab (fun _ _=>none) XV 100000 (.call 10 [] []))=true:=by kernel_rfl
theorem UY : PV Tryz.prog G0 10 [] (.bool true):=by
 obtain ⟨σ,h⟩:=GK LZ
 have hs:=J3 (orc:=fun _ _=>none) (pur:=XV) mix XP (fun _ _ _ h=>by cases h) _ _ _ h
 exact ⟨XP,rfl,rfl,CV.mono hs fun r σ' ⟨h1,_⟩=>⟨_,0,h1,rfl⟩⟩
end Go.V
