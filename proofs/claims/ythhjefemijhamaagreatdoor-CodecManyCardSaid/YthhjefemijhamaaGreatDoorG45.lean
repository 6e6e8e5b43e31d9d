/- Texts J4. -/
import Derived.Test.YthhjefemijhamaaGreatDoorCards
import Derived.Test.YthhjefemijhamaaGreatDoorG44
set_option linter.unusedVariables false
set_option linter.unusedSimpArgs false
namespace Go.V
open Go.Proofs Go.Proofs.YthhjefemijhamaaGreatDoor
open Go.ChangeShapes Go.WideShapes Go.ChangeAt Go.RowKit
set_option maxRecDepth 100000
theorem many_row : Rows.CodecManySaid :=
 OpenClaim.holds_of_wide 6 Tryz.f6 rfl rfl rfl rfl rfl rfl rfl ⟨rfl,rfl,rfl,rfl,rfl⟩ rfl rfl rfl rfl rfl (by kernel_rfl) j_func6 (by kernel_rfl)
  (of_decide_eq_true (by kernel_rfl)) (by unfold Func.isWrapper;first | (rw [if_pos (by decide +kernel)];kernel_rfl) | (rw [if_neg (by decide +kernel)];exact ⟨rfl,rfl⟩))
  (fun os started H enc _=>many_lifted os started H enc)
theorem many_card : Rows.CodecManyCardSaid :=
 Claim7.holds_tied_plain_at .later [] [.data,.handle,.data] true (true, "e67ccfa62237e6685f20446187897d0df9852adc6047ae00871251c2f933476a") true many_row (fun _ h=>by cases h) (by kernel_rfl) (fun _ h=>by cases h) codecMany_row_tie rfl ⟨rfl,rfl⟩ (by kernel_rfl) rfl
  (fun f fn hf hfn=>by
   obtain rfl : f=6:=Option.some.inj ((show Tryz.prog.funcNamed "placket/placketlaw14.CodecMany"=some 6 by kernel_rfl).symm.trans hf) |>.symm
   obtain rfl : fn=Tryz.f6:=(Option.some.inj (j_func6.symm.trans hfn)).symm
   exact ⟨by kernel_rfl,fun j t ht=>by
    rw [j_params6] at ht
    have hm : t ∈ [24,3]:=by simpa using Array.mem_of_getElem? ht
    have hall : ([24,3].all fun u=>!Tryz.prog.wantsStandIn u)=true:=by kernel_rfl
    exact (show Tryz.prog.wantsStandIn t=false by simpa using List.all_eq_true.1 hall t hm)⟩)
  (by kernel_rfl)
end Go.V
