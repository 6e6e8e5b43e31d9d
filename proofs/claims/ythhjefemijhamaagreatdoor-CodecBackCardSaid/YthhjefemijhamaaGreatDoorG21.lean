/- Texts F29. -/
import Derived.Test.YthhjefemijhamaaGreatDoorG20
set_option linter.unusedVariables false
set_option linter.unusedSimpArgs false
namespace Go.V
open Go.Proofs
set_option maxRecDepth 100000
theorem p_own_vec : PV Tryz.prog G0 63 [.agg [.int .i64 4,.int .i64 0,.str [],.nils,.nils]] (.int .i64 0):=by
 refine pv e63 (by simp) rfl rfl ?_
 simp only [go_sem,seval,c63]
 exact fin (by rfl) rfl
def vec0 : Vl:=⟨0,0,[],4,.nilp,0,0,0,.nilp,0,0⟩
theorem vec0_ok : vec0.ok:=⟨rfl,rfl,rfl,rfl,by simp [vec0],by simp [vec0]⟩
theorem p_vector0 : PV Tryz.prog G0 65 [.agg [.nilp]] vec0.vv:=p_vector .nilp [] (by simp) (.inl ⟨rfl,rfl⟩) (by simp) (by simp [sumN]) (by simp [maxD])
theorem c_make_vec (seed bits : Int) (A B C : Obj) : CV Tryz.prog G0 41 [.mptr 3 0,.agg [.int .u64 seed,.int .i64 bits],.agg [.int .i64 4,.int .i64 0,.str [],.nils,.nils],.int .i64 1] [A,B,C,.own [.int .i64 0]] fun r σ'=>r=.ret (.tup [vec0.vv,.int .i64 0])∧σ'[2]?=some C:=by
 refine cv e41 (by simp) ?_
 simp only [go_sem,seval,c41]
 refine callO_pure (p_own_vec) ?_<;>simp only [go_sem,seval]
 refine wpV_loop ?_
 simp only [go_sem,seval]
 refine callO_pure (p_Of0) ?_<;>simp only [go_sem,seval]
 refine callO_pure (p_vector0) ?_<;>simp only [go_sem,seval,vec0,Vl.vv,Vl.cells]
theorem p_VOf_vec (seed bits : Int) : PV Tryz.prog G0 16 [.agg [.int .u64 seed,.int .i64 bits],.agg [.int .i64 4,.int .i64 0,.str [],.nils,.nils]] (.tup [vec0.vv,.int .i64 0]):=by
 refine pv e16 (by simp) rfl rfl ?_
 simp only [go_sem,seval,c16]
 refine CV.mono (c_make_vec seed bits _ _ _) ?_
 rintro _ σ' ⟨rfl,h⟩
 have h5:=(List.getElem?_eq_some_iff.1 h).1
 simp only [go_sem,seval,resK,vec0,Vl.vv,Vl.cells,h,List.getElem?_set_self h5]
 exact fin (by rfl) rfl
end Go.V
