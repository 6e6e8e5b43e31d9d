/- Texts J13 J14. -/
import Derived.ChangeMaps5
import Derived.Test.YthhjefemijhamaaGreatDoorCards
import Derived.Test.YthhjefemijhamaaGreatDoorG41
import Derived.Test.YthhjefemijhamaaGreatDoorG52
set_option linter.unusedVariables false
set_option linter.unusedSimpArgs false
namespace Go.V
open Go.Proofs Go.Proofs.YthhjefemijhamaaGreatDoor
open Go.ChangeShapes Go.WideShapes Go.ChangeAt Go.RowKit
set_option maxRecDepth 100000
theorem FU : Tryz.prog.funcs[9]?=some Tryz.f9:=by kernel_rfl
theorem EI : Tryz.f9.params=#[24,9]:=by kernel_rfl
set_option linter.unusedVariables false in
theorem Dv (os : Os) (started : os.Started) (H : Type) (enc : TypeId × Value→H) :
  ReturnsInHanded {} Tryz.checked os 9 .any (fun w args=>(Rows.codecParsesSpec.pre enc Tryz.prog Tryz.f9 [] false w args∧laidMetH Tryz.prog uX w)∧sizedMet enc Tryz.prog Tryz.f9 (OpenSpec.ofChange Rows.codecParsesSpec) false w args)
   (Rows.codecParsesSpec.post enc Tryz.prog Tryz.f9 false true false false):=by
 refine returnsInHanded_of_change_and (C:=Tryz.checked) (X:=fun w _=>laidMetH Tryz.prog uX w) (fun _ _ _ hh h=>h.of_heap hh) Xx started (by kernel_rfl) FU
  (ChangeSpec.witness_shaped (enc:=enc) (C:=Tryz.checked) (os:=os) (X:=fun w _=>laidMetH Tryz.prog uX w) false (laidWorld os) #[.agg #[.int .u64 0,.int .i64 0],.string ⟨#[]⟩] 8 rfl
   (World.shaped_of_ZipB (by kernel_rfl) (by kernel_rfl)) (by kernel_rfl) (by kernel_rfl) (by kernel_rfl) (laidWorld_met os _)) ?_
 intro W base args ds gs before hval0 hW _ _ hL _
 have hval : ∀ (j : Nat) t v,Tryz.f9.params[j]?=some t→args[j]?=some v→Value.okWide Tryz.prog W .any base t v:=hval0
 have hW':=hW
 obtain ⟨p,q,hA0,hV,rfl,_,_⟩:=hW
 have hA : DataW.TrodAll enc Tryz.prog W 0 (fun _=>true) true Tryz.f9.params.toList args.toList ds p:=hA0
 rw [EI] at hA hval
 obtain ⟨v0,v1,d0,d1,p0,p1,rfl,rfl,rfl,h0,h1⟩:=trodAll_two hA
 obtain ⟨rfl,rfl⟩:=trodVars_none hV
 obtain ⟨a,b,rfl,rfl,rfl,wa,wb⟩:=Eo (hval 0 24 v0 rfl rfl) h0
 obtain ⟨s,rfl,rfl,rfl,ws⟩:=Go.ChangeMaps.open_string C9 (hval 1 9 v1 rfl rfl) h1
 simp only [List.append_nil] at hW'
 refine (CY (Qm a b s.data.toList) hL (by simp [dF,VR])).mono fun e W' ⟨he,hb⟩=>?_
 subst he
 exact ⟨_,rfl,_,_,_,[],[],[],hW',trodAll_mk1 (shut_bool TI _),trodAll_mk2 (ED wa wb) (Go.ChangeMaps.shut_string C9 ws),rfl,hb.frame _,fun h=>by cases h⟩
theorem Ls : Rows.CodecParsesSaid :=
 OpenClaim.holds_of_wide 9 Tryz.f9 rfl rfl rfl rfl rfl rfl rfl ⟨rfl,rfl,rfl,rfl,rfl⟩ rfl rfl rfl rfl rfl (by kernel_rfl) FU (by kernel_rfl)
  (of_decide_eq_true (by kernel_rfl)) (by unfold Func.isWrapper;first | (rw [if_pos (by decide +kernel)];kernel_rfl) | (rw [if_neg (by decide +kernel)];exact ⟨rfl,rfl⟩))
  (fun os started H enc _=>Dv os started H enc)
theorem parses_card : Rows.CodecParsesCardSaid :=
 Claim7.holds_tied_plain_at .later [] [.data,.handle,.data] true (true, "e67ccfa62237e6685f20446187897d0df9852adc6047ae00871251c2f933476a") true Ls (fun _ h=>by cases h) (by kernel_rfl) (fun _ h=>by cases h) codecParses_row_tie rfl ⟨rfl,rfl⟩ (by kernel_rfl) rfl
  (fun f fn hf hfn=>by
   obtain rfl : f=9:=Option.some.inj ((show Tryz.prog.funcNamed "placket/placketlaw14.CodecParses"=some 9 by kernel_rfl).symm.trans hf) |>.symm
   obtain rfl : fn=Tryz.f9:=(Option.some.inj (FU.symm.trans hfn)).symm
   exact ⟨by kernel_rfl,fun j t ht=>by
    rw [EI] at ht
    have hm : t ∈ [24,9]:=by simpa using Array.mem_of_getElem? ht
    have hall : ([24,9].all fun u=>!Tryz.prog.wantsStandIn u)=true:=by kernel_rfl
    exact (show Tryz.prog.wantsStandIn t=false by simpa using List.all_eq_true.1 hall t hm)⟩)
  (by kernel_rfl)
end Go.V
namespace Go.V
open Go.Proofs Go.Proofs.YthhjefemijhamaaGreatDoor
open Go.ChangeShapes Go.WideShapes Go.ChangeAt Go.RowKit
set_option maxRecDepth 100000
theorem BZ : Tryz.prog.funcs[10]?=some Tryz.f10:=by kernel_rfl
theorem CQ : Tryz.f10.params=#[24,9,3]:=by kernel_rfl
set_option linter.unusedVariables false in
theorem Gj (os : Os) (started : os.Started) (H : Type) (enc : TypeId × Value→H) :
  ReturnsInHanded {} Tryz.checked os 10 .any (fun w args=>(Rows.codecTakesSpec.pre enc Tryz.prog Tryz.f10 [] false w args∧laidMetH Tryz.prog uX w)∧sizedMet enc Tryz.prog Tryz.f10 (OpenSpec.ofChange Rows.codecTakesSpec) false w args)
   (Rows.codecTakesSpec.post enc Tryz.prog Tryz.f10 false true false false):=by
 refine returnsInHanded_of_change_and (C:=Tryz.checked) (X:=fun w _=>laidMetH Tryz.prog uX w) (fun _ _ _ hh h=>h.of_heap hh) Xx started (by kernel_rfl) BZ
  (ChangeSpec.witness_shaped (enc:=enc) (C:=Tryz.checked) (os:=os) (X:=fun w _=>laidMetH Tryz.prog uX w) false (laidWorld os) #[.agg #[.int .u64 0,.int .i64 0],.string ⟨#[]⟩,.int .i64 0] 8 rfl
   (World.shaped_of_ZipB (by kernel_rfl) (by kernel_rfl)) (by kernel_rfl) (by kernel_rfl) (by kernel_rfl) (laidWorld_met os _)) ?_
 intro W base args ds gs before hval0 hW _ _ hL _
 have hval : ∀ (j : Nat) t v,Tryz.f10.params[j]?=some t→args[j]?=some v→Value.okWide Tryz.prog W .any base t v:=hval0
 have hW':=hW
 have hlt:=hW.lt
 obtain ⟨p,q,hA0,hV,rfl,_,_⟩:=hW
 have hA : DataW.TrodAll enc Tryz.prog W 0 (fun _=>true) true Tryz.f10.params.toList args.toList ds p:=hA0
 rw [CQ] at hA hval
 obtain ⟨v0,v1,v2,d0,d1,d2,p0,p1,p2,rfl,rfl,rfl,h0,h1,h2⟩:=trodAll_three hA
 obtain ⟨rfl,rfl⟩:=trodVars_none hV
 obtain ⟨a,b,rfl,rfl,rfl,wa,wb⟩:=Eo (hval 0 24 v0 rfl rfl) h0
 obtain ⟨s,rfl,rfl,rfl,ws⟩:=Go.ChangeMaps.open_string C9 (hval 1 9 v1 rfl rfl) h1
 obtain ⟨n,rfl,rfl,rfl,wn⟩:=open_int Fp (hval 2 3 v2 rfl rfl) h2
 simp only [List.append_nil,List.nil_append] at hW' hlt
 have wn' : -9223372036854775808≤n∧n≤9223372036854775807:=by
  simp only [Lit.wf] at wn
  have h1 : IntKind.i64.min=-9223372036854775808:=by decide
  have h2 : IntKind.i64.max=9223372036854775807:=by decide
  rw [h1,h2] at wn
  simpa using wn
 refine (CY (Xf a b s.data.toList n wn') hL (by simp [dF,VR])).mono fun e W' ⟨he,hb⟩=>?_
 subst he
 exact ⟨_,rfl,_,_,_,[],[],[],hW',trodAll_mk1 (shut_bool TI _),trodAll_mk3 (ED wa wb) (Go.ChangeMaps.shut_string C9 ws) (shut_int Fp wn),rfl,hb.frame _,fun h=>by cases h⟩
theorem O4 : Rows.CodecTakesSaid :=
 OpenClaim.holds_of_wide 10 Tryz.f10 rfl rfl rfl rfl rfl rfl rfl ⟨rfl,rfl,rfl,rfl,rfl⟩ rfl rfl rfl rfl rfl (by kernel_rfl) BZ (by kernel_rfl)
  (of_decide_eq_true (by kernel_rfl)) (by unfold Func.isWrapper;first | (rw [if_pos (by decide +kernel)];kernel_rfl) | (rw [if_neg (by decide +kernel)];exact ⟨rfl,rfl⟩))
  (fun os started H enc _=>Gj os started H enc)
theorem takes_card : Rows.CodecTakesCardSaid :=
 Claim7.holds_tied_plain_at .later [] [.data,.handle,.data] true (true, "e67ccfa62237e6685f20446187897d0df9852adc6047ae00871251c2f933476a") true O4 (fun _ h=>by cases h) (by kernel_rfl) (fun _ h=>by cases h) codecTakes_row_tie rfl ⟨rfl,rfl⟩ (by kernel_rfl) rfl
  (fun f fn hf hfn=>by
   obtain rfl : f=10:=Option.some.inj ((show Tryz.prog.funcNamed "placket/placketlaw14.CodecTakes"=some 10 by kernel_rfl).symm.trans hf) |>.symm
   obtain rfl : fn=Tryz.f10:=(Option.some.inj (BZ.symm.trans hfn)).symm
   exact ⟨by kernel_rfl,fun j t ht=>by
    rw [CQ] at ht
    have hm : t ∈ [24,9,3]:=by simpa using Array.mem_of_getElem? ht
    have hall : ([24,9,3].all fun u=>!Tryz.prog.wantsStandIn u)=true:=by kernel_rfl
    exact (show Tryz.prog.wantsStandIn t=false by simpa using List.all_eq_true.1 hall t hm)⟩)
  (by kernel_rfl)
end Go.V
