/- Texts J22. -/
import Derived.Test.YtgmhpemjlbgfcaaGreatDoorG44
import Derived.Test.YtgmhpemjlbgfcaaGreatDoorG46
set_option linter.unusedVariables false
set_option linter.unusedSimpArgs false
namespace Go.V
open Go.Proofs Go.Proofs.YtgmhpemjlbgfcaaGreatDoor
open Go.ChangeShapes Go.WideShapes Go.ChangeAt Go.RowKit
set_option maxRecDepth 100000
theorem Gj {H : Type} {enc : TypeId × Value→H} {W : World} {base : Nat} {held : Bool} {v : Value} {d : DataW H} {ps : List MemPlace} (hd : DataW.Trod enc Tryz.prog W base (fun _=>true) held 51 v d ps) (h1 : v.cells=#[v]) :
  ∃ (l : List Sg) (pw : VV),VR W (OO (fun _=>False) [] []) [] pw v∧dG 5 pw (l.map Sg.cells)∧(∀ s ∈ l,s.in)∧l.length≤9223372036854775807:=by
 obtain ⟨fuel,hf⟩:=hd
 obtain ⟨l,pw,v',e,h2,h3,h4,h5⟩:=JD (O:=OO (fun _=>False) [] []) (by rintro b (h | ⟨id,L,o,h,_⟩);exact h;simp at h) (fun _=>rfl) hf
 rw [h1] at e
 obtain rfl : v=v':=by simpa using e
 exact ⟨l,pw,h2,h3,h4,h5⟩
theorem CX : Tryz.prog.funcs[5]?=some Tryz.f5:=by kernel_rfl
theorem Au : Tryz.f5.params=#[24,29,51]:=by kernel_rfl
set_option linter.unusedVariables false in
theorem CW (os : Os) (started : os.Started) (H : Type) (enc : TypeId × Value→H) :
  ReturnsInHanded {} Tryz.checked os 5 .any (fun w args=>(Rows.predPathsSpec.pre enc Tryz.prog Tryz.f5 [] false w args∧laidMetH Tryz.prog yB w)∧sizedMet enc Tryz.prog Tryz.f5 (OpenSpec.ofChange Rows.predPathsSpec) false w args)
   (Rows.predPathsSpec.post enc Tryz.prog Tryz.f5 false true false false):=by
 refine returnsInHanded_of_change_and (C:=Tryz.checked) (X:=fun w _=>laidMetH Tryz.prog yB w) (fun _ _ _ hh h=>h.of_heap hh) VA started (by kernel_rfl) CX
  (ChangeSpec.witness_shaped (enc:=enc) (C:=Tryz.checked) (os:=os) (X:=fun w _=>laidMetH Tryz.prog yB w) false (laidWorld os) #[.agg #[.int .u64 0,.int .i64 0],.agg #[.int .i64 0,.int .i64 0,.string ⟨#[]⟩,.slice none 0 0,.slice none 0 0],.slice none 0 0] 8 rfl
   (World.shaped_of_ZipB (by kernel_rfl) (by kernel_rfl)) (by kernel_rfl) (by kernel_rfl) (by kernel_rfl) (laidWorld_met os _)) ?_
 intro W base args ds gs before hval0 hW _ _ hL _
 have hval : ∀ (j : Nat) t v,Tryz.f5.params[j]?=some t→args[j]?=some v→Value.okWide Tryz.prog W .any base t v:=hval0
 have hW':=hW
 have hlt:=hW.lt
 obtain ⟨p,q,hA0,hV,rfl,_,_⟩:=hW
 have hA : DataW.TrodAll enc Tryz.prog W 0 (fun _=>true) true Tryz.f5.params.toList args.toList ds p:=hA0
 rw [Au] at hA hval
 obtain ⟨v0,v1,v2,d0,d1,d2,p0,p1,p2,rfl,rfl,rfl,h0,h1,h2⟩:=trodAll_three hA
 obtain ⟨rfl,rfl⟩:=trodVars_none hV
 obtain ⟨a,b,rfl,rfl,rfl,wa,wb⟩:=Kr (hval 0 24 v0 rfl rfl) h0
 obtain ⟨x,c,t1,t2,t3⟩:=Hy (hval 1 29 v1 rfl rfl) h1
 have hv2:=hval 2 51 v2 rfl rfl
 obtain ⟨l,pw,s1,s2,s3,s4⟩:=Gj h2 (by obtain ⟨a,len,cap,rfl⟩:=okWide_slice Jb hv2;rfl)
 simp only [List.append_nil,List.nil_append] at hW' hlt
 refine (GY (Rq a b t1 t2 l pw s2 s4 s3) hL (by simp only [bI];exact ⟨_,_,rfl,by simp [bI,VR],_,_,rfl,t3,_,_,rfl,s1,rfl⟩)).mono fun e W' ⟨he,hb⟩=>?_
 subst he
 exact ⟨_,rfl,_,_,_,[],_,[],hW',trodAll_mk1 (shut_bool UD _),trodAll_mk3 (Kv wa wb) (Below.trod Fj (by kernel_rfl) (of_decide_eq_true (by kernel_rfl)) h1 hb fun x hx=>hlt x (by simp [hx])) (Below.trod Fj (by kernel_rfl) (of_decide_eq_true (by kernel_rfl)) h2 hb fun x hx=>hlt x (by simp [hx])),rfl,hb.frame _,fun h=>by cases h⟩
set_option maxHeartbeats 8000000 in
theorem Yo : joinedFacts Tryz.prog 5 Tryz.f5 Rows.predPathsSpec Rows.predPathsRow=true:=by
 unfold joinedFacts
 simp only [Bool.and_eq_true]
 and_intros
 all_goals (as_aux_lemma=>kernel_rfl)
theorem JG : Rows.PredPathsSaid :=
 OpenClaim.holds_of_wide 5 Tryz.f5 rfl rfl rfl rfl rfl rfl rfl ⟨rfl,rfl,rfl,rfl,rfl⟩ rfl rfl rfl rfl rfl (by as_aux_lemma=>kernel_rfl) CX Yo
  (of_decide_eq_true (by as_aux_lemma=>kernel_rfl)) (by unfold Func.isWrapper;first | (rw [if_pos (by decide +kernel)];kernel_rfl) | (rw [if_neg (by decide +kernel)];exact ⟨rfl,rfl⟩))
  (fun os started H enc _=>CW os started H enc)
theorem paths_card : Rows.PredPathsCardSaid :=
 Claim7.holds_tied_plain_at .later [] [.data,.handle,.data,.data,.data] true (true, "371d459cc26d4d61963cf3752a80fd9edd2868a96cb24883440bbd2b5cc03c62") true JG (fun _ h=>by cases h) (by kernel_rfl) (fun _ h=>by cases h) predPaths_row_tie rfl ⟨rfl,rfl⟩ (by kernel_rfl) rfl
  (fun f fn hf hfn=>by
   obtain rfl : f=5:=Option.some.inj ((show Tryz.prog.funcNamed "placket/placketlaw17.PredPaths"=some 5 by kernel_rfl).symm.trans hf) |>.symm
   obtain rfl : fn=Tryz.f5:=(Option.some.inj (CX.symm.trans hfn)).symm
   exact ⟨by kernel_rfl,fun j t ht=>by
    rw [Au] at ht
    have hm : t ∈ [24,29,51]:=by simpa using Array.mem_of_getElem? ht
    have hall : ([24,29,51].all fun u=>!Tryz.prog.wantsStandIn u)=true:=by kernel_rfl
    exact (show Tryz.prog.wantsStandIn t=false by simpa using List.all_eq_true.1 hall t hm)⟩)
  (by kernel_rfl)
end Go.V
