/- Texts J24. -/
import Derived.Test.YtgmhpemjlbgfcaaGreatDoorG50
import Derived.Test.YtgmhpemjlbgfcaaGreatDoorG51
set_option linter.unusedVariables false
set_option linter.unusedSimpArgs false
namespace Go.V
open Go.Proofs Go.Proofs.YtgmhpemjlbgfcaaGreatDoor
open Go.ChangeShapes Go.WideShapes Go.ChangeAt Go.RowKit
set_option maxRecDepth 100000
theorem Yz {H : Type} {enc : TypeId × Value→H} {W : World} {base : Nat} {held : Bool} {r : Reach} {b0 : Nat} {v : Value} {d : DataW H} {ps : List MemPlace} (hval : Value.okWide Tryz.prog W r b0 53 v) (hd : DataW.Trod enc Tryz.prog W base (fun _=>true) held 53 v d ps) :
  ∃ (a : Am) (pw : VV),ZI a (a.cells pw)∧VR W (OO (fun _=>False) [] []) [] (.agg (a.cells pw)) v:=by
 obtain ⟨cs,rfl,hsz⟩:=okWide_struct aau hval
 obtain ⟨fuel,hf⟩:=hd
 obtain ⟨a,c,h1,h3⟩:=ZN (O:=OO (fun _=>False) [] []) (by rintro b (h | ⟨id,L,o,h,_⟩);exact h;simp at h) (fun _=>rfl) hf
 have h2:=h1
 cases h1 with
 | @mk pw hp hl hi hci=>exact ⟨a,pw,h2,by simp only [VR];exact ⟨cs,rfl,h3⟩⟩
theorem Zc : Tryz.prog.funcs[4]?=some Tryz.f4:=by kernel_rfl
theorem Y0 : Tryz.f4.params=#[24,53,53,29]:=by kernel_rfl
set_option linter.unusedVariables false in
theorem YL (os : Os) (started : os.Started) (H : Type) (enc : TypeId × Value→H) :
  ReturnsInHanded {} Tryz.checked os 4 .any (fun w args=>(Rows.predTurnedSpec.pre enc Tryz.prog Tryz.f4 [] false w args∧laidMetH Tryz.prog YO w)∧sizedMet enc Tryz.prog Tryz.f4 (OpenSpec.ofChange Rows.predTurnedSpec) false w args)
   (Rows.predTurnedSpec.post enc Tryz.prog Tryz.f4 false true false false):=by
 refine returnsInHanded_of_change_and (C:=Tryz.checked) (X:=fun w _=>laidMetH Tryz.prog YO w) (fun _ _ _ hh h=>h.of_heap hh) VA started (by kernel_rfl) Zc
  (ChangeSpec.witness_shaped (enc:=enc) (C:=Tryz.checked) (os:=os) (X:=fun w _=>laidMetH Tryz.prog YO w) false (laidWorld os) #[.agg #[.int .u64 0,.int .i64 0],.agg #[.int .i64 0,.slice none 0 0,.int .i64 0,.int .i64 0,.int .i64 0,.string ⟨#[]⟩],.agg #[.int .i64 0,.slice none 0 0,.int .i64 0,.int .i64 0,.int .i64 0,.string ⟨#[]⟩],.agg #[.int .i64 0,.int .i64 0,.string ⟨#[]⟩,.slice none 0 0,.slice none 0 0]] 8 rfl
   (World.shaped_of_ZipB (by kernel_rfl) (by kernel_rfl)) (by kernel_rfl) (by kernel_rfl) (by kernel_rfl) (laidWorld_met os _)) ?_
 intro W base args ds gs before hval0 hW _ _ hL _
 have hval : ∀ (j : Nat) t v,Tryz.f4.params[j]?=some t→args[j]?=some v→Value.okWide Tryz.prog W .any base t v:=hval0
 have hW':=hW
 have hlt:=hW.lt
 obtain ⟨p,q,hA0,hV,rfl,_,_⟩:=hW
 have hA : DataW.TrodAll enc Tryz.prog W 0 (fun _=>true) true Tryz.f4.params.toList args.toList ds p:=hA0
 rw [Y0] at hA hval
 obtain ⟨v0,v1,v2,v3,d0,d1,d2,d3,p0,p1,p2,p3,rfl,rfl,rfl,h0,h1,h2,h3⟩:=trodAll_four hA
 obtain ⟨rfl,rfl⟩:=trodVars_none hV
 obtain ⟨a,b,rfl,rfl,rfl,wa,wb⟩:=Kr (hval 0 24 v0 rfl rfl) h0
 obtain ⟨y,py,s2,s1⟩:=Yz (hval 1 53 v1 rfl rfl) h1
 obtain ⟨z,pz,r2,r1⟩:=Yz (hval 2 53 v2 rfl rfl) h2
 obtain ⟨x,c,t1,t2,t3⟩:=Hy (hval 3 29 v3 rfl rfl) h3
 simp only [List.append_nil,List.nil_append] at hW' hlt
 refine (GY (ZX a b t1 t2 y z py pz s2 r2) hL (by simp only [bI];exact ⟨_,_,rfl,by simp [bI,VR],_,_,rfl,s1,_,_,rfl,r1,_,_,rfl,t3,rfl⟩)).mono fun e W' ⟨he,hb⟩=>?_
 subst he
 exact ⟨_,rfl,_,_,_,[],_,[],hW',trodAll_mk1 (shut_bool UD _),trodAll_mk4 (Kv wa wb) (Below.trod Fj (by kernel_rfl) (of_decide_eq_true (by kernel_rfl)) h1 hb fun x hx=>hlt x (by simp [hx])) (Below.trod Fj (by kernel_rfl) (of_decide_eq_true (by kernel_rfl)) h2 hb fun x hx=>hlt x (by simp [hx])) (Below.trod Fj (by kernel_rfl) (of_decide_eq_true (by kernel_rfl)) h3 hb fun x hx=>hlt x (by simp [hx])),rfl,hb.frame _,fun h=>by cases h⟩
set_option maxHeartbeats 8000000 in
theorem YP : joinedFacts Tryz.prog 4 Tryz.f4 Rows.predTurnedSpec Rows.predTurnedRow=true:=by
 unfold joinedFacts
 simp only [Bool.and_eq_true]
 and_intros
 all_goals (as_aux_lemma=>kernel_rfl)
theorem ZC : Rows.PredTurnedSaid :=
 OpenClaim.holds_of_wide 4 Tryz.f4 rfl rfl rfl rfl rfl rfl rfl ⟨rfl,rfl,rfl,rfl,rfl⟩ rfl rfl rfl rfl rfl (by as_aux_lemma=>kernel_rfl) Zc YP
  (of_decide_eq_true (by as_aux_lemma=>kernel_rfl)) (by unfold Func.isWrapper;first | (rw [if_pos (by decide +kernel)];kernel_rfl) | (rw [if_neg (by decide +kernel)];exact ⟨rfl,rfl⟩))
  (fun os started H enc _=>YL os started H enc)
theorem turned_card : Rows.PredTurnedCardSaid :=
 Claim7.holds_tied_plain_at .later [] [.data,.handle,.data,.data,.data] true (true, "371d459cc26d4d61963cf3752a80fd9edd2868a96cb24883440bbd2b5cc03c62") true ZC (fun _ h=>by cases h) (by kernel_rfl) (fun _ h=>by cases h) predTurned_row_tie rfl ⟨rfl,rfl⟩ (by kernel_rfl) rfl
  (fun f fn hf hfn=>by
   obtain rfl : f=4:=Option.some.inj ((show Tryz.prog.funcNamed "placket/placketlaw17.PredTurned"=some 4 by kernel_rfl).symm.trans hf) |>.symm
   obtain rfl : fn=Tryz.f4:=(Option.some.inj (Zc.symm.trans hfn)).symm
   exact ⟨by kernel_rfl,fun j t ht=>by
    rw [Y0] at ht
    have hm : t ∈ [24,53,29]:=by
     have:=Array.mem_of_getElem? ht
     simp at this
     simp only [List.mem_cons,List.not_mem_nil,or_false]
     omega
    have hall : ([24,53,29].all fun u=>!Tryz.prog.wantsStandIn u)=true:=by kernel_rfl
    exact (show Tryz.prog.wantsStandIn t=false by simpa using List.all_eq_true.1 hall t hm)⟩)
  (by kernel_rfl)
end Go.V
