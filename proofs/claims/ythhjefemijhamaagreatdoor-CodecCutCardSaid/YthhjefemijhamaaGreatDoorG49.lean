/- Texts J9. -/
import Derived.ChangeMaps5
import Derived.Test.YthhjefemijhamaaGreatDoorCards
import Derived.Test.YthhjefemijhamaaGreatDoorG47
import Derived.Test.YthhjefemijhamaaGreatDoorG48
set_option linter.unusedVariables false
set_option linter.unusedSimpArgs false
namespace Go.V
open Go.Proofs Go.Proofs.YthhjefemijhamaaGreatDoor
open Go.ChangeShapes Go.WideShapes Go.ChangeAt Go.RowKit
set_option maxRecDepth 100000
theorem open_treeV {H : Type} {enc : TypeId × Value→H} {W : World} {base : Nat} {held : Bool} {r : Reach} {b0 : Nat} {v : Value} {d : DataW H} {ps : List MemPlace} (hval : Value.okWide Tryz.prog W r b0 28 v) (hd : DataW.Trod enc Tryz.prog W base (fun _=>true) held 28 v d ps) :
  ∃ (t : Tr) (c : List VV),TrV t c∧TrOK t∧VR W (OO (fun _=>False) [] []) [] (.agg c) v:=by
 obtain ⟨cs,rfl,hsz⟩:=okWide_struct j_u28 hval
 obtain ⟨fuel,hf⟩:=hd
 obtain ⟨t,c,h1,h2,h3⟩:=open_tree (O:=OO (fun _=>False) [] []) (by rintro b (h | ⟨id,L,o,h,_⟩);exact h;simp at h) (fun _=>rfl) fuel _ _ hf
 exact ⟨t,c,h1,h2,by simp only [VR];exact ⟨cs,rfl,h3⟩⟩
theorem laid_out : laidOutB Tryz.prog=true:=by kernel_rfl
theorem j_func7 : Tryz.prog.funcs[7]?=some Tryz.f7:=by kernel_rfl
theorem j_params7 : Tryz.f7.params=#[24,24,28,28]:=by kernel_rfl
set_option linter.unusedVariables false in
theorem one_lifted (os : Os) (started : os.Started) (H : Type) (enc : TypeId × Value→H) :
  ReturnsInHanded {} Tryz.checked os 7 .any (fun w args=>(Rows.codecOneSpec.pre enc Tryz.prog Tryz.f7 [] false w args∧laidMetH Tryz.prog laidL w)∧sizedMet enc Tryz.prog Tryz.f7 (OpenSpec.ofChange Rows.codecOneSpec) false w args)
   (Rows.codecOneSpec.post enc Tryz.prog Tryz.f7 false true false false):=by
 refine returnsInHanded_of_change_and (C:=Tryz.checked) (X:=fun w _=>laidMetH Tryz.prog laidL w) (fun _ _ _ hh h=>h.of_heap hh) j_own started (by kernel_rfl) j_func7
  (ChangeSpec.witness_shaped (enc:=enc) (C:=Tryz.checked) (os:=os) (X:=fun w _=>laidMetH Tryz.prog laidL w) false (laidWorld os) #[.agg #[.int .u64 0,.int .i64 0],.agg #[.int .u64 0,.int .i64 0],.agg #[.int .i64 0,.int .i64 0,.string ⟨#[]⟩,.slice none 0 0,.slice none 0 0],.agg #[.int .i64 0,.int .i64 0,.string ⟨#[]⟩,.slice none 0 0,.slice none 0 0]] 8 rfl
   (World.shaped_of_ZipB (by kernel_rfl) (by kernel_rfl)) (by kernel_rfl) (by kernel_rfl) (by kernel_rfl) (laidWorld_met os _)) ?_
 intro W base args ds gs before hval0 hW _ _ hL _
 have hval : ∀ (j : Nat) t v,Tryz.f7.params[j]?=some t→args[j]?=some v→Value.okWide Tryz.prog W .any base t v:=hval0
 have hW':=hW
 have hlt:=hW.lt
 obtain ⟨p,q,hA0,hV,rfl,_,_⟩:=hW
 have hA : DataW.TrodAll enc Tryz.prog W 0 (fun _=>true) true Tryz.f7.params.toList args.toList ds p:=hA0
 rw [j_params7] at hA hval
 obtain ⟨v0,v1,v2,v3,d0,d1,d2,d3,p0,p1,p2,p3,rfl,rfl,rfl,h0,h1,h2,h3⟩:=trodAll_four hA
 obtain ⟨rfl,rfl⟩:=trodVars_none hV
 obtain ⟨a,b,rfl,rfl,rfl,wa,wb⟩:=open_conf (hval 0 24 v0 rfl rfl) h0
 obtain ⟨a',b',rfl,rfl,rfl,wa',wb'⟩:=open_conf (hval 1 24 v1 rfl rfl) h1
 obtain ⟨x,c,t1,t2,t3⟩:=open_treeV (hval 2 28 v2 rfl rfl) h2
 obtain ⟨y,d,s1,s2,s3⟩:=open_treeV (hval 3 28 v3 rfl rfl) h3
 simp only [List.append_nil,List.nil_append] at hW' hlt
 refine (calls_true (l_One a b a' b' t1 s1 t2 s2) hL (by simp only [VRs];exact ⟨_,_,rfl,by simp [VRs,VR],_,_,rfl,by simp [VRs,VR],_,_,rfl,t3,_,_,rfl,s3,rfl⟩)).mono fun e W' ⟨he,hb⟩=>?_
 subst he
 exact ⟨_,rfl,_,_,_,[],_,[],hW',trodAll_mk1 (shut_bool j_und4 _),trodAll_mk4 (shut_conf wa wb) (shut_conf wa' wb') (Below.trod laid_out (by kernel_rfl) (of_decide_eq_true (by kernel_rfl)) h2 hb fun x hx=>hlt x (by simp [hx])) (Below.trod laid_out (by kernel_rfl) (of_decide_eq_true (by kernel_rfl)) h3 hb fun x hx=>hlt x (by simp [hx])),rfl,hb.frame _,fun h=>by cases h⟩
theorem one_row : Rows.CodecOneSaid :=
 OpenClaim.holds_of_wide 7 Tryz.f7 rfl rfl rfl rfl rfl rfl rfl ⟨rfl,rfl,rfl,rfl,rfl⟩ rfl rfl rfl rfl rfl (by kernel_rfl) j_func7 (by kernel_rfl)
  (of_decide_eq_true (by kernel_rfl)) (by unfold Func.isWrapper;first | (rw [if_pos (by decide +kernel)];kernel_rfl) | (rw [if_neg (by decide +kernel)];exact ⟨rfl,rfl⟩))
  (fun os started H enc _=>one_lifted os started H enc)
theorem one_card : Rows.CodecOneCardSaid :=
 Claim7.holds_tied_plain_at .later [] [.data,.handle,.data] true (true, "e67ccfa62237e6685f20446187897d0df9852adc6047ae00871251c2f933476a") true one_row (fun _ h=>by cases h) (by kernel_rfl) (fun _ h=>by cases h) codecOne_row_tie rfl ⟨rfl,rfl⟩ (by kernel_rfl) rfl
  (fun f fn hf hfn=>by
   obtain rfl : f=7:=Option.some.inj ((show Tryz.prog.funcNamed "placket/placketlaw14.CodecOne"=some 7 by kernel_rfl).symm.trans hf) |>.symm
   obtain rfl : fn=Tryz.f7:=(Option.some.inj (j_func7.symm.trans hfn)).symm
   exact ⟨by kernel_rfl,fun j t ht=>by
    rw [j_params7] at ht
    have hm : t ∈ [24,24,28,28]:=by simpa using Array.mem_of_getElem? ht
    have hall : ([24,24,28,28].all fun u=>!Tryz.prog.wantsStandIn u)=true:=by kernel_rfl
    exact (show Tryz.prog.wantsStandIn t=false by simpa using List.all_eq_true.1 hall t hm)⟩)
  (by kernel_rfl)
end Go.V
