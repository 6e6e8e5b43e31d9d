/- Texts J23. -/
import Derived.Test.YtgmhpemjlbgfcaaGreatDoorG44
import Derived.Test.YtgmhpemjlbgfcaaGreatDoorG45
import Derived.Test.YtgmhpemjlbgfcaaGreatDoorG49
set_option linter.unusedVariables false
set_option linter.unusedSimpArgs false
namespace Go.V
open Go.Proofs Go.Proofs.YtgmhpemjlbgfcaaGreatDoor
open Go.ChangeShapes Go.WideShapes Go.ChangeAt Go.RowKit
set_option maxRecDepth 100000
theorem aaG : Tryz.prog.underlying 37=some (.struct #[fJ "Kind" 3 0 0,fJ "Int" 2 1 8,fJ "Text" 9 2 16]):=by kernel_rfl
theorem Z9 : Tryz.prog.cellsOf 37=3:=by kernel_rfl
theorem aau : Tryz.prog.underlying 53=some (.struct #[fJ "Kind" 3 0 0,fJ "Path" 51 1 8,fJ "Op" 3 2 32,fJ "Const" 37 3 40]):=by kernel_rfl
theorem ZJ : Tryz.prog.cellsOf 53=6:=by kernel_rfl
theorem aar : Tryz.prog.cellsOf 51=1:=by kernel_rfl
theorem YP : Tryz.prog.underlying 25=some (.slice 53):=by kernel_rfl
section
variable {H : Type} {enc : TypeId × Value→H} {w : World} {base : Nat} {sp : Nat→Bool} {held : Bool}
theorem Zw {fuel : Nat} {cs : List Value} {x : DataW H × List MemPlace} (h : DataW.trod enc Tryz.prog w base sp held fuel 37 cs=some x) :
  ∃ (k i : Int) (t : ByteArray),(-9223372036854775808≤i∧i≤9223372036854775807)∧cs=[.int .i64 k,.int .i64 i,.string t]:=by
 obtain ⟨xs,n,rfl,_,hcl,hxl,hf⟩:=DataW.trod_struct aaG h
 rw [Z9] at hcl
 match cs,hcl with
 | [v0,v1,v2],_ =>
  have g : ∀ {i : Nat} {f : Field},i < 3→#[fJ "Kind" 3 0 0,fJ "Int" 2 1 8,fJ "Text" 9 2 16][i]?=some f→∃ y,DataW.trod enc Tryz.prog w base sp held n f.type (([v0,v1,v2].drop f.offset).take (Tryz.prog.cellsOf f.type))=some y:=by
   intro i f hi hfi
   have:=hf i f hfi
   rw [List.getElem?_eq_getElem (by rw [hxl];exact hi)] at this
   exact ⟨_,this⟩
  obtain ⟨y0,g0⟩:=g (i:=0) (f:=fJ "Kind" 3 0 0) (by decide) rfl
  obtain ⟨y1,g1⟩:=g (i:=1) (f:=fJ "Int" 2 1 8) (by decide) rfl
  obtain ⟨y2,g2⟩:=g (i:=2) (f:=fJ "Text" 9 2 16) (by decide) rfl
  simp only [fJ,Qx,XG,QH,List.drop_zero,List.drop_succ_cons,List.take_succ_cons,List.take_zero] at g0 g1 g2
  obtain ⟨a0,e0,_,w0⟩:=DataW.trod_int sJ g0
  obtain ⟨a1,e1,_,w1⟩:=DataW.trod_int Xx g1
  obtain ⟨t,e2,_,_⟩:=DataW.trod_string BO g2
  simp only [List.cons.injEq,and_true] at e0 e1 e2
  subst e0 e1 e2
  exact ⟨a0,a1,t,by simpa [Lit.wf,IntKind.min,IntKind.max,IntKind.signed,IntKind.bits] using w1,rfl⟩
theorem ZN {O : Nat→Prop} (hO : Xj O) {fuel : Nat} {cs : List Value} {x : DataW H × List MemPlace} (hsp : ∀ b,sp b=true) (h : DataW.trod enc Tryz.prog w base sp held fuel 53 cs=some x) :
  ∃ (a : Am) (c : List VV),AmV a c∧bI w O [] c cs:=by
 obtain ⟨xs,n,rfl,_,hcl,hxl,hf⟩:=DataW.trod_struct aau h
 rw [ZJ] at hcl
 match cs,hcl with
 | [v0,v1,v2,v3,v4,v5],_ =>
  have g : ∀ {i : Nat} {f : Field},i < 4→#[fJ "Kind" 3 0 0,fJ "Path" 51 1 8,fJ "Op" 3 2 32,fJ "Const" 37 3 40][i]?=some f→∃ y,DataW.trod enc Tryz.prog w base sp held n f.type (([v0,v1,v2,v3,v4,v5].drop f.offset).take (Tryz.prog.cellsOf f.type))=some y:=by
   intro i f hi hfi
   have:=hf i f hfi
   rw [List.getElem?_eq_getElem (by rw [hxl];exact hi)] at this
   exact ⟨_,this⟩
  obtain ⟨y0,g0⟩:=g (i:=0) (f:=fJ "Kind" 3 0 0) (by decide) rfl
  obtain ⟨y1,g1⟩:=g (i:=1) (f:=fJ "Path" 51 1 8) (by decide) rfl
  obtain ⟨y2,g2⟩:=g (i:=2) (f:=fJ "Op" 3 2 32) (by decide) rfl
  obtain ⟨y3,g3⟩:=g (i:=3) (f:=fJ "Const" 37 3 40) (by decide) rfl
  simp only [fJ,Qx,aar,Z9,List.drop_zero,List.drop_succ_cons,List.take_succ_cons,List.take_zero] at g0 g1 g2 g3
  obtain ⟨a0,e0,_,w0⟩:=DataW.trod_int sJ g0
  obtain ⟨l,pw,u1,e1,r1,r2,r3,r4⟩:=JD hO hsp g1
  obtain ⟨a2,e2,_,w2⟩:=DataW.trod_int sJ g2
  obtain ⟨k,i,t,hi,e3⟩:=Zw g3
  simp only [List.cons.injEq,and_true] at e0 e1 e2 e3
  obtain ⟨e3,e4,e5⟩:=e3
  subst e0 e1 e2 e3 e4 e5
  refine ⟨⟨a0,l,a2,k,i,t.data.toList⟩,_,.mk (pw:=pw) r2 r4 r3 hi, ?_⟩
  simp only [Am.cells,bI,VR]
  exact ⟨_,_,rfl,rfl,_,_,rfl,r1,_,_,rfl,rfl,_,_,rfl,rfl,_,_,rfl,rfl,_,_,rfl,rfl,rfl⟩
theorem ZC {O : Nat→Prop} (hO : Xj O) {fuel : Nat} {cs : List Value} {x : DataW H × List MemPlace} (hsp : ∀ b,sp b=true) (h : DataW.trod enc Tryz.prog w base sp held fuel 25 cs=some x) :
  ∃ (l : List Am) (lv : VV) (v : Value),cs=[v]∧VR w O [] lv v∧FV l lv∧l.length≤9223372036854775807:=by
 rcases Dx YP ZJ (by decide) hsp h with rfl | ⟨a,rfl⟩ | ⟨b,o,len,cap,n,_,rfl,hl,hm,hel⟩
 ·exact ⟨[],.nils,_,rfl,by simp only [VR],⟨[],.nil,rfl,fun _ h=>absurd h (Nat.not_lt_zero _)⟩,by simp⟩
 ·exact ⟨[],.sl 0 [] false,_,rfl,by simp only [VR];exact .inr ⟨trivial,trivial,a,rfl⟩,⟨[],dG.of .nil rfl rfl,rfl,fun _ h=>absurd h (Nat.not_lt_zero _)⟩,by simp⟩
 ·obtain ⟨l,hkl,hk⟩:=qj (p:=fun i (q : Am × List VV)=>AmV q.1 q.2∧∃ cs',cs'.length=6∧(∀ j,j < 6→w.cell? ⟨b,o+i*6+j,none⟩=cs'[j]?)∧bI w O [] q.2 cs') (n:=len) (fun i hi=>by
   obtain ⟨cs',y,c1,c2,c3⟩:=hel i hi
   obtain ⟨a,c,h1,h2⟩:=ZN hO hsp c3
   exact ⟨(a,c),h1,cs',c1,c2,h2⟩)
  have hmem : ∀ p ∈ l,AmV p.1 p.2:=fun p hp=>by
   obtain ⟨i,hi,rfl⟩:=List.getElem_of_mem hp
   exact (hk i hi).1
  have hB : dh 6 (l.map (·.2)):=⟨fun c hc=>by
    obtain ⟨p,hp,rfl⟩:=List.mem_map.1 hc;exact (hmem p hp).cells.1,fun c hc=>by
    obtain ⟨p,hp,rfl⟩:=List.mem_map.1 hc;exact (hmem p hp).cells.2.1,fun c hc=>by
    obtain ⟨p,hp,rfl⟩:=List.mem_map.1 hc;exact (hmem p hp).cells.2.2⟩
  refine ⟨l.map (·.1),.sl len (l.map (·.2)).flatten false,_,rfl, ?_,⟨l.map (·.2),dG.of hB (by simp [hkl]) rfl,by simp,fun j h1 h2=>?_⟩,by rw [List.length_map,hkl];have : maxLen=9223372036854775807:=rfl;omega⟩
  ·simp only [VR]
   refine .inl ⟨b,o,cap,rfl,hl,by simp,.inr (hO b),yh (k:=6) _ _ fun i hi=>?_⟩
   simp only [List.length_map] at hi
   obtain ⟨t1,cs',c1,c2,c3⟩:=hk i hi
   simp only [List.getElem_map]
   refine ⟨t1.cells.1,fun j x hx=>?_⟩
   obtain ⟨v,hv,hxv⟩:=c3.get hx
   have hj : j < 6:=by have:=(List.getElem?_eq_some_iff.1 hx).1;rw [t1.cells.1] at this;exact this
   exact ⟨v,by rw [c2 j hj];exact hv,hxv⟩
  ·simp only [List.getElem_map]
   exact (hk j (by simpa using h1)).1
end
theorem Yz {H : Type} {enc : TypeId × Value→H} {W : World} {base : Nat} {held : Bool} {v : Value} {d : DataW H} {ps : List MemPlace} (hd : DataW.Trod enc Tryz.prog W base (fun _=>true) held 25 v d ps) (h1 : v.cells=#[v]) :
  ∃ (l : List Am) (lv : VV),VR W (OO (fun _=>False) [] []) [] lv v∧FV l lv∧l.length≤9223372036854775807:=by
 obtain ⟨fuel,hf⟩:=hd
 obtain ⟨l,lv,v',e,h2,h3,h4⟩:=ZC (O:=OO (fun _=>False) [] []) (by rintro b (h | ⟨id,L,o,h,_⟩);exact h;simp at h) (fun _=>rfl) hf
 rw [h1] at e
 obtain rfl : v=v':=by simpa using e
 exact ⟨l,lv,h2,h3,h4⟩
theorem Zc : Tryz.prog.funcs[3]?=some Tryz.f3:=by kernel_rfl
theorem Y0 : Tryz.f3.params=#[24,25,25,29]:=by kernel_rfl
set_option linter.unusedVariables false in
theorem YW (os : Os) (started : os.Started) (H : Type) (enc : TypeId × Value→H) :
  ReturnsInHanded {} Tryz.checked os 3 .any (fun w args=>(Rows.predTruthsSpec.pre enc Tryz.prog Tryz.f3 [] false w args∧laidMetH Tryz.prog YO w)∧sizedMet enc Tryz.prog Tryz.f3 (OpenSpec.ofChange Rows.predTruthsSpec) false w args)
   (Rows.predTruthsSpec.post enc Tryz.prog Tryz.f3 false true false false):=by
 refine returnsInHanded_of_change_and (C:=Tryz.checked) (X:=fun w _=>laidMetH Tryz.prog YO w) (fun _ _ _ hh h=>h.of_heap hh) VA started (by kernel_rfl) Zc
  (ChangeSpec.witness_shaped (enc:=enc) (C:=Tryz.checked) (os:=os) (X:=fun w _=>laidMetH Tryz.prog YO w) false (laidWorld os) #[.agg #[.int .u64 0,.int .i64 0],.slice none 0 0,.slice none 0 0,.agg #[.int .i64 0,.int .i64 0,.string ⟨#[]⟩,.slice none 0 0,.slice none 0 0]] 8 rfl
   (World.shaped_of_ZipB (by kernel_rfl) (by kernel_rfl)) (by kernel_rfl) (by kernel_rfl) (by kernel_rfl) (laidWorld_met os _)) ?_
 intro W base args ds gs before hval0 hW _ _ hL _
 have hval : ∀ (j : Nat) t v,Tryz.f3.params[j]?=some t→args[j]?=some v→Value.okWide Tryz.prog W .any base t v:=hval0
 have hW':=hW
 have hlt:=hW.lt
 obtain ⟨p,q,hA0,hV,rfl,_,_⟩:=hW
 have hA : DataW.TrodAll enc Tryz.prog W 0 (fun _=>true) true Tryz.f3.params.toList args.toList ds p:=hA0
 rw [Y0] at hA hval
 obtain ⟨v0,v1,v2,v3,d0,d1,d2,d3,p0,p1,p2,p3,rfl,rfl,rfl,h0,h1,h2,h3⟩:=trodAll_four hA
 obtain ⟨rfl,rfl⟩:=trodVars_none hV
 obtain ⟨a,b,rfl,rfl,rfl,wa,wb⟩:=Kr (hval 0 24 v0 rfl rfl) h0
 have hv1:=hval 1 25 v1 rfl rfl
 obtain ⟨la,va,s1,s2,s3⟩:=Yz h1 (by obtain ⟨a,len,cap,rfl⟩:=okWide_slice YP hv1;rfl)
 have hv2:=hval 2 25 v2 rfl rfl
 obtain ⟨lb,vb,r1,r2,r3⟩:=Yz h2 (by obtain ⟨a,len,cap,rfl⟩:=okWide_slice YP hv2;rfl)
 obtain ⟨x,c,t1,t2,t3⟩:=Hy (hval 3 29 v3 rfl rfl) h3
 simp only [List.append_nil,List.nil_append] at hW' hlt
 refine (GY (aaf a b t1 t2 la lb va vb s2 r2 s3 r3) hL (by simp only [bI];exact ⟨_,_,rfl,by simp [bI,VR],_,_,rfl,s1,_,_,rfl,r1,_,_,rfl,t3,rfl⟩)).mono fun e W' ⟨he,hb⟩=>?_
 subst he
 exact ⟨_,rfl,_,_,_,[],_,[],hW',trodAll_mk1 (shut_bool UD _),trodAll_mk4 (Kv wa wb) (Below.trod Fj (by kernel_rfl) (of_decide_eq_true (by kernel_rfl)) h1 hb fun x hx=>hlt x (by simp [hx])) (Below.trod Fj (by kernel_rfl) (of_decide_eq_true (by kernel_rfl)) h2 hb fun x hx=>hlt x (by simp [hx])) (Below.trod Fj (by kernel_rfl) (of_decide_eq_true (by kernel_rfl)) h3 hb fun x hx=>hlt x (by simp [hx])),rfl,hb.frame _,fun h=>by cases h⟩
set_option maxHeartbeats 8000000 in
theorem YT : joinedFacts Tryz.prog 3 Tryz.f3 Rows.predTruthsSpec Rows.predTruthsRow=true:=by
 unfold joinedFacts
 simp only [Bool.and_eq_true]
 and_intros
 all_goals (as_aux_lemma=>kernel_rfl)
theorem ZE : Rows.PredTruthsSaid :=
 OpenClaim.holds_of_wide 3 Tryz.f3 rfl rfl rfl rfl rfl rfl rfl ⟨rfl,rfl,rfl,rfl,rfl⟩ rfl rfl rfl rfl rfl (by as_aux_lemma=>kernel_rfl) Zc YT
  (of_decide_eq_true (by as_aux_lemma=>kernel_rfl)) (by unfold Func.isWrapper;first | (rw [if_pos (by decide +kernel)];kernel_rfl) | (rw [if_neg (by decide +kernel)];exact ⟨rfl,rfl⟩))
  (fun os started H enc _=>YW os started H enc)
theorem truths_card : Rows.PredTruthsCardSaid :=
 Claim7.holds_tied_plain_at .later [] [.data,.handle,.data,.data,.data] true (true, "371d459cc26d4d61963cf3752a80fd9edd2868a96cb24883440bbd2b5cc03c62") true ZE (fun _ h=>by cases h) (by kernel_rfl) (fun _ h=>by cases h) predTruths_row_tie rfl ⟨rfl,rfl⟩ (by kernel_rfl) rfl
  (fun f fn hf hfn=>by
   obtain rfl : f=3:=Option.some.inj ((show Tryz.prog.funcNamed "placket/placketlaw17.PredTruths"=some 3 by kernel_rfl).symm.trans hf) |>.symm
   obtain rfl : fn=Tryz.f3:=(Option.some.inj (Zc.symm.trans hfn)).symm
   exact ⟨by kernel_rfl,fun j t ht=>by
    rw [Y0] at ht
    have hm : t ∈ [24,25,29]:=by
     have:=Array.mem_of_getElem? ht
     simp at this
     simp only [List.mem_cons,List.not_mem_nil,or_false]
     omega
    have hall : ([24,25,29].all fun u=>!Tryz.prog.wantsStandIn u)=true:=by kernel_rfl
    exact (show Tryz.prog.wantsStandIn t=false by simpa using List.all_eq_true.1 hall t hm)⟩)
  (by kernel_rfl)
end Go.V
