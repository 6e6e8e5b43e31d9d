/- Texts V23 V24. -/
import Derived.Test.YthhjefemijhamaaGreatDoorG10
set_option linter.unusedVariables false
set_option linter.unusedSimpArgs false
namespace Go.V
variable {P : Program} {G : Nat→Option (List VV)}
section
variable {Q : Out→Env→Store→Prop} {ρ : Env} {σ : Store} {ty : TypeId} {d : Option Nat} {r : List VO}
@[go_sem] theorem opsW_move {x₀ : Operand} : opsW P G (⟨d,.move x₀,ty,none⟩::r) Q ρ σ=stepO P G (oo P G (.move x₀) ty ρ σ) d r Q ρ:=opsW_plain (by simp) (by simp)
@[go_sem] theorem opsW_assign {x₀ : Operand} : opsW P G (⟨d,.assign x₀,ty,none⟩::r) Q ρ σ=stepO P G (oo P G (.assign x₀) ty ρ σ) d r Q ρ:=opsW_plain (by simp) (by simp)
@[go_sem] theorem opsW_pick {c₀ : Operand} {a₀ : Operand} {b₀ : Operand} : opsW P G (⟨d,.pick c₀ a₀ b₀,ty,none⟩::r) Q ρ σ=stepO P G (oo P G (.pick c₀ a₀ b₀) ty ρ σ) d r Q ρ:=opsW_plain (by simp) (by simp)
@[go_sem] theorem opsW_alloc {t₀ : TypeId} : opsW P G (⟨d,.alloc t₀,ty,none⟩::r) Q ρ σ=stepO P G (oo P G (.alloc t₀) ty ρ σ) d r Q ρ:=opsW_plain (by simp) (by simp)
@[go_sem] theorem opsW_box {t₀ : TypeId} {x₀ : Operand} : opsW P G (⟨d,.box t₀ x₀,ty,none⟩::r) Q ρ σ=stepO P G (oo P G (.box t₀ x₀) ty ρ σ) d r Q ρ:=opsW_plain (by simp) (by simp)
@[go_sem] theorem opsW_build {t₀ : TypeId} {ps₀ : Array (Nat × Operand)} : opsW P G (⟨d,.build t₀ ps₀,ty,none⟩::r) Q ρ σ=stepO P G (oo P G (.build t₀ ps₀) ty ρ σ) d r Q ρ:=opsW_plain (by simp) (by simp)
@[go_sem] theorem opsW_buildSlice {t₀ : TypeId} {n₀ : Nat} {ps₀ : Array (Nat × Operand)} : opsW P G (⟨d,.buildSlice t₀ n₀ ps₀,ty,none⟩::r) Q ρ σ=stepO P G (oo P G (.buildSlice t₀ n₀ ps₀) ty ρ σ) d r Q ρ:=opsW_plain (by simp) (by simp)
@[go_sem] theorem opsW_load {t₀ : TypeId} {a₀ : Operand} : opsW P G (⟨d,.load t₀ a₀,ty,none⟩::r) Q ρ σ=stepO P G (oo P G (.load t₀ a₀) ty ρ σ) d r Q ρ:=opsW_plain (by simp) (by simp)
@[go_sem] theorem opsW_store {t₀ : TypeId} {a₀ : Operand} {x₀ : Operand} : opsW P G (⟨d,.store t₀ a₀ x₀,ty,none⟩::r) Q ρ σ=stepO P G (oo P G (.store t₀ a₀ x₀) ty ρ σ) d r Q ρ:=opsW_plain (by simp) (by simp)
@[go_sem] theorem opsW_nilCheck {a₀ : Operand} : opsW P G (⟨d,.nilCheck a₀,ty,none⟩::r) Q ρ σ=stepO P G (oo P G (.nilCheck a₀) ty ρ σ) d r Q ρ:=opsW_plain (by simp) (by simp)
@[go_sem] theorem opsW_binOp {op₀ : BinOp} {t₀ : TypeId} {x₀ : Operand} {y₀ : Operand} {u₀ : TypeId} : opsW P G (⟨d,.binOp op₀ t₀ x₀ y₀ u₀,ty,none⟩::r) Q ρ σ=stepO P G (oo P G (.binOp op₀ t₀ x₀ y₀ u₀) ty ρ σ) d r Q ρ:=opsW_plain (by simp) (by simp)
@[go_sem] theorem opsW_unOp {op₀ : UnOp} {t₀ : TypeId} {x₀ : Operand} : opsW P G (⟨d,.unOp op₀ t₀ x₀,ty,none⟩::r) Q ρ σ=stepO P G (oo P G (.unOp op₀ t₀ x₀) ty ρ σ) d r Q ρ:=opsW_plain (by simp) (by simp)
@[go_sem] theorem opsW_convert {s₀ : TypeId} {t₀ : TypeId} {x₀ : Operand} : opsW P G (⟨d,.convert s₀ t₀ x₀,ty,none⟩::r) Q ρ σ=stepO P G (oo P G (.convert s₀ t₀ x₀) ty ρ σ) d r Q ρ:=opsW_plain (by simp) (by simp)
@[go_sem] theorem opsW_makeInterface {t₀ : TypeId} {x₀ : Operand} : opsW P G (⟨d,.makeInterface t₀ x₀,ty,none⟩::r) Q ρ σ=stepO P G (oo P G (.makeInterface t₀ x₀) ty ρ σ) d r Q ρ:=opsW_plain (by simp) (by simp)
@[go_sem] theorem opsW_makeFunc {f₀ : Fn} {as₀ : Array Operand} {bs₀ : Array Operand} : opsW P G (⟨d,.makeFunc f₀ as₀ bs₀,ty,none⟩::r) Q ρ σ=stepO P G (oo P G (.makeFunc f₀ as₀ bs₀) ty ρ σ) d r Q ρ:=opsW_plain (by simp) (by simp)
@[go_sem] theorem opsW_makeMap {t₀ : TypeId} {m₀ : Option Operand} : opsW P G (⟨d,.makeMap t₀ m₀,ty,none⟩::r) Q ρ σ=stepO P G (oo P G (.makeMap t₀ m₀) ty ρ σ) d r Q ρ:=opsW_plain (by simp) (by simp)
@[go_sem] theorem opsW_makeSlice {t₀ : TypeId} {l₀ : Operand} {c₀ : Operand} : opsW P G (⟨d,.makeSlice t₀ l₀ c₀,ty,none⟩::r) Q ρ σ=stepO P G (oo P G (.makeSlice t₀ l₀ c₀) ty ρ σ) d r Q ρ:=opsW_plain (by simp) (by simp)
@[go_sem] theorem opsW_slice {t₀ : TypeId} {x₀ : Operand} {l₀ : Option Operand} {h₀ : Option Operand} {m₀ : Option Operand} : opsW P G (⟨d,.slice t₀ x₀ l₀ h₀ m₀,ty,none⟩::r) Q ρ σ=stepO P G (oo P G (.slice t₀ x₀ l₀ h₀ m₀) ty ρ σ) d r Q ρ:=opsW_plain (by simp) (by simp)
@[go_sem] theorem opsW_fieldAddr {t₀ : TypeId} {x₀ : Operand} {f₀ : Nat} : opsW P G (⟨d,.fieldAddr t₀ x₀ f₀,ty,none⟩::r) Q ρ σ=stepO P G (oo P G (.fieldAddr t₀ x₀ f₀) ty ρ σ) d r Q ρ:=opsW_plain (by simp) (by simp)
@[go_sem] theorem opsW_field {t₀ : TypeId} {x₀ : Operand} {f₀ : Nat} : opsW P G (⟨d,.field t₀ x₀ f₀,ty,none⟩::r) Q ρ σ=stepO P G (oo P G (.field t₀ x₀ f₀) ty ρ σ) d r Q ρ:=opsW_plain (by simp) (by simp)
@[go_sem] theorem opsW_indexAddr {t₀ : TypeId} {x₀ : Operand} {i₀ : Operand} : opsW P G (⟨d,.indexAddr t₀ x₀ i₀,ty,none⟩::r) Q ρ σ=stepO P G (oo P G (.indexAddr t₀ x₀ i₀) ty ρ σ) d r Q ρ:=opsW_plain (by simp) (by simp)
@[go_sem] theorem opsW_index {t₀ : TypeId} {x₀ : Operand} {i₀ : Operand} : opsW P G (⟨d,.index t₀ x₀ i₀,ty,none⟩::r) Q ρ σ=stepO P G (oo P G (.index t₀ x₀ i₀) ty ρ σ) d r Q ρ:=opsW_plain (by simp) (by simp)
@[go_sem] theorem opsW_typeAssert {x₀ : Operand} {t₀ : TypeId} {a₀ : TypeId} {c₀ : Bool} : opsW P G (⟨d,.typeAssert x₀ t₀ a₀ c₀,ty,none⟩::r) Q ρ σ=stepO P G (oo P G (.typeAssert x₀ t₀ a₀ c₀) ty ρ σ) d r Q ρ:=opsW_plain (by simp) (by simp)
@[go_sem] theorem opsW_extract {x₀ : Operand} {i₀ : Nat} : opsW P G (⟨d,.extract x₀ i₀,ty,none⟩::r) Q ρ σ=stepO P G (oo P G (.extract x₀ i₀) ty ρ σ) d r Q ρ:=opsW_plain (by simp) (by simp)
@[go_sem] theorem opsW_lookup {t₀ : TypeId} {m₀ : Operand} {k₀ : Operand} {c₀ : Bool} : opsW P G (⟨d,.lookup t₀ m₀ k₀ c₀,ty,none⟩::r) Q ρ σ=stepO P G (oo P G (.lookup t₀ m₀ k₀ c₀) ty ρ σ) d r Q ρ:=opsW_plain (by simp) (by simp)
@[go_sem] theorem opsW_mapUpdate {t₀ : TypeId} {m₀ : Operand} {k₀ : Operand} {x₀ : Operand} : opsW P G (⟨d,.mapUpdate t₀ m₀ k₀ x₀,ty,none⟩::r) Q ρ σ=stepO P G (oo P G (.mapUpdate t₀ m₀ k₀ x₀) ty ρ σ) d r Q ρ:=opsW_plain (by simp) (by simp)
@[go_sem] theorem opsW_builtin {b : Builtin} {args : Array Operand} {ts : Array TypeId} : opsW P G (⟨d,.call ⟨.builtin b,args,ts⟩,ty,none⟩::r) Q ρ σ=stepO P G (oo P G (.call ⟨.builtin b,args,ts⟩) ty ρ σ) d r Q ρ:=opsW_plain (by simp) (by simp)
end
theorem callO_pure {f : FuncId} {xs : List VV} {d : Option Nat} {r : List VO} {Q : Out→Env→Store→Prop} {ρ : Env} {σ : Store} {x : VV} (h : PV P G f xs x) (hk : opsW P G r Q (putV ρ d x) σ) : callO P G f xs d r Q ρ σ:=CV_pure h hk
attribute [go_sem] wpV_skip wpV_exit wpV_ret wpV_seq wpV_cond wpV_block wpV_scope wpV_reg thenV_normal thenV_exit thenV_ret thenV_panic inBlockV_normal inBlockV_ret inBlockV_panic inBlockV_exit
 scopeV_normal scopeV_ret scopeV_exit scopeV_panic retW_ret retW_normal retW_panic opsW_nil opsW_call opsW_panic opsW_some stepO_some stepO_none callF_fn callF_yield rangeO_fn wpV_rangeF panO_ifc condO_true condO_false wantO_true wantO_false
attribute [go_sem] oo_move oo_assign oo_pick oo_alloc oo_box oo_build oo_bsl oo_load oo_store oo_nil oo_bin oo_un oo_conv oo_ifc oo_fn oo_map oo_msl oo_slice oo_fieldAddr oo_field oo_indexAddr oo_index oo_assert oo_extract oo_builtin
attribute [go_sem] ldV stV pickO alV boxV buildV bslV nilV ifcV extV fldV slcV okV evBin evUn evMakeSlice evField evIndexAddr evIndex evAssert evBuiltin loadV partV objCells intOp strOp shOp optInt ev Env.get wantV putV
 paramEnv resV tupV VV.cells splice ofV ofV1
section
variable {σ : Store} {t tx s d : TypeId}
@[go_sem] theorem evConvert_int {k : IntKind} {n : Int} : evConvert P s d (.int k n) σ=match tint P d,(P.underlying s).isSome with | some k,true=>okV (.int k (k.wrap n)) σ | _,_=>none:=rfl
@[go_sem] theorem evConvert_str {b : List UInt8} : evConvert P s d (.str b) σ=if (tstr P s && tstr P d)=true then okV (.str b) σ else none:=rfl
@[go_sem] theorem evConvert_nils : evConvert P s d .nils σ=match tsl P s with
  | some e=>if tint P e=some .u8∧tstr P d=true∧tsz P e=some 1 then match slCells σ 1 .nils with | some cells=>(bytesOf cells).map fun s=>⟨True,.str s,σ⟩ | none=>none else none
  | none=>none:=rfl
@[go_sem] theorem evConvert_sl {n : Nat} {c : List VV} {g : Bool} : evConvert P s d (.sl n c g) σ=match tsl P s with
  | some e=>if tint P e=some .u8∧tstr P d=true∧tsz P e=some 1 then match slCells σ 1 (.sl n c g) with | some cells=>(bytesOf cells).map fun s=>⟨True,.str s,σ⟩ | none=>none else none
  | none=>none:=rfl
@[go_sem] theorem evConvert_msl {i o n z : Nat} : evConvert P s d (.msl i o n z) σ=match tsl P s with
  | some e=>if tint P e=some .u8∧tstr P d=true∧tsz P e=some 1 then match slCells σ 1 (.msl i o n z) with | some cells=>(bytesOf cells).map fun s=>⟨True,.str s,σ⟩ | none=>none else none
  | none=>none:=rfl
@[go_sem] theorem evLen_str {b : List UInt8} (h : P.underlying t=some .string) : evLen P t (.str b) σ=okV (.int .i64 b.length) σ:=by simp [evLen,h]
@[go_sem] theorem evLen_nils {e : TypeId} (h : P.underlying t=some (.slice e)) : evLen P t .nils σ=okV (.int .i64 0) σ:=by simp [evLen,h]
@[go_sem] theorem evLen_sl {e : TypeId} {n : Nat} {c : List VV} {g : Bool} (h : P.underlying t=some (.slice e)) : evLen P t (.sl n c g) σ=okV (.int .i64 n) σ:=by simp [evLen,h]
@[go_sem] theorem evLen_msl {e : TypeId} {i o n z : Nat} (h : P.underlying t=some (.slice e)) : evLen P t (.msl i o n z) σ=okV (.int .i64 n) σ:=by simp [evLen,h]
@[go_sem] theorem evLen_arr {e : TypeId} {n : Nat} {v : VV} (h : P.underlying t=some (.array n e)) : evLen P t v σ=okV (.int .i64 n) σ:=by simp [evLen,h]
@[go_sem] theorem evLen_map {k e : TypeId} {i : Nat} {es : List (List UInt8 × VV)} (h : P.underlying t=some (.map k e)) (h' : σ[i]?=some (.mp es)) : evLen P t (.mmap i) σ=okV (.int .i64 es.length) σ:=by simp [evLen,h,h']
@[go_sem] theorem evSlice_str {b : List UInt8} {lo hi mx : Option Int} : evSlice P t (.str b) lo hi mx σ=match tstr P t,mx with
  | true,none=>some ⟨(bounds b.length lo hi).1,.str ((b.drop (bounds b.length lo hi).2.1).take ((bounds b.length lo hi).2.2-(bounds b.length lo hi).2.1)),σ⟩
  | _,_=>none:=rfl
@[go_sem] theorem evSlice_nils {lo hi mx : Option Int} : evSlice P t .nils lo hi mx σ=match tsl P t with
  | some e=>match tsz P e with
   | some _=>some ⟨(bounds 0 lo hi).1∧mx=none,.nils,σ⟩
   | none=>none
  | none=>none:=rfl
@[go_sem] theorem evSlice_sl {n : Nat} {cells : List VV} {tight : Bool} {lo hi mx : Option Int} : evSlice P t (.sl n cells tight) lo hi mx σ=match tsl P t with
  | some e=>match tsz P e with
   | some k=>some ⟨(bounds n lo hi).1∧(mx=none∨(mx=some ((bounds n lo hi).2.2 : Int)∧mx=hi))∧cells.length=n*k,.sl ((bounds n lo hi).2.2-(bounds n lo hi).2.1) ((cells.drop ((bounds n lo hi).2.1*k)).take (((bounds n lo hi).2.2-(bounds n lo hi).2.1)*k)) (mx.isSome || (tight && decide ((bounds n lo hi).2.2=n))),σ⟩
   | none=>none
  | none=>none:=rfl
@[go_sem] theorem evSlice_msl {id off n sz : Nat} {lo hi mx : Option Int} : evSlice P t (.msl id off n sz) lo hi mx σ=match tsl P t with
  | some e=>if tsz P e=some sz∧mx=none then some ⟨(bounds n lo hi).1∧0 < sz,if (bounds n lo hi).2.1=(bounds n lo hi).2.2∧0 < (bounds n lo hi).2.1 then .sl 0 [] false else .msl id (off+(bounds n lo hi).2.1*sz) ((bounds n lo hi).2.2-(bounds n lo hi).2.1) sz,σ⟩ else none
  | none=>none:=rfl
@[go_sem] theorem evSlice_mptr {id off : Nat} {lo hi mx : Option Int} : evSlice P t (.mptr id off) lo hi mx σ=match tarr P t with
  | some (n,e)=>match tsz P e,mx,objCells σ id with
   | some k,none,some cells=>some ⟨(bounds n lo hi).1∧(bounds n lo hi).2.1 < (bounds n lo hi).2.2∧0 < k∧off+n*k≤cells.length,.msl id (off+(bounds n lo hi).2.1*k) ((bounds n lo hi).2.2-(bounds n lo hi).2.1) k,σ⟩
   | _,_,_=>none
  | none=>none:=rfl
@[go_sem] theorem slCells_nils {z : Nat} : slCells σ z .nils=some []:=rfl
@[go_sem] theorem slCells_sl {z n : Nat} {cells : List VV} {g : Bool} : slCells σ z (.sl n cells g)=if cells.length=n*z then some cells else none:=rfl
@[go_sem] theorem slCells_msl {z id off n sz : Nat} : slCells σ z (.msl id off n sz)=match objCells σ id with
  | some cells=>if sz=z∧off+n*sz≤cells.length then some ((cells.drop off).take (n*sz)) else none
  | none=>none:=rfl
end
attribute [go_sem] Option.map_some Option.map_none Option.bind_some true_and and_true List.map_cons List.map_nil List.cons_append List.nil_append List.append_nil List.length_cons List.length_nil List.getElem?_cons_zero List.getElem?_cons_succ List.getElem?_nil
 List.set_cons_zero List.set_cons_succ List.drop_zero List.drop_succ_cons List.take_zero List.take_succ_cons List.getD_cons_zero List.getD_cons_succ Bool.not_true Bool.not_false Bool.and_true Bool.true_and Bool.and_false Bool.false_and Bool.or_true Bool.true_or Bool.or_false Bool.false_or
 beq_self_eq_true if_true if_false reduceCtorEq allCells VV.isCell List.all_cons List.all_nil fillV VV.isUndef List.getD_nil Bool.false_eq_true beq_true beq_false
end Go.V
namespace Go.V
variable {P : Program} {G : Nat→Option (List VV)}
abbrev Pend:=List (Nat × Op × TypeId × Env × VV)
def vchk (o : Option OpOut) (σ : Store) (x : VV) : Prop:=match o with
 | some o=>o.pre∧o.st=σ∧o.val=x
 | none=>False
def chkAll (P : Program) (G : Nat→Option (List VV)) (chk : List Nat) (pd : Pend) (σ : Store) : Prop:=∀ p ∈ pd,p.1 ∈ chk→viewK P G p.2.1 p.2.2.1 p.2.2.2.1 σ (fun v=>v=p.2.2.2.2)
def dviewO (P : Program) (G : Nat→Option (List VV)) (o : Option OpOut) (d : DO) (r : List DO) (pd : Pend) (Q : Out→Env→Store→Prop) (ρ : Env) (σ : Store) : Prop:=match o with
 | some o=>o.pre∧o.st=σ∧drawW P G r (if d.save then (d.ix,d.op,d.ty,ρ,o.val)::pd else pd) Q (putV ρ d.dst o.val) σ
 | none=>False
def deffO (P : Program) (G : Nat→Option (List VV)) (o : Option OpOut) (d : Option Nat) (chk : List Nat) (r : List DO) (pd : Pend) (Q : Out→Env→Store→Prop) (ρ : Env) : Prop:=match o with
 | some o=>o.pre∧chkAll P G chk pd o.st∧drawW P G r pd Q (putV ρ d o.val) o.st
 | none=>False
def dcallO (P : Program) (G : Nat→Option (List VV)) (f : FuncId) (xs : List VV) (d : Option Nat) (chk : List Nat) (r : List DO) (pd : Pend) (Q : Out→Env→Store→Prop) (ρ : Env) (σ : Store) : Prop :=
 CV P G f xs σ (resK (fun x σ'=>chkAll P G chk pd σ'∧drawW P G r pd Q (putV ρ d x) σ') (fun x σ'=>∀ ρ',Q (.panic x) ρ' σ'))
def dyieldO (P : Program) (G : Nat→Option (List VV)) (id : Nat) (xs : List VV) (d : Option Nat) (chk : List Nat) (r : List DO) (pd : Pend) (Q : Out→Env→Store→Prop) (ρ : Env) (σ : Store) : Prop :=
 YV P G id xs σ (resK (fun x σ'=>chkAll P G chk pd σ'∧drawW P G r pd Q (putV ρ d x) σ') (fun x σ'=>∀ ρ',Q (.panic x) ρ' σ'))
def dcallF (P : Program) (G : Nat→Option (List VV)) (fv : VV) (xs : List VV) (d : Option Nat) (chk : List Nat) (r : List DO) (pd : Pend) (Q : Out→Env→Store→Prop) (ρ : Env) (σ : Store) : Prop:=match fv with
 | .fn (.func g) first caps=>bodied P g=true∧dcallO P G g (first++xs++caps) d chk r pd Q ρ σ
 | .yield id=>dyieldO P G id xs d chk r pd Q ρ σ
 | _=>False
def dpureO (P : Program) (G : Nat→Option (List VV)) (f : FuncId) (xs : List VV) (d : DO) (r : List DO) (pd : Pend) (Q : Out→Env→Store→Prop) (ρ : Env) (σ : Store) : Prop :=
 ∃ x,PV P G f xs x∧drawW P G r (if d.save then (d.ix,d.op,d.ty,ρ,x)::pd else pd) Q (putV ρ d.dst x) σ
def dpureF (P : Program) (G : Nat→Option (List VV)) (fv : VV) (xs : List VV) (d : DO) (r : List DO) (pd : Pend) (Q : Out→Env→Store→Prop) (ρ : Env) (σ : Store) : Prop:=match fv with
 | .fn (.func g) first caps=>bodied P g=true∧dpureO P G g (first++xs++caps) d r pd Q ρ σ
 | _=>False
def dwantO (P : Program) (G : Nat→Option (List VV)) (g : Option Bool) (d : DO) (r : List DO) (pd : Pend) (Q : Out→Env→Store→Prop) (ρ : Env) (σ : Store) : Prop:=match g with
 | some true=>drawW P G ({ d with g:=none }::r) pd Q ρ σ
 | some false=>drawW P G r pd Q (putV ρ d.dst (.tup [])) σ
 | none=>False
section
variable {Q : Out→Env→Store→Prop} {ρ : Env} {σ : Store} {ty : TypeId} {ix : Nat} {d : Option Nat} {chk : List Nat} {sv : Bool} {r : List DO} {pd : Pend}
theorem opW_eq {op : Op} (h1 : ∀ f as ts,op≠.call ⟨.value f,as,ts⟩) (h2 : ∀ x,op≠.panic x) (K KP : VV→Store→Prop) : opW P G op ty ρ σ K KP=evK P G op ty ρ σ K:=by
 unfold opW
 split
 ·exact absurd rfl (h1 _ _ _)
 ·exact absurd rfl (h2 _)
 ·rfl
theorem viewK_eq {op : Op} (h1 : ∀ f as ts,op≠.call ⟨.value f,as,ts⟩) (h2 : ∀ x,op≠.panic x) (K : VV→Prop) : viewK P G op ty ρ σ K=∃ out,evOp P G ρ σ ⟨none,op,ty, "",#[],none⟩=some out∧out.pre∧out.st=σ∧K out.val:=by
 unfold viewK
 split
 ·exact absurd rfl (h1 _ _ _)
 ·exact absurd rfl (h2 _)
 ·rfl
theorem drawW_eff {op : Op} (h1 : ∀ f as ts,op≠.call ⟨.value f,as,ts⟩) (h2 : ∀ x,op≠.panic x) : drawW P G (⟨ix,d,op,ty,none,true,chk,sv⟩::r) pd Q ρ σ=deffO P G (oo P G op ty ρ σ) d chk r pd Q ρ:=by
 simp only [drawW,wantV,if_true,opW_eq h1 h2,evK,deffO,oo,chkAll]
 cases evOp P G ρ σ ⟨none,op,ty, "",#[],none⟩<;>simp
theorem drawW_view {op : Op} (h1 : ∀ f as ts,op≠.call ⟨.value f,as,ts⟩) (h2 : ∀ x,op≠.panic x) : drawW P G (⟨ix,d,op,ty,none,false,chk,sv⟩::r) pd Q ρ σ=dviewO P G (oo P G op ty ρ σ) ⟨ix,d,op,ty,none,false,chk,sv⟩ r pd Q ρ σ:=by
 simp only [drawW,wantV,Bool.false_eq_true,if_false,viewK_eq h1 h2,dviewO,oo]
 cases evOp P G ρ σ ⟨none,op,ty, "",#[],none⟩<;>simp
theorem viewK_chk {op : Op} {x : VV} (h1 : ∀ f as ts,op≠.call ⟨.value f,as,ts⟩) (h2 : ∀ x,op≠.panic x) : viewK P G op ty ρ σ (fun v=>v=x)=vchk (oo P G op ty ρ σ) σ x:=by
 simp only [viewK_eq h1 h2,vchk,oo]
 cases evOp P G ρ σ ⟨none,op,ty, "",#[],none⟩<;>simp
theorem drawW_nil : drawW P G [] pd Q ρ σ=Q .normal ρ σ:=_root_.id rfl
theorem drawW_call {f : Operand} {args : Array Operand} {ts : Array TypeId} : drawW P G (⟨ix,d,.call ⟨.value f,args,ts⟩,ty,none,true,chk,sv⟩::r) pd Q ρ σ=dcallF P G (ev G ρ f) (args.toList.map (ev G ρ)) d chk r pd Q ρ σ:=_root_.id rfl
theorem drawW_pure {f : Operand} {args : Array Operand} {ts : Array TypeId} : drawW P G (⟨ix,d,.call ⟨.value f,args,ts⟩,ty,none,false,chk,sv⟩::r) pd Q ρ σ=dpureF P G (ev G ρ f) (args.toList.map (ev G ρ)) ⟨ix,d,.call ⟨.value f,args,ts⟩,ty,none,false,chk,sv⟩ r pd Q ρ σ:=by
 simp only [drawW,wantV,Bool.false_eq_true,if_false,viewK,dpureF,dpureO]
 rfl
theorem drawW_some {op : Op} {e : Bool} {t : Nat} {b : Bool} : drawW P G (⟨ix,d,op,ty,some (t,b),e,chk,sv⟩::r) pd Q ρ σ=dwantO P G (wantV ρ (some (t,b))) ⟨ix,d,op,ty,some (t,b),e,chk,sv⟩ r pd Q ρ σ:=by
 simp only [drawW,dwantO]
 cases wantV ρ (some (t,b)) with
 | none=>rfl
 | some t=>cases t<;>simp [wantV]
theorem dwantO_true {op : Op} {e : Bool} {g : Option (Nat × Bool)} : dwantO P G (some true) ⟨ix,d,op,ty,g,e,chk,sv⟩ r pd Q ρ σ=drawW P G (⟨ix,d,op,ty,none,e,chk,sv⟩::r) pd Q ρ σ:=_root_.id rfl
theorem dwantO_false {op : Op} {e : Bool} {g : Option (Nat × Bool)} : dwantO P G (some false) ⟨ix,d,op,ty,g,e,chk,sv⟩ r pd Q ρ σ=drawW P G r pd Q (putV ρ d (.tup [])) σ:=_root_.id rfl
theorem dwantO_split {t : Bool} {op : Op} {e : Bool} {g : Option (Nat × Bool)} (h1 : t=true→drawW P G (⟨ix,d,op,ty,none,e,chk,sv⟩::r) pd Q ρ σ) (h2 : t=false→drawW P G r pd Q (putV ρ d (.tup [])) σ) : dwantO P G (some t) ⟨ix,d,op,ty,g,e,chk,sv⟩ r pd Q ρ σ:=by
 cases t
 ·exact h2 rfl
 ·exact h1 rfl
theorem dwantO_split_not {t : Bool} {op : Op} {e : Bool} {g : Option (Nat × Bool)} (h1 : t=false→drawW P G (⟨ix,d,op,ty,none,e,chk,sv⟩::r) pd Q ρ σ) (h2 : t=true→drawW P G r pd Q (putV ρ d (.tup [])) σ) : dwantO P G (some (!t)) ⟨ix,d,op,ty,g,e,chk,sv⟩ r pd Q ρ σ:=by
 cases t
 ·exact h1 rfl
 ·exact h2 rfl
theorem dviewO_some {p : Prop} {v : VV} {op : Op} {g : Option (Nat × Bool)} {e : Bool} : dviewO P G (some ⟨p,v,σ⟩) ⟨ix,d,op,ty,g,e,chk,false⟩ r pd Q ρ σ=(p∧drawW P G r pd Q (putV ρ d v) σ):=by simp [dviewO]
theorem dviewO_save {p : Prop} {v : VV} {op : Op} {g : Option (Nat × Bool)} {e : Bool} : dviewO P G (some ⟨p,v,σ⟩) ⟨ix,d,op,ty,g,e,chk,true⟩ r pd Q ρ σ=(p∧drawW P G r ((ix,op,ty,ρ,v)::pd) Q (putV ρ d v) σ):=by simp [dviewO]
theorem deffO_some {p : Prop} {v : VV} {s : Store} : deffO P G (some ⟨p,v,s⟩) d chk r pd Q ρ=(p∧chkAll P G chk pd s∧drawW P G r pd Q (putV ρ d v) s):=_root_.id rfl
theorem dcallF_fn {g : FuncId} {first caps xs : List VV} (h : bodied P g=true) : dcallF P G (.fn (.func g) first caps) xs d chk r pd Q ρ σ=dcallO P G g (first++xs++caps) d chk r pd Q ρ σ:=by simp [dcallF,h]
theorem dcallF_yield {id : Nat} {xs : List VV} : dcallF P G (.yield id) xs d chk r pd Q ρ σ=dyieldO P G id xs d chk r pd Q ρ σ:=_root_.id rfl
theorem dpureF_fn {g : FuncId} {first caps xs : List VV} {e : DO} (h : bodied P g=true) : dpureF P G (.fn (.func g) first caps) xs e r pd Q ρ σ=dpureO P G g (first++xs++caps) e r pd Q ρ σ:=by simp [dpureF,h]
theorem chkAll_nil : chkAll P G [] pd σ=True:=by simp [chkAll]
theorem chkAll_none : chkAll P G chk [] σ=True:=by simp [chkAll]
theorem chkAll_cons {op : Op} {ρ' : Env} {x : VV} {n : Nat} : chkAll P G (n::chk) ((ix,op,ty,ρ',x)::pd) σ=((if ix=n∨ix ∈ chk then viewK P G op ty ρ' σ (fun v=>v=x) else True)∧chkAll P G (n::chk) pd σ):=by
 simp only [chkAll,List.forall_mem_cons,List.mem_cons]
 congr 1
 split<;>simp [*]
theorem vchk_some {p : Prop} {v x : VV} : vchk (some ⟨p,v,σ⟩) σ x=(p∧v=x):=by simp [vchk]
theorem dcallO_pure {f : FuncId} {xs : List VV} {x : VV} (h : PV P G f xs x) (hc : chkAll P G chk pd σ) (hk : drawW P G r pd Q (putV ρ d x) σ) : dcallO P G f xs d chk r pd Q ρ σ:=CV_pure h ⟨hc,hk⟩
theorem dpureO_of {f : FuncId} {xs : List VV} {x : VV} {op : Op} {g : Option (Nat × Bool)} {e : Bool} (h : PV P G f xs x) (hk : drawW P G r pd Q (putV ρ d x) σ) : dpureO P G f xs ⟨ix,d,op,ty,g,e,chk,false⟩ r pd Q ρ σ:=⟨x,h,by simpa using hk⟩
theorem dpureO_save {f : FuncId} {xs : List VV} {x : VV} {op : Op} {g : Option (Nat × Bool)} {e : Bool} (h : PV P G f xs x) (hk : drawW P G r ((ix,op,ty,ρ,x)::pd) Q (putV ρ d x) σ) : dpureO P G f xs ⟨ix,d,op,ty,g,e,chk,true⟩ r pd Q ρ σ:=⟨x,h,by simpa using hk⟩
theorem wpV_draw {ds : List DO} : wpV P G (.draw ds) Q ρ σ=drawW P G ds [] Q ρ σ:=_root_.id rfl
@[go_sem] theorem drawW_move {x₀ : Operand} : drawW P G (⟨ix,d,.move x₀,ty,none,false,chk,sv⟩::r) pd Q ρ σ=dviewO P G (oo P G (.move x₀) ty ρ σ) ⟨ix,d,.move x₀,ty,none,false,chk,sv⟩ r pd Q ρ σ:=drawW_view (by simp) (by simp)
@[go_sem] theorem viewK_move {x₀ : Operand} {x : VV} : viewK P G (.move x₀) ty ρ σ (fun v=>v=x)=vchk (oo P G (.move x₀) ty ρ σ) σ x:=viewK_chk (by simp) (by simp)
@[go_sem] theorem drawW_assign {x₀ : Operand} : drawW P G (⟨ix,d,.assign x₀,ty,none,false,chk,sv⟩::r) pd Q ρ σ=dviewO P G (oo P G (.assign x₀) ty ρ σ) ⟨ix,d,.assign x₀,ty,none,false,chk,sv⟩ r pd Q ρ σ:=drawW_view (by simp) (by simp)
@[go_sem] theorem viewK_assign {x₀ : Operand} {x : VV} : viewK P G (.assign x₀) ty ρ σ (fun v=>v=x)=vchk (oo P G (.assign x₀) ty ρ σ) σ x:=viewK_chk (by simp) (by simp)
@[go_sem] theorem drawW_pick {c₀ : Operand} {a₀ : Operand} {b₀ : Operand} : drawW P G (⟨ix,d,.pick c₀ a₀ b₀,ty,none,false,chk,sv⟩::r) pd Q ρ σ=dviewO P G (oo P G (.pick c₀ a₀ b₀) ty ρ σ) ⟨ix,d,.pick c₀ a₀ b₀,ty,none,false,chk,sv⟩ r pd Q ρ σ:=drawW_view (by simp) (by simp)
@[go_sem] theorem viewK_pick {c₀ : Operand} {a₀ : Operand} {b₀ : Operand} {x : VV} : viewK P G (.pick c₀ a₀ b₀) ty ρ σ (fun v=>v=x)=vchk (oo P G (.pick c₀ a₀ b₀) ty ρ σ) σ x:=viewK_chk (by simp) (by simp)
@[go_sem] theorem drawW_alloc {t₀ : TypeId} : drawW P G (⟨ix,d,.alloc t₀,ty,none,true,chk,sv⟩::r) pd Q ρ σ=deffO P G (oo P G (.alloc t₀) ty ρ σ) d chk r pd Q ρ:=drawW_eff (by simp) (by simp)
@[go_sem] theorem drawW_box {t₀ : TypeId} {x₀ : Operand} : drawW P G (⟨ix,d,.box t₀ x₀,ty,none,true,chk,sv⟩::r) pd Q ρ σ=deffO P G (oo P G (.box t₀ x₀) ty ρ σ) d chk r pd Q ρ:=drawW_eff (by simp) (by simp)
@[go_sem] theorem drawW_build {t₀ : TypeId} {ps₀ : Array (Nat × Operand)} : drawW P G (⟨ix,d,.build t₀ ps₀,ty,none,false,chk,sv⟩::r) pd Q ρ σ=dviewO P G (oo P G (.build t₀ ps₀) ty ρ σ) ⟨ix,d,.build t₀ ps₀,ty,none,false,chk,sv⟩ r pd Q ρ σ:=drawW_view (by simp) (by simp)
@[go_sem] theorem viewK_build {t₀ : TypeId} {ps₀ : Array (Nat × Operand)} {x : VV} : viewK P G (.build t₀ ps₀) ty ρ σ (fun v=>v=x)=vchk (oo P G (.build t₀ ps₀) ty ρ σ) σ x:=viewK_chk (by simp) (by simp)
@[go_sem] theorem drawW_buildSlice {t₀ : TypeId} {n₀ : Nat} {ps₀ : Array (Nat × Operand)} : drawW P G (⟨ix,d,.buildSlice t₀ n₀ ps₀,ty,none,false,chk,sv⟩::r) pd Q ρ σ=dviewO P G (oo P G (.buildSlice t₀ n₀ ps₀) ty ρ σ) ⟨ix,d,.buildSlice t₀ n₀ ps₀,ty,none,false,chk,sv⟩ r pd Q ρ σ:=drawW_view (by simp) (by simp)
@[go_sem] theorem viewK_buildSlice {t₀ : TypeId} {n₀ : Nat} {ps₀ : Array (Nat × Operand)} {x : VV} : viewK P G (.buildSlice t₀ n₀ ps₀) ty ρ σ (fun v=>v=x)=vchk (oo P G (.buildSlice t₀ n₀ ps₀) ty ρ σ) σ x:=viewK_chk (by simp) (by simp)
@[go_sem] theorem drawW_load {t₀ : TypeId} {a₀ : Operand} : drawW P G (⟨ix,d,.load t₀ a₀,ty,none,false,chk,sv⟩::r) pd Q ρ σ=dviewO P G (oo P G (.load t₀ a₀) ty ρ σ) ⟨ix,d,.load t₀ a₀,ty,none,false,chk,sv⟩ r pd Q ρ σ:=drawW_view (by simp) (by simp)
@[go_sem] theorem viewK_load {t₀ : TypeId} {a₀ : Operand} {x : VV} : viewK P G (.load t₀ a₀) ty ρ σ (fun v=>v=x)=vchk (oo P G (.load t₀ a₀) ty ρ σ) σ x:=viewK_chk (by simp) (by simp)
@[go_sem] theorem drawW_store {t₀ : TypeId} {a₀ : Operand} {x₀ : Operand} : drawW P G (⟨ix,d,.store t₀ a₀ x₀,ty,none,true,chk,sv⟩::r) pd Q ρ σ=deffO P G (oo P G (.store t₀ a₀ x₀) ty ρ σ) d chk r pd Q ρ:=drawW_eff (by simp) (by simp)
@[go_sem] theorem drawW_nilCheck {a₀ : Operand} : drawW P G (⟨ix,d,.nilCheck a₀,ty,none,false,chk,sv⟩::r) pd Q ρ σ=dviewO P G (oo P G (.nilCheck a₀) ty ρ σ) ⟨ix,d,.nilCheck a₀,ty,none,false,chk,sv⟩ r pd Q ρ σ:=drawW_view (by simp) (by simp)
@[go_sem] theorem viewK_nilCheck {a₀ : Operand} {x : VV} : viewK P G (.nilCheck a₀) ty ρ σ (fun v=>v=x)=vchk (oo P G (.nilCheck a₀) ty ρ σ) σ x:=viewK_chk (by simp) (by simp)
@[go_sem] theorem drawW_binOp {op₀ : BinOp} {t₀ : TypeId} {x₀ : Operand} {y₀ : Operand} {u₀ : TypeId} : drawW P G (⟨ix,d,.binOp op₀ t₀ x₀ y₀ u₀,ty,none,false,chk,sv⟩::r) pd Q ρ σ=dviewO P G (oo P G (.binOp op₀ t₀ x₀ y₀ u₀) ty ρ σ) ⟨ix,d,.binOp op₀ t₀ x₀ y₀ u₀,ty,none,false,chk,sv⟩ r pd Q ρ σ:=drawW_view (by simp) (by simp)
@[go_sem] theorem viewK_binOp {op₀ : BinOp} {t₀ : TypeId} {x₀ : Operand} {y₀ : Operand} {u₀ : TypeId} {x : VV} : viewK P G (.binOp op₀ t₀ x₀ y₀ u₀) ty ρ σ (fun v=>v=x)=vchk (oo P G (.binOp op₀ t₀ x₀ y₀ u₀) ty ρ σ) σ x:=viewK_chk (by simp) (by simp)
@[go_sem] theorem drawW_unOp {op₀ : UnOp} {t₀ : TypeId} {x₀ : Operand} : drawW P G (⟨ix,d,.unOp op₀ t₀ x₀,ty,none,false,chk,sv⟩::r) pd Q ρ σ=dviewO P G (oo P G (.unOp op₀ t₀ x₀) ty ρ σ) ⟨ix,d,.unOp op₀ t₀ x₀,ty,none,false,chk,sv⟩ r pd Q ρ σ:=drawW_view (by simp) (by simp)
@[go_sem] theorem viewK_unOp {op₀ : UnOp} {t₀ : TypeId} {x₀ : Operand} {x : VV} : viewK P G (.unOp op₀ t₀ x₀) ty ρ σ (fun v=>v=x)=vchk (oo P G (.unOp op₀ t₀ x₀) ty ρ σ) σ x:=viewK_chk (by simp) (by simp)
@[go_sem] theorem drawW_convert {s₀ : TypeId} {t₀ : TypeId} {x₀ : Operand} : drawW P G (⟨ix,d,.convert s₀ t₀ x₀,ty,none,false,chk,sv⟩::r) pd Q ρ σ=dviewO P G (oo P G (.convert s₀ t₀ x₀) ty ρ σ) ⟨ix,d,.convert s₀ t₀ x₀,ty,none,false,chk,sv⟩ r pd Q ρ σ:=drawW_view (by simp) (by simp)
@[go_sem] theorem viewK_convert {s₀ : TypeId} {t₀ : TypeId} {x₀ : Operand} {x : VV} : viewK P G (.convert s₀ t₀ x₀) ty ρ σ (fun v=>v=x)=vchk (oo P G (.convert s₀ t₀ x₀) ty ρ σ) σ x:=viewK_chk (by simp) (by simp)
@[go_sem] theorem drawW_makeInterface {t₀ : TypeId} {x₀ : Operand} : drawW P G (⟨ix,d,.makeInterface t₀ x₀,ty,none,false,chk,sv⟩::r) pd Q ρ σ=dviewO P G (oo P G (.makeInterface t₀ x₀) ty ρ σ) ⟨ix,d,.makeInterface t₀ x₀,ty,none,false,chk,sv⟩ r pd Q ρ σ:=drawW_view (by simp) (by simp)
@[go_sem] theorem viewK_makeInterface {t₀ : TypeId} {x₀ : Operand} {x : VV} : viewK P G (.makeInterface t₀ x₀) ty ρ σ (fun v=>v=x)=vchk (oo P G (.makeInterface t₀ x₀) ty ρ σ) σ x:=viewK_chk (by simp) (by simp)
@[go_sem] theorem drawW_makeFunc {f₀ : Fn} {as₀ : Array Operand} {bs₀ : Array Operand} : drawW P G (⟨ix,d,.makeFunc f₀ as₀ bs₀,ty,none,false,chk,sv⟩::r) pd Q ρ σ=dviewO P G (oo P G (.makeFunc f₀ as₀ bs₀) ty ρ σ) ⟨ix,d,.makeFunc f₀ as₀ bs₀,ty,none,false,chk,sv⟩ r pd Q ρ σ:=drawW_view (by simp) (by simp)
@[go_sem] theorem viewK_makeFunc {f₀ : Fn} {as₀ : Array Operand} {bs₀ : Array Operand} {x : VV} : viewK P G (.makeFunc f₀ as₀ bs₀) ty ρ σ (fun v=>v=x)=vchk (oo P G (.makeFunc f₀ as₀ bs₀) ty ρ σ) σ x:=viewK_chk (by simp) (by simp)
@[go_sem] theorem drawW_makeMap {t₀ : TypeId} {m₀ : Option Operand} : drawW P G (⟨ix,d,.makeMap t₀ m₀,ty,none,true,chk,sv⟩::r) pd Q ρ σ=deffO P G (oo P G (.makeMap t₀ m₀) ty ρ σ) d chk r pd Q ρ:=drawW_eff (by simp) (by simp)
@[go_sem] theorem drawW_makeSlice {t₀ : TypeId} {l₀ : Operand} {c₀ : Operand} : drawW P G (⟨ix,d,.makeSlice t₀ l₀ c₀,ty,none,true,chk,sv⟩::r) pd Q ρ σ=deffO P G (oo P G (.makeSlice t₀ l₀ c₀) ty ρ σ) d chk r pd Q ρ:=drawW_eff (by simp) (by simp)
@[go_sem] theorem drawW_slice {t₀ : TypeId} {x₀ : Operand} {l₀ : Option Operand} {h₀ : Option Operand} {m₀ : Option Operand} : drawW P G (⟨ix,d,.slice t₀ x₀ l₀ h₀ m₀,ty,none,false,chk,sv⟩::r) pd Q ρ σ=dviewO P G (oo P G (.slice t₀ x₀ l₀ h₀ m₀) ty ρ σ) ⟨ix,d,.slice t₀ x₀ l₀ h₀ m₀,ty,none,false,chk,sv⟩ r pd Q ρ σ:=drawW_view (by simp) (by simp)
@[go_sem] theorem viewK_slice {t₀ : TypeId} {x₀ : Operand} {l₀ : Option Operand} {h₀ : Option Operand} {m₀ : Option Operand} {x : VV} : viewK P G (.slice t₀ x₀ l₀ h₀ m₀) ty ρ σ (fun v=>v=x)=vchk (oo P G (.slice t₀ x₀ l₀ h₀ m₀) ty ρ σ) σ x:=viewK_chk (by simp) (by simp)
@[go_sem] theorem drawW_fieldAddr {t₀ : TypeId} {x₀ : Operand} {f₀ : Nat} : drawW P G (⟨ix,d,.fieldAddr t₀ x₀ f₀,ty,none,false,chk,sv⟩::r) pd Q ρ σ=dviewO P G (oo P G (.fieldAddr t₀ x₀ f₀) ty ρ σ) ⟨ix,d,.fieldAddr t₀ x₀ f₀,ty,none,false,chk,sv⟩ r pd Q ρ σ:=drawW_view (by simp) (by simp)
@[go_sem] theorem viewK_fieldAddr {t₀ : TypeId} {x₀ : Operand} {f₀ : Nat} {x : VV} : viewK P G (.fieldAddr t₀ x₀ f₀) ty ρ σ (fun v=>v=x)=vchk (oo P G (.fieldAddr t₀ x₀ f₀) ty ρ σ) σ x:=viewK_chk (by simp) (by simp)
@[go_sem] theorem drawW_field {t₀ : TypeId} {x₀ : Operand} {f₀ : Nat} : drawW P G (⟨ix,d,.field t₀ x₀ f₀,ty,none,false,chk,sv⟩::r) pd Q ρ σ=dviewO P G (oo P G (.field t₀ x₀ f₀) ty ρ σ) ⟨ix,d,.field t₀ x₀ f₀,ty,none,false,chk,sv⟩ r pd Q ρ σ:=drawW_view (by simp) (by simp)
@[go_sem] theorem viewK_field {t₀ : TypeId} {x₀ : Operand} {f₀ : Nat} {x : VV} : viewK P G (.field t₀ x₀ f₀) ty ρ σ (fun v=>v=x)=vchk (oo P G (.field t₀ x₀ f₀) ty ρ σ) σ x:=viewK_chk (by simp) (by simp)
@[go_sem] theorem drawW_indexAddr {t₀ : TypeId} {x₀ : Operand} {i₀ : Operand} : drawW P G (⟨ix,d,.indexAddr t₀ x₀ i₀,ty,none,false,chk,sv⟩::r) pd Q ρ σ=dviewO P G (oo P G (.indexAddr t₀ x₀ i₀) ty ρ σ) ⟨ix,d,.indexAddr t₀ x₀ i₀,ty,none,false,chk,sv⟩ r pd Q ρ σ:=drawW_view (by simp) (by simp)
@[go_sem] theorem viewK_indexAddr {t₀ : TypeId} {x₀ : Operand} {i₀ : Operand} {x : VV} : viewK P G (.indexAddr t₀ x₀ i₀) ty ρ σ (fun v=>v=x)=vchk (oo P G (.indexAddr t₀ x₀ i₀) ty ρ σ) σ x:=viewK_chk (by simp) (by simp)
@[go_sem] theorem drawW_index {t₀ : TypeId} {x₀ : Operand} {i₀ : Operand} : drawW P G (⟨ix,d,.index t₀ x₀ i₀,ty,none,false,chk,sv⟩::r) pd Q ρ σ=dviewO P G (oo P G (.index t₀ x₀ i₀) ty ρ σ) ⟨ix,d,.index t₀ x₀ i₀,ty,none,false,chk,sv⟩ r pd Q ρ σ:=drawW_view (by simp) (by simp)
@[go_sem] theorem viewK_index {t₀ : TypeId} {x₀ : Operand} {i₀ : Operand} {x : VV} : viewK P G (.index t₀ x₀ i₀) ty ρ σ (fun v=>v=x)=vchk (oo P G (.index t₀ x₀ i₀) ty ρ σ) σ x:=viewK_chk (by simp) (by simp)
@[go_sem] theorem drawW_typeAssert {x₀ : Operand} {t₀ : TypeId} {a₀ : TypeId} {c₀ : Bool} : drawW P G (⟨ix,d,.typeAssert x₀ t₀ a₀ c₀,ty,none,false,chk,sv⟩::r) pd Q ρ σ=dviewO P G (oo P G (.typeAssert x₀ t₀ a₀ c₀) ty ρ σ) ⟨ix,d,.typeAssert x₀ t₀ a₀ c₀,ty,none,false,chk,sv⟩ r pd Q ρ σ:=drawW_view (by simp) (by simp)
@[go_sem] theorem viewK_typeAssert {x₀ : Operand} {t₀ : TypeId} {a₀ : TypeId} {c₀ : Bool} {x : VV} : viewK P G (.typeAssert x₀ t₀ a₀ c₀) ty ρ σ (fun v=>v=x)=vchk (oo P G (.typeAssert x₀ t₀ a₀ c₀) ty ρ σ) σ x:=viewK_chk (by simp) (by simp)
@[go_sem] theorem drawW_extract {x₀ : Operand} {i₀ : Nat} : drawW P G (⟨ix,d,.extract x₀ i₀,ty,none,false,chk,sv⟩::r) pd Q ρ σ=dviewO P G (oo P G (.extract x₀ i₀) ty ρ σ) ⟨ix,d,.extract x₀ i₀,ty,none,false,chk,sv⟩ r pd Q ρ σ:=drawW_view (by simp) (by simp)
@[go_sem] theorem viewK_extract {x₀ : Operand} {i₀ : Nat} {x : VV} : viewK P G (.extract x₀ i₀) ty ρ σ (fun v=>v=x)=vchk (oo P G (.extract x₀ i₀) ty ρ σ) σ x:=viewK_chk (by simp) (by simp)
@[go_sem] theorem drawW_lookup {t₀ : TypeId} {m₀ : Operand} {k₀ : Operand} {c₀ : Bool} : drawW P G (⟨ix,d,.lookup t₀ m₀ k₀ c₀,ty,none,false,chk,sv⟩::r) pd Q ρ σ=dviewO P G (oo P G (.lookup t₀ m₀ k₀ c₀) ty ρ σ) ⟨ix,d,.lookup t₀ m₀ k₀ c₀,ty,none,false,chk,sv⟩ r pd Q ρ σ:=drawW_view (by simp) (by simp)
@[go_sem] theorem viewK_lookup {t₀ : TypeId} {m₀ : Operand} {k₀ : Operand} {c₀ : Bool} {x : VV} : viewK P G (.lookup t₀ m₀ k₀ c₀) ty ρ σ (fun v=>v=x)=vchk (oo P G (.lookup t₀ m₀ k₀ c₀) ty ρ σ) σ x:=viewK_chk (by simp) (by simp)
@[go_sem] theorem drawW_mapUpdate {t₀ : TypeId} {m₀ : Operand} {k₀ : Operand} {x₀ : Operand} : drawW P G (⟨ix,d,.mapUpdate t₀ m₀ k₀ x₀,ty,none,true,chk,sv⟩::r) pd Q ρ σ=deffO P G (oo P G (.mapUpdate t₀ m₀ k₀ x₀) ty ρ σ) d chk r pd Q ρ:=drawW_eff (by simp) (by simp)
@[go_sem] theorem drawW_builtin {b : Builtin} {args : Array Operand} {ts : Array TypeId} : drawW P G (⟨ix,d,.call ⟨.builtin b,args,ts⟩,ty,none,true,chk,sv⟩::r) pd Q ρ σ=deffO P G (oo P G (.call ⟨.builtin b,args,ts⟩) ty ρ σ) d chk r pd Q ρ:=drawW_eff (by simp) (by simp)
@[go_sem] theorem drawW_builtin' {b : Builtin} {args : Array Operand} {ts : Array TypeId} : drawW P G (⟨ix,d,.call ⟨.builtin b,args,ts⟩,ty,none,false,chk,sv⟩::r) pd Q ρ σ=dviewO P G (oo P G (.call ⟨.builtin b,args,ts⟩) ty ρ σ) ⟨ix,d,.call ⟨.builtin b,args,ts⟩,ty,none,false,chk,sv⟩ r pd Q ρ σ:=drawW_view (by simp) (by simp)
@[go_sem] theorem viewK_builtin {b : Builtin} {args : Array Operand} {ts : Array TypeId} {x : VV} : viewK P G (.call ⟨.builtin b,args,ts⟩) ty ρ σ (fun v=>v=x)=vchk (oo P G (.call ⟨.builtin b,args,ts⟩) ty ρ σ) σ x:=viewK_chk (by simp) (by simp)
end
attribute [go_sem] drawW_nil drawW_call drawW_pure drawW_some dwantO_true dwantO_false dviewO_some dviewO_save deffO_some dcallF_fn dcallF_yield dpureF_fn chkAll_nil chkAll_none chkAll_cons vchk_some wpV_draw
end Go.V
