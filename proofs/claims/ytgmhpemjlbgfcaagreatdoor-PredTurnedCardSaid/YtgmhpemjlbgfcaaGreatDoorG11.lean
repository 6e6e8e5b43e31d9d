/- Texts V24. -/
import Derived.Test.YtgmhpemjlbgfcaaGreatDoorG10
set_option linter.unusedVariables false
set_option linter.unusedSimpArgs false
namespace Go.V
variable {P : Program} {G : Nat→Option (List VV)}
abbrev sV:=List (Nat × Op × TypeId × Env × VV)
def H9 (o : Option aS) (σ : Store) (x : VV) : Prop:=match o with
 | some o=>o.pre∧o.st=σ∧o.val=x
 | none=>False
def iM (P : Program) (G : Nat→Option (List VV)) (chk : List Nat) (pd : sV) (σ : Store) : Prop:=∀ p ∈ pd,p.1 ∈ chk→fE P G p.2.1 p.2.2.1 p.2.2.2.1 σ (fun v=>v=p.2.2.2.2)
def fU (P : Program) (G : Nat→Option (List VV)) (o : Option aS) (d : DO) (r : List DO) (pd : sV) (Q : Out→Env→Store→Prop) (ρ : Env) (σ : Store) : Prop:=match o with
 | some o=>o.pre∧o.st=σ∧aV P G r (if d.save then (d.ix,d.op,d.ty,ρ,o.val)::pd else pd) Q (dB ρ d.dst o.val) σ
 | none=>False
def oJ (P : Program) (G : Nat→Option (List VV)) (o : Option aS) (d : Option Nat) (chk : List Nat) (r : List DO) (pd : sV) (Q : Out→Env→Store→Prop) (ρ : Env) : Prop:=match o with
 | some o=>o.pre∧iM P G chk pd o.st∧aV P G r pd Q (dB ρ d o.val) o.st
 | none=>False
def Ia (P : Program) (G : Nat→Option (List VV)) (f : FuncId) (xs : List VV) (d : Option Nat) (chk : List Nat) (r : List DO) (pd : sV) (Q : Out→Env→Store→Prop) (ρ : Env) (σ : Store) : Prop :=
 CV P G f xs σ (gZ (fun x σ'=>iM P G chk pd σ'∧aV P G r pd Q (dB ρ d x) σ') (fun x σ'=>∀ ρ',Q (.panic x) ρ' σ'))
def P6 (P : Program) (G : Nat→Option (List VV)) (id : Nat) (xs : List VV) (d : Option Nat) (chk : List Nat) (r : List DO) (pd : sV) (Q : Out→Env→Store→Prop) (ρ : Env) (σ : Store) : Prop :=
 YV P G id xs σ (gZ (fun x σ'=>iM P G chk pd σ'∧aV P G r pd Q (dB ρ d x) σ') (fun x σ'=>∀ ρ',Q (.panic x) ρ' σ'))
def Ir (P : Program) (G : Nat→Option (List VV)) (fv : VV) (xs : List VV) (d : Option Nat) (chk : List Nat) (r : List DO) (pd : sV) (Q : Out→Env→Store→Prop) (ρ : Env) (σ : Store) : Prop:=match fv with
 | .fn (.func g) first caps=>ay P g=true∧Ia P G g (first++xs++caps) d chk r pd Q ρ σ
 | .yield id=>P6 P G id xs d chk r pd Q ρ σ
 | _=>False
def yS (P : Program) (G : Nat→Option (List VV)) (f : FuncId) (xs : List VV) (d : DO) (r : List DO) (pd : sV) (Q : Out→Env→Store→Prop) (ρ : Env) (σ : Store) : Prop :=
 ∃ x,PV P G f xs x∧aV P G r (if d.save then (d.ix,d.op,d.ty,ρ,x)::pd else pd) Q (dB ρ d.dst x) σ
def Ze (P : Program) (G : Nat→Option (List VV)) (fv : VV) (xs : List VV) (d : DO) (r : List DO) (pd : sV) (Q : Out→Env→Store→Prop) (ρ : Env) (σ : Store) : Prop:=match fv with
 | .fn (.func g) first caps=>ay P g=true∧yS P G g (first++xs++caps) d r pd Q ρ σ
 | _=>False
def CZ (P : Program) (G : Nat→Option (List VV)) (g : Option Bool) (d : DO) (r : List DO) (pd : sV) (Q : Out→Env→Store→Prop) (ρ : Env) (σ : Store) : Prop:=match g with
 | some true=>aV P G ({ d with g:=none }::r) pd Q ρ σ
 | some false=>aV P G r pd Q (dB ρ d.dst (.tup [])) σ
 | none=>False
section
variable {Q : Out→Env→Store→Prop} {ρ : Env} {σ : Store} {ty : TypeId} {ix : Nat} {d : Option Nat} {chk : List Nat} {sv : Bool} {r : List DO} {pd : sV}
theorem TG {op : Op} (h1 : ∀ f as ts,op≠.call ⟨.value f,as,ts⟩) (h2 : ∀ x,op≠.panic x) (K KP : VV→Store→Prop) : rY P G op ty ρ σ K KP=UL P G op ty ρ σ K:=by
 unfold rY
 split
 ·exact absurd rfl (h1 _ _ _)
 ·exact absurd rfl (h2 _)
 ·rfl
theorem EU {op : Op} (h1 : ∀ f as ts,op≠.call ⟨.value f,as,ts⟩) (h2 : ∀ x,op≠.panic x) (K : VV→Prop) : fE P G op ty ρ σ K=∃ out,dZ P G ρ σ ⟨none,op,ty, "",#[],none⟩=some out∧out.pre∧out.st=σ∧K out.val:=by
 unfold fE
 split
 ·exact absurd rfl (h1 _ _ _)
 ·exact absurd rfl (h2 _)
 ·rfl
theorem rD {op : Op} (h1 : ∀ f as ts,op≠.call ⟨.value f,as,ts⟩) (h2 : ∀ x,op≠.panic x) : aV P G (⟨ix,d,op,ty,none,true,chk,sv⟩::r) pd Q ρ σ=oJ P G (oo P G op ty ρ σ) d chk r pd Q ρ:=by
 simp only [aV,gX,if_true,TG h1 h2,UL,oJ,oo,iM]
 cases dZ P G ρ σ ⟨none,op,ty, "",#[],none⟩<;>simp
theorem cZ {op : Op} (h1 : ∀ f as ts,op≠.call ⟨.value f,as,ts⟩) (h2 : ∀ x,op≠.panic x) : aV P G (⟨ix,d,op,ty,none,false,chk,sv⟩::r) pd Q ρ σ=fU P G (oo P G op ty ρ σ) ⟨ix,d,op,ty,none,false,chk,sv⟩ r pd Q ρ σ:=by
 simp only [aV,gX,Bool.false_eq_true,if_false,EU h1 h2,fU,oo]
 cases dZ P G ρ σ ⟨none,op,ty, "",#[],none⟩<;>simp
theorem vU {op : Op} {x : VV} (h1 : ∀ f as ts,op≠.call ⟨.value f,as,ts⟩) (h2 : ∀ x,op≠.panic x) : fE P G op ty ρ σ (fun v=>v=x)=H9 (oo P G op ty ρ σ) σ x:=by
 simp only [EU h1 h2,H9,oo]
 cases dZ P G ρ σ ⟨none,op,ty, "",#[],none⟩<;>simp
theorem KA : aV P G [] pd Q ρ σ=Q .normal ρ σ:=_root_.id rfl
theorem GI {f : Operand} {args : Array Operand} {ts : Array TypeId} : aV P G (⟨ix,d,.call ⟨.value f,args,ts⟩,ty,none,true,chk,sv⟩::r) pd Q ρ σ=Ir P G (ev G ρ f) (args.toList.map (ev G ρ)) d chk r pd Q ρ σ:=_root_.id rfl
theorem HY {f : Operand} {args : Array Operand} {ts : Array TypeId} : aV P G (⟨ix,d,.call ⟨.value f,args,ts⟩,ty,none,false,chk,sv⟩::r) pd Q ρ σ=Ze P G (ev G ρ f) (args.toList.map (ev G ρ)) ⟨ix,d,.call ⟨.value f,args,ts⟩,ty,none,false,chk,sv⟩ r pd Q ρ σ:=by
 simp only [aV,gX,Bool.false_eq_true,if_false,fE,Ze,yS]
 rfl
theorem H6 {op : Op} {e : Bool} {t : Nat} {b : Bool} : aV P G (⟨ix,d,op,ty,some (t,b),e,chk,sv⟩::r) pd Q ρ σ=CZ P G (gX ρ (some (t,b))) ⟨ix,d,op,ty,some (t,b),e,chk,sv⟩ r pd Q ρ σ:=by
 simp only [aV,CZ]
 cases gX ρ (some (t,b)) with
 | none=>rfl
 | some t=>cases t<;>simp [gX]
theorem EJ {op : Op} {e : Bool} {g : Option (Nat × Bool)} : CZ P G (some true) ⟨ix,d,op,ty,g,e,chk,sv⟩ r pd Q ρ σ=aV P G (⟨ix,d,op,ty,none,e,chk,sv⟩::r) pd Q ρ σ:=_root_.id rfl
theorem Dz {op : Op} {e : Bool} {g : Option (Nat × Bool)} : CZ P G (some false) ⟨ix,d,op,ty,g,e,chk,sv⟩ r pd Q ρ σ=aV P G r pd Q (dB ρ d (.tup [])) σ:=_root_.id rfl
theorem EK {p : Prop} {v : VV} {op : Op} {g : Option (Nat × Bool)} {e : Bool} : fU P G (some ⟨p,v,σ⟩) ⟨ix,d,op,ty,g,e,chk,false⟩ r pd Q ρ σ=(p∧aV P G r pd Q (dB ρ d v) σ):=by simp [fU]
theorem Eo {p : Prop} {v : VV} {op : Op} {g : Option (Nat × Bool)} {e : Bool} : fU P G (some ⟨p,v,σ⟩) ⟨ix,d,op,ty,g,e,chk,true⟩ r pd Q ρ σ=(p∧aV P G r ((ix,op,ty,ρ,v)::pd) Q (dB ρ d v) σ):=by simp [fU]
theorem Gq {p : Prop} {v : VV} {s : Store} : oJ P G (some ⟨p,v,s⟩) d chk r pd Q ρ=(p∧iM P G chk pd s∧aV P G r pd Q (dB ρ d v) s):=_root_.id rfl
theorem Lm {g : FuncId} {first caps xs : List VV} (h : ay P g=true) : Ir P G (.fn (.func g) first caps) xs d chk r pd Q ρ σ=Ia P G g (first++xs++caps) d chk r pd Q ρ σ:=by simp [Ir,h]
theorem Kq {g : FuncId} {first caps xs : List VV} {e : DO} (h : ay P g=true) : Ze P G (.fn (.func g) first caps) xs e r pd Q ρ σ=yS P G g (first++xs++caps) e r pd Q ρ σ:=by simp [Ze,h]
theorem G6 : iM P G [] pd σ=True:=by simp [iM]
theorem ES : iM P G chk [] σ=True:=by simp [iM]
theorem EI {op : Op} {ρ' : Env} {x : VV} {n : Nat} : iM P G (n::chk) ((ix,op,ty,ρ',x)::pd) σ=((if ix=n∨ix ∈ chk then fE P G op ty ρ' σ (fun v=>v=x) else True)∧iM P G (n::chk) pd σ):=by
 simp only [iM,List.forall_mem_cons,List.mem_cons]
 congr 1
 split<;>simp [*]
theorem KO {p : Prop} {v x : VV} : H9 (some ⟨p,v,σ⟩) σ x=(p∧v=x):=by simp [H9]
theorem aj {f : FuncId} {xs : List VV} {x : VV} (h : PV P G f xs x) (hc : iM P G chk pd σ) (hk : aV P G r pd Q (dB ρ d x) σ) : Ia P G f xs d chk r pd Q ρ σ:=nN h ⟨hc,hk⟩
theorem aK {f : FuncId} {xs : List VV} {x : VV} {op : Op} {g : Option (Nat × Bool)} {e : Bool} (h : PV P G f xs x) (hk : aV P G r pd Q (dB ρ d x) σ) : yS P G f xs ⟨ix,d,op,ty,g,e,chk,false⟩ r pd Q ρ σ:=⟨x,h,by simpa using hk⟩
theorem aI {f : FuncId} {xs : List VV} {x : VV} {op : Op} {g : Option (Nat × Bool)} {e : Bool} (h : PV P G f xs x) (hk : aV P G r ((ix,op,ty,ρ,x)::pd) Q (dB ρ d x) σ) : yS P G f xs ⟨ix,d,op,ty,g,e,chk,true⟩ r pd Q ρ σ:=⟨x,h,by simpa using hk⟩
theorem Nv {ds : List DO} : iO P G (.draw ds) Q ρ σ=aV P G ds [] Q ρ σ:=_root_.id rfl
@[go_sem] theorem UG {x₀ : Operand} : aV P G (⟨ix,d,.move x₀,ty,none,false,chk,sv⟩::r) pd Q ρ σ=fU P G (oo P G (.move x₀) ty ρ σ) ⟨ix,d,.move x₀,ty,none,false,chk,sv⟩ r pd Q ρ σ:=cZ (by simp) (by simp)
@[go_sem] theorem QE {x₀ : Operand} : aV P G (⟨ix,d,.assign x₀,ty,none,false,chk,sv⟩::r) pd Q ρ σ=fU P G (oo P G (.assign x₀) ty ρ σ) ⟨ix,d,.assign x₀,ty,none,false,chk,sv⟩ r pd Q ρ σ:=cZ (by simp) (by simp)
@[go_sem] theorem UF {c₀ : Operand} {a₀ : Operand} {b₀ : Operand} : aV P G (⟨ix,d,.pick c₀ a₀ b₀,ty,none,false,chk,sv⟩::r) pd Q ρ σ=fU P G (oo P G (.pick c₀ a₀ b₀) ty ρ σ) ⟨ix,d,.pick c₀ a₀ b₀,ty,none,false,chk,sv⟩ r pd Q ρ σ:=cZ (by simp) (by simp)
@[go_sem] theorem Tf {t₀ : TypeId} : aV P G (⟨ix,d,.alloc t₀,ty,none,true,chk,sv⟩::r) pd Q ρ σ=oJ P G (oo P G (.alloc t₀) ty ρ σ) d chk r pd Q ρ:=rD (by simp) (by simp)
@[go_sem] theorem Vu {t₀ : TypeId} {x₀ : Operand} : aV P G (⟨ix,d,.box t₀ x₀,ty,none,true,chk,sv⟩::r) pd Q ρ σ=oJ P G (oo P G (.box t₀ x₀) ty ρ σ) d chk r pd Q ρ:=rD (by simp) (by simp)
@[go_sem] theorem SH {t₀ : TypeId} {ps₀ : Array (Nat × Operand)} : aV P G (⟨ix,d,.build t₀ ps₀,ty,none,false,chk,sv⟩::r) pd Q ρ σ=fU P G (oo P G (.build t₀ ps₀) ty ρ σ) ⟨ix,d,.build t₀ ps₀,ty,none,false,chk,sv⟩ r pd Q ρ σ:=cZ (by simp) (by simp)
@[go_sem] theorem JK {t₀ : TypeId} {n₀ : Nat} {ps₀ : Array (Nat × Operand)} : aV P G (⟨ix,d,.buildSlice t₀ n₀ ps₀,ty,none,false,chk,sv⟩::r) pd Q ρ σ=fU P G (oo P G (.buildSlice t₀ n₀ ps₀) ty ρ σ) ⟨ix,d,.buildSlice t₀ n₀ ps₀,ty,none,false,chk,sv⟩ r pd Q ρ σ:=cZ (by simp) (by simp)
@[go_sem] theorem Uy {t₀ : TypeId} {a₀ : Operand} : aV P G (⟨ix,d,.load t₀ a₀,ty,none,false,chk,sv⟩::r) pd Q ρ σ=fU P G (oo P G (.load t₀ a₀) ty ρ σ) ⟨ix,d,.load t₀ a₀,ty,none,false,chk,sv⟩ r pd Q ρ σ:=cZ (by simp) (by simp)
@[go_sem] theorem UH {t₀ : TypeId} {a₀ : Operand} {x : VV} : fE P G (.load t₀ a₀) ty ρ σ (fun v=>v=x)=H9 (oo P G (.load t₀ a₀) ty ρ σ) σ x:=vU (by simp) (by simp)
@[go_sem] theorem SL {t₀ : TypeId} {a₀ : Operand} {x₀ : Operand} : aV P G (⟨ix,d,.store t₀ a₀ x₀,ty,none,true,chk,sv⟩::r) pd Q ρ σ=oJ P G (oo P G (.store t₀ a₀ x₀) ty ρ σ) d chk r pd Q ρ:=rD (by simp) (by simp)
@[go_sem] theorem OT {a₀ : Operand} : aV P G (⟨ix,d,.nilCheck a₀,ty,none,false,chk,sv⟩::r) pd Q ρ σ=fU P G (oo P G (.nilCheck a₀) ty ρ σ) ⟨ix,d,.nilCheck a₀,ty,none,false,chk,sv⟩ r pd Q ρ σ:=cZ (by simp) (by simp)
@[go_sem] theorem SI {op₀ : BinOp} {t₀ : TypeId} {x₀ : Operand} {y₀ : Operand} {u₀ : TypeId} : aV P G (⟨ix,d,.binOp op₀ t₀ x₀ y₀ u₀,ty,none,false,chk,sv⟩::r) pd Q ρ σ=fU P G (oo P G (.binOp op₀ t₀ x₀ y₀ u₀) ty ρ σ) ⟨ix,d,.binOp op₀ t₀ x₀ y₀ u₀,ty,none,false,chk,sv⟩ r pd Q ρ σ:=cZ (by simp) (by simp)
@[go_sem] theorem PI {s₀ : TypeId} {t₀ : TypeId} {x₀ : Operand} : aV P G (⟨ix,d,.convert s₀ t₀ x₀,ty,none,false,chk,sv⟩::r) pd Q ρ σ=fU P G (oo P G (.convert s₀ t₀ x₀) ty ρ σ) ⟨ix,d,.convert s₀ t₀ x₀,ty,none,false,chk,sv⟩ r pd Q ρ σ:=cZ (by simp) (by simp)
@[go_sem] theorem aad {f₀ : Fn} {as₀ : Array Operand} {bs₀ : Array Operand} : aV P G (⟨ix,d,.makeFunc f₀ as₀ bs₀,ty,none,false,chk,sv⟩::r) pd Q ρ σ=fU P G (oo P G (.makeFunc f₀ as₀ bs₀) ty ρ σ) ⟨ix,d,.makeFunc f₀ as₀ bs₀,ty,none,false,chk,sv⟩ r pd Q ρ σ:=cZ (by simp) (by simp)
@[go_sem] theorem SN {t₀ : TypeId} {x₀ : Operand} {l₀ : Option Operand} {h₀ : Option Operand} {m₀ : Option Operand} : aV P G (⟨ix,d,.slice t₀ x₀ l₀ h₀ m₀,ty,none,false,chk,sv⟩::r) pd Q ρ σ=fU P G (oo P G (.slice t₀ x₀ l₀ h₀ m₀) ty ρ σ) ⟨ix,d,.slice t₀ x₀ l₀ h₀ m₀,ty,none,false,chk,sv⟩ r pd Q ρ σ:=cZ (by simp) (by simp)
@[go_sem] theorem Tq {t₀ : TypeId} {x₀ : Operand} {l₀ : Option Operand} {h₀ : Option Operand} {m₀ : Option Operand} {x : VV} : fE P G (.slice t₀ x₀ l₀ h₀ m₀) ty ρ σ (fun v=>v=x)=H9 (oo P G (.slice t₀ x₀ l₀ h₀ m₀) ty ρ σ) σ x:=vU (by simp) (by simp)
@[go_sem] theorem LD {t₀ : TypeId} {x₀ : Operand} {f₀ : Nat} : aV P G (⟨ix,d,.fieldAddr t₀ x₀ f₀,ty,none,false,chk,sv⟩::r) pd Q ρ σ=fU P G (oo P G (.fieldAddr t₀ x₀ f₀) ty ρ σ) ⟨ix,d,.fieldAddr t₀ x₀ f₀,ty,none,false,chk,sv⟩ r pd Q ρ σ:=cZ (by simp) (by simp)
@[go_sem] theorem LG {t₀ : TypeId} {x₀ : Operand} {i₀ : Operand} : aV P G (⟨ix,d,.indexAddr t₀ x₀ i₀,ty,none,false,chk,sv⟩::r) pd Q ρ σ=fU P G (oo P G (.indexAddr t₀ x₀ i₀) ty ρ σ) ⟨ix,d,.indexAddr t₀ x₀ i₀,ty,none,false,chk,sv⟩ r pd Q ρ σ:=cZ (by simp) (by simp)
@[go_sem] theorem SC {t₀ : TypeId} {x₀ : Operand} {i₀ : Operand} : aV P G (⟨ix,d,.index t₀ x₀ i₀,ty,none,false,chk,sv⟩::r) pd Q ρ σ=fU P G (oo P G (.index t₀ x₀ i₀) ty ρ σ) ⟨ix,d,.index t₀ x₀ i₀,ty,none,false,chk,sv⟩ r pd Q ρ σ:=cZ (by simp) (by simp)
@[go_sem] theorem PN {x₀ : Operand} {i₀ : Nat} : aV P G (⟨ix,d,.extract x₀ i₀,ty,none,false,chk,sv⟩::r) pd Q ρ σ=fU P G (oo P G (.extract x₀ i₀) ty ρ σ) ⟨ix,d,.extract x₀ i₀,ty,none,false,chk,sv⟩ r pd Q ρ σ:=cZ (by simp) (by simp)
@[go_sem] theorem PU {b : Builtin} {args : Array Operand} {ts : Array TypeId} : aV P G (⟨ix,d,.call ⟨.builtin b,args,ts⟩,ty,none,true,chk,sv⟩::r) pd Q ρ σ=oJ P G (oo P G (.call ⟨.builtin b,args,ts⟩) ty ρ σ) d chk r pd Q ρ:=rD (by simp) (by simp)
@[go_sem] theorem Pv {b : Builtin} {args : Array Operand} {ts : Array TypeId} : aV P G (⟨ix,d,.call ⟨.builtin b,args,ts⟩,ty,none,false,chk,sv⟩::r) pd Q ρ σ=fU P G (oo P G (.call ⟨.builtin b,args,ts⟩) ty ρ σ) ⟨ix,d,.call ⟨.builtin b,args,ts⟩,ty,none,false,chk,sv⟩ r pd Q ρ σ:=cZ (by simp) (by simp)
@[go_sem] theorem PK {b : Builtin} {args : Array Operand} {ts : Array TypeId} {x : VV} : fE P G (.call ⟨.builtin b,args,ts⟩) ty ρ σ (fun v=>v=x)=H9 (oo P G (.call ⟨.builtin b,args,ts⟩) ty ρ σ) σ x:=vU (by simp) (by simp)
end
attribute [go_sem] KA GI HY H6 EJ Dz EK Eo Gq Lm Kq G6 ES EI KO Nv
end Go.V
