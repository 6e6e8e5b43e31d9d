/- Texts V24. -/
import Derived.Test.YthhjefemijhamaaGreatDoorG10
set_option linter.unusedVariables false
set_option linter.unusedSimpArgs false
namespace Go.V
variable {P : Program} {G : Nat→Option (List VV)}
abbrev sG:=List (Nat × Op × TypeId × Env × VV)
def Ii (o : Option bD) (σ : Store) (x : VV) : Prop:=match o with
 | some o=>o.pre∧o.st=σ∧o.val=x
 | none=>False
def iK (P : Program) (G : Nat→Option (List VV)) (chk : List Nat) (pd : sG) (σ : Store) : Prop:=∀ p ∈ pd,p.1 ∈ chk→iy P G p.2.1 p.2.2.1 p.2.2.2.1 σ (fun v=>v=p.2.2.2.2)
def ig (P : Program) (G : Nat→Option (List VV)) (o : Option bD) (d : DO) (r : List DO) (pd : sG) (Q : Out→Env→Store→Prop) (ρ : Env) (σ : Store) : Prop:=match o with
 | some o=>o.pre∧o.st=σ∧bH P G r (if d.save then (d.ix,d.op,d.ty,ρ,o.val)::pd else pd) Q (eP ρ d.dst o.val) σ
 | none=>False
def oH (P : Program) (G : Nat→Option (List VV)) (o : Option bD) (d : Option Nat) (chk : List Nat) (r : List DO) (pd : sG) (Q : Out→Env→Store→Prop) (ρ : Env) : Prop:=match o with
 | some o=>o.pre∧iK P G chk pd o.st∧bH P G r pd Q (eP ρ d o.val) o.st
 | none=>False
def Mc (P : Program) (G : Nat→Option (List VV)) (f : FuncId) (xs : List VV) (d : Option Nat) (chk : List Nat) (r : List DO) (pd : sG) (Q : Out→Env→Store→Prop) (ρ : Env) (σ : Store) : Prop :=
 CV P G f xs σ (aO (fun x σ'=>iK P G chk pd σ'∧bH P G r pd Q (eP ρ d x) σ') (fun x σ'=>∀ ρ',Q (.panic x) ρ' σ'))
def WU (P : Program) (G : Nat→Option (List VV)) (id : Nat) (xs : List VV) (d : Option Nat) (chk : List Nat) (r : List DO) (pd : sG) (Q : Out→Env→Store→Prop) (ρ : Env) (σ : Store) : Prop :=
 YV P G id xs σ (aO (fun x σ'=>iK P G chk pd σ'∧bH P G r pd Q (eP ρ d x) σ') (fun x σ'=>∀ ρ',Q (.panic x) ρ' σ'))
def Lp (P : Program) (G : Nat→Option (List VV)) (fv : VV) (xs : List VV) (d : Option Nat) (chk : List Nat) (r : List DO) (pd : sG) (Q : Out→Env→Store→Prop) (ρ : Env) (σ : Store) : Prop:=match fv with
 | .fn (.func g) first caps=>au P g=true∧Mc P G g (first++xs++caps) d chk r pd Q ρ σ
 | .yield id=>WU P G id xs d chk r pd Q ρ σ
 | _=>False
def CS (P : Program) (G : Nat→Option (List VV)) (f : FuncId) (xs : List VV) (d : DO) (r : List DO) (pd : sG) (Q : Out→Env→Store→Prop) (ρ : Env) (σ : Store) : Prop :=
 ∃ x,PV P G f xs x∧bH P G r (if d.save then (d.ix,d.op,d.ty,ρ,x)::pd else pd) Q (eP ρ d.dst x) σ
def Fe (P : Program) (G : Nat→Option (List VV)) (fv : VV) (xs : List VV) (d : DO) (r : List DO) (pd : sG) (Q : Out→Env→Store→Prop) (ρ : Env) (σ : Store) : Prop:=match fv with
 | .fn (.func g) first caps=>au P g=true∧CS P G g (first++xs++caps) d r pd Q ρ σ
 | _=>False
def yY (P : Program) (G : Nat→Option (List VV)) (g : Option Bool) (d : DO) (r : List DO) (pd : sG) (Q : Out→Env→Store→Prop) (ρ : Env) (σ : Store) : Prop:=match g with
 | some true=>bH P G ({ d with g:=none }::r) pd Q ρ σ
 | some false=>bH P G r pd Q (eP ρ d.dst (.tup [])) σ
 | none=>False
section
variable {Q : Out→Env→Store→Prop} {ρ : Env} {σ : Store} {ty : TypeId} {ix : Nat} {d : Option Nat} {chk : List Nat} {sv : Bool} {r : List DO} {pd : sG}
theorem Yp {op : Op} (h1 : ∀ f as ts,op≠.call ⟨.value f,as,ts⟩) (h2 : ∀ x,op≠.panic x) (K KP : VV→Store→Prop) : Jk P G op ty ρ σ K KP=YX P G op ty ρ σ K:=by
 unfold Jk
 split
 ·exact absurd rfl (h1 _ _ _)
 ·exact absurd rfl (h2 _)
 ·rfl
theorem Jo {op : Op} (h1 : ∀ f as ts,op≠.call ⟨.value f,as,ts⟩) (h2 : ∀ x,op≠.panic x) (K : VV→Prop) : iy P G op ty ρ σ K=∃ out,sD P G ρ σ ⟨none,op,ty, "",#[],none⟩=some out∧out.pre∧out.st=σ∧K out.val:=by
 unfold iy
 split
 ·exact absurd rfl (h1 _ _ _)
 ·exact absurd rfl (h2 _)
 ·rfl
theorem sZ {op : Op} (h1 : ∀ f as ts,op≠.call ⟨.value f,as,ts⟩) (h2 : ∀ x,op≠.panic x) : bH P G (⟨ix,d,op,ty,none,true,chk,sv⟩::r) pd Q ρ σ=oH P G (oo P G op ty ρ σ) d chk r pd Q ρ:=by
 simp only [bH,iT,if_true,Yp h1 h2,YX,oH,oo,iK]
 cases sD P G ρ σ ⟨none,op,ty, "",#[],none⟩<;>simp
theorem dR {op : Op} (h1 : ∀ f as ts,op≠.call ⟨.value f,as,ts⟩) (h2 : ∀ x,op≠.panic x) : bH P G (⟨ix,d,op,ty,none,false,chk,sv⟩::r) pd Q ρ σ=ig P G (oo P G op ty ρ σ) ⟨ix,d,op,ty,none,false,chk,sv⟩ r pd Q ρ σ:=by
 simp only [bH,iT,Bool.false_eq_true,if_false,Jo h1 h2,ig,oo]
 cases sD P G ρ σ ⟨none,op,ty, "",#[],none⟩<;>simp
theorem uF {op : Op} {x : VV} (h1 : ∀ f as ts,op≠.call ⟨.value f,as,ts⟩) (h2 : ∀ x,op≠.panic x) : iy P G op ty ρ σ (fun v=>v=x)=Ii (oo P G op ty ρ σ) σ x:=by
 simp only [Jo h1 h2,Ii,oo]
 cases sD P G ρ σ ⟨none,op,ty, "",#[],none⟩<;>simp
theorem Oz : bH P G [] pd Q ρ σ=Q .normal ρ σ:=_root_.id rfl
theorem LU {f : Operand} {args : Array Operand} {ts : Array TypeId} : bH P G (⟨ix,d,.call ⟨.value f,args,ts⟩,ty,none,true,chk,sv⟩::r) pd Q ρ σ=Lp P G (ev G ρ f) (args.toList.map (ev G ρ)) d chk r pd Q ρ σ:=_root_.id rfl
theorem JZ {f : Operand} {args : Array Operand} {ts : Array TypeId} : bH P G (⟨ix,d,.call ⟨.value f,args,ts⟩,ty,none,false,chk,sv⟩::r) pd Q ρ σ=Fe P G (ev G ρ f) (args.toList.map (ev G ρ)) ⟨ix,d,.call ⟨.value f,args,ts⟩,ty,none,false,chk,sv⟩ r pd Q ρ σ:=by
 simp only [bH,iT,Bool.false_eq_true,if_false,iy,Fe,CS]
 rfl
theorem JU {op : Op} {e : Bool} {t : Nat} {b : Bool} : bH P G (⟨ix,d,op,ty,some (t,b),e,chk,sv⟩::r) pd Q ρ σ=yY P G (iT ρ (some (t,b))) ⟨ix,d,op,ty,some (t,b),e,chk,sv⟩ r pd Q ρ σ:=by
 simp only [bH,yY]
 cases iT ρ (some (t,b)) with
 | none=>rfl
 | some t=>cases t<;>simp [iT]
theorem Ie {op : Op} {e : Bool} {g : Option (Nat × Bool)} : yY P G (some true) ⟨ix,d,op,ty,g,e,chk,sv⟩ r pd Q ρ σ=bH P G (⟨ix,d,op,ty,none,e,chk,sv⟩::r) pd Q ρ σ:=_root_.id rfl
theorem Gw {op : Op} {e : Bool} {g : Option (Nat × Bool)} : yY P G (some false) ⟨ix,d,op,ty,g,e,chk,sv⟩ r pd Q ρ σ=bH P G r pd Q (eP ρ d (.tup [])) σ:=_root_.id rfl
theorem dB {t : Bool} {op : Op} {e : Bool} {g : Option (Nat × Bool)} (h1 : t=true→bH P G (⟨ix,d,op,ty,none,e,chk,sv⟩::r) pd Q ρ σ) (h2 : t=false→bH P G r pd Q (eP ρ d (.tup [])) σ) : yY P G (some t) ⟨ix,d,op,ty,g,e,chk,sv⟩ r pd Q ρ σ:=by
 cases t
 ·exact h2 rfl
 ·exact h1 rfl
theorem bg {t : Bool} {op : Op} {e : Bool} {g : Option (Nat × Bool)} (h1 : t=false→bH P G (⟨ix,d,op,ty,none,e,chk,sv⟩::r) pd Q ρ σ) (h2 : t=true→bH P G r pd Q (eP ρ d (.tup [])) σ) : yY P G (some (!t)) ⟨ix,d,op,ty,g,e,chk,sv⟩ r pd Q ρ σ:=by
 cases t
 ·exact h1 rfl
 ·exact h2 rfl
theorem Ia {p : Prop} {v : VV} {op : Op} {g : Option (Nat × Bool)} {e : Bool} : ig P G (some ⟨p,v,σ⟩) ⟨ix,d,op,ty,g,e,chk,false⟩ r pd Q ρ σ=(p∧bH P G r pd Q (eP ρ d v) σ):=by simp [ig]
theorem JL {p : Prop} {v : VV} {op : Op} {g : Option (Nat × Bool)} {e : Bool} : ig P G (some ⟨p,v,σ⟩) ⟨ix,d,op,ty,g,e,chk,true⟩ r pd Q ρ σ=(p∧bH P G r ((ix,op,ty,ρ,v)::pd) Q (eP ρ d v) σ):=by simp [ig]
theorem J6 {p : Prop} {v : VV} {s : Store} : oH P G (some ⟨p,v,s⟩) d chk r pd Q ρ=(p∧iK P G chk pd s∧bH P G r pd Q (eP ρ d v) s):=_root_.id rfl
theorem Oe {g : FuncId} {first caps xs : List VV} (h : au P g=true) : Lp P G (.fn (.func g) first caps) xs d chk r pd Q ρ σ=Mc P G g (first++xs++caps) d chk r pd Q ρ σ:=by simp [Lp,h]
theorem O6 {g : FuncId} {first caps xs : List VV} {e : DO} (h : au P g=true) : Fe P G (.fn (.func g) first caps) xs e r pd Q ρ σ=CS P G g (first++xs++caps) e r pd Q ρ σ:=by simp [Fe,h]
theorem Ld : iK P G [] pd σ=True:=by simp [iK]
theorem Hl : iK P G chk [] σ=True:=by simp [iK]
theorem Jp {op : Op} {ρ' : Env} {x : VV} {n : Nat} : iK P G (n::chk) ((ix,op,ty,ρ',x)::pd) σ=((if ix=n∨ix ∈ chk then iy P G op ty ρ' σ (fun v=>v=x) else True)∧iK P G (n::chk) pd σ):=by
 simp only [iK,List.forall_mem_cons,List.mem_cons]
 congr 1
 split<;>simp [*]
theorem NI {p : Prop} {v x : VV} : Ii (some ⟨p,v,σ⟩) σ x=(p∧v=x):=by simp [Ii]
theorem aC {f : FuncId} {xs : List VV} {x : VV} (h : PV P G f xs x) (hc : iK P G chk pd σ) (hk : bH P G r pd Q (eP ρ d x) σ) : Mc P G f xs d chk r pd Q ρ σ:=Ac h ⟨hc,hk⟩
theorem fZ {f : FuncId} {xs : List VV} {x : VV} {op : Op} {g : Option (Nat × Bool)} {e : Bool} (h : PV P G f xs x) (hk : bH P G r pd Q (eP ρ d x) σ) : CS P G f xs ⟨ix,d,op,ty,g,e,chk,false⟩ r pd Q ρ σ:=⟨x,h,by simpa using hk⟩
theorem JC {f : FuncId} {xs : List VV} {x : VV} {op : Op} {g : Option (Nat × Bool)} {e : Bool} (h : PV P G f xs x) (hk : bH P G r ((ix,op,ty,ρ,x)::pd) Q (eP ρ d x) σ) : CS P G f xs ⟨ix,d,op,ty,g,e,chk,true⟩ r pd Q ρ σ:=⟨x,h,by simpa using hk⟩
theorem Uj {ds : List DO} : jQ P G (.draw ds) Q ρ σ=bH P G ds [] Q ρ σ:=_root_.id rfl
@[go_sem] theorem X8 {x₀ : Operand} : bH P G (⟨ix,d,.move x₀,ty,none,false,chk,sv⟩::r) pd Q ρ σ=ig P G (oo P G (.move x₀) ty ρ σ) ⟨ix,d,.move x₀,ty,none,false,chk,sv⟩ r pd Q ρ σ:=dR (by simp) (by simp)
@[go_sem] theorem WM {x₀ : Operand} : bH P G (⟨ix,d,.assign x₀,ty,none,false,chk,sv⟩::r) pd Q ρ σ=ig P G (oo P G (.assign x₀) ty ρ σ) ⟨ix,d,.assign x₀,ty,none,false,chk,sv⟩ r pd Q ρ σ:=dR (by simp) (by simp)
@[go_sem] theorem XW {c₀ : Operand} {a₀ : Operand} {b₀ : Operand} : bH P G (⟨ix,d,.pick c₀ a₀ b₀,ty,none,false,chk,sv⟩::r) pd Q ρ σ=ig P G (oo P G (.pick c₀ a₀ b₀) ty ρ σ) ⟨ix,d,.pick c₀ a₀ b₀,ty,none,false,chk,sv⟩ r pd Q ρ σ:=dR (by simp) (by simp)
@[go_sem] theorem Xo {t₀ : TypeId} : bH P G (⟨ix,d,.alloc t₀,ty,none,true,chk,sv⟩::r) pd Q ρ σ=oH P G (oo P G (.alloc t₀) ty ρ σ) d chk r pd Q ρ:=sZ (by simp) (by simp)
@[go_sem] theorem ZB {t₀ : TypeId} {x₀ : Operand} : bH P G (⟨ix,d,.box t₀ x₀,ty,none,true,chk,sv⟩::r) pd Q ρ σ=oH P G (oo P G (.box t₀ x₀) ty ρ σ) d chk r pd Q ρ:=sZ (by simp) (by simp)
@[go_sem] theorem XH {t₀ : TypeId} {ps₀ : Array (Nat × Operand)} : bH P G (⟨ix,d,.build t₀ ps₀,ty,none,false,chk,sv⟩::r) pd Q ρ σ=ig P G (oo P G (.build t₀ ps₀) ty ρ σ) ⟨ix,d,.build t₀ ps₀,ty,none,false,chk,sv⟩ r pd Q ρ σ:=dR (by simp) (by simp)
@[go_sem] theorem OT {t₀ : TypeId} {n₀ : Nat} {ps₀ : Array (Nat × Operand)} : bH P G (⟨ix,d,.buildSlice t₀ n₀ ps₀,ty,none,false,chk,sv⟩::r) pd Q ρ σ=ig P G (oo P G (.buildSlice t₀ n₀ ps₀) ty ρ σ) ⟨ix,d,.buildSlice t₀ n₀ ps₀,ty,none,false,chk,sv⟩ r pd Q ρ σ:=dR (by simp) (by simp)
@[go_sem] theorem YU {t₀ : TypeId} {a₀ : Operand} : bH P G (⟨ix,d,.load t₀ a₀,ty,none,false,chk,sv⟩::r) pd Q ρ σ=ig P G (oo P G (.load t₀ a₀) ty ρ σ) ⟨ix,d,.load t₀ a₀,ty,none,false,chk,sv⟩ r pd Q ρ σ:=dR (by simp) (by simp)
@[go_sem] theorem YF {t₀ : TypeId} {a₀ : Operand} {x : VV} : iy P G (.load t₀ a₀) ty ρ σ (fun v=>v=x)=Ii (oo P G (.load t₀ a₀) ty ρ σ) σ x:=uF (by simp) (by simp)
@[go_sem] theorem Xu {t₀ : TypeId} {a₀ : Operand} {x₀ : Operand} : bH P G (⟨ix,d,.store t₀ a₀ x₀,ty,none,true,chk,sv⟩::r) pd Q ρ σ=oH P G (oo P G (.store t₀ a₀ x₀) ty ρ σ) d chk r pd Q ρ:=sZ (by simp) (by simp)
@[go_sem] theorem Tf {a₀ : Operand} : bH P G (⟨ix,d,.nilCheck a₀,ty,none,false,chk,sv⟩::r) pd Q ρ σ=ig P G (oo P G (.nilCheck a₀) ty ρ σ) ⟨ix,d,.nilCheck a₀,ty,none,false,chk,sv⟩ r pd Q ρ σ:=dR (by simp) (by simp)
@[go_sem] theorem XG {op₀ : BinOp} {t₀ : TypeId} {x₀ : Operand} {y₀ : Operand} {u₀ : TypeId} : bH P G (⟨ix,d,.binOp op₀ t₀ x₀ y₀ u₀,ty,none,false,chk,sv⟩::r) pd Q ρ σ=ig P G (oo P G (.binOp op₀ t₀ x₀ y₀ u₀) ty ρ σ) ⟨ix,d,.binOp op₀ t₀ x₀ y₀ u₀,ty,none,false,chk,sv⟩ r pd Q ρ σ:=dR (by simp) (by simp)
@[go_sem] theorem Zi {op₀ : UnOp} {t₀ : TypeId} {x₀ : Operand} : bH P G (⟨ix,d,.unOp op₀ t₀ x₀,ty,none,false,chk,sv⟩::r) pd Q ρ σ=ig P G (oo P G (.unOp op₀ t₀ x₀) ty ρ σ) ⟨ix,d,.unOp op₀ t₀ x₀,ty,none,false,chk,sv⟩ r pd Q ρ σ:=dR (by simp) (by simp)
@[go_sem] theorem UA {s₀ : TypeId} {t₀ : TypeId} {x₀ : Operand} : bH P G (⟨ix,d,.convert s₀ t₀ x₀,ty,none,false,chk,sv⟩::r) pd Q ρ σ=ig P G (oo P G (.convert s₀ t₀ x₀) ty ρ σ) ⟨ix,d,.convert s₀ t₀ x₀,ty,none,false,chk,sv⟩ r pd Q ρ σ:=dR (by simp) (by simp)
@[go_sem] theorem Uy {s₀ : TypeId} {t₀ : TypeId} {x₀ : Operand} {x : VV} : iy P G (.convert s₀ t₀ x₀) ty ρ σ (fun v=>v=x)=Ii (oo P G (.convert s₀ t₀ x₀) ty ρ σ) σ x:=uF (by simp) (by simp)
@[go_sem] theorem Xn {t₀ : TypeId} {x₀ : Operand} {l₀ : Option Operand} {h₀ : Option Operand} {m₀ : Option Operand} : bH P G (⟨ix,d,.slice t₀ x₀ l₀ h₀ m₀,ty,none,false,chk,sv⟩::r) pd Q ρ σ=ig P G (oo P G (.slice t₀ x₀ l₀ h₀ m₀) ty ρ σ) ⟨ix,d,.slice t₀ x₀ l₀ h₀ m₀,ty,none,false,chk,sv⟩ r pd Q ρ σ:=dR (by simp) (by simp)
@[go_sem] theorem Xy {t₀ : TypeId} {x₀ : Operand} {l₀ : Option Operand} {h₀ : Option Operand} {m₀ : Option Operand} {x : VV} : iy P G (.slice t₀ x₀ l₀ h₀ m₀) ty ρ σ (fun v=>v=x)=Ii (oo P G (.slice t₀ x₀ l₀ h₀ m₀) ty ρ σ) σ x:=uF (by simp) (by simp)
@[go_sem] theorem Px {t₀ : TypeId} {x₀ : Operand} {f₀ : Nat} : bH P G (⟨ix,d,.fieldAddr t₀ x₀ f₀,ty,none,false,chk,sv⟩::r) pd Q ρ σ=ig P G (oo P G (.fieldAddr t₀ x₀ f₀) ty ρ σ) ⟨ix,d,.fieldAddr t₀ x₀ f₀,ty,none,false,chk,sv⟩ r pd Q ρ σ:=dR (by simp) (by simp)
@[go_sem] theorem PD {t₀ : TypeId} {x₀ : Operand} {i₀ : Operand} : bH P G (⟨ix,d,.indexAddr t₀ x₀ i₀,ty,none,false,chk,sv⟩::r) pd Q ρ σ=ig P G (oo P G (.indexAddr t₀ x₀ i₀) ty ρ σ) ⟨ix,d,.indexAddr t₀ x₀ i₀,ty,none,false,chk,sv⟩ r pd Q ρ σ:=dR (by simp) (by simp)
@[go_sem] theorem XI {t₀ : TypeId} {x₀ : Operand} {i₀ : Operand} : bH P G (⟨ix,d,.index t₀ x₀ i₀,ty,none,false,chk,sv⟩::r) pd Q ρ σ=ig P G (oo P G (.index t₀ x₀ i₀) ty ρ σ) ⟨ix,d,.index t₀ x₀ i₀,ty,none,false,chk,sv⟩ r pd Q ρ σ:=dR (by simp) (by simp)
@[go_sem] theorem UG {x₀ : Operand} {i₀ : Nat} : bH P G (⟨ix,d,.extract x₀ i₀,ty,none,false,chk,sv⟩::r) pd Q ρ σ=ig P G (oo P G (.extract x₀ i₀) ty ρ σ) ⟨ix,d,.extract x₀ i₀,ty,none,false,chk,sv⟩ r pd Q ρ σ:=dR (by simp) (by simp)
@[go_sem] theorem Ux {b : Builtin} {args : Array Operand} {ts : Array TypeId} : bH P G (⟨ix,d,.call ⟨.builtin b,args,ts⟩,ty,none,true,chk,sv⟩::r) pd Q ρ σ=oH P G (oo P G (.call ⟨.builtin b,args,ts⟩) ty ρ σ) d chk r pd Q ρ:=sZ (by simp) (by simp)
@[go_sem] theorem QK {b : Builtin} {args : Array Operand} {ts : Array TypeId} : bH P G (⟨ix,d,.call ⟨.builtin b,args,ts⟩,ty,none,false,chk,sv⟩::r) pd Q ρ σ=ig P G (oo P G (.call ⟨.builtin b,args,ts⟩) ty ρ σ) ⟨ix,d,.call ⟨.builtin b,args,ts⟩,ty,none,false,chk,sv⟩ r pd Q ρ σ:=dR (by simp) (by simp)
@[go_sem] theorem Uw {b : Builtin} {args : Array Operand} {ts : Array TypeId} {x : VV} : iy P G (.call ⟨.builtin b,args,ts⟩) ty ρ σ (fun v=>v=x)=Ii (oo P G (.call ⟨.builtin b,args,ts⟩) ty ρ σ) σ x:=uF (by simp) (by simp)
end
attribute [go_sem] Oz LU JZ JU Ie Gw Ia JL J6 Oe O6 Ld Hl Jp NI Uj
end Go.V
