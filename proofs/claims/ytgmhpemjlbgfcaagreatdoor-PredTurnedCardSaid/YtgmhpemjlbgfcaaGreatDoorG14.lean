/- Texts W3. -/
import Derived.Test.YtgmhpemjlbgfcaaGreatDoorG13
set_option linter.unusedVariables false
set_option linter.unusedSimpArgs false
namespace Go.V
variable {P : Program} {G : Nat→Option (List VV)} {lab : FuncId→Bool} {orc : FuncId→List VV→Option VV} {pur : FuncId→Bool}
theorem II : (∀ x : VV,pB x=x.isPure)∧∀ xs : List VV,Vk xs=VV.ak xs:=by
 have key : ∀ x : VV,pB x=x.isPure:=by
  intro x
  induction x using VV.rec (motive_2:=fun xs=>Vk xs=VV.ak xs∧(VV.rec_1 (motive_1:=fun _=>Bool) (motive_2:=fun _=>Bool) false (fun _=>true) (fun _ _=>true) (fun _=>true) true true true true (fun _ _ i=>i) (fun _ _ _ i=>i) (fun _ _=>false) (fun _ _ _ _=>false) (fun _=>false) (fun _ _ _ i j=>i && j) (fun _=>false) (fun _ _ i=>i) (fun _ i=>i) (fun _ i=>i) (fun _=>true) true (fun _ _ i j=>i && j) xs : Bool)=VV.ak xs) with
  | ptr cells off ih=>exact ih.2
  | sl n cells t ih=>exact ih.2
  | fn f a b iha ihb=>simp only [VV.isPure];rw [← iha.2,← ihb.2];rfl
  | ifc t v ih=>simp only [VV.isPure];exact ih
  | agg cells ih=>exact ih.2
  | tup cells ih=>exact ih.2
  | nil=>exact ⟨rfl,rfl⟩
  | cons x xs ihx ihs =>
   refine ⟨?_, ?_⟩
   ·simp only [VV.ak];rw [← ihx,← ihs.1];rfl
   ·simp only [VV.ak];rw [← ihx,← ihs.2];rfl
  | _=>rfl
 refine ⟨key,fun xs=>?_⟩
 induction xs with
 | nil=>rfl
 | cons x xs ih=>simp only [VV.ak];rw [← key,← ih];rfl
theorem gW (x : VV) : pB x=x.isPure:=II.1 x
theorem dW (xs : List VV) : Vk xs=VV.ak xs:=II.2 xs
theorem bC (ρ : Env) (g : Option (Nat × Bool)) : Jk ρ g=gX ρ g:=by
 rcases g with _ | ⟨t,b⟩
 ·rfl
 ·simp only [Jk,gX,CY];rfl
theorem NR {σ : Store} : ∀ {xs ys : List VV},WV σ xs=some ys→xs.mapM (fz 20 σ)=some ys
 | [],ys,h=>by simpa [WV] using h
 | x::xs,ys,h=>by
  simp only [WV] at h
  split at h
  ·rename_i y hy
   split at h
   ·rename_i zs hz
    cases h
    simp [hy,NR hz]
   ·cases h
  ·cases h
theorem bD (n : Nat) (T : RT) : run P G lab orc pur (n+1) T=step P G lab orc pur (run P G lab orc pur n) T:=rfl
theorem vT {op : Op} {f : Operand} {args : List Operand} (h : qp op=.call f args) : ∃ as ts,op=.call ⟨.value f,as,ts⟩∧args=as.toList:=by
 unfold qp at h
 split at h<;>cases h
 exact ⟨_,_,rfl,rfl⟩
theorem G8 {op : Op} {x : Operand} (h : qp op=.panic x) : op=.panic x:=by
 unfold qp at h
 split at h<;>cases h
 rfl
theorem Gh {op : Op} {ty : TypeId} {ρ : Env} {σ σ' : Store} {v : VV} (h : Sj P G op ty ρ σ=some (v,σ')) : ∃ out,dZ P G ρ σ ⟨none,op,ty, "",#[],none⟩=some out∧out.pre∧out.val=v∧out.st=σ':=by
 unfold Sj at h
 split at h
 ·rename_i hc
  split at h
  ·rename_i out ho;cases h;exact ⟨out,NU.symm.trans ho,QN hc (NU (ty:=ty) ▸ ho),rfl,rfl⟩
  ·cases h
 ·cases h
theorem Q7 {o : Option aS} {b : Bool} {v : VV} {σ' : Store} (h : Bg o b=.val v σ') : ∃ out,o=some out∧b=true∧out.val=v∧out.st=σ':=by
 unfold Bg at h
 split at h
 ·cases h;exact ⟨_,rfl,rfl,rfl,rfl⟩
 ·cases h
theorem Jf {o : Option aS} {b : Bool} : (∀ f as,Bg o b≠.call f as)∧∀ x,Bg o b≠.panic x:=by
 unfold Bg
 split<;>simp
theorem xZ {op : Op} {ty : TypeId} {ρ : Env} {σ σ' : Store} {v : VV} (h : Oe P G op ρ σ=.val v σ') : qp op=.other∧Sj P G op ty ρ σ=some (v,σ'):=by
 have key : ∀ {b : Bool},Bg (VQ P G op ρ σ) b=.val v σ'→b=Oo P G ρ σ op→Sj P G op ty ρ σ=some (v,σ'):=by
  rintro b hm rfl
  obtain ⟨out,h1,h2,rfl,rfl⟩:=Q7 hm
  simp only [Sj,h1,h2]
 unfold Oe at h
 split at h
 all_goals first
  | (cases h;exact ⟨rfl,rfl⟩)
  | exact ⟨rfl,key h rfl⟩
  | (cases h;done)
  | skip
 rename_i n1 n2 n3
 refine ⟨?_,key h rfl⟩
 unfold qp
 split
 ·exact absurd rfl (n1 _ _ _)
 ·exact absurd rfl (n3 _)
 ·rfl
theorem uX {op : Op} {ρ : Env} {σ : Store} {f : Operand} {args : List Operand} (h : Oe P G op ρ σ=.call f args) : qp op=.call f args:=by
 unfold Oe at h
 split at h
 all_goals first
  | (cases h;rfl)
  | (cases h;done)
  | exact absurd h (Jf.1 _ _)
theorem Ai {op : Op} {ρ : Env} {σ : Store} {x : Operand} (h : Oe P G op ρ σ=.panic x) : qp op=.panic x:=by
 unfold Oe at h
 split at h
 all_goals first
  | (cases h;rfl)
  | (cases h;done)
  | exact absurd h (Jf.2 _)
theorem qI {op : Op} {ty : TypeId} {ρ : Env} {σ σ' : Store} {v : VV} {K KP : VV→Store→Prop} (hk : qp op=.other) (h : Sj P G op ty ρ σ=some (v,σ')) (hK : K v σ') : rY P G op ty ρ σ K KP:=by
 obtain ⟨out,h1,h2,rfl,rfl⟩:=Gh h
 unfold rY
 split
 ·simp [qp] at hk
 ·simp [qp] at hk
 ·exact ⟨out,h1,h2,hK⟩
theorem qC {op : Op} {ty : TypeId} {ρ : Env} {σ σ' : Store} {v : VV} {K : VV→Prop} (hk : qp op=.other) (hs : stay op=true) (h : Sj P G op ty ρ σ=some (v,σ')) (hK : K v) : fE P G op ty ρ σ K:=by
 obtain ⟨out,h1,h2,rfl,rfl⟩:=Gh h
 unfold fE
 split
 ·simp [qp] at hk
 ·simp [qp] at hk
 ·exact ⟨out,h1,h2,Jt hs h1,hK⟩
theorem qG {chk : List Nat} {pd : List (Nat × Op × TypeId × Env × VV)} {σ : Store} (h : Si P G chk pd σ=true) : ∀ p ∈ pd,p.1 ∈ chk→fE P G p.2.1 p.2.2.1 p.2.2.2.1 σ (fun v=>v=p.2.2.2.2):=by
 intro p hp hc
 have:=List.all_eq_true.1 h p hp
 simp only [Bool.or_eq_true,Bool.not_eq_true',List.contains_eq_mem,decide_eq_false_iff_not] at this
 have:=this.resolve_left fun h=>h hc
 split at this
 ·rename_i hk
  simp only [Bool.and_eq_true] at this
  obtain ⟨hs,h2⟩:=this
  split at h2
  ·rename_i he;exact qC hk hs he (VV.beq_eq _ _ h2)
  ·cases h2
 ·cases this
theorem mg : ∀ {rs : List ResultVar} {ρ : Env} {σ : Store} {ys : List VV} {K : List VV→Prop},FK P rs ρ σ=some ys→K ys→resV P rs ρ σ K
 | [],ρ,σ,ys,K,h,hK=>by cases h;exact hK
 | .tmp t::r,ρ,σ,ys,K,h,hK=>by
  simp only [FK,Option.map_eq_some_iff] at h
  obtain ⟨zs,h1,rfl⟩:=h
  exact mg (K:=fun xs=>K (ρ.get t::xs)) h1 hK
 | .cell a t::r,ρ,σ,ys,K,h,hK=>by
  simp only [FK] at h
  simp only [resV]
  split at h
  ·rename_i h0
   split at h
   ·rename_i h00
    split at h
    ·rename_i hc hl
     simp only [Option.map_eq_some_iff] at h
     obtain ⟨zs,h1,rfl⟩:=h
     simp only [h0,h00]
     exact ⟨_,hl,lZ hc hl,mg (K:=fun xs=>K (_::xs)) h1 hK⟩
    ·cases h
   ·cases h
  ·cases h
theorem vW {o : Out} (h : Hq o=some none) : o=.normal∨o=.ret:=by cases o<;>simp [Hq] at h<;>simp
theorem Bj {o : Out} {x : VV} (h : Hq o=some (some x)) : o=.panic x:=by cases o<;>simp [Hq] at h<;>simp [h]
theorem kD {σ τ : Store} {id : Nat} {l : kG} (h : σ[id]?=some (.loop l)) : (σ++τ)[id]?=some (.loop l):=by
 rw [List.getElem?_append_left (List.getElem?_eq_some_iff.1 h).1];exact h
theorem pY {σ : Store} {id j : Nat} {l : kG} {o o' : Obj} (h : σ[id]?=some (.loop l)) (hj : σ[j]?=some o) (ho : ∀ l',o≠.loop l') : (σ.set j o')[id]?=some (.loop l):=by
 rw [List.getElem?_set_ne];exact h
 rintro rfl;rw [h] at hj;cases hj;exact ho _ rfl
theorem Ko {ρ : Env} {σ : Store} {op : Op} {ty : TypeId} {out : aS} (h : dZ P G ρ σ ⟨none,op,ty, "",#[],none⟩=some out) {id : Nat} {l : kG} (hl : σ[id]?=some (.loop l)) : out.st[id]?=some (.loop l):=by
 by_cases hs : stay op=true
 ·rw [Jt hs h];exact hl
 cases op with
 | alloc t =>
  simp only [dZ] at h
  repeat' split at h
  all_goals first
   | (cases h;done)
   | (cases h;exact kD hl)
 | box t x=>simp only [dZ,Option.some.injEq] at h;subst h;exact kD hl
 | makeMap t r =>
  cases r with
  | none=>cases h;exact kD hl
  | some _=>simp [dZ] at h
 | makeSlice t l c =>
  simp only [dZ,gy] at h
  repeat' split at h
  all_goals first
   | (cases h;done)
   | (cases h;exact kD hl)
 | store t a x =>
  simp only [dZ] at h
  split at h
  ·split at h
   ·rename_i h2;cases h;exact pY hl h2 (by simp)
   ·cases h
  ·cases h
 | mapUpdate t m k x =>
  simp only [dZ] at h
  split at h
  ·split at h
   ·rename_i h2;cases h;exact pY hl h2 (by simp)
   ·cases h
  ·cases h
 | call c =>
  obtain ⟨callee,args,ts⟩:=c
  cases callee with
  | builtin b =>
   simp only [dZ,je] at h
   split at h
   ·simp [stay] at hs
   ·split at h
    ·simp only [bF] at h
     repeat' split at h
     all_goals first
      | (cases h;done)
      | (cases h;exact hl)
      | (cases h;exact kD hl)
      | (rename_i h2 _;cases h;exact kD (pY hl h2 (by simp)))
    ·cases h
   ·split at h
    ·simp only [jw] at h
     repeat' split at h
     all_goals first
      | (cases h;done)
      | (cases h;exact hl)
      | (rename_i h2 _;cases h;exact pY hl h2 (by simp))
    ·cases h
   ·simp [stay] at hs
   ·simp [stay] at hs
   ·cases h
  | _=>simp [dZ] at h
 | _=>simp [stay] at hs
theorem Nl {op : Op} {ty : TypeId} {ρ : Env} {σ σ' : Store} {v : VV} (h : Sj P G op ty ρ σ=some (v,σ')) {id : Nat} {l : kG} (hl : σ[id]?=some (.loop l)) : σ'[id]?=some (.loop l):=by
 obtain ⟨out,h1,_,_,rfl⟩:=Gh h
 exact Ko h1 hl
theorem pF {op : Op} {ρ : Env} {σ σ' : Store} {v : VV} (h : Oe P G op ρ σ=.val v σ') {id : Nat} {l : kG} (hl : σ[id]?=some (.loop l)) : σ'[id]?=some (.loop l):=Nl (xZ (ty:=0) h).2 hl
theorem ql {id : Nat} {l : kG} : ∀ (is : List Nat) (σ : Store),σ[id]?=some (.loop l)→(pq is σ)[id]?=some (.loop l)
 | [],_,h=>h
 | j::r,σ,h=>by
  unfold pq
  split
  ·rename_i cells hj;exact ql r _ (pY h hj (by simp))
  ·exact ql r σ h
theorem KQ : ∀ (n : Nat) (T : RT) (o : Out) (ρ' : Env) (σ' : Store),run P G lab orc pur n T=some (.out o ρ' σ')→(∀ (id : Nat) (l : kG),match T with
  | .ops ops ρ σ=>(ops.all fun o=>match qp o.op with | .other=>true | _=>false)=true→σ[id]?=some (.loop l)→σ'[id]?=some (.loop l)
  | .code c ρ σ=>keeps c=true→σ[id]?=some (.loop l)→σ'[id]?=some (.loop l)
  | _=>True):=by
 intro n
 induction n with
 | zero=>intro T o ρ' σ' h;cases h
 | succ n ih =>
  intro T o ρ' σ' h id l
  cases T with
  | ops ops ρ σ =>
   intro hk hl
   simp only [bD,step,gQ,stOp,gI,dQ,dP,bT,dR,bQ,bV,bU,dK,fZ,dW,gW,dN,bW,bY,bC,dF] at h
   split at h
   ·cases h;exact hl
   ·rename_i op r
    simp only [List.all_cons,Bool.and_eq_true] at hk
    split at h
    ·cases h
    ·exact ih _ _ _ _ h id l hk.2 hl
    ·split at h
     ·rename_i he;exact ih _ _ _ _ h id l hk.2 (pF he hl)
     ·cases h
     ·rename_i hx;rw [Ai hx] at hk;simp at hk
     ·rename_i hx;rw [uX hx] at hk;simp at hk
  | code c ρ σ =>
   intro hk hl
   cases c with
   | skip=>simp only [bD,step,gQ,stOp,gI,dQ,dP,bT,dR,bQ,bV,bU,dK,fZ,dW,gW,dN,bW,bY,bC,dF] at h;cases h;exact hl
   | reg ops=>simp only [bD,step,gQ,stOp,gI,dQ,dP,bT,dR,bQ,bV,bU,dK,fZ,dW,gW,dN,bW,bY,bC,dF] at h;exact ih _ _ _ _ h id l hk hl
   | seq a b =>
    simp only [keeps,Bool.and_eq_true] at hk
    simp only [bD,step,gQ,stOp,gI,dQ,dP,bT,dR,bQ,bV,bU,dK,fZ,dW,gW,dN,bW,bY,bC,dF] at h
    split at h
    ·rename_i ha;exact ih _ _ _ _ h id l hk.2 (ih _ _ _ _ ha id l hk.1 hl)
    ·exact ih _ _ _ _ h id l hk.1 hl
   | _=>simp [keeps] at hk
  | _=>trivial
def Io : RT→Store
 | .ops _ _ σ | .code _ _ σ | .draw _ _ _ σ | .call _ _ σ | .body _ _ σ | .yield _ _ σ=>σ
def TM : RR→Store
 | .out _ _ σ | .fin _ σ | .pan _ σ=>σ
theorem N7 : ∀ (n : Nat) (T : RT) (r : RR),run P G lab orc pur n T=some r→∀ (id : Nat) (l : kG),(Io T)[id]?=some (.loop l)→l.state=.busy→(TM r)[id]?=some (.loop l):=by
 intro n
 induction n with
 | zero=>intro T r h;cases h
 | succ n ih =>
  intro T r h id l h1 h2
  have K : ∀ T' r',run P G lab orc pur n T'=some r'→(Io T')[id]?=some (.loop l)→(TM r')[id]?=some (.loop l):=fun T' r' h' h1'=>ih T' r' h' id l h1' h2
  clear ih
  cases T with
  | ops ops ρ σ =>
   simp only [bD,step,gQ,stOp,gI,dQ,dP,bT,dR,bQ,bV,bU,dK,fZ,dW,gW,dN,bW,bY,bC,dF] at h
   repeat' split at h
   all_goals first
    | (cases h;done)
    | exact K _ _ h h1
    | exact K _ _ h (pF ‹Oe P G _ _ _=.val _ _› h1)
    | (rename_i hc;have h3:=K _ _ hc h1;exact K _ _ h h3)
    | (rename_i hc;have h3:=K _ _ hc h1;cases h;exact h3)
    | (cases h;exact h1)
  | code c ρ σ =>
   cases c with
   | rangeF g ps m va vb x y =>
    simp only [bD,step,gQ,stOp,gI,dQ,dP,bT,dR,bQ,bV,bU,dK,fZ,dW,gW,dN,bW,bY,bC,dF] at h
    have hlt:=(List.getElem?_eq_some_iff.1 h1).1
    simp only [Io] at hlt
    repeat' split at h
    all_goals first
     | (cases h;done)
     | (have h3:=K _ _ ‹run P G lab orc pur n _=some (.fin (.ret _) _)› (kD h1);cases h;simp only [TM] at h3 ⊢;rw [List.getElem?_set_ne (by omega)];exact h3)
     | (have h3:=K _ _ ‹run P G lab orc pur n _=some (.fin (.panic _) _)› (kD h1);cases h;exact h3)
   | _ =>
    simp only [bD,step,gQ,stOp,gI,dQ,dP,bT,dR,bQ,bV,bU,dK,fZ,dW,gW,dN,bW,bY,bC,dF] at h
    repeat' split at h
    all_goals first
     | (cases h;done)
     | exact K _ _ h h1
     | (rename_i hc;have h3:=K _ _ hc h1;exact K _ _ h h3)
     | (rename_i hc;have h3:=K _ _ hc h1;cases h;exact h3)
     | (rename_i hc _;have h3:=K _ _ hc h1;cases h;exact h3)
     | (cases h;exact h1)
  | draw ds pd ρ σ =>
   simp only [bD,step,gQ,stOp,gI,dQ,dP,bT,dR,bQ,bV,bU,dK,fZ,dW,gW,dN,bW,bY,bC,dF] at h
   repeat' split at h
   all_goals first
    | (cases h;done)
    | exact K _ _ h h1
    | (rename_i hc _;have h3:=pF hc h1;exact K _ _ h h3)
    | (rename_i hc;have h3:=pF hc h1;exact K _ _ h h3)
    | (rename_i hc _;have h3:=K _ _ hc h1;exact K _ _ h h3)
    | (rename_i hc _ _;have h3:=pF hc h1;exact K _ _ h h3)
    | (rename_i hc _ _;have h3:=K _ _ hc h1;exact K _ _ h h3)
    | (rename_i hc;have h3:=K _ _ hc h1;cases h;exact h3)
    | (cases h;exact h1)
  | call f xs σ =>
   simp only [bD,step,gQ,stOp,gI,dQ,dP,bT,dR,bQ,bV,bU,dK,fZ,dW,gW,dN,bW,bY,bC,dF] at h
   repeat' split at h
   all_goals first
    | (cases h;done)
    | exact K _ _ h h1
    | (cases h;exact ql _ _ h1)
    | (cases h;exact h1)
  | body f xs σ =>
   simp only [bD,step,gQ,stOp,gI,dQ,dP,bT,dR,bQ,bV,bU,dK,fZ,dW,gW,dN,bW,bY,bC,dF] at h
   split at h
   ·repeat' split at h
    all_goals first
     | (cases h;done)
     | (rename_i hc;have h3:=K _ _ hc h1;cases h;exact h3)
     | (rename_i hc _;have h3:=K _ _ hc h1;cases h;exact h3)
     | (rename_i hc _ _;have h3:=K _ _ hc h1;cases h;exact h3)
     | (rename_i hc _ _ _;have h3:=K _ _ hc h1;cases h;exact h3)
     | (rename_i hc _ _ _ _;have h3:=K _ _ hc h1;cases h;exact h3)
     | (rename_i hc _ _ _ _ _;have h3:=K _ _ hc h1;cases h;exact h3)
     | (rename_i hc _ _ _ _ _ _;have h3:=K _ _ hc h1;cases h;exact h3)
     | (rename_i hc _ _ _ _ _ _ _;have h3:=K _ _ hc h1;cases h;exact h3)
   ·split at h
    ·cases h
    ·split at h
     ·cases h
     ·split at h
      ·rename_i ha
       split at h
       ·rename_i hb
        split at h
        ·rename_i hc
         have h3:=K _ _ hc (K _ _ hb (K _ _ ha h1))
         split at h
         ·split at h
          ·split at h
           ·split at h
            ·rename_i hd
             have h4:=K _ _ hd h3
             split at h
             ·split at h
              ·rename_i he
               have h5:=K _ _ he h4
               split at h
               ·cases h;exact h5
               ·cases h
              ·cases h
             ·cases h
            ·cases h
           ·cases h
          ·cases h
         ·cases h
        ·cases h
       ·cases h
      ·cases h
  | yield j xs σ =>
   simp only [bD,step,gQ,stOp,gI,dQ,dP,bT,dR,bQ,bV,bU,dK,fZ,dW,gW,dN,bW,bY,bC,dF] at h
   split at h
   ·rename_i l' hj
    split at h
    ·rename_i va vb hs hp hva hvb
     have hne : j≠id:=by
      rintro rfl
      simp only [Io] at h1
      rw [h1] at hj;cases hj;rw [h2] at hs;cases hs
     split at h
     ·split at h
      ·rename_i ρ1 σ1 ha
       have h3:=K _ _ ha h1
       simp only [TM] at h3
       split at h
       ·rename_i hb
        have h4:=K _ _ hb (by simp only [Io];rw [List.getElem?_set_ne hne];exact h3)
        cases h;simp only [TM] at h4 ⊢;rw [List.getElem?_set_ne hne];exact h4
       ·rename_i hb
        have h4:=K _ _ hb (by simp only [Io];rw [List.getElem?_set_ne hne];exact h3)
        cases h;simp only [TM] at h4 ⊢;rw [List.getElem?_set_ne hne];exact h4
       ·rename_i hb
        have h4:=K _ _ hb (by simp only [Io];rw [List.getElem?_set_ne hne];exact h3)
        cases h;simp only [TM] at h4 ⊢;rw [List.getElem?_set_ne hne];exact h4
       ·cases h
      ·cases h
     ·cases h
    ·cases h
   ·cases h
theorem vP {f : FuncId} {xs : List VV} {R : gY→Store→Prop} : ∀ (l : List Nat) (σ : Store),CV P G f xs (pq l σ) R→CV P G f xs σ R
 | [],_,h=>h
 | id::r,σ,h=>by
  unfold pq at h
  split at h
  ·rename_i cells hid;exact wK hid (vP r _ h)
  ·exact vP r σ h
theorem J3 (hmix : P.follows .mixedOrders=true) (hG : Jw G) (horc : ∀ g xs y,orc g xs=some y→PV P G g xs y) : ∀ (n : Nat) (T : RT) (r : RR),run P G lab orc pur n T=some r→OI P G T r:=by
 intro n
 induction n with
 | zero=>intro T r h;cases h
 | succ n ih =>
  intro T r h
  cases T with
  | ops l ρ σ =>
   simp only [bD,step,gQ,stOp,gI,dQ,dP,bT,dR,bQ,bV,bU,dK,fZ,dW,gW,dN,bW,bY,bC,dF] at h
   split at h
   ·cases h;exact fun Q hQ=>hQ
   ·rename_i o l'
    split at h
    ·cases h
    ·rename_i hw
     have:=ih _ _ h
     cases r with
     | out o' ρ' σ'=>intro Q hQ;simp only [bM,hw];exact this Q hQ
     | pan x' σ'=>intro Q hQ;simp only [bM,hw];exact this Q hQ
     | fin=>exact this
    ·rename_i hw
     split at h
     ·rename_i he
      obtain ⟨hk,he⟩:=xZ (ty:=o.ty) he
      have:=ih _ _ h
      cases r with
      | out o' ρ' σ'=>intro Q hQ;simp only [bM,hw];exact qI hk he (this Q hQ)
      | pan x' σ'=>intro Q hQ;simp only [bM,hw];exact qI hk he (this Q hQ)
      | fin=>exact this
     ·cases h
     ·rename_i x hk
      have e:=G8 (Ai hk)
      split at h
      ·rename_i hx
       cases h
       intro Q hQ
       simp only [bM,hw,e,rY,hx]
       exact hQ
      ·cases h
     ·rename_i f args hk
      obtain ⟨as,ts,e,rfl⟩:=vT (uX hk)
      split at h
      ·rename_i g first caps hf
       split at h
       ·rename_i hb
        split at h
        ·rename_i x σ1 hc
         have h1:=ih _ _ hc
         have h2:=ih _ _ h
         cases r with
         | out o' ρ' σ' =>
          intro Q hQ
          simp only [bM,hw,e,rY,hf]
          refine ⟨hb,CV.mono h1 ?_⟩
          rintro _ _ ⟨rfl,rfl⟩
          exact h2 Q hQ
         | pan x' σ' =>
          intro Q hQ
          simp only [bM,hw,e,rY,hf]
          refine ⟨hb,CV.mono h1 ?_⟩
          rintro _ _ ⟨rfl,rfl⟩
          exact h2 Q hQ
         | fin=>exact h2
        ·rename_i x σ1 hc
         have h1:=ih _ _ hc
         cases h
         intro Q hQ
         simp only [bM,hw,e,rY,hf]
         refine ⟨hb,CV.mono h1 ?_⟩
         rintro _ _ ⟨rfl,rfl⟩
         exact hQ
        ·cases h
       ·cases h
      ·rename_i id hf
       split at h
       ·rename_i x σ1 hc
        have h1:=ih _ _ hc
        have h2:=ih _ _ h
        cases r with
        | out o' ρ' σ' =>
         intro Q hQ
         simp only [bM,hw,e,rY,hf]
         refine YV.mono h1 ?_
         rintro _ _ ⟨rfl,rfl⟩
         exact h2 Q hQ
        | pan x' σ' =>
         intro Q hQ
         simp only [bM,hw,e,rY,hf]
         refine YV.mono h1 ?_
         rintro _ _ ⟨rfl,rfl⟩
         exact h2 Q hQ
        | fin=>exact h2
       ·rename_i x σ1 hc
        have h1:=ih _ _ hc
        cases h
        intro Q hQ
        simp only [bM,hw,e,rY,hf]
        refine YV.mono h1 ?_
        rintro _ _ ⟨rfl,rfl⟩
        exact hQ
       ·cases h
      ·cases h
  | code c ρ σ =>
   cases c with
   | skip=>simp only [bD,step,gQ,stOp,gI,dQ,dP,bT,dR,bQ,bV,bU,dK,fZ,dW,gW,dN,bW,bY,bC,dF] at h;cases h;exact fun Q hQ=>hQ
   | exit id=>simp only [bD,step,gQ,stOp,gI,dQ,dP,bT,dR,bQ,bV,bU,dK,fZ,dW,gW,dN,bW,bY,bC,dF] at h;cases h;exact fun Q hQ=>hQ
   | goto l=>simp only [bD,step,gQ,stOp,gI,dQ,dP,bT,dR,bQ,bV,bU,dK,fZ,dW,gW,dN,bW,bY,bC,dF] at h;cases h;exact fun Q hQ=>hQ
   | ret=>simp only [bD,step,gQ,stOp,gI,dQ,dP,bT,dR,bQ,bV,bU,dK,fZ,dW,gW,dN,bW,bY,bC,dF] at h;cases h;exact fun Q hQ=>hQ
   | seq a b =>
    simp only [bD,step,gQ,stOp,gI,dQ,dP,bT,dR,bQ,bV,bU,dK,fZ,dW,gW,dN,bW,bY,bC,dF] at h
    split at h
    ·rename_i ρ1 σ1 ha
     have h1:=ih _ _ ha
     have h2:=ih _ _ h
     cases r with
     | out o' ρ' σ'=>intro Q hQ;exact h1 (dD (iO P G b Q) Q) (h2 Q hQ)
     | pan x' σ'=>intro Q hQ;exact h1 (dD (iO P G b Q) Q) (h2 Q hQ)
     | fin=>exact h2
    ·rename_i hne
     have h1:=ih _ _ h
     cases r with
     | out o' ρ' σ' =>
      intro Q hQ
      refine h1 (dD (iO P G b Q) Q) ?_
      cases o' with
      | normal=>exact absurd h (hne ρ' σ')
      | _=>exact hQ
     | pan x' σ' =>
      intro Q hQ
      refine h1 (dD (iO P G b Q) Q) ?_
      exact hQ
     | fin=>exact h1
   | cond x a b =>
    simp only [bD,step,gQ,stOp,gI,dQ,dP,bT,dR,bQ,bV,bU,dK,fZ,dW,gW,dN,bW,bY,bC,dF] at h
    split at h
    ·rename_i hx
     have h1:=ih _ _ h
     cases r with
     | out o' ρ' σ'=>intro Q hQ;simp only [iO,hx,if_true];exact h1 Q hQ
     | pan x' σ'=>intro Q hQ;simp only [iO,hx,if_true];exact h1 Q hQ
     | fin=>exact h1
    ·rename_i hx
     have h1:=ih _ _ h
     cases r with
     | out o' ρ' σ'=>intro Q hQ;simp only [iO,hx];exact h1 Q hQ
     | pan x' σ'=>intro Q hQ;simp only [iO,hx];exact h1 Q hQ
     | fin=>exact h1
    ·cases h
   | block id b =>
    simp only [bD,step,gQ,stOp,gI,dQ,dP,bT,dR,bQ,bV,bU,dK,fZ,dW,gW,dN,bW,bY,bC,dF] at h
    split at h
    ·rename_i j ρ1 σ1 hb
     have h1:=ih _ _ hb
     cases h
     intro Q hQ
     refine h1 (fD id Q) ?_
     simp only [fD]
     split<;>rename_i hj
     ·rw [if_pos hj] at hQ;exact hQ
     ·rw [if_neg hj] at hQ;exact hQ
    ·rename_i hne
     have h1:=ih _ _ h
     cases r with
     | out o' ρ' σ' =>
      intro Q hQ
      refine h1 (fD id Q) ?_
      cases o' with
      | exit j=>exact absurd h (hne j ρ' σ')
      | _=>exact hQ
     | pan x' σ' =>
      intro Q hQ
      refine h1 (fD id Q) ?_
      exact hQ
     | fin=>exact h1
   | scope b =>
    simp only [bD,step,gQ,stOp,gI,dQ,dP,bT,dR,bQ,bV,bU,dK,fZ,dW,gW,dN,bW,bY,bC,dF] at h
    split at h
    ·cases h
    ·rename_i hne
     have h1:=ih _ _ h
     cases r with
     | out o' ρ' σ' =>
      intro Q hQ
      refine h1 (FZ Q) ?_
      cases o' with
      | goto l=>exact absurd h (hne l ρ' σ')
      | _=>exact hQ
     | pan x' σ' =>
      intro Q hQ
      refine h1 (FZ Q) ?_
      exact hQ
     | fin=>exact h1
   | loop b =>
    simp only [bD,step,gQ,stOp,gI,dQ,dP,bT,dR,bQ,bV,bU,dK,fZ,dW,gW,dN,bW,bY,bC,dF] at h
    split at h
    ·rename_i ρ1 σ1 hb
     have h1:=ih _ _ hb
     have h2:=ih _ _ h
     cases r with
     | out o' ρ' σ'=>intro Q hQ;exact iH (h1 (dD (iO P G (.loop b) Q) Q) (h2 Q hQ))
     | pan x' σ'=>intro Q hQ;exact iH (h1 (dD (iO P G (.loop b) Q) Q) (h2 Q hQ))
     | fin=>exact h2
    ·rename_i hne
     have h1:=ih _ _ h
     cases r with
     | out o' ρ' σ' =>
      intro Q hQ
      refine iH (h1 (dD (iO P G (.loop b) Q) Q) ?_)
      cases o' with
      | normal=>exact absurd h (hne ρ' σ')
      | _=>exact hQ
     | pan x' σ' =>
      intro Q hQ
      refine iH (h1 (dD (iO P G (.loop b) Q) Q) ?_)
      exact hQ
     | fin=>exact h1
   | reg ops =>
    simp only [bD,step,gQ,stOp,gI,dQ,dP,bT,dR,bQ,bV,bU,dK,fZ,dW,gW,dN,bW,bY,bC,dF] at h
    have h1:=ih _ _ h
    cases r with
    | out o' ρ' σ'=>exact h1
    | pan x' σ'=>exact h1
    | fin=>exact h1
   | draw ds =>
    simp only [bD,step,gQ,stOp,gI,dQ,dP,bT,dR,bQ,bV,bU,dK,fZ,dW,gW,dN,bW,bY,bC,dF] at h
    have h1:=ih _ _ h
    cases r with
    | out o' ρ' σ'=>exact h1
    | pan x' σ'=>exact h1
    | fin=>exact h1
   | rangeF g ps m va vb x y =>
    simp only [bD,step,gQ,stOp,gI,dQ,dP,bT,dR,bQ,bV,bU,dK,fZ,dW,gW,dN,bW,bY,bC,dF] at h
    split at h
    ·rename_i f first caps hf
     split at h
     ·rename_i hb
      have key : ∀ l,sZ l ρ ps m va vb x y→l=⟨m,ρ,ps,x,y,.ready,none⟩:=by
       rintro ⟨n1,t1,p1,a1,b1,s1,e1⟩ hl
       obtain ⟨rfl,rfl,rfl,rfl,rfl,_,_,rfl,rfl⟩:=hl
       rfl
      split at h
      ·rename_i x' σ' hc
       have h1:=ih _ _ hc
       split at h
       ·rename_i l' hl'
        split at h
        ·cases h
        ·rename_i o hj hnb
         cases h
         intro Q hQ
         simp only [iO,hf]
         refine ⟨hb,fun l hl=>?_⟩
         obtain rfl:=key l hl
         refine CV.mono h1 ?_
         rintro _ _ ⟨rfl,rfl⟩
         refine ⟨l',hl',hnb, ?_⟩
         generalize l'.pending=pe at hj ⊢
         unfold Tz at hj
         unfold xq
         split at hj<;>cases hj<;>exact hQ
        ·cases h
       ·cases h
      ·rename_i x' σ' hc
       have h1:=ih _ _ hc
       cases h
       intro Q hQ
       simp only [iO,hf]
       refine ⟨hb,fun l hl=>?_⟩
       obtain rfl:=key l hl
       refine CV.mono h1 ?_
       rintro _ _ ⟨rfl,rfl⟩
       exact hQ
      ·cases h
     ·cases h
    ·cases h
  | draw l pd ρ σ =>
   simp only [bD,step,gQ,stOp,gI,dQ,dP,bT,dR,bQ,bV,bU,dK,fZ,dW,gW,dN,bW,bY,bC,dF] at h
   split at h
   ·cases h;exact fun Q hQ=>hQ
   ·rename_i o l'
    split at h
    ·cases h
    ·rename_i hw
     have:=ih _ _ h
     cases r with
     | out o' ρ' σ'=>intro Q hQ;simp only [aV,hw];exact this Q hQ
     | pan x' σ'=>intro Q hQ;simp only [aV,hw];exact this Q hQ
     | fin=>exact this
    ·rename_i hw
     split at h
     ·rename_i hE
      split at h
      ·rename_i he
       obtain ⟨hk,he⟩:=xZ (ty:=o.ty) he
       split at h
       ·rename_i hc
        have:=ih _ _ h
        cases r with
        | out o' ρ' σ'=>intro Q hQ;simp only [aV,hw,hE,if_true];exact qI hk he ⟨qG hc,this Q hQ⟩
        | pan x' σ'=>intro Q hQ;simp only [aV,hw,hE,if_true];exact qI hk he ⟨qG hc,this Q hQ⟩
        | fin=>exact this
       ·cases h
      ·cases h
      ·cases h
      ·rename_i f args hk
       obtain ⟨as,ts,e,rfl⟩:=vT (uX hk)
       split at h
       ·rename_i g first caps hf
        split at h
        ·rename_i hb
         split at h
         ·rename_i x σ1 hc
          split at h
          ·rename_i hch
           have h1:=ih _ _ hc
           have h2:=ih _ _ h
           cases r with
           | out o' ρ' σ' =>
            intro Q hQ
            simp only [aV,hw,hE,if_true,e,rY,hf]
            refine ⟨hb,CV.mono h1 ?_⟩
            rintro _ _ ⟨rfl,rfl⟩
            exact ⟨qG hch,h2 Q hQ⟩
           | pan x' σ' =>
            intro Q hQ
            simp only [aV,hw,hE,if_true,e,rY,hf]
            refine ⟨hb,CV.mono h1 ?_⟩
            rintro _ _ ⟨rfl,rfl⟩
            exact ⟨qG hch,h2 Q hQ⟩
           | fin=>exact h2
          ·cases h
         ·rename_i x σ1 hc
          have h1:=ih _ _ hc
          cases h
          intro Q hQ
          simp only [aV,hw,hE,if_true,e,rY,hf]
          refine ⟨hb,CV.mono h1 ?_⟩
          rintro _ _ ⟨rfl,rfl⟩
          exact hQ
         ·cases h
        ·cases h
       ·rename_i id hf
        split at h
        ·rename_i x σ1 hc
         split at h
         ·rename_i hch
          have h1:=ih _ _ hc
          have h2:=ih _ _ h
          cases r with
          | out o' ρ' σ' =>
           intro Q hQ
           simp only [aV,hw,hE,if_true,e,rY,hf]
           refine YV.mono h1 ?_
           rintro _ _ ⟨rfl,rfl⟩
           exact ⟨qG hch,h2 Q hQ⟩
          | pan x' σ' =>
           intro Q hQ
           simp only [aV,hw,hE,if_true,e,rY,hf]
           refine YV.mono h1 ?_
           rintro _ _ ⟨rfl,rfl⟩
           exact ⟨qG hch,h2 Q hQ⟩
          | fin=>exact h2
         ·cases h
        ·rename_i x σ1 hc
         have h1:=ih _ _ hc
         cases h
         intro Q hQ
         simp only [aV,hw,hE,if_true,e,rY,hf]
         refine YV.mono h1 ?_
         rintro _ _ ⟨rfl,rfl⟩
         exact hQ
        ·cases h
       ·cases h
     ·rename_i hE
      split at h
      ·rename_i he
       obtain ⟨hk,he⟩:=xZ (ty:=o.ty) he
       split at h
       ·rename_i hs
        have:=ih _ _ h
        cases r with
        | out o' ρ' σ'=>intro Q hQ;simp only [aV,hw,hE,Bool.false_eq_true,if_false];exact qC hk hs he (this Q hQ)
        | pan x' σ'=>intro Q hQ;simp only [aV,hw,hE,Bool.false_eq_true,if_false];exact qC hk hs he (this Q hQ)
        | fin=>exact this
       ·cases h
      ·cases h
      ·cases h
      ·rename_i f args hk
       obtain ⟨as,ts,e,rfl⟩:=vT (uX hk)
       split at h
       ·rename_i g first caps hf
        split at h
        ·rename_i hb hp
         split at h
         ·rename_i y σ1 hc
          split at h
          ·rename_i x hz
           split at h
           ·rename_i hx
            have h1:=ih _ _ hc
            have h2:=ih _ _ h
            cases r with
            | out o' ρ' σ' =>
             intro Q hQ
             simp only [aV,hw,hE,Bool.false_eq_true,if_false,e,fE,hf]
             refine ⟨hb,x,⟨hG,hp,hx,CV.mono h1 ?_⟩,by simpa only [e] using h2 Q hQ⟩
             rintro _ _ ⟨rfl,rfl⟩
             exact ⟨y,20,rfl,hz⟩
            | pan x' σ' =>
             intro Q hQ
             simp only [aV,hw,hE,Bool.false_eq_true,if_false,e,fE,hf]
             refine ⟨hb,x,⟨hG,hp,hx,CV.mono h1 ?_⟩,by simpa only [e] using h2 Q hQ⟩
             rintro _ _ ⟨rfl,rfl⟩
             exact ⟨y,20,rfl,hz⟩
            | fin=>exact h2
           ·cases h
          ·cases h
         ·cases h
        ·cases h
       ·cases h
  | call f xs σ =>
   simp only [bD,step,gQ,stOp,gI,dQ,dP,bT,dR,bQ,bV,bU,dK,fZ,dW,gW,dN,bW,bY,bC,dF] at h
   split at h
   ·rename_i y ho
    cases h
    exact nN (horc _ _ _ ho) ⟨rfl,rfl⟩
   ·split at h
    ·have h1:=ih _ _ h
     cases r with
     | fin r' σ'=>exact h1
     | out=>exact h1
     | pan=>exact h1
    ·have pure : ∀ (ys : List VV) (σ2 : Store) (r : RR),VV.ak ys=true→(∀ x : VV,PV P G f ys x→CV P G f xs σ fun r' σ''=>r'=.ret x∧σ''=σ2)→(match run P G lab orc pur n (.body f ys []) with
      | some (.fin (.ret y) σ')=>match y.isPure with
       | true=>some (RR.fin (.ret y) σ2)
       | false=>match fz 20 (σ'.map Obj.fr) y with
        | some x=>match x.isPure with
         | true=>some (.fin (.ret x) σ2)
         | false=>none
        | none=>none
      | some (.fin (.panic _) _)=>run P G lab orc pur n (.body f xs σ)
      | _=>none)=some r→OI P G (.call f xs σ) r:=by
      intro ys σ2 r hp hk h
      split at h
      ·rename_i y σ1 hb
       have h1:=ih _ _ hb
       split at h
       ·rename_i hy
        cases h
        refine hk y ⟨hG,hp,hy,CV.mono h1 ?_⟩
        rintro _ _ ⟨rfl,rfl⟩
        exact ⟨y,20,rfl,qY hy⟩
       ·split at h
        ·rename_i x hz
         split at h
         ·rename_i hx
          cases h
          refine hk x ⟨hG,hp,hx,CV.mono h1 ?_⟩
          rintro _ _ ⟨rfl,rfl⟩
          exact ⟨y,20,rfl,hz⟩
         ·cases h
        ·cases h
      ·have h1:=ih _ _ h
       cases r with
       | fin r' σ'=>exact h1
       | out=>exact h1
       | pan=>exact h1
      ·cases h
     split at h
     ·rename_i hp
      exact pure xs σ r hp (fun x hx=>nN hx ⟨rfl,rfl⟩) h
     ·split at h
      ·have h1:=ih _ _ h
       cases r with
       | fin r' σ'=>exact h1
       | out=>exact h1
       | pan=>exact h1
      ·rename_i ys hy
       split at h
       ·rename_i hp
        exact pure ys _ r hp (fun x hx=>vP (xs.flatMap (wY 20 σ)) σ (Na 20 (NR hy) hx ⟨rfl,rfl⟩)) h
       ·cases h
  | body f xs σ =>
   simp only [bD,step,gQ,stOp,gI,dQ,dP,bT,dR,bQ,bV,bU,dK,fZ,dW,gW,dN,bW,bY,bC,dF] at h
   split at h
   ·split at h
    ·cases h
    ·rename_i F hF
     split at h
     ·rename_i hn
      split at h
      ·rename_i o ρ' σ' hc
       have h1:=ih _ _ hc
       split at h
       ·rename_i hx
        split at h
        ·rename_i ys hr
         cases h
         refine Ef hmix hF (Nat.le_of_ble_eq_true hn) (h1 _ ?_)
         rcases vW hx with rfl | rfl
         ·exact mg hr ⟨rfl,rfl⟩
         ·exact mg hr ⟨rfl,rfl⟩
        ·cases h
       ·rename_i x hx
        cases h
        refine Ef hmix hF (Nat.le_of_ble_eq_true hn) (h1 _ ?_)
        rw [Bj hx]
        exact ⟨rfl,rfl⟩
       ·cases h
      ·rename_i x σ' hc
       have h1:=ih _ _ hc
       cases h
       exact Ef hmix hF (Nat.le_of_ble_eq_true hn) (h1 _ fun _=>⟨rfl,rfl⟩)
      ·cases h
     ·cases h
   ·split at h
    ·cases h
    ·rename_i D hD
     split at h
     ·cases h
     ·rename_i hn
      split at h
      ·rename_i ρ1 σ1 ha
       split at h
       ·rename_i ρ2 σ2 hb
        split at h
        ·rename_i ρ3 σ3 hc
         split at h
         ·rename_i g caps hg
          split at h
          ·rename_i E hbd hE
           split at h
           ·rename_i hcn
            split at h
            ·rename_i o4 ρ4 σ4 hd
             split at h
             ·rename_i X hX
              split at h
              ·rename_i o5 ρ5 σ5 he
               split at h
               ·rename_i zs ys hx5 hr5 hr4
                cases h
                have ia:=ih _ _ ha
                have ib:=ih _ _ hb
                have ic:=ih _ _ hc
                have id_:=ih _ _ hd
                have ie:=ih _ _ he
                refine Nu hmix hD (Nat.le_of_ble_eq_true hn) (ia _ (ib _ (ic _ ⟨g,[],caps,hg,rfl,hbd,id_ _ ?_⟩)))
                have hCD : CD P G g caps σ4 X fun σ'=>resV P D.res ρ4 σ' fun xs=>(fun r' σ''=>r'=gY.ret (lI ys)∧σ''=σ5) (.ret (lI xs)) σ':=by
                 refine VJ hmix hE (Nat.le_of_ble_eq_true hcn) (ie _ ?_)
                 rcases vW hx5 with rfl | rfl
                 ·exact mg hr5 (mg hr4 ⟨rfl,rfl⟩)
                 ·exact mg hr5 (mg hr4 ⟨rfl,rfl⟩)
                cases X with
                | none =>
                 rcases vW hX with rfl | rfl
                 ·exact hCD
                 ·exact hCD
                | some x=>rw [Bj hX];exact hCD
               ·cases h
              ·cases h
             ·cases h
            ·cases h
           ·cases h
          ·cases h
         ·cases h
        ·cases h
       ·cases h
      ·cases h
  | yield id xs σ =>
   simp only [bD,step,gQ,stOp,gI,dQ,dP,bT,dR,bQ,bV,bU,dK,fZ,dW,gW,dN,bW,bY,bC,dF] at h
   split at h
   ·rename_i l hl
    split at h
    ·rename_i va vb hs hp hva hvb
     split at h
     ·rename_i hck
      simp only [Bool.and_eq_true,List.all_eq_true] at hck
      obtain ⟨⟨⟨⟨f1,f2⟩,f3⟩,f4⟩,f5⟩:=hck
      have hLO : sZ l l.tmps l.params l.n va vb l.assign l.body:=⟨rfl,rfl,rfl,hs,hp,⟨lab,hva,hvb⟩,⟨f1,f2⟩,rfl,rfl⟩
      split at h
      ·rename_i ρ1 σ1 ha
       have h1:=ih _ _ ha
       have hl1:=KQ n _ _ _ _ ha id l f3 hl
       have hlt:=(List.getElem?_eq_some_iff.1 hl1).1
       have fin : ∀ (o : Out) (ρ2 : Env) (σ2 : Store) (r' : gY) (σ' : Store),run P G lab orc pur n (.code vb ρ1 (σ1.set id (.loop { l with state:=.busy })))=some (.out o ρ2 σ2)→(σ2[id]?=some (.loop { l with state:=.busy })→pI id l (fun a b=>a=r'∧b=σ') o ρ2 σ2)→YV P G id xs σ (fun a b=>a=r'∧b=σ'):=by
        intro o ρ2 σ2 r' σ' hb hr
        have h2:=ih _ _ hb
        have hbz:=N7 n _ _ hb id _ (List.getElem?_set_self hlt) rfl
        refine DV hmix hl hLO (Nat.eq_of_beq_eq_true f4) (by rw [List.all_eq_true];intro p hp';simpa using sU (f5 p hp')) ?_
        exact h1 _ ⟨hl1,h2 _ (hr hbz)⟩
       split at h
       ·rename_i hb
        cases h
        exact fin _ _ _ _ _ hb fun hz=>⟨hz,rfl,rfl⟩
       ·rename_i hb
        cases h
        exact fin _ _ _ _ _ hb fun hz=>⟨hz,rfl,rfl⟩
       ·rename_i hb
        cases h
        exact fin _ _ _ _ _ hb fun hz=>⟨hz,rfl,rfl⟩
       ·cases h
      ·cases h
     ·cases h
    ·cases h
   ·cases h
end Go.V
