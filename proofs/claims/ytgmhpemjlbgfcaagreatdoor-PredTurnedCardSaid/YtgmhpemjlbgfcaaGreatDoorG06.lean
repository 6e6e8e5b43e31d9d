/- Texts V13. -/
import Derived.Test.YtgmhpemjlbgfcaaGreatDoorG05
set_option linter.unusedVariables false
set_option linter.unusedSimpArgs false
namespace Go.V
open Go
section
variable {P : Program} {G : Nat→Option (List VV)} {B : Nat→Prop} {w : World} {σ : Store} {μ : List Loc}
theorem wO {O : Nat→Prop} {ρ : Env} {a : Act} (hG : Jm G w O μ) (hE : jg w O μ ρ a.tmps) : ∀ (l : List Operand),bI w O μ (l.map (ev G ρ)) (l.map a.eval)
 | []=>by simp [bI]
 | x::l=>by simp only [List.map_cons,bI];exact ⟨_,_,rfl,yj hG hE x,wO hG hE l⟩
theorem DY {O : Nat→Prop} {ρ : Env} {a : Act} (hG : Jm G w O μ) (hE : jg w O μ ρ a.tmps) (parts : Array (Nat × Operand)) :
  (parts.map fun (p : Nat × Operand)=>(p.1,a.eval p.2)).toList.length=(parts.toList.map fun (p : Nat × Operand)=>(p.1,ev G ρ p.2)).length ∧
  ∀ (i : Nat) (p : Nat × VV) (q : Nat × Value),(parts.toList.map fun (p : Nat × Operand)=>(p.1,ev G ρ p.2))[i]?=some p→(parts.map fun (p : Nat × Operand)=>(p.1,a.eval p.2)).toList[i]?=some q→q.1=p.1∧VR w O μ p.2 q.2:=by
 refine ⟨by simp,fun i p q hp hq=>?_⟩
 rw [Array.toList_map,List.getElem?_map] at hq
 rw [List.getElem?_map] at hp
 cases hi : parts.toList[i]? with
 | none=>rw [hi] at hp;cases hp
 | some r =>
  rw [hi] at hp hq
  simp only [Option.map_some,Option.some.injEq] at hp hq
  subst hp hq
  exact ⟨rfl,yj hG hE r.2⟩
theorem xB {s : Sem Unit} {σ' : Store} (h : ∃ w',s.run P w=.ok () w'∧Frame w σ μ w' σ' μ∧SR B w' σ' μ) : CQ P B w σ μ (do s;pure .skip) .undef σ':=by
 obtain ⟨w',h1,h2,h3⟩:=h
 exact ⟨w',μ,h2,h3,.inr ⟨by simp [h1],rfl⟩⟩
theorem zU (hS : SR B w σ μ) {t : TypeId} {x : VV} {v : Value} (hx : VR w (OO B σ μ) μ x v) {out : aS}
  (h : (match (generalizing:=false) x with
   | .ptr cells off=>jY P t cells off σ
   | .mptr id off=>match dY σ id with
    | some cells=>jY P t cells off σ
    | none=>none
   | _=>none)=some out) (hp : out.pre) : bn P B w σ μ (Instr.loadAt t v) out.val out.st:=by
 cases x<;>exact Ls hS hx h hp
theorem DU (hS : SR B w σ μ) {t : TypeId} {a x : VV} {va v : Value} (ha : VR w (OO B σ μ) μ a va) (hx : VR w (OO B σ μ) μ x v) {out : aS}
  (h : (match (generalizing:=false) a with
   | .mptr id off=>match σ[id]? with
    | some (.own cells)=>some (⟨eH P t=some x.cells.length∧off+x.cells.length≤cells.length∧aQ x.cells=true,.undef,σ.set id (.own (splice cells off x.cells))⟩ : aS)
    | _=>none
   | _=>none)=some out) (hp : out.pre) : ∃ w',(Instr.storeAt t va v).run P w=.ok () w'∧Frame w σ μ w' out.st μ∧SR B w' out.st μ:=by
 cases a<;>exact H8 hS ha hx h hp
set_option maxHeartbeats 1000000 in
theorem Hg {ρ : Env} {a : Act} {o : Oper} (hS : SR B w σ μ) (hG : Jm G w (OO B σ μ) μ) (hE : jg w (OO B σ μ) μ ρ a.tmps) {out : aS} (h : dZ P G ρ σ o=some out) (hp : out.pre) :
  CQ P B w σ μ (execOp a.eval o) out.val out.st:=by
 have E:=fun x=>yj hG hE x
 unfold dZ at h
 split at h
 ·rename_i x ho
  cases h
  simp only [execOp,ho]
  exact ⟨w,μ,.refl _ _ _,hS,.inl ⟨_,rfl,E x⟩⟩
 ·rename_i x ho
  cases h
  simp only [execOp,ho]
  exact ⟨w,μ,.refl _ _ _,hS,.inl ⟨_,rfl,E x⟩⟩
 ·rename_i c x y ho
  split at h
  ·rename_i t hc
   cases h
   have hcv:=E c
   rw [hc] at hcv
   simp only [VR] at hcv
   simp only [execOp,ho,hcv]
   refine ⟨w,μ,.refl _ _ _,hS,.inl ⟨if t=true then a.eval x else a.eval y,by simp [asBool], ?_⟩⟩
   cases t
   ·exact E y
   ·exact E x
  ·cases h
 ·rename_i t ho
  split at h
  ·rename_i z hz
   split at h
   ·cases h
    simp only [execOp,ho]
    exact (Gv hS hz).op
   ·cases h
  ·cases h
 ·rename_i t x ho
  cases h
  simp only [execOp,ho]
  exact (O5 hS (E x) hp).op
 ·rename_i t parts ho
  split at h
  ·rename_i z hz hc
   simp only [Option.map_eq_some_iff] at h
   obtain ⟨cs,hf,rfl⟩:=h
   simp only [execOp,ho]
   obtain ⟨p1,p2⟩:=DY hG hE parts
   exact (Hu hS hz hc p1 p2 hf).op
  ·cases h
 ·rename_i t n parts ho
  split at h
  ·rename_i e ht
   split at h
   ·rename_i k z hk hz
    split at h
    ·cases h
    ·rename_i hn
     simp only [Option.map_eq_some_iff] at h
     obtain ⟨cs,hf,rfl⟩:=h
     simp only [execOp,ho]
     obtain ⟨p1,p2⟩:=DY hG hE parts
     exact (xI hS ht hk hz hn p1 p2 hf).op
   ·cases h
  ·cases h
 ·rename_i t x ho
  simp only [execOp,ho]
  exact (zU hS (E x) h hp).op
 ·rename_i t x y ho
  simp only [execOp,ho]
  have hst:=DU hS (E x) (E y) h hp
  have hv : out.val=.undef:=by
   split at h
   ·split at h
    ·cases h;rfl
    ·cases h
   ·cases h
  rw [hv]
  exact xB hst
 ·rename_i x ho
  have hx:=E x
  split at h
  ·rename_i cells off hc
   cases h
   rw [hc] at hx
   have hx':=hx
   simp only [VR] at hx
   obtain ⟨b,base,hv,_⟩:=hx
   simp only [execOp,ho,hv]
   rw [hv] at hx'
   exact ⟨w,μ,.refl _ _ _,hS,.inl ⟨_,rfl,hx'⟩⟩
  ·rename_i id off hc
   cases h
   rw [hc] at hx
   have hx':=hx
   simp only [VR] at hx
   obtain ⟨L,_,hv⟩:=hx
   simp only [execOp,ho,hv]
   rw [hv] at hx'
   exact ⟨w,μ,.refl _ _ _,hS,.inl ⟨_,rfl,hx'⟩⟩
  ·cases h
 ·rename_i op t x y ty ho
  simp only [execOp,ho]
  exact (NP hS (E x) (E y) h hp).op
 ·rename_i op t x ho
  simp only [execOp,ho]
  exact (Qz hS (E x) h).op
 ·rename_i s d x ho
  simp only [execOp,ho]
  exact (BL hS (E x) h).op
 ·rename_i t x ho
  split at h
  ·rename_i ht
   cases h
   simp only [execOp,ho]
   unfold Kz at ht
   simp only [Option.map_eq_some_iff] at ht
   obtain ⟨d,hd,hf⟩:=ht
   refine (bn.same hS (v:=.iface t (a.eval x)) ?_ ?_).op
   ·unfold Instr.makeInterface
    rw [Sem.run_bind,run_underlying hd]
    cases d<;>simp_all
   ·simp only [VR]
    exact ⟨_,rfl,E x⟩
  ·cases h
 ·rename_i f first caps ho
  have fin : ∀ (g : Fn),f=g→(∀ l,g≠.yield l)→CQ P B w σ μ (execOp a.eval o) (.fn g (first.toList.map (ev G ρ)) (caps.toList.map (ev G ρ))) σ:=by
   rintro g rfl hg
   simp only [execOp,ho]
   refine (bn.same hS (v:=.func f (first.map a.eval) (caps.map a.eval)) rfl ?_).op
   simp only [VR]
   exact ⟨_,_,rfl,hg,by rw [Array.toList_map];exact wO hG hE _,by rw [Array.toList_map];exact wO hG hE _⟩
  split at h
  ·cases h
  ·rename_i hy
   cases h
   exact fin _ rfl (fun l hl=>hy l hl)
 ·rename_i t ho
  cases h
  simp only [execOp,ho,Option.map_none]
  have hF0 : Frame w σ μ (w.alloc (.map #[] 0)) σ μ:=.still (by simp) (fun b hb=>heap_alloc w _ hb) rfl rfl rfl
  have:=hS.snoc hF0 (fun b hb=>heap_alloc w _ hb) (o:=.mp []) (L:=⟨w.heap.size,0,0⟩) (Nat.le_refl _)
   ⟨#[],0,heap_alloc_new' w _,rfl,fun i k x e hx=>by simp at hx⟩
  have hv : bn P B w σ μ (Instr.makeMap t none) (.mmap σ.length) (σ++[.mp []]):=by
   refine ⟨_,_,.map (some w.heap.size),this.2,this.1,rfl, ?_⟩
   simp only [VR]
   exact ⟨⟨w.heap.size,0,0⟩,by rw [← hS.len];simp,rfl⟩
  exact hv.op
 ·rename_i t l c ho
  simp only [execOp,ho]
  exact (zV hS (E l) (E c) h hp).op
 ·rename_i t x lo hi mx ho
  split at h
  ·rename_i l h' m hl hh hm
   simp only [execOp,ho]
   exact (Gm hS (E x) (pJ hG hE hl) (pJ hG hE hh) (pJ hG hE hm) h hp).op
  ·cases h
 ·rename_i s x f ho
  simp only [execOp,ho]
  exact (Gg hS (E x) h).op
 ·rename_i s x f ho
  split at h
  ·rename_i t off cells ht hc
   have hx:=E x
   rw [hc] at hx
   simp only [VR] at hx
   obtain ⟨arr,hv,hr⟩:=hx
   obtain ⟨h1,u,h2,h3⟩:=qZ hr h hp
   simp only [execOp,ho,hv]
   unfold IX at ht
   split at ht
   ·rename_i fs hu
    simp only [Option.map_eq_some_iff,Prod.mk.injEq] at ht
    obtain ⟨fd,hfd,rfl,rfl⟩:=ht
    rw [h1]
    refine (bn.same hS (v:=u) ?_ h3).op
    simp [Instr.field,run_underlying hu,hfd,asAgg,h2]
   ·cases ht
  ·cases h
 ·rename_i t x ix ho
  simp only [execOp,ho]
  exact (zS hS (E x) (E ix) h hp).op
 ·rename_i t x ix ho
  simp only [execOp,ho]
  exact (Ib hS (E x) (E ix) h hp).op
 ·rename_i t m k c ho
  split at h
  ·rename_i e id s ht hm hk
   split at h
   ·rename_i es z hes hz
    cases h
    have h1:=E m
    have h2:=E k
    rw [hm] at h1
    rw [hk] at h2
    simp only [execOp,ho]
    exact (Fv hS ht h1 h2 hes hz).op
   ·cases h
  ·cases h
 ·rename_i t m k x ho
  split at h
  ·rename_i e id s ht hm hk
   split at h
   ·rename_i es hes
    cases h
    have h1:=E m
    have h2:=E k
    rw [hm] at h1
    rw [hk] at h2
    simp only [execOp,ho]
    exact xB (yC hS ht h1 h2 (E x) hes)
   ·cases h
  ·cases h
 ·rename_i x xt at_ c ho
  simp only [execOp,ho]
  exact (DW hS (E x) h).op
 ·rename_i x i ho
  split at h
  ·rename_i vs hx
   split at h
   ·rename_i v hv
    cases h
    have h1:=E x
    rw [hx] at h1
    simp only [VR] at h1
    obtain ⟨arr,he,hr⟩:=h1
    obtain ⟨u,hu,hru⟩:=hr.get hv
    simp only [execOp,ho,he]
    refine (bn.same hS (v:=u) ?_ hru).op
    have hu' : arr[i]?=some u:=by rw [← Array.getElem?_toList];exact hu
    simp [Instr.extract,hu']
   ·cases h
  ·cases h
 ·rename_i c ho
  split at h
  ·rename_i b hb
   have hrun : execOp a.eval o=builtin b c.argTypes o.type (c.args.map fun | .const _=>true | _=>false) (c.args.map a.eval):=by
    simp only [execOp,ho,resolve,hb]
    rfl
   rw [hrun]
   unfold je at h
   have args : ∀ {l : List VV},c.args.toList.map (ev G ρ)=l→bI w (OO B σ μ) μ l (c.args.map a.eval).toList:=by
    rintro l rfl
    rw [Array.toList_map]
    exact wO hG hE _
   have one : ∀ {x : VV},c.args.toList.map (ev G ρ)=[x]→∃ v,c.args.map a.eval=#[v]∧VR w (OO B σ μ) μ x v:=by
    intro x hx
    have:=args hx
    simp only [bI] at this
    obtain ⟨v,l,h1,h2,rfl⟩:=this
    exact ⟨v,by apply Array.ext';rw [h1],h2⟩
   have two : ∀ {x y : VV},c.args.toList.map (ev G ρ)=[x,y]→∃ v u,c.args.map a.eval=#[v,u]∧VR w (OO B σ μ) μ x v∧VR w (OO B σ μ) μ y u:=by
    intro x y hx
    have:=args hx
    simp only [bI] at this
    obtain ⟨v,l,h1,h2,u,l',rfl,h3,rfl⟩:=this
    exact ⟨v,u,by apply Array.ext';rw [h1],h2,h3⟩
   split at h
   ·rename_i x hx
    obtain ⟨v,ha,hr⟩:=one hx
    split at h
    ·rename_i t ht
     rw [ha]
     have:=MV hS (ty:=o.type) hr h
     have e : builtin .len c.argTypes o.type (c.args.map fun | .const _=>true | _=>false) #[v]=(do pure (.value (← Builtin.len_ #[t] o.type #[v]))):=by
      simp [builtin,Builtin.len_,ht]
     rw [e];exact this.op
    ·cases h
   ·rename_i s x hx
    obtain ⟨v,u,ha,hr,hr'⟩:=two hx
    split at h
    ·rename_i t tx ht htx
     rw [ha]
     have:=FN hS (ty:=o.type) hr hr' h hp
     have e : builtin .append c.argTypes o.type (c.args.map fun | .const _=>true | _=>false) #[v,u]=(do pure (.value (← Builtin.append_ #[t,tx] o.type #[v,u]))):=by
      simp [builtin,Builtin.append_,ht,htx]
     rw [e];exact this.op
    ·cases h
   ·rename_i d x hx
    obtain ⟨v,u,ha,hr,hr'⟩:=two hx
    split at h
    ·rename_i t tx ht htx
     rw [ha]
     have:=JJ hS (ty:=o.type) hr hr' h hp
     have e : builtin .copy c.argTypes o.type (c.args.map fun | .const _=>true | _=>false) #[v,u]=(do pure (.value (← Builtin.copy_ #[t,tx] o.type #[v,u]))):=by
      simp [builtin,Builtin.copy_,ht,htx]
     rw [e];exact this.op
    ·cases h
   ·rename_i x y hx
    obtain ⟨v,u,ha,hr,hr'⟩:=two hx
    simp only [Option.map_eq_some_iff] at h
    obtain ⟨r,hr2,rfl⟩:=h
    rw [ha]
    exact (Ar hS (mx:=true) (ts:=c.argTypes) (ty:=o.type) hr hr' hr2).op
   ·rename_i x y hx
    obtain ⟨v,u,ha,hr,hr'⟩:=two hx
    simp only [Option.map_eq_some_iff] at h
    obtain ⟨r,hr2,rfl⟩:=h
    rw [ha]
    exact (Ar hS (mx:=false) (ts:=c.argTypes) (ty:=o.type) hr hr' hr2).op
   ·cases h
  ·cases h
 ·cases h
end
end Go.V
