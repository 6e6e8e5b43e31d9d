/- Texts L11 L12 L13. -/
import Derived.Test.YthhjefemijhamaaGreatDoorG39
set_option linter.unusedVariables false
set_option linter.unusedSimpArgs false
namespace Go.V
def Stop (r : Bs) : Prop:=∀ c,r.head?=some c→iR c=false∧c.toNat≠61
theorem Stop.nil : Stop []:=fun c h=>by cases h
theorem Stop.cons {c : UInt8} {r : Bs} (h1 : iR c=false) (h2 : c.toNat≠61) : Stop (c::r):=fun d h=>by cases h;exact ⟨h1,h2⟩
end Go.V
namespace Go.V
def U5 (k i : Int) (t : Bs) : Prop:=(k=0∧i=0∧t=[])∨(k=1∧(i=0∨i=1)∧t=[])∨(k=2∧t=[]∧-9223372036854775808≤i∧i≤9223372036854775807)∨(k=3∧i=0)
mutual
def T.wf : Nat→T→Prop
 | q,.sc k i t=>q≤64∧U5 k i t
 | q,.vec l=>q≤64∧T.wfs (q+1) l
 | q,.map l=>q≤64∧jB l∧T.CP (q+1) l
 | q,.set l=>q≤64∧jB (l.map fun x=>(x.key,x))∧T.wfs (q+1) l
def T.wfs : Nat→List T→Prop
 | _,[]=>True
 | q,x::l=>x.wf q∧T.wfs q l
def T.CP : Nat→List (Bs × T)→Prop
 | _,[]=>True
 | q,p::l=>p.2.wf q∧T.CP q l
end
mutual
def T.nd : T→Nat
 | .sc _ _ _=>1
 | .vec l=>1+T.pY l
 | .map l=>1+T.qX l
 | .set l=>1+T.pY l
def T.pY : List T→Nat
 | []=>0
 | x::l=>x.nd+T.pY l
def T.qX : List (Bs × T)→Nat
 | []=>0
 | p::l=>p.2.nd+T.qX l
end
theorem MH (q : Nat) : ∀ l m : List T,T.wfs q (l++m)↔T.wfs q l∧T.wfs q m
 | [],m=>by simp [T.wfs]
 | x::l,m=>by simp [T.wfs,MH q l m,and_assoc]
theorem NC : ∀ l m : List T,T.pY (l++m)=T.pY l+T.pY m
 | [],m=>by simp [T.pY]
 | x::l,m=>by simp [T.pY,NC l m];omega
theorem xA {q : Nat} {k : Bs} {v : T} (hv : v.wf q) : ∀ {l : List (Bs × T)},T.CP q l→T.CP q (bP k v l)
 | [],_=>by simp [bP,T.CP,hv]
 | (k',v')::l,h=>by
  simp only [T.CP] at h
  unfold bP
  split
  ·simp only [T.CP];exact ⟨hv,h⟩
  ·split
   ·simp only [T.CP];exact ⟨hv,h.2⟩
   ·simp only [T.CP];exact ⟨h.1,xA hv h.2⟩
theorem xg {k : Bs} {v : T} : ∀ {l : List (Bs × T)},(∀ p ∈ l,p.1≠k)→T.qX (bP k v l)=T.qX l+v.nd
 | [],_=>by simp [bP,T.qX]
 | (k',v')::l,h=>by
  unfold bP
  split
  ·simp only [T.qX];omega
  ·split
   ·rename_i he;exact absurd he.symm (h (k',v') (by simp))
   ·simp only [T.qX];rw [xg fun p hp=>h p (by simp [hp])];omega
theorem FH {q : Nat} : ∀ {l : List (Bs × T)},T.CP q l→T.wfs q (l.map (·.2))
 | [],_=>trivial
 | p::l,h=>by simp only [T.CP] at h;simp only [List.map_cons,T.wfs];exact ⟨h.1,FH h.2⟩
theorem Gz : ∀ l : List (Bs × T),T.pY (l.map (·.2))=T.qX l
 | []=>rfl
 | p::l=>by simp only [List.map_cons,T.pY,T.qX];rw [Gz l]
theorem keyed : ∀ {l : List (Bs × T)},(∀ p ∈ l,p.1=p.2.key)→(l.map (·.2)).map (fun x=>(x.key,x))=l
 | [],_=>rfl
 | p::l,h=>by
  simp only [List.map_cons]
  rw [keyed fun p hp=>h p (by simp [hp]),← h p (by simp)]
theorem XR {l : List (Bs × T)} {k : Bs} (h : ¬ (lk l k).isSome=true) : ∀ p ∈ l,p.1≠k:=by
 intro p hp e
 apply h
 unfold lk
 rw [Option.isSome_map,List.find?_isSome]
 exact ⟨p,hp,by simpa using e⟩
def Md.wf (q : Nat) : Md→Prop
 | .val=>True
 | .vec l=>q≤64∧T.wfs (q+1) l
 | .map l=>q≤64∧jB l∧T.CP (q+1) l
 | .set l=>q≤64∧jB l∧(∀ p ∈ l,p.1=p.2.key)∧T.CP (q+1) l
def Md.nd : Md→Nat
 | .val=>0
 | .vec l=>1+T.pY l
 | .map l=>1+T.qX l
 | .set l=>1+T.qX l
theorem Md.Qo {q : Nat} {m : Md} (h : m.wf q) (hv : m.isVal=false) : m.fin.wf q∧m.fin.nd=m.nd:=by
 cases m with
 | val=>cases hv
 | vec l=>simp only [Md.fin,T.wf,T.nd,Md.nd];exact ⟨h,trivial⟩
 | map l=>simp only [Md.fin,T.wf,T.nd,Md.nd];exact ⟨h,trivial⟩
 | set l =>
  obtain ⟨h1,h2,h3,h4⟩:=h
  simp only [Md.fin,T.wf,T.nd,Md.nd,Gz,keyed h3,and_true]
  exact ⟨h1,h2,FH h4⟩
theorem Jr {q : Nat} (kd : Int) (hq : q≤64) : (dZ kd).wf q∧(dZ kd).nd=1∧(dZ kd).isVal=false:=by
 unfold dZ
 repeat' split
 all_goals simp [Md.wf,Md.nd,T.wfs,T.pY,T.qX,T.CP,Md.isVal,hq]
theorem Q8 {k : Nat} {i : Int} {t : Bs} {sk si kd : Int} {st : Bs} (h : bI k i t=some (sk,si,st,kd)) (hi : -9223372036854775808≤i∧i≤9223372036854775807) (h0 : kd=0) : U5 sk si st:=by
 unfold bI at h
 unfold U5
 split at h
 ·cases h;exact .inr (.inr (.inl ⟨rfl,rfl,hi⟩))
 ·split at h
  ·cases h;exact .inr (.inr (.inr ⟨rfl,rfl⟩))
  ·split at h
   ·repeat' split at h
    all_goals first | (cases h;omega) | cases h
   ·split at h
    ·repeat' split at h
     all_goals first | (cases h;simp;done) | cases h
    ·cases h
theorem SH {rv : Int→Nat→Nat→Option Rs} {s : Bs} {a : Int} {n q : Nat} {m m' : Md} {e n' : Nat} (hv : ∀ a n q v e n',rv a n q=some (.ok v e n')→v.wf q∧n'=n+v.nd∧n'≤16384) (h : one rv s a n q m=some (.ok m' e n')) (hm : m.wf q) : m'.wf q∧n'+m.nd=n+m'.nd∧n'≤16384∧m'.isVal=false:=by
 cases m with
 | val=>cases h
 | vec acc =>
  simp only [one] at h
  split at h
  ·cases h
  ·cases h
  ·rename_i h1;cases h
   obtain ⟨g1,g2,g3⟩:=hv _ _ _ _ _ _ h1
   simp only [Md.wf,Md.nd,MH,NC,T.wfs,T.pY,and_true,Md.isVal]
   exact ⟨⟨hm.1,hm.2,g1⟩,by omega,g3⟩
 | map acc =>
  simp only [one] at h
  split at h
  ·cases h
  ·split at h
   ·cases h
   ·split at h
    ·cases h
    ·rename_i hlk
     split at h
     ·cases h
     ·split at h
      ·split at h
       ·cases h
       ·cases h
       ·rename_i h1;cases h
        obtain ⟨g1,g2,g3⟩:=hv _ _ _ _ _ _ h1
        simp only [Md.wf,Md.nd,Md.isVal,and_true]
        rw [xg (XR hlk)]
        exact ⟨⟨hm.1,jC hm.2.1,xA g1 hm.2.2⟩,by omega,g3⟩
      ·cases h
 | set acc =>
  simp only [one] at h
  split at h
  ·cases h
  ·split at h
   ·cases h
   ·cases h
   ·rename_i h1
    split at h
    ·cases h
    ·rename_i hlk
     cases h
     obtain ⟨g1,g2,g3⟩:=hv _ _ _ _ _ _ h1
     simp only [Md.wf,Md.nd,Md.isVal,and_true]
     rw [xg (XR hlk)]
     refine ⟨⟨hm.1,jC hm.2.1,fun p hp=>?_,xA g1 hm.2.2.2⟩,by omega,g3⟩
     rcases kQ hp with rfl | hp
     ·rfl
     ·exact hm.2.2.1 p hp
theorem wP : ∀ (f : Nat) {s : Bs} {a : Int} {n q : Nat} {m : Md} {v : T} {e n' : Nat},rd f s a n q m=some (.ok v e n')→m.wf q→v.wf q∧n'+m.nd=n+v.nd∧n'≤16384
 | 0,s,a,n,q,m,v,e,n',h,_=>by simp [rd] at h
 | f+1,s,a,n,q,m,v,e,n',h,hm=>by
  simp only [rd] at h
  split at h
  ·rename_i hval
   have hm0 : m.nd=0:=by cases m<;>first | rfl | cases hval
   rw [hm0]
   split at h
   ·cases h
   ·rename_i hL
    have b:=tu hL
    split at h
    ·cases h
    ·rename_i sk si st kd hB
     split at h
     ·cases h
     ·rename_i hq
      split at h
      ·cases h
      ·rename_i hn
       split at h
       ·rename_i hk
        cases h
        simp only [T.wf,T.nd]
        exact ⟨⟨by omega,Q8 hB b hk⟩,trivial,by omega⟩
       ·obtain ⟨w1,w2,w3⟩:=Jr (q:=q) kd (by omega)
        split at h
        ·cases h
        ·split at h
         ·cases h
          obtain ⟨g1,g2⟩:=Md.Qo w1 w3
          rw [w2] at g2
          exact ⟨g1,by omega,by omega⟩
         ·obtain ⟨g1,g2,g3⟩:=wP f h w1
          exact ⟨g1,by omega,g3⟩
  ·split at h
   ·cases h
   ·cases h
   ·rename_i h1
    obtain ⟨g1,g2,g3,g4⟩:=SH (fun a n q v e n' h=>by have:=wP f h trivial;simp only [Md.nd] at this;exact ⟨this.1,by omega,this.2.2⟩) h1 hm
    split at h
    ·cases h
    ·split at h
     ·obtain ⟨k1,k2,k3⟩:=wP f h g1
      exact ⟨k1,by omega,k3⟩
     ·split at h
      ·cases h
       obtain ⟨k1,k2⟩:=Md.Qo g1 g4
       exact ⟨k1,by omega,g3⟩
      ·cases h
end Go.V
namespace Go.V
mutual
theorem MF : ∀ v : T,1≤v.nd
 | .sc _ _ _=>by simp [T.nd]
 | .vec _=>by simp [T.nd]
 | .map _=>by simp [T.nd]
 | .set _=>by simp [T.nd]
end
theorem QM {f : Nat} {s : Bs} {v : T} {n : Nat} (h : Ey f s=some (.ok v n)) : v.wf 1∧v.nd=n∧n≤16384∧v.enc.length+1≤30*s.length∧v.key.length≤10*s.length:=by
 unfold Ey at h
 split at h
 ·cases h
 ·split at h
  ·cases h
  ·cases h
  ·rename_i w e n' hR
   obtain ⟨g1,g2,g3⟩:=wP f hR trivial
   have h1:=vM f s 0 0 1 .val w e n' hR
   have h2:=sH f hR
   have h3:=rd_key f s 0 0 1 .val w e n' hR
   simp only [Md.isVal,if_true,Md.nd] at h1 g2 h3
   split at h
   ·cases h
   ·split at h
    ·simp only [Option.some.injEq,Pr.ok.injEq] at h
     obtain ⟨rfl,rfl⟩:=h
     exact ⟨g1,by omega,g3,by omega,by omega⟩
    ·cases h
end Go.V
