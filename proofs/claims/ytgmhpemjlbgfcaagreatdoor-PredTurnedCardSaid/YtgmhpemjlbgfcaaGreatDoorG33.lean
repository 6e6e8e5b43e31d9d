/- Texts L11 L12 L13. -/
import Derived.Test.YtgmhpemjlbgfcaaGreatDoorG32
set_option linter.unusedVariables false
set_option linter.unusedSimpArgs false
namespace Go.V
def Stop (r : Bs) : Prop:=∀ c,r.head?=some c→ED c=false∧c.toNat≠61
theorem Stop.nil : Stop []:=fun c h=>by cases h
theorem Stop.cons {c : UInt8} {r : Bs} (h1 : ED c=false) (h2 : c.toNat≠61) : Stop (c::r):=fun d h=>by cases h;exact ⟨h1,h2⟩
end Go.V
namespace Go.V
def Wy (k i : Int) (t : Bs) : Prop:=(k=0∧i=0∧t=[])∨(k=1∧(i=0∨i=1)∧t=[])∨(k=2∧t=[]∧-9223372036854775808≤i∧i≤9223372036854775807)∨(k=3∧i=0)
mutual
def T.wf : Nat→T→Prop
 | q,.sc k i t=>q≤64∧Wy k i t
 | q,.vec l=>q≤64∧T.wfs (q+1) l
 | q,.map l=>q≤64∧iJ l∧T.Ac (q+1) l
 | q,.set l=>q≤64∧iJ (l.map fun x=>(x.key,x))∧T.wfs (q+1) l
def T.wfs : Nat→List T→Prop
 | _,[]=>True
 | q,x::l=>x.wf q∧T.wfs q l
def T.Ac : Nat→List (Bs × T)→Prop
 | _,[]=>True
 | q,p::l=>p.2.wf q∧T.Ac q l
end
mutual
def T.nd : T→Nat
 | .sc _ _ _=>1
 | .vec l=>1+T.oQ l
 | .map l=>1+T.mP l
 | .set l=>1+T.oQ l
def T.oQ : List T→Nat
 | []=>0
 | x::l=>x.nd+T.oQ l
def T.mP : List (Bs × T)→Nat
 | []=>0
 | p::l=>p.2.nd+T.mP l
end
theorem Fh {q : Nat} {k : Bs} {v : T} (hv : v.wf q) : ∀ {l : List (Bs × T)},T.Ac q l→T.Ac q (cO k v l)
 | [],_=>by simp [cO,T.Ac,hv]
 | (k',v')::l,h=>by
  simp only [T.Ac] at h
  unfold cO
  split
  ·simp only [T.Ac];exact ⟨hv,h⟩
  ·split
   ·simp only [T.Ac];exact ⟨hv,h.2⟩
   ·simp only [T.Ac];exact ⟨h.1,Fh hv h.2⟩
theorem D8 {k : Bs} {v : T} : ∀ {l : List (Bs × T)},(∀ p ∈ l,p.1≠k)→T.mP (cO k v l)=T.mP l+v.nd
 | [],_=>by simp [cO,T.mP]
 | (k',v')::l,h=>by
  unfold cO
  split
  ·simp only [T.mP];omega
  ·split
   ·rename_i he;exact absurd he.symm (h (k',v') (by simp))
   ·simp only [T.mP];rw [D8 fun p hp=>h p (by simp [hp])];omega
theorem Jo {q : Nat} : ∀ {l : List (Bs × T)},T.Ac q l→T.wfs q (l.map (·.2))
 | [],_=>trivial
 | p::l,h=>by simp only [T.Ac] at h;simp only [List.map_cons,T.wfs];exact ⟨h.1,Jo h.2⟩
theorem BM : ∀ l : List (Bs × T),T.oQ (l.map (·.2))=T.mP l
 | []=>rfl
 | p::l=>by simp only [List.map_cons,T.oQ,T.mP];rw [BM l]
theorem keyed : ∀ {l : List (Bs × T)},(∀ p ∈ l,p.1=p.2.key)→(l.map (·.2)).map (fun x=>(x.key,x))=l
 | [],_=>rfl
 | p::l,h=>by
  simp only [List.map_cons]
  rw [keyed fun p hp=>h p (by simp [hp]),← h p (by simp)]
def Md.wf (q : Nat) : Md→Prop
 | .val=>True
 | .vec l=>q≤64∧T.wfs (q+1) l
 | .map l=>q≤64∧iJ l∧T.Ac (q+1) l
 | .set l=>q≤64∧iJ l∧(∀ p ∈ l,p.1=p.2.key)∧T.Ac (q+1) l
def Md.nd : Md→Nat
 | .val=>0
 | .vec l=>1+T.oQ l
 | .map l=>1+T.mP l
 | .set l=>1+T.mP l
end Go.V
namespace Go.V
mutual
theorem IQ : ∀ v : T,1≤v.nd
 | .sc _ _ _=>by simp [T.nd]
 | .vec _=>by simp [T.nd]
 | .map _=>by simp [T.nd]
 | .set _=>by simp [T.nd]
end
end Go.V
