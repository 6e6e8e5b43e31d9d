/- Texts L15 L16 F80 F81 F82. -/
import Derived.Test.YthhjefemijhamaaGreatDoorG44
set_option linter.unusedVariables false
set_option linter.unusedSimpArgs false
namespace Go.V
structure Tk where
 k : Nat
 a : Nat
 e : Nat
 i : Int
 t : Bs
def Tk.of (y : Tk) : Nat × Int × Bs:=(y.k,y.i,y.t)
def lexAll : Nat→Bs→Int→Option (List Tk × Nat × Nat)
 | 0,_,_=>none
 | f+1,s,a=>match lexNext s a with
  | .err c p=>some ([],c,p)
  | .tok k x e i t=>if k=0 then some ([],0,0) else match lexAll f s e with
   | none=>none
   | some (l,c,p)=>some (⟨k,x,e,i,t⟩::l,c,p)
theorem lexAll_tot : ∀ (f : Nat) (s : Bs) (a : Int),((s.length : Int)+1-a).toNat < f→∃ r,lexAll f s a=some r
 | 0,s,a,h=>by omega
 | f+1,s,a,h=>by
  rw [lexAll]
  cases hL : lexNext s a with
  | err c p=>exact ⟨_,rfl⟩
  | tok k x e i t =>
   simp only
   split
   ·exact ⟨_,rfl⟩
   ·rename_i hk
    obtain ⟨_,h2,h3,h4,h5,_⟩:=lexNext_tok hL
    have:=h5 hk
    obtain ⟨⟨l,c,p⟩,hr⟩:=lexAll_tot f s e (by omega)
    rw [hr]
    exact ⟨_,rfl⟩
inductive TL (s : Bs) : Int→List (Nat × Int × Bs)→Prop
 | nil {a : Int} {x e : Nat} {i : Int} {t : Bs} : lexNext s a=.tok 0 x e i t→TL s a []
 | cons {a : Int} {k x e : Nat} {i : Int} {t : Bs} {l : List (Nat × Int × Bs)} : lexNext s a=.tok k x e i t→k≠0→TL s e l→TL s a ((k,i,t)::l)
theorem lexAll_TL : ∀ (f : Nat) {s : Bs} {a : Int} {l : List Tk} {p : Nat},lexAll f s a=some (l,0,p)→TL s a (l.map Tk.of)
 | 0,s,a,l,p,h=>by simp [lexAll] at h
 | f+1,s,a,l,p,h=>by
  rw [lexAll] at h
  cases hL : lexNext s a with
  | err c q =>
   rw [hL] at h
   simp only [Option.some.injEq,Prod.mk.injEq] at h
   exact absurd h.2.1 (lexNext_err hL)
  | tok k x e i t =>
   rw [hL] at h
   simp only at h
   split at h
   ·rename_i hk
    simp only [Option.some.injEq,Prod.mk.injEq] at h
    obtain ⟨rfl,_⟩:=h
    subst hk
    exact .nil hL
   ·rename_i hk
    cases hr : lexAll f s e with
    | none=>rw [hr] at h;cases h
    | some r =>
     obtain ⟨l',c,q⟩:=r
     rw [hr] at h
     simp only [Option.some.injEq,Prod.mk.injEq] at h
     obtain ⟨rfl,rfl,rfl⟩:=h
     exact .cons hL hk (lexAll_TL f hr)
theorem TL.peek_nil {s : Bs} {a : Int} (h : TL s a []) : peekP s a=.err 10 s.length∧∃ x e i t,lexNext s a=.tok 0 x e i t:=by
 cases h with
 | nil h=>exact ⟨by unfold peekP;rw [h];rfl,_,_,_,_,h⟩
theorem TL.peek_cons {s : Bs} {a : Int} {k : Nat} {i : Int} {t : Bs} {l : List (Nat × Int × Bs)} (h : TL s a ((k,i,t)::l)) : k≠0∧∃ x e,peekP s a=.tok k x e i t∧lexNext s a=.tok k x e i t∧TL s e l:=by
 cases h with
 | cons h hk hl =>
  refine ⟨hk,_,_, ?_,h,hl⟩
  unfold peekP
  rw [h]
  cases k with
  | zero=>exact absurd rfl hk
  | succ k=>rfl
def RsSim (s s' : Bs) : Option Rs→Option Rs→Prop
 | none,none=>True
 | some (.er c _),some (.er c' _)=>c=c'
 | some (.ok v e n),some (.ok v' e' n')=>v=v'∧n=n'∧∃ l,TL s e l∧TL s' e' l
 | _,_=>False
def OnSim (s s' : Bs) : Option On→Option On→Prop
 | none,none=>True
 | some (.er c _),some (.er c' _)=>c=c'
 | some (.ok v e n),some (.ok v' e' n')=>v=v'∧n=n'∧∃ l,TL s e l∧TL s' e' l
 | _,_=>False
theorem one_sim {rv rv' : Int→Nat→Nat→Option Rs} {s s' : Bs} (hv : ∀ (a a' : Int) (n q : Nat) (l : List (Nat × Int × Bs)),TL s a l→TL s' a' l→RsSim s s' (rv a n q) (rv' a' n q)) {a a' : Int} {n q : Nat} {m : Md} {l : List (Nat × Int × Bs)} (h : TL s a l) (h' : TL s' a' l) : OnSim s s' (one rv s a n q m) (one rv' s' a' n q m):=by
 cases m with
 | val=>trivial
 | vec acc =>
  simp only [one]
  have:=hv a a' n (q+1) l h h'
  generalize rv a n (q+1)=r at this
  generalize rv' a' n (q+1)=r' at this
  rcases r with _ | ⟨v,e,n1⟩ | ⟨c,p⟩<;>rcases r' with _ | ⟨v',e',n1'⟩ | ⟨c',p'⟩<;>simp only [RsSim] at this<;>simp only [OnSim]
  ·obtain ⟨rfl,rfl,this⟩:=this
   exact ⟨rfl,rfl,this⟩
  ·exact this
 | map acc =>
  simp only [one]
  cases l with
  | nil=>rw [h.peek_nil.1,h'.peek_nil.1];rfl
  | cons y l =>
   obtain ⟨k,i,t⟩:=y
   obtain ⟨hk,x,e,h1,_,h2⟩:=h.peek_cons
   obtain ⟨_,x',e',h1',_,h2'⟩:=h'.peek_cons
   rw [h1,h1']
   simp only
   split
   ·rfl
   ·split
    ·rfl
    ·cases l with
     | nil=>rw [h2.peek_nil.1,h2'.peek_nil.1];rfl
     | cons z l =>
      obtain ⟨k2,i2,t2⟩:=z
      obtain ⟨_,x2,e2,g1,_,g2⟩:=h2.peek_cons
      obtain ⟨_,x2',e2',g1',_,g2'⟩:=h2'.peek_cons
      rw [g1,g1']
      simp only
      split
      ·have:=hv e2 e2' n (q+1) l g2 g2'
       generalize rv e2 n (q+1)=r at this
       generalize rv' e2' n (q+1)=r' at this
       rcases r with _ | ⟨v,e,n1⟩ | ⟨c,p⟩<;>rcases r' with _ | ⟨v',e',n1'⟩ | ⟨c',p'⟩<;>simp only [RsSim] at this<;>simp only [OnSim]
       ·obtain ⟨rfl,rfl,this⟩:=this
        exact ⟨rfl,rfl,this⟩
       ·exact this
      ·rfl
 | set acc =>
  simp only [one]
  have hr:=hv a a' n (q+1) l h h'
  cases l with
  | nil=>rw [h.peek_nil.1,h'.peek_nil.1];rfl
  | cons y l =>
   obtain ⟨k,i,t⟩:=y
   obtain ⟨hk,x,e,h1,_,h2⟩:=h.peek_cons
   obtain ⟨_,x',e',h1',_,h2'⟩:=h'.peek_cons
   rw [h1,h1']
   simp only
   generalize rv a n (q+1)=r at hr
   generalize rv' a' n (q+1)=r' at hr
   rcases r with _ | ⟨v,e,n1⟩ | ⟨c,p⟩<;>rcases r' with _ | ⟨v',e',n1'⟩ | ⟨c',p'⟩<;>simp only [RsSim] at hr
   ·trivial
   ·obtain ⟨rfl,rfl,this⟩:=hr
    simp only
    split
    ·rfl
    ·exact ⟨rfl,rfl,this⟩
   ·exact hr
theorem rd_sim : ∀ (f : Nat) (s s' : Bs) (a a' : Int) (n q : Nat) (m : Md) (l : List (Nat × Int × Bs)),TL s a l→TL s' a' l→RsSim s s' (rd f s a n q m) (rd f s' a' n q m)
 | 0,s,s',a,a',n,q,m,l,h,h'=>by simp [rd,RsSim]
 | f+1,s,s',a,a',n,q,m,l,h,h'=>by
  rw [rd,rd]
  split
  ·cases l with
   | nil=>rw [h.peek_nil.1,h'.peek_nil.1];rfl
   | cons y l =>
    obtain ⟨k,i,t⟩:=y
    obtain ⟨hk,x,e,h1,_,h2⟩:=h.peek_cons
    obtain ⟨_,x',e',h1',_,h2'⟩:=h'.peek_cons
    rw [h1,h1']
    simp only
    cases beginP k i t with
    | none=>rfl
    | some b =>
     obtain ⟨sk,si,st,kd⟩:=b
     simp only
     split
     ·rfl
     ·split
      ·rfl
      ·split
       ·exact ⟨rfl,rfl,l,h2,h2'⟩
       ·cases l with
        | nil=>rw [h2.peek_nil.1,h2'.peek_nil.1];rfl
        | cons z l =>
         have hrec:=rd_sim f s s' e e' (n+1) q (openM kd) _ h2 h2'
         obtain ⟨k2,i2,t2⟩:=z
         obtain ⟨_,x2,e2,g1,_,g2⟩:=h2.peek_cons
         obtain ⟨_,x2',e2',g1',_,g2'⟩:=h2'.peek_cons
         rw [g1,g1']
         simp only
         split
         ·exact ⟨rfl,rfl,l,g2,g2'⟩
         ·exact hrec
  ·have ho:=one_sim (rv:=fun a n q=>rd f s a n q .val) (rv':=fun a n q=>rd f s' a n q .val) (fun a a' n q l h h'=>rd_sim f s s' a a' n q .val l h h') (n:=n) (q:=q) (m:=m) h h'
   generalize one (fun a n q=>rd f s a n q .val) s a n q m=r at ho
   generalize one (fun a n q=>rd f s' a n q .val) s' a' n q m=r' at ho
   rcases r with _ | ⟨v,e,n1⟩ | ⟨c,p⟩<;>rcases r' with _ | ⟨v',e',n1'⟩ | ⟨c',p'⟩<;>simp only [OnSim] at ho
   ·trivial
   ·obtain ⟨rfl,rfl,l,h2,h2'⟩:=ho
    simp only
    cases l with
    | nil=>rw [h2.peek_nil.1,h2'.peek_nil.1];rfl
    | cons z l =>
     obtain ⟨k2,i2,t2⟩:=z
     obtain ⟨_,x2,e2,g1,_,g2⟩:=h2.peek_cons
     obtain ⟨_,x2',e2',g1',_,g2'⟩:=h2'.peek_cons
     rw [g1,g1']
     simp only
     split
     ·exact rd_sim f s s' e2 e2' n1 q v l g2 g2'
     ·split
      ·exact ⟨rfl,rfl,l,g2,g2'⟩
      ·rfl
   ·exact ho
def PrSim : Pr→Pr→Prop
 | .ok v n,.ok v' n'=>v=v'∧n=n'
 | .er c _,.er c' _=>c=c'
 | _,_=>False
theorem rdP_sim {f : Nat} {s s' : Bs} {l : List (Nat × Int × Bs)} {R : Pr} (hs : s.length≤1048576) (hs' : s'.length≤1048576) (h : TL s 0 l) (h' : TL s' 0 l) (hR : rdP f s=some R) : ∃ R',rdP f s'=some R'∧PrSim R R':=by
 have hsim:=rd_sim f s s' 0 0 0 1 .val l h h'
 unfold rdP at hR ⊢
 rw [if_neg (by omega)] at hR ⊢
 generalize rd f s 0 0 1 .val=r at hsim hR
 generalize rd f s' 0 0 1 .val=r' at hsim
 rcases r with _ | ⟨v,e,n1⟩ | ⟨c,p⟩<;>rcases r' with _ | ⟨v',e',n1'⟩ | ⟨c',p'⟩<;>simp only [RsSim] at hsim
 ·cases hR
 ·obtain ⟨rfl,rfl,l,h2,h2'⟩:=hsim
  simp only at hR ⊢
  cases l with
  | nil =>
   obtain ⟨x,e1,i,t,g⟩:=h2.peek_nil.2
   obtain ⟨x',e1',i',t',g'⟩:=h2'.peek_nil.2
   rw [g] at hR
   rw [g']
   cases hR
   exact ⟨_,rfl,rfl,rfl⟩
  | cons z l =>
   obtain ⟨k2,i2,t2⟩:=z
   obtain ⟨hk,x2,e2,_,g1,g2⟩:=h2.peek_cons
   obtain ⟨_,x2',e2',_,g1',g2'⟩:=h2'.peek_cons
   rw [g1] at hR
   rw [g1']
   simp only at hR ⊢
   rw [if_neg hk] at hR ⊢
   cases hR
   exact ⟨_,rfl,rfl⟩
 ·cases hR
  exact ⟨_,rfl,hsim⟩
end Go.V
namespace Go.V
def tkS (y : Tk) : Bs:=if y.k=1∨y.k=2 then y.t else if y.k=3 then digs y.i else if y.k=4 then quoteS y.t else []
def prR : List Tk→Bs
 | []=>[]
 | y::l=>32::(tkS y++prR l)
def prT : List Tk→Bs
 | []=>[]
 | y::l=>tkS y++prR l
def Tk.ok (y : Tk) : Prop:=(y.k=1∧y.i=0∧y.t ∈ signTexts)∨(y.k=2∧y.i=0∧∃ c w,y.t=c::w∧letB c=true∧w.all wordB=true)∨(y.k=3∧y.t=[]∧-9223372036854775808≤y.i∧y.i≤9223372036854775807)∨(y.k=4∧y.i=0)
theorem lexC_ok {s : Bs} {p : Nat} {c : UInt8} {k x e : Nat} {i : Int} {t : Bs} (hc : s[p]?=some c) (h : lexC s p c=.tok k x e i t) : (Tk.mk k x e i t).ok:=by
 unfold lexC at h
 unfold Tk.ok
 split at h
 ·split at h
  ·cases h;exact .inr (.inr (.inr ⟨rfl,rfl⟩))
  ·cases h
 ·split at h
  ·rename_i hl
   simp only [Lx.tok.injEq] at h
   obtain ⟨rfl,_,_,rfl,rfl⟩:=h
   have hlt:=(List.getElem?_eq_some_iff.1 hc).1
   have hd : s.drop p=c::s.drop (p+1):=by
    rw [List.drop_eq_getElem_cons hlt]
    congr 1
    exact (List.getElem?_eq_some_iff.1 hc).2
   refine .inr (.inl ⟨rfl,rfl,c,(s.drop (p+1)).takeWhile wordB, ?_,hl,List.all_takeWhile⟩)
   simp only
   rw [hd,show runEnd wordB s (p+1)-p=((s.drop (p+1)).takeWhile wordB).length+1 by unfold runEnd;omega,List.take_succ_cons]
   congr 1
   conv=>lhs;arg 2;rw [← List.takeWhile_append_dropWhile (p:=wordB) (l:=s.drop (p+1))]
   rw [List.take_left' rfl]
  ·split at h
   ·split at h
    ·simp only [Lx.tok.injEq] at h
     obtain ⟨rfl,_,_,rfl,rfl⟩:=h
     exact .inr (.inr (.inl ⟨rfl,rfl,parseNum_int _⟩))
    ·cases h
   ·split at h
    ·rename_i y hy
     simp only [Lx.tok.injEq] at h
     obtain ⟨rfl,_,_,rfl,rfl⟩:=h
     exact .inl ⟨rfl,rfl,List.mem_of_find?_eq_some hy⟩
    ·cases h
theorem lexNext_ok {s : Bs} {a : Int} {k x e : Nat} {i : Int} {t : Bs} (h : lexNext s a=.tok k x e i t) (hk : k≠0) : (Tk.mk k x e i t).ok∧(tkS ⟨k,x,e,i,t⟩).length≤20*(e-x):=by
 obtain ⟨h1,h2,h3,h4,h5,h6,h7⟩:=lexNext_tok h
 have h8:=h5 hk
 have hok : (Tk.mk k x e i t).ok:=by
  unfold lexNext at h
  split at h
  ·cases h
  ·unfold lexAt at h
   split at h
   ·cases h;exact absurd rfl hk
   ·rename_i hc
    exact lexC_ok hc h
 refine ⟨hok, ?_⟩
 unfold tkS
 simp only
 split
 ·omega
 ·split
  ·have:=digs_len i (lexNext_int h);omega
  ·split
   ·have:=quoteS_len t;have:=h6 ‹_›;omega
   ·simp
theorem lexAll_ok : ∀ (f : Nat) {s : Bs} {a : Int} {l : List Tk} {c p : Nat},lexAll f s a=some (l,c,p)→(∀ y ∈ l,y.ok∧y.t.length≤s.length∧y.e≤s.length∧y.a≤y.e∧y.k≤4∧-9223372036854775808≤y.i∧y.i≤9223372036854775807)∧((prR l).length : Int)≤21*(s.length-a).toNat∧l.length≤(s.length-a).toNat
 | 0,s,a,l,c,p,h=>by simp [lexAll] at h
 | f+1,s,a,l,c,p,h=>by
  rw [lexAll] at h
  cases hL : lexNext s a with
  | err c q =>
   rw [hL] at h
   cases h
   exact ⟨by simp,by simp only [prR,List.length_nil];omega,by simp⟩
  | tok k x e i t =>
   rw [hL] at h
   simp only at h
   split at h
   ·cases h
    exact ⟨by simp,by simp only [prR,List.length_nil];omega,by simp⟩
   ·rename_i hk
    obtain ⟨h1,h2,h3,h4,h5,h6,h7⟩:=lexNext_tok hL
    have h8:=h5 hk
    obtain ⟨g1,g2⟩:=lexNext_ok hL hk
    have g3:=lexNext_int hL
    cases hr : lexAll f s e with
    | none=>rw [hr] at h;cases h
    | some r =>
     obtain ⟨l',c',q⟩:=r
     rw [hr] at h
     cases h
     obtain ⟨i1,i2,i3⟩:=lexAll_ok f hr
     refine ⟨fun y hy=>?_, ?_, ?_⟩
     ·rcases List.mem_cons.1 hy with rfl | hy
      ·refine ⟨g1,by simp only;omega,h4,h3, ?_,g3⟩
       rcases g1 with ⟨e,_⟩ | ⟨e,_⟩ | ⟨e,_⟩ | ⟨e,_⟩<;>simp only at e ⊢<;>omega
      ·exact i1 y hy
     ·simp only [prR,List.length_cons,List.length_append]
      omega
     ·simp only [List.length_cons]
      omega
theorem lexNext_blank {s : Bs} {p : Nat} {c : UInt8} {r : Bs} (h : s.drop p=c::r) (hb : blankB c=true) : lexNext s p=lexNext s (p+1 : Nat):=by
 obtain ⟨h1,h2,h3,h4⟩:=drop_get h
 unfold lexNext
 rw [if_neg (by omega),if_neg (by omega),Int.toNat_natCast,Int.toNat_natCast,runEnd_step h2]
 rw [(List.getElem?_eq_some_iff.1 h1).2]
 exact hb
theorem sign_find (r : Bs) (hr : r=[]∨∃ r',r=32::r') : ∀ t ∈ signTexts,(signTexts.find? fun x=>x.isPrefixOf (t++r))=some t:=by
 intro t ht
 rcases hr with rfl | ⟨r',rfl⟩
 ·rw [List.append_nil]
  revert t
  decide
 ·simp only [signTexts,List.mem_cons,List.not_mem_nil,or_false] at ht
  repeat' (rcases ht with rfl | ht)
  all_goals first
   | (simp [signTexts,List.isPrefixOf];done)
   | (subst ht;simp [signTexts,List.isPrefixOf];done)
theorem sign_head : ∀ t ∈ signTexts,∃ c w,t=c::w∧blankB c=false∧c.toNat≠34∧letB c=false∧¬ (c.toNat=45∨digB c=true):=by
 intro t ht
 simp only [signTexts,List.mem_cons,List.not_mem_nil,or_false] at ht
 repeat' (rcases ht with rfl | ht)
 all_goals first
  | exact ⟨_,_,rfl,by decide,by decide,by decide,by decide⟩
  | (subst ht;exact ⟨_,_,rfl,by decide,by decide,by decide,by decide⟩)
theorem stop_32 {r : Bs} (hr : r=[]∨∃ r',r=32::r') : Stop r:=by
 rcases hr with rfl | ⟨r',rfl⟩
 ·exact .nil
 ·exact .cons (by decide) (by decide)
theorem lex_print {s : Bs} {p : Nat} {y : Tk} {r : Bs} (hy : y.ok) (h : s.drop p=tkS y++r) (hr : r=[]∨∃ r',r=32::r') : lexNext s p=.tok y.k p (p+(tkS y).length) y.i y.t∧y.k≠0:=by
 obtain ⟨k,a,e,i,t⟩:=y
 rcases hy with ⟨e1,e2,e3⟩ | ⟨e1,e2,c,w,e3,e4,e5⟩ | ⟨e1,e2,e3⟩ | ⟨e1,e2⟩
 ·simp only at e1 e2 e3;subst e1 e2
  obtain ⟨c,w,e4,e5,e6,e7,e8⟩:=sign_head t e3
  have hf:=sign_find r hr t e3
  have ht : tkS ⟨1,a,e,0,t⟩=t:=rfl
  rw [ht] at h ⊢
  rw [e4,List.cons_append] at h hf
  exact ⟨(peekP_tok (tok_sign t h e5 e6 e7 e8 (by rw [hf,e4]))).2,by simp⟩
 ·simp only at e1 e2 e3;subst e1 e2 e3
  have ht : tkS ⟨2,a,e,0,c::w⟩=c::w:=rfl
  rw [ht] at h ⊢
  have hb : blankB c=false∧c.toNat≠34:=by
   unfold letB isLetter at e4
   unfold blankB blank
   simp at e4 ⊢
   omega
  exact ⟨(peekP_tok (tok_word h e4 hb.1 hb.2 e5 (stop_32 hr))).2,by simp⟩
 ·simp only at e1 e2 e3;subst e1 e2
  have ht : tkS ⟨3,a,e,i,[]⟩=digs i:=rfl
  rw [ht] at h ⊢
  exact ⟨(peekP_tok (tok_num i e3 h (stop_32 hr))).2,by simp⟩
 ·simp only at e1 e2;subst e1 e2
  have ht : tkS ⟨4,a,e,0,t⟩=quoteS t:=rfl
  rw [ht] at h ⊢
  exact ⟨(peekP_tok (tok_quote t h)).2,by simp⟩
theorem prR_head (l : List Tk) : prR l=[]∨∃ r',prR l=32::r':=by
 cases l with
 | nil=>exact .inl rfl
 | cons y l=>exact .inr ⟨_,rfl⟩
theorem TL_prR {s : Bs} : ∀ (l : List Tk) (p : Nat),(∀ y ∈ l,y.ok)→p≤s.length→s.drop p=prR l→TL s p (l.map Tk.of)
 | [],p,_,hp,h=>by
  have : p=s.length:=by
   have:=congrArg List.length h
   simp [prR] at this;omega
  subst this
  exact .nil (lexNext_end s)
 | y::l,p,hl,hp,h=>by
  obtain ⟨g1,g2,g3,g4⟩:=drop_get (c:=32) (rest:=tkS y++prR l) h
  obtain ⟨k1,k2⟩:=lex_print (hl y (by simp)) g3 (prR_head l)
  rw [← lexNext_blank (c:=32) h (by decide)] at k1
  have hlen:=congrArg List.length g3
  rw [List.length_drop,List.length_append] at hlen
  exact .cons k1 k2 (TL_prR l _ (fun z hz=>hl z (by simp [hz])) (by omega) (drop_pre g3))
theorem TL_prT (l : List Tk) (hl : ∀ y ∈ l,y.ok) : TL (prT l) 0 (l.map Tk.of):=by
 cases l with
 | nil=>exact .nil (lexNext_end [])
 | cons y l =>
  obtain ⟨k1,k2⟩:=lex_print (s:=prT (y::l)) (p:=0) (hl y (by simp)) rfl (prR_head l)
  refine .cons k1 k2 (TL_prR l _ (fun z hz=>hl z (by simp [hz])) ?_ (drop_pre (p:=0) (x:=tkS y) rfl))
  simp [prT]
theorem prT_len (l : List Tk) : (prT l).length≤(prR l).length:=by
 cases l with
 | nil=>simp [prT]
 | cons y l=>simp [prT,prR]
theorem prT_snoc (l : List Tk) (y : Tk) : prT (l++[y])=prT l++((if 0 < l.length then [32] else [])++tkS y):=by
 have key : ∀ m : List Tk,prR (m++[y])=prR m++32::tkS y:=by
  intro m
  induction m with
  | nil=>simp [prR]
  | cons z m ih=>simp [prR,ih]
 cases l with
 | nil=>simp [prT,prR]
 | cons z l=>simp [prT,key]
end Go.V
namespace Go.V
open Go.Proofs
set_option maxRecDepth 100000
def Tk.cells (y : Tk) : List VV:=[.int .i64 y.k,.int .i64 y.a,.int .i64 y.e,.int .i64 y.i,.str y.t]
theorem Tk.blks (l : List Tk) : Blk 5 (l.map Tk.cells):=by
 refine ⟨fun x hx=>?_,fun x hx=>?_,fun x hx=>?_⟩<;>obtain ⟨p,hp,rfl⟩:=List.mem_map.1 hx
 ·rfl
 ·rfl
 ·rfl
def tkSl (l : List Tk) : VV:=if l=[] then .nils else .sl l.length (l.map Tk.cells).flatten false
theorem tkSl_SlV (l : List Tk) : SlV 5 (tkSl l) (l.map Tk.cells):=by
 unfold tkSl
 split
 ·rename_i h;subst h;exact .nil
 ·exact SlV.of (Tk.blks l) (by simp) rfl
def allV : List Tk × Nat × Nat→VV
 | (l,c,p)=>if c=0 then .tup [tkSl l,.nili] else .tup [.nils,faultV c p]
theorem allV_pure (r : List Tk × Nat × Nat) : (allV r).isPure=true:=by
 obtain ⟨l,c,p⟩:=r
 by_cases hc : c=0
 ·simp only [allV,if_pos hc,VV.isPure,VV.arePure,(tkSl_SlV l).pure];rfl
 ·simp only [allV,if_neg hc,VV.isPure,VV.arePure,faultV_pure];rfl
theorem fz_tup2 {τ : Store} {jd n k : Nat} {xs : List (List VV)} (h : τ[jd]?=some (.frz xs.flatten)) (hB : Blk k xs) (hn : n=xs.length) : fz 2 τ (.tup [.msl jd 0 n k,.nili])=some (.tup [.sl xs.length xs.flatten false,.nili]):=by
 have e3:=fz_msl (σ:=τ) h hB hn
 have e4 : fz 1 τ .nili=some .nili:=rfl
 rw [fz]
 simp only [VV.isPure,VV.arePure,List.mapM_cons,List.mapM_nil,e3,e4]
 rfl
theorem srcT {σ : Store} {y : List VV} {tg : Bool} (hC : Blk 5 [y]) : srcCells Tryz.prog σ 5 74 (.sl 1 y tg)=some ([y].length,[y].flatten):=by
 have:=(SlV.sl [y] tg hC).src (P:=Tryz.prog) (σ:=σ) k_tsl_74
 simpa using this
theorem p_All (f : Nat) (s : Bs) (r : List Tk × Nat × Nat) (hs : s.length≤100000) (hr : lexAll f s 0=some r) : PV Tryz.prog G0 36 [.str s] (allV r):=by
 refine pv e36 (by simp) rfl (allV_pure r) ?_
 have b1 : decide ((1048576 : Int) < (s.length : Int))=false:=decide_eq_false (by omega)
 simp only [go_sem,seval,c36,b1]
 refine wpV_loop_inv (fun m ρ τ=>∃ (done : List Tk) (a : Nat) (v : VV) (r' : List Tk × Nat × Nat),lexAll m s a=some r'∧r=(done++r'.1,r'.2)∧a≤s.length∧done.length≤a∧ρ.get 0=.str s∧ρ.get 4=v∧ρ.get 5=.int .i64 a∧((done=[]∧v=.nils)∨done≠[]∧∃ jd,v=.msl jd 0 done.length 5∧τ[jd]?=some (.own (done.map Tk.cells).flatten))) (n:=f) ?_ ⟨[],0,.nils,r,hr,by simp,by omega,by simp,rfl,rfl,rfl,.inl ⟨rfl,rfl⟩⟩
 rintro m ρ τ ⟨done,a,v,r',hr',hrr,ha,hda,q0,q4,q5,hv⟩
 cases m with
 | zero=>cases hr'
 | succ m =>
  have hN:=p_Next s a (by omega) (by omega)
  rw [lexAll] at hr'
  cases hL : lexNext s a with
  | err c p =>
   rw [hL] at hr' hN
   cases hr'
   have hc:=lexNext_err hL
   obtain ⟨w,hw⟩:=faultV_ne (e:=c) p (by omega)
   simp only [lxV] at hN
   rw [hw] at hN
   have hR : allV r=.tup [.nils,.ifc 135 w]:=by rw [hrr,← hw];simp only [allV,if_neg hc]
   simp only [go_sem,seval,q0,q5]
   (first | refine callO_pure (hN) ?_ | refine dpureO_of (hN) ?_ | refine dpureO_save (hN) ?_ | refine dcallO_pure (hN) (by simp only [go_sem,seval,q0,q4,q5,tok0,tokV,SS]) ?_ | refine dcallO_pure (hN) ?_ ?_)<;>simp only [go_sem,seval,q0,q4,q5,tok0,tokV,SS]
   exact fin (allV_pure r) hR.symm
  | tok k x e i t =>
   rw [hL] at hr' hN
   simp only [lxV] at hN
   simp only at hr'
   obtain ⟨g1,g2,g3,g4,g5,_⟩:=lexNext_tok hL
   have hB:=Tk.blks done
   by_cases hk : k=0
   ·subst hk
    simp only [if_true] at hr'
    cases hr'
    simp only [go_sem,seval,q0,q5]
    (first | refine callO_pure (hN) ?_ | refine dpureO_of (hN) ?_ | refine dpureO_save (hN) ?_ | refine dcallO_pure (hN) (by simp only [go_sem,seval,q0,q4,q5,tokV,SS]) ?_ | refine dcallO_pure (hN) ?_ ?_)<;>simp only [go_sem,seval,q0,q4,q5,tokV,SS]
    rcases hv with ⟨rfl,rfl⟩ | ⟨hd,jd,rfl,hjd⟩
    ·exact fin (allV_pure r) (by rw [hrr];rfl)
    ·refine ⟨_,2,rfl, ?_⟩
     rw [fz_tup2 (xs:=done.map Tk.cells) (by rw [List.getElem?_map,List.getElem?_append_left (List.getElem?_eq_some_iff.1 hjd).1,hjd];rfl) hB (by simp),hrr]
     simp [allV,tkSl,hd]
   ·rw [if_neg hk] at hr'
    cases hr2 : lexAll m s e with
    | none=>rw [hr2] at hr';cases hr'
    | some r2 =>
     obtain ⟨l2,c2,p2⟩:=r2
     rw [hr2] at hr'
     cases hr'
     have hC : Blk 5 [Tk.cells ⟨k,x,e,i,t⟩]:=Tk.blks [_]
     have b2 : ((k : Int) == 0)=false:=by simp;omega
     have hfin : r=((done++[⟨k,x,e,i,t⟩])++l2,c2,p2):=by rw [hrr];simp
     rcases hv with ⟨rfl,rfl⟩ | ⟨hd,jd,rfl,hjd⟩
     ·simp only [go_sem,seval,q0,q5]
      (first | refine callO_pure (hN) ?_ | refine dpureO_of (hN) ?_ | refine dpureO_save (hN) ?_ | refine dcallO_pure (hN) (by simp only [go_sem,seval,q0,q4,q5,tokV,b2,SS]) ?_ | refine dcallO_pure (hN) ?_ ?_)<;>simp only [go_sem,seval,q0,q4,q5,tokV,b2,SS]
      refine stepO_nils (ys:=[Tk.cells ⟨k,x,e,i,t⟩]) k_tsl_74 k_tsz_93 k_tby_93 k_tzero_93 rfl (by decide) (by decide) hC (by simp) (by simp) (srcT hC) ?_
      simp only [go_sem,seval,q0,SS]
      refine ⟨m,by omega,[⟨k,x,e,i,t⟩],e,_,(l2,c2,p2),hr2,hfin,g4,by have:=g5 hk;simp;omega,rfl,rfl,.inr ⟨by simp,_,rfl, ?_⟩⟩
      rw [st_get1];simp
     ·have hjl:=(List.getElem?_eq_some_iff.1 hjd).1
      have hjd' : ∀ υ,(τ++υ)[jd]?=some (.own (done.map Tk.cells).flatten):=fun υ=>by rw [List.getElem?_append_left hjl];exact hjd
      simp only [go_sem,seval,q0,q5]
      (first | refine callO_pure (hN) ?_ | refine dpureO_of (hN) ?_ | refine dpureO_save (hN) ?_ | refine dcallO_pure (hN) (by simp only [go_sem,seval,q0,q4,q5,tokV,b2,SS]) ?_ | refine dcallO_pure (hN) ?_ ?_)<;>simp only [go_sem,seval,q0,q4,q5,tokV,b2,SS]
      refine stepO_app (xs:=done.map Tk.cells) (ys:=[Tk.cells ⟨k,x,e,i,t⟩]) k_tsl_74 k_tsz_93 k_tby_93 k_tzero_93 rfl (by decide) (by decide) (hjd' _) hB hC (by simp;omega) (by simp) (srcT hC) ?_
      have hτ : (List.set (τ++[Obj.own (Tk.cells ⟨k,x,e,i,t⟩)]) jd Obj.dead++[Obj.own (List.map Tk.cells done++[Tk.cells ⟨k,x,e,i,t⟩]).flatten])[τ.length]?=some (.own (Tk.cells ⟨k,x,e,i,t⟩)):=by
       rw [List.getElem?_append_left (by simp),List.getElem?_set_ne (by omega)];simp
      simp only [Tk.cells] at hτ
      simp only [go_sem,seval,q0,Tk.cells,hτ,SS]
      refine ⟨m,by omega,done++[⟨k,x,e,i,t⟩],e,_,(l2,c2,p2),hr2,hfin,g4,by have:=g5 hk;simp;omega,rfl,rfl,.inr ⟨by simp,τ.length+1, ?_, ?_⟩⟩
      ·simp
      ·rw [List.getElem?_append_right (by simp)];simp [Tk.cells]
end Go.V
namespace Go.V
open Go.Proofs
set_option maxRecDepth 100000
theorem prT_take_len (l : List Tk) (i : Nat) : (prT (l.take i)).length≤(prT l).length:=by
 have key : ∀ (m : List Tk) (j : Nat),(prR (m.take j)).length≤(prR m).length:=by
  intro m
  induction m with
  | nil=>intro j;simp [prR]
  | cons y m ih=>intro j;cases j with
   | zero=>simp [prR]
   | succ j=>have:=ih j;simp [prR];omega
 cases l with
 | nil=>simp
 | cons y l=>cases i with
  | zero=>simp [prT]
  | succ i=>have:=key l i;simp [prT];omega
theorem p_Print (l : List Tk) (hl : l.length≤1000000) (hok : ∀ y ∈ l,y.ok∧y.t.length≤1000000) (hp : (prT l).length≤100000000) : PV Tryz.prog G0 37 [tkSl l] (.str (prT l)):=by
 have hsv:=tkSl_SlV l
 obtain ⟨sv,hsve⟩ : ∃ sv,sv=tkSl l:=⟨_,rfl⟩
 rw [← hsve] at hsv ⊢
 have hsl : ∀ {σ},evLen Tryz.prog 74 sv σ=okV (.int .i64 l.length) σ:=by intro σ;rw [hsv.evLen k_tsl_74];simp
 refine pv e37 (by simp) (by simp only [VV.arePure,hsv.pure];rfl) rfl ?_
 simp only [go_sem,seval,c37,hsl]
 refine wpV_cutB (M:=fun ρ τ=>ρ.get 3=.str (prT l)) ?_ ?_
 ·rintro ρ τ q3
  simp only [go_sem,seval,q3]
  exact fin (by rfl) rfl
 refine wpV_loop_inv (fun m ρ τ=>∃ i : Nat,m=l.length-i∧i≤l.length∧ρ.get 3=.str (prT (l.take i))∧ρ.get 6=sv∧ρ.get 7=.int .i64 l.length∧ρ.get 8=.int .i64 i) (n:=l.length) ?_ ⟨0,rfl,by omega,rfl,rfl,rfl,rfl⟩
 rintro m ρ τ ⟨i,rfl,hi,q3,q6,q7,q8⟩
 simp only [go_sem,seval,q3,q6,q7,q8]
 refine condO_split (fun hc=>?_) (fun hc=>?_)
 rotate_left
 ·have hc' : i=l.length:=by simp at hc;omega
  subst hc'
  simp only [go_sem,seval,q3]
  rw [List.take_length]
 have hc' : i < l.length:=by simpa using hc
 have hB:=Tk.blks l
 obtain ⟨t,hsvt⟩:=hsv.sl_of (by intro e;have:=congrArg List.length e;simp at this;rw [this] at hc';simp at hc')
 rw [List.length_map] at hsvt
 have c1 : (0 : Int)≤(i : Int):=by omega
 have c2 : (i : Int) < (l.length : Int):=by omega
 have c3 : i*5+5≤(l.map Tk.cells).flatten.length:=by rw [hB.flat,List.length_map];omega
 have c4 : ((l.map Tk.cells).flatten.drop (i*5)).take 5=l[i].cells:=by rw [hB.fget (by simpa using hc')];simp
 have c6 : IntKind.i64.wrap ((i : Int)+1)=((i+1 : Nat) : Int):=by rw [iw (by omega)];omega
 have s1 : l[i].cells.length=5:=rfl
 have s2 : l[i].cells.all VV.isCell=true:=rfl
 have s3 : l[i].cells.take 5=l[i].cells:=rfl
 have hpl:=prT_take_len l i
 have hpl2:=prT_take_len l (i+1)
 have hpe : prT (l.take (i+1))=prT (l.take i)++((if 0 < i then [32] else [])++tkS l[i]):=by
  rw [List.take_succ_eq_append_getElem hc',prT_snoc,List.length_take,Nat.min_eq_left hi]
 obtain ⟨hyo,hyt⟩:=hok l[i] (List.getElem_mem hc')
 simp only [go_sem,seval,q3,q6,q7,q8,hsvt,c1,c2,c3,c4,s1,s2,s3,Int.toNat_natCast,SS]
 refine condO_mono (cut1 (M:=fun ρ τ'=>ρ.get 3=.str (prT (l.take i)++(if 0 < i then [32] else []))∧ρ.get 5=.mptr τ.length 0∧ρ.get 6=sv∧ρ.get 7=.int .i64 l.length∧ρ.get 8=.int .i64 i∧τ'[τ.length]?=some (.own l[i].cells)) ?_) ?_
 rotate_left
 ·refine condO_split (fun hc=>?_) (fun hc=>?_)
  ·have h0 : 0 < i:=by simpa using hc
   rw [if_pos h0]
   simp only [go_sem,seval,q3,q6,q7,q8,hsvt,SS]
   omega
  ·have h0 : ¬ 0 < i:=by simpa using hc
   rw [if_neg h0]
   simp only [go_sem,seval,q3,q6,q7,q8,hsvt,List.append_nil,SS]
 rintro ρ τ2 ⟨q3,q5,q6,q7,q8,hs⟩
 have sk : l[i].cells.getD 0 .undef=.int .i64 l[i].k:=rfl
 have si : l[i].cells.getD 3 .undef=.int .i64 l[i].i:=rfl
 have st : l[i].cells.getD 4 .undef=.str l[i].t:=rfl
 have hif : (if 0 < i then [32] else [] : Bs).length≤1:=by split<;>simp
 have n5 : l[i].k=1∨l[i].k=2∨l[i].k=3∨l[i].k=4:=by rcases hyo with h | h | h | h<;>have:=h.1<;>omega
 rcases n5 with e1 | e1 | e1 | e1
 ·have b1 : ((l[i].k : Int) == 1)=true:=by rw [e1];rfl
  have ht : tkS l[i]=l[i].t:=by unfold tkS;rw [if_pos (.inl e1)]
  rw [ht] at hpe
  simp only [go_sem,seval,q3,q5,q6,q7,q8,hs,s1,s2,s3,sk,si,st,b1,c6]
  refine ⟨by rw [List.length_append];omega,l.length-(i+1),by omega,i+1,rfl,by omega,by rw [hpe,List.append_assoc],hsvt,rfl⟩
 ·have b1 : ((l[i].k : Int) == 1)=false:=by rw [e1];rfl
  have b2 : ((l[i].k : Int) == 2)=true:=by rw [e1];rfl
  have ht : tkS l[i]=l[i].t:=by unfold tkS;rw [if_pos (.inr e1)]
  rw [ht] at hpe
  simp only [go_sem,seval,q3,q5,q6,q7,q8,hs,s1,s2,s3,sk,si,st,b1,b2,c6]
  refine ⟨by rw [List.length_append];omega,l.length-(i+1),by omega,i+1,rfl,by omega,by rw [hpe,List.append_assoc],hsvt,rfl⟩
 ·have b1 : ((l[i].k : Int) == 1)=false:=by rw [e1];rfl
  have b2 : ((l[i].k : Int) == 2)=false:=by rw [e1];rfl
  have b3 : ((l[i].k : Int) == 3)=true:=by rw [e1];rfl
  have ht : tkS l[i]=digs l[i].i:=by unfold tkS;rw [if_neg (by omega),if_pos e1]
  rw [ht] at hpe
  have hdl:=digs_len l[i].i (by rcases hyo with h | h | h | h<;>have:=h.1<;>first | omega | exact h.2.2)
  have hi6 : -9223372036854775808≤l[i].i∧l[i].i≤9223372036854775807:=by rcases hyo with h | h | h | h<;>have:=h.1<;>first | omega | exact h.2.2
  have hD:=p_Digits l[i].i hi6
  simp only [go_sem,seval,q3,q5,q6,q7,q8,hs,s1,s2,s3,sk,si,st,b1,b2,b3]
  (first | refine callO_pure (hD) ?_ | refine dpureO_of (hD) ?_ | refine dpureO_save (hD) ?_ | refine dcallO_pure (hD) (by simp only [go_sem,seval,q3,q5,q6,q7,q8,c6,hsvt]) ?_ | refine dcallO_pure (hD) ?_ ?_)<;>simp only [go_sem,seval,q3,q5,q6,q7,q8,c6,hsvt]
  refine ⟨by rw [List.length_append];omega,l.length-(i+1),by omega,i+1,rfl,by omega,by rw [hpe,List.append_assoc],rfl⟩
 ·have b1 : ((l[i].k : Int) == 1)=false:=by rw [e1];rfl
  have b2 : ((l[i].k : Int) == 2)=false:=by rw [e1];rfl
  have b3 : ((l[i].k : Int) == 3)=false:=by rw [e1];rfl
  have b4 : ((l[i].k : Int) == 4)=true:=by rw [e1];rfl
  have ht : tkS l[i]=quoteS l[i].t:=by unfold tkS;rw [if_neg (by omega),if_neg (by omega),if_pos e1]
  rw [ht] at hpe
  have hql:=quoteS_len l[i].t
  have hQ:=p_Quote l[i].t (by omega)
  simp only [go_sem,seval,q3,q5,q6,q7,q8,hs,s1,s2,s3,sk,si,st,b1,b2,b3,b4]
  (first | refine callO_pure (hQ) ?_ | refine dpureO_of (hQ) ?_ | refine dpureO_save (hQ) ?_ | refine dcallO_pure (hQ) (by simp only [go_sem,seval,q3,q5,q6,q7,q8,c6,hsvt]) ?_ | refine dcallO_pure (hQ) ?_ ?_)<;>simp only [go_sem,seval,q3,q5,q6,q7,q8,c6,hsvt]
  refine ⟨by rw [List.length_append];omega,l.length-(i+1),by omega,i+1,rfl,by omega,by rw [hpe,List.append_assoc],rfl⟩
end Go.V
namespace Go.V
open Go.Proofs
set_option maxRecDepth 100000
theorem blanks_draw1 {ρ : Env} {τ : Store} {seed bits : Int} {S : Bs} {Y : List VV} {v5 E1 E2 p7 : VV} {Q : Out→Env→Store→Prop} (q2 : ρ.get 2=.mptr 0 0) (q5 : ρ.get 5=v5) (q7 : ρ.get 7=p7) (q8 : ρ.get 8=E1) (hc : τ[0]?=some (.own [.int .u64 seed,.int .i64 bits]))
  (y1 : Y.length=11) (y2 : Y.all VV.isCell=true) (y3 : Y.take 11=Y)
  (hPr : PV Tryz.prog G0 37 [v5] (.str S)) (hPa : PV Tryz.prog G0 20 [.agg [.int .u64 seed,.int .i64 bits],.str S] (.tup [.agg Y,E2]))
  (hQ : ∀ ρ',ρ'.get 7=p7→ρ'.get 8=E1→ρ'.get 9=.mptr τ.length 0→ρ'.get 10=E2→Q .normal ρ' (τ++[.own Y])) : wpV Tryz.prog G0 (.draw [⟨0,some 33,.load 24 (.tmp 2),24,none,false,[],true⟩,⟨1,some 34,.move (.tmp 5),74,none,false,[],false⟩,⟨2,some 35,.call ⟨.value (.func 37),#[.tmp 34],#[74]⟩,9,none,false,[],false⟩,⟨3,some 36,.call ⟨.value (.func 20),#[.tmp 33,.tmp 35],#[24,9]⟩,51,none,false,[],false⟩,⟨4,some 32,.move (.tmp 36),51,none,false,[],false⟩,⟨5,some 37,.extract (.tmp 32) 0,42,none,false,[],false⟩,⟨6,some 38,.extract (.tmp 32) 1,50,none,false,[],false⟩,⟨7,some 9,.alloc 42,0,none,true,[0],false⟩,⟨8,none,.store 42 (.tmp 9) (.tmp 37),0,none,true,[],false⟩,⟨9,some 10,.assign (.tmp 38),50,none,false,[],false⟩]) Q ρ τ:=by
 have hc' : ∀ υ,(τ++υ)[0]?=some (.own [.int .u64 seed,.int .i64 bits]):=fun υ=>by rw [List.getElem?_append_left (List.getElem?_eq_some_iff.1 hc).1];exact hc
 simp only [go_sem,seval,q2,q5,q7,q8,hc,hc',y1,y2,y3,SS]
 (first | refine callO_pure (hPr) ?_ | refine dpureO_of (hPr) ?_ | refine dpureO_save (hPr) ?_ | refine dcallO_pure (hPr) (by simp only [go_sem,seval,q2,q5,q7,q8,hc,hc',y1,y2,y3,SS]) ?_ | refine dcallO_pure (hPr) ?_ ?_)<;>simp only [go_sem,seval,q2,q5,q7,q8,hc,hc',y1,y2,y3,SS]
 (first | refine callO_pure (hPa) ?_ | refine dpureO_of (hPa) ?_ | refine dpureO_save (hPa) ?_ | refine dcallO_pure (hPa) (by simp only [go_sem,seval,q2,q5,q7,q8,hc,hc',y1,y2,y3,SS]) ?_ | refine dcallO_pure (hPa) ?_ ?_)<;>simp only [go_sem,seval,q2,q5,q7,q8,hc,hc',y1,y2,y3,SS]
 exact hQ _ q7 q8 rfl rfl
theorem blanks_draw2 {ρ : Env} {τ : Store} {k k2 : Nat} {K : Bs} {cc : Int} {X Y : List VV} {E1 E2 : VV} {Q : Out→Env→Store→Prop} (q7 : ρ.get 7=.mptr k 0) (q8 : ρ.get 8=E1) (q9 : ρ.get 9=.mptr k2 0) (q10 : ρ.get 10=E2)
  (hx : τ[k]?=some (.own X)) (d1 : X.length=11) (d2 : X.all VV.isCell=true) (d3 : X.take 11=X) (hy : τ[k2]?=some (.own Y)) (e1 : Y.length=11) (e2 : Y.all VV.isCell=true) (e3 : Y.take 11=Y)
  (hKx : PV Tryz.prog G0 24 [.agg X] (.str K)) (hKy : PV Tryz.prog G0 24 [.agg Y] (.str K)) (hC1 : PV Tryz.prog G0 38 [E1] (.int .i64 cc)) (hC2 : PV Tryz.prog G0 38 [E2] (.int .i64 cc))
  (hQ : ∀ ρ',ρ'.get 4=.bool true→Q .normal ρ' τ) : wpV Tryz.prog G0 (.draw [⟨0,some 39,.load 42 (.tmp 7),42,none,false,[],false⟩,⟨2,some 41,.load 42 (.tmp 9),42,none,false,[],true⟩,⟨1,some 40,.call ⟨.value (.func 24),#[.tmp 39],#[42]⟩,9,none,true,[2],false⟩,⟨3,some 42,.call ⟨.value (.func 24),#[.tmp 41],#[42]⟩,9,none,true,[],false⟩,⟨4,some 43,.binOp .eql 9 (.tmp 40) (.tmp 42) 9,4,none,false,[],false⟩,⟨5,some 44,.move (.tmp 43),4,none,false,[],false⟩,⟨6,some 45,.move (.tmp 8),50,some (44,true),false,[],false⟩,⟨8,some 47,.move (.tmp 10),50,some (44,true),false,[],false⟩,⟨7,some 46,.call ⟨.value (.func 38),#[.tmp 45],#[50]⟩,31,some (44,true),true,[],false⟩,⟨9,some 48,.call ⟨.value (.func 38),#[.tmp 47],#[50]⟩,31,some (44,true),true,[],false⟩,⟨10,some 49,.binOp .eql 31 (.tmp 46) (.tmp 48) 31,4,some (44,true),false,[],false⟩,⟨11,some 50,.pick (.tmp 44) (.tmp 49) (.const (.bool false)),4,none,false,[],false⟩,⟨12,some 4,.assign (.tmp 50),4,none,false,[],false⟩]) Q ρ τ:=by
 simp only [go_sem,seval,q7,q8,q9,q10,hx,hy,d1,d2,d3,e1,e2,e3]
 (first | refine callO_pure (hKx) ?_ | refine dpureO_of (hKx) ?_ | refine dpureO_save (hKx) ?_ | refine dcallO_pure (hKx) (by simp only [go_sem,seval,q7,q8,q9,q10,hx,hy,d1,d2,d3,e1,e2,e3]) ?_ | refine dcallO_pure (hKx) ?_ ?_)<;>simp only [go_sem,seval,q7,q8,q9,q10,hx,hy,d1,d2,d3,e1,e2,e3]
 (first | refine callO_pure (hKy) ?_ | refine dpureO_of (hKy) ?_ | refine dpureO_save (hKy) ?_ | refine dcallO_pure (hKy) (by simp only [go_sem,seval,q7,q8,q9,q10,hx,hy,d1,d2,d3,e1,e2,e3]) ?_ | refine dcallO_pure (hKy) ?_ ?_)<;>simp only [go_sem,seval,q7,q8,q9,q10,hx,hy,d1,d2,d3,e1,e2,e3]
 (first | refine callO_pure (hC1) ?_ | refine dpureO_of (hC1) ?_ | refine dpureO_save (hC1) ?_ | refine dcallO_pure (hC1) (by simp only [go_sem,seval,q7,q8,q9,q10]) ?_ | refine dcallO_pure (hC1) ?_ ?_)<;>simp only [go_sem,seval,q7,q8,q9,q10]
 (first | refine callO_pure (hC2) ?_ | refine dpureO_of (hC2) ?_ | refine dpureO_save (hC2) ?_ | refine dcallO_pure (hC2) (by simp only [go_sem,seval,q7,q8,q9,q10,beq_self_eq_true]) ?_ | refine dcallO_pure (hC2) ?_ ?_)<;>simp only [go_sem,seval,q7,q8,q9,q10,beq_self_eq_true]
 exact hQ _ rfl
theorem l_Blanks (seed bits : Int) (s : Bs) : PV Tryz.prog G0 12 [.agg [.int .u64 seed,.int .i64 bits],.str s] (.bool true):=by
 have hL:=p_live
 refine pv e12 (by simp) rfl rfl ?_
 by_cases h1 : 4000 < s.length
 ·have b1 : decide ((4000 : Int) < (s.length : Int))=true:=decide_eq_true (by omega)
  simp only [go_sem,seval,c12]
  (first | refine callO_pure (hL) ?_ | refine dpureO_of (hL) ?_ | refine dpureO_save (hL) ?_ | refine dcallO_pure (hL) (by simp only [go_sem,seval,Bool.not_true,b1]) ?_ | refine dcallO_pure (hL) ?_ ?_)<;>simp only [go_sem,seval,Bool.not_true,b1]
  (first | refine callO_pure (hL) ?_ | refine dpureO_of (hL) ?_ | refine dpureO_save (hL) ?_ | refine dcallO_pure (hL) (by simp only [go_sem,seval]) ?_ | refine dcallO_pure (hL) ?_ ?_)<;>simp only [go_sem,seval]
  exact fin (by rfl) rfl
 have b1 : decide ((4000 : Int) < (s.length : Int))=false:=decide_eq_false (by omega)
 obtain ⟨⟨l,c,p⟩,hA⟩:=lexAll_tot (s.length+2) s 0 (by omega)
 have hAll:=p_All _ s _ (by omega) hA
 refine wpV_seq_cut (M:=fun ρ τ=>ρ.get 1=.str s∧ρ.get 2=.mptr 0 0∧τ=[.own [.int .u64 seed,.int .i64 bits]]) ?_ ?_
 ·simp only [go_sem,seval]
 rintro ρ _ ⟨q1,q2,rfl⟩
 refine wpV_seq_cut (M:=fun ρ τ=>ρ.get 1=.str s∧ρ.get 2=.mptr 0 0∧τ=[.own [.int .u64 seed,.int .i64 bits]]) ?_ ?_
 ·simp only [go_sem,seval,q1,q2]
  (first | refine callO_pure (hL) ?_ | refine dpureO_of (hL) ?_ | refine dpureO_save (hL) ?_ | refine dcallO_pure (hL) (by simp only [go_sem,seval,Bool.not_true,Bool.not_false,b1,q1,q2]) ?_ | refine dcallO_pure (hL) ?_ ?_)<;>simp only [go_sem,seval,Bool.not_true,Bool.not_false,b1,q1,q2]
 rintro ρ _ ⟨q1,q2,rfl⟩
 by_cases hc : c=0
 rotate_left
 ·simp only [allV,if_neg hc] at hAll
  obtain ⟨w,hw⟩:=faultV_ne (e:=c) p (by omega)
  rw [hw] at hAll
  simp only [go_sem,seval,q1,q2]
  (first | refine callO_pure (hAll) ?_ | refine dpureO_of (hAll) ?_ | refine dpureO_save (hAll) ?_ | refine dcallO_pure (hAll) (by simp only [go_sem,seval,q1,q2]) ?_ | refine dcallO_pure (hAll) ?_ ?_)<;>simp only [go_sem,seval,q1,q2]
  exact fin (by rfl) rfl
 subst hc
 simp only [allV,if_true] at hAll
 have hT:=lexAll_TL _ hA
 obtain ⟨hlo,hpl,hll⟩:=lexAll_ok _ hA
 have hpt:=prT_len l
 have hT2:=TL_prT l fun y hy=>(hlo y hy).1
 have hPrint:=p_Print l (by omega) (fun y hy=>⟨(hlo y hy).1,by have:=(hlo y hy).2.1;omega⟩) (by omega)
 obtain ⟨f,R,hR⟩:=rdP_tot s
 obtain ⟨R',hR',hS⟩:=rdP_sim (by omega) (by omega) hT hT2 hR
 obtain ⟨X,hX,hPX⟩:=p_PParse f seed bits s R (by omega) hR
 obtain ⟨Y,hY,hPY⟩:=p_PParse f seed bits (prT l) R' (by omega) hR'
 have key : ∃ (x y : Vl) (E1 E2 : VV) (K : Bs) (cc : Int),x.ok∧y.ok∧PV Tryz.prog G0 20 [.agg [.int .u64 seed,.int .i64 bits],.str s] (.tup [x.vv,E1])∧PV Tryz.prog G0 20 [.agg [.int .u64 seed,.int .i64 bits],.str (prT l)] (.tup [y.vv,E2]) ∧
   PV Tryz.prog G0 24 [x.vv] (.str K)∧PV Tryz.prog G0 24 [y.vv] (.str K)∧PV Tryz.prog G0 38 [E1] (.int .i64 cc)∧PV Tryz.prog G0 38 [E2] (.int .i64 cc):=by
  cases R with
  | er c p =>
   cases R' with
   | er c' p' =>
    obtain rfl : c=c':=hS
    exact ⟨Vl.zero,Vl.zero,_,_,_,_,zero_ok,zero_ok,hPX,hPY,p_VKey zero_rvl zero_ok (by decide),p_VKey zero_rvl zero_ok (by decide),p_Code c p,p_Code c p'⟩
   | ok v n=>exact hS.elim
  | ok v n =>
   cases R' with
   | er c' p'=>exact hS.elim
   | ok v' n' =>
    obtain ⟨rfl,rfl⟩:=hS
    have hk:=(rdP_good hR).2.2.2.2
    exact ⟨X,Y,_,_,_,_,hX.2.1,hY.2.1,hPX,hPY,p_VKey hX.1 hX.2.1 (by omega),p_VKey hY.1 hY.2.1 (by omega),p_Code 0 0,p_Code 0 0⟩
 obtain ⟨x,y,E1,E2,K,cc,hxo,hyo,hPX,hPY,hKx,hKy,hC1,hC2⟩:=key
 simp only [Vl.vv] at hPX hPY hKx hKy
 have d1 : x.cells.length=11:=rfl
 have d2 : x.cells.all VV.isCell=true:=hxo.cell
 have d3 : x.cells.take 11=x.cells:=rfl
 have e1 : y.cells.length=11:=rfl
 have e2 : y.cells.all VV.isCell=true:=hyo.cell
 have e3 : y.cells.take 11=y.cells:=rfl
 refine wpV_seq_cut (M:=fun ρ τ=>ρ.get 1=.str s∧ρ.get 2=.mptr 0 0∧ρ.get 5=tkSl l∧ρ.get 6=.nili∧τ=[.own [.int .u64 seed,.int .i64 bits]]) ?_ ?_
 ·simp only [go_sem,seval,q1,q2]
  (first | refine callO_pure (hAll) ?_ | refine dpureO_of (hAll) ?_ | refine dpureO_save (hAll) ?_ | refine dcallO_pure (hAll) (by simp only [go_sem,seval,q1,q2]) ?_ | refine dcallO_pure (hAll) ?_ ?_)<;>simp only [go_sem,seval,q1,q2]
 rintro ρ _ ⟨q1,q2,q5,q6,rfl⟩
 refine wpV_seq_cut (M:=fun ρ τ=>ρ.get 1=.str s∧ρ.get 2=.mptr 0 0∧ρ.get 5=tkSl l∧τ=[.own [.int .u64 seed,.int .i64 bits]]) ?_ ?_
 ·simp only [go_sem,seval,q1,q2,q5,q6]
 rintro ρ _ ⟨q1,q2,q5,rfl⟩
 refine wpV_seq_cut (M:=fun ρ τ=>ρ.get 2=.mptr 0 0∧ρ.get 5=tkSl l∧ρ.get 7=.mptr 1 0∧ρ.get 8=E1∧τ=[.own [.int .u64 seed,.int .i64 bits],.own x.cells]) ?_ ?_
 ·simp only [go_sem,seval,q1,q2,q5]
  (first | refine callO_pure (hPX) ?_ | refine dpureO_of (hPX) ?_ | refine dpureO_save (hPX) ?_ | refine dcallO_pure (hPX) (by simp only [go_sem,seval,q1,q2,q5,d1,d2,d3]) ?_ | refine dcallO_pure (hPX) ?_ ?_)<;>simp only [go_sem,seval,q1,q2,q5,d1,d2,d3]
 rintro ρ _ ⟨q2,q5,q7,q8,rfl⟩
 refine wpV_seq_cut (M:=fun ρ τ=>ρ.get 7=.mptr 1 0∧ρ.get 8=E1∧ρ.get 9=.mptr 2 0∧ρ.get 10=E2∧τ=[.own [.int .u64 seed,.int .i64 bits],.own x.cells,.own y.cells]) (blanks_draw1 q2 q5 q7 q8 rfl e1 e2 e3 hPrint hPY fun ρ' a b c d=>⟨a,b,c,d,rfl⟩) ?_
 rintro ρ _ ⟨q7,q8,q9,q10,rfl⟩
 refine wpV_seq_cut (M:=fun ρ τ=>ρ.get 4=.bool true) (blanks_draw2 q7 q8 q9 q10 rfl d1 d2 d3 rfl e1 e2 e3 hKx hKy hC1 hC2 fun ρ' h=>h) ?_
 rintro ρ τ h4
 simp only [go_sem,seval,h4]
 exact fin (by rfl) rfl
end Go.V
