/- Texts L15 L16 F80 L17 L18 L19 L20. -/
import Derived.Test.YthhjefemijhamaaGreatDoorG42
set_option linter.unusedVariables false
set_option linter.unusedSimpArgs false
namespace Go.V
structure Tk where
 k : Nat
 a : Nat
 e : Nat
 i : Int
 t : Bs
def Tk.of (y : Tk) : Nat × Int × Bs:=(y.k,y.i,y.t)
inductive TL (s : Bs) : Int→List (Nat × Int × Bs)→Prop
 | nil {a : Int} {x e : Nat} {i : Int} {t : Bs} : lexNext s a=.tok 0 x e i t→TL s a []
 | cons {a : Int} {k x e : Nat} {i : Int} {t : Bs} {l : List (Nat × Int × Bs)} : lexNext s a=.tok k x e i t→k≠0→TL s e l→TL s a ((k,i,t)::l)
end Go.V
namespace Go.V
def Tk.ok (y : Tk) : Prop:=(y.k=1∧y.i=0∧y.t ∈ signTexts)∨(y.k=2∧y.i=0∧∃ c w,y.t=c::w∧letB c=true∧w.all wordB=true)∨(y.k=3∧y.t=[]∧-9223372036854775808≤y.i∧y.i≤9223372036854775807)∨(y.k=4∧y.i=0)
end Go.V
namespace Go.V
open Go.Proofs
set_option maxRecDepth 100000
def Tk.cells (y : Tk) : List VV:=[.int .i64 y.k,.int .i64 y.a,.int .i64 y.e,.int .i64 y.i,.str y.t]
theorem Tk.blks (l : List Tk) : Blk 5 (l.map Tk.cells):=by
 refine ⟨fun x hx=>?_,fun x hx=>?_,fun x hx=>?_⟩<;>obtain ⟨p,hp,rfl⟩:=List.mem_map.1 hx
 ·rfl
 ·rfl
 ·rfl
end Go.V
namespace Go.V
theorem enc_inj {v w : T} (hv : v.wf 1) (hw : w.wf 1) (hn : v.nd≤16384) (hm : w.nd≤16384) (h : v.enc=w.enc) : v=w:=by
 have h1:=(rd_back v.enc.length).1 v v.enc 0 0 1 [] hv (by omega) (by simp) .nil (Nat.le_refl _)
 have h2:=(rd_back v.enc.length).1 w v.enc 0 0 1 [] hw (by omega) (by rw [h];simp) .nil (by rw [h];exact Nat.le_refl _)
 rw [h1] at h2
 simp only [Option.some.injEq,Rs.ok.injEq] at h2
 exact h2.1
theorem numB_inj {m n : Int} (hm : -9223372036854775808≤m∧m≤9223372036854775807) (hn : -9223372036854775808≤n∧n≤9223372036854775807) (h : numB m=numB n) : m=n:=by
 have key : ∀ x y : Nat,x < 18446744073709551616→y < 18446744073709551616→(∀ i,i < 8→x / 256 ^ (7-i) % 256=y / 256 ^ (7-i) % 256)→x=y:=by
  intro x y hx hy hd
  have d0:=hd 0 (by omega);have d1:=hd 1 (by omega);have d2:=hd 2 (by omega);have d3:=hd 3 (by omega)
  have d4:=hd 4 (by omega);have d5:=hd 5 (by omega);have d6:=hd 6 (by omega);have d7:=hd 7 (by omega)
  simp at d0 d1 d2 d3 d4 d5 d6 d7
  omega
 have hu : ∀ n : Int,uB n < 18446744073709551616:=by intro n;unfold uB;omega
 have e:=key (uB m) (uB n) (hu m) (hu n) fun i hi=>by
  have:=congrArg (·[i]?) h
  simp only [numB,List.getElem?_map,List.getElem?_range hi,Option.map_some,Option.some.injEq] at this
  have:=congrArg UInt8.toNat this
  simpa using this
 unfold uB at e
 omega
theorem covB_cancel : ∀ (s t r r' : Bs),covB s++0::0::r=covB t++0::0::r'→s=t∧r=r'
 | [],[],r,r',h=>by simpa [covB] using h
 | [],b::t,r,r',h=>by
  exfalso
  unfold covB at h
  split at h
  ·rename_i hb;subst hb;simp [covB] at h
  ·rename_i hb;simp [covB] at h;exact hb h.1.symm
 | a::s,[],r,r',h=>by
  exfalso
  unfold covB at h
  split at h
  ·rename_i hb;subst hb;simp [covB] at h
  ·rename_i hb;simp [covB] at h;exact hb h.1
 | a::s,b::t,r,r',h=>by
  unfold covB at h
  split at h
  ·rename_i ha
   subst ha
   split at h
   ·rename_i hb
    subst hb
    simp only [List.cons_append,List.cons.injEq,true_and] at h
    obtain ⟨rfl,hr⟩:=covB_cancel s t r r' h
    exact ⟨rfl,hr⟩
   ·rename_i hb
    simp only [List.cons_append,List.cons.injEq] at h
    exact absurd h.1.symm hb
  ·rename_i ha
   split at h
   ·rename_i hb
    subst hb
    simp only [List.cons_append,List.cons.injEq] at h
    exact absurd h.1 ha
   ·simp only [List.cons_append,List.cons.injEq] at h
    obtain ⟨rfl,h⟩:=h
    obtain ⟨rfl,hr⟩:=covB_cancel s t r r' h
    exact ⟨rfl,hr⟩
theorem scKey_eq {k i : Int} {t : Bs} (h : scOK k i t) : (k=0∧i=0∧t=[]∧scKey k i t=[1])∨(k=1∧t=[]∧((i=0∧scKey k i t=[2,0])∨(i=1∧scKey k i t=[2,1])))∨(k=2∧t=[]∧(-9223372036854775808≤i∧i≤9223372036854775807)∧scKey k i t=3::numB i)∨(k=3∧i=0∧scKey k i t=4::(covB t++[0,0])):=by
 rcases h with ⟨rfl,rfl,rfl⟩ | ⟨rfl,hi,rfl⟩ | ⟨rfl,rfl,hi⟩ | ⟨rfl,rfl⟩
 ·exact .inl ⟨rfl,rfl,rfl,by decide⟩
 ·refine .inr (.inl ⟨rfl,rfl, ?_⟩)
  rcases hi with rfl | rfl
  ·exact .inl ⟨rfl,by decide⟩
  ·exact .inr ⟨rfl,by decide⟩
 ·exact .inr (.inr (.inl ⟨rfl,rfl,hi,by simp [scKey,checkS]⟩))
 ·exact .inr (.inr (.inr ⟨rfl,rfl,by simp [scKey,checkS]⟩))
theorem scKey_cancel {k i k' i' : Int} {t t' r r' : Bs} (h : scOK k i t) (h' : scOK k' i' t') (e : scKey k i t++r=scKey k' i' t'++r') : k=k'∧i=i'∧t=t'∧r=r':=by
 rcases scKey_eq h with ⟨rfl,rfl,rfl,h1⟩ | ⟨rfl,rfl,⟨rfl,h1⟩ | ⟨rfl,h1⟩⟩ | ⟨rfl,rfl,hi,h1⟩ | ⟨rfl,rfl,h1⟩ <;>
 rcases scKey_eq h' with ⟨rfl,rfl,rfl,h2⟩ | ⟨rfl,rfl,⟨rfl,h2⟩ | ⟨rfl,h2⟩⟩ | ⟨rfl,rfl,hi',h2⟩ | ⟨rfl,rfl,h2⟩ <;>
 simp only [h1,h2,List.cons_append,List.nil_append,List.cons.injEq,List.append_assoc,true_and] at e
 all_goals first
  | exact ⟨rfl,rfl,rfl,e⟩
  | (exfalso;revert e;simp;done)
  | (obtain ⟨e1,e2⟩:=List.append_inj e (by rw [numB_len,numB_len]);exact ⟨rfl,numB_inj hi hi' e1,rfl,e2⟩)
  | (obtain ⟨e1,e2⟩:=covB_cancel _ _ _ _ e;exact ⟨rfl,rfl,e1,e2⟩)
theorem key_head {q : Nat} {v : T} (h : v.wf q) : ∃ c w,v.key=c::w∧c≠0:=by
 cases v with
 | sc k i t =>
  simp only [T.key]
  rcases scKey_eq h.2 with ⟨_,_,_,h1⟩ | ⟨_,_,⟨_,h1⟩ | ⟨_,h1⟩⟩ | ⟨_,_,_,h1⟩ | ⟨_,_,h1⟩<;>exact ⟨_,_,h1,by decide⟩
 | vec l=>exact ⟨5,_,rfl,by decide⟩
 | map l=>exact ⟨6,_,rfl,by decide⟩
 | set l=>exact ⟨7,_,rfl,by decide⟩
theorem sc_low {k i : Int} {t : Bs} (h : scOK k i t) {c : UInt8} {w : Bs} (hc : 4 < c.toNat) {r r' : Bs} (e : scKey k i t++r=c::w++r') : False:=by
 rcases scKey_eq h with ⟨_,_,_,h1⟩ | ⟨_,_,⟨_,h1⟩ | ⟨_,h1⟩⟩ | ⟨_,_,_,h1⟩ | ⟨_,_,h1⟩<;>rw [h1] at e<;>simp only [List.cons_append,List.cons.injEq] at e<;>obtain ⟨rfl,_⟩:=e<;>exact absurd hc (by decide)
mutual
theorem key_cancel : ∀ (v w : T) (q q' : Nat) (r r' : Bs),v.wf q→w.wf q'→v.key++r=w.key++r'→v=w∧r=r'
 | .sc k i t,w,q,q',r,r',hv,hw,h=>by
  cases w with
  | sc k' i' t' =>
   simp only [T.key] at h
   obtain ⟨rfl,rfl,rfl,e⟩:=scKey_cancel hv.2 hw.2 h
   exact ⟨rfl,e⟩
  | vec l=>exact (sc_low hv.2 (by decide) h).elim
  | map l=>exact (sc_low hv.2 (by decide) h).elim
  | set l=>exact (sc_low hv.2 (by decide) h).elim
 | .vec l,w,q,q',r,r',hv,hw,h=>by
  cases w with
  | sc k' i' t'=>exact (sc_low hw.2 (by decide) h.symm).elim
  | vec m =>
   simp only [T.key,List.cons_append,List.cons.injEq,true_and,List.append_assoc,List.nil_append] at h
   obtain ⟨rfl,e⟩:=keys_cancel l m _ _ r r' hv.2 hw.2 h
   exact ⟨rfl,e⟩
  | map m=>simp [T.key] at h
  | set m=>simp [T.key] at h
 | .map l,w,q,q',r,r',hv,hw,h=>by
  cases w with
  | sc k' i' t'=>exact (sc_low hw.2 (by decide) h.symm).elim
  | vec m=>simp [T.key] at h
  | map m =>
   simp only [T.key,List.cons_append,List.cons.injEq,true_and,List.append_assoc,List.nil_append] at h
   obtain ⟨rfl,e⟩:=mkeys_cancel l m _ _ r r' hv.2.2 hw.2.2 h
   exact ⟨rfl,e⟩
  | set m=>simp [T.key] at h
 | .set l,w,q,q',r,r',hv,hw,h=>by
  cases w with
  | sc k' i' t'=>exact (sc_low hw.2 (by decide) h.symm).elim
  | vec m=>simp [T.key] at h
  | map m=>simp [T.key] at h
  | set m =>
   simp only [T.key,List.cons_append,List.cons.injEq,true_and,List.append_assoc,List.nil_append] at h
   obtain ⟨rfl,e⟩:=keys_cancel l m _ _ r r' hv.2.2 hw.2.2 h
   exact ⟨rfl,e⟩
theorem keys_cancel : ∀ (l m : List T) (q q' : Nat) (r r' : Bs),T.wfs q l→T.wfs q' m→T.keys l++0::r=T.keys m++0::r'→l=m∧r=r'
 | [],m,q,q',r,r',_,hm,h=>by
  cases m with
  | nil=>simpa [T.keys] using h
  | cons y m =>
   obtain ⟨c,w,e,hc⟩:=key_head hm.1
   simp only [T.keys,e,List.nil_append,List.cons_append,List.cons.injEq] at h
   exact absurd h.1.symm hc
 | x::l,m,q,q',r,r',hl,hm,h=>by
  cases m with
  | nil =>
   obtain ⟨c,w,e,hc⟩:=key_head hl.1
   simp only [T.keys,e,List.nil_append,List.cons_append,List.cons.injEq] at h
   exact absurd h.1 hc
  | cons y m =>
   simp only [T.keys,List.append_assoc] at h
   obtain ⟨rfl,h2⟩:=key_cancel x y _ _ _ _ hl.1 hm.1 h
   obtain ⟨rfl,e⟩:=keys_cancel l m _ _ r r' hl.2 hm.2 h2
   exact ⟨rfl,e⟩
theorem mkeys_cancel : ∀ (l m : List (Bs × T)) (q q' : Nat) (r r' : Bs),T.wfm q l→T.wfm q' m→T.mkeys l++0::r=T.mkeys m++0::r'→l=m∧r=r'
 | [],m,q,q',r,r',_,hm,h=>by
  cases m with
  | nil=>simpa [T.mkeys] using h
  | cons y m =>
   have e : scKey 3 0 y.1=4::(covB y.1++[0,0]):=by simp [scKey,checkS]
   simp [T.mkeys,e] at h
 | (k,x)::l,m,q,q',r,r',hl,hm,h=>by
  cases m with
  | nil =>
   have e : scKey 3 0 k=4::(covB k++[0,0]):=by simp [scKey,checkS]
   simp [T.mkeys,e] at h
  | cons y m =>
   obtain ⟨k',y⟩:=y
   simp only [T.mkeys,List.append_assoc] at h
   obtain ⟨_,_,rfl,h2⟩:=scKey_cancel (.inr (.inr (.inr ⟨rfl,rfl⟩))) (.inr (.inr (.inr ⟨rfl,rfl⟩))) h
   obtain ⟨rfl,h3⟩:=key_cancel x y _ _ _ _ hl.1 hm.1 h2
   obtain ⟨rfl,e⟩:=mkeys_cancel l m _ _ r r' hl.2 hm.2 h3
   exact ⟨rfl,e⟩
end
theorem key_inj {v w : T} {q q' : Nat} (hv : v.wf q) (hw : w.wf q') (h : v.key=w.key) : v=w:=(key_cancel v w q q' [] [] hv hw (by simpa using h)).1
end Go.V
namespace Go.V
def CutAt (u : Bs) (a : Nat) : Prop:=(∃ c p,lexNext u a=.err c p)∨(∃ x e i t,lexNext u a=.tok 0 x e i t)∨∃ k x i t,(k=2∨k=3)∧lexNext u a=.tok k x u.length i t
inductive Pre (s u : Bs) : Nat→Prop
 | same {a k e : Nat} {i : Int} {t : Bs} : lexNext s a=.tok k a e i t→lexNext u a=.tok k a e i t→k≠0→Pre s u e→Pre s u a
 | cut {a : Nat} : CutAt u a→Pre s u a
theorem cut_end {u : Bs} {a : Nat} (h : u.length≤a) : CutAt u a:=by
 rcases Nat.lt_or_ge u.length a with h1 | h1
 ·exact .inl ⟨1,0,by unfold lexNext;rw [if_pos (by omega)]⟩
 ·have : a=u.length:=by omega
  subst this
  exact .inr (.inl ⟨_,_,_,_,lexNext_end u⟩)
theorem take_in {s : Bs} {p n : Nat} {x r : Bs} (h : s.drop p=x++r) (he : p+x.length≤n) : (s.take n).drop p=x++r.take (n-p-x.length):=by
 rw [List.drop_take,h,List.take_append,List.take_of_length_le (by omega)]
theorem take_out {s : Bs} {p n : Nat} {x r : Bs} (h : s.drop p=x++r) (hp : p≤n) (he : n < p+x.length) : (s.take n).drop p=x.take (n-p):=by
 rw [List.drop_take,h,List.take_append,show n-p-x.length=0 by omega];simp
theorem unq_part {u : Bs} (c : UInt8) (i f : Nat) (out : Bs) (m : Nat) (h : u.drop i=(quoteB c).take m) (hm : m < (quoteB c).length) (hi : i≤u.length) : (unqGo u f i out).2.2≠0:=by
 have hlen:=congrArg List.length h
 rw [List.length_drop,List.length_take] at hlen
 cases f with
 | zero=>simp [unqGo]
 | succ f =>
  cases m with
  | zero =>
   have : u[i]?=none:=List.getElem?_eq_none (by simp at hlen;omega)
   simp [unqGo,this]
  | succ m =>
   have g92 : ∀ x r,quoteB c=92::x::r→(unqGo u (f+1) i out).2.2≠0:=by
    intro x r e
    rw [e] at h hm hlen
    simp only [List.take_succ_cons] at h
    obtain ⟨g1,g2,g3,g4⟩:=drop_get h
    rw [unqGo,g1]
    simp only
    rw [if_neg (by decide),if_neg (by decide),if_neg (by decide)]
    cases m with
    | zero =>
     have : u[i+1]?=none:=List.getElem?_eq_none (by simp at g4;omega)
     rw [this];simp
    | succ m =>
     simp only [List.take_succ_cons] at g3
     obtain ⟨k1,k2,k3,k4⟩:=drop_get g3
     rw [k1]
     simp only
     have hx : x=120∧∃ a b,a < 16∧b < 16∧r=[hexd a,hexd b]:=by
      have hc:=c.toNat_lt
      have h2:=congrArg List.length e
      simp only [List.length_cons] at h2 hm
      unfold quoteB at e h2
      split at e
      ·rename_i hq;rw [if_pos hq] at h2;simp only [List.length_cons,List.length_nil] at h2;omega
      ·rename_i hq
       rw [if_neg hq] at h2
       split at e
       ·rename_i hq;rw [if_pos hq] at h2;simp only [List.length_cons,List.length_nil] at h2;omega
       ·rename_i hq
        rw [if_neg hq] at h2
        split at e
        ·rename_i hq;rw [if_pos hq] at h2;simp only [List.length_cons,List.length_nil] at h2;omega
        ·rename_i hq
         rw [if_neg hq] at h2
         split at e
         ·rename_i hq;rw [if_pos hq] at h2;simp only [List.length_cons,List.length_nil] at h2;omega
         ·split at e
          ·simp only [List.cons.injEq,true_and] at e
           exact ⟨e.1.symm,_,_,by omega,by omega,e.2.symm⟩
          ·simp at e
     obtain ⟨rfl,a,b,ha,hb,rfl⟩:=hx
     rw [if_pos (by decide)]
     have hp : (pairV u (i+2)).2.2≠0:=by
      unfold pairV
      cases m with
      | zero =>
       have : u[i+2]?=none:=List.getElem?_eq_none (by simp at k4;omega)
       rw [this];simp
      | succ m =>
       simp only [List.take_succ_cons] at k3
       obtain ⟨j1,j2,j3,j4⟩:=drop_get k3
       rw [j1]
       simp only
       rw [hexval_hexd a ha]
       simp only
       have : u[i+2+1]?=none:=by
        refine List.getElem?_eq_none ?_
        simp at hm
        have : m=0:=by omega
        subst this
        simp at j4;omega
       rw [this];simp
     rw [if_neg hp]
     exact hp
   by_cases h1 : ∃ x r,quoteB c=92::x::r
   ·obtain ⟨x,r,e⟩:=h1;exact g92 x r e
   ·exfalso
    apply h1
    unfold quoteB at hm ⊢
    repeat' split at hm
    all_goals first
     | (simp at hm;done)
     | skip
    all_goals simp_all
theorem unqGo_part (u : Bs) : ∀ (t : Bs) (i f : Nat) (out : Bs) (m : Nat),u.drop i=(t.flatMap quoteB++[34]).take m→m < (t.flatMap quoteB++[34]).length→i≤u.length→(unqGo u f i out).2.2≠0
 | [],i,f,out,m,h,hm,hi=>by
  have : m=0:=by simp at hm;omega
  subst this
  have hlen:=congrArg List.length h
  rw [List.length_drop] at hlen
  have : u[i]?=none:=List.getElem?_eq_none (by simp at hlen;omega)
  cases f with
  | zero=>simp [unqGo]
  | succ f=>simp [unqGo,this]
 | c::t,i,f,out,m,h,hm,hi=>by
  rw [List.flatMap_cons,List.append_assoc] at h hm
  rcases Nat.lt_or_ge m (quoteB c).length with h1 | h1
  ·rw [List.take_append,show m-(quoteB c).length=0 by omega,List.take_zero,List.append_nil] at h
   exact unq_part c i f out m h h1 hi
  ·rw [List.take_append,List.take_of_length_le h1] at h
   cases f with
   | zero=>simp [unqGo]
   | succ f =>
    rw [unq_step c i f out h]
    have hl:=congrArg List.length h
    rw [List.length_drop,List.length_append] at hl
    have:=quoteB_pos c
    exact unqGo_part u t _ f _ (m-(quoteB c).length) (drop_pre h) (by rw [List.length_append] at hm;omega) (by omega)
theorem quote_part {u : Bs} {p m : Nat} {t : Bs} (h : u.drop p=(quoteS t).take m) (hm : m < (quoteS t).length) (h0 : 0 < m) : ∃ c e,lexNext u p=.err c e:=by
 obtain ⟨m,rfl⟩ : ∃ k,m=k+1:=⟨m-1,by omega⟩
 have h' : u.drop p=34::(t.flatMap quoteB++[34]).take m:=h
 obtain ⟨g1,g2,g3,g4⟩:=drop_get h'
 rw [lexNext_at h' (by decide)]
 unfold lexC
 rw [if_pos (by decide)]
 have hu : (unquote (u.drop p)).2.2≠0:=by
  unfold unquote
  have h0 : (u.drop p)[0]?=some 34:=by rw [h'];rfl
  rw [h0]
  simp only
  rw [if_pos (by decide)]
  have h1 : (u.drop p).drop 1=(t.flatMap quoteB++[34]).take m:=by rw [h'];rfl
  exact unqGo_part (u.drop p) t 1 _ [] m h1 (by simp [quoteS] at hm ⊢;omega) (by rw [h'];simp)
 rw [if_neg hu]
 exact ⟨_,_,rfl⟩
end Go.V
namespace Go.V
section
variable {s : Bs} {n : Nat}
theorem pre_tok {P : UInt8→Prop} {p k : Nat} {i : Int} {t : Bs} (x : Bs) {r : Bs} (hn : n≤s.length) (h : s.drop p=x++r) (hr : ∀ d,r.head?=some d→P d) (tok : ∀ (w r' : Bs),w.drop p=x++r'→(∀ d,r'.head?=some d→P d)→peekP w p=.tok k p (p+x.length) i t)
  (part : ∀ (u : Bs) (m : Nat),u.drop p=x.take m→0 < m→m < x.length→p+m=u.length→CutAt u p) (hx : Pre s (s.take n) (p+x.length)) : Pre s (s.take n) p:=by
 have hl : (s.take n).length=n:=by rw [List.length_take];omega
 rcases Nat.lt_or_ge p n with h1 | h1
 ·rcases Nat.lt_or_ge n (p+x.length) with h2 | h2
  ·exact .cut (part _ (n-p) (take_out h (by omega) h2) (by omega) (by omega) (by omega))
  ·obtain ⟨k0,e1⟩:=peekP_tok (tok s r h hr)
   have e2:=(peekP_tok (tok (s.take n) _ (take_in h h2) fun d hd=>hr d (by
    cases r with
    | nil=>simp at hd
    | cons c r=>cases hm : n-p-x.length with
     | zero=>rw [hm] at hd;simp at hd
     | succ m=>rw [hm] at hd;simpa using hd))).2
   exact .same e1 e2 k0 hx
 ·exact .cut (cut_end (by omega))
theorem pre_sign {p : Nat} {c : UInt8} {r : Bs} (hn : n≤s.length) (hc : c=91∨c=93∨c=44∨c=58∨c=123∨c=125∨c=60∨c=62) (h : s.drop p=c::r) (hr : ∀ d,r.head?=some d→d.toNat≠61) (hx : Pre s (s.take n) (p+1)) : Pre s (s.take n) p:=by
 refine pre_tok (P:=fun d=>d.toNat≠61) (k:=1) (i:=0) (t:=[c]) [c] hn h hr (fun w r' hw hr'=>?_) (fun u m _ h1 h2=>by simp at h2;omega) hx
 rcases hc with rfl | rfl | rfl | rfl | rfl | rfl | rfl | rfl
 ·exact tok_open hw
 ·exact tok_close hw
 ·exact tok_comma hw
 ·exact sign_one hw (by simp)
 ·exact sign_one hw (by simp)
 ·exact sign_one hw (by simp)
 ·exact sign_angle hw (.inl rfl) hr'
 ·exact sign_angle hw (.inr rfl) hr'
theorem pre_word {p : Nat} {c : UInt8} {w r : Bs} (hn : n≤s.length) (h : s.drop p=(c::w)++r) (hl : letB c=true) (hb : blankB c=false) (h34 : c.toNat≠34) (hw : w.all wordB=true) (hr : Stop r) (hx : Pre s (s.take n) (p+(c::w).length)) : Pre s (s.take n) p:=by
 refine pre_tok (P:=fun d=>wordB d=false∧d.toNat≠61) (c::w) hn h hr (fun w' r' hw' hr'=>tok_word hw' hl hb h34 hw hr') (fun u m hu h1 h2 h3=>?_) hx
 obtain ⟨m,rfl⟩ : ∃ k,m=k+1:=⟨m-1,by omega⟩
 have hu' : u.drop p=(c::w.take m)++[]:=by rw [hu];simp
 have hw2 : (w.take m).all wordB=true:=by
  rw [List.all_eq_true] at hw ⊢
  exact fun x hx=>hw x (List.mem_of_mem_take hx)
 have:=(peekP_tok (tok_word hu' hl hb h34 hw2 .nil)).2
 have hlen : p+(c::w.take m).length=u.length:=by simp at h2 ⊢;omega
 rw [hlen] at this
 exact .inr (.inr ⟨2,p,0,_,.inl rfl,this⟩)
theorem pre_num {p : Nat} {r : Bs} (i : Int) (hi : -9223372036854775808≤i∧i≤9223372036854775807) (hn : n≤s.length) (h : s.drop p=digs i++r) (hr : Stop r) (hx : Pre s (s.take n) (p+(digs i).length)) : Pre s (s.take n) p:=by
 refine pre_tok (P:=fun d=>wordB d=false∧d.toNat≠61) (digs i) hn h hr (fun w' r' hw' hr'=>tok_num i hi hw' hr') (fun u m hu h1 h2 h3=>?_) hx
 have key : ∃ c w,digs i=c::w∧w.all digB=true∧(c.toNat=45∨digB c=true):=by
  unfold digs
  split
  ·exact ⟨45,_,rfl,natDigits_all _,.inl rfl⟩
  ·obtain ⟨c,l,h1,h2⟩:=digits_head i.natAbs
   have:=natDigits_all i.natAbs
   rw [h1,List.all_cons,Bool.and_eq_true] at this
   exact ⟨c,l,h1,this.2,.inr h2⟩
 obtain ⟨c,w,hd,hw,hc⟩:=key
 have hc2 : c.toNat=45∨(48≤c.toNat∧c.toNat≤57):=by
  rcases hc with h | h
  ·exact .inl h
  ·unfold digB at h;simp only [Bool.and_eq_true,decide_eq_true_eq] at h;exact .inr h
 obtain ⟨m,rfl⟩ : ∃ k,m=k+1:=⟨m-1,by omega⟩
 rw [hd] at hu h2
 have hu' : u.drop p=c::(w.take m++[]):=by rw [hu];simp
 obtain ⟨_,_,g2,_⟩:=drop_get hu'
 have hw2 : (w.take m).all digB=true:=by
  rw [List.all_eq_true] at hw ⊢
  exact fun x hx=>hw x (List.mem_of_mem_take hx)
 have hrun : runEnd digB u (p+1)=u.length:=by
  rw [run_stop g2 hw2 fun d hd=>by simp at hd]
  simp at h2 ⊢
  omega
 have hl : letB c=false:=by unfold letB isLetter;simp;omega
 have hb : blankB c=false:=by unfold blankB blank;simp;omega
 have e:=lexNext_at hu' hb
 unfold lexC at e
 rw [if_neg (by omega),hl,if_neg (by decide),if_pos hc,hrun] at e
 split at e
 ·exact .inr (.inr ⟨3,p,_,_,.inr rfl,e⟩)
 ·exact .inl ⟨_,_,e⟩
theorem pre_quote {p : Nat} {r : Bs} (t : Bs) (hn : n≤s.length) (h : s.drop p=quoteS t++r) (hx : Pre s (s.take n) (p+(quoteS t).length)) : Pre s (s.take n) p :=
 pre_tok (P:=fun _=>True) (quoteS t) hn h (fun _ _=>trivial) (fun w' r' hw' _=>tok_quote t hw') (fun u m hu h1 h2 _=>.inl (quote_part hu h2 h1)) hx
theorem stop61 {r : Bs} (h : Stop r) : ∀ d,r.head?=some d→d.toNat≠61:=fun d hd=>(h d hd).2
theorem enc_61 {q : Nat} {v : T} (h : v.wf q) (r : Bs) : ∀ d,(v.enc++r).head?=some d→d.toNat≠61:=by
 obtain ⟨c,w,e,hc⟩:=enc_head h
 intro d hd
 rw [e] at hd
 cases hd;exact hc
theorem encs_61 {q : Nat} {l : List T} (b : Bool) (h : T.wfs q l) (c : UInt8) (hc : c=93∨c=62) (r : Bs) : ∀ d,(T.encs b l++c::r).head?=some d→d.toNat≠61:=by
 cases l with
 | nil=>intro d hd;cases hd;rcases hc with rfl | rfl<;>decide
 | cons x l =>
  cases b with
  | true=>intro d hd;cases hd;decide
  | false =>
   simp only [T.encs,Bool.false_eq_true,if_false,List.nil_append,List.append_assoc]
   exact enc_61 h.1 _
mutual
theorem enc_pre (hn : n≤s.length) : ∀ (v : T) (q p : Nat) (r : Bs),v.wf q→s.drop p=v.enc++r→Stop r→Pre s (s.take n) (p+v.enc.length)→Pre s (s.take n) p
 | .sc k i t,q,p,r,hw,h,hr,hx=>by
  simp only [T.enc] at h hx
  rcases hw.2 with ⟨rfl,rfl,rfl⟩ | ⟨rfl,hi,rfl⟩ | ⟨rfl,rfl,hi⟩ | ⟨rfl,rfl⟩
  ·exact pre_word (c:=110) (w:=[117,108,108]) hn h (by decide) (by decide) (by decide) (by decide) hr hx
  ·rcases hi with rfl | rfl
   ·exact pre_word (c:=102) (w:=[97,108,115,101]) hn h (by decide) (by decide) (by decide) (by decide) hr hx
   ·exact pre_word (c:=116) (w:=[114,117,101]) hn h (by decide) (by decide) (by decide) (by decide) hr hx
  ·exact pre_num i hi hn h hr hx
  ·exact pre_quote t hn h hx
 | .vec l,q,p,r,hw,h,hr,hx=>by
  simp only [T.enc,List.length_cons,List.length_append,List.length_nil] at h hx
  have h0 : s.drop p=91::(T.encs false l++93::r):=by simpa using h
  have g:=(drop_get h0).2.2.1
  refine pre_sign hn (by simp) h0 (encs_61 false hw.2 93 (.inl rfl) r) (encs_pre hn false l _ _ 93 r hw.2 g (.inl rfl) ?_)
  exact pre_sign hn (by simp) (drop_pre g) (stop61 hr) (by rw [show p+1+(T.encs false l).length+1=p+((T.encs false l).length+(0+1)+1) by omega];exact hx)
 | .map l,q,p,r,hw,h,hr,hx=>by
  simp only [T.enc,List.length_cons,List.length_append,List.length_nil] at h hx
  have h0 : s.drop p=123::(T.mencs false l++125::r):=by simpa using h
  have g:=(drop_get h0).2.2.1
  refine pre_sign hn (by simp) h0 ?_ (mencs_pre hn false l _ _ r hw.2.2 g ?_)
  ·intro d hd
   cases l with
   | nil=>cases hd;decide
   | cons x l=>cases hd;decide
  ·exact pre_sign hn (by simp) (drop_pre g) (stop61 hr) (by rw [show p+1+(T.mencs false l).length+1=p+((T.mencs false l).length+(0+1)+1) by omega];exact hx)
 | .set l,q,p,r,hw,h,hr,hx=>by
  simp only [T.enc,List.length_cons,List.length_append,List.length_nil] at h hx
  have h0 : s.drop p=60::(T.encs false l++62::r):=by simpa using h
  have g:=(drop_get h0).2.2.1
  refine pre_sign hn (by simp) h0 (encs_61 false hw.2.2 62 (.inr rfl) r) (encs_pre hn false l _ _ 62 r hw.2.2 g (.inr rfl) ?_)
  exact pre_sign hn (by simp) (drop_pre g) (stop61 hr) (by rw [show p+1+(T.encs false l).length+1=p+((T.encs false l).length+(0+1)+1) by omega];exact hx)
theorem encs_pre (hn : n≤s.length) : ∀ (b : Bool) (l : List T) (q p : Nat) (c : UInt8) (r : Bs),T.wfs q l→s.drop p=T.encs b l++c::r→(c=93∨c=62)→Pre s (s.take n) (p+(T.encs b l).length)→Pre s (s.take n) p
 | b,[],q,p,c,r,_,_,_,hx=>by simpa [T.encs] using hx
 | true,x::l,q,p,c,r,hw,h,hc,hx=>by
  simp only [T.encs,if_true,List.cons_append,List.nil_append,List.append_assoc,List.length_cons,List.length_append] at h hx
  have g:=(drop_get h).2.2.1
  refine pre_sign hn (by simp) h (enc_61 hw.1 _) (enc_pre hn x _ _ _ hw.1 g (encs_head l c r hc) (encs_pre hn true l _ _ c r hw.2 (drop_pre g) hc ?_))
  rw [show p+1+x.enc.length+(T.encs true l).length=p+(x.enc.length+(T.encs true l).length+1) by omega];exact hx
 | false,x::l,q,p,c,r,hw,h,hc,hx=>by
  simp only [T.encs,Bool.false_eq_true,if_false,List.nil_append,List.append_assoc,List.length_append] at h hx
  refine enc_pre hn x _ _ _ hw.1 h (encs_head l c r hc) (encs_pre hn true l _ _ c r hw.2 (drop_pre h) hc ?_)
  rw [show p+x.enc.length+(T.encs true l).length=p+(x.enc.length+(T.encs true l).length) by omega];exact hx
theorem mencs_pre (hn : n≤s.length) : ∀ (b : Bool) (l : List (Bs × T)) (q p : Nat) (r : Bs),T.wfm q l→s.drop p=T.mencs b l++125::r→Pre s (s.take n) (p+(T.mencs b l).length)→Pre s (s.take n) p
 | b,[],q,p,r,_,_,hx=>by simpa [T.mencs] using hx
 | true,(k,x)::l,q,p,r,hw,h,hx=>by
  simp only [T.mencs,if_true,List.cons_append,List.nil_append,List.append_assoc,List.length_cons,List.length_append] at h hx
  have g:=(drop_get h).2.2.1
  have g2:=drop_pre g
  have g3:=(drop_get g2).2.2.1
  refine pre_sign hn (by simp) h (fun d hd=>by cases hd;decide) (pre_quote k hn g (pre_sign hn (by simp) g2 (enc_61 hw.1 _) (enc_pre hn x _ _ _ hw.1 g3 (mencs_head l r) (mencs_pre hn true l _ _ r hw.2 (drop_pre g3) ?_))))
  rw [show p+1+(quoteS k).length+1+x.enc.length+(T.mencs true l).length=p+((quoteS k).length+(x.enc.length+(T.mencs true l).length+1)+1) by omega];exact hx
 | false,(k,x)::l,q,p,r,hw,h,hx=>by
  simp only [T.mencs,Bool.false_eq_true,if_false,List.cons_append,List.nil_append,List.append_assoc,List.length_cons,List.length_append] at h hx
  have g2:=drop_pre h
  have g3:=(drop_get g2).2.2.1
  refine pre_quote k hn h (pre_sign hn (by simp) g2 (enc_61 hw.1 _) (enc_pre hn x _ _ _ hw.1 g3 (mencs_head l r) (mencs_pre hn true l _ _ r hw.2 (drop_pre g3) ?_)))
  rw [show p+(quoteS k).length+1+x.enc.length+(T.mencs true l).length=p+((quoteS k).length+(x.enc.length+(T.mencs true l).length+1)) by omega];exact hx
end
end
end Go.V
namespace Go.V
theorem peekP_of {s : Bs} {a : Int} {k x e : Nat} {i : Int} {t : Bs} (h : lexNext s a=.tok k x e i t) (hk : k≠0) : peekP s a=.tok k x e i t:=by
 unfold peekP
 rw [h]
 cases k with
 | zero=>exact absurd rfl hk
 | succ k=>rfl
theorem peek_pre {s u : Bs} {a : Nat} (h : Pre s u a) {k x e : Nat} {i : Int} {t : Bs} (hp : peekP u a=.tok k x e i t) : (peekP s a=.tok k x e i t∧Pre s u e)∨((k=2∨k=3)∧e=u.length):=by
 obtain ⟨hk,hl⟩:=peekP_tok hp
 cases h with
 | same h1 h2 h3 h4 =>
  rw [h2] at hl
  cases hl
  exact .inl ⟨peekP_of h1 h3,h4⟩
 | cut hc =>
  rcases hc with ⟨c,p,h⟩ | ⟨x,e,i,t,h⟩ | ⟨k',x',i',t',hk',h⟩
  ·rw [h] at hl;cases hl
  ·rw [h] at hl;cases hl;exact absurd rfl hk
  ·rw [h] at hl;cases hl;exact .inr ⟨hk',rfl⟩
theorem peek_dead (u : Bs) : peekP u u.length=.err 10 u.length:=by
 unfold peekP;rw [lexNext_end];rfl
theorem begin_dead {k : Nat} {i : Int} {t : Bs} {b : Int × Int × Bs × Int} (hk : k=2∨k=3) (h : beginP k i t=some b) : b.2.2.2=0:=by
 unfold beginP at h
 rcases hk with rfl | rfl
 ·simp only at h
  repeat' split at h
  all_goals first
   | (cases h;rfl)
   | (cases h;done)
   | omega
   | (rename_i h1 _;exact absurd h1 (by decide))
 ·simp at h;rw [← h]
theorem dead_val {u : Bs} {f : Nat} {a : Int} {n q k x e e' : Nat} {i : Int} {t : Bs} {w : T} {n' : Nat} (hp : peekP u a=.tok k x e i t) (hk : k=2∨k=3) (h : rd f u a n q .val=some (.ok w e' n')) : e'=e:=by
 cases f with
 | zero=>simp [rd] at h
 | succ f =>
  rw [rd,Md.isVal,if_pos rfl,hp] at h
  simp only at h
  cases hB : beginP k i t with
  | none=>rw [hB] at h;cases h
  | some b =>
   have h0:=begin_dead hk hB
   obtain ⟨sk,si,st,kd⟩:=b
   rw [hB] at h
   simp only at h h0
   split at h
   ·cases h
   ·split at h
    ·cases h
    ·first
      | (cases h;rfl)
      | (rw [if_pos h0] at h;cases h;rfl)
theorem dead_parts {u : Bs} {f : Nat} {a : Int} {n q k x : Nat} {i : Int} {t : Bs} {m : Md} {w : T} {e' n' : Nat} (hp : peekP u a=.tok k x u.length i t) (hk : k=2∨k=3) (hm : m.isVal=false) (h : rd f u a n q m=some (.ok w e' n')) : False:=by
 cases f with
 | zero=>simp [rd] at h
 | succ f =>
  rw [rd,hm,if_neg (by decide)] at h
  cases hO : one (fun a n q=>rd f u a n q .val) u a n q m with
  | none=>rw [hO] at h;cases h
  | some r =>
   cases r with
   | er c p=>rw [hO] at h;cases h
   | ok m' e1 n1 =>
    have he : e1=u.length:=by
     cases m with
     | val=>cases hm
     | vec acc =>
      simp only [one] at hO
      split at hO
      ·cases hO
      ·cases hO
      ·rename_i h1;cases hO;exact dead_val hp hk h1
     | map acc =>
      simp only [one,hp] at hO
      rw [if_pos (by omega)] at hO
      cases hO
     | set acc =>
      simp only [one,hp] at hO
      split at hO
      ·cases hO
      ·cases hO
      ·rename_i h1
       split at hO
       ·cases hO
       ·cases hO;exact dead_val hp hk h1
    rw [hO] at h
    subst he
    simp only at h
    rw [peek_dead] at h
    cases h
theorem one_pre {s u : Bs} {rs ru : Int→Nat→Nat→Option Rs} (hv : ∀ (a n q : Nat) (w : T) (e n' : Nat),Pre s u a→ru a n q=some (.ok w e n')→(rs a n q=some (.ok w e n')∧Pre s u e)∨e=u.length)
  (hd : ∀ (a : Int) (n q k x : Nat) (i : Int) (t : Bs) (w : T) (e n' : Nat),peekP u a=.tok k x u.length i t→(k=2∨k=3)→ru a n q=some (.ok w e n')→e=u.length)
  {a n q : Nat} {m m' : Md} {e n' : Nat} (hP : Pre s u a) (h : one ru u a n q m=some (.ok m' e n')) : (one rs s a n q m=some (.ok m' e n')∧Pre s u e)∨e=u.length:=by
 cases m with
 | val=>cases h
 | vec acc =>
  simp only [one] at h ⊢
  cases h1 : ru a n (q+1) with
  | none=>rw [h1] at h;cases h
  | some r =>
   rw [h1] at h
   cases r with
   | er c p=>cases h
   | ok v e1 n1 =>
    cases h
    rcases hv _ _ _ _ _ _ hP h1 with ⟨h2,h3⟩ | h2
    ·rw [h2];exact .inl ⟨rfl,h3⟩
    ·exact .inr h2
 | map acc =>
  simp only [one] at h ⊢
  cases hL : peekP u a with
  | err c p=>rw [hL] at h;cases h
  | tok k x e1 i t =>
   rw [hL] at h
   simp only at h
   split at h
   ·cases h
   ·rename_i hk
    have hk4 : k=4:=by simpa using hk
    split at h
    ·cases h
    ·rename_i hlk
     rcases peek_pre hP hL with ⟨hs,hP1⟩ | ⟨hk2,_⟩
     rotate_left
     ·omega
     rw [hs]
     simp only
     rw [if_neg hk,if_neg hlk]
     cases hL2 : peekP u e1 with
     | err c p=>rw [hL2] at h;cases h
     | tok k2 x2 e2 i2 t2 =>
      rw [hL2] at h
      simp only at h
      split at h
      ·rename_i hc
       rcases peek_pre hP1 hL2 with ⟨hs2,hP2⟩ | ⟨hk2,_⟩
       rotate_left
       ·omega
       rw [hs2]
       simp only
       rw [if_pos hc]
       cases h1 : ru e2 n (q+1) with
       | none=>rw [h1] at h;cases h
       | some r =>
        rw [h1] at h
        cases r with
        | er c p=>cases h
        | ok v e3 n3 =>
         cases h
         rcases hv _ _ _ _ _ _ hP2 h1 with ⟨h2,h3⟩ | h2
         ·rw [h2];exact .inl ⟨rfl,h3⟩
         ·exact .inr h2
      ·cases h
 | set acc =>
  simp only [one] at h ⊢
  cases hL : peekP u a with
  | err c p=>rw [hL] at h;cases h
  | tok k x e1 i t =>
   rw [hL] at h
   simp only at h
   cases h1 : ru a n (q+1) with
   | none=>rw [h1] at h;cases h
   | some r =>
    rw [h1] at h
    cases r with
    | er c p=>cases h
    | ok v e2 n2 =>
     simp only at h
     split at h
     ·cases h
     ·rename_i hlk
      cases h
      rcases peek_pre hP hL with ⟨hs,hP1⟩ | ⟨hk2,rfl⟩
      ·rcases hv _ _ _ _ _ _ hP h1 with ⟨h2,h3⟩ | h2
       ·rw [hs]
        simp only
        rw [h2]
        simp only
        rw [if_neg hlk]
        exact .inl ⟨rfl,h3⟩
       ·exact .inr h2
      ·exact .inr (hd _ _ _ _ _ _ _ _ _ _ hL hk2 h1)
theorem cl_one (m : Md) : ∀ k : Nat,(k=2∨k=3)→∀ t : Bs,¬ (k=1∧t=m.cl):=fun k hk t h=>by omega
theorem rd_pre (s u : Bs) : ∀ f : Nat,(∀ (a n q : Nat) (w : T) (e n' : Nat),Pre s u a→rd f u a n q .val=some (.ok w e n')→(rd f s a n q .val=some (.ok w e n')∧Pre s u e)∨(e=u.length∧∃ k x i t,(k=2∨k=3)∧peekP u a=.tok k x u.length i t)) ∧
  (∀ (a n q : Nat) (m : Md) (w : T) (e n' : Nat),m.isVal=false→Pre s u a→rd f u a n q m=some (.ok w e n')→rd f s a n q m=some (.ok w e n')∧Pre s u e):=by
 intro f
 induction f with
 | zero=>exact ⟨fun _ _ _ _ _ _ _ h=>by simp [rd] at h,fun _ _ _ _ _ _ _ _ _ h=>by simp [rd] at h⟩
 | succ f ih =>
  obtain ⟨iA,iB⟩:=ih
  constructor
  ·intro a n q w e n' hP h
   cases hL : peekP u a with
   | err c p=>rw [rd,Md.isVal,if_pos rfl,hL] at h;cases h
   | tok k x e1 i t =>
    rcases peek_pre hP hL with ⟨hs,hP1⟩ | ⟨hk,rfl⟩
    rotate_left
    ·exact .inr ⟨dead_val hL hk h,k,x,i,t,hk,rfl⟩
    left
    rw [rd,Md.isVal,if_pos rfl,hL] at h
    rw [rd,Md.isVal,if_pos rfl,hs]
    simp only at h ⊢
    cases hB : beginP k i t with
    | none=>rw [hB] at h;cases h
    | some b =>
     obtain ⟨sk,si,st,kd⟩:=b
     rw [hB] at h
     simp only at h ⊢
     split at h
     ·cases h
     ·rename_i hq
      rw [if_neg hq]
      split at h
      ·cases h
      ·rename_i hn
       rw [if_neg hn]
       split at h
       ·rename_i hk0
        rw [if_pos hk0]
        cases h
        exact ⟨rfl,hP1⟩
       ·rename_i hk0
        rw [if_neg hk0]
        cases hL2 : peekP u e1 with
        | err c p=>rw [hL2] at h;cases h
        | tok k2 x2 e2 i2 t2 =>
         rw [hL2] at h
         simp only at h
         rcases peek_pre hP1 hL2 with ⟨hs2,hP2⟩ | ⟨hk2,rfl⟩
         ·rw [hs2]
          simp only
          split at h
          ·rename_i hc
           rw [if_pos hc]
           cases h
           exact ⟨rfl,hP2⟩
          ·rename_i hc
           rw [if_neg hc]
           exact iB _ _ _ _ _ _ _ (openM_wf (q:=0) kd (by omega)).2.2 hP1 h
         ·rw [if_neg (cl_one _ _ hk2 _)] at h
          exact (dead_parts hL2 hk2 (openM_wf (q:=0) kd (by omega)).2.2 h).elim
  ·intro a n q m w e n' hm hP h
   rw [rd,hm,if_neg (by decide)] at h
   rw [rd,hm,if_neg (by decide)]
   cases hO : one (fun a n q=>rd f u a n q .val) u a n q m with
   | none=>rw [hO] at h;cases h
   | some r =>
    cases r with
    | er c p=>rw [hO] at h;cases h
    | ok m' e1 n1 =>
     have hm':=(one_kind hO).2.1
     rw [hO] at h
     simp only at h
     rcases one_pre (rs:=fun a n q=>rd f s a n q .val) (fun a n q w e n' hP h=>by
       rcases iA a n q w e n' hP h with h1 | ⟨h1,_⟩
       ·exact .inl h1
       ·exact .inr h1) (fun a n q k x i t w e n' h1 h2 h3=>dead_val h1 h2 h3) hP hO with ⟨h1,hP1⟩ | rfl
     rotate_left
     ·rw [peek_dead] at h;cases h
     rw [h1]
     simp only
     cases hL2 : peekP u e1 with
     | err c p=>rw [hL2] at h;cases h
     | tok k2 x2 e2 i2 t2 =>
      rw [hL2] at h
      simp only at h
      rcases peek_pre hP1 hL2 with ⟨hs2,hP2⟩ | ⟨hk2,rfl⟩
      ·rw [hs2]
       simp only
       split at h
       ·rename_i hc
        rw [if_pos hc]
        exact iB _ _ _ _ _ _ _ hm' hP2 h
       ·rename_i hc
        rw [if_neg hc]
        split at h
        ·rename_i hc2
         rw [if_pos hc2]
         cases h
         exact ⟨rfl,hP2⟩
        ·cases h
      ·rw [if_neg (by omega),if_neg (by omega)] at h
       cases h
def T.big : T→Prop
 | .sc k _ _=>k=3
 | _=>True
theorem enc_cut {v : T} (hw : v.wf 1) (hn : v.nd≤16384) (hb : v.big) {n f : Nat} (h : n < v.enc.length) (hf : v.enc.length≤f) (w : T) (n' : Nat) : rdP f (v.enc.take n)≠some (.ok w n'):=by
 intro hR
 have hul : (v.enc.take n).length=n:=by rw [List.length_take];omega
 have hP : Pre v.enc (v.enc.take n) 0:=enc_pre (by omega) v 1 0 [] hw (by simp) .nil (.cut (cut_end (by omega)))
 have hback:=(rd_back f).1 v v.enc 0 0 1 [] hw (by omega) (by simp) .nil hf
 unfold rdP at hR
 split at hR
 ·cases hR
 ·split at hR
  ·cases hR
  ·cases hR
  ·rename_i w1 e n1 hrd
   have hpos:=rd_pos f hrd
   rcases (rd_pre v.enc (v.enc.take n) f).1 0 0 1 w1 e n1 hP hrd with ⟨h1,_⟩ | ⟨_,k,x,i,t,hk,h2⟩
   ·rw [h1] at hback
    simp only [Option.some.injEq,Rs.ok.injEq] at hback
    omega
   ·have h3:=(peekP_tok h2).2
    have hne : ∃ c r,v.enc.take n=c::r∧(c=34∨c=91∨c=123∨c=60):=by
     cases n with
     | zero=>omega
     | succ n =>
      cases v with
      | sc k i t =>
       have hk3 : k=3:=hb
       subst hk3
       exact ⟨34,_,rfl,by simp⟩
      | vec l=>exact ⟨91,_,rfl,by simp⟩
      | map l=>exact ⟨123,_,rfl,by simp⟩
      | set l=>exact ⟨60,_,rfl,by simp⟩
    obtain ⟨c,r,he,hc⟩:=hne
    rw [he] at h3
    have hcb : blankB c=false:=by rcases hc with rfl | rfl | rfl | rfl<;>decide
    have h4:=lexNext_at (s:=c::r) (p:=0) (rest:=r) rfl hcb
    rw [h4] at h3
    unfold lexC at h3
    rcases hc with rfl | rfl | rfl | rfl
    ·rw [if_pos (by decide)] at h3
     split at h3
     ·simp only [Lx.tok.injEq] at h3;have:=h3.1;omega
     ·cases h3
    all_goals
     rw [if_neg (by decide),if_neg (by decide),if_neg (by decide)] at h3
     split at h3
     ·simp only [Lx.tok.injEq] at h3;have:=h3.1;omega
     ·cases h3
end Go.V
