/- Texts L11 L12 L13. -/
import Derived.Test.YthhjefemijhamaaGreatDoorG39
set_option linter.unusedVariables false
set_option linter.unusedSimpArgs false
namespace Go.V
def Stop (r : Bs) : Prop:=∀ c,r.head?=some c→wordB c=false∧c.toNat≠61
theorem Stop.nil : Stop []:=fun c h=>by cases h
theorem Stop.cons {c : UInt8} {r : Bs} (h1 : wordB c=false) (h2 : c.toNat≠61) : Stop (c::r):=fun d h=>by cases h;exact ⟨h1,h2⟩
theorem drop_pre {s : Bs} {p : Nat} {x r : Bs} (h : s.drop p=x++r) : s.drop (p+x.length)=r:=by
 rw [← List.drop_drop,h];simp
theorem hexval_hexd : ∀ n,n < 16→hexval (hexd n)=some n:=by decide
theorem u8_eq {c d : UInt8} (h : c.toNat=d.toNat) : c=d:=UInt8.toNat_inj.1 h
theorem unq_step {u r : Bs} (c : UInt8) (i f : Nat) (out : Bs) (h : u.drop i=quoteB c++r) : unqGo u (f+1) i out=unqGo u f (i+(quoteB c).length) (out++[c]):=by
 have hc:=c.toNat_lt
 unfold quoteB at h ⊢
 split at h
 ·rename_i hq
  rw [if_pos hq]
  obtain ⟨g1,_,g2,_⟩:=drop_get (c:=92) (rest:=c::r) h
  obtain ⟨g3,_,_,_⟩:=drop_get g2
  rw [unqGo,g1]
  simp only
  rw [if_neg (by decide),if_neg (by decide),if_neg (by decide),g3]
  simp only
  rcases hq with h | h
  ·have:=u8_eq (d:=34) h;subst this;rfl
  ·have:=u8_eq (d:=92) h;subst this;rfl
 ·rename_i hq
  rw [if_neg hq]
  have esc : ∀ d e : UInt8,e.toNat≠120→escOf e=some c→u.drop i=[92,e]++r→unqGo u (f+1) i out=unqGo u f (i+2) (out++[c]):=by
   intro d e h1 h2 h
   obtain ⟨g1,_,g2,_⟩:=drop_get (c:=92) (rest:=e::r) h
   obtain ⟨g3,_,_,_⟩:=drop_get g2
   rw [unqGo,g1]
   simp only
   rw [if_neg (by decide),if_neg (by decide),if_neg (by decide),g3]
   simp only
   rw [if_neg h1,h2]
  split at h
  ·rename_i h10;rw [if_pos h10]
   have:=u8_eq (d:=10) h10;subst this
   exact esc 0 110 (by decide) (by decide) h
  ·rename_i h10;rw [if_neg h10]
   split at h
   ·rename_i h9;rw [if_pos h9]
    have:=u8_eq (d:=9) h9;subst this
    exact esc 0 116 (by decide) (by decide) h
   ·rename_i h9;rw [if_neg h9]
    split at h
    ·rename_i h13;rw [if_pos h13]
     have:=u8_eq (d:=13) h13;subst this
     exact esc 0 114 (by decide) (by decide) h
    ·rename_i h13;rw [if_neg h13]
     split at h
     ·rename_i hx;rw [if_pos hx]
      obtain ⟨g1,_,g2,_⟩:=drop_get (c:=92) (rest:=120::hexd (c.toNat / 16)::hexd (c.toNat % 16)::r) h
      obtain ⟨g3,_,g4,_⟩:=drop_get g2
      obtain ⟨g5,_,g6,_⟩:=drop_get g4
      obtain ⟨g7,_,_,_⟩:=drop_get g6
      have hp : pairV u (i+2)=(c.toNat,i+4,0):=by
       unfold pairV
       rw [g5]
       simp only
       rw [hexval_hexd _ (by omega)]
       simp only
       rw [g7]
       simp only
       rw [hexval_hexd _ (by omega)]
       simp only [Prod.mk.injEq,and_true]
       omega
      rw [unqGo,g1]
      simp only
      rw [if_neg (by decide),if_neg (by decide),if_neg (by decide),g3]
      simp only
      rw [if_pos (by decide),hp]
      simp
     ·rename_i hx;rw [if_neg hx]
      obtain ⟨g1,_,_,_⟩:=drop_get (c:=c) (rest:=r) h
      rw [unqGo,g1]
      simp only
      rw [if_neg (by omega),if_neg (by omega),if_pos (by omega)]
      rfl
theorem quoteB_pos (c : UInt8) : 1≤(quoteB c).length:=by
 unfold quoteB
 repeat' split
 all_goals simp
theorem unqGo_quote (u r : Bs) : ∀ (t : Bs) (i f : Nat) (out : Bs),u.drop i=t.flatMap quoteB++34::r→t.length < f→unqGo u f i out=(out++t,i+(t.flatMap quoteB).length+1,0)
 | [],i,f,out,h,hf=>by
  obtain ⟨f,rfl⟩ : ∃ g,f=g+1:=⟨f-1,by simp at hf;omega⟩
  obtain ⟨g1,_,_,_⟩:=drop_get (c:=34) (rest:=r) h
  rw [unqGo,g1]
  simp
 | c::t,i,f,out,h,hf=>by
  obtain ⟨f,rfl⟩ : ∃ g,f=g+1:=⟨f-1,by simp at hf;omega⟩
  rw [List.flatMap_cons,List.append_assoc] at h
  rw [unq_step c i f out h,unqGo_quote u r t _ f _ (drop_pre h) (by simp at hf;omega)]
  simp [List.flatMap_cons]
  omega
theorem flat_len (t : Bs) : t.length≤(t.flatMap quoteB).length:=by
 induction t with
 | nil=>simp
 | cons c t ih=>have:=quoteB_pos c;simp only [List.flatMap_cons,List.length_append,List.length_cons];omega
theorem unquote_quote (t r : Bs) : unquote (quoteS t++r)=(t,(quoteS t).length,0):=by
 have hl:=flat_len t
 unfold unquote
 have h0 : (quoteS t++r)[0]?=some 34:=rfl
 rw [h0]
 simp only
 rw [if_pos (by decide),unqGo_quote (quoteS t++r) r t 1 _ [] (by simp [quoteS]) (by simp only [quoteS,List.length_cons,List.length_append];omega)]
 simp [quoteS]
 omega
theorem tok_quote {s : Bs} {p : Nat} {r : Bs} (t : Bs) (h : s.drop p=quoteS t++r) : peekP s p=.tok 4 p (p+(quoteS t).length) 0 t:=by
 unfold peekP
 rw [lexNext_at (c:=34) (rest:=t.flatMap quoteB++[34]++r) (by rw [h];rfl) (by decide)]
 unfold lexC
 rw [if_pos (by decide),h,unquote_quote]
 simp
theorem takeWhile_stop {f : UInt8→Bool} : ∀ {x r : Bs},x.all f=true→(∀ c,r.head?=some c→f c=false)→((x++r).takeWhile f).length=x.length
 | [],[],_,_=>rfl
 | [],c::r,_,hr=>by rw [List.nil_append,List.takeWhile_cons,hr c rfl];rfl
 | c::x,r,hx,hr=>by
  simp only [List.all_cons,Bool.and_eq_true] at hx
  rw [List.cons_append,List.takeWhile_cons,hx.1]
  simp only [if_true,List.length_cons]
  rw [takeWhile_stop hx.2 hr]
theorem run_stop {f : UInt8→Bool} {s : Bs} {p : Nat} {x r : Bs} (h : s.drop p=x++r) (hx : x.all f=true) (hr : ∀ c,r.head?=some c→f c=false) : runEnd f s p=p+x.length:=by
 rw [runEnd_one h,takeWhile_stop hx hr]
theorem tok_word {s : Bs} {p : Nat} {c : UInt8} {w r : Bs} (h : s.drop p=(c::w)++r) (hl : letB c=true) (hb : blankB c=false) (h34 : c.toNat≠34) (hw : w.all wordB=true) (hr : Stop r) : peekP s p=.tok 2 p (p+(c::w).length) 0 (c::w):=by
 obtain ⟨_,_,g2,_⟩:=drop_get (c:=c) (rest:=w++r) h
 have hrun : runEnd wordB s (p+1)=p+(c::w).length:=by
  rw [run_stop g2 hw fun d hd=>(hr d hd).1];simp;omega
 unfold peekP
 rw [lexNext_at (c:=c) (rest:=w++r) h hb]
 unfold lexC
 rw [if_neg h34,if_pos hl,hrun,h,show p+(c::w).length-p=(c::w).length by omega,List.take_left']
 ·rfl
 ·rfl
theorem natDigits_all : ∀ m,(natDigits m).all digB=true:=by
 intro m
 induction m using Nat.strongRecOn with
 | ind m ih =>
  unfold natDigits
  split
  ·rename_i h
   have : ∀ m,m < 10→[UInt8.ofNat (48+m)].all digB=true:=by decide
   exact this m h
  ·have h2 : ∀ k,k < 10→[UInt8.ofNat (48+k)].all digB=true:=by decide
   rw [List.all_append,ih (m / 10) (by omega),h2 (m % 10) (by omega)];rfl
theorem numVal_app (a : Bs) (c : UInt8) : numVal (a++[c])=10*numVal a+(c.toNat-48):=by
 unfold numVal;rw [List.foldl_append];rfl
theorem numVal_digits : ∀ m,numVal (natDigits m)=m:=by
 have h2 : ∀ k,k < 10→(UInt8.ofNat (48+k)).toNat-48=k:=by decide
 intro m
 induction m using Nat.strongRecOn with
 | ind m ih =>
  unfold natDigits
  split
  ·rename_i h
   show 10*0+_=_
   rw [h2 m h];omega
  ·rw [numVal_app,ih (m / 10) (by omega),h2 (m % 10) (by omega)];omega
theorem natDigits_ne (m : Nat) : natDigits m≠[]:=by
 have:=natDigits_length m
 intro h;rw [h] at this;simp at this
theorem natDigits_head : ∀ m,0 < m→((natDigits m).head?.map (fun c=>c.toNat == 48)).getD false=false:=by
 intro m
 induction m using Nat.strongRecOn with
 | ind m ih =>
  intro hm
  unfold natDigits
  split
  ·rename_i h
   have : ∀ m,m < 10→0 < m→([UInt8.ofNat (48+m)].head?.map (fun c=>c.toNat == 48)).getD false=false:=by decide
   exact this m h hm
  ·have:=ih (m / 10) (by omega) (by omega)
   cases hd : natDigits (m / 10) with
   | nil=>exact absurd hd (natDigits_ne _)
   | cons c l=>rw [hd] at this;exact this
theorem digits_head (m : Nat) : ∃ c l,natDigits m=c::l∧digB c=true:=by
 cases hd : natDigits m with
 | nil=>exact absurd hd (natDigits_ne _)
 | cons c l =>
  have:=natDigits_all m
  rw [hd,List.all_cons,Bool.and_eq_true] at this
  exact ⟨c,l,rfl,this.1⟩
theorem isNeg_digits (m : Nat) : isNeg (natDigits m)=false:=by
 obtain ⟨c,l,h,hc⟩:=digits_head m
 rw [h]
 unfold digB at hc
 simp only [Bool.and_eq_true,decide_eq_true_eq] at hc
 simp [isNeg];omega
theorem parse_digs (n : Int) (h : -9223372036854775808≤n∧n≤9223372036854775807) : parseNum (digs n)=(n,0):=by
 unfold digs
 split
 ·rename_i hn
  have hb : body (45::natDigits n.natAbs)=natDigits n.natAbs:=rfl
  have hneg : isNeg (45::natDigits n.natAbs)=true:=rfl
  have hok : wordOK (45::natDigits n.natAbs)=true:=by
   unfold wordOK
   rw [hb,natDigits_head _ (by omega),natDigits_all]
   have:=natDigits_ne n.natAbs
   simpa using this
  unfold parseNum
  rw [hok,hneg,hb,numVal_digits]
  simp only [if_true]
  rw [if_neg (by omega)]
  simp;omega
 ·rename_i hn
  have hneg:=isNeg_digits n.natAbs
  have hb : body (natDigits n.natAbs)=natDigits n.natAbs:=by unfold body;rw [hneg];rfl
  have hok : wordOK (natDigits n.natAbs)=true:=by
   unfold wordOK
   rw [hb,natDigits_all]
   have h1:=natDigits_ne n.natAbs
   by_cases h0 : n.natAbs=0
   ·rw [h0,show natDigits 0=[48] by unfold natDigits;rfl];decide
   ·rw [natDigits_head _ (by omega)]
    simpa using h1
  unfold parseNum
  rw [hok,hneg,hb,numVal_digits]
  simp only [if_true,Bool.false_eq_true,if_false]
  rw [if_neg (by omega)]
  simp;omega
theorem tok_num {s : Bs} {p : Nat} {r : Bs} (n : Int) (hn : -9223372036854775808≤n∧n≤9223372036854775807) (h : s.drop p=digs n++r) (hr : Stop r) : peekP s p=.tok 3 p (p+(digs n).length) n []:=by
 have hdr : ∀ c,r.head?=some c→digB c=false:=by
  intro c hc
  have:=(hr c hc).1
  unfold wordB at this
  rw [Bool.or_eq_false_iff] at this
  have h2:=this.2
  rw [Bool.eq_false_iff] at h2 ⊢
  intro h3
  apply h2
  unfold digB at h3
  unfold isDigit
  simp only [Bool.and_eq_true,decide_eq_true_eq] at h3 ⊢
  omega
 have key : ∃ c w,digs n=c::w∧w.all digB=true∧(c.toNat=45∨digB c=true):=by
  unfold digs
  split
  ·exact ⟨45,_,rfl,natDigits_all _,.inl rfl⟩
  ·obtain ⟨c,l,h1,h2⟩:=digits_head n.natAbs
   have:=natDigits_all n.natAbs
   rw [h1,List.all_cons,Bool.and_eq_true] at this
   exact ⟨c,l,h1,this.2,.inr h2⟩
 obtain ⟨c,w,hd,hw,hc⟩:=key
 have hc2 : c.toNat=45∨(48≤c.toNat∧c.toNat≤57):=by
  rcases hc with h | h
  ·exact .inl h
  ·unfold digB at h;simp only [Bool.and_eq_true,decide_eq_true_eq] at h;exact .inr h
 have hp:=parse_digs n hn
 rw [hd] at h hp ⊢
 obtain ⟨_,_,g2,_⟩:=drop_get (c:=c) (rest:=w++r) h
 have hrun : runEnd digB s (p+1)=p+(c::w).length:=by
  rw [run_stop g2 hw hdr];simp;omega
 unfold peekP
 rw [lexNext_at (c:=c) (rest:=w++r) h (by unfold blankB blank;simp;omega)]
 unfold lexC
 have hl : letB c=false:=by unfold letB isLetter;simp;omega
 rw [if_neg (by omega),hl,if_neg (by decide),if_pos hc,hrun,h,show p+(c::w).length-p=(c::w).length by omega,List.take_left' rfl,hp]
 simp
theorem sign_one {s : Bs} {p : Nat} {c : UInt8} {r : Bs} (h : s.drop p=c::r) (hc : c=58∨c=123∨c=125) : peekP s p=.tok 1 p (p+1) 0 [c]:=by
 rcases hc with rfl | rfl | rfl<;>exact tok_sign [_] h (by decide) (by decide) (by decide) (by decide) (by simp [signTexts,List.isPrefixOf])
theorem sign_angle {s : Bs} {p : Nat} {c : UInt8} {r : Bs} (h : s.drop p=c::r) (hc : c=60∨c=62) (hr : ∀ d,r.head?=some d→d.toNat≠61) : peekP s p=.tok 1 p (p+1) 0 [c]:=by
 have : ∀ e : UInt8,(signTexts.find? fun x=>x.isPrefixOf (c::r))=some [c]:=by
  intro _
  cases r with
  | nil=>rcases hc with rfl | rfl<;>decide
  | cons d r =>
   have h61:=hr d rfl
   have hd : (d == 61)=false:=by
    rw [beq_eq_false_iff_ne];intro e;subst e;exact h61 rfl
   have hd' : ((61 : UInt8) == d)=false:=by
    rw [beq_eq_false_iff_ne];intro e;subst e;exact h61 rfl
   rcases hc with rfl | rfl<;>simp [signTexts,List.isPrefixOf,hd,hd']
 rcases hc with rfl | rfl<;>exact tok_sign [_] h (by decide) (by decide) (by decide) (by decide) (this 0)
end Go.V
namespace Go.V
def scOK (k i : Int) (t : Bs) : Prop:=(k=0∧i=0∧t=[])∨(k=1∧(i=0∨i=1)∧t=[])∨(k=2∧t=[]∧-9223372036854775808≤i∧i≤9223372036854775807)∨(k=3∧i=0)
mutual
def T.wf : Nat→T→Prop
 | q,.sc k i t=>q≤64∧scOK k i t
 | q,.vec l=>q≤64∧T.wfs (q+1) l
 | q,.map l=>q≤64∧Rise l∧T.wfm (q+1) l
 | q,.set l=>q≤64∧Rise (l.map fun x=>(x.key,x))∧T.wfs (q+1) l
def T.wfs : Nat→List T→Prop
 | _,[]=>True
 | q,x::l=>x.wf q∧T.wfs q l
def T.wfm : Nat→List (Bs × T)→Prop
 | _,[]=>True
 | q,p::l=>p.2.wf q∧T.wfm q l
end
mutual
def T.nd : T→Nat
 | .sc _ _ _=>1
 | .vec l=>1+T.nds l
 | .map l=>1+T.ndm l
 | .set l=>1+T.nds l
def T.nds : List T→Nat
 | []=>0
 | x::l=>x.nd+T.nds l
def T.ndm : List (Bs × T)→Nat
 | []=>0
 | p::l=>p.2.nd+T.ndm l
end
theorem wfm_insK {q : Nat} {k : Bs} {v : T} (hv : v.wf q) : ∀ {l : List (Bs × T)},T.wfm q l→T.wfm q (insK k v l)
 | [],_=>by simp [insK,T.wfm,hv]
 | (k',v')::l,h=>by
  simp only [T.wfm] at h
  unfold insK
  split
  ·simp only [T.wfm];exact ⟨hv,h⟩
  ·split
   ·simp only [T.wfm];exact ⟨hv,h.2⟩
   ·simp only [T.wfm];exact ⟨h.1,wfm_insK hv h.2⟩
theorem ndm_insK {k : Bs} {v : T} : ∀ {l : List (Bs × T)},(∀ p ∈ l,p.1≠k)→T.ndm (insK k v l)=T.ndm l+v.nd
 | [],_=>by simp [insK,T.ndm]
 | (k',v')::l,h=>by
  unfold insK
  split
  ·simp only [T.ndm];omega
  ·split
   ·rename_i he;exact absurd he.symm (h (k',v') (by simp))
   ·simp only [T.ndm];rw [ndm_insK fun p hp=>h p (by simp [hp])];omega
theorem wfm_wfs {q : Nat} : ∀ {l : List (Bs × T)},T.wfm q l→T.wfs q (l.map (·.2))
 | [],_=>trivial
 | p::l,h=>by simp only [T.wfm] at h;simp only [List.map_cons,T.wfs];exact ⟨h.1,wfm_wfs h.2⟩
theorem ndm_nds : ∀ l : List (Bs × T),T.nds (l.map (·.2))=T.ndm l
 | []=>rfl
 | p::l=>by simp only [List.map_cons,T.nds,T.ndm];rw [ndm_nds l]
theorem keyed : ∀ {l : List (Bs × T)},(∀ p ∈ l,p.1=p.2.key)→(l.map (·.2)).map (fun x=>(x.key,x))=l
 | [],_=>rfl
 | p::l,h=>by
  simp only [List.map_cons]
  rw [keyed fun p hp=>h p (by simp [hp]),← h p (by simp)]
def Md.wf (q : Nat) : Md→Prop
 | .val=>True
 | .vec l=>q≤64∧T.wfs (q+1) l
 | .map l=>q≤64∧Rise l∧T.wfm (q+1) l
 | .set l=>q≤64∧Rise l∧(∀ p ∈ l,p.1=p.2.key)∧T.wfm (q+1) l
def Md.nd : Md→Nat
 | .val=>0
 | .vec l=>1+T.nds l
 | .map l=>1+T.ndm l
 | .set l=>1+T.ndm l
end Go.V
namespace Go.V
theorem digs_head (n : Int) : ∃ c w,digs n=c::w∧c.toNat≠61:=by
 unfold digs
 split
 ·exact ⟨45,_,rfl,by decide⟩
 ·obtain ⟨c,l,h1,h2⟩:=digits_head n.natAbs
  refine ⟨c,l,h1, ?_⟩
  unfold digB at h2
  simp only [Bool.and_eq_true,decide_eq_true_eq] at h2
  omega
theorem enc_head {q : Nat} {v : T} (h : v.wf q) : ∃ c w,v.enc=c::w∧c.toNat≠61:=by
 cases v with
 | sc k i t =>
  simp only [T.enc]
  obtain ⟨_,h⟩:=h
  rcases h with ⟨rfl,rfl,rfl⟩ | ⟨rfl,hi,rfl⟩ | ⟨rfl,rfl,hi⟩ | ⟨rfl,rfl⟩
  ·exact ⟨110,_,rfl,by decide⟩
  ·rcases hi with rfl | rfl
   ·exact ⟨102,_,rfl,by decide⟩
   ·exact ⟨116,_,rfl,by decide⟩
  ·exact digs_head i
  ·exact ⟨34,_,rfl,by decide⟩
 | vec l=>exact ⟨91,_,rfl,by decide⟩
 | map l=>exact ⟨123,_,rfl,by decide⟩
 | set l=>exact ⟨60,_,rfl,by decide⟩
theorem stop_of {c : UInt8} {r : Bs} (h : c=44∨c=93∨c=125∨c=62∨c=58) : Stop (c::r):=by
 rcases h with rfl | rfl | rfl | rfl | rfl<;>exact .cons (by decide) (by decide)
theorem encs_head (l : List T) (c : UInt8) (r : Bs) (hc : c=93∨c=62) : Stop (T.encs true l++c::r):=by
 cases l with
 | nil=>exact stop_of (by rcases hc with rfl | rfl<;>simp)
 | cons x l=>exact stop_of (c:=44) (.inl rfl)
theorem mencs_head (l : List (Bs × T)) (r : Bs) : Stop (T.mencs true l++125::r):=by
 cases l with
 | nil=>exact stop_of (by simp)
 | cons x l=>exact stop_of (c:=44) (.inl rfl)
theorem tok_sc {s : Bs} {p : Nat} {r : Bs} {k i : Int} {t : Bs} (h : scOK k i t) (hs : s.drop p=scEnc k i t++r) (hr : Stop r) : ∃ k' i' t',peekP s p=.tok k' p (p+(scEnc k i t).length) i' t'∧beginP k' i' t'=some (k,i,t,0)∧k'≠1:=by
 rcases h with ⟨rfl,rfl,rfl⟩ | ⟨rfl,hi,rfl⟩ | ⟨rfl,rfl,hi⟩ | ⟨rfl,rfl⟩
 ·exact ⟨2,0,_,tok_word (c:=110) (w:=[117,108,108]) hs (by decide) (by decide) (by decide) (by decide) hr,by decide,by decide⟩
 ·rcases hi with rfl | rfl
  ·exact ⟨2,0,_,tok_word (c:=102) (w:=[97,108,115,101]) hs (by decide) (by decide) (by decide) (by decide) hr,by decide,by decide⟩
  ·exact ⟨2,0,_,tok_word (c:=116) (w:=[114,117,101]) hs (by decide) (by decide) (by decide) (by decide) hr,by decide,by decide⟩
 ·exact ⟨3,i,[],tok_num i hi hs hr,rfl,by decide⟩
 ·exact ⟨4,0,t,tok_quote t hs,rfl,by decide⟩
theorem tok_first {s : Bs} {p q : Nat} {r : Bs} {v : T} (h : v.wf q) (hs : s.drop p=v.enc++r) (hr : Stop r) : ∃ k e i t,peekP s p=.tok k p e i t∧¬ (k=1∧(t=[93]∨t=[125]∨t=[62])):=by
 cases v with
 | sc k i t =>
  obtain ⟨k',i',t',h1,_,h3⟩:=tok_sc h.2 hs hr
  exact ⟨_,_,_,_,h1,fun h=>h3 h.1⟩
 | vec l =>
  exact ⟨_,_,_,_,tok_open hs,by simp⟩
 | map l =>
  exact ⟨_,_,_,_,sign_one hs (by simp),by simp⟩
 | set l =>
  refine ⟨_,_,_,_,sign_angle hs (.inl rfl) ?_,by simp⟩
  intro d hd
  cases l with
  | nil=>cases hd;decide
  | cons x l =>
   obtain ⟨c,w,e1,e2⟩:=enc_head h.2.2.1
   simp only [T.encs,Bool.false_eq_true,if_false,List.nil_append,e1] at hd
   cases hd;exact e2
theorem insK_last {k : Bs} {v : T} : ∀ {l : List (Bs × T)},(∀ p ∈ l,bl p.1 k=true)→insK k v l=l++[(k,v)]
 | [],_=>rfl
 | (k',v')::l,h=>by
  have h1:=h (k',v') (by simp)
  unfold insK
  rw [if_neg (by rw [bl_asymm h1];decide),if_neg (fun e=>bl_ne h1 e.symm),insK_last fun p hp=>h p (by simp [hp])]
  rfl
theorem rise_mid {α : Type} {a : List (Bs × α)} {k : Bs} {v : α} {b : List (Bs × α)} (h : Rise (a++(k,v)::b)) : ∀ p ∈ a,bl p.1 k=true:=by
 intro p hp
 exact (List.pairwise_append.1 h).2.2 p hp (k,v) (by simp)
mutual
theorem enc_pos : ∀ v : T,1≤v.nd
 | .sc _ _ _=>by simp [T.nd]
 | .vec _=>by simp [T.nd]
 | .map _=>by simp [T.nd]
 | .set _=>by simp [T.nd]
end
theorem rd_back : ∀ f : Nat,
  (∀ (v : T) (s : Bs) (p n q : Nat) (r : Bs),v.wf q→n+v.nd≤16384→s.drop p=v.enc++r→Stop r→v.enc.length≤f→rd f s p n q .val=some (.ok v (p+v.enc.length) (n+v.nd))) ∧
  (∀ (x : T) (l acc : List T) (s : Bs) (p n q : Nat) (r : Bs),T.wfs (q+1) (x::l)→n+T.nds (x::l)≤16384→s.drop p=x.enc++(T.encs true l++93::r)→x.enc.length+(T.encs true l).length+1≤f→rd f s p n q (.vec acc)=some (.ok (.vec (acc++x::l)) (p+x.enc.length+(T.encs true l).length+1) (n+T.nds (x::l)))) ∧
  (∀ (k : Bs) (x : T) (l acc : List (Bs × T)) (s : Bs) (p n q : Nat) (r : Bs),T.wfm (q+1) ((k,x)::l)→Rise (acc++(k,x)::l)→n+T.ndm ((k,x)::l)≤16384→s.drop p=quoteS k++58::(x.enc++(T.mencs true l++125::r))→(quoteS k).length+x.enc.length+(T.mencs true l).length+2≤f→rd f s p n q (.map acc)=some (.ok (.map (acc++(k,x)::l)) (p+(quoteS k).length+1+x.enc.length+(T.mencs true l).length+1) (n+T.ndm ((k,x)::l)))) ∧
  (∀ (x : T) (l : List T) (acc : List (Bs × T)) (s : Bs) (p n q : Nat) (r : Bs),T.wfs (q+1) (x::l)→Rise (acc++(x::l).map fun x=>(x.key,x))→n+T.nds (x::l)≤16384→s.drop p=x.enc++(T.encs true l++62::r)→Stop r→x.enc.length+(T.encs true l).length+1≤f→rd f s p n q (.set acc)=some (.ok (.set (acc.map (·.2)++x::l)) (p+x.enc.length+(T.encs true l).length+1) (n+T.nds (x::l)))):=by
 intro f
 induction f with
 | zero =>
  refine ⟨fun v s p n q r h _ _ _ hl=>?_,fun _ _ _ _ _ _ _ _ _ _ _ hl=>by omega,fun _ _ _ _ _ _ _ _ _ _ _ _ _ hl=>by omega,fun _ _ _ _ _ _ _ _ _ _ _ _ _ hl=>by omega⟩
  obtain ⟨c,w,e,_⟩:=enc_head h
  rw [e] at hl;simp at hl
 | succ f ih =>
  obtain ⟨iA,iV,iM,iS⟩:=ih
  refine ⟨?_, ?_, ?_, ?_⟩
  ·intro v s p n q r hw hn hs hr hl
   have hq : q≤64:=by cases v<;>exact hw.1
   have hnd:=enc_pos v
   cases v with
   | sc k i t =>
    obtain ⟨k',i',t',h1,h2,_⟩:=tok_sc hw.2 hs hr
    rw [rd,Md.isVal,if_pos rfl,h1]
    simp only
    rw [h2]
    simp only
    rw [if_neg (by omega),if_neg (by omega),if_pos (by decide)]
    rfl
   | vec l =>
    simp only [T.enc,T.nd,List.length_cons,List.length_append,List.length_nil] at hs hl hn ⊢
    have h0 : s.drop p=91::(T.encs false l++93::r):=by simpa using hs
    have g2:=(drop_get h0).2.2.1
    rw [rd,Md.isVal,if_pos rfl,tok_open h0]
    simp only [beginP]
    rw [if_neg (by decide),if_neg (by decide),if_pos (by decide),if_pos (by decide)]
    simp only
    rw [if_neg (by omega),if_neg (by omega),if_neg (by decide)]
    cases l with
    | nil =>
     rw [tok_close (rest:=r) g2]
     simp only [openM,if_true,Md.cl,and_self,Md.fin,T.encs,T.nds,List.length_nil]
    | cons x l =>
     simp only [T.encs,Bool.false_eq_true,if_false,List.nil_append,List.append_assoc] at g2 hl ⊢
     obtain ⟨k,e,i,t,h1,h2⟩:=tok_first (r:=T.encs true l++93::r) hw.2.1 g2 (encs_head l 93 r (.inl rfl))
     rw [h1]
     simp only [openM,if_true,Md.cl]
     rw [if_neg (fun h=>h2 ⟨h.1,.inl h.2⟩),iV x l [] s (p+1) (n+1) q r hw.2 (by omega) g2 (by simp at hl;omega)]
     simp only [List.nil_append,List.length_append]
     congr 2<;>omega
   | map l =>
    simp only [T.enc,T.nd,List.length_cons,List.length_append,List.length_nil] at hs hl hn ⊢
    have h0 : s.drop p=123::(T.mencs false l++125::r):=by simpa using hs
    have g2:=(drop_get h0).2.2.1
    rw [rd,Md.isVal,if_pos rfl,sign_one h0 (by simp)]
    simp only [beginP]
    rw [if_neg (by decide),if_neg (by decide),if_pos (by decide),if_neg (by decide),if_pos (by decide)]
    simp only
    rw [if_neg (by omega),if_neg (by omega),if_neg (by decide)]
    cases l with
    | nil =>
     rw [sign_one (c:=125) (r:=r) g2 (by simp)]
     simp only [openM,Md.cl,and_self,Md.fin,T.mencs,T.ndm,List.length_nil]
     rfl
    | cons x l =>
     obtain ⟨k0,x⟩:=x
     simp only [T.mencs,Bool.false_eq_true,if_false,List.nil_append,List.append_assoc,List.cons_append] at g2 hl ⊢
     rw [tok_quote k0 g2]
     have ho : openM 5=.map []:=rfl
     rw [ho]
     simp only
     rw [if_neg (by simp),iM k0 x l [] s (p+1) (n+1) q r hw.2.2 hw.2.1 (by omega) g2 (by simp at hl;omega)]
     simp only [List.nil_append,List.length_append,List.length_cons]
     congr 2<;>omega
   | set l =>
    simp only [T.enc,T.nd,List.length_cons,List.length_append,List.length_nil] at hs hl hn ⊢
    have h0 : s.drop p=60::(T.encs false l++62::r):=by simpa using hs
    have g2:=(drop_get h0).2.2.1
    have h61 : ∀ d,(T.encs false l++62::r).head?=some d→d.toNat≠61:=by
     intro d hd
     cases l with
     | nil=>cases hd;decide
     | cons x l =>
      obtain ⟨c,w,e1,e2⟩:=enc_head hw.2.2.1
      simp only [T.encs,Bool.false_eq_true,if_false,List.nil_append,e1] at hd
      cases hd;exact e2
    rw [rd,Md.isVal,if_pos rfl,sign_angle h0 (.inl rfl) h61]
    simp only [beginP]
    rw [if_neg (by decide),if_neg (by decide),if_pos (by decide),if_neg (by decide),if_neg (by decide),if_pos (by decide)]
    simp only
    rw [if_neg (by omega),if_neg (by omega),if_neg (by decide)]
    have ho : openM 6=.set []:=rfl
    rw [ho]
    cases l with
    | nil =>
     rw [sign_angle (c:=62) (r:=r) g2 (.inr rfl) fun d hd=>(hr d hd).2]
     simp only [Md.cl,and_self,if_true,Md.fin,T.encs,T.nds,List.length_nil]
     rfl
    | cons x l =>
     simp only [T.encs,Bool.false_eq_true,if_false,List.nil_append,List.append_assoc] at g2 hl ⊢
     obtain ⟨k,e,i,t,h1,h2⟩:=tok_first (r:=T.encs true l++62::r) hw.2.2.1 g2 (encs_head l 62 r (.inr rfl))
     rw [h1]
     simp only
     rw [if_neg (fun h : k=1∧t=(Md.set []).cl=>h2 ⟨h.1,.inr (.inr h.2)⟩),iS x l [] s (p+1) (n+1) q r hw.2.2 hw.2.1 (by omega) g2 hr (by simp at hl;omega)]
     simp only [List.map_nil,List.nil_append,List.length_append]
     congr 2<;>omega
  ·intro x l acc s p n q r hw hn hs hl
   simp only [T.nds] at hn ⊢
   rw [rd,if_neg (by simp [Md.isVal])]
   simp only [one]
   rw [iA x s p n (q+1) _ hw.1 (by omega) hs (encs_head l 93 r (.inl rfl)) (by omega)]
   simp only
   have g:=drop_pre hs
   cases l with
   | nil =>
    rw [tok_close (rest:=r) g]
    simp only [Md.cl,Md.fin,T.encs,T.nds,List.length_nil]
    rw [if_neg (by decide),if_pos (by decide)]
    rfl
   | cons y l =>
    simp only [T.encs,if_true,List.cons_append,List.nil_append,List.append_assoc,List.length_cons,List.length_append] at g hl ⊢
    rw [tok_comma g]
    simp only [and_self,if_true]
    rw [iV y l (acc++[x]) s (p+x.enc.length+1) (n+x.nd) q r hw.2 (by omega) (drop_get g).2.2.1 (by omega)]
    simp only [T.nds,List.append_assoc,List.cons_append,List.nil_append]
    congr 2<;>omega
  ·intro k x l acc s p n q r hw hR hn hs hl
   simp only [T.ndm] at hn ⊢
   have hlt:=rise_mid hR
   have hlk : ¬ (lk acc k).isSome=true:=by
    rw [lk_none fun p hp=>bl_ne (hlt p hp)];simp
   rw [rd,if_neg (by simp [Md.isVal])]
   simp only [one]
   have g:=drop_pre hs
   have g2:=(drop_get g).2.2.1
   rw [tok_quote k hs]
   simp only
   rw [if_neg (by simp),if_neg hlk,sign_one g (by simp)]
   simp only [and_self,if_true]
   rw [iA x s _ n (q+1) _ hw.1 (by omega) g2 (mencs_head l r) (by omega)]
   simp only
   rw [insK_last hlt]
   have g3:=drop_pre g2
   cases l with
   | nil =>
    rw [sign_one (c:=125) (r:=r) g3 (by simp)]
    simp only [Md.cl,Md.fin,T.mencs,T.ndm,List.length_nil]
    rw [if_neg (by decide),if_pos (by decide)]
    rfl
   | cons y l =>
    obtain ⟨k1,y⟩:=y
    simp only [T.mencs,if_true,List.cons_append,List.nil_append,List.append_assoc,List.length_cons,List.length_append] at g3 hl ⊢
    rw [tok_comma g3]
    simp only [and_self,if_true]
    rw [iM k1 y l (acc++[(k,x)]) s _ (n+x.nd) q r hw.2 (by simpa using hR) (by omega) (drop_get g3).2.2.1 (by omega)]
    simp only [T.ndm,List.append_assoc,List.cons_append,List.nil_append]
    congr 2<;>omega
  ·intro x l acc s p n q r hw hR hn hs hr hl
   simp only [T.nds] at hn ⊢
   simp only [List.map_cons] at hR
   have hlt:=rise_mid hR
   have hlk : ¬ (lk acc x.key).isSome=true:=by
    rw [lk_none fun p hp=>bl_ne (hlt p hp)];simp
   rw [rd,if_neg (by simp [Md.isVal])]
   simp only [one]
   obtain ⟨k',e',i',t',h1,_⟩:=tok_first hw.1 hs (encs_head l 62 r (.inr rfl))
   rw [h1]
   simp only
   rw [iA x s p n (q+1) _ hw.1 (by omega) hs (encs_head l 62 r (.inr rfl)) (by omega)]
   simp only
   rw [if_neg hlk,insK_last hlt]
   simp only
   have g:=drop_pre hs
   cases l with
   | nil =>
    rw [sign_angle (c:=62) (r:=r) g (.inr rfl) fun d hd=>(hr d hd).2]
    simp only [Md.cl,Md.fin,T.encs,T.nds,List.length_nil,List.map_append,List.map_cons,List.map_nil]
    rw [if_neg (by decide),if_pos (by decide)]
    rfl
   | cons y l =>
    simp only [T.encs,if_true,List.cons_append,List.nil_append,List.append_assoc,List.length_cons,List.length_append] at g hl ⊢
    rw [tok_comma g]
    simp only [and_self,if_true]
    rw [iS y l (acc++[(x.key,x)]) s (p+x.enc.length+1) (n+x.nd) q r hw.2 (by simpa using hR) (by omega) (drop_get g).2.2.1 hr (by omega)]
    simp only [T.nds,List.map_append,List.map_cons,List.map_nil,List.append_assoc,List.cons_append,List.nil_append]
    congr 2<;>omega
theorem rdP_back {v : T} (hw : v.wf 1) (hn : v.nd≤16384) (hl : v.enc.length≤1048576) : rdP v.enc.length v.enc=some (.ok v v.nd):=by
 have h:=(rd_back v.enc.length).1 v v.enc 0 0 1 [] hw (by omega) (by simp) .nil (Nat.le_refl _)
 unfold rdP
 rw [if_neg (by omega)]
 rw [show ((0 : Nat) : Int)=0 from rfl] at h
 rw [h]
 simp only [Nat.zero_add]
 rw [lexNext_end]
 rfl
end Go.V
