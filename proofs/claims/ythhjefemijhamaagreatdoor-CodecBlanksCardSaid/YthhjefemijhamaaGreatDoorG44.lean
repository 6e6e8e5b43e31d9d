/- Texts L11 L12 L13. -/
import Derived.Test.YthhjefemijhamaaGreatDoorG41
set_option linter.unusedVariables false
set_option linter.unusedSimpArgs false
namespace Go.V
def Stop (r : Bs) : Prop:=∀ c,r.head?=some c→wordB c=false∧c.toNat≠61
theorem Stop.nil : Stop []:=fun c h=>by cases h
theorem Stop.cons {c : UInt8} {r : Bs} (h1 : wordB c=false) (h2 : c.toNat≠61) : Stop (c::r):=fun d h=>by cases h;exact ⟨h1,h2⟩
theorem drop_pre {s : Bs} {p : Nat} {x r : Bs} (h : s.drop p=x++r) : s.drop (p+x.length)=r:=by
 rw [← List.drop_drop,h];simp
theorem hexval_hexd : ∀ n,n < 16→hexval (hexd n)=some n:=by decide
theorem u8_eq {c d : UInt8} (h : c.toNat=d.toNat) : c=d:=UInt8.toNat_inj.1 h
theorem unq_step {u r : Bs} (c : UInt8) (i f : Nat) (out : Bs) (h : u.drop i=quoteB c++r) : unqGo u (f+1) i out=unqGo u f (i+(quoteB c).length) (out++[c]):=by
 have hc:=c.toNat_lt
 unfold quoteB at h ⊢
 split at h
 ·rename_i hq
  rw [if_pos hq]
  obtain ⟨g1,_,g2,_⟩:=drop_get (c:=92) (rest:=c::r) h
  obtain ⟨g3,_,_,_⟩:=drop_get g2
  rw [unqGo,g1]
  simp only
  rw [if_neg (by decide),if_neg (by decide),if_neg (by decide),g3]
  simp only
  rcases hq with h | h
  ·have:=u8_eq (d:=34) h;subst this;rfl
  ·have:=u8_eq (d:=92) h;subst this;rfl
 ·rename_i hq
  rw [if_neg hq]
  have esc : ∀ d e : UInt8,e.toNat≠120→escOf e=some c→u.drop i=[92,e]++r→unqGo u (f+1) i out=unqGo u f (i+2) (out++[c]):=by
   intro d e h1 h2 h
   obtain ⟨g1,_,g2,_⟩:=drop_get (c:=92) (rest:=e::r) h
   obtain ⟨g3,_,_,_⟩:=drop_get g2
   rw [unqGo,g1]
   simp only
   rw [if_neg (by decide),if_neg (by decide),if_neg (by decide),g3]
   simp only
   rw [if_neg h1,h2]
  split at h
  ·rename_i h10;rw [if_pos h10]
   have:=u8_eq (d:=10) h10;subst this
   exact esc 0 110 (by decide) (by decide) h
  ·rename_i h10;rw [if_neg h10]
   split at h
   ·rename_i h9;rw [if_pos h9]
    have:=u8_eq (d:=9) h9;subst this
    exact esc 0 116 (by decide) (by decide) h
   ·rename_i h9;rw [if_neg h9]
    split at h
    ·rename_i h13;rw [if_pos h13]
     have:=u8_eq (d:=13) h13;subst this
     exact esc 0 114 (by decide) (by decide) h
    ·rename_i h13;rw [if_neg h13]
     split at h
     ·rename_i hx;rw [if_pos hx]
      obtain ⟨g1,_,g2,_⟩:=drop_get (c:=92) (rest:=120::hexd (c.toNat / 16)::hexd (c.toNat % 16)::r) h
      obtain ⟨g3,_,g4,_⟩:=drop_get g2
      obtain ⟨g5,_,g6,_⟩:=drop_get g4
      obtain ⟨g7,_,_,_⟩:=drop_get g6
      have hp : pairV u (i+2)=(c.toNat,i+4,0):=by
       unfold pairV
       rw [g5]
       simp only
       rw [hexval_hexd _ (by omega)]
       simp only
       rw [g7]
       simp only
       rw [hexval_hexd _ (by omega)]
       simp only [Prod.mk.injEq,and_true]
       omega
      rw [unqGo,g1]
      simp only
      rw [if_neg (by decide),if_neg (by decide),if_neg (by decide),g3]
      simp only
      rw [if_pos (by decide),hp]
      simp
     ·rename_i hx;rw [if_neg hx]
      obtain ⟨g1,_,_,_⟩:=drop_get (c:=c) (rest:=r) h
      rw [unqGo,g1]
      simp only
      rw [if_neg (by omega),if_neg (by omega),if_pos (by omega)]
      rfl
theorem quoteB_pos (c : UInt8) : 1≤(quoteB c).length:=by
 unfold quoteB
 repeat' split
 all_goals simp
theorem unqGo_quote (u r : Bs) : ∀ (t : Bs) (i f : Nat) (out : Bs),u.drop i=t.flatMap quoteB++34::r→t.length < f→unqGo u f i out=(out++t,i+(t.flatMap quoteB).length+1,0)
 | [],i,f,out,h,hf=>by
  obtain ⟨f,rfl⟩ : ∃ g,f=g+1:=⟨f-1,by simp at hf;omega⟩
  obtain ⟨g1,_,_,_⟩:=drop_get (c:=34) (rest:=r) h
  rw [unqGo,g1]
  simp
 | c::t,i,f,out,h,hf=>by
  obtain ⟨f,rfl⟩ : ∃ g,f=g+1:=⟨f-1,by simp at hf;omega⟩
  rw [List.flatMap_cons,List.append_assoc] at h
  rw [unq_step c i f out h,unqGo_quote u r t _ f _ (drop_pre h) (by simp at hf;omega)]
  simp [List.flatMap_cons]
  omega
theorem flat_len (t : Bs) : t.length≤(t.flatMap quoteB).length:=by
 induction t with
 | nil=>simp
 | cons c t ih=>have:=quoteB_pos c;simp only [List.flatMap_cons,List.length_append,List.length_cons];omega
theorem unquote_quote (t r : Bs) : unquote (quoteS t++r)=(t,(quoteS t).length,0):=by
 have hl:=flat_len t
 unfold unquote
 have h0 : (quoteS t++r)[0]?=some 34:=rfl
 rw [h0]
 simp only
 rw [if_pos (by decide),unqGo_quote (quoteS t++r) r t 1 _ [] (by simp [quoteS]) (by simp only [quoteS,List.length_cons,List.length_append];omega)]
 simp [quoteS]
 omega
theorem tok_quote {s : Bs} {p : Nat} {r : Bs} (t : Bs) (h : s.drop p=quoteS t++r) : peekP s p=.tok 4 p (p+(quoteS t).length) 0 t:=by
 unfold peekP
 rw [lexNext_at (c:=34) (rest:=t.flatMap quoteB++[34]++r) (by rw [h];rfl) (by decide)]
 unfold lexC
 rw [if_pos (by decide),h,unquote_quote]
 simp
theorem takeWhile_stop {f : UInt8→Bool} : ∀ {x r : Bs},x.all f=true→(∀ c,r.head?=some c→f c=false)→((x++r).takeWhile f).length=x.length
 | [],[],_,_=>rfl
 | [],c::r,_,hr=>by rw [List.nil_append,List.takeWhile_cons,hr c rfl];rfl
 | c::x,r,hx,hr=>by
  simp only [List.all_cons,Bool.and_eq_true] at hx
  rw [List.cons_append,List.takeWhile_cons,hx.1]
  simp only [if_true,List.length_cons]
  rw [takeWhile_stop hx.2 hr]
theorem run_stop {f : UInt8→Bool} {s : Bs} {p : Nat} {x r : Bs} (h : s.drop p=x++r) (hx : x.all f=true) (hr : ∀ c,r.head?=some c→f c=false) : runEnd f s p=p+x.length:=by
 rw [runEnd_one h,takeWhile_stop hx hr]
theorem tok_word {s : Bs} {p : Nat} {c : UInt8} {w r : Bs} (h : s.drop p=(c::w)++r) (hl : letB c=true) (hb : blankB c=false) (h34 : c.toNat≠34) (hw : w.all wordB=true) (hr : Stop r) : peekP s p=.tok 2 p (p+(c::w).length) 0 (c::w):=by
 obtain ⟨_,_,g2,_⟩:=drop_get (c:=c) (rest:=w++r) h
 have hrun : runEnd wordB s (p+1)=p+(c::w).length:=by
  rw [run_stop g2 hw fun d hd=>(hr d hd).1];simp;omega
 unfold peekP
 rw [lexNext_at (c:=c) (rest:=w++r) h hb]
 unfold lexC
 rw [if_neg h34,if_pos hl,hrun,h,show p+(c::w).length-p=(c::w).length by omega,List.take_left']
 ·rfl
 ·rfl
theorem natDigits_all : ∀ m,(natDigits m).all digB=true:=by
 intro m
 induction m using Nat.strongRecOn with
 | ind m ih =>
  unfold natDigits
  split
  ·rename_i h
   have : ∀ m,m < 10→[UInt8.ofNat (48+m)].all digB=true:=by decide
   exact this m h
  ·have h2 : ∀ k,k < 10→[UInt8.ofNat (48+k)].all digB=true:=by decide
   rw [List.all_append,ih (m / 10) (by omega),h2 (m % 10) (by omega)];rfl
theorem numVal_app (a : Bs) (c : UInt8) : numVal (a++[c])=10*numVal a+(c.toNat-48):=by
 unfold numVal;rw [List.foldl_append];rfl
theorem numVal_digits : ∀ m,numVal (natDigits m)=m:=by
 have h2 : ∀ k,k < 10→(UInt8.ofNat (48+k)).toNat-48=k:=by decide
 intro m
 induction m using Nat.strongRecOn with
 | ind m ih =>
  unfold natDigits
  split
  ·rename_i h
   show 10*0+_=_
   rw [h2 m h];omega
  ·rw [numVal_app,ih (m / 10) (by omega),h2 (m % 10) (by omega)];omega
theorem natDigits_ne (m : Nat) : natDigits m≠[]:=by
 have:=natDigits_length m
 intro h;rw [h] at this;simp at this
theorem natDigits_head : ∀ m,0 < m→((natDigits m).head?.map (fun c=>c.toNat == 48)).getD false=false:=by
 intro m
 induction m using Nat.strongRecOn with
 | ind m ih =>
  intro hm
  unfold natDigits
  split
  ·rename_i h
   have : ∀ m,m < 10→0 < m→([UInt8.ofNat (48+m)].head?.map (fun c=>c.toNat == 48)).getD false=false:=by decide
   exact this m h hm
  ·have:=ih (m / 10) (by omega) (by omega)
   cases hd : natDigits (m / 10) with
   | nil=>exact absurd hd (natDigits_ne _)
   | cons c l=>rw [hd] at this;exact this
theorem digits_head (m : Nat) : ∃ c l,natDigits m=c::l∧digB c=true:=by
 cases hd : natDigits m with
 | nil=>exact absurd hd (natDigits_ne _)
 | cons c l =>
  have:=natDigits_all m
  rw [hd,List.all_cons,Bool.and_eq_true] at this
  exact ⟨c,l,rfl,this.1⟩
theorem isNeg_digits (m : Nat) : isNeg (natDigits m)=false:=by
 obtain ⟨c,l,h,hc⟩:=digits_head m
 rw [h]
 unfold digB at hc
 simp only [Bool.and_eq_true,decide_eq_true_eq] at hc
 simp [isNeg];omega
theorem parse_digs (n : Int) (h : -9223372036854775808≤n∧n≤9223372036854775807) : parseNum (digs n)=(n,0):=by
 unfold digs
 split
 ·rename_i hn
  have hb : body (45::natDigits n.natAbs)=natDigits n.natAbs:=rfl
  have hneg : isNeg (45::natDigits n.natAbs)=true:=rfl
  have hok : wordOK (45::natDigits n.natAbs)=true:=by
   unfold wordOK
   rw [hb,natDigits_head _ (by omega),natDigits_all]
   have:=natDigits_ne n.natAbs
   simpa using this
  unfold parseNum
  rw [hok,hneg,hb,numVal_digits]
  simp only [if_true]
  rw [if_neg (by omega)]
  simp;omega
 ·rename_i hn
  have hneg:=isNeg_digits n.natAbs
  have hb : body (natDigits n.natAbs)=natDigits n.natAbs:=by unfold body;rw [hneg];rfl
  have hok : wordOK (natDigits n.natAbs)=true:=by
   unfold wordOK
   rw [hb,natDigits_all]
   have h1:=natDigits_ne n.natAbs
   by_cases h0 : n.natAbs=0
   ·rw [h0,show natDigits 0=[48] by unfold natDigits;rfl];decide
   ·rw [natDigits_head _ (by omega)]
    simpa using h1
  unfold parseNum
  rw [hok,hneg,hb,numVal_digits]
  simp only [if_true,Bool.false_eq_true,if_false]
  rw [if_neg (by omega)]
  simp;omega
theorem tok_num {s : Bs} {p : Nat} {r : Bs} (n : Int) (hn : -9223372036854775808≤n∧n≤9223372036854775807) (h : s.drop p=digs n++r) (hr : Stop r) : peekP s p=.tok 3 p (p+(digs n).length) n []:=by
 have hdr : ∀ c,r.head?=some c→digB c=false:=by
  intro c hc
  have:=(hr c hc).1
  unfold wordB at this
  rw [Bool.or_eq_false_iff] at this
  have h2:=this.2
  rw [Bool.eq_false_iff] at h2 ⊢
  intro h3
  apply h2
  unfold digB at h3
  unfold isDigit
  simp only [Bool.and_eq_true,decide_eq_true_eq] at h3 ⊢
  omega
 have key : ∃ c w,digs n=c::w∧w.all digB=true∧(c.toNat=45∨digB c=true):=by
  unfold digs
  split
  ·exact ⟨45,_,rfl,natDigits_all _,.inl rfl⟩
  ·obtain ⟨c,l,h1,h2⟩:=digits_head n.natAbs
   have:=natDigits_all n.natAbs
   rw [h1,List.all_cons,Bool.and_eq_true] at this
   exact ⟨c,l,h1,this.2,.inr h2⟩
 obtain ⟨c,w,hd,hw,hc⟩:=key
 have hc2 : c.toNat=45∨(48≤c.toNat∧c.toNat≤57):=by
  rcases hc with h | h
  ·exact .inl h
  ·unfold digB at h;simp only [Bool.and_eq_true,decide_eq_true_eq] at h;exact .inr h
 have hp:=parse_digs n hn
 rw [hd] at h hp ⊢
 obtain ⟨_,_,g2,_⟩:=drop_get (c:=c) (rest:=w++r) h
 have hrun : runEnd digB s (p+1)=p+(c::w).length:=by
  rw [run_stop g2 hw hdr];simp;omega
 unfold peekP
 rw [lexNext_at (c:=c) (rest:=w++r) h (by unfold blankB blank;simp;omega)]
 unfold lexC
 have hl : letB c=false:=by unfold letB isLetter;simp;omega
 rw [if_neg (by omega),hl,if_neg (by decide),if_pos hc,hrun,h,show p+(c::w).length-p=(c::w).length by omega,List.take_left' rfl,hp]
 simp
end Go.V
namespace Go.V
def scOK (k i : Int) (t : Bs) : Prop:=(k=0∧i=0∧t=[])∨(k=1∧(i=0∨i=1)∧t=[])∨(k=2∧t=[]∧-9223372036854775808≤i∧i≤9223372036854775807)∨(k=3∧i=0)
mutual
def T.wf : Nat→T→Prop
 | q,.sc k i t=>q≤64∧scOK k i t
 | q,.vec l=>q≤64∧T.wfs (q+1) l
 | q,.map l=>q≤64∧Rise l∧T.wfm (q+1) l
 | q,.set l=>q≤64∧Rise (l.map fun x=>(x.key,x))∧T.wfs (q+1) l
def T.wfs : Nat→List T→Prop
 | _,[]=>True
 | q,x::l=>x.wf q∧T.wfs q l
def T.wfm : Nat→List (Bs × T)→Prop
 | _,[]=>True
 | q,p::l=>p.2.wf q∧T.wfm q l
end
mutual
def T.nd : T→Nat
 | .sc _ _ _=>1
 | .vec l=>1+T.nds l
 | .map l=>1+T.ndm l
 | .set l=>1+T.nds l
def T.nds : List T→Nat
 | []=>0
 | x::l=>x.nd+T.nds l
def T.ndm : List (Bs × T)→Nat
 | []=>0
 | p::l=>p.2.nd+T.ndm l
end
theorem wfs_app (q : Nat) : ∀ l m : List T,T.wfs q (l++m)↔T.wfs q l∧T.wfs q m
 | [],m=>by simp [T.wfs]
 | x::l,m=>by simp [T.wfs,wfs_app q l m,and_assoc]
theorem nds_app : ∀ l m : List T,T.nds (l++m)=T.nds l+T.nds m
 | [],m=>by simp [T.nds]
 | x::l,m=>by simp [T.nds,nds_app l m];omega
theorem wfm_insK {q : Nat} {k : Bs} {v : T} (hv : v.wf q) : ∀ {l : List (Bs × T)},T.wfm q l→T.wfm q (insK k v l)
 | [],_=>by simp [insK,T.wfm,hv]
 | (k',v')::l,h=>by
  simp only [T.wfm] at h
  unfold insK
  split
  ·simp only [T.wfm];exact ⟨hv,h⟩
  ·split
   ·simp only [T.wfm];exact ⟨hv,h.2⟩
   ·simp only [T.wfm];exact ⟨h.1,wfm_insK hv h.2⟩
theorem ndm_insK {k : Bs} {v : T} : ∀ {l : List (Bs × T)},(∀ p ∈ l,p.1≠k)→T.ndm (insK k v l)=T.ndm l+v.nd
 | [],_=>by simp [insK,T.ndm]
 | (k',v')::l,h=>by
  unfold insK
  split
  ·simp only [T.ndm];omega
  ·split
   ·rename_i he;exact absurd he.symm (h (k',v') (by simp))
   ·simp only [T.ndm];rw [ndm_insK fun p hp=>h p (by simp [hp])];omega
theorem wfm_wfs {q : Nat} : ∀ {l : List (Bs × T)},T.wfm q l→T.wfs q (l.map (·.2))
 | [],_=>trivial
 | p::l,h=>by simp only [T.wfm] at h;simp only [List.map_cons,T.wfs];exact ⟨h.1,wfm_wfs h.2⟩
theorem ndm_nds : ∀ l : List (Bs × T),T.nds (l.map (·.2))=T.ndm l
 | []=>rfl
 | p::l=>by simp only [List.map_cons,T.nds,T.ndm];rw [ndm_nds l]
theorem keyed : ∀ {l : List (Bs × T)},(∀ p ∈ l,p.1=p.2.key)→(l.map (·.2)).map (fun x=>(x.key,x))=l
 | [],_=>rfl
 | p::l,h=>by
  simp only [List.map_cons]
  rw [keyed fun p hp=>h p (by simp [hp]),← h p (by simp)]
theorem lk_no {l : List (Bs × T)} {k : Bs} (h : ¬ (lk l k).isSome=true) : ∀ p ∈ l,p.1≠k:=by
 intro p hp e
 apply h
 unfold lk
 rw [Option.isSome_map,List.find?_isSome]
 exact ⟨p,hp,by simpa using e⟩
def Md.wf (q : Nat) : Md→Prop
 | .val=>True
 | .vec l=>q≤64∧T.wfs (q+1) l
 | .map l=>q≤64∧Rise l∧T.wfm (q+1) l
 | .set l=>q≤64∧Rise l∧(∀ p ∈ l,p.1=p.2.key)∧T.wfm (q+1) l
def Md.nd : Md→Nat
 | .val=>0
 | .vec l=>1+T.nds l
 | .map l=>1+T.ndm l
 | .set l=>1+T.ndm l
theorem Md.fin_wf {q : Nat} {m : Md} (h : m.wf q) (hv : m.isVal=false) : m.fin.wf q∧m.fin.nd=m.nd:=by
 cases m with
 | val=>cases hv
 | vec l=>simp only [Md.fin,T.wf,T.nd,Md.nd];exact ⟨h,trivial⟩
 | map l=>simp only [Md.fin,T.wf,T.nd,Md.nd];exact ⟨h,trivial⟩
 | set l =>
  obtain ⟨h1,h2,h3,h4⟩:=h
  simp only [Md.fin,T.wf,T.nd,Md.nd,ndm_nds,keyed h3,and_true]
  exact ⟨h1,h2,wfm_wfs h4⟩
theorem openM_wf {q : Nat} (kd : Int) (hq : q≤64) : (openM kd).wf q∧(openM kd).nd=1∧(openM kd).isVal=false:=by
 unfold openM
 repeat' split
 all_goals simp [Md.wf,Md.nd,T.wfs,T.nds,T.ndm,T.wfm,Md.isVal,hq]
theorem begin_ok {k : Nat} {i : Int} {t : Bs} {sk si kd : Int} {st : Bs} (h : beginP k i t=some (sk,si,st,kd)) (hi : -9223372036854775808≤i∧i≤9223372036854775807) (h0 : kd=0) : scOK sk si st:=by
 unfold beginP at h
 unfold scOK
 split at h
 ·cases h;exact .inr (.inr (.inl ⟨rfl,rfl,hi⟩))
 ·split at h
  ·cases h;exact .inr (.inr (.inr ⟨rfl,rfl⟩))
  ·split at h
   ·repeat' split at h
    all_goals first | (cases h;omega) | cases h
   ·split at h
    ·repeat' split at h
     all_goals first | (cases h;simp;done) | cases h
    ·cases h
theorem one_good {rv : Int→Nat→Nat→Option Rs} {s : Bs} {a : Int} {n q : Nat} {m m' : Md} {e n' : Nat} (hv : ∀ a n q v e n',rv a n q=some (.ok v e n')→v.wf q∧n'=n+v.nd∧n'≤16384) (h : one rv s a n q m=some (.ok m' e n')) (hm : m.wf q) : m'.wf q∧n'+m.nd=n+m'.nd∧n'≤16384∧m'.isVal=false:=by
 cases m with
 | val=>cases h
 | vec acc =>
  simp only [one] at h
  split at h
  ·cases h
  ·cases h
  ·rename_i h1;cases h
   obtain ⟨g1,g2,g3⟩:=hv _ _ _ _ _ _ h1
   simp only [Md.wf,Md.nd,wfs_app,nds_app,T.wfs,T.nds,and_true,Md.isVal]
   exact ⟨⟨hm.1,hm.2,g1⟩,by omega,g3⟩
 | map acc =>
  simp only [one] at h
  split at h
  ·cases h
  ·split at h
   ·cases h
   ·split at h
    ·cases h
    ·rename_i hlk
     split at h
     ·cases h
     ·split at h
      ·split at h
       ·cases h
       ·cases h
       ·rename_i h1;cases h
        obtain ⟨g1,g2,g3⟩:=hv _ _ _ _ _ _ h1
        simp only [Md.wf,Md.nd,Md.isVal,and_true]
        rw [ndm_insK (lk_no hlk)]
        exact ⟨⟨hm.1,insK_rise hm.2.1,wfm_insK g1 hm.2.2⟩,by omega,g3⟩
      ·cases h
 | set acc =>
  simp only [one] at h
  split at h
  ·cases h
  ·split at h
   ·cases h
   ·cases h
   ·rename_i h1
    split at h
    ·cases h
    ·rename_i hlk
     cases h
     obtain ⟨g1,g2,g3⟩:=hv _ _ _ _ _ _ h1
     simp only [Md.wf,Md.nd,Md.isVal,and_true]
     rw [ndm_insK (lk_no hlk)]
     refine ⟨⟨hm.1,insK_rise hm.2.1,fun p hp=>?_,wfm_insK g1 hm.2.2.2⟩,by omega,g3⟩
     rcases insK_mem hp with rfl | hp
     ·rfl
     ·exact hm.2.2.1 p hp
theorem rd_good : ∀ (f : Nat) {s : Bs} {a : Int} {n q : Nat} {m : Md} {v : T} {e n' : Nat},rd f s a n q m=some (.ok v e n')→m.wf q→v.wf q∧n'+m.nd=n+v.nd∧n'≤16384
 | 0,s,a,n,q,m,v,e,n',h,_=>by simp [rd] at h
 | f+1,s,a,n,q,m,v,e,n',h,hm=>by
  simp only [rd] at h
  split at h
  ·rename_i hval
   have hm0 : m.nd=0:=by cases m<;>first | rfl | cases hval
   rw [hm0]
   split at h
   ·cases h
   ·rename_i hL
    have b:=peekP_int hL
    split at h
    ·cases h
    ·rename_i sk si st kd hB
     split at h
     ·cases h
     ·rename_i hq
      split at h
      ·cases h
      ·rename_i hn
       split at h
       ·rename_i hk
        cases h
        simp only [T.wf,T.nd]
        exact ⟨⟨by omega,begin_ok hB b hk⟩,trivial,by omega⟩
       ·obtain ⟨w1,w2,w3⟩:=openM_wf (q:=q) kd (by omega)
        split at h
        ·cases h
        ·split at h
         ·cases h
          obtain ⟨g1,g2⟩:=Md.fin_wf w1 w3
          rw [w2] at g2
          exact ⟨g1,by omega,by omega⟩
         ·obtain ⟨g1,g2,g3⟩:=rd_good f h w1
          exact ⟨g1,by omega,g3⟩
  ·split at h
   ·cases h
   ·cases h
   ·rename_i h1
    obtain ⟨g1,g2,g3,g4⟩:=one_good (fun a n q v e n' h=>by have:=rd_good f h trivial;simp only [Md.nd] at this;exact ⟨this.1,by omega,this.2.2⟩) h1 hm
    split at h
    ·cases h
    ·split at h
     ·obtain ⟨k1,k2,k3⟩:=rd_good f h g1
      exact ⟨k1,by omega,k3⟩
     ·split at h
      ·cases h
       obtain ⟨k1,k2⟩:=Md.fin_wf g1 g4
       exact ⟨k1,by omega,g3⟩
      ·cases h
end Go.V
namespace Go.V
theorem rdP_good {f : Nat} {s : Bs} {v : T} {n : Nat} (h : rdP f s=some (.ok v n)) : v.wf 1∧v.nd=n∧n≤16384∧v.enc.length+1≤30*s.length∧v.key.length≤10*s.length:=by
 unfold rdP at h
 split at h
 ·cases h
 ·split at h
  ·cases h
  ·cases h
  ·rename_i w e n' hR
   obtain ⟨g1,g2,g3⟩:=rd_good f hR trivial
   have h1:=rd_enc f s 0 0 1 .val w e n' hR
   have h2:=rd_pos f hR
   have h3:=rd_key f s 0 0 1 .val w e n' hR
   simp only [Md.isVal,if_true,Md.nd] at h1 g2 h3
   split at h
   ·cases h
   ·split at h
    ·simp only [Option.some.injEq,Pr.ok.injEq] at h
     obtain ⟨rfl,rfl⟩:=h
     exact ⟨g1,by omega,g3,by omega,by omega⟩
    ·cases h
end Go.V
