/- Texts V6 V7 V8 V9. -/
import Derived.Laws.StructEq
import Derived.Test.YtgmhpemjlbgfcaaGreatDoorG03
set_option linter.unusedVariables false
set_option linter.unusedSimpArgs false
namespace Go.V
open Go
section
variable {P : Program} {G : Nat→Option (List VV)} {B : Nat→Prop} {w : World} {σ : Store} {μ : List Loc}
theorem mZ : ∀ (vs : List Value) (off k : Nat) (cells : Array Value),off+k+vs.length≤cells.size→∀ i : Nat,
  ((vs.zipIdx k).foldl (fun cs (cj : Value × Nat)=>cs.setIfInBounds (off+cj.2) cj.1) cells)[i]?=if off+k≤i∧i < off+k+vs.length then vs[i-(off+k)]? else cells[i]?
 | [],off,k,cells,_,i=>by simp only [List.zipIdx_nil,List.foldl_nil,List.length_nil];rw [if_neg (by omega)]
 | v::vs,off,k,cells,h,i=>by
  simp only [List.length_cons] at h ⊢
  rw [List.zipIdx_cons,List.foldl_cons,mZ vs off (k+1) _ (by simp;omega) i]
  by_cases h1 : i=off+k
  ·subst h1
   rw [if_neg (by omega),if_pos (by omega),Array.getElem?_setIfInBounds_self_of_lt (by omega)]
   simp
  ·by_cases h2 : off+k≤i∧i < off+k+(vs.length+1)
   ·rw [if_pos (by omega),if_pos h2]
    rw [show i-(off+k)=(i-(off+(k+1)))+1 by omega,List.getElem?_cons_succ]
   ·rw [if_neg (by omega),if_neg h2,Array.getElem?_setIfInBounds_ne (by omega)]
theorem vY (vs : List Value) (off : Nat) (cells : Array Value) (h : off+vs.length≤cells.size) :
  ((vs.zipIdx 0).foldl (fun cs (cj : Value × Nat)=>cs.setIfInBounds (off+cj.2) cj.1) cells).toList=cells.toList.take off++(vs++cells.toList.drop (off+vs.length)):=by
 apply List.ext_getElem?
 intro i
 rw [Array.getElem?_toList,mZ vs off 0 cells (by omega) i]
 simp only [Nat.add_zero]
 have hto : (cells.toList.take off).length=off:=by rw [List.length_take,Array.length_toList];omega
 by_cases h1 : i < off
 ·rw [if_neg (by omega),List.getElem?_append_left (by omega),List.getElem?_take,if_pos h1,Array.getElem?_toList]
 ·rw [List.getElem?_append_right (by omega),hto]
  by_cases h2 : i < off+vs.length
  ·rw [if_pos (by omega),List.getElem?_append_left (by omega)]
  ·rw [if_neg (by omega),List.getElem?_append_right (by omega),List.getElem?_drop,Array.getElem?_toList]
   congr 1;omega
theorem Iz {O : Nat→Prop} {cells xs : List VV} {cs vs : List Value} {off : Nat} (hc : bI w O μ cells cs) (hx : bI w O μ xs vs) : bI w O μ (splice cells off xs) (cs.take off++(vs++cs.drop (off+vs.length))):=by
 unfold splice
 rw [hx.length]
 exact (hc.take off).append (hx.append (hc.drop _))
theorem Qm {O : Nat→Prop} {x : VV} {v : Value} (h : VR w O μ x v) (hd : x.uD=false) : bI w O μ x.cells v.cells.toList :=
 vN h (by rintro rfl;simp [VV.uD] at hd)
theorem rG {O : Nat→Prop} {pl pl' : Nat→Option (Nat × Nat)} (hpl : ∀ i,pl i=pl' i) : ∀ (parts : List (Nat × VV)) (parts' : List (Nat × Value)) (cells cells' : List VV) (cs : Array Value),
  parts'.length=parts.length→(∀ (i : Nat) (p : Nat × VV) (q : Nat × Value),parts[i]?=some p→parts'[i]?=some q→q.1=p.1∧VR w O μ p.2 q.2)→bI w O μ cells cs.toList→qo pl cells parts=some cells' →
  ∃ cs',Instr.fill pl' cs parts'=some cs'∧bI w O μ cells' cs'.toList∧cells'.length=cells.length
 | [],[],cells,cells',cs,_,_,hc,h=>by simp [qo] at h;subst h;exact ⟨cs,rfl,hc,rfl⟩
 | [],q::qs,_,_,_,hl,_,_,_=>by simp at hl
 | p::ps,[],_,_,_,hl,_,_,_=>by simp at hl
 | (i,x)::ps,(j,v)::qs,cells,cells',cs,hl,hp,hc,h=>by
  obtain ⟨rfl,hv⟩:=hp 0 (i,x) (j,v) rfl rfl
  simp only at hv
  simp only [qo] at h
  simp only [Instr.fill,← hpl]
  split at h
  ·cases h
  ·rename_i off size hpl'
   rw [hpl']
   split at h
   ·cases h
   ·rename_i hn
    simp only [not_or,Decidable.not_not,Bool.not_eq_true] at hn
    obtain ⟨h1,h2,h3⟩:=hn
    have hvs:=Qm hv h3
    have hvl : v.cells.size=x.cells.length:=by have:=hvs.length;simpa using this
    have hcl : cs.size=cells.length:=by have:=hc.length;simpa using this
    have hfit : off+x.cells.length≤cells.length:=by omega
    have hstep : (v.cells.zipIdx.foldl (fun cs (cj : Value × Nat)=>cs.setIfInBounds (off+cj.2) cj.1) cs).toList=cs.toList.take off++(v.cells.toList++cs.toList.drop (off+v.cells.toList.length)):=by
     have:=vY v.cells.toList off cs (by simp;omega)
     rw [← this,← Array.foldl_toList,Array.toList_zipIdx]
    have hnew : bI w O μ (splice cells off x.cells) (v.cells.zipIdx.foldl (fun cs (cj : Value × Nat)=>cs.setIfInBounds (off+cj.2) cj.1) cs).toList:=by
     rw [hstep];exact Iz hc hvs
    obtain ⟨cs',h5,h6,h7⟩:=rG hpl ps qs _ cells' _ (by simpa using hl) (fun i p q h1 h2=>hp (i+1) p q (by simpa using h1) (by simpa using h2)) hnew h
    refine ⟨cs', ?_,h6,by rw [h7,mJ hfit]⟩
    show (if (decide (v.cells.size≠size) || decide (off+v.cells.size > cs.size))=true then none else _)=_
    rw [if_neg (by simp;omega)]
    exact h5
theorem Lh {fs : List Field} (h : fs.all (fun f : Field=>(eH P f.type).isSome)=true) : ∃ places : List (Nat × Nat),fs.mapM (fun f : Field=>(P.info? f.type).map fun i=>(f.offset,i.size))=some places ∧
  ∀ i : Nat,(fs[i]?).bind (fun f : Field=>(eH P f.type).map fun n=>(f.offset,n))=places[i]?:=by
 induction fs with
 | nil=>exact ⟨[],rfl,fun i=>by simp⟩
 | cons f fs ih =>
  simp only [List.all_cons,Bool.and_eq_true] at h
  obtain ⟨places,h1,h2⟩:=ih h.2
  have h3:=h.1
  unfold eH at h3
  cases hi : P.info? f.type with
  | none=>simp [hi] at h3
  | some i =>
   refine ⟨(f.offset,i.size)::places,by simp [List.mapM_cons,hi,h1],fun j=>?_⟩
   cases j with
   | zero=>simp [eH,hi]
   | succ j=>simpa using h2 j
theorem Hu (hS : SR B w σ μ) {t : TypeId} {z cs : List VV} {parts : List (Nat × VV)} {parts' : Array (Nat × Value)} (hz : bG P t=some z) (hc : jK P t=some true)
  (hl : parts'.toList.length=parts.length) (hp : ∀ (i : Nat) (p : Nat × VV) (q : Nat × Value),parts[i]?=some p→parts'.toList[i]?=some q→q.1=p.1∧VR w (OO B σ μ) μ p.2 q.2)
  (hf : qo (bH P t) z parts=some cs) : bn P B w σ μ (Instr.build t parts') (.agg cs) σ:=by
 unfold bG at hz
 simp only [Option.bind_eq_some_iff,Option.map_eq_some_iff] at hz
 obtain ⟨it,hi,zv,hzv,rfl⟩:=hz
 have hzr : bI w (OO B σ μ) μ (zv.cells.toList.map rP) zv.cells.toList:=jO _
 unfold jK at hc
 split at hc
 ·rename_i fs hu
  simp only [Option.some.injEq] at hc
  obtain ⟨places,h1,h2⟩:=Lh hc
  obtain ⟨cs',h3,h4,_⟩:=rG (pl:=bH P t) (pl':=fun x=>places.toArray[x]?) (fun i=>by
   unfold bH;rw [hu];simp only;rw [← Array.getElem?_toList,h2 i];simp) parts parts'.toList _ cs zv.cells hl hp hzr hf
  refine .same hS (v:=.agg cs') (run_build w t parts' cs' ?_) (by simp only [VR];exact ⟨_,rfl,h4⟩)
  simp only [Program.built,hi,hu,hzv,h1]
  exact h3
 ·rename_i n e hu
  simp only [Option.some.injEq] at hc
  unfold eH at hc
  cases hie : P.info? e with
  | none=>simp [hie] at hc
  | some ie =>
   obtain ⟨cs',h3,h4,_⟩:=rG (pl:=bH P t) (pl':=fun i=>some (i*ie.size,ie.size)) (fun i=>by
    unfold bH eH;rw [hu];simp [hie]) parts parts'.toList _ cs zv.cells hl hp hzr hf
   refine .same hS (v:=.agg cs') (run_build w t parts' cs' ?_) (by simp only [VR];exact ⟨_,rfl,h4⟩)
   simp only [Program.built,hi,hu,hzv,hie]
   exact h3
 ·cases hc
theorem oH (z : List VV) : ∀ n,(rep z n).length=n*z.length
 | 0=>by simp [rep]
 | n+1=>by simp [rep,oH z n,Nat.succ_mul];omega
theorem Jy {z : List VV} (hz : 0 < z.length) : ∀ (n i : Nat),i < n*z.length→(rep z n)[i]?=z[i % z.length]?
 | 0,i,h=>by simp at h
 | n+1,i,h=>by
  simp only [rep]
  rw [List.getElem?_append]
  split
  ·rename_i hlt;rw [Nat.mod_eq_of_lt hlt]
  ·rename_i hge
   rw [Jy hz n (i-z.length) (by rw [Nat.succ_mul] at h;omega)]
   congr 1
   rw [Nat.mod_eq_sub_mod (Nat.le_of_not_lt hge)]
theorem Jg {O : Nat→Prop} {z : List VV} {zv : Array Value} (h : bI w O μ z zv.toList) (hz : 0 < z.length) (n : Nat) : bI w O μ (rep z n) ((Array.range (n*z.length)).map (zv[· % zv.size]!)).toList:=by
 have hl : zv.size=z.length:=by have:=h.length;simpa using this
 rw [jf]
 refine ⟨by simp [oH],fun i x v hx hv=>?_⟩
 have hi : i < n*z.length:=by have:=(List.getElem?_eq_some_iff.1 hx).1;rwa [oH] at this
 rw [Jy hz n i hi] at hx
 obtain ⟨u,hu,hr⟩:=h.get hx
 have hm : i % z.length < z.length:=Nat.mod_lt _ hz
 have hv' : v=zv[i % zv.size]! := by
  rw [Array.getElem?_toList,Array.getElem?_map] at hv
  simp [hi] at hv
  exact hv.symm
 rw [hv',hl]
 have : zv[i % z.length]! = u:=by
  rw [Array.getElem?_toList] at hu
  have h3 : i % z.length < zv.size:=by omega
  simp [h3] at hu ⊢
  exact hu
 rw [this];exact hr
theorem xI (hS : SR B w σ μ) {t e : TypeId} {n k : Nat} {z cs : List VV} {parts : List (Nat × VV)} {parts' : Array (Nat × Value)} (ht : iF P t=some e) (hk : eH P e=some k) (hz : bG P e=some z)
  (hn : ¬ (n*k > 16777216∨z.length≠k∨k=0))
  (hl : parts'.toList.length=parts.length) (hp : ∀ (i : Nat) (p : Nat × VV) (q : Nat × Value),parts[i]?=some p→parts'.toList[i]?=some q→q.1=p.1∧VR w (OO B σ μ) μ p.2 q.2)
  (hf : qo (fun i=>some (i*k,k)) (rep z n) parts=some cs) : bn P B w σ μ (Instr.buildSlice t n parts') (.sl n cs true) σ:=by
 simp only [not_or,Decidable.not_not] at hn
 obtain ⟨hn1,hn2,hn3⟩:=hn
 unfold bG at hz
 simp only [Option.bind_eq_some_iff,Option.map_eq_some_iff] at hz
 obtain ⟨it,hi,zv,hzv,rfl⟩:=hz
 have hzr : bI w (OO B σ μ) μ (zv.cells.toList.map rP) zv.cells.toList:=jO _
 have hlen : (zv.cells.toList.map rP).length=zv.cells.size:=by simp
 have hpos : 0 < (zv.cells.toList.map rP).length:=by omega
 have hrep:=Jg hzr hpos n
 rw [hn2] at hrep
 obtain ⟨cs',h3,h4,h5⟩:=rG (fun _=>rfl) parts parts'.toList _ cs _ hl hp hrep hf
 have hcl : cs'.size=cs.length:=by have:=h4.length;simpa using this
 have hrun : (Instr.buildSlice t n parts').run P w=.ok (.slice (some ⟨w.heap.size,0,none⟩) n n) (w.alloc (.cells cs' e)):=by
  have h16 : ¬ (16777216 < n*k):=by omega
  by_cases hnk : n*k=0
  ·have hn0 : n=0:=by
    rcases Nat.mul_eq_zero.1 hnk with h | h
    ·exact h
    ·exact absurd h hn3
   subst hn0
   have hr0 : Array.range 0=#[]:=rfl
   have h3' : Instr.fill (fun i=>some (i*k,k)) #[] parts'.toList=some cs':=by simpa [hr0] using h3
   simp [Instr.buildSlice,run_underlying (dJ ht),bP hk,h3',newRow,hr0]
  ·simp [Instr.buildSlice,run_underlying (dJ ht),bP hk,h16,hnk,zeroValue,typeInfo,hi,hzv,h3,newRow]
 have hF : Frame w σ μ (w.alloc (.cells cs' e)) σ μ:=.still (by simp) (fun b hb=>heap_alloc w _ hb) rfl rfl rfl
 have hE:=hF.ext (B:=B)
 have hS':=hS.still (fun b hb=>heap_alloc w (.cells cs' e) hb) (by simp)
 refine ⟨_,μ,_,hF,hS',hrun, ?_⟩
 simp only [VR]
 refine .inl ⟨w.heap.size,0,n,rfl,Nat.le_refl _,fun _=>rfl,.inr fun hO=>?_, ?_⟩
 ·rcases hO with hO | hO
  ·have:=hS.low _ hO;omega
  ·have:=eP.lt hS hO;omega
 ·refine VC.uG (bI.ext hE _ _ h4) (fun j v hv=>?_)
  simp only [World.cell?,heap_alloc_new',Nat.zero_add]
  simpa using hv
theorem wX {O : Nat→Prop} {t : TypeId} {cells : List VV} {off : Nat} {x : VV} {a : Array Value} (hc : bI w O μ cells a.toList) (h : partOf P t cells off=some x) : ∃ v,(part t a off).run P w=.ok v w∧VR w O μ x v:=by
 unfold partOf at h
 split at h
 ·rename_i n ha hn
  split at h
  ·rename_i hle
   cases h
   obtain ⟨_,h2⟩:=qZ (P:=P) (σ:=[]) (t:=t) (off:=off) (out:=⟨off+n≤cells.length,.agg ((cells.drop off).take n),[]⟩) hc (by simp [nC,ha,hn]) hle
   exact h2
  ·cases h
 ·rename_i ha
  have hlt:=(List.getElem?_eq_some_iff.1 h).1
  have hx : cells.getD off .undef=x:=by simp [List.getD,h]
  obtain ⟨_,h2⟩:=qZ (P:=P) (σ:=[]) (t:=t) (off:=off) (out:=⟨off < cells.length,cells.getD off .undef,[]⟩) hc (by simp [nC,ha]) hlt
  rw [← hx];exact h2
 ·cases h
set_option maxHeartbeats 2000000 in
theorem YA {O : Nat→Prop} : ∀ (d : Nat) (t : TypeId) (x y : VV) (v u : Value) (r : Bool),Ci P d t x y=some r→VR w O μ x v→VR w O μ y u→∀ D,d≤D→(Op.equalIn D t v u).run P w=.ok r w:=by
 intro d
 induction d with
 | zero=>intro t x y v u r h;simp [Ci] at h
 | succ d YA =>
  intro t x y v u r h hx hy D hD
  obtain ⟨D,rfl⟩ : ∃ D',D=D'+1:=⟨D-1,by omega⟩
  unfold Ci at h
  split at h
  case h_1 ht =>
   simp only [VR] at hx hy;subst hx hy;cases h
   simp [Op.equalIn,run_underlying ht]
  case h_2 ht =>
   simp only [VR] at hx hy;subst hx hy
   split at h
   ·rename_i hk;cases h;simp [Op.equalIn,run_underlying ht,hk]
   ·cases h
  case h_3 ht =>
   simp only [VR] at hx hy;subst hx hy;cases h
   rw [run_equalIn_string w D t _ _ ht]
   simp
  case h_22=>cases h
  case h_17 tx vx ty vy ht =>
   simp only [VR] at hx hy
   obtain ⟨v',rfl,hv⟩:=hx
   obtain ⟨u',rfl,hu⟩:=hy
   split at h
   ·rename_i hne;cases h;simp [Op.equalIn,run_underlying ht,hne]
   ·rename_i he
    have he : tx=ty:=by simpa using he
    subst he
    split at h
    ·rename_i hcmp
     have ih:=YA tx vx vy v' u' r h hv hu D (by omega)
     unfold WU at hcmp
     cases hi : P.info? tx with
     | none=>simp [hi] at hcmp
     | some i =>
      have hc : i.comparable=true:=by simpa [hi] using hcmp
      simp [Op.equalIn,run_underlying ht,typeInfo,hi,hc,ih]
    ·cases h
  case h_21 fs xs ys ht =>
   simp only [VR] at hx hy
   obtain ⟨a,rfl,ha⟩:=hx
   obtain ⟨b,rfl,hb⟩:=hy
   split at h
   ·rename_i ts hts
    unfold Xq at hts
    rw [ht] at hts
    simp only at hts
    split at hts
    ·cases hts
    ·rename_i hst
     have hf : P.fieldsOf t=fs:=by simp [Program.fieldsOf,ht]
     rw [run_equalIn_struct w D t a b (by rw [hf];exact ht) (by simpa using hst),hf]
     simp only [Option.some.injEq] at hts
     subst hts
     generalize fs.toList=l at h
     clear ht hf hst
     induction l generalizing r with
     | nil=>simp at h;subst h;simp [Op.eqFields]
     | cons f l ihl =>
      by_cases hn : f.name ≠ "_"
      ·rw [List.filter_cons_of_pos (by simpa using hn),List.map_cons,List.foldr_cons] at h
       simp only at h
       split at h
       ·rename_i p q hp hq
        split at h
        ·rename_i r1 r2 h1 h2
         simp only [Option.some.injEq] at h
         obtain ⟨pv,hp1,hp2⟩:=wX ha hp
         obtain ⟨qv,hq1,hq2⟩:=wX hb hq
         have ih:=YA f.type p q pv qv r1 h1 hp2 hq2 D (by omega)
         simp only [Op.eqFields,hn,ne_eq,not_false_eq_true,if_true,Sem.run_bind,hp1,hq1,ih,Result.andThen_ok]
         cases r1 with
         | false=>simp at h;subst h;simp
         | true=>simp at h;subst h;simpa using ihl r2 h2
        ·cases h
       ·cases h
      ·rw [List.filter_cons_of_neg (by simpa using hn)] at h
       simp only [Op.eqFields,hn,if_false]
       exact ihl r h
   ·cases h
  all_goals
   rename_i ht
   simp only [VR] at hx hy
   cases h
   first
    | (subst hx hy;simp [Op.equalIn,run_underlying ht];done)
    | (subst hx;rcases hy with ⟨_,_,_,rfl,_⟩ | ⟨_,_,_,rfl⟩<;>simp [Op.equalIn,run_underlying ht];done)
    | (subst hy;rcases hx with ⟨_,_,_,rfl,_⟩ | ⟨_,_,_,rfl⟩<;>simp [Op.equalIn,run_underlying ht];done)
    | (subst hx;obtain ⟨_,_,rfl,_⟩:=hy;simp [Op.equalIn,run_underlying ht];done)
    | (subst hy;obtain ⟨_,_,rfl,_⟩:=hx;simp [Op.equalIn,run_underlying ht];done)
    | (subst hx;obtain ⟨_,_,_,rfl,_⟩:=hy;simp [Op.equalIn,run_underlying ht];done)
    | (subst hy;obtain ⟨_,_,_,rfl,_⟩:=hx;simp [Op.equalIn,run_underlying ht];done)
    | (subst hx;obtain ⟨_,_,_,rfl⟩:=hy;simp [Op.equalIn,run_underlying ht];done)
    | (subst hx;obtain ⟨_,_,rfl⟩:=hy;simp [Op.equalIn,run_underlying ht];done)
    | (subst hy;obtain ⟨_,_,rfl⟩:=hx;simp [Op.equalIn,run_underlying ht];done)
    | (subst hx;obtain ⟨_,rfl,_⟩:=hy;simp [Op.equalIn,run_underlying ht];done)
    | (subst hy;obtain ⟨_,rfl,_⟩:=hx;simp [Op.equalIn,run_underlying ht];done)
end
end Go.V
namespace Go.V
open Go
section
variable {P : Program} {G : Nat→Option (List VV)} {B : Nat→Prop} {w : World} {σ : Store} {μ : List Loc}
theorem JU {op : BinOp} {t : TypeId} {k : IntKind} {a b : Int} {r : Prop × VV} (hop : op≠.shl) (hop' : op≠.shr) (h : zh op k a b=some r) (hp : r.1) :
  ∃ v,(binOp op t (.int k a) (.int k b)).run P w=.ok v w∧∀ O,VR w O μ r.2 v:=by
 cases op<;>simp [zh] at h<;>subst h <;>
  first
   | exact absurd rfl hop
   | exact absurd rfl hop'
   | (refine ⟨_,by simp [binOp,Op.intArith];rfl,fun O=>by simp [VR]⟩;done)
   | (refine ⟨_,by simp [binOp];rfl,fun O=>by simp [VR]⟩;done)
   | (refine ⟨_,by simp only at hp;simp [binOp,Op.intDiv,hp];rfl,fun O=>by simp [VR]⟩;done)
theorem OQ {op : BinOp} {t : TypeId} {k k' : IntKind} {a b : Int} {r : Prop × VV} (h : He op k a b=some r) (hp : r.1) :
  ∃ v,(binOp op t (.int k a) (.int k' b)).run P w=.ok v w∧∀ O,VR w O μ r.2 v:=by
 cases op<;>simp [He] at h<;>subst h
 all_goals
  simp only at hp
  have hp' : ¬ b < 0:=by omega
  exact ⟨_,by simp [binOp,Op.shift,hp'];rfl,fun O=>by simp [VR]⟩
theorem Ky (a b : List UInt8) : (⟨a.toArray⟩ : ByteArray)++⟨b.toArray⟩=⟨(a++b).toArray⟩:=by
 have : ∀ (x y : ByteArray),(x++y).data=x.data++y.data:=fun x y=>by simp
 have h:=this ⟨a.toArray⟩ ⟨b.toArray⟩
 cases hx : ((⟨a.toArray⟩ : ByteArray)++⟨b.toArray⟩) with
 | mk d=>rw [hx] at h;simp only at h;rw [h];simp
theorem JX {op : BinOp} {t : TypeId} {a b : List UInt8} {r : Prop × VV} (h : Fp op a b=some r) (hp : r.1) :
  ∃ v,(binOp op t (.string ⟨a.toArray⟩) (.string ⟨b.toArray⟩)).run P w=.ok v w∧∀ O,VR w O μ r.2 v:=by
 cases op<;>simp [Fp] at h<;>subst h
 case add =>
  refine ⟨.string ⟨(a++b).toArray⟩, ?_,fun O=>by simp [VR]⟩
  simp only at hp
  have h1 : ¬ (9223372036854775807 < (a.length : Int)+(b.length : Int)):=by omega
  have hs : ∀ l : List UInt8,(ByteArray.mk l.toArray).size=l.length:=fun l=>by simp [ByteArray.size]
  have hmax : IntKind.i64.max=9223372036854775807:=by simp [IntKind.max,IntKind.signed,IntKind.bits]
  simp [binOp,Op.stringOp,hs,hmax,h1,Ky]
 all_goals exact ⟨_,by simp [binOp,Op.stringOp];rfl,fun O=>by simp [VR]⟩
theorem binOp_eql {t : TypeId} {x y : VV} {v u : Value} {O : Nat→Prop} (hok : x.tZ=true) (hx : VR w O μ x v) (hy : VR w O μ y u) (h1 : ∀ k n,x≠.int k n) (h2 : ∀ s,x≠.str s) {r : Bool} (h : Ci P 9 t x y=some r) :
  (binOp .eql t v u).run P w=.ok (.bool r) w∧(binOp .neq t v u).run P w=.ok (.bool !r) w:=by
 have he : (Op.equal t v u).run P w=.ok r w:=YA 9 t x y v u r h hx hy Op.maxDepth (by simp [Op.maxDepth])
 have hshape : ∀ op,(op=.eql∨op=.neq)→((∀ k n,v≠.int k n)∧(∀ k n,v≠.float k n)∧(∀ k a b,v≠.complex k a b)∧(∀ s,v≠.string s)) →
   binOp op t v u=(if op=.eql then (do pure (.bool (← Op.equal t v u))) else (do pure (.bool (!(← Op.equal t v u))))):=by
  intro op hop ⟨a1,a2,a3,a4⟩
  rcases hop with rfl | rfl
  ·unfold binOp
   cases v<;>simp_all<;>(cases u<;>simp_all)
  ·unfold binOp
   cases v<;>simp_all<;>(cases u<;>simp_all)
 have hv : (∀ k n,v≠.int k n)∧(∀ k n,v≠.float k n)∧(∀ k a b,v≠.complex k a b)∧(∀ s,v≠.string s):=by
  cases x with
  | int k n=>exact absurd rfl (h1 k n)
  | str s=>exact absurd rfl (h2 s)
  | undef=>simp [VV.tZ] at hok
  | _ =>
   simp only [VR] at hx
   first
    | (subst hx;simp;done)
    | (rcases hx with ⟨_,_,_,rfl,_⟩ | ⟨_,_,_,rfl⟩<;>simp;done)
    | (obtain ⟨_,_,rfl,_⟩:=hx;simp;done)
    | (obtain ⟨_,_,_,rfl,_⟩:=hx;simp;done)
    | (obtain ⟨_,_,rfl⟩:=hx;simp;done)
    | (obtain ⟨_,rfl,_⟩:=hx;simp;done)
 constructor
 ·rw [hshape .eql (.inl rfl) hv];simp [he]
 ·rw [hshape .neq (.inr rfl) hv];simp [he]
end
end Go.V
namespace Go.V
open Go
section
variable {P : Program} {G : Nat→Option (List VV)} {B : Nat→Prop} {w : World} {σ : Store} {μ : List Loc}
theorem wI {op : BinOp} {t : TypeId} {x y : Operand} {a b : VV} {v u : Value} {O : Nat→Prop} (hx : VR w O μ a v) (hy : VR w O μ b u) (ha : a≠.undef) (hb : b≠.undef)
  (h1 : ¬ (a.gK && b.gK && !(vK x || vK y))=true) (h2 : (a.isAgg && b.isAgg)=true→P.eqGuardType P.depth t=false) :
  (eqGuard op t x y v u).run P w=.ok () w:=by
 unfold eqGuard
 cases op<;>try rfl
 all_goals
  dsimp only
  simp only [Bool.not_true,Bool.false_eq_true,if_false]
  cases a with
  | undef=>exact absurd rfl ha
  | nili =>
   simp only [VR] at hx
   subst hx
   cases b with
   | undef=>exact absurd rfl hb
   | nili =>
    simp only [VR] at hy
    subst hy
    simp only [VV.gK,Bool.and_self,Bool.true_and,Bool.not_eq_true',Bool.not_eq_false] at h1
    cases x<;>cases y<;>first | rfl | (simp [vK] at h1;done)
   | _ =>
    simp only [VR] at hy
    first
     | (subst hy;rfl)
     | (rcases hy with ⟨_,_,_,rfl,_⟩ | ⟨_,_,_,rfl⟩<;>rfl)
     | (obtain ⟨_,_,rfl,_⟩:=hy;rfl)
     | (obtain ⟨_,_,_,rfl,_⟩:=hy;rfl)
     | (obtain ⟨_,_,rfl⟩:=hy;rfl)
     | (obtain ⟨_,rfl,_⟩:=hy;rfl)
  | agg c =>
   simp only [VR] at hx
   obtain ⟨p,rfl,_⟩:=hx
   cases b with
   | undef=>exact absurd rfl hb
   | agg d =>
    simp only [VR] at hy
    obtain ⟨q,rfl,_⟩:=hy
    simp [Sem.run_bind,h2 rfl]
   | _ =>
    simp only [VR] at hy
    first
     | (subst hy;rfl)
     | (rcases hy with ⟨_,_,_,rfl,_⟩ | ⟨_,_,_,rfl⟩<;>rfl)
     | (obtain ⟨_,_,rfl,_⟩:=hy;rfl)
     | (obtain ⟨_,_,_,rfl,_⟩:=hy;rfl)
     | (obtain ⟨_,_,rfl⟩:=hy;rfl)
     | (obtain ⟨_,rfl,_⟩:=hy;rfl)
  | _ =>
   simp only [VR] at hx
   first
    | (subst hx;rfl)
    | (rcases hx with ⟨_,_,_,rfl,_⟩ | ⟨_,_,_,rfl⟩<;>rfl)
    | (obtain ⟨_,_,rfl,_⟩:=hx;rfl)
    | (obtain ⟨_,_,_,rfl,_⟩:=hx;rfl)
    | (obtain ⟨_,_,rfl⟩:=hx;rfl)
    | (obtain ⟨_,rfl,_⟩:=hx;rfl)
theorem guarded {op : BinOp} {t : TypeId} {x y : Operand} {v u : Value} {r : Value} (hg : (eqGuard op t x y v u).run P w=.ok () w) (h : (binOp op t v u).run P w=.ok r w) :
  (do eqGuard op t x y v u;binOp op t v u : Sem Value).run P w=.ok r w:=by
 simp [Sem.run_bind,hg,h]
theorem Rz (hS : SR B w σ μ) {op : BinOp} {t : TypeId} {x y : Operand} {a b : VV} {v u : Value} (hx : VR w (OO B σ μ) μ a v) (hy : VR w (OO B σ μ) μ b u) {out : aS}
  (h : lV P op t x y a b σ=some out) : bn P B w σ μ (do eqGuard op t x y v u;binOp op t v u) out.val out.st:=by
 unfold lV at h
 split at h
 ·cases h
 rename_i hok
 simp only [Bool.not_eq_true',Bool.not_eq_false,Bool.and_eq_true] at hok
 obtain ⟨hok1,hok2⟩:=hok
 split at h
 ·cases h
 rename_i hnil
 split at h
 ·cases h
 rename_i hagg
 have k1 : ∀ k n,a≠.int k n:=by rintro k n rfl;simp [VV.tZ] at hok1
 have k2 : ∀ s,a≠.str s:=by rintro s rfl;simp [VV.tZ] at hok1
 have k3 : a≠.undef:=by rintro rfl;simp [VV.tZ] at hok1
 have k4 : b≠.undef:=by rintro rfl;simp [VV.tZ] at hok2
 have hg : (eqGuard op t x y v u).run P w=.ok () w:=by
  refine wI hx hy k3 k4 hnil (fun hh=>?_)
  rw [hh] at hagg
  simpa using hagg
 split at h
 ·simp only [Option.map_eq_some_iff] at h
  obtain ⟨r,h,rfl⟩:=h
  exact .same hS (guarded hg (binOp_eql hok1 hx hy k1 k2 h).1) (by simp [VR])
 ·simp only [Option.map_eq_some_iff] at h
  obtain ⟨r,h,rfl⟩:=h
  exact .same hS (guarded hg (binOp_eql hok1 hx hy k1 k2 h).2) (by simp [VR])
 ·cases h
theorem NP (hS : SR B w σ μ) {op : BinOp} {t : TypeId} {x y : Operand} {a b : VV} {v u : Value} (hx : VR w (OO B σ μ) μ a v) (hy : VR w (OO B σ μ) μ b u) {out : aS}
  (h : mV P op t x y a b σ=some out) (hp : out.pre) : bn P B w σ μ (do eqGuard op t x y v u;binOp op t v u) out.val out.st:=by
 unfold mV at h
 split at h
 ·rename_i k m k' n
  have hg : (eqGuard op t x y v u).run P w=.ok () w:=wI hx hy (by simp) (by simp) (by simp [VV.gK]) (by simp [VV.isAgg])
  simp only [VR] at hx hy
  subst hx hy
  have sh : ∀ {out : aS},(He op k m n).map (fun r=>(⟨r.1,r.2,σ⟩ : aS))=some out→out.pre→bn P B w σ μ (do eqGuard op t x y (.int k m) (.int k' n);binOp op t (.int k m) (.int k' n)) out.val out.st:=by
   intro out h hp
   simp only [Option.map_eq_some_iff] at h
   obtain ⟨r,h,rfl⟩:=h
   obtain ⟨z,h1,h2⟩:=OQ (P:=P) (w:=w) (μ:=μ) (t:=t) (k':=k') h hp
   exact .same hS (guarded hg h1) (h2 _)
  split at h
  ·exact sh h hp
  ·exact sh h hp
  ·rename_i n1 n2
   split at h
   ·rename_i hk
    subst hk
    simp only [Option.map_eq_some_iff] at h
    obtain ⟨r,h,rfl⟩:=h
    obtain ⟨z,h1,h2⟩:=JU (P:=P) (w:=w) (μ:=μ) (t:=t) (fun e=>n1 e) (fun e=>n2 e) h hp
    exact .same hS (guarded hg h1) (h2 _)
   ·cases h
 ·rename_i m n
  have hg : (eqGuard op t x y v u).run P w=.ok () w:=wI hx hy (by simp) (by simp) (by simp [VV.gK]) (by simp [VV.isAgg])
  simp only [VR] at hx hy
  subst hx hy
  simp only [Option.map_eq_some_iff] at h
  obtain ⟨r,h,rfl⟩:=h
  obtain ⟨z,h1,h2⟩:=JX (P:=P) (w:=w) (μ:=μ) (t:=t) h hp
  exact .same hS (guarded hg h1) (h2 _)
 ·exact Rz hS hx hy h
theorem Qz (hS : SR B w σ μ) {op : UnOp} {x : VV} {v : Value} (hx : VR w (OO B σ μ) μ x v) {out : aS} (h : zT op x σ=some out) : bn P B w σ μ (Op.unary op v) out.val out.st:=by
 unfold zT at h
 split at h
 ·rename_i k n
  cases h
  simp only [VR] at hx
  subst hx
  exact .same hS (v:=.int k (k.wrap (0-n))) rfl (by simp [VR])
 ·rename_i b
  cases h
  simp only [VR] at hx
  subst hx
  exact .same hS (v:=.bool (!b)) rfl (by simp [VR])
 ·cases h
theorem kM (hS : SR B w σ μ) {size : Nat} {x : VV} {v : Value} (hx : VR w (OO B σ μ) μ x v) {cells : List VV} (h : eG σ size x=some cells) :
  (∃ a,v=.slice a 0 0∧cells=[]∧kK x=some 0)∨∃ b o n cap,v=.slice (some ⟨b,o,none⟩) n cap∧kK x=some n∧cells.length=n*size∧VC w (OO B σ μ) μ cells b o:=by
 unfold eG at h
 split at h
 ·cases h
  simp only [VR] at hx
  exact .inl ⟨none,hx,rfl,rfl⟩
 ·split at h
  ·rename_i n cells' _ hl
   cases h
   simp only [VR] at hx
   rcases hx with ⟨b,o,cap,rfl,_,_,_,h2⟩ | ⟨rfl,rfl,a,rfl⟩
   ·exact .inr ⟨b,o,n,cap,rfl,rfl,hl,h2⟩
   ·exact .inl ⟨some a,rfl,rfl,rfl⟩
  ·cases h
 ·rename_i id off n sz
  split at h
  ·rename_i c ho
   split at h
   ·rename_i hq
    cases h
    obtain ⟨rfl,hle⟩:=hq
    simp only [VR] at hx
    obtain ⟨L,cap,hL,rfl,_,_⟩:=hx
    refine .inr ⟨L.block,L.base+off,n,cap,rfl,rfl,by simp;omega, ?_⟩
    exact ((jV hS ho hL).1.drop off).take _
   ·cases h
  ·cases h
 ·cases h
theorem uN {O : Nat→Prop} : ∀ {cells : List VV} {s : List UInt8} {vs : List Value},bytesOf cells=some s→bI w O μ cells vs→∃ xs : List Int,vs=xs.map (Value.int .u8)∧s=xs.map fun n=>UInt8.ofNat n.toNat
 | [],s,vs,h,hv=>by
  simp [bytesOf] at h
  simp only [bI] at hv
  subst h hv
  exact ⟨[],rfl,rfl⟩
 | x::cells,s,vs,h,hv=>by
  simp only [bytesOf,List.mapM_cons,Option.bind_eq_bind,Option.bind_eq_some_iff,Option.pure_def,Option.some.injEq] at h
  obtain ⟨c,hc,s',hs',rfl⟩:=h
  simp only [bI] at hv
  obtain ⟨v,vs',rfl,h1,h2⟩:=hv
  obtain ⟨xs,rfl,rfl⟩:=uN (cells:=cells) hs' h2
  split at hc
  ·rename_i n
   cases hc
   simp only [VR] at h1
   subst h1
   exact ⟨n::xs,rfl,rfl⟩
  ·cases hc
theorem BL (hS : SR B w σ μ) {src dst : TypeId} {x : VV} {v : Value} (hx : VR w (OO B σ μ) μ x v) {out : aS} (h : eY P src dst x σ=some out) : bn P B w σ μ (convert src dst v) out.val out.st:=by
 have slice : ∀ {out : aS},(match iF P src with
  | some e=>if tint P e=some .u8∧ji P dst=true∧eH P e=some 1 then
    match eG σ 1 x with
    | some cells=>(bytesOf cells).map fun s=>(⟨True,.str s,σ⟩ : aS)
    | none=>none
   else none
  | none=>none)=some out→bn P B w σ μ (convert src dst v) out.val out.st:=by
  intro out h
  split at h
  ·rename_i e he
   split at h
   ·rename_i hq
    obtain ⟨q1,q2,q3⟩:=hq
    split at h
    ·rename_i cells hc
     simp only [Option.map_eq_some_iff] at h
     obtain ⟨s,hs,rfl⟩:=h
     rcases kM hS hx hc with ⟨a,rfl,rfl,_⟩ | ⟨b,o,n,cap,rfl,_,hl,hvc⟩
     ·simp [bytesOf] at hs
      subst hs
      have hrun : (convert src dst (.slice a 0 0)).run P w=.ok (.string ByteArray.empty) w:=by
       cases a with
       | none=>exact run_convert_bytes_nil w src e (dJ he) (vG q1) 0 0 dst (eu q2)
       | some a =>
        rw [run_convert_bytes_string w src dst e _ 0 0 (dJ he) (vG q1) (eu q2),run_bytesToString w _ 0 0 [] (by simp [loadCells,loadCellsFrom])];rfl
      refine .same hS hrun ?_
      simp only [VR]
      rfl
     ·obtain ⟨vs,h1,h2⟩:=hvc.vals
      obtain ⟨xs,rfl,rfl⟩:=uN hs h1
      have hlen : xs.length=n:=by have:=h1.length;simp at this;omega
      refine .same hS (run_convert_bytes_arg w src e (dJ he) (vG q1) b o n cap xs hlen (fun i hi=>?_) dst (eu q2)) ?_
      ·refine h2 i _ ?_
       simp [List.getD,show i < xs.length by omega]
      ·simp only [VR]
       rfl
    ·cases h
   ·cases h
  ·cases h
 cases x with
 | int k n =>
  simp only [eY] at h
  split at h
  ·rename_i k' hk hs
   cases h
   simp only [VR] at hx
   subst hx
   cases hu : P.underlying src with
   | none=>simp [hu] at hs
   | some d=>exact .same hS (v:=.int k' (k'.wrap n)) (by simp [convert,run_underlying hu,run_underlying (vG hk),Conv.intToInt]) (by simp [VR])
  ·cases h
 | str s =>
  simp only [eY] at h
  split at h
  ·rename_i hq
   cases h
   simp only [Bool.and_eq_true] at hq
   simp only [VR] at hx
   subst hx
   exact .same hS (v:=.string ⟨s.toArray⟩) (by simp [convert,run_underlying (eu hq.1),run_underlying (eu hq.2)]) (by simp [VR])
  ·cases h
 | nils=>exact slice h
 | sl n c t=>exact slice h
 | bZ a b c d=>exact slice h
 | _=>cases h
end
end Go.V
namespace Go.V
open Go
section
variable {P : Program} {G : Nat→Option (List VV)} {B : Nat→Prop} {w : World} {σ : Store} {μ : List Loc}
def Dq : Option Value→Option Int→Prop
 | none,none=>True
 | some v,some n=>∃ k,v=.int k n
 | _,_=>False
theorem pJ {O : Nat→Prop} {ρ : Env} {a : Act} (hG : Jm G w O μ) (hE : jg w O μ ρ a.tmps) {x : Option Operand} {n : Option Int} (h : jy G ρ x=some n) : Dq (x.map a.eval) n:=by
 cases x with
 | none=>simp [jy] at h;subst h;trivial
 | some o =>
  simp only [jy] at h
  split at h
  ·rename_i k m hk
   cases h
   have:=yj hG hE o
   rw [hk] at this
   simp only [VR] at this
   exact ⟨k,this⟩
  ·cases h
theorem fV {b : Bool} {n cap : Nat} {lo hi : Option Value} {l h : Option Int} (hl : Dq lo l) (hh : Dq hi h) (hn : n≤cap) (hp : (bounds n l h).1) :
  (Instr.sliceBounds b n cap lo hi none).run P w=.ok ((bounds n l h).2.1,(bounds n l h).2.2,cap) w:=by
 simp only [bounds] at hp ⊢
 obtain ⟨⟨h1,h2⟩,h3⟩:=hp
 cases lo with
 | none =>
  cases l with
  | some _=>exact hl.elim
  | none =>
   cases hi with
   | none =>
    cases h with
    | some _=>exact hh.elim
    | none=>simp [Instr.sliceBounds]
   | some v =>
    cases h with
    | none=>exact hh.elim
    | some m =>
     obtain ⟨k,rfl⟩:=hh
     simp only [Option.getD_some,Option.getD_none] at h1 h2 h3 ⊢
     have hm : 0≤m∧m≤(cap : Int):=by omega
     simp [Instr.sliceBounds,Instr.sliceBound,asIntOf,hm]
 | some v =>
  cases l with
  | none=>exact hl.elim
  | some m =>
   obtain ⟨k,rfl⟩:=hl
   cases hi with
   | none =>
    cases h with
    | some _=>exact hh.elim
    | none =>
     simp only [Option.getD_some,Option.getD_none] at h1 h2 h3 ⊢
     have hm : 0≤m∧m≤(n : Int):=by omega
     simp [Instr.sliceBounds,Instr.sliceBound,asIntOf,hm]
   | some u =>
    cases h with
    | none=>exact hh.elim
    | some m2 =>
     obtain ⟨k2,rfl⟩:=hh
     simp only [Option.getD_some] at h1 h2 h3 ⊢
     have hm : 0≤m2∧m2≤(cap : Int):=by omega
     have hmx : max m2 0=m2:=by omega
     simp [Instr.sliceBounds,Instr.sliceBound,asIntOf,hm,h1,h2,hmx]
theorem mX {b : Bool} {n cap : Nat} {lo hi mx : Option Value} {l h m : Option Int} (hl : Dq lo l) (hh : Dq hi h) (hm : Dq mx m) (hn : n≤cap) (hp : (bounds n l h).1)
  (hmx : m=some ((bounds n l h).2.2 : Int)) (hmh : m=h) :
  (Instr.sliceBounds b n cap lo hi mx).run P w=.ok ((bounds n l h).2.1,(bounds n l h).2.2,(bounds n l h).2.2) w:=by
 simp only [bounds] at hp hmx ⊢
 obtain ⟨⟨h1,h2⟩,h3⟩:=hp
 subst hmh
 cases mx with
 | none=>cases m with
  | none=>cases hmx
  | some _=>exact hm.elim
 | some vm=>cases m with
  | none=>exact hm.elim
  | some z =>
   obtain ⟨km,rfl⟩:=hm
   cases hi with
   | none=>exact hh.elim
   | some vh =>
    obtain ⟨kh,rfl⟩:=hh
    simp only [Option.getD_some] at h1 h2 h3 ⊢
    have hz : 0≤z∧z≤(cap : Int):=by omega
    have hmxz : max z 0=z:=by omega
    cases lo with
    | none=>cases l with
     | some _=>exact hl.elim
     | none=>simp [Instr.sliceBounds,Instr.sliceBound,asIntOf,hz,hmxz]
    | some vl=>cases l with
     | none=>exact hl.elim
     | some y =>
      obtain ⟨kl,rfl⟩:=hl
      simp only [Option.getD_some] at h1 h2
      simp [Instr.sliceBounds,Instr.sliceBound,asIntOf,hz,hmxz,h1,h2]
theorem rM {n : Nat} {l h : Option Int} (hp : (bounds n l h).1) : (bounds n l h).2.1≤(bounds n l h).2.2∧(bounds n l h).2.2≤n:=by
 simp only [bounds] at hp ⊢
 omega
theorem Ho (s : List UInt8) (l h : Nat) : (⟨s.toArray⟩ : ByteArray).extract l h=⟨((s.drop l).take (h-l)).toArray⟩:=by
 have : ((⟨s.toArray⟩ : ByteArray).extract l h).data=s.toArray.extract l h:=by simp
 cases hx : (⟨s.toArray⟩ : ByteArray).extract l h with
 | mk d =>
  rw [hx] at this
  simp only at this
  rw [this]
  congr 1
  apply Array.ext'
  simp [List.extract_eq_take_drop]
theorem Gm (hS : SR B w σ μ) {t : TypeId} {x : VV} {v : Value} (hx : VR w (OO B σ μ) μ x v) {lo hi mx : Option Value} {l h m : Option Int} (hl : Dq lo l) (hh : Dq hi h) (hm : Dq mx m) {out : aS}
  (hev : dX P t x l h m σ=some out) (hp : out.pre) : bn P B w σ μ (Instr.sliceAt t v lo hi mx) out.val out.st:=by
 have mxn : m=none→mx=none:=by
  rintro rfl
  cases mx with
  | none=>rfl
  | some v=>exact hm.elim
 cases x with
 | str s =>
  simp only [dX] at hev
  split at hev
  ·rename_i ht
   cases hev
   simp only [VR] at hx
   subst hx
   rw [mxn rfl]
   have hb:=fV (P:=P) (w:=w) (b:=false) hl hh (Nat.le_refl s.length) hp
   have hsz : (ByteArray.mk s.toArray).size=s.length:=by simp [ByteArray.size]
   refine .same hS (v:=.string ⟨((s.drop (bounds s.length l h).2.1).take ((bounds s.length l h).2.2-(bounds s.length l h).2.1)).toArray⟩) ?_ (by simp [VR])
   simp [Instr.sliceAt,Instr.slice,run_underlying (eu ht),hsz,hb,Ho]
  ·cases hev
 | nils =>
  simp only [dX] at hev
  split at hev
  ·rename_i e ht
   split at hev
   ·rename_i k hk
    cases hev
    obtain ⟨hb,hmn⟩:=hp
    simp only [VR] at hx
    subst hx
    rw [mxn hmn]
    have hbr:=fV (P:=P) (w:=w) (b:=true) hl hh (Nat.le_refl 0) hb
    have hle:=rM hb
    have h1 : (bounds 0 l h).2.1=0:=by omega
    have h2 : (bounds 0 l h).2.2=0:=by omega
    rw [h1,h2] at hbr
    exact .same hS (v:=.slice none 0 0) (by simp [Instr.sliceAt,Instr.slice,run_underlying (dJ ht),hbr,bP hk]) (by simp [VR])
   ·cases hev
  ·cases hev
 | sl n cells tight =>
  simp only [dX] at hev
  split at hev
  ·rename_i e ht
   split at hev
   ·rename_i k hk
    cases hev
    obtain ⟨hb,hmn,hlen⟩:=hp
    have hle:=rM hb
    simp only [VR] at hx
    rcases hx with ⟨b,o,cap,rfl,hcap,htight,hO,hc⟩ | ⟨rfl,rfl,a,rfl⟩
    rotate_left
    ·have h1 : (bounds 0 l h).2.1=0:=by omega
     have h2 : (bounds 0 l h).2.2=0:=by omega
     have hrun : (Instr.sliceBounds true 0 0 lo hi mx).run P w=.ok (0,0,0) w:=by
      rcases hmn with rfl | ⟨hm1,hm2⟩
      ·rw [mxn rfl]
       have:=fV (P:=P) (w:=w) (b:=true) hl hh (Nat.le_refl 0) hb
       rwa [h1,h2] at this
      ·have:=mX (P:=P) (w:=w) (b:=true) hl hh hm (Nat.le_refl 0) hb hm1 hm2
       rwa [h1,h2] at this
     refine .same hS (v:=.slice (some a) 0 0) (by simp [Instr.sliceAt,Instr.slice,run_underlying (dJ ht),hrun,bP hk]) ?_
     simp only [VR]
     rw [h1,h2]
     exact .inr ⟨by simp,by simp,a,rfl⟩
    obtain ⟨c,hrun,hc1,hc2⟩ : ∃ c,(Instr.sliceBounds true n cap lo hi mx).run P w=.ok ((bounds n l h).2.1,(bounds n l h).2.2,c) w∧(bounds n l h).2.2≤c ∧
      ((m.isSome || (tight && decide ((bounds n l h).2.2=n)))=true→c=(bounds n l h).2.2):=by
     rcases hmn with rfl | ⟨hm1,hm2⟩
     ·rw [mxn rfl]
      refine ⟨cap,fV hl hh hcap hb,by omega,fun hq=>?_⟩
      simp only [Option.isSome_none,Bool.false_or,Bool.and_eq_true,decide_eq_true_eq] at hq
      rw [htight hq.1,hq.2]
     ·exact ⟨_,mX hl hh hm hcap hb hm1 hm2,Nat.le_refl _,fun _=>rfl⟩
    refine .same hS (v:=.slice (if c=(bounds n l h).2.1 then some ⟨b,o,none⟩ else some ⟨b,o+(bounds n l h).2.1*k,none⟩) ((bounds n l h).2.2-(bounds n l h).2.1) (c-(bounds n l h).2.1)) ?_ ?_
    ·simp [Instr.sliceAt,Instr.slice,run_underlying (dJ ht),hrun,bP hk,iY]
    ·simp only [VR]
     have hsub : cells.length=n*k→((cells.drop ((bounds n l h).2.1*k)).take (((bounds n l h).2.2-(bounds n l h).2.1)*k))≠[]→c≠(bounds n l h).2.1:=by
      intro _ hne he
      apply hne
      have : (bounds n l h).2.2-(bounds n l h).2.1=0:=by omega
      simp [this]
     by_cases hce : c=(bounds n l h).2.1
     ·refine .inl ⟨b,o,_,by rw [if_pos hce],by omega,fun hq=>by have:=hc2 hq;omega,.inl ?_, ?_⟩
      ·exact Classical.byContradiction fun hne=>hsub hlen hne hce
      ·have : ((cells.drop ((bounds n l h).2.1*k)).take (((bounds n l h).2.2-(bounds n l h).2.1)*k))=[]:=Classical.byContradiction fun hne=>hsub hlen hne hce
       rw [this];simp [VC]
     ·refine .inl ⟨b,o+(bounds n l h).2.1*k,_,by rw [if_neg hce],by omega,fun hq=>by have:=hc2 hq;omega, ?_,(hc.drop _).take _⟩
      rcases hO with rfl | hO
      ·exact .inl (by simp)
      ·exact .inr hO
   ·cases hev
  ·cases hev
 | bZ id off n sz =>
  simp only [dX] at hev
  split at hev
  ·rename_i e ht
   split at hev
   ·rename_i hq
    obtain ⟨hk,hmn⟩:=hq
    cases hev
    obtain ⟨hb,hsz⟩:=hp
    have hle:=rM hb
    simp only [VR] at hx
    obtain ⟨L,cap,hL,rfl,hcap,hroom⟩:=hx
    rw [mxn hmn]
    have hrun:=fV (P:=P) (w:=w) (b:=true) hl hh hcap hb
    refine .same hS (v:=.slice (if cap=(bounds n l h).2.1 then some ⟨L.block,L.base+off,none⟩ else some ⟨L.block,L.base+off+(bounds n l h).2.1*sz,none⟩) ((bounds n l h).2.2-(bounds n l h).2.1) (cap-(bounds n l h).2.1)) ?_ ?_
    ·simp [Instr.sliceAt,Instr.slice,run_underlying (dJ ht),hrun,bP hk,iY]
    ·simp only
     split
     ·rename_i hq
      simp only [VR]
      by_cases hce : cap=(bounds n l h).2.1
      ·exact .inl ⟨L.block,L.base+off,0,by rw [if_pos hce];congr 1<;>omega,Nat.le_refl _,by simp,.inl trivial,by simp [VC]⟩
      ·exact .inl ⟨L.block,L.base+off+(bounds n l h).2.1*sz,cap-(bounds n l h).2.1,by rw [if_neg hce];congr 1;omega,by omega,by simp,.inl trivial,by simp [VC]⟩
     ·rename_i hq
      simp only [VR]
      have hmul : (cap-(bounds n l h).2.1)*sz+(bounds n l h).2.1*sz=cap*sz:=by rw [← Nat.add_mul,Nat.sub_add_cancel (by omega)]
      refine ⟨L,cap-(bounds n l h).2.1,hL, ?_,by omega,by omega⟩
      by_cases hce : cap=(bounds n l h).2.1
      ·have h0 : (bounds n l h).2.1=0:=by omega
       rw [if_pos hce,h0];simp
      ·rw [if_neg hce,Nat.add_assoc]
   ·cases hev
  ·cases hev
 | mptr id off =>
  simp only [dX] at hev
  split at hev
  ·rename_i n e ht
   split at hev
   ·rename_i k cells hk ho
    cases hev
    obtain ⟨hb,hlt,hk0,hfit⟩:=hp
    have hle:=rM hb
    simp only [VR] at hx
    obtain ⟨L,hL,rfl⟩:=hx
    rw [mxn rfl]
    have hrun:=fV (P:=P) (w:=w) (b:=false) hl hh (Nat.le_refl n) hb
    have hroom:=(jV hS ho hL).2
    have hne : ¬ n=(bounds n l h).2.1:=by omega
    refine .same hS (v:=.slice (some ⟨L.block,L.base+off+(bounds n l h).2.1*k,none⟩) ((bounds n l h).2.2-(bounds n l h).2.1) (n-(bounds n l h).2.1)) ?_ ?_
    ·simp [Instr.sliceAt,Instr.sureAddr,run_underlying (zo ht),hrun,bP hk,iY,hne]
    ·simp only [VR]
     have hmul : (n-(bounds n l h).2.1)*k+(bounds n l h).2.1*k=n*k:=by rw [← Nat.add_mul,Nat.sub_add_cancel (by omega)]
     exact ⟨L,n-(bounds n l h).2.1,hL,by rw [Nat.add_assoc],by omega,by omega⟩
   ·cases hev
  ·cases hev
 | _=>cases hev
theorem MV (hS : SR B w σ μ) {t ty : TypeId} {x : VV} {v : Value} (hx : VR w (OO B σ μ) μ x v) {out : aS} (h : aT P t x σ=some out) : bn P B w σ μ (Builtin.len_ #[t] ty #[v]) out.val out.st:=by
 unfold aT at h
 split at h
 ·rename_i s ht
  cases h
  simp only [VR] at hx
  subst hx
  have hsz : (ByteArray.mk s.toArray).size=s.length:=by simp [ByteArray.size]
  exact .same hS (v:=.int .i64 s.length) (by simp [Builtin.len_,run_underlying ht,goInt,hsz]) (by simp [VR])
 ·rename_i n e ht
  cases h
  exact .same hS (v:=.int .i64 n) (by simp [Builtin.len_,run_underlying ht,goInt]) (by simp [VR])
 ·rename_i e ht
  split at h
  ·cases h
   simp only [VR] at hx
   subst hx
   exact .same hS (v:=.int .i64 0) (by simp [Builtin.len_,run_underlying ht,goInt]) (by simp [VR])
  ·rename_i n cells tight
   cases h
   simp only [VR] at hx
   rcases hx with ⟨b,o,cap,rfl,_⟩ | ⟨rfl,_,a,rfl⟩<;>exact .same hS (v:=.int .i64 _) (by simp [Builtin.len_,run_underlying ht,goInt];rfl) (by simp [VR])
  ·rename_i id off n sz
   cases h
   simp only [VR] at hx
   obtain ⟨L,cap,_,rfl,_⟩:=hx
   exact .same hS (v:=.int .i64 n) (by simp [Builtin.len_,run_underlying ht,goInt]) (by simp [VR])
  ·cases h
 ·rename_i k e id ht
  split at h
  ·rename_i es ho
   cases h
   simp only [VR] at hx
   obtain ⟨L,hL,rfl⟩:=hx
   obtain ⟨ents,clock,h1,h2,_⟩:=hS.obj id _ L ho hL
   exact .same hS (v:=.int .i64 es.length) (by simp [Builtin.len_,run_underlying ht,goInt,getObj,Sem.run,h1,h2]) (by simp [VR])
  ·cases h
 ·cases h
end
end Go.V
