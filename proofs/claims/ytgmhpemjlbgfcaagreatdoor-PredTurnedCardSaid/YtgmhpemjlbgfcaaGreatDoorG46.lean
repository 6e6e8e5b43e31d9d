/- Texts F144 F145 F146 F147. -/
import Derived.Test.YtgmhpemjlbgfcaaGreatDoorG20
import Derived.Test.YtgmhpemjlbgfcaaGreatDoorG32
import Derived.Test.YtgmhpemjlbgfcaaGreatDoorG39
import Derived.Test.YtgmhpemjlbgfcaaGreatDoorG45
set_option linter.unusedVariables false
set_option linter.unusedSimpArgs false
namespace Go.V
open Go.Proofs
set_option maxRecDepth 100000
def Am.ZR (a : Am) : Bool:=a.k == 0 || (a.k == 2 || (a.k == 3 || a.k == 4))
def Am.noC (a : Am) : Bool:=!(a.ck == 0 && (a.ci == 0 && a.ct == []))
def Am.extra (a : Am) : Bool:=(!a.ZR && decide (0 < a.p.length)) || ((!(a.k == 1) && a.noC) || (!(a.k == 5) && a.op != 0))
def Am.right (a : Am) : Bool:=(decide (0≤a.k) && decide (a.k≤8)) && (!a.extra && (a.p.all (fun s=>s.k == 0 || s.k == 1) && ((decide (0≤a.op) && decide (a.op≤5)) && (qm a.ck a.ci a.ct == 0 && NQ a.p))))
theorem aaw (a : Am) (pw : VV) (hp : dG 5 pw (a.p.map Sg.cells)) (hl : a.p.length≤9223372036854775807) : PV Tryz.prog G0 36 [.agg (a.cells pw)] (.bool a.right):=by
 have hpp:=hp.pure
 have hpc:=hp.cell
 simp only [go_sem,seval] at hpc
 have lp : ∀ {σ},aT Tryz.prog 51 pw σ=okV (.int .i64 a.p.length) σ:=by intro σ;rw [hp.aT zF];simp
 have a0 : ∀ j : Nat,(0 : Int)≤(j : Int):=fun j=>by omega
 refine pv e36 (by simp) (by simp only [Am.cells,VV.ak,VV.isPure,hpp];rfl) rfl ?_
 obtain ⟨cs,hcs⟩ : ∃ cs,cs=a.cells pw:=⟨_,rfl⟩
 have g1 : cs.length=6:=by rw [hcs];rfl
 have g2 : cs.all VV.aC=true:=by rw [hcs];simp only [Am.cells,List.all_cons,List.all_nil,hp.cell];rfl
 have g3 : cs.take 6=cs:=List.take_of_length_le (by omega)
 have g4 : cs.getD 0 .undef=.int .i64 a.k:=by rw [hcs];rfl
 have g5 : cs.getD 1 .undef=pw:=by rw [hcs];rfl
 have g6 : cs.getD 2 .undef=.int .i64 a.op:=by rw [hcs];rfl
 have g7 : (cs.drop 3).take 3=[.int .i64 a.ck,.int .i64 a.ci,.str a.ct]:=by rw [hcs];rfl
 rw [← hcs]
 refine eU (M:=fun ρ τ=>ρ.get 1=.mptr 0 0∧τ=[.own cs]) ?_ ?_
 ·simp only [go_sem,seval,c36,g1,g2,g3]
 rintro ρ _ ⟨q1,rfl⟩
 refine eU (M:=fun ρ τ=>ρ.get 1=.mptr 0 0∧ρ.get 3=.bool false∧ρ.get 4=.bool false∧ρ.get 5=.bool false∧τ=[.own cs]) ?_ ?_
 ·simp only [go_sem,seval,q1]
 rintro ρ _ ⟨q1,q3,q4,q5,rfl⟩
 have hrng : ∀ n : Int,a.k=n→0≤n→n≤8→(decide (0≤a.k) && decide (a.k≤8))=true:=fun n h h1 h2=>by rw [h];simp [h1,h2]
 refine eU (M:=fun ρ τ=>(decide (0≤a.k) && decide (a.k≤8))=true∧ρ.get 1=.mptr 0 0∧ρ.get 3=.bool a.ZR∧ρ.get 4=.bool (a.k == 1)∧ρ.get 5=.bool (a.k == 5)∧τ=[.own cs]) ?_ ?_
 ·by_cases h0 : a.k=0
  ·have b0 : (a.k == 0)=true:=by simpa using h0
   simp only [go_sem,seval,q1,q3,q4,q5,g1,g4,b0]
   exact ⟨hrng 0 h0 (by decide) (by decide),by simp [Am.ZR,h0],by simp [h0],by simp [h0]⟩
  have b0 : (a.k == 0)=false:=by simpa using h0
  by_cases h2 : a.k=2
  ·have b2 : (a.k == 2)=true:=by simpa using h2
   simp only [go_sem,seval,q1,q3,q4,q5,g1,g4,b0,b2]
   exact ⟨hrng 2 h2 (by decide) (by decide),by simp [Am.ZR,h2],by simp [h2],by simp [h2]⟩
  have b2 : (a.k == 2)=false:=by simpa using h2
  by_cases h3 : a.k=3
  ·have b3 : (a.k == 3)=true:=by simpa using h3
   simp only [go_sem,seval,q1,q3,q4,q5,g1,g4,b0,b2,b3]
   exact ⟨hrng 3 h3 (by decide) (by decide),by simp [Am.ZR,h3],by simp [h3],by simp [h3]⟩
  have b3 : (a.k == 3)=false:=by simpa using h3
  by_cases h4 : a.k=4
  ·have b4 : (a.k == 4)=true:=by simpa using h4
   simp only [go_sem,seval,q1,q3,q4,q5,g1,g4,b0,b2,b3,b4]
   exact ⟨hrng 4 h4 (by decide) (by decide),by simp [Am.ZR,h4],by simp [h4],by simp [h4]⟩
  have b4 : (a.k == 4)=false:=by simpa using h4
  have hP : a.ZR=false:=by unfold Am.ZR;rw [b0,b2,b3,b4];rfl
  by_cases h1 : a.k=1
  ·have b1 : (a.k == 1)=true:=by simpa using h1
   simp only [go_sem,seval,q1,q3,q4,q5,g1,g4,b0,b2,b3,b4,b1]
   exact ⟨hrng 1 h1 (by decide) (by decide),by rw [hP],by simp [h1]⟩
  have b1 : (a.k == 1)=false:=by simpa using h1
  by_cases h5 : a.k=5
  ·have b5 : (a.k == 5)=true:=by simpa using h5
   simp only [go_sem,seval,q1,q3,q4,q5,g1,g4,b0,b2,b3,b4,b1,b5]
   exact ⟨hrng 5 h5 (by decide) (by decide),by rw [hP]⟩
  have b5 : (a.k == 5)=false:=by simpa using h5
  by_cases h6 : a.k=6
  ·have b6 : (a.k == 6)=true:=by simpa using h6
   simp only [go_sem,seval,q1,q3,q4,q5,g1,g4,b0,b2,b3,b4,b1,b5,b6]
   exact ⟨hrng 6 h6 (by decide) (by decide),by rw [hP]⟩
  have b6 : (a.k == 6)=false:=by simpa using h6
  by_cases h7 : a.k=7
  ·have b7 : (a.k == 7)=true:=by simpa using h7
   simp only [go_sem,seval,q1,q3,q4,q5,g1,g4,b0,b2,b3,b4,b1,b5,b6,b7]
   exact ⟨hrng 7 h7 (by decide) (by decide),by rw [hP]⟩
  have b7 : (a.k == 7)=false:=by simpa using h7
  by_cases h8 : a.k=8
  ·have b8 : (a.k == 8)=true:=by simpa using h8
   simp only [go_sem,seval,q1,q3,q4,q5,g1,g4,b0,b2,b3,b4,b1,b5,b6,b7,b8]
   exact ⟨hrng 8 h8 (by decide) (by decide),by rw [hP]⟩
  have b8 : (a.k == 8)=false:=by simpa using h8
  have hno : (decide (0≤a.k) && decide (a.k≤8))=false:=by
   rw [Bool.and_eq_false_iff,decide_eq_false_iff_not,decide_eq_false_iff_not];omega
  simp only [go_sem,seval,q1,q3,q4,q5,g1,g4,b0,b2,b3,b4,b1,b5,b6,b7,b8]
  exact fin (by rfl) (by unfold Am.right;rw [hno];rfl)
 rintro ρ _ ⟨hk,q1,q3,q4,q5,rfl⟩
 refine eU (M:=fun ρ τ=>a.extra=false∧ρ.get 1=.mptr 0 0∧τ=[.own cs]) ?_ ?_
 ·have hR : a.extra=true→a.right=false:=fun h=>by unfold Am.right;rw [h];simp
  have e1 : decide ((0 : Int) < (a.p.length : Int))=decide (0 < a.p.length):=by simp
  have e2 : (!(a.ck == 0 && (a.ci == 0 && a.ct == ([] : Bs))))=a.noC:=rfl
  have hx : a.extra=((!a.ZR && decide (0 < a.p.length)) || ((!(a.k == 1) && a.noC) || (!(a.k == 5) && a.op != 0))):=rfl
  try (simp only [go_sem,seval] at e2)
  generalize a.right=RR at *
  generalize a.extra=EX at *
  generalize a.ZR=P at *
  generalize (a.k == 1)=C at *
  generalize (a.k == 5)=O at *
  generalize decide (0 < a.p.length)=b1 at *
  generalize a.noC=b2 at *
  generalize ho : (a.op != 0)=b3 at *
  subst hx
  cases P<;>cases C<;>cases O<;>cases b1<;>cases b2<;>cases b3 <;>
  (simp only [go_sem,seval,q1,q3,q4,q5,g1,g5,g6,g7,lp,e1,rZ,e2,ho]
   try first
    | rfl
    | exact fin (by rfl) (by rw [hR rfl]))
 rintro ρ _ ⟨hx,q1,rfl⟩
 have hseg : ∀ n : Int,(!((n == 0) || (n == 1)))=(!(n == 0) && !(n == 1)):=fun n=>by cases (n == 0)<;>cases (n == 1)<;>rfl
 refine eU (M:=fun ρ τ=>a.p.all (fun s=>s.k == 0 || s.k == 1)=true∧ρ.get 1=.mptr 0 0∧τ[0]?=some (.own cs)) ?_ ?_
 ·simp only [go_sem,seval,q1,g1,g5,lp]
  refine bf (M:=fun ρ τ=>(∀ (i : Nat) (h : i < a.p.length),(a.p[i].k == 0 || a.p[i].k == 1)=true)∧ρ.get 1=.mptr 0 0∧τ[0]?=some (.own cs)) ?_ ?_
  ·rintro ρ τ ⟨hall,q1,t0⟩
   refine ⟨?_,q1,t0⟩
   rw [List.all_eq_true]
   intro s hs
   obtain ⟨i,hi,rfl⟩:=List.getElem_of_mem hs
   exact hall i hi
  refine aF (fun m ρ τ=>∃ j : Nat,m=a.p.length-j∧j≤a.p.length∧(∀ (i : Nat) (h : i < a.p.length),i < j→(a.p[i].k == 0 || a.p[i].k == 1)=true)∧ρ.get 1=.mptr 0 0∧ρ.get 51=pw∧ρ.get 52=.int .i64 a.p.length∧ρ.get 53=.int .i64 j∧τ[0]?=some (.own cs)) (n:=a.p.length) ?_ ⟨0,rfl,by omega,fun _ _ h=>absurd h (Nat.not_lt_zero _),by simp only [go_sem,seval,q1],rfl,rfl,rfl,rfl⟩
  rintro m ρ τ ⟨j,rfl,hj,hb,q1,q51,q52,q53,t0⟩
  have l0:=(List.getElem?_eq_some_iff.1 t0).1
  have t0' : ∀ υ,(τ++υ)[0]?=some (.own cs):=fun υ=>by rw [List.getElem?_append_left l0];exact t0
  by_cases hc' : j < a.p.length
  rotate_left
  ·have a5 : decide ((j : Int) < (a.p.length : Int))=false:=decide_eq_false (by omega)
   simp only [go_sem,seval,q1,q52,q53,a5]
   exact ⟨fun i h=>hb i h (by omega),t0⟩
  obtain ⟨tg,hit,a3,a4⟩:=hp.jr (j:=j) (by simpa using hc')
  rw [List.getElem_map] at a4
  rw [List.length_map] at hit
  have a2 : (j : Int) < (a.p.length : Int):=by omega
  have a5 : decide ((j : Int) < (a.p.length : Int))=true:=decide_eq_true a2
  have a6 : IntKind.i64.wrap ((j : Int)+1)=((j+1 : Nat) : Int):=by rw [iw (by omega)];omega
  have hs : ∀ i (h : i < a.p.length),i=j→(a.p[i].k == 0 || a.p[i].k == 1)=(a.p[j].k == 0 || a.p[j].k == 1):=fun i h e=>by subst e;rfl
  have s1 : a.p[j].cells.length=5:=rfl
  have s2 : a.p[j].cells.all VV.aC=true:=rfl
  have s3 : a.p[j].cells.take 5=a.p[j].cells:=rfl
  have s6 : a.p[j].cells.getD 0 .undef=.int .i64 a.p[j].k:=rfl
  have go : ∀ b,(a.p[j].k == 0 || a.p[j].k == 1)=b→(b=true→∃ m,m < a.p.length-j∧∃ j',m=a.p.length-j'∧j'≤a.p.length∧∀ (i : Nat) (h : i < a.p.length),i < j'→(a.p[i].k == 0 || a.p[i].k == 1)=true):=by
   intro b hbb hb1
   subst hb1
   refine ⟨a.p.length-(j+1),by omega,j+1,rfl,by omega,fun i h h1=>?_⟩
   rcases Nat.lt_succ_iff_lt_or_eq.1 h1 with h1 | h1
   ·exact hb i h h1
   ·rw [hs i h h1];exact hbb
  clear go
  have step1 : ∀ (hbb : (a.p[j].k == 0 || a.p[j].k == 1)=true),∀ (i : Nat) (h : i < a.p.length),i < j+1→(a.p[i].k == 0 || a.p[i].k == 1)=true:=by
   intro hbb i h h1
   rcases Nat.lt_succ_iff_lt_or_eq.1 h1 with h1 | h1
   ·exact hb i h h1
   ·rw [hs i h h1];exact hbb
  cases b0 : (a.p[j].k == 0) with
  | true =>
   simp only [go_sem,seval,q1,q51,q52,q53,hit,a0,a2,a3,a4,a5,a6,Int.toNat_natCast,s1,s2,s3,s6,t0',bne,b0,Bool.not_true,SS]
   exact ⟨a.p.length-(j+1),by omega,j+1,rfl,by omega,step1 (by rw [b0];rfl),rfl⟩
  | false =>
   cases b1 : (a.p[j].k == 1) with
   | true =>
    simp only [go_sem,seval,q1,q51,q52,q53,hit,a0,a2,a3,a4,a5,a6,Int.toNat_natCast,s1,s2,s3,s6,t0',bne,b0,b1,Bool.not_true,Bool.not_false,SS]
    exact ⟨a.p.length-(j+1),by omega,j+1,rfl,by omega,step1 (by rw [b0,b1];rfl),rfl⟩
   | false =>
    simp only [go_sem,seval,q1,q51,q52,q53,hit,a0,a2,a3,a4,a5,a6,Int.toNat_natCast,s1,s2,s3,s6,t0',bne,b0,b1,Bool.not_true,Bool.not_false,SS]
    refine fin (by rfl) ?_
    have hno : a.p.all (fun s=>s.k == 0 || s.k == 1)=false:=by
     rw [List.all_eq_false]
     exact ⟨_,List.getElem_mem hc',by rw [b0,b1];decide⟩
    unfold Am.right
    rw [hno];simp
 rintro ρ τ ⟨hall,q1,t0⟩
 have hS:=Ea a.ck a.ci a.ct
 have hkk : ∀ s ∈ a.p,s.k=0∨s.k=1:=fun s hs=>by simpa using List.all_eq_true.1 hall s hs
 obtain ⟨fc,fp,hfc,hRo⟩:=aax a.p pw hp hl hkk
 have hR : a.right=((decide (0≤a.op) && decide (a.op≤5)) && (qm a.ck a.ci a.ct == 0 && NQ a.p)):=by unfold Am.right;rw [hk,hx,hall];simp
 cases o1 : decide (0≤a.op) with
 | false =>
  simp only [go_sem,seval,q1,t0,g1,g5,g6,g7,o1]
  exact fin (by rfl) (by rw [hR,o1];rfl)
 | true =>
 cases o2 : decide (a.op≤5) with
 | false =>
  simp only [go_sem,seval,q1,t0,g1,g5,g6,g7,o1,o2]
  exact fin (by rfl) (by rw [hR,o1,o2];rfl)
 | true =>
 cases o3 : (qm a.ck a.ci a.ct == 0) with
 | false =>
  simp only [go_sem,seval,q1,t0,g1,g5,g6,g7,o1,o2]
  (first | refine ah (hS) ?_ | refine aK (hS) ?_ | refine aI (hS) ?_ | refine aj (hS) (by simp only [go_sem,seval,q1,t0,g1,g5,g6,g7,o1,o2,o3]) ?_ | refine aj (hS) ?_ ?_)<;>simp only [go_sem,seval,q1,t0,g1,g5,g6,g7,o1,o2,o3]
  exact fin (by rfl) (by rw [hR,o1,o2,o3];rfl)
 | true =>
 by_cases h0 : fc=0
 ·have hpo : NQ a.p=true:=hfc.1 h0
  subst h0
  have ef : zD 0 fp=.nili:=rfl
  rw [ef] at hRo
  simp only [go_sem,seval,q1,t0,g1,g5,g6,g7,o1,o2]
  (first | refine ah (hS) ?_ | refine aK (hS) ?_ | refine aI (hS) ?_ | refine aj (hS) (by simp only [go_sem,seval,q1,t0,g1,g5,g6,g7,o1,o2,o3]) ?_ | refine aj (hS) ?_ ?_)<;>simp only [go_sem,seval,q1,t0,g1,g5,g6,g7,o1,o2,o3]
  (first | refine ah (hRo) ?_ | refine aK (hRo) ?_ | refine aI (hRo) ?_ | refine aj (hRo) (by simp only [go_sem,seval]) ?_ | refine aj (hRo) ?_ ?_)<;>simp only [go_sem,seval]
  exact fin (by rfl) (by rw [hR,o1,o2,o3,hpo];rfl)
 ·have hpo : NQ a.p=false:=by
   cases h : NQ a.p with
   | false=>rfl
   | true=>exact absurd (hfc.2 h) h0
  rw [Ob fp h0] at hRo
  simp only [go_sem,seval,q1,t0,g1,g5,g6,g7,o1,o2]
  (first | refine ah (hS) ?_ | refine aK (hS) ?_ | refine aI (hS) ?_ | refine aj (hS) (by simp only [go_sem,seval,q1,t0,g1,g5,g6,g7,o1,o2,o3]) ?_ | refine aj (hS) ?_ ?_)<;>simp only [go_sem,seval,q1,t0,g1,g5,g6,g7,o1,o2,o3]
  (first | refine ah (hRo) ?_ | refine aK (hRo) ?_ | refine aI (hRo) ?_ | refine aj (hRo) (by simp only [go_sem,seval]) ?_ | refine aj (hRo) ?_ ?_)<;>simp only [go_sem,seval]
  exact fin (by rfl) (by rw [hR,o1,o2,o3,hpo];rfl)
end Go.V
namespace Go.V
open Go.Proofs
set_option maxRecDepth 100000
inductive ZI : Am→List VV→Prop
 | mk {a : Am} {pw : VV} (hp : dG 5 pw (a.p.map Sg.cells)) (hl : a.p.length≤9223372036854775807) (hi : ∀ s ∈ a.p,s.in) (hci : -9223372036854775808≤a.ci∧a.ci≤9223372036854775807) : ZI a (a.cells pw)
theorem ZI.cells {a : Am} {c : List VV} (h : ZI a c) : c.length=6∧VV.ak c=true∧c.all VV.aC=true:=by
 cases h with
 | mk hp hl hi hci=>exact ⟨rfl,by simp only [Am.cells,VV.ak,VV.isPure,hp.pure];rfl,by simp only [Am.cells,List.all_cons,List.all_nil,hp.cell];rfl⟩
def YX (l : List Am) (cs : List (List VV)) : Prop:=cs.length=l.length∧∀ (j : Nat) (h : j < l.length) (h' : j < cs.length),ZI l[j] cs[j]
def JG : List Am→Nat→List Bool→Int × Int
 | [],i,st=>if st=[true] then (0,0) else (2,i)
 | a::r,i,st=>if a.right=true then match CW st a.k with
  | none=>(2,i)
  | some st'=>JG r (i+1) st'
  else (1,i)
def WA (l : List Am) : Int × Int:=if 64 < l.length then (14,64) else JG l 0 []
theorem YZ {st st' : List Bool} {k : Int} (h : CW st k=some st') : st'.length≤st.length+1:=by
 have key : ∀ {n b},(CX st n b).map (·++[true])=some st'→st'.length≤st.length+1:=by
  intro n b h
  rw [Option.map_eq_some_iff] at h
  obtain ⟨s,h1,rfl⟩:=h
  have:=YK h1
  simp;omega
 unfold CW at h
 split at h
 ·exact key h
 ·split at h
  ·exact key h
  ·split at h
   ·exact key h
   ·cases h;simp
theorem aaC (l : List Am) (v : VV) (cs : List (List VV)) (hv : dG 6 v cs) (hl : YX l cs) (hll : l.length≤9223372036854775807) : PV Tryz.prog G0 13 [v] (zD (WA l).1 (WA l).2):=by
 have hvp:=hv.pure
 have hvc:=hv.cell
 simp only [go_sem,seval] at hvc
 have lp : ∀ {σ},aT Tryz.prog 25 v σ=okV (.int .i64 l.length) σ:=by intro σ;rw [hv.aT Dp,hl.1]
 have a0 : ∀ j : Nat,(0 : Int)≤(j : Int):=fun j=>by omega
 have hfp : ∀ c p,(zD c p).isPure=true:=fun c p=>by unfold zD;split<;>rfl
 refine pv e13 (by simp) (by simp only [VV.ak,VV.isPure,hvp];rfl) (hfp _ _) ?_
 by_cases hlen : l.length≤64
 rotate_left
 ·have b1 : decide ((64 : Int) < (l.length : Int))=true:=decide_eq_true (by omega)
  have e : WA l=(14,64):=by unfold WA;rw [if_pos (by omega)]
  rw [e]
  simp only [go_sem,seval,c13,hvc,lp,b1]
  (first | refine ah (uh 14 64) ?_ | refine aK (uh 14 64) ?_ | refine aI (uh 14 64) ?_ | refine aj (uh 14 64) (by simp only [go_sem,seval]) ?_ | refine aj (uh 14 64) ?_ ?_)<;>simp only [go_sem,seval]
  exact fin (hfp _ _) rfl
 have b1 : decide ((64 : Int) < (l.length : Int))=false:=decide_eq_false (by omega)
 have e : WA l=JG l 0 []:=by unfold WA;rw [if_neg (by omega)]
 simp only [go_sem,seval,c13,hvc,lp,b1]
 refine bf (M:=fun ρ τ=>∃ st u,WA l=JG [] l.length st∧ρ.get 0=v∧ρ.get 3=.mptr 0 0∧τ[0]?=some (.own [u])∧Fa 1 τ u (bb st)) ?_ ?_
 ·rintro ρ τ ⟨st,u,he,q0,q3,t0,hP⟩
  rw [he]
  have hle : ∀ {σ'},aT Tryz.prog 85 u σ'=okV (.int .i64 st.length) σ':=by intro σ';rw [hP.aT JW,YH]
  have huc:=hP.cell
  have hbad : st≠[true]→JG [] l.length st=(2,(l.length : Int)):=fun h=>by unfold JG;rw [if_neg h]
  by_cases h1 : st.length=1
  rotate_left
  ·have n1 : ((st.length : Int) == 1)=false:=by rw [beq_eq_false_iff_ne];omega
   rw [hbad (fun h=>h1 (by rw [h];rfl))]
   rcases hP.shape with rfl | ⟨i0,n0,rfl⟩
   all_goals
    simp only [go_sem,seval,q0,q3,t0,hle,lp,bne,n1,Bool.not_false]
    (first | refine ah (uh 2 l.length) ?_ | refine aK (uh 2 l.length) ?_ | refine aI (uh 2 l.length) ?_ | refine aj (uh 2 l.length) (by simp only [go_sem,seval]) ?_ | refine aj (uh 2 l.length) ?_ ?_)<;>simp only [go_sem,seval]
    exact fin (hfp _ _) rfl
  obtain ⟨b,rfl⟩ : ∃ b,st=[b]:=by
   match st,h1 with
   | [b],_=>exact ⟨b,rfl⟩
  obtain ⟨id,cells,rfl,hid,hcl,hat⟩:=hP.at (j:=0) (by simp [bb])
  rw [YH] at *
  have hg : cells.getD 0 .undef=.bool b:=by
   have:=congrArg (·[0]?) hat
   simp [bb] at this
   rw [List.getD_eq_getElem?_getD,this];rfl
  have hg0 : 0 < cells.length:=by omega
  cases b with
  | true =>
   have e2 : JG [] l.length [true]=(0,0):=by unfold JG;rw [if_pos rfl]
   rw [e2]
   simp only [go_sem,seval,q0,q3,t0,hle,hid,hg,hg0]
   exact fin (hfp _ _) rfl
  | false =>
   rw [hbad (by decide)]
   simp only [go_sem,seval,q0,q3,t0,hle,lp,hid,hg,hg0]
   (first | refine ah (uh 2 l.length) ?_ | refine aK (uh 2 l.length) ?_ | refine aI (uh 2 l.length) ?_ | refine aj (uh 2 l.length) (by simp only [go_sem,seval]) ?_ | refine aj (uh 2 l.length) ?_ ?_)<;>simp only [go_sem,seval]
   exact fin (hfp _ _) rfl
 refine aF (fun m ρ τ=>∃ (j : Nat) (st : List Bool) (u : VV),m=l.length-j∧j≤l.length∧st.length≤j∧WA l=JG (l.drop j) j st∧ρ.get 0=v∧ρ.get 3=.mptr 0 0∧ρ.get 12=v∧ρ.get 13=.int .i64 l.length∧ρ.get 14=.int .i64 j∧τ[0]?=some (.own [u])∧Fa 1 τ u (bb st)∧∀ id o n z,u=.bZ id o n z→id≠0) (n:=l.length) ?_ ⟨0,[],.nils,rfl,by omega,by simp,e,rfl,rfl,rfl,rfl,rfl,rfl,.nil,fun _ _ _ _ h=>by cases h⟩
 rintro m ρ τ ⟨j,st,u,rfl,hj,hsl,he,q0,q3,q12,q13,q14,t0,hP,hne⟩
 by_cases hc' : j < l.length
 rotate_left
 ·have a5 : decide ((j : Int) < (l.length : Int))=false:=decide_eq_false (by omega)
  simp only [go_sem,seval,q0,q3,q13,q14,a5]
  exact ⟨st,u,by rw [he,List.drop_eq_nil_of_le (by omega),show j=l.length by omega],t0,hP⟩
 have hcs : j < cs.length:=by rw [hl.1];exact hc'
 obtain ⟨tg,hit,a3,a4⟩:=hv.jr hcs
 rw [hl.1] at hit
 have a2 : (j : Int) < (l.length : Int):=by omega
 have a5 : decide ((j : Int) < (l.length : Int))=true:=decide_eq_true a2
 have a6 : IntKind.i64.wrap ((j : Int)+1)=((j+1 : Nat) : Int):=by rw [iw (by omega)];omega
 have hA:=hl.2 j hc' hcs
 obtain ⟨s1,s0,s2⟩:=hA.cells
 have s3 : cs[j].take 6=cs[j]:=List.take_of_length_le (by omega)
 rw [List.drop_eq_getElem_cons hc'] at he
 generalize cs[j]=cc at *
 generalize l[j]=a at *
 cases hA with
 | @mk pw hpw hpl hpi hpci =>
 have hR:=aaw a pw hpw hpl
 have l0:=(List.getElem?_eq_some_iff.1 t0).1
 have tA : ∀ υ,(τ++[Obj.own (a.cells pw)]++υ)[τ.length]?=some (.own (a.cells pw)):=fun υ=>by rw [List.append_assoc];simp
 have tA0 : (τ++[Obj.own (a.cells pw)])[τ.length]?=some (.own (a.cells pw)):=by simp
 cases hr : a.right with
 | false =>
  rw [hr] at hR
  have e2 : WA l=(1,(j : Int)):=by rw [he];unfold JG;rw [hr];rfl
  rw [e2]
  simp only [go_sem,seval,q0,q3,q12,q13,q14,hit,a0,a2,a3,a4,a5,Int.toNat_natCast,s1,s2,s3,tA0,SS]
  (first | refine ah (hR) ?_ | refine aK (hR) ?_ | refine aI (hR) ?_ | refine aj (hR) (by simp only [go_sem,seval,q0,q3,Bool.not_false]) ?_ | refine aj (hR) ?_ ?_)<;>simp only [go_sem,seval,q0,q3,Bool.not_false]
  (first | refine ah (uh 1 j) ?_ | refine aK (uh 1 j) ?_ | refine aI (uh 1 j) ?_ | refine aj (uh 1 j) (by simp only [go_sem,seval]) ?_ | refine aj (uh 1 j) ?_ ?_)<;>simp only [go_sem,seval]
  exact fin (hfp _ _) rfl
 | true =>
 rw [hr] at hR
 simp only [go_sem,seval,q0,q3,q12,q13,q14,hit,a0,a2,a3,a4,a5,Int.toNat_natCast,s1,s2,s3,tA0,SS]
 (first | refine ah (hR) ?_ | refine aK (hR) ?_ | refine aI (hR) ?_ | refine aj (hR) (by simp only [go_sem,seval,q0,q3,Bool.not_true,s1,s2,s3,tA0]) ?_ | refine aj (hR) ?_ ?_)<;>simp only [go_sem,seval,q0,q3,Bool.not_true,s1,s2,s3,tA0]
 refine CV.mono (aaJ 0 u st _ (by rw [List.getElem?_append_left l0];exact t0) (hP.snoc _) (by omega) hne a pw hpw.cell) ?_
 rintro r σ' h
 cases hd : CW st a.k with
 | none =>
  rw [hd] at h
  subst h
  have e2 : WA l=(2,(j : Int)):=by rw [he];unfold JG;rw [hr,hd];rfl
  rw [e2]
  simp only [go_sem,seval,gZ,Bool.not_false]
  (first | refine ah (uh 2 j) ?_ | refine aK (uh 2 j) ?_ | refine aI (uh 2 j) ?_ | refine aj (uh 2 j) (by simp only [go_sem,seval]) ?_ | refine aj (uh 2 j) ?_ ?_)<;>simp only [go_sem,seval]
  exact fin (hfp _ _) rfl
 | some st' =>
  rw [hd] at h
  obtain ⟨rfl,v',t0',hP',hne'⟩:=h
  have e2 : WA l=JG (l.drop (j+1)) (j+1) st':=by rw [he,JG,if_pos hr,hd]
  have hlen':=YZ hd
  simp only [go_sem,seval,gZ,Bool.not_true,q0,q3,q12,q13,q14,a6]
  exact ⟨l.length-(j+1),by omega,j+1,st',v',rfl,by omega,by omega,e2,hit,hit,rfl,t0',hP',hne'⟩
end Go.V
namespace Go.V
open Go.Proofs
set_option maxRecDepth 100000
theorem uS (a b : Int) : PV Tryz.prog G0 175 [.int .i64 a,.int .i64 b] (.int .i64 (DI a b)):=by
 refine pv e175 (by simp) rfl rfl ?_
 rcases Int.lt_trichotomy a b with h | h | h
 ·have b1 : decide (a < b)=true:=decide_eq_true h
  simp only [go_sem,seval,c175,b1]
  exact fin (by rfl) (by rw [DI,if_pos h])
 ·subst h
  have b1 : decide (a < a)=false:=decide_eq_false (by omega)
  simp only [go_sem,seval,c175,b1]
  exact fin (by rfl) (by simp [DI])
 ·have b1 : decide (a < b)=false:=decide_eq_false (by omega)
  have b2 : decide (b < a)=true:=decide_eq_true h
  simp only [go_sem,seval,c175,b1,b2]
  exact fin (by rfl) (by rw [DI,if_neg (by omega),if_pos h])
theorem Y3 (k i k' i' : Int) (t t' : Bs) : PV Tryz.prog G0 127 [.agg [.int .i64 k,.int .i64 i,.str t],.agg [.int .i64 k',.int .i64 i',.str t']] (.int .i64 (Ve k i t k' i' t')):=by
 refine pv e127 (by simp) rfl rfl ?_
 by_cases h1 : DI k k'=0
 ·have b1 : (DI k k' == 0)=true:=by simpa using h1
  by_cases h2 : DI i i'=0
  ·have b2 : (DI i i' == 0)=true:=by simpa using h2
   simp only [go_sem,seval,c127]
   (first | refine ah (uS k k') ?_ | refine aK (uS k k') ?_ | refine aI (uS k k') ?_ | refine aj (uS k k') (by simp only [go_sem,seval,bne,b1,Bool.not_true]) ?_ | refine aj (uS k k') ?_ ?_)<;>simp only [go_sem,seval,bne,b1,Bool.not_true]
   (first | refine ah (uS i i') ?_ | refine aK (uS i i') ?_ | refine aI (uS i i') ?_ | refine aj (uS i i') (by simp only [go_sem,seval,bne,b2,Bool.not_true]) ?_ | refine aj (uS i i') ?_ ?_)<;>simp only [go_sem,seval,bne,b2,Bool.not_true]
   (first | refine ah (IZ t t') ?_ | refine aK (IZ t t') ?_ | refine aI (IZ t t') ?_ | refine aj (IZ t t') (by simp only [go_sem,seval]) ?_ | refine aj (IZ t t') ?_ ?_)<;>simp only [go_sem,seval]
   exact fin (by rfl) (by unfold Ve;rw [if_neg (by omega),if_neg (by omega)])
  ·have b2 : (DI i i' == 0)=false:=by simpa using h2
   simp only [go_sem,seval,c127]
   (first | refine ah (uS k k') ?_ | refine aK (uS k k') ?_ | refine aI (uS k k') ?_ | refine aj (uS k k') (by simp only [go_sem,seval,bne,b1,Bool.not_true]) ?_ | refine aj (uS k k') ?_ ?_)<;>simp only [go_sem,seval,bne,b1,Bool.not_true]
   (first | refine ah (uS i i') ?_ | refine aK (uS i i') ?_ | refine aI (uS i i') ?_ | refine aj (uS i i') (by simp only [go_sem,seval,bne,b2,Bool.not_false]) ?_ | refine aj (uS i i') ?_ ?_)<;>simp only [go_sem,seval,bne,b2,Bool.not_false]
   exact fin (by rfl) (by unfold Ve;rw [if_neg (by omega),if_pos h2])
 ·have b1 : (DI k k' == 0)=false:=by simpa using h1
  simp only [go_sem,seval,c127]
  (first | refine ah (uS k k') ?_ | refine aK (uS k k') ?_ | refine aI (uS k k') ?_ | refine aj (uS k k') (by simp only [go_sem,seval,bne,b1,Bool.not_false]) ?_ | refine aj (uS k k') ?_ ?_)<;>simp only [go_sem,seval,bne,b1,Bool.not_false]
  exact fin (by rfl) (by unfold Ve;rw [if_pos h1])
theorem aan (kd : Int) (p q : St) : PV Tryz.prog G0 130 [.int .i64 kd,.agg p.cells,.agg q.cells] (.int .i64 (if kd=5 then tH p.t q.t else 0)):=by
 refine pv e130 (by simp) rfl rfl ?_
 by_cases h : kd=5
 ·have b : (kd == 5)=true:=by simpa using h
  simp only [go_sem,seval,c130,St.cells,bne,b,Bool.not_true]
  (first | refine ah (IZ p.t q.t) ?_ | refine aK (IZ p.t q.t) ?_ | refine aI (IZ p.t q.t) ?_ | refine aj (IZ p.t q.t) (by simp only [go_sem,seval]) ?_ | refine aj (IZ p.t q.t) ?_ ?_)<;>simp only [go_sem,seval]
  exact fin (by rfl) (by rw [if_pos h])
 ·have b : (kd == 5)=false:=by simpa using h
  simp only [go_sem,seval,c130,St.cells,bne,b,Bool.not_false]
  exact fin (by rfl) (by rw [if_neg h])
theorem Uu (x : Vl) (hx : x.ok) : PV Tryz.prog G0 82 [x.vv] (.int .i64 x.k):=by
 refine pv e82 (by simp) (by simp [VV.ak,VV.isPure,Vl.vv,hx.pure]) rfl ?_
 have d1 : x.cells.length=11:=rfl
 have d2 : x.cells.all VV.aC=true:=hx.cell
 have d3 : x.cells.take 11=x.cells:=rfl
 have dx : x.cells.getD 3 .undef=.int .i64 x.k:=rfl
 simp only [go_sem,seval,c82,Vl.vv,d1,d2,d3,dx]
 exact fin (by rfl) rfl
theorem Y4 (x : Vl) (hx : x.ok) : PV Tryz.prog G0 128 [x.vv] (.tup [.agg [.int .i64 x.sk,.int .i64 x.si,.str x.st],.bool (decide (x.k < 4))]):=by
 refine pv e128 (by simp) (by simp [VV.ak,VV.isPure,Vl.vv,hx.pure]) rfl ?_
 have d1 : x.cells.length=11:=rfl
 have d2 : x.cells.all VV.aC=true:=hx.cell
 have d3 : x.cells.take 11=x.cells:=rfl
 have dx : x.cells.getD 3 .undef=.int .i64 x.k:=rfl
 have d4 : x.cells.take 3=[.int .i64 x.sk,.int .i64 x.si,.str x.st]:=rfl
 have d5 : x.cells.drop 0=x.cells:=rfl
 simp only [go_sem,seval,c128,Vl.vv,d1,d2,d3,dx,d4,d5]
 exact fin (by rfl) rfl
theorem Z7 (x y : Vl) (hx : x.ok) (hy : y.ok) (p : St) (hG : PV Tryz.prog G0 44 [x.vv,.agg p.cells] (IL (some y))) : PV Tryz.prog G0 131 [.fn (.func 44) [x.vv] [],.agg p.cells] y.vv:=by
 have hyp : (y.vv).isPure=true:=by simp [VV.isPure,Vl.vv,hy.pure]
 refine pv e131 (by simp) (by simp [VV.ak,VV.isPure,Vl.vv,hx.pure,St.cells]) hyp ?_
 have f1 : y.cells.length=11:=rfl
 have f2 : y.cells.all VV.aC=true:=hy.cell
 have f3 : y.cells.take 11=y.cells:=rfl
 have f4 : y.cells.drop 0=y.cells:=rfl
 simp only [IL,St.cells,Vl.vv] at hG
 simp only [go_sem,seval,c131,St.cells,Vl.vv]
 (first | refine ah (hG) ?_ | refine aK (hG) ?_ | refine aI (hG) ?_ | refine aj (hG) (by simp only [go_sem,seval,f1,f2,f3,f4,Zm]) ?_ | refine aj (hG) ?_ ?_)<;>simp only [go_sem,seval,f1,f2,f3,f4,Zm]
 exact fin hyp rfl
end Go.V
namespace Go.V
open Go.Proofs
set_option maxRecDepth 100000
theorem Y1 {items : List (Bs × (T × Vl))} {ps : List iE} (hn : jI ps) (hp : ps.Perm (items.map fun q=>(q.1,q.2.2))) {i : Nat} (hi : i < items.length) : lk ps items[i].1=some items[i].2.2 :=
 xU hn (hp.mem_iff.2 (List.mem_map.2 ⟨items[i],List.getElem_mem hi,rfl⟩))
theorem Y6 : ∀ items : List (Bs × (T × Vl)),(items.map fun q=>(q.1,q.2.1))=((items.map fun q=>(⟨1,0,q.1⟩ : St)).zip (items.map (·.2))).map fun q=>(q.1.t,q.2.1)
 | []=>rfl
 | q::l=>by simp only [List.map_cons,List.zip_cons_cons];rw [← Y6 l]
structure Parts (v : T) (x : Vl) (ps : List St) (ys : List (T × Vl)) : Prop where
 len : ps.length=ys.length
 few : ps.length≤1000000
 steps : ∃ sv,dG 3 sv (ps.map St.cells)∧PV Tryz.prog G0 129 [x.vv] sv
 get : ∀ (i : Nat) (h : i < ps.length) (h' : i < ys.length),PV Tryz.prog G0 44 [x.vv,.agg ps[i].cells] (IL (some ys[i].2))∧ys[i].2.ok∧oL ys[i].1 ys[i].2
 shape : (x.k=4∧v=.vec (ys.map (·.1)))∨(x.k=5∧v=.map ((ps.zip ys).map fun q=>(q.1.t,q.2.1)))∨(x.k=6∧v=.set (ys.map (·.1)))
theorem Zr {v : T} {x : Vl} (h : oL v x) (hx : x.ok) : x.k < 4∨∃ ps ys,Parts v x ps ys:=by
 cases h with
 | sc k i t h hb hi=>exact .inl (by have:=AB h;simp only [JH];omega)
 | vec items h ho root hR =>
  right
  have hsl:=jF (items.map (·.2))
  have hil : items.length≤1000000:=by have:=hx.hm;simp at hsl this;omega
  have hlen : (items.map (·.2.cells)).length=items.length:=by simp
  obtain ⟨ps,hps⟩ : ∃ ps : List St,ps=(List.range items.length).map fun i : Nat=>(⟨0,(i : Int),[]⟩ : St):=⟨_,rfl⟩
  have hpl : ps.length=items.length:=by rw [hps];simp
  have hpi : ∀ i (hi : i < ps.length),ps[i]=⟨0,i,[]⟩:=fun i hi=>by subst hps;simp
  have hS:=YG _ hx (tN (items.map (·.2.cells))) ps (by omega)
   (fun i args hi ha=>by
    have hi' : i < items.length:=by omega
    unfold tN at ha
    refine ⟨items[i].2.cells,⟨by simp [Vl.cells],by simpa using (ho _ (List.getElem_mem hi')).pure,by simpa using (ho _ (List.getElem_mem hi')).cell⟩, ?_⟩
    rw [ha,hpi i hi]
    simp [List.getD_eq_getElem?_getD,hi',St.cells])
   (fun caps J D σ hC hJ=>by
    have:=tu 0 0 [] root (items.map (·.2.cells)) hR 0 0 0 .nilp rfl (maxD (items.map (·.2)) : Nat) (dw (items.map (·.2)) : Nat) 177 J5 caps J D σ (by rw [hlen];exact hil) (by rw [hlen,← hpl];exact hC) hJ
    rw [hlen,← hpl] at this;exact this)
  refine ⟨ps,items,hpl,by omega,hS,fun i hi hi'=>?_,.inl ⟨rfl,rfl⟩⟩
  have hm:=List.getElem_mem hi'
  refine ⟨?_,ho _ hm,h _ hm⟩
  have:=Gt _ items[i].2 hx (ho _ hm) rfl rfl (items.map (·.2.cells)) hR (by omega) i (by simpa using hi') (by simp)
  rw [hpi i hi];exact this
 | map items seed bits hr ps hi hp hM h ho =>
  right
  have hsl:=jF (items.map (·.2.2))
  have hil : items.length≤1000000:=by have:=hx.hm;simp at hsl this;omega
  have hsrt:=qQ hi hp
  have hpl : ps.length=items.length:=by simpa using hp.length_eq
  have hpo : ∀ p ∈ ps,p.2.ok:=fun p hpm=>by
   obtain ⟨q,hq,rfl⟩:=List.mem_map.1 (hp.mem_iff.1 hpm)
   exact (ho q hq).1
  obtain ⟨qs,hqs⟩ : ∃ qs : List St,qs=items.map fun q=>(⟨1,0,q.1⟩ : St):=⟨_,rfl⟩
  have hql : qs.length=items.length:=by rw [hqs];simp
  have hqi : ∀ i (hi : i < qs.length),∃ h : i < items.length,qs[i]=⟨1,0,items[i].1⟩:=fun i hi=>⟨by omega,by subst hqs;simp⟩
  have hS:=YG _ hx (mkArgs 5 (kP ps)) qs (by omega)
   (fun i args hi2 ha=>by
    obtain ⟨hi',hq⟩:=hqi i hi2
    have ha':=nD (k:=5) (qs:=kP ps) (by rw [hsrt];simpa using hi') ha
    simp only [hsrt,List.getElem_map] at ha'
    refine ⟨items[i].2.2.cells,⟨by simp [Vl.cells],by simpa using (ho _ (List.getElem_mem hi')).1.pure,by simpa using (ho _ (List.getElem_mem hi')).1.cell⟩, ?_⟩
    rw [ha',hq];rfl)
   (fun caps J D σ hC hJ=>by
    obtain ⟨N,hN⟩ : ∃ N : Int,N=items.length:=⟨_,rfl⟩
    have:=lN 5 (.inl rfl) 0 0 [] .nilp rfl seed bits N hr ps hM hpo (by omega) (maxD (items.map (·.2.2)) : Nat) (dw (items.map (·.2.2)) : Nat) 177 J5 caps J D σ (by rw [hpl,← hql];exact hC) hJ
    rw [hpl,← hql] at this;rw [hN] at this;exact this)
  refine ⟨qs,items.map (·.2),by simpa using hql,by omega,hS,fun i hi2 hi3=>?_,.inr (.inl ⟨rfl, ?_⟩)⟩
  ·obtain ⟨hi',hq⟩:=hqi i hi2
   have hm:=List.getElem_mem hi'
   rw [List.getElem_map]
   refine ⟨?_,(ho _ hm).1,h _ hm⟩
   have:=Vf _ hx ps hM hpo (by omega) 1 0 items[i].1 (.inl rfl) rfl (by have:=(ho _ hm).2;omega)
   rw [Y1 hM.nodup hp hi'] at this
   rw [hq];exact this
  ·rw [hqs,← Y6]
 | set items seed bits hr ps hi hp hM h ho hk =>
  right
  have hsl:=jF (items.map (·.2.2))
  have hil : items.length≤1000000:=by have:=hx.hm;simp at hsl this;omega
  have hsrt:=qQ hi hp
  have hpl : ps.length=items.length:=by simpa using hp.length_eq
  have hpo : ∀ p ∈ ps,p.2.ok:=fun p hpm=>by
   obtain ⟨q,hq,rfl⟩:=List.mem_map.1 (hp.mem_iff.1 hpm)
   exact (ho q hq).1
  obtain ⟨qs,hqs⟩ : ∃ qs : List St,qs=items.map fun q=>(⟨2,0,q.1⟩ : St):=⟨_,rfl⟩
  have hql : qs.length=items.length:=by rw [hqs];simp
  have hqi : ∀ i (hi : i < qs.length),∃ h : i < items.length,qs[i]=⟨2,0,items[i].1⟩:=fun i hi=>⟨by omega,by subst hqs;simp⟩
  have hS:=YG _ hx (mkArgs 6 (kP ps)) qs (by omega)
   (fun i args hi2 ha=>by
    obtain ⟨hi',hq⟩:=hqi i hi2
    have ha':=nD (k:=6) (qs:=kP ps) (by rw [hsrt];simpa using hi') ha
    simp only [hsrt,List.getElem_map] at ha'
    refine ⟨items[i].2.2.cells,⟨by simp [Vl.cells],by simpa using (ho _ (List.getElem_mem hi')).1.pure,by simpa using (ho _ (List.getElem_mem hi')).1.cell⟩, ?_⟩
    rw [ha',hq];rfl)
   (fun caps J D σ hC hJ=>by
    obtain ⟨N,hN⟩ : ∃ N : Int,N=items.length:=⟨_,rfl⟩
    have:=lN 6 (.inr rfl) 0 0 [] .nilp rfl seed bits N hr ps hM hpo (by omega) (maxD (items.map (·.2.2)) : Nat) (dw (items.map (·.2.2)) : Nat) 177 J5 caps J D σ (by rw [hpl,← hql];exact hC) hJ
    rw [hpl,← hql] at this;rw [hN] at this;exact this)
  refine ⟨qs,items.map (·.2),by simpa using hql,by omega,hS,fun i hi2 hi3=>?_,.inr (.inr ⟨rfl,by simp⟩)⟩
  obtain ⟨hi',hq⟩:=hqi i hi2
  have hm:=List.getElem_mem hi'
  rw [List.getElem_map]
  refine ⟨?_,(ho _ hm).1,h _ hm⟩
  have:=Vf _ hx ps hM hpo (by omega) 2 0 items[i].1 (.inr rfl) rfl (ho _ hm).2
  rw [Y1 hM.nodup hp hi'] at this
  rw [hq];exact this
end Go.V
