/- Texts F39 F40 L1. -/
import Derived.Test.YthhjefemijhamaaGreatDoorG23
set_option linter.unusedVariables false
set_option linter.unusedSimpArgs false
namespace Go.V
open Go.Proofs
set_option maxRecDepth 100000
theorem Bj {α β : Type} {f g : α→Option β} : ∀ {l : List α},(∀ a ∈ l,f a=g a)→l.filterMap f=l.filterMap g
 | [],_=>rfl
 | a::l,h=>by
  have h1:=h a (by simp)
  have h2:=Bj (l:=l) (fun b hb=>h b (by simp [hb]))
  simp only [List.filterMap,h1,h2]
theorem mP.set {f : Nat→Option (List VV)} {x : Nat} {l : VV} (h : mP f x l) {i : Nat} (hi : i < 32) (s : List VV) :
  slotsOf (fun j=>if j=i then some s else f j)=(slotsOf f).take (pc i x)++(s::(slotsOf f).drop (pc i x+(if x.testBit i then 1 else 0))):=by
 have e:=oz f hi
 have e':=oz (fun j=>if j=i then some s else f j) hi
 have a1 : (List.range i).filterMap (fun j=>if j=i then some s else f j)=(List.range i).filterMap f :=
  Bj fun j hj=>by have:=List.mem_range.1 hj;rw [if_neg (by omega)]
 have a2 : ((List.range (31-i)).map (i+1+·)).filterMap (fun j=>if j=i then some s else f j)=((List.range (31-i)).map (i+1+·)).filterMap f :=
  Bj fun j hj=>by
   obtain ⟨k,_,rfl⟩:=List.mem_map.1 hj
   rw [if_neg (by omega)]
 rw [a1,a2] at e'
 simp only [if_true,Option.toList_some] at e'
 have hr:=h.rank (i:=i) (by omega)
 rw [e',e,hr,h.bit i hi]
 rw [List.take_append_of_le_length (Nat.le_refl _),List.take_length]
 cases hf : f i with
 | none =>
  simp
 | some b =>
  simp
theorem Kz (z : List VV) : ∀ n,rep z n=(List.replicate n z).flatten
 | 0=>rfl
 | n+1=>by rw [rep,Kz z n,List.replicate_succ,List.flatten_cons]
theorem qV {k : Nat} {xs ys : List (List VV)} (hx : dS k xs) (hy : dS k ys) {o : Nat} (ho : o+ys.length≤xs.length) : splice xs.flatten (o*k) ys.flatten=(xs.take o++(ys++xs.drop (o+ys.length))).flatten:=by
 unfold splice
 rw [hx.iU,hy.flat,← Nat.add_mul,hx.iV,List.flatten_append,List.flatten_append]
theorem Nq {t tx e : TypeId} {k : Nat} {σ : Store} {id n o off : Nat} {xs ys : List (List VV)} {x : VV} (ht : jh Tryz.prog t=some e) (hk : fV Tryz.prog e=some k) (hk0 : 0 < k)
  (hid : σ[id]?=some (.own xs.flatten)) (hB : dS k xs) (hC : dS k ys) (hoff : off=o*k) (hn : o+n≤xs.length) (hm : ys.length≤n) (hx : aJ Tryz.prog σ k tx x=some (ys.length,ys.flatten)) :
  ∃ p,p∧mF Tryz.prog t tx (.dP id off n k) x σ=some ⟨p,.int .i64 ys.length,σ.set id (.own (xs.take o++(ys++xs.drop (o+ys.length))).flatten)⟩:=by
 subst hoff
 have e1 : Nat.min ys.length n=ys.length:=Nat.min_eq_left hm
 have e2 : ys.flatten.take (ys.length*k)=ys.flatten:=List.take_of_length_le (by rw [hC.flat];exact Nat.le_refl _)
 have : mF Tryz.prog t tx (.dP id (o*k) n k) x σ=some ⟨ys.flatten.length=ys.length*k∧o*k+n*k≤xs.flatten.length∧aU ys.flatten=true∧0 < k,.int .i64 ys.length,σ.set id (.own (xs.take o++(ys++xs.drop (o+ys.length))).flatten)⟩:=by
  simp only [mF,ht,hk,hx,hid,if_true,e1,e2]
  rw [qV hB hC (by omega)]
 exact ⟨_,⟨hC.flat,by rw [hB.flat,← Nat.add_mul];exact Nat.mul_le_mul_right k hn,hC.xq,hk0⟩,this⟩
theorem Qu {t tx e : TypeId} {k : Nat} {σ : Store} {cells : List VV} {tg : Bool} {m : Nat} {news : List VV} {x : VV} (ht : jh Tryz.prog t=some e) (hk : fV Tryz.prog e=some k) (hx : aJ Tryz.prog σ k tx x=some (m,news)) (hl : news.length=m*k) :
  ∃ p,p∧mF Tryz.prog t tx (.sl 0 cells tg) x σ=some ⟨p,.int .i64 0,σ⟩:=by
 have : mF Tryz.prog t tx (.sl 0 cells tg) x σ=some ⟨news.length=m*k,.int .i64 0,σ⟩:=by
  simp only [mF,ht,hk,hx]
 exact ⟨_,hl,this⟩
theorem xC {t e : TypeId} {k : Nat} {σ : Store} {xs : List (List VV)} {a b : Nat} {tg : Bool} (ht : jh Tryz.prog t=some e) (hB : dS k xs) (h : a+b≤xs.length) : aJ Tryz.prog σ k t (.sl b ((xs.flatten.drop (a*k)).take (b*k)) tg)=some (((xs.drop a).take b).length,((xs.drop a).take b).flatten):=by
 have e0 : ((xs.drop a).take b).length=b:=by simp;omega
 have e1 : ((xs.drop a).take b).flatten.length=b*k:=by rw [((hB.drop a).take b).flat,e0]
 have e2 : ((xs.drop a).take b).flatten.take (b*k)=((xs.drop a).take b).flatten:=List.take_of_length_le (by rw [e1];exact Nat.le_refl _)
 simp only [aJ,ht,mJ,fG,hB.iV,(hB.drop a).iU,e0,e1,e2,if_true]
theorem Qx {o : Option bD} {p : Prop} {v : VV} {s : Store} {d : Option Nat} {r : List VO} {Q : Out→Env→Store→Prop} {ρ : Env} (he : o=some ⟨p,v,s⟩) (hp : p) (h : dQ Tryz.prog G0 r Q (eP ρ d v) s) : eU Tryz.prog G0 o d r Q ρ:=by
 subst he;exact ⟨hp,h⟩
theorem IY {o : Option bD} {p : Prop} {v : VV} {s : Store} {d : Option Nat} {chk : List Nat} {r : List DO} {pd : sG} {Q : Out→Env→Store→Prop} {ρ : Env} (he : o=some ⟨p,v,s⟩) (hp : p) (h : iK Tryz.prog G0 chk pd s∧bH Tryz.prog G0 r pd Q (eP ρ d v) s) : oH Tryz.prog G0 o d chk r pd Q ρ:=by
 subst he;exact ⟨hp,h⟩
theorem vZ {t tx e : TypeId} {k : Nat} {σ : Store} {id n o off : Nat} {xs ys : List (List VV)} {x : VV} (ht : jh Tryz.prog t=some e) (hk : fV Tryz.prog e=some k) (hk0 : 0 < k)
  (hid : σ[id]?=some (.own xs.flatten)) (hB : dS k xs) (hC : dS k ys) (hoff : off=o*k) (hn : o+n≤xs.length) (hm : ys.length≤n) (hx : aJ Tryz.prog σ k tx x=some (ys.length,ys.flatten))
  {d : Nat} {r : List VO} {Q : Out→Env→Store→Prop} {ρ : Env} (h : dQ Tryz.prog G0 r Q ((d,.int .i64 ys.length)::ρ) (σ.set id (.own (xs.take o++(ys++xs.drop (o+ys.length))).flatten))) :
  eU Tryz.prog G0 (mF Tryz.prog t tx (.dP id off n k) x σ) (some d) r Q ρ:=by
 obtain ⟨p,hp,he⟩:=Nq ht hk hk0 hid hB hC hoff hn hm hx
 exact Qx he hp h
theorem BA {t tx e : TypeId} {k : Nat} {σ : Store} {id n o off : Nat} {xs ys : List (List VV)} {x : VV} (ht : jh Tryz.prog t=some e) (hk : fV Tryz.prog e=some k) (hk0 : 0 < k)
  (hid : σ[id]?=some (.own xs.flatten)) (hB : dS k xs) (hC : dS k ys) (hoff : off=o*k) (hn : o+n≤xs.length) (hm : ys.length≤n) (hx : aJ Tryz.prog σ k tx x=some (ys.length,ys.flatten))
  {d : Option Nat} {chk : List Nat} {r : List DO} {pd : sG} {Q : Out→Env→Store→Prop} {ρ : Env} (h : iK Tryz.prog G0 chk pd (σ.set id (.own (xs.take o++(ys++xs.drop (o+ys.length))).flatten))∧bH Tryz.prog G0 r pd Q (eP ρ d (.int .i64 ys.length)) (σ.set id (.own (xs.take o++(ys++xs.drop (o+ys.length))).flatten))) :
  oH Tryz.prog G0 (mF Tryz.prog t tx (.dP id off n k) x σ) d chk r pd Q ρ:=by
 obtain ⟨p,hp,he⟩:=Nq ht hk hk0 hid hB hC hoff hn hm hx
 exact IY he hp h
theorem sS {t tx e : TypeId} {k : Nat} {σ : Store} {cells : List VV} {tg : Bool} {ys : List (List VV)} {x : VV} (ht : jh Tryz.prog t=some e) (hk : fV Tryz.prog e=some k) (hx : aJ Tryz.prog σ k tx x=some (ys.length,ys.flatten)) (hC : dS k ys)
  {d : Option Nat} {chk : List Nat} {r : List DO} {pd : sG} {Q : Out→Env→Store→Prop} {ρ : Env} (h : iK Tryz.prog G0 chk pd σ∧bH Tryz.prog G0 r pd Q (eP ρ d (.int .i64 0)) σ) :
  oH Tryz.prog G0 (mF Tryz.prog t tx (.sl 0 cells tg) x σ) d chk r pd Q ρ:=by
 obtain ⟨p,hp,he⟩:=Qu (cells:=cells) (tg:=tg) ht hk hx hC.flat
 exact IY he hp h
theorem orZ (x i : Nat) (hx : x < 4294967296) (hi : i < 32) : IntKind.u32.wrap ↑(BitVec.ofInt 32 (x : Int) ||| BitVec.ofInt 32 (IntKind.u32.wrap (1*2 ^ min (IntKind.u64.wrap (i : Int)).toNat 32))).toNat=((x ||| 2 ^ i : Nat) : Int):=by
 have h1 : (IntKind.u64.wrap (i : Int)).toNat=i:=by rw [uw (by omega)];omega
 have h2 : (2 : Int) ^ i=((2 ^ i : Nat) : Int):=by norm_cast
 have h3 : 2 ^ i < 4294967296:=Nat.pow_lt_pow_right (a:=2) (n:=32) (by decide) hi
 have h9 : x ||| 2 ^ i < 4294967296:=Nat.or_lt_two_pow (n:=32) hx h3
 rw [h1,Nat.min_eq_left (by omega),h2,Int.one_mul]
 clear h2 h1
 generalize 2 ^ i=m at *
 have h5 : IntKind.u32.wrap ((m : Nat) : Int)=((m : Nat) : Int):=by rw [Jl];omega
 rw [h5,BitVec.toNat_or,BitVec.toNat_ofInt,BitVec.toNat_ofInt]
 have h7 : ((x : Int) % ((2 ^ 32 : Nat) : Int)).toNat=x:=by omega
 have h8 : (((m : Nat) : Int) % ((2 ^ 32 : Nat) : Int)).toNat=m:=by omega
 rw [h7,h8,Jl]
 generalize x ||| m=y at *
 omega
theorem nR (f : Nat→Option (List VV)) (x : Nat) (l : VV) (h : mP f x l) (i : Nat) (hi : i < 32) (s : List VV) (hs : dS 13 [s]) :
  ∃ l',mP (fun j=>if j=i then some s else f j) (x ||| 2 ^ i) l'∧PV Tryz.prog G0 166 [.agg [.int .u32 x,l],.int .i64 i,.agg s] (.agg [.int .u32 (x ||| 2 ^ i : Nat),l']):=by
 have hset:=h.set hi s
 have hH:=Qz x i l h.lt hi h.sl.pure h.sl.cell
 have hK:=QU x i l h.lt hi h.sl.pure h.sl.cell
 have hB:=h.sl.blk
 have hc:=h.sl.cell
 have hB' : dS 13 (slotsOf (fun j=>if j=i then some s else f j)):=by
  rw [hset]
  exact (hB.take _).append ⟨fun y hy=>(List.mem_cons.1 hy).elim (fun e=>e ▸ hs.len s (by simp)) (fun e=>hB.len y (List.mem_of_mem_drop e)),fun y hy=>(List.mem_cons.1 hy).elim (fun e=>e ▸ hs.pure s (by simp)) (fun e=>hB.pure y (List.mem_of_mem_drop e)),fun y hy=>(List.mem_cons.1 hy).elim (fun e=>e ▸ hs.cell s (by simp)) (fun e=>hB.cell y (List.mem_of_mem_drop e))⟩
 have hR : mP (fun j=>if j=i then some s else f j) (x ||| 2 ^ i) (.sl (slotsOf (fun j=>if j=i then some s else f j)).length (slotsOf (fun j=>if j=i then some s else f j)).flatten false):=by
  refine ⟨?_,fun j hj=>?_,.sl _ _ hB'⟩
  ·exact Nat.or_lt_two_pow (n:=32) h.lt (Nat.pow_lt_pow_right (by decide) hi)
  ·rw [Nat.testBit_or,Nat.testBit_two_pow,h.bit j hj]
   by_cases hji : j=i
   ·subst hji;simp
   ·rw [if_neg hji,decide_eq_false (by omega)];simp
 refine ⟨_,hR, ?_⟩
 have c7 : s.length=13:=hs.len s (by simp)
 have c8 : s.all VV.aF=true:=hs.cell s (by simp)
 have c9 : s.take 13=s:=List.take_of_length_le (by omega)
 have c10 : VV.ak s=true:=hs.pure s (by simp)
 refine pv e166 (by simp) (by simp [VV.ak,VV.isPure,h.sl.pure,c10]) (by simp [VV.ak,VV.isPure,hB'.rE]) ?_
 have b1 : decide ((i : Int) < 0)=false:=decide_eq_false (by omega)
 have b2 : decide ((31 : Int) < i)=false:=decide_eq_false (by omega)
 have hn : (slotsOf (fun j=>if j=i then some s else f j)).length≤32:=by unfold slotsOf;exact Nat.le_trans (List.length_filterMap_le _ _) (by simp)
 have hn0 : (slotsOf f).length≤32:=by unfold slotsOf;exact Nat.le_trans (List.length_filterMap_le _ _) (by simp)
 generalize slotsOf (fun j=>if j=i then some s else f j)=ys at *
 have hrk : pc i x≤(slotsOf f).length:=by rw [h.rank (by omega),oz f hi];simp
 cases htb : x.testBit i with
 | true =>
  rw [htb] at hset hH
  simp only [if_true] at hset
  have hlt : pc i x < (slotsOf f).length:=by
   cases hf : f i with
   | none=>have:=h.bit i hi;rw [htb,hf] at this;cases this
   | some b=>exact (h.get hi hf).1
  have hyl : ys.length=(slotsOf f).length:=by rw [hset];simp;omega
  obtain ⟨t,hl⟩:=h.sl.iO (by intro e;rw [e] at hlt;simp at hlt)
  generalize slotsOf f=xs at *
  generalize pc i x=r at *
  subst hl
  have e1 : IntKind.i64.wrap ((r : Int)+1)=((r+1 : Nat) : Int):=by rw [iw (by omega)];omega
  have e1' : IntKind.i64.wrap ((xs.length : Int)+1)=((xs.length+1 : Nat) : Int):=by rw [iw (by omega)];omega
  simp only [go_sem,seval,c166,c7,c8,c9,b1,b2]
  refine aC (hK) (by simp only [go_sem,seval,c7,c8,c9]) ?_<;>simp only [go_sem,seval,c7,c8,c9]
  refine ah (hH) ?_<;>simp only [go_sem,seval,c7,c8,c9,e1,e1',Int.toNat_natCast]
  have hz : dS 13 (List.replicate (xs.length) fQ):=⟨fun y hy=>by rw [List.eq_of_mem_replicate hy];rfl,fun y hy=>by rw [List.eq_of_mem_replicate hy];rfl,fun y hy=>by rw [List.eq_of_mem_replicate hy];rfl⟩
  have hr0 : rep [VV.str [],.int .i64 0,.int .i64 0,.str [],.int .i64 0,.nilp,.int .u64 0,.int .i64 0,.int .i64 0,.nilp,.int .i64 0,.int .i64 0,.nilp] (xs.length)=(List.replicate (xs.length) fQ).flatten:=Kz _ _
  refine ⟨by omega,⟨by omega,hB.flat⟩, ?_⟩
  rw [hr0]
  have hx1 : ∀ (σ : Store) (tg : Bool),aJ Tryz.prog σ 13 187 (.sl (r-0) (List.take ((r-0)*13) xs.flatten) tg)=some ((xs.take r).length,(xs.take r).flatten):=by
   intro σ tg
   have:=xC (σ:=σ) (a:=0) (b:=r) (tg:=tg) fU hB (by omega)
   rw [Nat.zero_mul,List.drop_zero,List.drop_zero] at this
   exact this
  refine vZ (o:=0) (xs:=List.replicate (xs.length) fQ) (ys:=xs.take r) fU kG (by decide) rfl hz (hB.take r) (by omega) (by simp) (by simp;omega) (hx1 _ _) ?_
  have hB2 : dS 13 (xs.take r++List.replicate (xs.length-r) fQ):=(hB.take r).append ⟨fun y hy=>by rw [List.eq_of_mem_replicate hy];rfl,fun y hy=>by rw [List.eq_of_mem_replicate hy];rfl,fun y hy=>by rw [List.eq_of_mem_replicate hy];rfl⟩
  have e0 : (xs.take r).length=r:=by simp;omega
  have e5 : (List.take 0 (List.replicate (xs.length) fQ)++(xs.take r++List.drop (0+(xs.take r).length) (List.replicate (xs.length) fQ)))=xs.take r++List.replicate (xs.length-r) fQ:=by
   rw [e0,List.take_zero,List.drop_replicate,Nat.zero_add,List.nil_append]
  rw [e5,e0]
  have hl2 : (xs.take r++List.replicate (xs.length-r) fQ).length=xs.length:=by simp;omega
  have ht2 : (xs.take r++List.replicate (xs.length-r) fQ).take r=xs.take r:=by rw [List.take_append_of_le_length (by omega),List.take_of_length_le (by omega)]
  generalize xs.take r++List.replicate (xs.length-r) fQ=xs2 at *
  have c1 : (0 : Int)≤(r : Int):=by omega
  have c2 : (r : Int) < ((xs.length : Nat) : Int):=by omega
  have c3 : 0+r*13+13≤xs2.flatten.length:=by rw [hB2.flat,hl2];omega
  have e6 : List.take (0+r*13) xs2.flatten++(s++List.drop (0+r*13+13) xs2.flatten)=(xs2.take r++s::xs2.drop (r+1)).flatten:=by
   have:=qV hB2 hs (o:=r) (by simp;omega)
   simp only [splice,List.flatten_cons,List.flatten_nil,List.append_nil,c7,List.length_cons,List.length_nil,Nat.zero_add] at this
   rw [Nat.zero_add];exact this
  have e7 : IntKind.i64.wrap ((r : Int)+1)=((r+1 : Nat) : Int):=by rw [iw (by omega)];omega
  have hB3 : dS 13 (xs2.take r++s::xs2.drop (r+1)):=(hB2.take r).append (show dS 13 ([s]++xs2.drop (r+1)) from hs.append (hB2.drop (r+1)))
  have hl3 : (xs2.take r++s::xs2.drop (r+1)).length=xs.length:=by simp;omega
  have ht3 : (xs2.take r++s::xs2.drop (r+1)).take (r+1)=xs.take r++[s]:=by
   rw [show xs2.take r++s::xs2.drop (r+1)=(xs2.take r++[s])++xs2.drop (r+1) by simp,ht2,List.take_append_of_le_length (by simp;omega),List.take_of_length_le (by simp;omega)]
  generalize xs2.take r++s::xs2.drop (r+1)=xs3 at *
  have hx2 : ∀ (σ : Store) (tg : Bool),aJ Tryz.prog σ 13 187 (.sl (xs.length-(r+1)) (List.take ((xs.length-(r+1))*13) (List.drop ((r+1)*13) xs.flatten)) tg)=some ((xs.drop (r+1)).length,(xs.drop (r+1)).flatten):=by
   intro σ tg
   have:=xC (σ:=σ) (a:=r+1) (b:=xs.length-(r+1)) (tg:=tg) fU hB (by omega)
   rw [List.take_of_length_le (l:=xs.drop (r+1)) (by simp)] at this
   exact this
  have hor:=orZ x i h.lt hi
  have hfz : ∀ (A B C : Obj),fz 2 ([A,B,C,.kL ys.flatten] : Store) (.agg [.int .u32 (x ||| 2 ^ i : Nat),.dP 3 0 (xs.length) 13])=some (.agg [.int .u32 (x ||| 2 ^ i : Nat),.sl ys.length ys.flatten false]):=by
   intro A B C
   have h1:=qj (m:=0) (σ:=([A,B,C,.kL ys.flatten] : Store)) (id:=3) (n:=xs.length) (k:=13) (xs:=ys) rfl hB' (by omega)
   have h2 : (VV.agg [.int .u32 (x ||| 2 ^ i : Nat),.dP 3 0 (xs.length) 13]).isPure=false:=rfl
   rw [fz,h2]
   simp only [List.mapM_cons,List.mapM_nil,h1]
   rfl
  by_cases hend : r+1=xs.length
  ·have hys : xs3=ys:=by
    have e8 : xs3=xs3.take (r+1):=by rw [List.take_of_length_le (by omega)]
    have e9 : xs.drop (r+1)=[]:=List.drop_eq_nil_of_le (by omega)
    rw [hset,e8,ht3,e9]
   have hcnd : (r+1=xs.length∧0 < r+1)=True:=eq_true ⟨hend,by omega⟩
   simp only [go_sem,seval,c1,c2,c3,c7,c8,c9,Int.toNat_natCast,e6,e7,hcnd]
   refine ⟨⟨by omega,by omega⟩,⟨⟨by omega,by omega⟩,hB.flat⟩, ?_⟩
   rw [hys]
   refine sS (ys:=xs.drop (r+1)) fU kG (hx2 _ _) (hB.drop _) ?_
   simp only [go_sem,seval]
   exact ⟨_,2,congrArg (fun z=>dX.ret (.agg [.int .u32 z,.dP 3 0 (xs.length) 13])) hor,hfz _ _ _⟩
  ·have hys : xs3.take (r+1)++(xs.drop (r+1)++xs3.drop (r+1+(xs.drop (r+1)).length))=ys:=by
    have e9 : xs3.drop (r+1+(xs.drop (r+1)).length)=[]:=List.drop_eq_nil_of_le (by simp;omega)
    rw [hset,ht3,e9];simp
   have hcnd : (r+1=xs.length∧0 < r+1)=False:=eq_false fun h=>hend h.1
   simp only [go_sem,seval,c1,c2,c3,c7,c8,c9,Int.toNat_natCast,e6,e7,hcnd]
   refine ⟨⟨by omega,by omega⟩,⟨⟨by omega,by omega⟩,hB.flat⟩, ?_⟩
   refine BA (o:=r+1) (xs:=xs3) (ys:=xs.drop (r+1)) fU kG (by decide) rfl hB3 (hB.drop _) (by omega) (by omega) (by simp) (hx2 _ _) ?_
   rw [hys]
   simp only [go_sem,seval]
   exact ⟨_,2,congrArg (fun z=>dX.ret (.agg [.int .u32 z,.dP 3 0 (xs.length) 13])) hor,hfz _ _ _⟩
 | false =>
  rw [htb] at hset hH
  simp only [Bool.false_eq_true,if_false,Nat.add_zero] at hset
  obtain ⟨N,hN⟩ : ∃ N,N=(slotsOf f).length+1:=⟨_,rfl⟩
  have hyl : ys.length=N:=by rw [hset];simp;omega
  have hsl:=h.sl
  generalize hxs : slotsOf f=xs at *
  generalize pc i x=r at *
  cases hsl with
  | sl _ t _ =>
   have e1 : IntKind.i64.wrap ((r : Int)+1)=((r+1 : Nat) : Int):=by rw [iw (by omega)];omega
   have e1' : IntKind.i64.wrap ((xs.length : Int)+1)=((N : Nat) : Int):=by rw [iw (by omega)];omega
   have hxx : True:=trivial
   simp only [go_sem,seval,c166,c7,c8,c9,b1,b2]
   refine aC (hK) (by simp only [go_sem,seval,c7,c8,c9]) ?_<;>simp only [go_sem,seval,c7,c8,c9]
   refine ah (hH) ?_<;>simp only [go_sem,seval,c7,c8,c9,e1,e1',Int.toNat_natCast]
   have hz : dS 13 (List.replicate (N) fQ):=⟨fun y hy=>by rw [List.eq_of_mem_replicate hy];rfl,fun y hy=>by rw [List.eq_of_mem_replicate hy];rfl,fun y hy=>by rw [List.eq_of_mem_replicate hy];rfl⟩
   have hr0 : rep [VV.str [],.int .i64 0,.int .i64 0,.str [],.int .i64 0,.nilp,.int .u64 0,.int .i64 0,.int .i64 0,.nilp,.int .i64 0,.int .i64 0,.nilp] (N)=(List.replicate (N) fQ).flatten:=Kz _ _
   refine ⟨by omega,⟨by omega,hB.flat⟩, ?_⟩
   rw [hr0]
   have hx1 : ∀ (σ : Store) (tg : Bool),aJ Tryz.prog σ 13 187 (.sl (r-0) (List.take ((r-0)*13) xs.flatten) tg)=some ((xs.take r).length,(xs.take r).flatten):=by
    intro σ tg
    have:=xC (σ:=σ) (a:=0) (b:=r) (tg:=tg) fU hB (by omega)
    rw [Nat.zero_mul,List.drop_zero,List.drop_zero] at this
    exact this
   refine vZ (o:=0) (xs:=List.replicate (N) fQ) (ys:=xs.take r) fU kG (by decide) rfl hz (hB.take r) (by omega) (by simp) (by simp;omega) (hx1 _ _) ?_
   have hB2 : dS 13 (xs.take r++List.replicate (N-r) fQ):=(hB.take r).append ⟨fun y hy=>by rw [List.eq_of_mem_replicate hy];rfl,fun y hy=>by rw [List.eq_of_mem_replicate hy];rfl,fun y hy=>by rw [List.eq_of_mem_replicate hy];rfl⟩
   have e0 : (xs.take r).length=r:=by simp;omega
   have e5 : (List.take 0 (List.replicate (N) fQ)++(xs.take r++List.drop (0+(xs.take r).length) (List.replicate (N) fQ)))=xs.take r++List.replicate (N-r) fQ:=by
    rw [e0,List.take_zero,List.drop_replicate,Nat.zero_add,List.nil_append]
   rw [e5,e0]
   have hl2 : (xs.take r++List.replicate (N-r) fQ).length=N:=by simp;omega
   have ht2 : (xs.take r++List.replicate (N-r) fQ).take r=xs.take r:=by rw [List.take_append_of_le_length (by omega),List.take_of_length_le (by omega)]
   generalize xs.take r++List.replicate (N-r) fQ=xs2 at *
   have c1 : (0 : Int)≤(r : Int):=by omega
   have c2 : (r : Int) < ((N : Nat) : Int):=by omega
   have c3 : 0+r*13+13≤xs2.flatten.length:=by rw [hB2.flat,hl2];omega
   have e6 : List.take (0+r*13) xs2.flatten++(s++List.drop (0+r*13+13) xs2.flatten)=(xs2.take r++s::xs2.drop (r+1)).flatten:=by
    have:=qV hB2 hs (o:=r) (by simp;omega)
    simp only [splice,List.flatten_cons,List.flatten_nil,List.append_nil,c7,List.length_cons,List.length_nil,Nat.zero_add] at this
    rw [Nat.zero_add];exact this
   have e7 : IntKind.i64.wrap ((r : Int)+1)=((r+1 : Nat) : Int):=by rw [iw (by omega)];omega
   have hB3 : dS 13 (xs2.take r++s::xs2.drop (r+1)):=(hB2.take r).append (show dS 13 ([s]++xs2.drop (r+1)) from hs.append (hB2.drop (r+1)))
   have hl3 : (xs2.take r++s::xs2.drop (r+1)).length=N:=by simp;omega
   have ht3 : (xs2.take r++s::xs2.drop (r+1)).take (r+1)=xs.take r++[s]:=by
    rw [show xs2.take r++s::xs2.drop (r+1)=(xs2.take r++[s])++xs2.drop (r+1) by simp,ht2,List.take_append_of_le_length (by simp;omega),List.take_of_length_le (by simp;omega)]
   generalize xs2.take r++s::xs2.drop (r+1)=xs3 at *
   have hx2 : ∀ (σ : Store) (tg : Bool),aJ Tryz.prog σ 13 187 (.sl (xs.length-(r)) (List.take ((xs.length-(r))*13) (List.drop ((r)*13) xs.flatten)) tg)=some ((xs.drop (r)).length,(xs.drop (r)).flatten):=by
    intro σ tg
    have:=xC (σ:=σ) (a:=r) (b:=xs.length-(r)) (tg:=tg) fU hB (by omega)
    rw [List.take_of_length_le (l:=xs.drop (r)) (by simp)] at this
    exact this
   have hor:=orZ x i h.lt hi
   have hfz : ∀ (A B C : Obj),fz 2 ([A,B,C,.kL ys.flatten] : Store) (.agg [.int .u32 (x ||| 2 ^ i : Nat),.dP 3 0 (N) 13])=some (.agg [.int .u32 (x ||| 2 ^ i : Nat),.sl ys.length ys.flatten false]):=by
    intro A B C
    have h1:=qj (m:=0) (σ:=([A,B,C,.kL ys.flatten] : Store)) (id:=3) (n:=N) (k:=13) (xs:=ys) rfl hB' (by omega)
    have h2 : (VV.agg [.int .u32 (x ||| 2 ^ i : Nat),.dP 3 0 (N) 13]).isPure=false:=rfl
    rw [fz,h2]
    simp only [List.mapM_cons,List.mapM_nil,h1]
    rfl
   by_cases hend : r+1=N
   ·have hys : xs3=ys:=by
     have e8 : xs3=xs3.take (r+1):=by rw [List.take_of_length_le (by omega)]
     have e9 : xs.drop (r)=[]:=List.drop_eq_nil_of_le (by omega)
     rw [hset,e8,ht3,e9]
    have hcnd : (r+1=N∧0 < r+1)=True:=eq_true ⟨hend,by omega⟩
    simp only [go_sem,seval,c1,c2,c3,c7,c8,c9,Int.toNat_natCast,e6,e7,hcnd]
    refine ⟨⟨by omega,by omega⟩,⟨⟨by omega,by omega⟩,hB.flat⟩, ?_⟩
    rw [hys]
    refine sS (ys:=xs.drop (r)) fU kG (hx2 _ _) (hB.drop _) ?_
    simp only [go_sem,seval]
    exact ⟨_,2,congrArg (fun z=>dX.ret (.agg [.int .u32 z,.dP 3 0 (N) 13])) hor,hfz _ _ _⟩
   ·have hys : xs3.take (r+1)++(xs.drop (r)++xs3.drop (r+1+(xs.drop (r)).length))=ys:=by
     have e9 : xs3.drop (r+1+(xs.drop (r)).length)=[]:=List.drop_eq_nil_of_le (by simp;omega)
     rw [hset,ht3,e9];simp
    have hcnd : (r+1=N∧0 < r+1)=False:=eq_false fun h=>hend h.1
    simp only [go_sem,seval,c1,c2,c3,c7,c8,c9,Int.toNat_natCast,e6,e7,hcnd]
    refine ⟨⟨by omega,by omega⟩,⟨⟨by omega,by omega⟩,hB.flat⟩, ?_⟩
    refine BA (o:=r+1) (xs:=xs3) (ys:=xs.drop (r)) fU kG (by decide) rfl hB3 (hB.drop _) (by omega) (by omega) (by simp;omega) (hx2 _ _) ?_
    rw [hys]
    simp only [go_sem,seval]
    exact ⟨_,2,congrArg (fun z=>dX.ret (.agg [.int .u32 z,.dP 3 0 (N) 13])) hor,hfz _ _ _⟩
  | nil =>
   have hr : r=0:=by simpa using hrk
   have hN1 : N=1:=by simpa using hN
   subst hr hN1
   have e1 : IntKind.i64.wrap ((0 : Int)+1)=1:=rfl
   have e6 : ys=[s]:=by rw [hset];rfl
   subst e6
   have hor:=orZ x i h.lt hi
   have hfz : ∀ (A B C : Obj),fz 2 ([A,B,C,.kL s] : Store) (.agg [.int .u32 (x ||| 2 ^ i : Nat),.dP 3 0 1 13])=some (.agg [.int .u32 (x ||| 2 ^ i : Nat),.sl 1 ([s].flatten) false]):=by
    intro A B C
    have h1:=qj (m:=0) (σ:=([A,B,C,.kL s] : Store)) (id:=3) (n:=1) (k:=13) (xs:=[s]) (by simp) hs rfl
    have h2 : (VV.agg [.int .u32 (x ||| 2 ^ i : Nat),.dP 3 0 1 13]).isPure=false:=rfl
    rw [fz,h2]
    simp only [List.mapM_cons,List.mapM_nil,h1]
    rfl
   have hx1 : ∀ (σ : Store),aJ Tryz.prog σ 13 187 .nils=some (([] : List (List VV)).length,([] : List (List VV)).flatten):=by
    intro σ
    simp only [aJ,fU,mJ,fG]
    rfl
   simp only [go_sem,seval,c166,c7,c8,c9,b1,b2]
   refine aC (hK) (by simp only [go_sem,seval,c7,c8,c9]) ?_<;>simp only [go_sem,seval,c7,c8,c9]
   refine ah (hH) ?_<;>simp only [go_sem,seval,c7,c8,c9]
   refine vZ (o:=0) (xs:=[fQ]) (ys:=[]) fU kG (by decide) rfl ⟨by simp;rfl,by simp;rfl,by simp;rfl⟩ .nil (by omega) (by simp) (by simp) (hx1 _) ?_
   have c3 : 13≤[fQ].flatten.length:=by decide
   have c4 : s++List.drop 13 [fQ].flatten=s:=by
    have : List.drop 13 [fQ].flatten=[]:=rfl
    rw [this,List.append_nil]
   simp only [go_sem,seval,c7,c8,c9,c3,c4]
   refine sS (ys:=[]) fU kG (hx1 _) .nil ?_
   simp only [go_sem,seval]
   exact ⟨_,2,congrArg (fun z=>dX.ret (.agg [.int .u32 z,.dP 3 0 1 13])) hor,hfz _ _ _⟩
end Go.V
namespace Go.V
open Go.Proofs
set_option maxRecDepth 100000
abbrev bl (x y : Bs) : Bool:=Op.bytesLess x y
theorem kF : ∀ x : Bs,bl x x=false
 | []=>rfl
 | a::x=>by
  have h:=kF x
  unfold bl at *
  simp [Op.bytesLess,h]
theorem wZ (a b : UInt8) (x y : Bs) : bl (a::x) (b::y)=true↔a < b∨(a=b∧bl x y=true):=by
 unfold bl
 simp [Op.bytesLess]
theorem LY (x : Bs) : bl x []=false:=by cases x<;>rfl
theorem lU : ∀ x y z : Bs,bl x y=true→bl y z=true→bl x z=true
 | _,[],_,h,_=>by rw [LY] at h;cases h
 | _,_,[],_,h=>by rw [LY] at h;cases h
 | [],b::y,c::z,_,_=>rfl
 | a::x,b::y,c::z,h1,h2=>by
  rw [wZ] at *
  rcases h1 with h1 | ⟨rfl,h1⟩
  ·rcases h2 with h2 | ⟨rfl,_⟩
   ·exact .inl (UInt8.lt_trans h1 h2)
   ·exact .inl h1
  ·rcases h2 with h2 | ⟨rfl,h2⟩
   ·exact .inl h2
   ·exact .inr ⟨rfl,lU x y z h1 h2⟩
theorem Dt : ∀ x y : Bs,bl x y=false→bl y x=false→x=y
 | [],[],_,_=>rfl
 | [],b::y,h,_=>by cases h
 | a::x,[],_,h=>by cases h
 | a::x,b::y,h1,h2=>by
  have n1 : ¬ (a < b∨(a=b∧bl x y=true)):=fun h=>by rw [← wZ,h1] at h;cases h
  have n2 : ¬ (b < a∨(b=a∧bl y x=true)):=fun h=>by rw [← wZ,h2] at h;cases h
  have hab : a=b:=by
   rcases UInt8.lt_or_lt_of_ne (a:=a) (b:=b) |> fun f=>(Classical.em (a=b)).imp id (fun hne=>f hne) with h | h | h
   ·exact h
   ·exact absurd (.inl h) n1
   ·exact absurd (.inl h) n2
  subst hab
  have e1 : bl x y=false:=by cases h : bl x y with | false=>rfl | true=>exact absurd (.inr ⟨rfl,h⟩) n1
  have e2 : bl y x=false:=by cases h : bl y x with | false=>rfl | true=>exact absurd (.inr ⟨rfl,h⟩) n2
  rw [Dt x y e1 e2]
theorem Hw {x y : Bs} (h : bl x y=true) : bl y x=false:=by
 cases h2 : bl y x with
 | false=>rfl
 | true=>have:=lU _ _ _ h h2;rw [kF] at this;cases this
def vN (x y : Bs) : Int:=if bl x y=true then -1 else if (!(bl x y || x == y))=true then 1 else 0
theorem Nj (x y : Bs) : PV Tryz.prog G0 175 [.str x,.str y] (.int .i64 (vN x y)):=by
 refine pv e175 (by simp) rfl rfl ?_
 unfold vN
 simp only [go_sem,seval,c175]
 refine aj (fun hc=>?_) (fun hc=>?_)
 ·rw [if_pos hc]
  simp only [go_sem,seval]
  exact fin (by rfl) rfl
 ·have hc' : bl x y=false:=by simpa using hc
  rw [if_neg (by rw [hc'];decide)]
  simp only [go_sem,seval]
  refine aj (fun hd=>?_) (fun hd=>?_)
  ·rw [if_pos (by simpa using hd)]
   simp only [go_sem,seval]
   exact fin (by rfl) rfl
  ·rw [if_neg (by simpa using hd)]
   simp only [go_sem,seval]
   exact fin (by rfl) rfl
abbrev iP:=Bs × Vl
def ay (p : iP) : List VV:=.str p.1::p.2.cells
inductive Sl where
 | no
 | lone (p : iP)
 | sub (v : VV) (ps : List iP)
def Sl.cells : Sl→Option (List VV)
 | .no=>none
 | .lone p=>some (ay p++[.nilp])
 | .sub v _=>some (.str []::(Vl.zero.cells++[v]))
def Sl.ps : Sl→List iP
 | .no=>[]
 | .lone p=>[p]
 | .sub _ ps=>ps
def upd (c : Nat→Nat) (L i : Nat) (j : Nat) : Nat:=if j=L then i else c j
def qG (sm : Bs→Int) (c : Nat→Nat) (L : Nat) (k : Bs) : Prop:=∀ j,j < L→iJ (sm k) j=c j
def jm (S : Nat→Sl) : List iP:=(List.range 32).flatMap fun i=>(S i).ps
theorem qG.step {sm : Bs→Int} {c : Nat→Nat} {L : Nat} {k : Bs} (h : qG sm c L k) : qG sm (upd c L (iJ (sm k) L)) (L+1) k:=by
 intro j hj
 unfold upd
 split
 ·rename_i e;rw [e]
 ·exact h j (by omega)
theorem qG.back {sm : Bs→Int} {c : Nat→Nat} {L i : Nat} {k : Bs} (h : qG sm (upd c L i) (L+1) k) : qG sm c L k∧iJ (sm k) L=i:=by
 refine ⟨fun j hj=>?_, ?_⟩
 ·have:=h j (by omega);rw [this];unfold upd;rw [if_neg (by omega)]
 ·have:=h L (by omega);rw [this];unfold upd;rw [if_pos rfl]
inductive HN (sm : Bs→Int) : Nat→(Nat→Nat)→VV→List iP→Prop
 | deep {c : Nat→Nat} {v : VV} {ps : List iP} (h : fH 12 v (ps.map ay)) (hs : ps.Pairwise fun p q=>bl p.1 q.1=true) (h2 : 2≤ps.length) (hp : ∀ p ∈ ps,qG sm c 13 p.1) : HN sm 13 c (.ptr [.int .u32 0,.nils,v] 0) ps
 | row {L : Nat} {c : Nat→Nat} {x : Nat} {l : VV} (S : Nat→Sl) (hL : L < 13) (hR : mP (fun i=>(S i).cells) x l) (h1 : ∀ i p,i < 32→S i=.lone p→qG sm (upd c L i) (L+1) p.1)
   (h2 : ∀ i v ps,i < 32→S i=.sub v ps→HN sm (L+1) (upd c L i) v ps) : HN sm L c (.ptr [.int .u32 x,l,.nils] 0) (jm S)
theorem HN.cells {sm : Bs→Int} {L : Nat} {c : Nat→Nat} {v : VV} {ps : List iP} (h : HN sm L c v ps) : ∃ x l d,v=.ptr [.int .u32 x,l,d] 0∧l.aF=true∧d.aF=true∧v.isPure=true:=by
 cases h with
 | deep h=>exact ⟨0,_,_,rfl,rfl,h.cell,by simp [VV.isPure,VV.ak,h.pure]⟩
 | row S hL hR h1 h2=>exact ⟨_,_,_,rfl,hR.sl.cell,rfl,by simp [VV.isPure,VV.ak,hR.sl.pure]⟩
theorem HN.pure {sm : Bs→Int} {L : Nat} {c : Nat→Nat} {v : VV} {ps : List iP} (h : HN sm L c v ps) : v.isPure=true:=by
 obtain ⟨_,_,_,_,_,_,h⟩:=h.cells;exact h
theorem mP.empty : mP (fun _=>none) 0 .nils:=by
 refine ⟨by decide,fun i _=>by simp, ?_⟩
 have : slotsOf (fun _=>none)=[]:=by unfold slotsOf;simp
 rw [this];exact .nil
theorem oL {p : iP} (h : p.2.ok) : dS 12 [ay p]:=⟨by simp [ay,Vl.cells],by simp [ay,VV.ak,VV.isPure,h.pure],fun x hx=>by
 simp only [List.mem_singleton] at hx
 subst hx
 have:=h.cell
 unfold aU at this ⊢
 rw [ay,List.all_cons,this];rfl⟩
theorem jZ {p : iP} (h : p.2.ok) : dS 13 [ay p++[.nilp]]:=by
 have h1:=(oL h).pure (ay p) (by simp)
 have h2:=(oL h).cell (ay p) (by simp)
 have h3:=(oL h).len (ay p) (by simp)
 refine ⟨by simp [h3],by simp [iG,h1,VV.ak,VV.isPure],fun x hx=>?_⟩
 simp only [List.mem_singleton] at hx
 subst hx
 unfold aU at h2 ⊢
 rw [List.all_append,h2];rfl
theorem tZ {sm : Bs→Int} {L : Nat} {c : Nat→Nat} {v : VV} {ps : List iP} (h : HN sm L c v ps) : dS 13 [(.str []::(Vl.zero.cells++[v]) : List VV)]:=by
 obtain ⟨x,l,d,rfl,_,_,hp⟩:=h.cells
 refine ⟨by simp [Vl.cells], ?_,by simp;rfl⟩
 intro y hy
 simp only [List.mem_singleton] at hy
 subst hy
 simp [Vl.cells,Vl.zero,VV.ak,hp]
 simp [VV.isPure]
theorem xK {α β : Type} {f : α→List β} : ∀ {l : List α},(∀ a ∈ l,f a=[])→l.flatMap f=[]
 | [],_=>rfl
 | a::l,h=>by rw [List.flatMap_cons,h a (by simp),xK fun b hb=>h b (by simp [hb])];rfl
theorem nU {α β : Type} {f g : α→List β} : ∀ {l : List α},(∀ a ∈ l,f a=g a)→l.flatMap f=l.flatMap g
 | [],_=>rfl
 | a::l,h=>by rw [List.flatMap_cons,List.flatMap_cons,h a (by simp),nU fun b hb=>h b (by simp [hb])]
theorem ou (S : Nat→Sl) {i : Nat} (hi : i < 32) : (jm S).Perm ((S i).ps++jm (fun j=>if j=i then .no else S j)):=by
 unfold jm
 have e : List.range 32=List.range i++([i]++(List.range (31-i)).map (i+1+·)):=by
  have h1:=List.range_add (n:=i) (m:=32-i)
  rw [show i+(32-i)=32 by omega] at h1
  rw [h1,show 32-i=(31-i)+1 by omega,List.range_succ_eq_map,List.map_cons,List.map_map]
  congr 1
  simp only [List.cons_append,List.nil_append,Nat.add_zero]
  congr 1
  refine List.map_congr_left fun a _=>?_
  simp only [Function.comp];omega
 rw [e]
 simp only [List.flatMap_append,List.flatMap_cons,List.flatMap_nil,List.append_nil,if_true]
 have a1 : (List.range i).flatMap (fun j=>(if j=i then Sl.no else S j).ps)=(List.range i).flatMap fun j=>(S j).ps :=
  nU fun j hj=>by have:=List.mem_range.1 hj;rw [if_neg (by omega)]
 have a2 : ((List.range (31-i)).map (i+1+·)).flatMap (fun j=>(if j=i then Sl.no else S j).ps)=((List.range (31-i)).map (i+1+·)).flatMap fun j=>(S j).ps :=
  nU fun j hj=>by
   obtain ⟨k,_,rfl⟩:=List.mem_map.1 hj
   rw [if_neg (by omega)]
 rw [a1,a2]
 simp only [Sl.ps,List.nil_append]
 rw [← List.append_assoc,← List.append_assoc]
 exact (List.perm_append_comm).append_right _
theorem uH (S : Nat→Sl) {i : Nat} (hi : i < 32) (s : Sl) : (jm (fun j=>if j=i then s else S j)).Perm (s.ps++jm (fun j=>if j=i then .no else S j)):=by
 have:=ou (fun j=>if j=i then s else S j) hi
 simp only [if_true] at this
 have e : (fun j=>if j=i then Sl.no else if j=i then s else S j)=fun j=>if j=i then .no else S j:=by
  funext j;split<;>rfl
 rwa [e] at this
theorem rV : jm (fun _=>.no)=[]:=xK fun _ _=>rfl
end Go.V
namespace Go.V
open Go.Proofs
section
variable {α β : Type}
def bP (k : Bs) (x : α) : List (Bs × α)→List (Bs × α)
 | []=>[(k,x)]
 | (k',x')::l=>if bl k k'=true then (k,x)::(k',x')::l else if k=k' then (k,x)::l else (k',x')::bP k x l
def kS (l : List (Bs × α)) : List (Bs × α):=l.foldr (fun p acc=>bP p.1 p.2 acc) []
abbrev jB (l : List (Bs × α)) : Prop:=l.Pairwise fun p q=>bl p.1 q.1=true
abbrev jT (l : List (Bs × α)) : Prop:=l.Pairwise fun p q=>p.1≠q.1
theorem xE {x y : Bs} (h : bl x y=true) : x≠y:=fun e=>by rw [e,kF] at h;cases h
theorem Iy {x y : Bs} (h : bl x y≠true) (hn : x≠y) : bl y x=true:=by
 cases h2 : bl y x with
 | true=>rfl
 | false=>exact absurd (Dt x y (by simpa using h) h2) hn
theorem kQ {k : Bs} {x : α} : ∀ {l : List (Bs × α)} {p : Bs × α},p ∈ bP k x l→p=(k,x)∨p ∈ l
 | [],p,h=>by simpa [bP] using h
 | (k',x')::l,p,h=>by
  unfold bP at h
  split at h
  ·rcases List.mem_cons.1 h with h | h
   ·exact .inl h
   ·exact .inr h
  ·split at h
   ·rcases List.mem_cons.1 h with h | h
    ·exact .inl h
    ·exact .inr (by simp [h])
   ·rcases List.mem_cons.1 h with h | h
    ·exact .inr (by simp [h])
    ·rcases kQ h with h | h
     ·exact .inl h
     ·exact .inr (by simp [h])
theorem jC {k : Bs} {x : α} : ∀ {l : List (Bs × α)},jB l→jB (bP k x l)
 | [],_=>by simp [bP]
 | (k',x')::l,h=>by
  obtain ⟨h1,h2⟩:=List.pairwise_cons.1 h
  unfold bP
  split
  ·rename_i hb
   refine List.pairwise_cons.2 ⟨fun p hp=>?_,h⟩
   rcases List.mem_cons.1 hp with rfl | hp
   ·exact hb
   ·exact lU _ _ _ hb (h1 p hp)
  ·rename_i hb
   split
   ·rename_i he
    subst he
    exact List.pairwise_cons.2 ⟨h1,h2⟩
   ·rename_i hne
    refine List.pairwise_cons.2 ⟨fun p hp=>?_,jC h2⟩
    rcases kQ hp with rfl | hp
    ·exact Iy hb hne
    ·exact h1 p hp
theorem uh {k : Bs} {x : α} : ∀ {l : List (Bs × α)},(∀ p ∈ l,p.1≠k)→(bP k x l).Perm ((k,x)::l)
 | [],_=>by simp [bP]
 | (k',x')::l,h=>by
  unfold bP
  split
  ·exact .refl _
  ·split
   ·rename_i he
    exact absurd he.symm (h (k',x') (by simp))
   ·exact ((uh fun p hp=>h p (by simp [hp])).cons _).trans (.swap _ _ _)
theorem jB.Qw {l : List (Bs × α)} (h : jB l) : jT l:=h.imp fun h=>xE h
theorem Wq {l : List (Bs × α)} (h : l.Pairwise fun p q=>bl q.1 p.1=false) (hn : jT l) : jB l :=
 h.imp₂ (fun p q a b=>Iy (by rw [a];decide) (fun e=>b e.symm)) hn
theorem D9 : ∀ (l : List (Bs × α)),jB (kS l)
 | []=>List.Pairwise.nil
 | p::l=>jC (D9 l)
theorem nH : ∀ {l : List (Bs × α)},jT l→(kS l).Perm l
 | [],_=>.refl _
 | p::l,h=>by
  obtain ⟨h1,h2⟩:=List.pairwise_cons.1 h
  have ih:=nH h2
  exact (uh fun q hq=>(h1 q (ih.mem_iff.1 hq)).symm).trans (ih.cons _)
theorem zn : ∀ {l m : List (Bs × α)},jB l→jB m→(∀ p,p ∈ l↔p ∈ m)→l=m
 | [],[],_,_,_=>rfl
 | [],b::m,_,_,h=>by have:=(h b).2 (by simp);simp at this
 | a::l,[],_,_,h=>by have:=(h a).1 (by simp);simp at this
 | a::l,b::m,hl,hm,h=>by
  obtain ⟨l1,l2⟩:=List.pairwise_cons.1 hl
  obtain ⟨m1,m2⟩:=List.pairwise_cons.1 hm
  have hab : a=b:=by
   rcases List.mem_cons.1 ((h a).1 (by simp)) with e | h1
   ·exact e
   ·rcases List.mem_cons.1 ((h b).2 (by simp)) with e | h2
    ·exact e.symm
    ·have:=Hw (m1 a h1)
     rw [l1 b h2] at this;cases this
  subst hab
  rw [zn l2 m2 fun p=>⟨fun hp=>?_,fun hp=>?_⟩]
  ·rcases List.mem_cons.1 ((h p).1 (by simp [hp])) with e | h1
   ·have:=xE (l1 p hp);rw [e] at this;exact absurd rfl this
   ·exact h1
  ·rcases List.mem_cons.1 ((h p).2 (by simp [hp])) with e | h1
   ·have:=xE (m1 p hp);rw [e] at this;exact absurd rfl this
   ·exact h1
theorem NJ {l m : List (Bs × α)} (hl : jB l) (hm : jB m) (h : l.Perm m) : l=m:=zn hl hm fun _=>h.mem_iff
theorem jT.perm {l m : List (Bs × α)} (h : l.Perm m) (hl : jT l) : jT m:=(h.pairwise_iff fun h=>Ne.symm h).1 hl
theorem Na {l m : List (Bs × α)} (hm : jB m) (h : m.Perm l) : kS l=m:=NJ (D9 l) hm ((nH (hm.Qw.perm h)).trans h.symm)
end
theorem HN.XY {sm : Bs→Int} {L : Nat} {c : Nat→Nat} {v : VV} {ps : List iP} (h : HN sm L c v ps) : ∀ p ∈ ps,qG sm c L p.1:=by
 induction h with
 | deep h hs h2 hp=>exact hp
 | @row L c x l S hL hR h1 h2 ih =>
  intro p hp
  obtain ⟨i,hi,hpi⟩:=List.mem_flatMap.1 hp
  have hi:=List.mem_range.1 hi
  cases hS : S i with
  | no=>rw [hS] at hpi;simp [Sl.ps] at hpi
  | lone q =>
   rw [hS] at hpi
   simp [Sl.ps] at hpi
   subst hpi
   exact (h1 i p hi hS).back.1
  | sub v qs =>
   rw [hS] at hpi
   exact (ih i v qs hi hS p hpi).back.1
theorem HN.nodup {sm : Bs→Int} {L : Nat} {c : Nat→Nat} {v : VV} {ps : List iP} (h : HN sm L c v ps) : jT ps:=by
 induction h with
 | deep h hs h2 hp=>exact jB.Qw hs
 | @row L c x l S hL hR h1 h2 ih =>
  have hch : ∀ i,i < 32→∀ p ∈ (S i).ps,iJ (sm p.1) L=i:=by
   intro i hi p hpi
   cases hS : S i with
   | no=>rw [hS] at hpi;simp [Sl.ps] at hpi
   | lone q =>
    rw [hS] at hpi
    simp [Sl.ps] at hpi
    subst hpi
    exact (h1 i p hi hS).back.2
   | sub v qs =>
    rw [hS] at hpi
    exact ((h2 i v qs hi hS).XY p hpi).back.2
  unfold jm jT
  rw [List.pairwise_flatMap]
  refine ⟨fun i hi=>?_, ?_⟩
  ·have hi:=List.mem_range.1 hi
   cases hS : S i with
   | no=>simp [Sl.ps]
   | lone q=>simp [Sl.ps]
   | sub v qs=>exact ih i v qs hi hS
  ·refine List.Pairwise.imp_of_mem ?_ (List.nodup_range (n:=32))
   intro i j hi hj hij p hp q hq e
   rw [List.mem_range] at hi hj
   have h3:=hch i hi p hp
   rw [e,hch j hj q hq] at h3
   exact hij h3.symm
end Go.V
