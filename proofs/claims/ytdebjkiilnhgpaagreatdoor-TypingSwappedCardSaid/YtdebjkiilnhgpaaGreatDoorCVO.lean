/- Plain: an argument is changed for another id of the same type. -/
import Derived.Test.YtdebjkiilnhgpaaGreatDoorCVA
import Derived.Test.YtdebjkiilnhgpaaGreatDoorCUN
import Derived.Test.YtdebjkiilnhgpaaGreatDoorCUM
namespace Go.Proofs.YtdebjkiilnhgpaaGreatDoor
def swapB (op:Int):Bool:=(decide (124≤op)&&decide (op≤205))||op==83||op==80||op==78||op==77||op==61||op==62||op==254
theorem swap_op {op:Int} (h:swapB op=true):(124≤op∧op≤205)∨op=83∨op=80∨op=78∨op=77∨op=61∨op=62∨op=254:=by
 unfold swapB at h;simp only [Bool.or_eq_true,Bool.and_eq_true,decide_eq_true_eq,beq_iff_eq] at h;omega
theorem swap_parts:((List.range 256).all fun k=>!swapB (k:Nat)||decide (partOf (k:Nat)≠7))=true:=by decide +kernel
theorem swap_part {op:Int} (h:swapB op=true):partOf op≠7:=by
 have h1:=swap_op h;have h2:=swap_parts;rw [List.all_eq_true] at h2;have h3:=h2 op.toNat (List.mem_range.2 (by omega))
 rw [show ((op.toNat:Nat):Int)=op by omega,h] at h3
 simpa using h3
inductive Like (R:InstI→InstI→Prop):List InstI→List InstI→Prop
 | nil:Like R [] []
 | cons {i j:InstI} {l m:List InstI}:R i j→Like R l m→Like R (i :: l) (j :: m)
section
variable {R:InstI→InstI→Prop}
theorem Like.refl (hr:∀ i,R i i):∀ l,Like R l l
 | []=>.nil
 | i :: r=>.cons (hr i) (Like.refl hr r)
theorem Like.set (hr:∀ i,R i i):∀ {l:List InstI} {k:Nat} {i j:InstI},l[k]?=some i→R i j→Like R l (l.set k j)
 | [],_,_,_,h,_=>by simp at h
 | x :: r,0,i,j,h,hR=>by
  simp at h;subst h;exact .cons hR (Like.refl hr r)
 | x :: r,k+1,i,j,h,hR=>by
  simp at h;exact .cons (hr x) (Like.set hr h hR)
theorem Like.len {l m:List InstI} (h:Like R l m):m.length=l.length:=by
 induction h with
 | nil=>rfl
 | cons _ _ ih=>simp [ih]
theorem Like.at_ {l m:List InstI} (h:Like R l m):∀ k:Nat,(l[k]?=none∧m[k]?=none)∨∃ i j:InstI,l[k]?=some i∧m[k]?=some j∧R i j:=by
 induction h with
 | nil=>exact fun k=>.inl ⟨rfl,rfl⟩
 | @cons i j l m h1 h2 ih =>
  intro k;cases k with
  | zero=>exact .inr ⟨i,j,rfl,rfl,h1⟩
  | succ k=>exact ih k
theorem Like.drop {l m:List InstI} (h:Like R l m):∀ k,Like R (l.drop k) (m.drop k):=by
 induction h with
 | nil=>exact fun k=>by rw [List.drop_nil];exact .nil
 | cons h1 h2 ih =>
  intro k;cases k with
  | zero=>exact .cons h1 h2
  | succ k=>exact ih k
theorem Like.take {l m:List InstI} (h:Like R l m):∀ k,Like R (l.take k) (m.take k):=by
 induction h with
 | nil=>exact fun k=>by rw [List.take_nil];exact .nil
 | cons h1 h2 ih =>
  intro k;cases k with
  | zero=>exact .nil
  | succ k=>exact .cons h1 (ih k)
end
theorem map_set_same {α β:Type} (f:α→β) {l:List α} {j:Nat} {x:α} (h:j<l.length) (e:f x=f l[j]):(l.set j x).map f=l.map f:=by
 apply List.ext_getElem?
 intro k;rw [List.getElem?_map,List.getElem?_map,List.getElem?_set]
 by_cases hk:j=k
 ·subst hk;rw [if_pos rfl,if_pos h,List.getElem?_eq_getElem h];simp [e]
 ·rw [if_neg hk]
theorem ag_set (l:List ArgI) {j:Nat} (x:ArgI) (h:j<l.length) (k:Nat):ag (l.set j x) k=if k=j then x else ag l k:=by
 unfold ag;rw [List.getD_eq_getElem?_getD,List.getD_eq_getElem?_getD,List.getElem?_set]
 by_cases hk:j=k
 ·subst hk;rw [if_pos rfl,if_pos h,if_pos rfl];rfl
 ·rw [if_neg hk,if_neg (fun e=>hk e.symm)]
theorem loopR_like {op bound:Int} {l l':List ArgI} {st:RSt} (hl:∀ j,argE op bound j (ag l j).1 (ag l j).2.1 (ag l j).2.2=0→argE op bound j (ag l' j).1 (ag l' j).2.1 (ag l' j).2.2=0∧(argW op j (ag l' j).1 (ag l' j).2.1 (ag l' j).2.2).length=(argW op j (ag l j).1 (ag l j).2.1 (ag l j).2.2).length ∧
  argR op j (ag l' j).1 (ag l' j).2.1 (ag l' j).2.2=argR op j (ag l j).1 (ag l j).2.1 (ag l j).2.2) :
  ∀ k,(loopR op bound l st k).1=0→(loopR op bound l' st k).1=0∧(loopR op bound l' st k).2.1.length=(loopR op bound l st k).2.1.length∧(loopR op bound l' st k).2.2=(loopR op bound l st k).2.2
 | 0,h0=>⟨h0,rfl,rfl⟩
 | k+1,h0=>by
  unfold loopR stepR at h0 ⊢
  by_cases hc:(loopR op bound l st k).1=0
  ·obtain ⟨a1,a2,a3⟩:=loopR_like hl k hc;rw [if_pos hc] at h0 ⊢;rw [if_pos a1];obtain ⟨b1,b2,b3⟩:=hl k h0;refine ⟨b1,?_,?_⟩
   ·show List.length (_++_)=List.length (_++_)
    rw [List.length_append,List.length_append,a2,b2]
   ·show _+_=_+_
    rw [a3,b3]
  ·rw [if_neg hc] at h0;exact absurd h0 hc
theorem rawR_set {op ty res bound n:Int} {l:List ArgI} {j:Nat} (hj:j<l.length) (h1:(ag l j).1=1) (hn:n≠0) (hnb:n<bound) (hr:(rawR (op,ty,res,l) bound).1=0) :
  (rawR (op,ty,res,l.set j (1,n,(ag l j).2.2)) bound).1=0∧(rawR (op,ty,res,l.set j (1,n,(ag l j).2.2)) bound).2.length=(rawR (op,ty,res,l) bound).2.length:=by
 have hk:kinds (l.set j (1,n,(ag l j).2.2))=kinds l:=map_set_same _ hj (by rw [ag_of hj] at h1;exact h1.symm)
 have hlen:(l.set j (1,n,(ag l j).2.2)).length=l.length:=List.length_set ..;have hag:=ag_set l (j:=j) (1,n,(ag l j).2.2) hj;have hlk:∀ k,argE op bound k (ag l k).1 (ag l k).2.1 (ag l k).2.2=0→argE op bound k (ag (l.set j (1,n,(ag l j).2.2)) k).1 (ag (l.set j (1,n,(ag l j).2.2)) k).2.1 (ag (l.set j (1,n,(ag l j).2.2)) k).2.2=0 ∧
   (argW op k (ag (l.set j (1,n,(ag l j).2.2)) k).1 (ag (l.set j (1,n,(ag l j).2.2)) k).2.1 (ag (l.set j (1,n,(ag l j).2.2)) k).2.2).length=(argW op k (ag l k).1 (ag l k).2.1 (ag l k).2.2).length ∧
   argR op k (ag (l.set j (1,n,(ag l j).2.2)) k).1 (ag (l.set j (1,n,(ag l j).2.2)) k).2.1 (ag (l.set j (1,n,(ag l j).2.2)) k).2.2=argR op k (ag l k).1 (ag l k).2.1 (ag l k).2.2:=by
  intro k he;rw [hag k]
  by_cases hkj:k=j
  ·subst hkj;rw [if_pos rfl];generalize ag l k=a at *;obtain ⟨kd,m,s⟩:=a;have h1:kd=1:=h1;subst h1;dsimp only at *;have hb:argBad op k 1 m s=false:=by
    cases hc:argBad op k 1 m s with
    | false=>rfl
    | true =>
     unfold argE at he;rw [hc] at he;cases he
   have hb':argBad op k 1 n s=false:=by rw [argBad_id op k n m s];exact hb
   unfold argE argW argR;rw [hb,hb'];refine ⟨?_,rfl,rfl⟩;have e3:((1:Int)==3)=false:=rfl;have e1:((1:Int)==1)=true:=rfl;rw [e3,e1];simp only [Bool.false_eq_true,if_false,if_true];unfold idE;rw [if_neg (by omega)]
  ·rw [if_neg hkj];exact ⟨he,rfl,rfl⟩
 generalize l.set j (1,n,(ag l j).2.2)=l' at *;have hw':wholeE op l'=wholeE op l:=by unfold wholeE;rw [hk]
 unfold rawR at hr ⊢;dsimp only at hr ⊢;cases hf:formOf op with
 | none=>rw [hf] at hr;cases hr
 | some f =>
  rw [hf] at hr;dsimp only at hr ⊢;have hh:headsR f (op,ty,res,l') bound=headsR f (op,ty,res,l) bound:=rfl;have hll:=loopR_like (st:=headsR f (op,ty,res,l) bound) hlk l.length;rw [hh,hlen,hw'];generalize loopR op bound l (headsR f (op,ty,res,l) bound) l.length=s at *;generalize loopR op bound l' (headsR f (op,ty,res,l) bound) l.length=s' at *
  by_cases h0:s.1=0
  ·obtain ⟨d1,d2,d3⟩:=hll h0
   by_cases hw:wholeE op l=0
   ·by_cases h65:65535≤s.2.2
    ·simp [h0,hw,h65] at hr
    ·simp [h0,hw,h65,d1,d2,d3]
   ·simp [h0,hw] at hr
  ·simp [h0] at hr
structure SwA (made:Int→Option Nat) (φ:Int→Int) (bound:Int) (i i':InstI):Prop where
 op:swapB i.1=true
 h1:i'.1=i.1
 h2:i'.2.1=i.2.1
 h3:i'.2.2.1=i.2.2.1
 arg:∃ j n,j<i.2.2.2.length∧(ag i.2.2.2 j).1=1∧i'.2.2.2=i.2.2.2.set j (1,n,(ag i.2.2.2 j).2.2)∧n≠0∧n<bound∧(made n).isSome=true∧φ n=φ (ag i.2.2.2 j).2.1
abbrev SwI (made:Int→Option Nat) (φ:Int→Int) (bound:Int) (i i':InstI):Prop:=i'=i∨SwA made φ bound i i'
section
variable {made:Int→Option Nat} {φ:Int→Int} {bound:Int} {i i':InstI} {l l':List InstI}
theorem SwI.hd (h:SwI made φ bound i i'):i'.1=i.1∧i'.2.1=i.2.1∧i'.2.2.1=i.2.2.1:=by
 rcases h with rfl | h
 ·exact ⟨rfl,rfl,rfl⟩
 ·exact ⟨h.h1,h.h2,h.h3⟩
theorem SwI.raw (h:SwI made φ bound i i') (hr:(rawR i bound).1=0):(rawR i' bound).1=0∧(rawR i' bound).2.length=(rawR i bound).2.length:=by
 rcases h with rfl | h
 ·exact ⟨hr,rfl⟩
 ·obtain ⟨j,n,hj,h1,hs,hn,hb,-,-⟩:=h.arg;have e:i'=(i.1,i.2.1,i.2.2.1,i.2.2.2.set j (1,n,(ag i.2.2.2 j).2.2)):=Prod.ext h.h1 (Prod.ext h.h2 (Prod.ext h.h3 hs));rw [e];exact rawR_set hj h1 hn hb hr
theorem shapeR_like (h:Like (SwI made φ bound) l l'):∀ {k:Nat} {left:Int},(shapeR bound l k left).1=0→(shapeR bound l' k left).1=0:=by
 induction h with
 | nil=>exact fun h=>h
 | cons h1 h2 ih =>
  intro k left h0;unfold shapeR at h0 ⊢
  rename_i i j l m
  by_cases hc:(rawR i bound).1≠0
  ·rw [if_pos hc] at h0;exact absurd h0 hc
  ·rw [if_neg hc] at h0;obtain ⟨a1,a2⟩:=h1.raw (Decidable.not_not.1 hc);rw [if_neg (by rw [a1];exact fun hc=>hc rfl),a2]
   by_cases h3:left-(1+(rawR i bound).2.length)<0
   ·rw [if_pos h3] at h0;cases h0
   ·rw [if_neg h3] at h0 ⊢;exact ih h0
theorem SwI.kind (h:SwI made φ bound i i'):partI i'=partI i∧kindI i'=kindI i:=by
 rcases h with rfl | h
 ·exact ⟨rfl,rfl⟩
 ·have ho:=swap_op h.op;have hv:variableB i=false:=by
   unfold variableB;rw [show (i.1==59)=false by simpa using (show i.1≠59 by omega)]
   rfl
  have hv':variableB i'=false:=by
   unfold variableB;rw [show (i'.1==59)=false by rw [h.h1];simpa using (show i.1≠59 by omega)]
   rfl
  have hp:partI i'=partI i:=by
   unfold partI;rw [hv,hv',h.h1]
  refine ⟨hp,?_⟩;unfold kindI;rw [hp,h.h1]
theorem Like.same (h:Like (SwI made φ bound) l l'):SameL l' l:=by
 refine ⟨h.len,fun k=>?_,fun k=>?_,fun k=>?_⟩
 ·unfold Go.Proofs.YtdebjkiilnhgpaaGreatDoor.nx
  rcases h.at_ k with ⟨e1,e2⟩ | ⟨i,j,e1,e2,hR⟩
  ·rw [e1,e2]
  ·rw [e1,e2];exact hR.kind.2
 ·unfold opAt
  rcases h.at_ k with ⟨e1,e2⟩ | ⟨i,j,e1,e2,hR⟩
  ·rw [e1,e2]
  ·rw [e1,e2];exact hR.hd.1
 ·unfold partAt
  rcases h.at_ k with ⟨e1,e2⟩ | ⟨i,j,e1,e2,hR⟩
  ·rw [e1,e2]
  ·rw [e1,e2];exact hR.kind.1
theorem madeR_like (h:Like (SwI made φ bound) l l') (id:Int):∀ k,madeR l' k id=madeR l k id:=by
 induction h with
 | nil=>exact fun _=>rfl
 | cons h1 h2 ih =>
  intro k;unfold madeR;rw [h1.hd.2.2,ih]
theorem idsR_all {p:Nat→Int}:∀ {l:List InstI} {k:Nat},(∀ j i,l[j]?=some i→idE1 made p (k+j) i=0)→(idsR made p l k).1=0
 | [],_,_=>rfl
 | x :: r,k,h=>by
  have h0:=h 0 x rfl;unfold idsR;rw [if_neg (fun hc=>hc h0)]
  refine idsR_all (fun j i hj=>?_)
  have:=h (j+1) i hj;rw [show k+1+j=k+(j+1) by omega]
  exact this
theorem idsF_set {l:List ArgI} {j:Nat} {n x:Int} {s:ByteArray} (hx:x∈idsF (l.set j (1,n,s))):x∈idsF l∨x=n:=by
 obtain ⟨a,ha,h1,h2⟩:=idsF_mem hx
 rcases List.mem_or_eq_of_mem_set ha with ha | rfl
 ·left
  unfold idsF;exact List.mem_map.2 ⟨a,List.mem_filter.2 ⟨ha,by simpa using h1⟩,h2⟩
 ·exact .inr h2.symm
theorem idsM_like (h:Like (SwI (madeR l 0) φ bound) l l') (hi:(idsM bound l).1=0):(idsM bound l').1=0:=by
 have hS:=h.same;have hL:(layM bound l).1=0:=by
  by_cases hc:(layM bound l).1=0
  ·exact hc
  ·rw [idsM_lay hc] at hi;exact hi
 obtain ⟨hi2,hcut⟩:=idsM_ok hL;rw [hi2] at hi;have hshape:(shapeM bound l).1=0:=by
  unfold layM at hL
  by_cases hc:(shapeM bound l).1=0
  ·exact hc
  ·rw [if_pos hc] at hL;exact hL
 have hshape':(shapeM bound l').1=0:=by
  unfold shapeM at hshape ⊢
  split at hshape
  ·cases hshape
  ·rename_i hb
   rw [if_neg hb];exact shapeR_like h hshape
 have hL':(layM bound l').1=0:=by
  unfold layM;rw [if_neg (fun hc=>hc hshape'),hS.cutR,if_pos hcut]
 rw [(idsM_ok hL').1,hS.cutR,show madeR l' 0=madeR l 0 from funext fun id=>madeR_like h id 0]
 refine idsR_all (fun j i' hj=>?_)
 rw [Nat.zero_add]
 rcases h.at_ j with ⟨-,e2⟩ | ⟨i,i2,e1,e2,hR⟩
 ·rw [e2] at hj;cases hj
 ·rw [e2] at hj;cases hj
  have h0:=idsR_at hi j i e1;rw [Nat.zero_add] at h0
  rcases hR with rfl | hR
  ·exact h0
  ·obtain ⟨q,n,hq,k1,hs,hn,hb,hm,-⟩:=hR.arg;unfold idE1 at h0 ⊢;rw [hR.h3]
   by_cases c1:i.2.2.1≠0∧(madeR l 0 i.2.2.1).getD 0<j
   ·rw [if_pos c1] at h0;cases h0
   ·rw [if_neg c1] at h0 ⊢
    by_cases c2:lostB (madeR l 0) (idsOf i)=true
    ·rw [if_pos c2] at h0;cases h0
    ·rw [if_neg c2] at h0;rw [if_neg,if_neg]
     ·rintro ⟨-,r1,r2⟩;have h7:=(span7 hcut j (List.getElem?_eq_some_iff.1 e1).1).2 ⟨r1,r2⟩;rw [partAt_at e1] at h7;have ho:=swap_op hR.op;unfold partI variableB at h7;rw [show (i.1==59)=false by simpa using (show i.1≠59 by omega),Bool.false_and,if_neg (by decide)] at h7
      exact swap_part hR.op h7
     ·intro c3;apply c2
      unfold lostB at c3 ⊢;rw [List.any_eq_true] at c3 ⊢;obtain ⟨x,hx,hxn⟩:=c3;have hx2:x∈idsOf i∨x=n:=by
       unfold idsOf at hx ⊢;rw [hR.h2,hs] at hx
       rcases List.mem_append.1 hx with hx | hx
       ·exact .inl (List.mem_append_left _ hx)
       ·rcases idsF_set hx with hx | hx
        ·exact .inl (List.mem_append_right _ hx)
        ·exact .inr hx
      rcases hx2 with hx2 | rfl
      ·exact ⟨x,hx2,hxn⟩
      ·rw [Option.isSome_iff_ne_none] at hm;exact absurd (Option.isNone_iff_eq_none.1 hxn) hm
theorem SwI.nop (h:SwA made φ bound i i') (T:Int→TyI) (M:Int→InstI):oneT T M i=(ty0,false,0):=by
 have ho:=swap_op h.op;unfold oneT;dsimp only;rw [if_neg (by omega),if_neg (by omega),if_neg (by omega),if_neg (by omega),if_neg (by omega),if_neg (by omega),if_neg (by omega),if_neg (by omega)]
theorem SwI.nop' (h:SwA made φ bound i i') (T:Int→TyI) (M:Int→InstI):oneT T M i'=(ty0,false,0):=by
 have ho:=swap_op h.op;have e:=h.h1;unfold oneT;dsimp only;rw [if_neg (by omega),if_neg (by omega),if_neg (by omega),if_neg (by omega),if_neg (by omega),if_neg (by omega),if_neg (by omega),if_neg (by omega)]
theorem oneT_makers {T:Int→TyI} {M M':Int→InstI} (hM:∀ id,SwI made φ bound (M id) (M' id)) (j:InstI):oneT T M' j=oneT T M j:=by
 have ha:∀ p n,arrayT T M' p n=arrayT T M p n:=fun p n=>by
  unfold arrayT
  rcases hM n with e | e
  ·rw [e]
  ·have ho:=swap_op e.op;have e1:=e.h1;unfold arrayC
   split
   ·rfl
   ·rw [if_pos (.inl (by omega)),if_pos (.inl (by omega))]
 unfold oneT;dsimp only;rw [ha]
structure SwS (made:Int→Option Nat) (φ:Int→Int) (bound:Int) (s s':StN):Prop where
 T:s'.T=s.T
 R:s'.R=s.R
 ord:s'.ord=s.ord
 M:∀ id,SwI made φ bound (s.M id) (s'.M id)
theorem SwS.one {s s':StN} (hS:SwS made φ bound s s') (h:SwI made φ bound i i'):oneT s'.T s'.M i'=oneT s.T s.M i∧((oneT s.T s.M i).2.1=true→i'=i):=by
 rw [hS.T,oneT_makers hS.M]
 rcases h with rfl | h
 ·exact ⟨rfl,fun _=>rfl⟩
 ·rw [SwI.nop h,SwI.nop' h];exact ⟨rfl,fun hc=>by cases hc⟩
theorem SwS.err {s s':StN} (hS:SwS made φ bound s s') (h:SwI made φ bound i i'):errN s' i'=errN s i:=by
 obtain ⟨h1,h2⟩:=hS.one h;unfold errN;dsimp only;rw [h1,hS.R]
 by_cases hc:(oneT s.T s.M i).2.1=true
 ·rw [h2 hc]
 ·rw [if_neg (fun hh=>hc hh.1),if_neg (fun hh=>hc hh.1)]
theorem SwS.next {s s':StN} (hS:SwS made φ bound s s') (h:SwI made φ bound i i'):SwS made φ bound (nextN s i) (nextN s' i'):=by
 obtain ⟨h1,h2⟩:=hS.one h;have h3:=h.hd.2.2;unfold nextN;dsimp only;rw [h1,hS.R,hS.T,hS.ord,h3];refine ⟨rfl,?_,rfl,fun id=>?_⟩
 ·dsimp only
  by_cases hc:(oneT s.T s.M i).2.1=true
  ·rw [h2 hc]
  ·rw [if_neg (fun hh=>hc hh.1),if_neg (fun hh=>hc hh.1)]
 ·dsimp only
  by_cases hc:id=i.2.2.1
  ·rw [if_pos hc,if_pos hc];exact h
  ·rw [if_neg hc,if_neg hc];exact hS.M id
theorem newL_like (h:Like (SwI made φ bound) l l'):∀ {s s':StN} {k:Nat},SwS made φ bound s s'→(newL s' l' k).1=(newL s l k).1∧(newL s' l' k).2.1=(newL s l k).2.1∧SwS made φ bound (newL s l k).2.2 (newL s' l' k).2.2:=by
 induction h with
 | nil=>exact fun hS=>⟨rfl,rfl,hS⟩
 | cons h1 h2 ih =>
  intro s s' k hS
  rename_i i j l m
  unfold newL;rw [hS.err h1]
  by_cases hE:errN s i≠0
  ·rw [if_pos hE,if_pos hE];exact ⟨rfl,rfl,hS⟩
  ·rw [if_neg hE,if_neg hE];exact ih (hS.next h1)
theorem conE_like (h:SwI made φ bound i i') (T:Int→TyI) (C:Int→Option Int):conE T C i'=conE T C i∧conN C i'=conN C i:=by
 rcases h with rfl | h
 ·exact ⟨rfl,rfl⟩
 ·have ho:=swap_op h.op;have e:=h.h1;have hb:∀ op:Int,op=i.1→conB op=false:=fun op e=>by
   unfold conB;simp only [Bool.or_eq_false_iff,beq_eq_false_iff_ne];omega
  refine ⟨?_,?_⟩
  ·unfold conE;rw [if_neg (by omega),if_neg (by omega),if_neg (by omega),if_neg (by omega),if_neg (by omega),if_neg (by omega),if_neg (by omega),if_neg (by omega),if_neg (by omega),if_neg (by omega)]
  ·unfold conN;rw [hb _ e,hb _ rfl];rfl
theorem conL_like (h:Like (SwI made φ bound) l l') (T:Int→TyI):∀ {C:Int→Option Int} {k:Nat},conL T C l' k=conL T C l k:=by
 induction h with
 | nil=>exact fun {_ _}=>rfl
 | cons h1 h2 ih =>
  intro C k;unfold conL;rw [(conE_like h1 T C).1,(conE_like h1 T C).2,ih]
theorem globs_like (h:Like (SwI made φ bound) l l'):Like (SwI made φ bound) (globs l) (globs l'):=by
 unfold globs;rw [h.same.cutR];exact (h.drop _).take _
theorem conM_like (h:Like (SwI (madeR l 0) φ bound) l l') (hc:(conM bound l).1=0):(conM bound l').1=0∧(conM bound l').2.2.1.T=(conM bound l).2.2.1.T∧(conM bound l').2.2.2=(conM bound l).2.2.2:=by
 obtain ⟨h1,h2,-,-,h5⟩:=conM_ok hc;have hi':=idsM_like h h5;have en:∀ m:List InstI,(idsM bound m).1=0→newM bound m=newL st0 m 0:=fun m hm=>by
  unfold newM;rw [if_neg (fun hh=>hh hm)]
 obtain ⟨a1,a2,a3⟩:=newL_like h (s:=st0) (s':=st0) (k:=0) ⟨rfl,rfl,rfl,fun _=>.inl rfl⟩
 rw [← en l h5,← en l' hi'] at a1 a2 a3;unfold conM at hc ⊢;rw [if_neg (c:=(newM bound l).1≠0) (fun hh=>hh h1)] at hc ⊢
 rw [if_neg (c:=(newM bound l').1≠0) (fun hh=>hh (a1.trans h1))]
 dsimp only at hc ⊢;rw [a3.T,conL_like (globs_like h),h.same.cutR];exact ⟨hc,rfl,rfl⟩
theorem foldN_like (h:Like (SwI made φ bound) l l'):∀ {M M':Int→InstI},(∀ id,SwI made φ bound (M id) (M' id))→∀ id,SwI made φ bound (l.foldl makN M id) (l'.foldl makN M' id):=by
 induction h with
 | nil=>exact fun hM=>hM
 | cons h1 h2 ih =>
  intro M M' hM
  rename_i i j l m
  refine ih (M:=makN M i) (M':=makN M' j) fun id=>?_
  unfold makN;rw [h1.hd.2.2]
  by_cases hc:i.2.2.1≠0
  ·rw [if_pos hc,if_pos hc];unfold updT
   by_cases he:id=i.2.2.1
   ·rw [if_pos he,if_pos he];exact h1
   ·rw [if_neg he,if_neg he];exact hM id
  ·rw [if_neg hc,if_neg hc];exact hM id
theorem ofT_like (h:Like (SwI made φ bound) l l'):ofT (makL l')=ofT (makL l):=by
 funext id
 have:=(foldN_like h (M:=fun _=>(0,0,0,[])) (M':=fun _=>(0,0,0,[])) (fun _=>.inl rfl) id).hd
 unfold ofT makL;rw [this.1,this.2.1]
theorem backL_like (h:Like (SwI made φ bound) l l'):backL l'=backL l:=by
 unfold backL;generalize (0:Int)=b
 induction h generalizing b with
 | nil=>rfl
 | cons h1 h2 ih =>
  rw [List.foldl_cons,List.foldl_cons,h1.hd.1,h1.hd.2.1];exact ih _
end
theorem ixn_map (φ:Int→Int) (l:List Int) (k:Nat):φ (ixn l k)=(l.map φ).getD k (φ 0):=by
 unfold ixn;rw [List.getD_eq_getElem?_getD,List.getD_eq_getElem?_getD,List.getElem?_map];cases l[k]? <;> rfl
theorem alkL_map (g:Tg) (ty:Int) (l:List Int):alkL g ty l=(l.map (ofT g.M)).all fun a=>alk g.T ty a:=by
 unfold alkL;rw [List.all_map];rfl
theorem numL_map (g:Tg) (l:List Int):numL g l=(l.map (ofT g.M)).all fun a=>(g.T a).kind==3:=by
 unfold numL;rw [List.all_map];rfl
theorem consR_map {g g':Tg} (hT:g'.T=g.T) (ty:Int):∀ {l l':List Int} {k:Nat},l'.map (ofT g'.M)=l.map (ofT g.M)→consR g' ty l' k=consR g ty l k
 | [],[],_,_=>rfl
 | [],_ :: _,_,h=>by simp at h
 | _ :: _,[],_,h=>by simp at h
 | a :: r,b :: s,k,h=>by
  simp only [List.map_cons,List.cons.injEq] at h;unfold consR;rw [h.1,hT,consR_map hT ty h.2]
theorem ask_like {g g':Tg} (hT:g'.T=g.T) (hM:ofT g'.M=ofT g.M) {op ty back:Int} {l l':List Int} (hs:swapB op=true) (hl:l'.map (ofT g.M)=l.map (ofT g.M)):askB g' op ty l' back=askB g op ty l back:=by
 have ho:=swap_op hs;have hlen:l'.length=l.length:=by have:=congrArg List.length hl;simpa using this
 have hx:∀ k,ofT g.M (ixn l' k)=ofT g.M (ixn l k):=fun k=>by rw [ixn_map (ofT g.M) l' k,ixn_map (ofT g.M) l k,hl]
 have hal:∀ ty,alkL g' ty l'=alkL g ty l:=fun ty=>by rw [alkL_map,alkL_map,hM,hT,hl]
 have hal1:∀ ty k,alkL g' ty [ixn l' k]=alkL g ty [ixn l k]:=fun ty k=>by
  rw [alkL_map,alkL_map,hM,hT];simp only [List.map_cons,List.map_nil,hx]
 have hnu1:∀ k,numL g' [ixn l' k]=numL g [ixn l k]:=fun k=>by
  rw [numL_map,numL_map,hM,hT];simp only [List.map_cons,List.map_nil,hx]
 have hat:∀ ty n,alkL g' ty (l'.take n)=alkL g ty (l.take n):=fun ty n=>by rw [alkL_map,alkL_map,hM,hT,List.map_take,List.map_take,hl]
 have hnd:∀ n,numL g' (l'.drop n)=numL g (l.drop n):=fun n=>by rw [numL_map,numL_map,hM,hT,List.map_drop,List.map_drop,hl]
 have hco:consR g' ty l' 0=consR g ty l 0:=consR_map hT ty (by rw [hM];exact hl)
 unfold askB;dsimp only;rw [hM,hT,hlen];simp only [hx,hal,hal1,hat,hnd]
 by_cases hr:124≤op∧op≤205
 ·simp only [if_pos hr]
 ·have h1:¬ (149≤op∧op≤152):=by omega
  have h2:¬ (op=154∨op=155):=by omega
  have h3:¬ (164≤op∧op≤168):=by omega
  have h4:¬ op=169:=by omega
  have h5:¬ (170≤op∧op≤179):=by omega
  have h6:¬ (201≤op∧op≤203):=by omega
  have h7:¬ op=245:=by omega
  have h8:¬ op=250:=by omega
  have h9:¬ op=251:=by omega
  have h10:¬ op=253:=by omega
  simp only [if_neg hr,if_neg h1,if_neg h2,if_neg h3,if_neg h4,if_neg h5,if_neg h6,if_neg h7,if_neg h8,if_neg h9,if_neg h10]
  by_cases h254:op=254
  ·simp only [if_pos h254]
  ·simp only [if_neg h254];unfold memB;dsimp only;rw [hM,hT,hlen];simp only [hx,hnu1,hco];have m1:¬ op=57:=by omega
   have m2:¬ op=59:=by omega
   have m3:¬ op=65:=by omega
   have m4:¬ op=79:=by omega
   have m5:¬ op=81:=by omega
   have m6:¬ op=82:=by omega
   simp only [if_neg m1,if_neg m2,if_neg m3,if_neg m4,if_neg m5,if_neg m6]
theorem nums_set {l:List ArgI} {φ:Int→Int} {j:Nat} {n:Int} {s:ByteArray} (hj:j<l.length) (h:φ n=φ (ag l j).2.1):(nums (l.set j (1,n,s))).map φ=(nums l).map φ:=by
 unfold nums;rw [List.map_map,List.map_map];exact map_set_same _ hj (by rw [ag_of hj] at h;exact h)
theorem fit_like {g g':Tg} (hT:g'.T=g.T) (hM:ofT g'.M=ofT g.M) {made:Int→Option Nat} {bound back:Int} {i i':InstI} {r r':List InstI} (h:SwA made (ofT g.M) bound i i'):fitT g' i' r' back=fitT g i r back:=by
 have ho:=swap_op h.op;obtain ⟨j,n,hj,-,hs,-,-,-,hφ⟩:=h.arg;unfold fitT askedB;rw [h.h1,h.h2,if_neg (show ¬ i.1=59 by omega),if_neg (show ¬ i.1=59 by omega),if_neg (show ¬ i.1=54 by omega),if_neg (show ¬ i.1=54 by omega),ask_like hT hM h.op (l:=nums i.2.2.2) (by rw [hs];exact nums_set hj hφ)]
theorem swapped_law {bound:Int} {L:List InstI} {k j:Nat} {i:InstI} {n:Int} (hc:(conM bound L).1=0) (hk:L[k]?=some i) (ho:swapB i.1=true) (hj:j<i.2.2.2.length) (h1:(ag i.2.2.2 j).1=1) (hn:n≠0) (hb:n<bound)
  (h0:ofT (makL L) n≠0) (hf:ofT (makL L) n=ofT (makL L) (ag i.2.2.2 j).2.1) :
  (conM bound (L.set k (i.1,i.2.1,i.2.2.1,i.2.2.2.set j (1,n,(ag i.2.2.2 j).2.2)))).1=0 ∧
   fitAt (tgM bound (L.set k (i.1,i.2.1,i.2.2.1,i.2.2.2.set j (1,n,(ag i.2.2.2 j).2.2)))) (L.set k (i.1,i.2.1,i.2.2.1,i.2.2.2.set j (1,n,(ag i.2.2.2 j).2.2))) k=fitAt (tgM bound L) L k:=by
 have hkl:=(List.getElem?_eq_some_iff.1 hk).1;have hm:(madeR L 0 n).isSome=true:=by
  rcases makL_in L n with e | ⟨e1,e2,e3⟩
  ·exfalso
   apply h0
   unfold ofT;rw [e];rfl
  ·obtain ⟨q,hq⟩:=List.getElem?_of_mem e1;obtain ⟨m,hm,-⟩:=madeR_at L 0 q _ hq (by rw [e2];exact e3)
   rw [e2] at hm;rw [hm];rfl
 have hA:SwA (madeR L 0) (ofT (makL L)) bound i (i.1,i.2.1,i.2.2.1,i.2.2.2.set j (1,n,(ag i.2.2.2 j).2.2)):=⟨ho,rfl,rfl,rfl,j,n,hj,h1,rfl,hn,hb,hm,hf⟩;generalize (i.1,i.2.1,i.2.2.1,i.2.2.2.set j (1,n,(ag i.2.2.2 j).2.2))=i' at *;have hlk:Like (SwI (madeR L 0) (ofT (makL L)) bound) L (L.set k i'):=Like.set (fun _=>.inl rfl) hk (.inr hA)
 have hk':(L.set k i')[k]?=some i':=by rw [List.getElem?_set,if_pos rfl,if_pos hkl]
 obtain ⟨c1,c2,c3⟩:=conM_like hlk hc;refine ⟨c1,?_⟩;rw [fitAt_at hk,fitAt_at hk',backL_like (hlk.take k)];exact fit_like (g:=tgM bound L) (by unfold tgM;exact c2) (by unfold tgM;exact ofT_like hlk) (made:=madeR L 0) (bound:=bound) hA
end Go.Proofs.YtdebjkiilnhgpaaGreatDoor
