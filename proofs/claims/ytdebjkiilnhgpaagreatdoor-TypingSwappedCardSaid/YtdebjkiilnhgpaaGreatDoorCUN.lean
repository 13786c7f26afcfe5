/- Plain: a module with other ids: its shape, how it stands, its ids. -/
import Derived.Test.YtdebjkiilnhgpaaGreatDoorCTN
import Derived.Test.YtdebjkiilnhgpaaGreatDoorCUA
namespace Go.Proofs.YtdebjkiilnhgpaaGreatDoor
section
def renA (tq:Int→Int) (a:ArgI):ArgI:=if a.1=1 then (1,tq a.2.1,a.2.2) else a
def renI (tq:Int→Int) (i:InstI):InstI:=(i.1,tq i.2.1,tq i.2.2.1,i.2.2.2.map (renA tq))
theorem renA_kind (tq:Int→Int) (a:ArgI):(renA tq a).1=a.1:=by
 unfold renA
 split
 ·rename_i h;exact h.symm
 ·rfl
theorem renA_id {tq:Int→Int} {a:ArgI} (h:a.1=1):(renA tq a).2.1=tq a.2.1:=by unfold renA;rw [if_pos h]
theorem renA_other {tq:Int→Int} {a:ArgI} (h:a.1≠1):renA tq a=a:=if_neg h
theorem kinds_ren (tq:Int→Int) (l:List ArgI):kinds (l.map (renA tq))=kinds l:=by
 unfold kinds;rw [List.map_map];exact List.map_congr_left fun a _=>renA_kind tq a
theorem ag_ren {tq:Int→Int} {l:List ArgI} {k:Nat} (h:k<l.length):ag (l.map (renA tq)) k=renA tq (ag l k):=by
 rw [ag_of (by rw [List.length_map];exact h),ag_of h,List.getElem_map]
structure RenOk (tq:Int→Int) (U:Int→Prop) (b:Int):Prop where
 zero:tq 0=0
 u0:U 0
 inj:∀ x y,U x→U y→tq x=tq y→x=y
 bd:∀ x,U x→x≠0→1≤tq x∧tq x<b
structure Used (U:Int→Prop) (i:InstI):Prop where
 ty:U i.2.1
 res:U i.2.2.1
 args:∀ a∈i.2.2.2,a.1=1→U a.2.1
theorem RenOk.ne {tq:Int→Int} {U:Int→Prop} {b:Int} (h:RenOk tq U b) {x:Int} (hx:U x):(tq x != 0)=(x != 0):=by
 by_cases e:x=0
 ·rw [e,h.zero]
 ·have h1:=h.bd x hx e;have e1:(tq x != 0)=true:=by simpa using (show tq x≠0 by omega)
  have e2:(x != 0)=true:=by simpa using e
  rw [e1,e2]
theorem argBad_id (op:Int) (k:Nat) (n m:Int) (s:ByteArray):argBad op k 1 n s=argBad op k 1 m s:=by
 unfold argBad;simp
theorem argE_ren {tq:Int→Int} {U:Int→Prop} {b op bound:Int} {k:Nat} (h:RenOk tq U b) {a:ArgI} (ha:a.1=1→U a.2.1) (he:argE op bound k a.1 a.2.1 a.2.2=0) :
  argE op b k (renA tq a).1 (renA tq a).2.1 (renA tq a).2.2=0∧(argW op k (renA tq a).1 (renA tq a).2.1 (renA tq a).2.2).length=(argW op k a.1 a.2.1 a.2.2).length ∧
   argR op k (renA tq a).1 (renA tq a).2.1 (renA tq a).2.2=argR op k a.1 a.2.1 a.2.2:=by
 obtain ⟨-,-,-,hid,-,-⟩:=argE_ok he
 by_cases h1:a.1=1
 ·have hU:=ha h1;obtain ⟨n0,nb⟩:=hid h1;unfold renA;rw [if_pos h1];obtain ⟨kd,n,s⟩:=a;have h1:kd=1:=h1;subst h1;dsimp only at *;have hbd:=h.bd n hU n0;have hb:argBad op k 1 n s=false:=by
   cases hc:argBad op k 1 n s with
   | false=>rfl
   | true =>
    unfold argE at he;rw [hc] at he;cases he
  have hb':argBad op k 1 (tq n) s=false:=by rw [argBad_id op k (tq n) n s];exact hb
  unfold argE argW argR;rw [hb,hb'];refine ⟨?_,rfl,rfl⟩;have e3:((1:Int)==3)=false:=rfl;have e1:((1:Int)==1)=true:=rfl;rw [e3,e1];simp only [Bool.false_eq_true,if_false,if_true];unfold idE;rw [if_neg (by omega)]
 ·rw [renA_other h1];refine ⟨?_,rfl,rfl⟩;have e1:(a.1==1)=false:=by simpa using h1
  unfold argE at he ⊢;rw [e1] at he ⊢;simpa using he
theorem loopR_ren {tq:Int→Int} {U:Int→Prop} {b op bound:Int} (h:RenOk tq U b) {l:List ArgI} (hu:∀ a∈l,a.1=1→U a.2.1) {st st':RSt} (h1:st'.1=0) (h2:st'.2.1.length=st.2.1.length) (h3:st'.2.2=st.2.2) :
  ∀ k,k≤l.length→(loopR op bound l st k).1=0→(loopR op b (l.map (renA tq)) st' k).1=0∧(loopR op b (l.map (renA tq)) st' k).2.1.length=(loopR op bound l st k).2.1.length∧(loopR op b (l.map (renA tq)) st' k).2.2=(loopR op bound l st k).2.2
 | 0,_,_=>⟨h1,h2,h3⟩
 | k+1,hk,h0=>by
  unfold loopR stepR at h0 ⊢
  by_cases hc:(loopR op bound l st k).1=0
  ·obtain ⟨a1,a2,a3⟩:=loopR_ren h hu h1 h2 h3 k (by omega) hc
   rw [if_pos hc] at h0 ⊢;rw [if_pos a1,ag_ren (by omega)]
   obtain ⟨b1,b2,b3⟩:=argE_ren h (hu _ (ag_mem (by omega))) h0
   refine ⟨b1,?_,?_⟩
   ·show List.length (_++_)=List.length (_++_)
    rw [List.length_append,List.length_append,a2,b2]
   ·show _+_=_+_
    rw [a3,b3]
  ·rw [if_neg hc] at h0;exact absurd h0 hc
theorem headE_ren {tq:Int→Int} {U:Int→Prop} {b:Int} (h:RenOk tq U b) {must:Bool} {n lacks bound:Int} (hl:lacks≠0) (hn:U n) (he:headE must n lacks bound=0) :
  headE must (tq n) lacks b=0∧(headW must (tq n)).length=(headW must n).length:=by
 obtain ⟨h1,h2⟩:=headE_ok hl he;have e:=h.ne hn;unfold headE headW;rw [e,← h1];cases must with
 | false=>simp
 | true =>
  have hz:n≠0:=by simpa using h1.symm
  have hbd:=h.bd n hn hz;simp only [if_true];refine ⟨?_,rfl⟩;unfold idE;rw [if_neg (by omega)]
theorem rawR_ren {tq:Int→Int} {U:Int→Prop} {b:Int} (h:RenOk tq U b) {i:InstI} {bound:Int} (hu:Used U i) (hr:(rawR i bound).1=0) :
  (rawR (renI tq i) b).1=0∧(rawR (renI tq i) b).2.length=(rawR i bound).2.length:=by
 have eo:(renI tq i).1=i.1:=rfl;have ea:(renI tq i).2.2.2=i.2.2.2.map (renA tq):=rfl;have et:(renI tq i).2.1=tq i.2.1:=rfl;have er:(renI tq i).2.2.1=tq i.2.2.1:=rfl;unfold rawR at hr ⊢;rw [eo,ea];cases hf:formOf i.1 with
 | none=>rw [hf] at hr;cases hr
 | some f =>
  rw [hf] at hr;dsimp only at hr ⊢;obtain ⟨s,hs⟩:∃ s,s=loopR i.1 bound i.2.2.2 (headsR f i bound) i.2.2.2.length:=⟨_,rfl⟩;rw [← hs] at hr ⊢;have hw':wholeE i.1 (i.2.2.2.map (renA tq))=wholeE i.1 i.2.2.2:=by unfold wholeE;rw [kinds_ren]
  rw [hw']
  by_cases h0:s.1=0
  ·by_cases hw:wholeE i.1 i.2.2.2=0
   ·by_cases h65:65535≤s.2.2
    ·simp [h0,hw,h65] at hr
    ·have hh:(headsR f i bound).1=0:=(loopR_ok (by rw [← hs];exact h0)).1
     have hheads:(headsR f (renI tq i) b).1=0∧(headsR f (renI tq i) b).2.1.length=(headsR f i bound).2.1.length∧(headsR f (renI tq i) b).2.2=(headsR f i bound).2.2:=by
      unfold headsR at hh ⊢;rw [et,er]
      by_cases hc:headE f.ty i.2.1 40 bound=0
      ·rw [if_pos hc] at hh ⊢;obtain ⟨a1,a2⟩:=headE_ren h (by decide) hu.ty hc
       obtain ⟨b1,b2⟩:=headE_ren h (by decide) hu.res hh
       rw [if_pos a1];refine ⟨b1,?_,?_⟩
       ·show List.length (_++_)=List.length (_++_)
        rw [List.length_append,List.length_append,a2,b2]
       ·show _+_=_+_
        rw [a2,b2]
      ·rw [if_neg hc] at hh;exact absurd hh hc
     obtain ⟨c1,c2,c3⟩:=hheads;have hl:=loopR_ren (op:=i.1) (bound:=bound) h hu.args c1 c2 c3 i.2.2.2.length (Nat.le_refl _) (by rw [← hs];exact h0)
     rw [← hs,show i.2.2.2.length=(i.2.2.2.map (renA tq)).length by rw [List.length_map]] at hl
     generalize loopR i.1 b (i.2.2.2.map (renA tq)) (headsR f (renI tq i) b) (i.2.2.2.map (renA tq)).length=s' at *;obtain ⟨d1,d2,d3⟩:=hl;simp [h0,hw,h65,d1,d2,d3]
   ·simp [h0,hw] at hr
  ·simp [h0] at hr
theorem shapeR_ren {tq:Int→Int} {U:Int→Prop} {b bound:Int} (h:RenOk tq U b):∀ {l:List InstI} {k:Nat} {left:Int},(∀ i∈l,Used U i)→(shapeR bound l k left).1=0→(shapeR b (l.map (renI tq)) k left).1=0
 | [],_,_,_,h0=>h0
 | i :: r,k,left,hu,h0=>by
  rw [List.map_cons];unfold shapeR at h0 ⊢
  by_cases h1:(rawR i bound).1≠0
  ·rw [if_pos h1] at h0;exact absurd h0 h1
  ·rw [if_neg h1] at h0;obtain ⟨a1,a2⟩:=rawR_ren h (hu i List.mem_cons_self) (Decidable.not_not.1 h1);rw [if_neg (by rw [a1];exact fun hc=>hc rfl),a2]
   by_cases h2:left-(1+(rawR i bound).2.length)<0
   ·rw [if_pos h2] at h0;cases h0
   ·rw [if_neg h2] at h0 ⊢;exact shapeR_ren h (fun j hj=>hu j (List.mem_cons_of_mem _ hj)) h0
theorem var_form:kindT (letterOf 59 0)=4:=by decide +kernel
theorem kindI_ren {tq:Int→Int} {i:InstI} {bound:Int} (hr:(rawR i bound).1=0):partI (renI tq i)=partI i∧kindI (renI tq i)=kindI i:=by
 have hv:variableB (renI tq i)=variableB i:=by
  unfold variableB
  show (i.1==59&&(decide (0<(i.2.2.2.map (renA tq)).length)&&(ag (i.2.2.2.map (renA tq)) 0).2.1==7))=_
  rw [List.length_map]
  by_cases h1:i.1=59
  ·by_cases h2:0<i.2.2.2.length
   ·rw [ag_ren h2];obtain ⟨f,hi⟩:=rawR_ok hr;have h3:=(argE_ok (hi.args 0 h2)).2.1;rw [h1,var_form] at h3;rw [renA_other (by omega)]
   ·have e:decide (0<i.2.2.2.length)=false:=by rw [decide_eq_false_iff_not];exact h2
    rw [e,Bool.false_and,Bool.false_and]
  ·have e:(i.1==59)=false:=by simpa using h1
   rw [e,Bool.false_and,Bool.false_and]
 have hp:partI (renI tq i)=partI i:=by
  unfold partI;rw [hv];rfl
 refine ⟨hp,?_⟩;unfold kindI;rw [hp];rfl
structure SameL (l' l:List InstI):Prop where
 len:l'.length=l.length
 nx:∀ k,nx l' k=nx l k
 op:∀ k,opAt l' k=opAt l k
 part:∀ k,partAt l' k=partAt l k
theorem SameL.ren {tq:Int→Int} {l:List InstI} {bound:Int} (hr:∀ i∈l,(rawR i bound).1=0):SameL (l.map (renI tq)) l:=by
 refine ⟨List.length_map ..,fun k=>?_,fun k=>?_,fun k=>?_⟩
 ·unfold Go.Proofs.YtdebjkiilnhgpaaGreatDoor.nx;rw [List.getElem?_map];cases hk:l[k]? with
  | none=>rfl
  | some i=>exact (kindI_ren (hr i (List.mem_of_getElem? hk))).2
 ·unfold opAt;rw [List.getElem?_map];cases hk:l[k]? with
  | none=>rfl
  | some i=>rfl
 ·unfold partAt;rw [List.getElem?_map];cases hk:l[k]? with
  | none=>rfl
  | some i=>exact (kindI_ren (hr i (List.mem_of_getElem? hk))).1
theorem SameL.rowTo {l' l:List InstI} (h:SameL l' l) (kd:Int):∀ q k,Go.Proofs.YtdebjkiilnhgpaaGreatDoor.rowTo l' kd q k=Go.Proofs.YtdebjkiilnhgpaaGreatDoor.rowTo l kd q k
 | 0,k=>rfl
 | q+1,k=>by
  unfold Go.Proofs.YtdebjkiilnhgpaaGreatDoor.rowTo;rw [h.nx k,h.rowTo kd q (k+1)]
theorem SameL.rowEnd {l' l:List InstI} (h:SameL l' l) (kd:Int) (k:Nat):Go.Proofs.YtdebjkiilnhgpaaGreatDoor.rowEnd l' kd k=Go.Proofs.YtdebjkiilnhgpaaGreatDoor.rowEnd l kd k:=by
 unfold Go.Proofs.YtdebjkiilnhgpaaGreatDoor.rowEnd;rw [h.len,h.rowTo]
theorem SameL.topTo {l' l:List InstI} (h:SameL l' l) (p:Int):∀ q k,Go.Proofs.YtdebjkiilnhgpaaGreatDoor.topTo l' p q k=Go.Proofs.YtdebjkiilnhgpaaGreatDoor.topTo l p q k
 | 0,k=>rfl
 | q+1,k=>by
  unfold Go.Proofs.YtdebjkiilnhgpaaGreatDoor.topTo;rw [h.nx k,h.part k,h.topTo p q (k+1)]
theorem SameL.topEnd {l' l:List InstI} (h:SameL l' l) (p:Int) (k:Nat):Go.Proofs.YtdebjkiilnhgpaaGreatDoor.topEnd l' p k=Go.Proofs.YtdebjkiilnhgpaaGreatDoor.topEnd l p k:=by
 unfold Go.Proofs.YtdebjkiilnhgpaaGreatDoor.topEnd;rw [h.len,h.topTo]
theorem SameL.topR {l' l:List InstI} (h:SameL l' l):∀ r p k f,Go.Proofs.YtdebjkiilnhgpaaGreatDoor.topR l' r p k f=Go.Proofs.YtdebjkiilnhgpaaGreatDoor.topR l r p k f
 | 0,_,_,_=>rfl
 | r+1,p,k,f=>by
  unfold Go.Proofs.YtdebjkiilnhgpaaGreatDoor.topR;rw [h.topEnd,h.topR]
theorem SameL.blockR {l' l:List InstI} (h:SameL l' l) (first:Bool) (k:Nat):Go.Proofs.YtdebjkiilnhgpaaGreatDoor.blockR l' first k=Go.Proofs.YtdebjkiilnhgpaaGreatDoor.blockR l first k:=by
 unfold Go.Proofs.YtdebjkiilnhgpaaGreatDoor.blockR;simp only [h.rowEnd,h.nx,h.op]
theorem SameL.blocksR {l' l:List InstI} (h:SameL l' l):∀ q first k,Go.Proofs.YtdebjkiilnhgpaaGreatDoor.blocksR l' q first k=Go.Proofs.YtdebjkiilnhgpaaGreatDoor.blocksR l q first k
 | 0,_,_=>rfl
 | q+1,first,k=>by
  unfold Go.Proofs.YtdebjkiilnhgpaaGreatDoor.blocksR;rw [h.nx,h.blockR,h.blocksR q]
theorem SameL.funcsR {l' l:List InstI} (h:SameL l' l):∀ q k,Go.Proofs.YtdebjkiilnhgpaaGreatDoor.funcsR l' q k=Go.Proofs.YtdebjkiilnhgpaaGreatDoor.funcsR l q k
 | 0,_=>rfl
 | q+1,k=>by
  unfold Go.Proofs.YtdebjkiilnhgpaaGreatDoor.funcsR;simp only [h.nx,h.rowEnd,h.blocksR,h.len,h.funcsR q]
theorem SameL.cutR {l' l:List InstI} (h:SameL l' l):Go.Proofs.YtdebjkiilnhgpaaGreatDoor.cutR l'=Go.Proofs.YtdebjkiilnhgpaaGreatDoor.cutR l:=by
 unfold Go.Proofs.YtdebjkiilnhgpaaGreatDoor.cutR;simp only [h.topR,h.funcsR,h.len]
theorem idsF_ren (tq:Int→Int):∀ l:List ArgI,idsF (l.map (renA tq))=(idsF l).map tq
 | []=>rfl
 | a :: r=>by
  have ih:=idsF_ren tq r;unfold idsF at ih ⊢;rw [List.map_cons]
  by_cases h:a.1=1
  ·rw [List.filter_cons_of_pos (by rw [renA_kind];simpa using h),List.filter_cons_of_pos (by simpa using h),List.map_cons,List.map_cons,List.map_cons,ih,renA_id h]
  ·rw [List.filter_cons_of_neg (by rw [renA_kind];simpa using h),List.filter_cons_of_neg (by simpa using h),ih]
theorem idsOf_ren {tq:Int→Int} {U:Int→Prop} {b:Int} (h:RenOk tq U b) {i:InstI} (hu:Used U i):idsOf (renI tq i)=(idsOf i).map tq:=by
 unfold idsOf
 show (if tq i.2.1=0 then [] else [tq i.2.1])++idsF (i.2.2.2.map (renA tq))=_
 rw [idsF_ren,List.map_append];congr 1
 by_cases e:i.2.1=0
 ·rw [e,h.zero];rfl
 ·have:=h.bd _ hu.ty e;rw [if_neg (by omega),if_neg e]
  rfl
theorem madeR_ren {tq:Int→Int} {U:Int→Prop} {b:Int} (h:RenOk tq U b) {id:Int} (hid:U id):∀ {l:List InstI} {k:Nat},(∀ i∈l,Used U i)→madeR (l.map (renI tq)) k (tq id)=madeR l k id
 | [],_,_=>rfl
 | i :: r,k,hu=>by
  have hi:=hu i List.mem_cons_self;rw [List.map_cons];unfold madeR
  show (if tq i.2.2.1≠0∧tq i.2.2.1=tq id then some k else _)=_
  rw [madeR_ren h hid (fun j hj=>hu j (List.mem_cons_of_mem _ hj))]
  by_cases e:i.2.2.1≠0∧i.2.2.1=id
  ·rw [if_pos e,if_pos ⟨by have:=h.bd _ hi.res e.1;omega,by rw [e.2]⟩]
  ·rw [if_neg e,if_neg];rintro ⟨h1,h2⟩;exact e ⟨fun hz=>h1 (by rw [hz,h.zero]),h.inj _ _ hi.res hid h2⟩
theorem lostB_ren {tq:Int→Int} {made made':Int→Option Nat}:∀ {l:List Int},(∀ x∈l,made' (tq x)=made x)→lostB made' (l.map tq)=lostB made l
 | [],_=>rfl
 | x :: r,h=>by
  have ih:=lostB_ren (fun y hy=>h y (List.mem_cons_of_mem _ hy))
  unfold lostB at ih ⊢;rw [List.map_cons,List.any_cons,List.any_cons,ih,h x List.mem_cons_self]
theorem aheadB_ren {tq:Int→Int} {made made':Int→Option Nat} {k:Nat}:∀ {l:List Int},(∀ x∈l,made' (tq x)=made x)→aheadB made' (l.map tq) k=aheadB made l k
 | [],_=>rfl
 | x :: r,h=>by
  have ih:=aheadB_ren (k:=k) (fun y hy=>h y (List.mem_cons_of_mem _ hy))
  unfold aheadB at ih ⊢;rw [List.map_cons,List.any_cons,List.any_cons,ih,h x List.mem_cons_self]
theorem idsF_mem {l:List ArgI} {x:Int} (h:x∈idsF l):∃ a∈l,a.1=1∧a.2.1=x:=by
 unfold idsF at h;obtain ⟨a,ha,rfl⟩:=List.mem_map.1 h;obtain ⟨h1,h2⟩:=List.mem_filter.1 ha;exact ⟨a,h1,by simpa using h2,rfl⟩
theorem idsOf_mem {i:InstI} {x:Int} (h:x∈idsOf i):x=i.2.1∨∃ a∈i.2.2.2,a.1=1∧a.2.1=x:=by
 unfold idsOf at h
 rcases List.mem_append.1 h with h | h
 ·split at h
  ·cases h
  ·exact .inl (List.mem_singleton.1 h)
 ·exact .inr (idsF_mem h)
theorem Used.ids {U:Int→Prop} {i:InstI} (h:Used U i):∀ x∈idsOf i,U x:=fun x hx=>by
 rcases idsOf_mem hx with rfl | ⟨a,ha,h1,rfl⟩
 ·exact h.ty
 ·exact h.args a ha h1
theorem idE1_ren {tq:Int→Int} {U:Int→Prop} {b:Int} (h:RenOk tq U b) {made made':Int→Option Nat} (hm:∀ x,U x→made' (tq x)=made x) {i:InstI} (hu:Used U i) (p:Nat→Int) (k:Nat) :
  idE1 made' p k (renI tq i)=idE1 made p k i:=by
 unfold idE1;rw [idsOf_ren h hu,lostB_ren (fun x hx=>hm x (hu.ids x hx)),aheadB_ren (fun x hx=>hm x (hu.ids x hx))]
 show (if tq i.2.2.1≠0∧(made' (tq i.2.2.1)).getD 0<k then _ else _)=_
 rw [hm _ hu.res];have c:(tq i.2.2.1≠0∧(made i.2.2.1).getD 0<k) ↔ (i.2.2.1≠0∧(made i.2.2.1).getD 0<k):=by
  refine and_congr_left fun _=>⟨fun h1 h2=>h1 (by rw [h2,h.zero]),fun h1 h2=>?_⟩
  have:=h.bd _ hu.res h1;omega
 by_cases hz:i.2.2.1≠0∧(made i.2.2.1).getD 0<k
 ·have hz2:=c.2 hz;rw [if_pos hz,if_pos hz2]
 ·have hz2:=fun hh=>hz (c.1 hh)
  rw [if_neg hz,if_neg hz2]
theorem idsR_ren {tq:Int→Int} {U:Int→Prop} {b:Int} (h:RenOk tq U b) {made made':Int→Option Nat} (hm:∀ x,U x→made' (tq x)=made x) (p:Nat→Int) :
  ∀ {l:List InstI} {k:Nat},(∀ i∈l,Used U i)→idsR made' p (l.map (renI tq)) k=idsR made p l k
 | [],_,_=>rfl
 | i :: r,k,hu=>by
  rw [List.map_cons];unfold idsR;rw [idE1_ren h hm (hu i List.mem_cons_self),idsR_ren h hm p (fun j hj=>hu j (List.mem_cons_of_mem _ hj))]
theorem idsM_ren {tq:Int→Int} {U:Int→Prop} {b bound:Int} (h:RenOk tq U b) (hb:b≠0) (hb2:b≤65536) {l:List InstI} (hu:∀ i∈l,Used U i) (hi:(idsM bound l).1=0):(idsM b (l.map (renI tq))).1=0:=by
 have hraw:=ids_shape hi;have hS:=SameL.ren (tq:=tq) hraw;unfold idsM at hi ⊢;have hL:(layM bound l).1=0:=by
  by_cases hc:(layM bound l).1=0
  ·exact hc
  ·rw [if_pos hc] at hi;exact hi
 rw [if_neg (fun hc=>hc hL)] at hi
 have hshape:(shapeM bound l).1=0:=by
  unfold layM at hL
  by_cases hc:(shapeM bound l).1=0
  ·exact hc
  ·rw [if_pos hc] at hL;exact hL
 have hshape':(shapeM b (l.map (renI tq))).1=0:=by
  unfold shapeM at hshape ⊢;rw [if_neg (by omega)]
  split at hshape
  ·cases hshape
  ·exact shapeR_ren h hu hshape
 have hL':(layM b (l.map (renI tq))).1=0:=by
  unfold layM at hL ⊢;rw [if_neg (fun hc=>hc hshape)] at hL
  rw [if_neg (fun hc=>hc hshape'),hS.cutR]
  by_cases hc:(cutR l).1=true
  ·rw [if_pos hc]
  ·rw [if_neg hc] at hL
   split at hL <;> cases hL
 rw [if_neg (fun hc=>hc hL'),hS.cutR,idsR_ren h (fun x hx=>madeR_ren h hx hu) _ hu]
 exact hi
theorem ids_used {bound:Int} {l:List InstI} (hi:(idsM bound l).1=0):∀ i∈l,Used (fun x=>x=0∨(madeR l 0 x).isSome=true) i:=by
 intro i hil;obtain ⟨j,hj⟩:=List.getElem?_of_mem hil;unfold idsM at hi
 by_cases hc:(layM bound l).1=0
 ·rw [if_neg (fun h=>h hc)] at hi
  have h1:=idsR_at hi j i hj;have hl:lostB (madeR l 0) (idsOf i)=false:=by
   cases hx:lostB (madeR l 0) (idsOf i) with
   | false=>rfl
   | true =>
    exfalso
    unfold idE1 at h1;rw [hx] at h1
    by_cases h2:i.2.2.1≠0∧((madeR l 0 i.2.2.1).getD 0<0+j)
    ·rw [if_pos h2] at h1;cases h1
    ·rw [if_neg h2,if_pos rfl] at h1;cases h1
  unfold lostB at hl;rw [List.any_eq_false] at hl;have hm:∀ x∈idsOf i,(madeR l 0 x).isSome=true:=fun x hx=>by
   have:=hl x hx;cases hy:madeR l 0 x with
   | none=>rw [hy] at this;exact absurd rfl this
   | some m=>rfl
  refine ⟨?_,?_,fun a ha h1=>?_⟩
  ·by_cases e:i.2.1=0
   ·exact .inl e
   ·refine .inr (hm _ ?_);unfold idsOf;rw [if_neg e];exact List.mem_append_left _ List.mem_cons_self
  ·by_cases e:i.2.2.1=0
   ·exact .inl e
   ·obtain ⟨m,hm,-⟩:=madeR_at l 0 j i hj e;exact .inr (by rw [hm];rfl)
  ·refine .inr (hm _ ?_);unfold idsOf;refine List.mem_append_right _ ?_;unfold idsF;exact List.mem_map.2 ⟨a,List.mem_filter.2 ⟨ha,by simpa using h1⟩,rfl⟩
 ·rw [if_pos hc] at hi;exact absurd hi hc
end
section
def NoSp (l:List UInt8):Prop:=∀ c∈l,c≠32
theorem nosp_digit {u:Nat} (h:u<10):UInt8.ofNat (48+u)≠32:=by
 have e:(UInt8.ofNat (48+u)).toNat=48+u:=by rw [UInt8.toNat_ofNat'];omega
 intro hc;rw [hc] at e;have e2:(32:UInt8).toNat=32:=rfl;omega
theorem nosp_dec (u:Nat):NoSp (Lib.decDigits u):=by
 induction u using Nat.strongRecOn with
 | _ u ih =>
  rw [Lib.decDigits]
  split
  ·rename_i h
   intro c hc;obtain rfl:=List.mem_singleton.1 hc;exact nosp_digit h
  ·rename_i h
   intro c hc
   rcases List.mem_append.1 hc with hc | hc
   ·exact ih (u / 10) (by omega) c hc
   ·obtain rfl:=List.mem_singleton.1 hc;exact nosp_digit (by omega)
theorem nosp_itoa {n:Int} (hn:0≤n):NoSp (Lib.itoa n):=by
 obtain ⟨a,rfl⟩:∃ a:Nat,n=a:=⟨n.toNat,by omega⟩
 rw [Lib.itoa_nonneg];exact nosp_dec a
def SpAhead:List UInt8→Prop
 | []=>True
 | c :: _=>c=32
theorem sp_inj:∀ {a b x y:List UInt8},NoSp a→NoSp b→SpAhead x→SpAhead y→a++x=b++y→a=b∧x=y
 | [],[],x,y,_,_,_,_,h=>⟨rfl,h⟩
 | [],d :: b,x,y,_,hb,hx,_,h=>by
  exfalso
  rw [List.nil_append,List.cons_append] at h;rw [h] at hx;exact hb d List.mem_cons_self hx
 | c :: a,[],x,y,ha,_,_,hy,h=>by
  exfalso
  rw [List.nil_append,List.cons_append] at h;rw [← h] at hy;exact ha c List.mem_cons_self hy
 | c :: a,d :: b,x,y,ha,hb,hx,hy,h=>by
  rw [List.cons_append,List.cons_append] at h;injection h with h1 h2
  obtain ⟨e1,e2⟩:=sp_inj (fun z hz=>ha z (List.mem_cons_of_mem _ hz)) (fun z hz=>hb z (List.mem_cons_of_mem _ hz)) hx hy h2
  exact ⟨by rw [h1,e1],e2⟩
def tailL (l:List Int):List UInt8:=(l.map fun n=>32 :: Lib.itoa n).flatten
theorem tailL_sp:∀ l:List Int,SpAhead (tailL l)
 | []=>trivial
 | _ :: _=>rfl
theorem tailL_cons (n:Int) (l:List Int):tailL (n :: l)=32 :: (Lib.itoa n++tailL l):=by
 unfold tailL;simp
theorem tailL_inj:∀ {l m:List Int},(∀ x∈l,0≤x)→(∀ x∈m,0≤x)→tailL l=tailL m→l=m
 | [],[],_,_,_=>rfl
 | [],y :: m,_,_,h=>by rw [tailL_cons] at h;cases h
 | x :: l,[],_,_,h=>by rw [tailL_cons] at h;cases h
 | x :: l,y :: m,hl,hm,h=>by
  rw [tailL_cons,tailL_cons] at h;injection h with _ h
  have hx:=hl x List.mem_cons_self;have hy:=hm y List.mem_cons_self;obtain ⟨e1,e2⟩:=sp_inj (nosp_itoa hx) (nosp_itoa hy) (tailL_sp l) (tailL_sp m) h;rw [itoa_inj hx hy e1,tailL_inj (fun z hz=>hl z (List.mem_cons_of_mem _ hz)) (fun z hz=>hm z (List.mem_cons_of_mem _ hz)) e2]
theorem keyL_inj {op op':Int} {l m:List Int} (h0:0≤op) (h1:0≤op') (hl:∀ x∈l,0≤x) (hm:∀ x∈m,0≤x) (h:keyL op l=keyL op' m):op=op'∧l=m:=by
 obtain ⟨e1,e2⟩:=sp_inj (nosp_itoa h0) (nosp_itoa h1) (tailL_sp l) (tailL_sp m) h;exact ⟨itoa_inj h0 h1 e1,tailL_inj hl hm e2⟩
theorem keyB_iff {i j:InstI} (h0:0≤i.1) (h1:0≤j.1) (hi:∀ x∈nums i.2.2.2,0≤x) (hj:∀ x∈nums j.2.2.2,0≤x):keyB i=keyB j ↔ i.1=j.1∧nums i.2.2.2=nums j.2.2.2:=by
 constructor
 ·intro h;unfold keyB at h;injection h with h
  have h2:=congrArg Array.toList h;rw [List.toList_toArray,List.toList_toArray] at h2;exact keyL_inj h0 h1 hi hj h2
 ·rintro ⟨e1,e2⟩;unfold keyB;rw [e1,e2]
theorem letter_in {op:Int} {f:FormI} (hf:formOf op=some f) (k:Nat):letterOf op k=0∨∃ c∈f.fixed++f.rest,letterOf op k=(c.toNat:Int):=by
 unfold letterOf;rw [hf]
 show letterB (bs f.fixed) (bs f.rest) f.most k=0∨∃ c∈f.fixed++f.rest,letterB (bs f.fixed) (bs f.rest) f.most k=(c.toNat:Int)
 have hm:∀ (l:List UInt8) (j:Nat) (h:j<(bs l).size),(bs l)[j]∈l:=fun l j h=>by
  have h2:(bs l)[j]∈(bs l).data.toList:=by rw [Array.mem_toList_iff];exact Array.getElem_mem _
  exact h2
 unfold letterB
 split
 ·unfold restB
  split
  ·exact .inl rfl
  ·split
   ·exact .inr ⟨_,List.mem_append_right _ (hm _ _ _),rfl⟩
   ·exact .inl rfl
 ·unfold fixedB
  split
  ·exact .inr ⟨_,List.mem_append_left _ (hm _ _ _),rfl⟩
  ·rename_i h1 h2
   exact absurd (dif_neg h2) h1
theorem ids_forms:([28,30,33].all fun op=>match formOf op with | some f=>(f.fixed++f.rest).all (fun c=>decide (kindT (c.toNat:Int)=1)) | none=>false)=true:=by decide +kernel
theorem InstW.all_ids {i:InstI} {bound:Int} {f:FormI} (h:InstW i bound f) (ho:i.1∈[(28:Int),30,33]):∀ a∈i.2.2.2,a.1=1:=by
 intro a ha;obtain ⟨k,hk,rfl⟩:=List.getElem_of_mem ha;have h1:=argE_ok (h.args k hk);rw [ag_of hk] at h1;have h2:=ids_forms;rw [List.all_eq_true] at h2;have h3:=h2 _ ho;rw [h.form] at h3;dsimp only at h3;rw [List.all_eq_true] at h3
 rcases letter_in h.form k with h4 | ⟨c,hc,h4⟩
 ·exact absurd h4 h1.1
 ·have h5:=h3 c hc;rw [decide_eq_true_eq] at h5;rw [h1.2.1,h4,h5]
theorem two_kinds:kindT (letterOf 21 0)=2∧kindT (letterOf 21 1)=2∧kindT (letterOf 23 0)=1∧kindT (letterOf 23 1)=2∧kindT (letterOf 32 0)=4∧kindT (letterOf 32 1)=1∧kindT (letterOf 43 0)=2:=by decide +kernel
theorem InstW.kind_at {i:InstI} {bound:Int} {f:FormI} (h:InstW i bound f) {k:Nat} (hk:k<i.2.2.2.length):(ag i.2.2.2 k).1=kindT (letterOf i.1 k):=(argE_ok (h.args k hk)).2.1
theorem nums_ids {tq:Int→Int} {l:List ArgI} (h:∀ a∈l,a.1=1):nums (l.map (renA tq))=(nums l).map tq:=by
 unfold nums;rw [List.map_map,List.map_map];exact List.map_congr_left fun a ha=>renA_id (h a ha)
theorem nums_at {tq:Int→Int} {l:List ArgI} {k:Nat} (hk:k<l.length):ixn (nums (l.map (renA tq))) k=if (ag l k).1=1 then tq (ixn (nums l) k) else ixn (nums l) k:=by
 rw [nums_getD (by rw [List.length_map];exact hk),nums_getD hk,ag_ren hk]
 unfold renA
 split <;> rfl
theorem nums_lenR (l:List ArgI):(nums l).length=l.length:=List.length_map ..
def renT (tq:Int→Int) (x:TyI):TyI:={ x with part:=tq x.part,parts:=x.parts.map tq }
theorem renT_zero {tq:Int→Int} (hz:tq 0=0):renT tq ty0=ty0:=by unfold renT ty0;rw [hz];rfl
theorem wholeT_ren {tq:Int→Int} (hz:tq 0=0) (x:TyI) (s d:Int):wholeT (renT tq x) s d=(renT tq (wholeT x s d).1,(wholeT x s d).2):=by
 unfold wholeT
 split
 ·rw [renT_zero hz]
 ·split
  ·rw [renT_zero hz]
  ·rfl
section
variable {tq:Int→Int} {U:Int→Prop} {b:Int} {T T':Int→TyI}
theorem vectorT_ren (hz:tq 0=0) (hT:∀ x,U x→T' (tq x)=renT tq (T x)) {p:Int} (hp:U p) (n:Int):vectorT T' (tq p) n=(renT tq (vectorT T p n).1,(vectorT T p n).2):=by
 unfold vectorT;rw [hT p hp]
 show (if (T p).kind≠2∧(T p).kind≠3 then (ty0,100) else if n<2∨4<n then (ty0,102) else wholeT { ty0 with kind:=4,part:=tq p,times:=n } n (T p).depth)=_
 split
 ·rw [renT_zero hz]
 ·split
  ·rw [renT_zero hz]
  ·exact wholeT_ren hz { ty0 with kind:=4,part:=p,times:=n } n (T p).depth
theorem memR_ren (hT:∀ x,U x→T' (tq x)=renT tq (T x)):∀ {l:List Int} {s d:Int},(∀ p∈l,U p)→memR T' (l.map tq) s d=memR T l s d
 | [],_,_,_=>rfl
 | p :: r,s,d,h=>by
  rw [List.map_cons];unfold memR;rw [hT p (h p List.mem_cons_self),memR_ren hT (fun q hq=>h q (List.mem_cons_of_mem _ hq))]
  rfl
theorem funR_ren (hT:∀ x,U x→T' (tq x)=renT tq (T x)):∀ {l:List Int} {k:Nat},(∀ p∈l,U p)→funR T' (l.map tq) k=funR T l k
 | [],_,_=>rfl
 | p :: r,k,h=>by
  rw [List.map_cons];unfold funR;rw [hT p (h p List.mem_cons_self),funR_ren hT (fun q hq=>h q (List.mem_cons_of_mem _ hq))]
  rfl
theorem membersT_ren (hz:tq 0=0) (hT:∀ x,U x→T' (tq x)=renT tq (T x)) {l:List Int} (h:∀ p∈l,U p):membersT T' (l.map tq)=(renT tq (membersT T l).1,(membersT T l).2):=by
 unfold membersT;rw [List.length_map,memR_ren hT h]
 split
 ·rw [renT_zero hz]
 ·cases memR T l 0 0 with
  | none=>dsimp only;rw [renT_zero hz]
  | some q =>
   obtain ⟨s,d⟩:=q;dsimp only;have:=wholeT_ren hz { ty0 with kind:=6,parts:=l } s d
   rw [← this];unfold renT;dsimp only;rw [show tq ty0.part=ty0.part from hz]
theorem functionT_ren (hz:tq 0=0) (hT:∀ x,U x→T' (tq x)=renT tq (T x)) {l:List Int} (h:∀ p∈l,U p):functionT T' (l.map tq)=(renT tq (functionT T l).1,(functionT T l).2):=by
 unfold functionT;rw [funR_ren hT h]
 split
 ·unfold renT;dsimp only;rw [show tq ty0.part=ty0.part from hz]
 ·rw [renT_zero hz]
theorem arrayT_ren {M M':Int→InstI} (hz:tq 0=0) (hT:∀ x,U x→T' (tq x)=renT tq (T x)) (hM:∀ x,U x→M' (tq x)=renI tq (M x)) (hU:∀ x,U x→U (M x).2.1)
  (hN:∀ x,(M x).1=43→0<(M x).2.2.2.length∧(ag (M x).2.2.2 0).1=2) {p n:Int} (hp:U p) (hn:U n):arrayT T' M' (tq p) (tq n)=(renT tq (arrayT T M p n).1,(arrayT T M p n).2):=by
 unfold arrayT arrayC;rw [hT p hp,hM n hn]
 show (if (T p).size=0 then (ty0,100) else if (M n).1≠43∨(T' (tq (M n).2.1)).kind≠3∨firstN (renI tq (M n))<1∨4096<firstN (renI tq (M n)) then (ty0,102)
  else wholeT { ty0 with kind:=5,part:=tq p,times:=firstN (renI tq (M n)) } (firstN (renI tq (M n))*(T p).size) (T p).depth)=_
 rw [hT _ (hU n hn)]
 show (if (T p).size=0 then (ty0,100) else if (M n).1≠43∨(T (M n).2.1).kind≠3∨firstN (renI tq (M n))<1∨4096<firstN (renI tq (M n)) then (ty0,102)
  else wholeT { ty0 with kind:=5,part:=tq p,times:=firstN (renI tq (M n)) } (firstN (renI tq (M n))*(T p).size) (T p).depth)=_
 split
 ·rw [renT_zero hz]
 ·by_cases h43:(M n).1=43
  ·obtain ⟨h1,h2⟩:=hN n h43;have e:firstN (renI tq (M n))=firstN (M n):=by
    unfold firstN
    show (ag ((M n).2.2.2.map (renA tq)) 0).2.1=_
    rw [ag_ren h1,renA_other (by omega)]
   rw [e]
   split
   ·rw [renT_zero hz]
   ·exact wholeT_ren hz { ty0 with kind:=5,part:=p,times:=firstN (M n) } (firstN (M n)*(T p).size) (T p).depth
  ·rw [if_pos (.inl h43),if_pos (.inl h43),renT_zero hz]
end
theorem args_two_of {i:InstI} {bound:Int} {f:FormI} (h:InstW i bound f) (ho:i.1=28):2≤i.2.2.2.length:=by
 have h1:=h.len;have h2:=two_args;rw [List.all_eq_true] at h2;have h3:=h2 28 (by decide)
 rw [← ho,h.form] at h3;simp only [decide_eq_true_eq] at h3;omega
theorem oneT_ren {tq:Int→Int} {U:Int→Prop} {b bound:Int} {T T':Int→TyI} {M M':Int→InstI} (h:RenOk tq U b) (hT:∀ x,U x→T' (tq x)=renT tq (T x)) (hM:∀ x,U x→M' (tq x)=renI tq (M x)) (hU:∀ x,U x→U (M x).2.1)
  (hN:∀ x,(M x).1=43→0<(M x).2.2.2.length∧(ag (M x).2.2.2 0).1=2) {i:InstI} {f:FormI} (hi:InstW i bound f) (hu:Used U i):oneT T' M' (renI tq i)=(renT tq (oneT T M i).1,(oneT T M i).2.1,(oneT T M i).2.2):=by
 have hz:=h.zero;obtain ⟨k1,k2,k3,k4,k5,k6,-⟩:=two_kinds;have hids:(∀ a∈i.2.2.2,a.1=1)→∀ p∈nums i.2.2.2,U p:=fun ha p hp=>by
  unfold nums at hp;obtain ⟨a,hal,rfl⟩:=List.mem_map.1 hp;exact hu.args a hal (ha a hal)
 have hpU:∀ k,k<i.2.2.2.length→(ag i.2.2.2 k).1=1→U (ixn (nums i.2.2.2) k):=fun k hk h1=>by
  rw [nums_getD hk];exact hu.args _ (ag_mem hk) h1
 have eo:(renI tq i).1=i.1:=rfl;unfold oneT;dsimp only;rw [eo]
 by_cases h1:i.1=19
 ·rw [if_pos h1,if_pos h1];unfold renT;dsimp only;rw [show tq ty0.part=ty0.part from hz]
  rfl
 rw [if_neg h1,if_neg h1]
 by_cases h1:i.1=20
 ·rw [if_pos h1,if_pos h1];unfold renT;dsimp only;rw [show tq ty0.part=ty0.part from hz]
  rfl
 rw [if_neg h1,if_neg h1]
 by_cases h1:i.1=21
 ·rw [if_pos h1,if_pos h1];have hl:=key_len (n:=2) hi (by rw [h1];decide)
  rw [nums_lenR] at hl;have e0:ixn (nums (renI tq i).2.2.2) 0=ixn (nums i.2.2.2) 0:=by
   show ixn (nums (i.2.2.2.map (renA tq))) 0=_
   rw [nums_at (by omega),if_neg (by rw [hi.kind_at (by omega),h1,k1];decide)]
  have e1:ixn (nums (renI tq i).2.2.2) 1=ixn (nums i.2.2.2) 1:=by
   show ixn (nums (i.2.2.2.map (renA tq))) 1=_
   rw [nums_at (by omega),if_neg (by rw [hi.kind_at (by omega),h1,k2];decide)]
  rw [e0,e1];unfold renT;dsimp only;rw [show tq ty0.part=ty0.part from hz]
  rfl
 rw [if_neg h1,if_neg h1]
 by_cases h1:i.1=23
 ·rw [if_pos h1,if_pos h1];have hl:=key_len (n:=2) hi (by rw [h1];decide)
  rw [nums_lenR] at hl;have hk0:(ag i.2.2.2 0).1=1:=by rw [hi.kind_at (by omega),h1,k3]
  have e0:ixn (nums (renI tq i).2.2.2) 0=tq (ixn (nums i.2.2.2) 0):=by
   show ixn (nums (i.2.2.2.map (renA tq))) 0=_
   rw [nums_at (by omega),if_pos hk0]
  have e1:ixn (nums (renI tq i).2.2.2) 1=ixn (nums i.2.2.2) 1:=by
   show ixn (nums (i.2.2.2.map (renA tq))) 1=_
   rw [nums_at (by omega),if_neg (by rw [hi.kind_at (by omega),h1,k4];decide)]
  rw [e0,e1,vectorT_ren hz hT (hpU 0 (by omega) hk0)]
 rw [if_neg h1,if_neg h1]
 by_cases h1:i.1=28
 ·rw [if_pos h1,if_pos h1];have ha:=hi.all_ids (by rw [h1];decide)
  have hl:=args_two_of hi h1;have hk0:(ag i.2.2.2 0).1=1:=ha _ (ag_mem (by omega))
  have hk1:(ag i.2.2.2 1).1=1:=ha _ (ag_mem (by omega))
  have e0:ixn (nums (renI tq i).2.2.2) 0=tq (ixn (nums i.2.2.2) 0):=by
   show ixn (nums (i.2.2.2.map (renA tq))) 0=_
   rw [nums_at (by omega),if_pos hk0]
  have e1:ixn (nums (renI tq i).2.2.2) 1=tq (ixn (nums i.2.2.2) 1):=by
   show ixn (nums (i.2.2.2.map (renA tq))) 1=_
   rw [nums_at (by omega),if_pos hk1]
  rw [e0,e1,arrayT_ren hz hT hM hU hN (hpU 0 (by omega) hk0) (hpU 1 (by omega) hk1)]
 rw [if_neg h1,if_neg h1]
 by_cases h1:i.1=30
 ·rw [if_pos h1,if_pos h1];have ha:=hi.all_ids (by rw [h1];decide)
  have e0:nums (renI tq i).2.2.2=(nums i.2.2.2).map tq:=nums_ids ha;rw [e0,membersT_ren hz hT (hids ha)]
 rw [if_neg h1,if_neg h1]
 by_cases h1:i.1=32
 ·rw [if_pos h1,if_pos h1];have hl:=key_len (n:=2) hi (by rw [h1];decide)
  have hl2:=hl;rw [nums_lenR] at hl2;have hk1:(ag i.2.2.2 1).1=1:=by rw [hi.kind_at (by omega),h1,k6]
  have e0:ixn (nums (renI tq i).2.2.2) 0=ixn (nums i.2.2.2) 0:=by
   show ixn (nums (i.2.2.2.map (renA tq))) 0=_
   rw [nums_at (by omega),if_neg (by rw [hi.kind_at (by omega),h1,k5];decide)]
  have e1:ixn (nums (renI tq i).2.2.2) 1=tq (ixn (nums i.2.2.2) 1):=by
   show ixn (nums (i.2.2.2.map (renA tq))) 1=_
   rw [nums_at (by omega),if_pos hk1]
  have hl':(nums (renI tq i).2.2.2).length=2:=by
   rw [nums_lenR]
   show (i.2.2.2.map (renA tq)).length=2
   rw [List.length_map];exact hl2
  rw [nums_two hl',nums_two hl,e0,e1,hT _ (hpU 1 (by omega) hk1)]
  unfold renT;dsimp only;rw [show tq ty0.part=ty0.part from hz]
  rfl
 rw [if_neg h1,if_neg h1]
 by_cases h1:i.1=33
 ·rw [if_pos h1,if_pos h1];have ha:=hi.all_ids (by rw [h1];decide)
  have e0:nums (renI tq i).2.2.2=(nums i.2.2.2).map tq:=nums_ids ha;rw [e0,functionT_ren hz hT (hids ha)]
 rw [if_neg h1,if_neg h1,renT_zero hz]
end
end Go.Proofs.YtdebjkiilnhgpaaGreatDoor
