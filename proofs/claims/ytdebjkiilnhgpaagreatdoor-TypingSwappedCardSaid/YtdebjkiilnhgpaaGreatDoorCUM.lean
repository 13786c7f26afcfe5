/- Plain: what is wrong with an instruction, told from its first fault on; how many words it takes. -/
import Derived.Test.YtdebjkiilnhgpaaGreatDoorCUN
import Derived.Test.YtdebjkiilnhgpaaGreatDoorCTI
set_option maxHeartbeats 8000000
namespace Go.Proofs.YtdebjkiilnhgpaaGreatDoor
section
section
variable {op bound:Int} {l:List ArgI} {st:RSt}
end
section
variable {i:InstI} {bound:Int} {f:FormI}
theorem form_in {op:Int} {f:FormI} (hf:formOf op=some f):∃ x∈firstT++secondT++thirdT,f=formT x.2:=by
 unfold formOf at hf
 split at hf
 ·cases hf
 ·rename_i h0
  cases hf
  have hp:∀ l:List (Int × ByteArray),(pickT l op).size≠0→∃ x∈l,pickT l op=x.2:=by
   intro l
   induction l with
   | nil=>intro h;exact absurd rfl h
   | cons x l ih =>
    obtain ⟨k,s⟩:=x;unfold pickT
    split
    ·exact fun _=>⟨_,List.mem_cons_self ..,rfl⟩
    ·intro h;obtain ⟨x,hx,e⟩:=ih h;exact ⟨x,List.mem_cons_of_mem _ hx,e⟩
  unfold rowT at h0 ⊢
  split
  ·rename_i h1
   rw [if_pos h1] at h0;obtain ⟨x,hx,e⟩:=hp _ h0;exact ⟨x,by simp [hx],by rw [e]⟩
  ·rename_i h1
   rw [if_neg h1] at h0
   split
   ·rename_i h2
    rw [if_pos h2] at h0;obtain ⟨x,hx,e⟩:=hp _ h0;exact ⟨x,by simp [hx],by rw [e]⟩
   ·rename_i h2
    rw [if_neg h2] at h0;obtain ⟨x,hx,e⟩:=hp _ h0;exact ⟨x,by simp [hx],by rw [e]⟩
end
end
section
def mayO (op ah:Int) (f:Bool):Bool :=
 if op=54 then decide (ah=0∨ah=56) else if op=55 then decide (ah=54∨ah=55) else if op=248 then decide (ah=54∨ah=55∨(249≤ah∧ah≤255))
 else if op=56 then decide (249≤ah∧ah≤255) else if ah=0∨ah=54∨ah=55∨ah=56∨(249≤ah∧ah≤255) then false
 else if op=245 then decide (ah=248∨ah=245)&&!f else if op=59 then decide (ah=248∨ah=59)&&f
 else if ah=246 then decide (op=249∨op=250) else if ah=247 then decide (op=250∨op=251) else true
def ahd (l:List InstI) (k:Nat):Int:=if 0<k∧partAt l (k-1)=8 then opAt l (k-1) else 0
def firstD (l:List InstI):Nat→Bool
 | 0=>false
 | k+1=>if opAt l (k+1)=248 then decide (opAt l k=54∨opAt l k=55) else firstD l k
def noMod (l:List InstI) (k:Nat):Bool:=(List.range k).all fun j=>decide (partAt l j≠1)
def mayD (l:List InstI) (k:Nat):Bool :=
 if (List.range k).any (fun j=>decide (partAt l k<partAt l j)) then false
 else if partAt l k=1 then noMod l k
 else if 1<partAt l k∧noMod l k=true then false
 else if partAt l k<8 then true else mayO (opAt l k) (ahd l k) (firstD l (k-1))
theorem noMod_iff {l:List InstI} {k:Nat}:noMod l k=true ↔ ∀ j,j<k→partAt l j≠1:=by
 unfold noMod;rw [List.all_eq_true];exact ⟨fun h j hj=>by simpa using h j (List.mem_range.2 hj),fun h j hj=>by simpa using h j (List.mem_range.1 hj)⟩
theorem noMod_not {l:List InstI} {k j:Nat} (hj:j<k) (h:partAt l j=1):noMod l k=false:=by
 rw [Bool.eq_false_iff];exact fun e=>noMod_iff.1 e j hj h
theorem above_iff {l:List InstI} {k:Nat} {p:Int}:(List.range k).any (fun j=>decide (p<partAt l j))=true ↔ ∃ j,j<k∧p<partAt l j:=by
 rw [List.any_eq_true];exact ⟨fun ⟨j,h1,h2⟩=>⟨j,List.mem_range.1 h1,by simpa using h2⟩,fun ⟨j,h1,h2⟩=>⟨j,List.mem_range.2 h1,by simpa using h2⟩⟩
theorem forms_part:((firstT++secondT++thirdT).all fun x=>decide (0≤(formT x.2).part)&&decide ((formT x.2).part≤8))=true:=by decide +kernel
theorem partOf_bd (op:Int):0≤partOf op∧partOf op≤8:=by
 unfold partOf;cases hf:formOf op with
 | none=>exact ⟨Int.le_refl _,by decide⟩
 | some f =>
  obtain ⟨x,hx,rfl⟩:=form_in hf;have h:=forms_part;rw [List.all_eq_true] at h;simpa using h x hx
theorem partAt_bd (l:List InstI) (k:Nat):0≤partAt l k∧partAt l k≤8:=by
 unfold partAt;cases l[k]? with
 | none=>exact ⟨Int.le_refl _,by decide⟩
 | some i =>
  show 0≤partI i∧partI i≤8
  unfold partI
  split
  ·decide
  ·exact partOf_bd _
theorem nx_part {l:List InstI} {k:Nat} (hk:k<l.length):(partAt l k≠8∧nx l k=9)∨(partAt l k=8∧nx l k=kindO (opAt l k)):=by
 have h:=List.getElem?_eq_getElem hk;rw [nx_at h,partAt_at h,opAt_at h];unfold kindI
 by_cases h8:partI l[k]=8
 ·exact .inr ⟨h8,if_pos h8⟩
 ·exact .inl ⟨h8,if_neg h8⟩
theorem kindO_inv (op:Int):(kindO op=1→op=54)∧(kindO op=2→op=55)∧(kindO op=8→op=56)∧(kindO op=3→op=248)∧(kindO op=4→op=245)∧(kindO op=5→op=59) ∧
  (kindO op=6→op=246∨op=247)∧(kindO op=7→249≤op∧op≤255)∧(kindO op=0→op≠54∧op≠55∧op≠56∧op≠248∧op≠245∧op≠59∧op≠246∧op≠247∧¬ (249≤op∧op≤255)):=by
 unfold kindO endsB
 by_cases h1:op=54
 ·simp [h1]
 by_cases h2:op=55
 ·simp [h2]
 by_cases h3:op=56
 ·simp [h3]
 by_cases h4:op=248
 ·simp [h4]
 by_cases h5:op=245
 ·simp [h5]
 by_cases h6:op=59
 ·simp [h6]
 by_cases h7:op=246
 ·simp [h7]
 by_cases h8:op=247
 ·simp [h8]
 by_cases h9:249≤op∧op≤255
 ·simp [h1,h2,h3,h4,h5,h6,h7,h8,h9.1,h9.2]
 ·have h10:(decide (249≤op)&&decide (op≤255))=false:=by rw [Bool.eq_false_iff];intro e;simp at e;exact h9 e
  simp [h1,h2,h3,h4,h5,h6,h7,h8,h10]
  omega
section
variable {l:List InstI} {k:Nat}
theorem nx_inv {kd:Int} (hkd:0≤kd) (h9:kd≠9) (h:nx l k=kd):k<l.length∧partAt l k=8∧kindO (opAt l k)=kd:=by
 have hk:=nx_lt (l:=l) (k:=k) (by omega)
 rcases nx_part hk with ⟨h1,h2⟩ | ⟨h1,h2⟩
 ·omega
 ·exact ⟨hk,h1,h2.symm.trans h⟩
theorem mayD_fun (hm:noMod l k=false) (hp:partAt l k=8):mayD l k=mayO (opAt l k) (ahd l k) (firstD l (k-1)):=by
 have ha:¬ ((List.range k).any (fun j=>decide (partAt l k<partAt l j))=true):=fun e=>by
  obtain ⟨j,-,h⟩:=above_iff.1 e;have:=(partAt_bd l j).2;omega
 unfold mayD;rw [if_neg ha,if_neg (by omega),if_neg (by rw [hm];simp),if_neg (by omega)]
theorem mayD_low {j:Nat} (hj:j<k) (h:partAt l k<partAt l j):mayD l k=false:=by
 unfold mayD;rw [if_pos (above_iff.2 ⟨j,hj,h⟩)]
theorem mayD_two {j:Nat} (hj:j<k) (h:partAt l j=1) (hp:partAt l k=1):mayD l k=false:=by
 unfold mayD
 split
 ·rfl
 ·exact noMod_not hj h
theorem mayD_none (hm:noMod l k=true) (hp:partAt l k≠0) (hp1:partAt l k≠1):mayD l k=false:=by
 unfold mayD
 split
 ·rfl
 ·rw [if_pos ⟨by have:=(partAt_bd l k).1;omega,hm⟩]
theorem mayD_top {p:Int} (hp:partAt l k=p) (hp8:p<8) (hle:∀ j,j<k→partAt l j≤p) (h1:p=1→noMod l k=true) (h2:1<p→noMod l k=false):mayD l k=true:=by
 have ha:¬ ((List.range k).any (fun j=>decide (partAt l k<partAt l j))=true):=fun e=>by
  obtain ⟨j,hj,h⟩:=above_iff.1 e;have:=hle j hj;omega
 unfold mayD;rw [if_neg ha]
 by_cases hq:p=1
 ·rw [if_pos (by omega),h1 hq]
 ·rw [if_neg (by omega),if_neg (fun h=>by have:=h2 (by omega);rw [h.2] at this;cases this),if_pos (by omega)]
theorem ahd_of (h0:0<k) (hp:partAt l (k-1)=8):ahd l k=opAt l (k-1):=if_pos ⟨h0,hp⟩
theorem mayD_back (h0:0<k) (hp:partAt l (k-1)=8) (h:partAt l k≠8):mayD l k=false :=
 mayD_low (j:=k-1) (by omega) (by have:=(partAt_bd l k).2;omega)
end
theorem noMod_mono {l:List InstI} {j k:Nat} (hjk:j≤k) (h:noMod l j=false):noMod l k=false:=by
 rw [Bool.eq_false_iff] at h ⊢;exact fun e=>h (noMod_iff.2 fun i hi=>noMod_iff.1 e i (by omega))
theorem topTo_law (l:List InstI) (p:Int) (hp:p≠8):∀ q k,k+q=l.length→(∀ j,k≤j→j<topTo l p q k→partAt l j=p) ∧
  (p=1→topTo l p q k≤k+1∧(topTo l p q k=k→k<l.length→partAt l k≠p))∧(p≠1→topTo l p q k<l.length→partAt l (topTo l p q k)≠p)
 | 0,k,h=>⟨fun j h1 h2=>by unfold topTo at h2;omega,fun _=>⟨Nat.le_succ _,fun _ hk=>by omega⟩,fun _ hk=>by unfold topTo at hk;omega⟩
 | q+1,k,h=>by
  have hk:k<l.length:=by omega
  unfold topTo
  by_cases hc:nx l k=9∧partAt l k=p
  ·rw [if_pos hc]
   by_cases h1:p=1
   ·rw [if_pos h1];refine ⟨fun j h2 h3=>?_,fun _=>⟨Nat.le_refl _,fun e=>by omega⟩,fun hn=>absurd h1 hn⟩
    obtain rfl:j=k:=by omega
    exact hc.2
   ·rw [if_neg h1];obtain ⟨a1,-,a3⟩:=topTo_law l p hp q (k+1) (by omega)
    refine ⟨fun j h2 h3=>?_,fun hh=>absurd hh h1,a3⟩
    by_cases hj:j=k
    ·rw [hj];exact hc.2
    ·exact a1 j (by omega) h3
  ·rw [if_neg hc];have hne:partAt l k≠p:=fun e=>by
    rcases nx_part hk with ⟨h1,h2⟩ | ⟨h1,h2⟩
    ·exact hc ⟨h2,e⟩
    ·omega
   exact ⟨fun j h1 h2=>by omega,fun _=>⟨Nat.le_succ _,fun _ _=>hne⟩,fun _ _=>hne⟩
structure TopI (l:List InstI) (p k:Nat):Prop where
 le:k≤l.length
 may:∀ j,j<k→mayD l j=true
 low:∀ j,j<k→partAt l j<p
 mod:2≤p→noMod l k=false
 next:k<l.length→partAt l k<p→mayD l k=false
theorem TopI.step {l:List InstI} {p k:Nat} (h:TopI l p k) (hp:p<8) (hn:¬ (p=1∧topEnd l p k=k)):TopI l (p+1) (topEnd l p k):=by
 have hbd:=topEnd_bd (l:=l) (p:=p) h.le;obtain ⟨a1,a2,a3⟩:=topTo_law l (p:Int) (by omega) (l.length-k) k (by have:=h.le;omega)
 have ek:topTo l (p:Int) (l.length-k) k=topEnd l p k:=rfl;rw [ek] at a1 a2 a3;generalize topEnd l p k=k1 at *;have hlow:∀ j,j<k1→partAt l j<((p+1:Nat):Int):=fun j hj=>by
  by_cases hjk:j<k
  ·have:=h.low j hjk;omega
  ·have:=a1 j (by omega) hj;omega
 refine ⟨hbd.2,fun j hj=>?_,hlow,fun h2=>?_,fun hk1 hq=>?_⟩
 ·by_cases hjk:j<k
  ·exact h.may j hjk
  ·have hpj:=a1 j (by omega) hj
   refine mayD_top hpj (by omega) (fun i hi=>by have:=hlow i (by omega);omega) (fun h1=>?_) (fun h1=>noMod_mono (j:=k) (by omega) (h.mod (by omega)))
   have:=(a2 h1).1;obtain rfl:j=k:=by omega
   exact noMod_iff.2 fun i hi=>by have:=h.low i hi;omega
 ·by_cases h1:p=1
  ·have hk1:k<k1:=by have:=hbd.1;have:k1≠k:=fun e=>hn ⟨h1,e⟩;omega
   exact noMod_not hk1 (by rw [a1 k (Nat.le_refl _) hk1];omega)
  ·exact noMod_mono hbd.1 (h.mod (by omega))
 ·by_cases e:k1=k
  ·subst e;refine h.next hk1 ?_;have hne:partAt l k1≠(p:Int):=by
    by_cases h1:(p:Int)=1
    ·exact (a2 h1).2 rfl hk1
    ·exact a3 h1 hk1
   omega
  ·have hpk:partAt l (k1-1)=(p:Int):=a1 (k1-1) (by omega) (by omega)
   by_cases hq2:partAt l k1<(p:Int)
   ·exact mayD_low (j:=k1-1) (by omega) (by omega)
   ·have hqe:partAt l k1=(p:Int):=by omega
    by_cases h1:(p:Int)=1
    ·exact mayD_two (j:=k1-1) (by omega) (by omega) (by omega)
    ·exact absurd hqe (a3 h1 hk1)
theorem topR_law (l:List InstI):∀ (r p k:Nat) (f:Nat→Int),r+p=8→TopI l p k →
  ((topR l r p k f).1=true→TopI l 8 (topR l r p k f).2.1) ∧
  ((topR l r p k f).1=false→(∀ j,j<(topR l r p k f).2.1→mayD l j=true)∧((topR l r p k f).2.1<l.length→mayD l (topR l r p k f).2.1=false)∧noMod l (topR l r p k f).2.1=true)
 | 0,p,k,f,h,hI=>by
  obtain rfl:p=8:=by omega
  exact ⟨fun _=>hI,fun e=>by cases e⟩
 | r+1,p,k,f,h,hI=>by
  unfold topR
  by_cases hc:p=1∧topEnd l p k=k
  ·rw [if_pos hc];refine ⟨fun e=>(by cases e),fun _=>?_⟩
   dsimp only;obtain ⟨rfl,he⟩:=hc;rw [he];have hno:noMod l k=true:=noMod_iff.2 fun j hj=>by have:=hI.low j hj;omega
   refine ⟨hI.may,fun hk=>?_,hno⟩
   obtain ⟨-,a2,-⟩:=topTo_law l 1 (by decide) (l.length-k) k (by omega)
   have hne:=(a2 rfl).2 he hk
   by_cases h0:partAt l k=0
   ·exact hI.next hk (by omega)
   ·exact mayD_none hno h0 hne
  ·rw [if_neg hc];exact topR_law l r (p+1) _ _ (by omega) (hI.step (by omega) hc)
theorem rowTo_law (l:List InstI) (kd:Int) (h9:kd≠-1):∀ q k,k+q=l.length→(∀ j,k≤j→j<rowTo l kd q k→nx l j=kd)∧nx l (rowTo l kd q k)≠kd
 | 0,k,h=>⟨fun j h1 h2=>by unfold rowTo at h2;omega,by unfold rowTo;rw [nx_end (by omega)];omega⟩
 | q+1,k,h=>by
  unfold rowTo
  by_cases hc:nx l k=kd
  ·rw [if_pos hc];obtain ⟨a1,a2⟩:=rowTo_law l kd h9 q (k+1) (by omega)
   refine ⟨fun j h1 h2=>?_,a2⟩
   by_cases hj:j=k
   ·rw [hj];exact hc
   ·exact a1 j (by omega) h2
  ·rw [if_neg hc];exact ⟨fun j h1 h2=>by omega,hc⟩
theorem rowEnd_law {l:List InstI} {kd:Int} {k:Nat} (h9:kd≠-1) (hk:k≤l.length):k≤rowEnd l kd k∧rowEnd l kd k≤l.length∧(∀ j,k≤j→j<rowEnd l kd k→nx l j=kd)∧nx l (rowEnd l kd k)≠kd:=by
 obtain ⟨b1,b2⟩:=rowEnd_bd (l:=l) (kd:=kd) hk;obtain ⟨a1,a2⟩:=rowTo_law l kd h9 (l.length-k) k (by omega)
 exact ⟨b1,b2,a1,a2⟩
structure Well (l:List InstI) (k:Nat):Prop where
 le:k≤l.length
 may:∀ j,j<k→mayD l j=true
 mod:noMod l k=false
structure Beh (l:List InstI) (k:Nat) (ah:Int):Prop where
 pos:0<k
 part:partAt l (k-1)=8
 op:opAt l (k-1)=ah
structure CutEnd (l:List InstI) (ok:Bool) (c:Nat):Prop where
 le:c≤l.length
 may:∀ j,j<c→mayD l j=true
 mid:c<l.length→ok=false∧mayD l c=false
 last:c=l.length→(ok=true ↔ (0<c∧partAt l (c-1)=8→opAt l (c-1)=56))
 mod:noMod l c=false
section
variable {l:List InstI} {k:Nat}
theorem Well.next (h:Well l k) (hk:k<l.length) (hm:mayD l k=true):Well l (k+1) :=
 ⟨hk,fun j hj=>by
  by_cases e:j=k
  ·rw [e];exact hm
  ·exact h.may j (by omega),noMod_mono (Nat.le_succ k) h.mod⟩
theorem Well.mono {k':Nat} (h:Well l k) (hk:k≤k') (hl:k'≤l.length) (hm:∀ j,k≤j→j<k'→mayD l j=true):Well l k' :=
 ⟨hl,fun j hj=>by
  by_cases e:j<k
  ·exact h.may j e
  ·exact hm j (by omega) hj,noMod_mono hk h.mod⟩
theorem Beh.ahd {ah:Int} (h:Beh l k ah):ahd l k=ah:=(ahd_of h.pos h.part).trans h.op
theorem Well.fun_ (h:Well l k) {ah:Int} (hb:Beh l k ah) (hp:partAt l k=8):mayD l k=mayO (opAt l k) ah (firstD l (k-1)):=by rw [mayD_fun h.mod hp,hb.ahd]
theorem Well.stop (h:Well l k) {ah:Int} (hb:Beh l k ah) (ha:ah≠56) (hm:k<l.length→partAt l k=8→mayO (opAt l k) ah (firstD l (k-1))=false):CutEnd l false k :=
 ⟨h.le,h.may,fun hk=>⟨rfl,by
  by_cases hp:partAt l k=8
  ·rw [h.fun_ hb hp];exact hm hk hp
  ·exact mayD_back hb.pos hb.part hp⟩,fun _=>⟨fun e=>(by cases e),fun e=>absurd ((hb.op.symm.trans (e ⟨hb.pos,hb.part⟩))) ha⟩,h.mod⟩
theorem Beh.of {j:Nat} (hj:nx l j=kindO (opAt l j)) (h9:kindO (opAt l j)≠9):Beh l (j+1) (opAt l j):=by
 have hw:=kindO_wf (opAt l j);obtain ⟨-,h8,-⟩:=nx_inv (l:=l) (k:=j) (kd:=kindO (opAt l j)) hw.1 h9 hj;exact ⟨Nat.succ_pos _,h8,rfl⟩
theorem Beh.nx {j:Nat} {kd:Int} (h0:0≤kd) (h9:kd≠9) (hj:nx l j=kd):Beh l (j+1) (opAt l j):=⟨Nat.succ_pos _,(nx_inv h0 h9 hj).2.1,rfl⟩
end
theorem firstD_label {l:List InstI} {k:Nat} (h0:0<k) (h:opAt l k=248):firstD l k=decide (opAt l (k-1)=54∨opAt l (k-1)=55):=by
 cases k with
 | zero=>omega
 | succ k=>unfold firstD;rw [if_pos h];rfl
theorem firstD_far {l:List InstI} {k:Nat}:∀ {j:Nat},k≤j→(∀ i,k<i→i≤j→opAt l i≠248)→firstD l j=firstD l k
 | 0,h,_=>by rw [Nat.le_zero.1 h]
 | j+1,h,hn=>by
  by_cases e:k=j+1
  ·rw [e]
  ·have h1:=firstD_far (l:=l) (k:=k) (j:=j) (by omega) (fun i h1 h2=>hn i h1 (by omega))
   rw [← h1]
   show (if opAt l (j+1)=248 then _ else _)=_
   rw [if_neg (hn (j+1) (by omega) (Nat.le_refl _))]
structure Mid (a:Int):Prop where
 h0:a≠0
 h54:a≠54
 h55:a≠55
 h56:a≠56
 he:¬ (249≤a∧a≤255)
 h246:a≠246
 h247:a≠247
theorem mayO_mid {op ah:Int} {f:Bool} (h:Mid ah) (h54:op≠54) (h55:op≠55) (h248:op≠248) (h56:op≠56) (h245:op≠245) (h59:op≠59):mayO op ah f=true:=by
 obtain ⟨a0,a1,a2,a3,a4,a5,a6⟩:=h;unfold mayO;rw [if_neg h54,if_neg h55,if_neg h248,if_neg h56,if_neg (by omega),if_neg h245,if_neg h59,if_neg a5,if_neg a6]
theorem form_zero:formOf 0=none:=by decide +kernel
theorem part8_ne0 {l:List InstI} {k:Nat} (h:partAt l k=8):opAt l k≠0:=by
 unfold partAt at h;unfold opAt;cases hl:l[k]? with
 | none=>rw [hl] at h;cases h
 | some i =>
  rw [hl] at h;dsimp only at h ⊢;intro e;have hv:variableB i=false:=by unfold variableB;rw [e];rfl
  unfold partI at h;rw [hv,e] at h;unfold partOf at h;rw [form_zero] at h;cases h
theorem blockR_law {l:List InstI} {first:Bool} {k:Nat} {ah:Int} (hW:Well l k) (hB:Beh l k ah) (hah:if first=true then ah=54∨ah=55 else 249≤ah∧ah≤255) (h3:nx l k=3) :
  ((blockR l first k).1=true→Well l (blockR l first k).2∧∃ ah',Beh l (blockR l first k).2 ah'∧249≤ah'∧ah'≤255)∧((blockR l first k).1=false→CutEnd l false (blockR l first k).2):=by
 obtain ⟨hk,hp8,hko⟩:=nx_inv (l:=l) (k:=k) (by decide) (by decide) h3
 have hop:opAt l k=248:=(kindO_inv _).2.2.2.1 hko;have hmk:mayD l k=true:=by
  rw [hW.fun_ hB hp8,hop];unfold mayO;cases first with
  | true=>rw [if_pos rfl] at hah;simp;omega
  | false=>simp at hah;simp;omega
 have hW1:=hW.next hk hmk;have hfk:firstD l k=first:=by
  rw [firstD_label hB.pos hop,hB.op];cases first with
  | true=>rw [if_pos rfl] at hah;simpa using hah
  | false=>simp at hah;simp;omega
 obtain ⟨kd,hkd⟩:∃ kd:Int,kd=if first=true then 5 else 4:=⟨_,rfl⟩
 obtain ⟨ho,hho⟩:∃ o:Int,o=if first=true then 59 else 245:=⟨_,rfl⟩
 obtain ⟨b1,b2,b3,b4⟩:=rowEnd_law (l:=l) (kd:=kd) (k:=k+1) (by rw [hkd];split <;> decide) hk
 have hrow:∀ j,k+1≤j→j<rowEnd l kd (k+1)→j<l.length∧partAt l j=8∧opAt l j=ho:=fun j h1 h2=>by
  obtain ⟨c1,c2,c3⟩:=nx_inv (l:=l) (k:=j) (kd:=kd) (by rw [hkd];split <;> decide) (by rw [hkd];split <;> decide) (b3 j h1 h2)
  refine ⟨c1,c2,?_⟩;have hi:=kindO_inv (opAt l j);rw [hho];cases first with
  | true=>exact hi.2.2.2.2.2.1 (by rw [c3,hkd];rfl)
  | false=>exact hi.2.2.2.2.1 (by rw [c3,hkd];rfl)
 have hlab:∀ j,k<j→j<rowEnd l kd (k+1)→opAt l j≠248:=fun j h1 h2=>by
  rw [(hrow j h1 h2).2.2,hho]
  split <;> decide
 have hW2:Well l (rowEnd l kd (k+1)):=hW1.mono b1 b2 fun j h1 h2=>by
  obtain ⟨c1,c2,c3⟩:=hrow j h1 h2;have hf:firstD l (j-1)=first:=by rw [firstD_far (l:=l) (k:=k) (j:=j-1) (by omega) (fun i i1 i2=>hlab i i1 (by omega)),hfk]
  have hah:ahd l j=248∨ahd l j=ho:=by
   by_cases e:j=k+1
   ·subst e;exact .inl ((ahd_of (Nat.succ_pos _) hp8).trans hop)
   ·obtain ⟨d1,d2,d3⟩:=hrow (j-1) (by omega) (by omega)
    exact .inr ((ahd_of (by omega) d2).trans d3)
  rw [mayD_fun (noMod_mono (by omega) hW.mod) c2,c3,hf]
  generalize ahd l j=a at *;rw [hho] at hah ⊢;cases first with
  | true =>
   rw [if_pos rfl] at hah ⊢
   rcases hah with rfl | rfl <;> rfl
  | false =>
   rw [if_neg (by decide)] at hah ⊢
   rcases hah with rfl | rfl <;> rfl
 have hB2:∃ a,Beh l (rowEnd l kd (k+1)) a∧(a=248∨a=ho):=by
  by_cases e:rowEnd l kd (k+1)=k+1
  ·rw [e];exact ⟨248,⟨Nat.succ_pos _,hp8,hop⟩,.inl rfl⟩
  ·obtain ⟨d1,d2,d3⟩:=hrow (rowEnd l kd (k+1)-1) (by omega) (by omega)
   exact ⟨ho,⟨by omega,d2,d3⟩,.inr rfl⟩
 obtain ⟨k2,hk2⟩:∃ k2,k2=rowEnd l kd (k+1):=⟨_,rfl⟩;rw [← hk2] at b1 b2 b4 hlab hW2 hB2;obtain ⟨a2,hB2,ha2⟩:=hB2;obtain ⟨c1,c2,c3,c4⟩:=rowEnd_law (l:=l) (kd:=0) (k:=k2) (by decide) b2
 have hpl:∀ j,k2≤j→j<rowEnd l 0 k2→partAt l j=8∧(opAt l j≠54∧opAt l j≠55∧opAt l j≠56∧opAt l j≠248∧opAt l j≠245∧opAt l j≠59∧opAt l j≠246∧opAt l j≠247∧¬ (249≤opAt l j∧opAt l j≤255))∧Mid (opAt l j):=fun j h1 h2=>by
  obtain ⟨d1,d2,d3⟩:=nx_inv (l:=l) (k:=j) (kd:=0) (by decide) (by decide) (c3 j h1 h2)
  have hi:=(kindO_inv (opAt l j)).2.2.2.2.2.2.2.2 d3;exact ⟨d2,hi,part8_ne0 d2,hi.1,hi.2.1,hi.2.2.1,hi.2.2.2.2.2.2.2.2,hi.2.2.2.2.2.2.1,hi.2.2.2.2.2.2.2.1⟩
 have hmid2:Mid a2:=by
  rcases ha2 with rfl | rfl
  ·exact ⟨by decide,by decide,by decide,by decide,by decide,by decide,by decide⟩
  ·rw [hho]
   split <;> exact ⟨by decide,by decide,by decide,by decide,by decide,by decide,by decide⟩
 obtain ⟨k3,hk3⟩:∃ k3,k3=rowEnd l 0 k2:=⟨_,rfl⟩;rw [← hk3] at c1 c2 c3 c4 hpl;have hB3:∃ a,Beh l k3 a∧Mid a∧(k3=k2→a=248∨a=ho)∧(k2<k3→a≠248∧a≠59∧a≠245):=by
  by_cases e:k3=k2
  ·rw [e];exact ⟨a2,hB2,hmid2,fun _=>ha2,fun h=>absurd h (Nat.lt_irrefl _)⟩
  ·obtain ⟨d1,d2,d3⟩:=hpl (k3-1) (by omega) (by omega)
   exact ⟨_,⟨by omega,d1,rfl⟩,d3,fun h=>absurd h e,fun _=>⟨d2.2.2.2.1,d2.2.2.2.2.2.1,d2.2.2.2.2.1⟩⟩
 have hW3:Well l k3:=hW2.mono c1 c2 fun j h1 h2=>by
  obtain ⟨d1,d2,d3⟩:=hpl j h1 h2;have hm:Mid (ahd l j):=by
   by_cases e:j=k2
   ·rw [e,hB2.ahd];exact hmid2
   ·obtain ⟨f1,f2,f3⟩:=hpl (j-1) (by omega) (by omega)
    rw [ahd_of (by omega) f1];exact f3
  rw [mayD_fun (noMod_mono h1 hW2.mod) d1];exact mayO_mid hm d2.1 d2.2.1 d2.2.2.2.1 d2.2.2.1 d2.2.2.2.2.1 d2.2.2.2.2.2.1
 have hf3:firstD l (k3-1)=first:=by
  rw [firstD_far (l:=l) (k:=k) (j:=k3-1) (by omega) (fun i i1 i2=>?_),hfk]
  by_cases e:i<k2
  ·exact hlab i i1 e
  ·exact (hpl i (by omega) (by omega)).2.1.2.2.2.1
 obtain ⟨a3,hB3,hm3,h3e,h3g⟩:=hB3;have hbr:blockR l first k=if nx l k3=6 then (if nx l (k3+1)=7∧mayB (opAt l k3) (opAt l (k3+1))=true then (true,k3+2) else (false,k3+1)) else if nx l k3=7 then (true,k3+1) else (false,k3):=by
  rw [hk3,hk2,hkd];rfl
 rw [hbr]
 by_cases h6:nx l k3=6
 ·rw [if_pos h6];obtain ⟨d1,d2,d3⟩:=nx_inv (l:=l) (k:=k3) (kd:=6) (by decide) (by decide) h6
  have hm:=(kindO_inv (opAt l k3)).2.2.2.2.2.2.1 d3;have hW4:Well l (k3+1):=hW3.next d1 (by rw [hW3.fun_ hB3 d2];exact mayO_mid hm3 (by omega) (by omega) (by omega) (by omega) (by omega) (by omega))
  have hB4:Beh l (k3+1) (opAt l k3):=⟨Nat.succ_pos _,d2,rfl⟩
  by_cases h7:nx l (k3+1)=7∧mayB (opAt l k3) (opAt l (k3+1))=true
  ·rw [if_pos h7];obtain ⟨e1,e2,e3⟩:=nx_inv (l:=l) (k:=k3+1) (kd:=7) (by decide) (by decide) h7.1
   have he:=(kindO_inv (opAt l (k3+1))).2.2.2.2.2.2.2.1 e3;have h7b:=h7.2;refine ⟨fun _=>⟨hW4.next e1 ?_,_,⟨Nat.succ_pos _,e2,rfl⟩,he⟩,fun e=>(by cases e)⟩
   rw [hW4.fun_ hB4 e2];generalize opAt l k3=m at *;generalize opAt l (k3+1)=x at *;unfold mayB at h7b;unfold mayO;rw [if_neg (by omega),if_neg (by omega),if_neg (by omega),if_neg (by omega),if_neg (by omega),if_neg (by omega),if_neg (by omega)]
   rcases hm with rfl | rfl
   ·rw [if_pos rfl,decide_eq_true_eq]
    split at h7b
    ·cases h7b
    ·split at h7b
     ·omega
     ·simp at h7b;omega
   ·rw [if_neg (by decide),if_pos rfl,decide_eq_true_eq]
    split at h7b
    ·omega
    ·split at h7b
     ·cases h7b
     ·simp at h7b;omega
  ·rw [if_neg h7];refine ⟨fun e=>(by cases e),fun _=>hW4.stop hB4 (by omega) (fun hk4 hp4=>?_)⟩
   have hn:¬ ((249≤opAt l (k3+1)∧opAt l (k3+1)≤255)∧mayB (opAt l k3) (opAt l (k3+1))=true):=fun hc=>h7 ⟨by
    rcases nx_part hk4 with ⟨f1,f2⟩ | ⟨f1,f2⟩
    ·exact absurd hp4 f1
    ·rw [f2];unfold kindO endsB;rw [if_neg (by omega),if_neg (by omega),if_neg (by omega),if_neg (by omega),if_neg (by omega),if_neg (by omega),if_neg (by omega),if_neg (by omega),if_pos (by simpa using hc.1)],hc.2⟩
   generalize opAt l k3=m at *;generalize opAt l (k3+1)=x at *;generalize firstD l (k3+1-1)=f at *;clear hbr h7;have hx:(m=246→¬ (x=249∨x=250))∧(m=247→¬ (x=250∨x=251)):=by
    refine ⟨fun e hc=>hn ⟨by omega,?_⟩,fun e hc=>hn ⟨by omega,?_⟩⟩
    ·rw [e];rcases hc with rfl | rfl <;> rfl
    ·rw [e];rcases hc with rfl | rfl <;> rfl
   unfold mayO
   repeat' split
   all_goals first
    | rfl
    | (rw [decide_eq_false_iff_not];omega)
    | (simp only [Bool.and_eq_false_iff,decide_eq_false_iff_not];exact .inl (by omega))
    | omega
 ·rw [if_neg h6]
  by_cases h7:nx l k3=7
  ·rw [if_pos h7];obtain ⟨e1,e2,e3⟩:=nx_inv (l:=l) (k:=k3) (kd:=7) (by decide) (by decide) h7
   have he:=(kindO_inv (opAt l k3)).2.2.2.2.2.2.2.1 e3;refine ⟨fun _=>⟨hW3.next e1 (by rw [hW3.fun_ hB3 e2];exact mayO_mid hm3 (by omega) (by omega) (by omega) (by omega) (by omega) (by omega)),_,⟨Nat.succ_pos _,e2,rfl⟩,he⟩,fun e=>(by cases e)⟩
  ·rw [if_neg h7];refine ⟨fun e=>(by cases e),fun _=>hW3.stop hB3 hm3.h56 (fun hk4 hp4=>?_)⟩
   rw [hf3]
   rcases nx_part hk4 with ⟨f1,f2⟩ | ⟨f1,f2⟩
   ·exact absurd hp4 f1
   ·have hw:=kindO_wf (opAt l k3);have hi:=kindO_inv (opAt l k3);rw [f2] at h6 h7 c4;have b4':k3=k2→kindO (opAt l k3)≠kd:=fun e=>by rw [← f2,e];exact b4
    obtain ⟨m0,m1,m2,m3,m4,m5,m6⟩:=hm3;have ho2:opAt l k3=54∨opAt l k3=55∨opAt l k3=56∨opAt l k3=248∨(opAt l k3=245∧kindO (opAt l k3)=4)∨(opAt l k3=59∧kindO (opAt l k3)=5):=by
     have hcase:kindO (opAt l k3)=1∨kindO (opAt l k3)=2∨kindO (opAt l k3)=3∨kindO (opAt l k3)=4∨kindO (opAt l k3)=5∨kindO (opAt l k3)=8:=by omega
     rcases hcase with h | h | h | h | h | h
     ·exact .inl (hi.1 h)
     ·exact .inr (.inl (hi.2.1 h))
     ·exact .inr (.inr (.inr (.inl (hi.2.2.2.1 h))))
     ·exact .inr (.inr (.inr (.inr (.inl ⟨hi.2.2.2.2.1 h,h⟩))))
     ·exact .inr (.inr (.inr (.inr (.inr ⟨hi.2.2.2.2.2.1 h,h⟩))))
     ·exact .inr (.inr (.inl (hi.2.2.1 h)))
    have h5a:(opAt l k3=245∧kindO (opAt l k3)=4)→first=false→¬ (a3=248∨a3=245):=fun h hf hc=>by
     by_cases e:k3=k2
     ·exact b4' e (by rw [h.2,hkd,hf];rfl)
     ·have:=h3g (by omega);omega
    have h5b:(opAt l k3=59∧kindO (opAt l k3)=5)→first=true→¬ (a3=248∨a3=59):=fun h hf hc=>by
     by_cases e:k3=k2
     ·exact b4' e (by rw [h.2,hkd,hf];rfl)
     ·have:=h3g (by omega);omega
    generalize opAt l k3=x at *;unfold mayO
    rcases ho2 with rfl | rfl | rfl | rfl | ⟨rfl,h⟩ | ⟨rfl,h⟩
    ·rw [if_pos rfl,decide_eq_false_iff_not];omega
    ·rw [if_neg (by decide),if_pos rfl,decide_eq_false_iff_not];omega
    ·rw [if_neg (by decide),if_neg (by decide),if_neg (by decide),if_pos rfl,decide_eq_false_iff_not];omega
    ·rw [if_neg (by decide),if_neg (by decide),if_pos rfl,decide_eq_false_iff_not];omega
    ·rw [if_neg (by decide),if_neg (by decide),if_neg (by decide),if_neg (by decide),if_neg (by omega),if_pos rfl]
     cases first with
     | true=>simp
     | false=>simpa using h5a ⟨rfl,h⟩ rfl
    ·rw [if_neg (by decide),if_neg (by decide),if_neg (by decide),if_neg (by decide),if_neg (by omega),if_neg (by decide),if_pos rfl]
     cases first with
     | true=>simpa using h5b ⟨rfl,h⟩ rfl
     | false=>simp
end
section
theorem blocksR_law {l:List InstI}:∀ (q:Nat) (first:Bool) (k:Nat) (ah:Int),Well l k→Beh l k ah→(if first=true then ah=54∨ah=55 else 249≤ah∧ah≤255)→l.length≤k+q →
  ((blocksR l q first k).1=true→Well l (blocksR l q first k).2.2∧nx l (blocksR l q first k).2.2≠3∧∃ ah',Beh l (blocksR l q first k).2.2 ah'∧(if (blocksR l q first k).2.1=true then ah'=54∨ah'=55 else 249≤ah'∧ah'≤255)) ∧
  ((blocksR l q first k).1=false→CutEnd l false (blocksR l q first k).2.2)
 | 0,first,k,ah,hW,hB,hah,hq=>⟨fun _=>⟨hW,by show nx l k≠3;rw [nx_end (by omega)];decide,ah,hB,hah⟩,fun e=>by cases e⟩
 | q+1,first,k,ah,hW,hB,hah,hq=>by
  unfold blocksR
  by_cases h3:nx l k=3
  ·rw [if_pos h3];obtain ⟨b1,b2⟩:=blockR_law hW hB hah h3;have hbd:=blockR_bd (l:=l) (first:=first) (nx_lt (l:=l) (k:=k) (by omega))
   by_cases hb:(blockR l first k).1=true
   ·rw [if_pos hb];obtain ⟨c1,ah',c2,c3⟩:=b1 hb;exact blocksR_law q false _ ah' c1 c2 (by rw [if_neg (by decide)];exact c3) (by omega)
   ·rw [if_neg hb];exact ⟨fun e=>(by cases e),fun _=>b2 (by simpa using hb)⟩
  ·rw [if_neg h3];exact ⟨fun _=>⟨hW,h3,ah,hB,hah⟩,fun e=>by cases e⟩
structure Btw (l:List InstI) (k:Nat):Prop where
 well:Well l k
 ahd:ahd l k=0∨ahd l k=56
 last:0<k∧partAt l (k-1)=8→opAt l (k-1)=56
 next:k<l.length→partAt l k≠8→mayD l k=false
theorem funcsR_law {l:List InstI}:∀ (q k:Nat),Btw l k→l.length<k+q→CutEnd l (funcsR l q k).1 (funcsR l q k).2
 | 0,k,h,hq=>absurd h.well.le (by omega)
 | q+1,k,h,hq=>by
  have hle:=h.well.le;unfold funcsR
  by_cases h0:nx l k<0
  ·rw [if_pos h0];have hk:k=l.length:=by
    rcases Nat.lt_or_ge k l.length with hlt | hge
    ·have:=List.getElem?_eq_getElem hlt;rw [nx_at this] at h0;have:=kindI_wf l[k];omega
    ·omega
   exact ⟨hle,h.well.may,fun hh=>absurd hh (by omega),fun _=>⟨fun _=>h.last,fun _=>rfl⟩,h.well.mod⟩
  ·rw [if_neg h0];have hk:=nx_lt (l:=l) (k:=k) (by omega)
   by_cases h1:nx l k=1
   ·rw [if_neg (by simpa using h1)]
    obtain ⟨-,hp8,hko⟩:=nx_inv (l:=l) (k:=k) (by decide) (by decide) h1
    have hop:=(kindO_inv _).1 hko;have hW1:=h.well.next hk (by
     rw [mayD_fun h.well.mod hp8,hop];unfold mayO;rw [if_pos rfl,decide_eq_true_eq];exact h.ahd)
    obtain ⟨b1,b2,b3,b4⟩:=rowEnd_law (l:=l) (kd:=2) (k:=k+1) (by decide) hk
    have hrow:∀ j,k+1≤j→j<rowEnd l 2 (k+1)→partAt l j=8∧opAt l j=55:=fun j h1 h2=>by
     obtain ⟨c1,c2,c3⟩:=nx_inv (l:=l) (k:=j) (kd:=2) (by decide) (by decide) (b3 j h1 h2)
     exact ⟨c2,(kindO_inv _).2.1 c3⟩
    generalize rowEnd l 2 (k+1)=k2 at *;have hW2:Well l k2:=hW1.mono b1 b2 fun j i1 i2=>by
     obtain ⟨c2,c3⟩:=hrow j i1 i2;have hah:ahd l j=54∨ahd l j=55:=by
      by_cases e:j=k+1
      ·subst e;exact .inl ((ahd_of (Nat.succ_pos _) hp8).trans hop)
      ·obtain ⟨d2,d3⟩:=hrow (j-1) (by omega) (by omega)
       exact .inr ((ahd_of (by omega) d2).trans d3)
     rw [mayD_fun (noMod_mono (by omega) h.well.mod) c2,c3]
     unfold mayO;rw [if_neg (by decide),if_pos rfl,decide_eq_true_eq]
     exact hah
    have hB2:∃ a,Beh l k2 a∧(a=54∨a=55):=by
     by_cases e:k2=k+1
     ·rw [e];exact ⟨54,⟨Nat.succ_pos _,hp8,hop⟩,.inl rfl⟩
     ·obtain ⟨d2,d3⟩:=hrow (k2-1) (by omega) (by omega)
      exact ⟨55,⟨by omega,d2,d3⟩,.inr rfl⟩
    obtain ⟨a,hB2,ha⟩:=hB2;obtain ⟨c1,c2⟩:=blocksR_law (l:=l) (l.length-k2) true k2 a hW2 hB2 (by rw [if_pos rfl];exact ha) (by omega)
    have hsame:(blocksR l (l.length-k2) true k2).2.1=true→(blocksR l (l.length-k2) true k2).1=true→(blocksR l (l.length-k2) true k2).2.2=k2:=by
     have hgen:∀ q fs k,(blocksR l q fs k).2.1=true→(blocksR l q fs k).1=true→(blocksR l q fs k).2.2=k:=by
      intro q
      induction q with
      | zero=>intro fs k _ _;rfl
      | succ q ih =>
       intro fs k g1 g2;unfold blocksR at g1 g2 ⊢
       split at g1
       ·rename_i hn
        rw [if_pos hn] at g2 ⊢
        split at g1
        ·rename_i hb
         rw [if_pos hb] at g2 ⊢
         exfalso
         have hf:∀ q k,(blocksR l q false k).2.1=false:=by
          intro q
          induction q with
          | zero=>intro k;rfl
          | succ q ih2 =>
           intro k;unfold blocksR
           split
           ·split
            ·exact ih2 _
            ·rfl
           ·rfl
         rw [hf] at g1;cases g1
        ·rename_i hb
         rw [if_neg hb] at g2;cases g2
       ·rename_i hn
        rw [if_neg hn]
     exact hgen _ _ _
    have hbd:=blocksR_bd (l:=l) (l.length-k2) true k2 b2;dsimp only;generalize blocksR l (l.length-k2) true k2=b at *
    by_cases hb:b.1=false
    ·rw [if_pos hb];exact c2 hb
    ·rw [if_neg hb];have hbt:b.1=true:=by simpa using hb
     obtain ⟨d1,d2,ah',d3,d4⟩:=c1 hbt
     by_cases he:b.2.1=true∨nx l b.2.2≠8
     ·rw [if_pos he];refine d1.stop d3 ?_ (fun hk4 hp4=>?_)
      ·split at d4 <;> omega
      ·rcases nx_part hk4 with ⟨f1,f2⟩ | ⟨f1,f2⟩
       ·exact absurd hp4 f1
       ·have hi:=kindO_inv (opAt l b.2.2);have hw:=kindO_wf (opAt l b.2.2);rw [f2] at d2 he
        by_cases hfs:b.2.1=true
        ·have hs2:=hsame hfs hbt;rw [if_pos hfs] at d4;have hn2:kindO (opAt l b.2.2)≠2:=by rw [← f2,hs2];exact b4
         have hx:opAt l b.2.2≠55∧opAt l b.2.2≠248:=by
          constructor
          ·intro e;apply hn2;rw [e];decide
          ·intro e;apply d2;rw [e];decide
         generalize opAt l b.2.2=x at *;unfold mayO
         by_cases x54:x=54
         ·rw [if_pos x54,decide_eq_false_iff_not];omega
         ·rw [if_neg x54,if_neg hx.1,if_neg hx.2]
          by_cases x56:x=56
          ·rw [if_pos x56,decide_eq_false_iff_not];omega
          ·rw [if_neg x56,if_pos (by omega)]
        ·rw [if_neg hfs] at d4;have hn8:kindO (opAt l b.2.2)≠8:=he.resolve_left hfs;have hx:opAt l b.2.2≠56∧opAt l b.2.2≠248:=by
          constructor
          ·intro e;apply hn8;rw [e];decide
          ·intro e;apply d2;rw [e];decide
         generalize opAt l b.2.2=x at *;unfold mayO
         by_cases x54:x=54
         ·rw [if_pos x54,decide_eq_false_iff_not];omega
         ·rw [if_neg x54]
          by_cases x55:x=55
          ·rw [if_pos x55,decide_eq_false_iff_not];omega
          ·rw [if_neg x55,if_neg hx.2,if_neg hx.1,if_pos (by omega)]
     ·rw [if_neg he];rw [not_or] at he;have h8:nx l b.2.2=8:=by simpa using he.2
      have hfs:¬ (b.2.1=true):=he.1;rw [if_neg hfs] at d4;obtain ⟨e1,e2,e3⟩:=nx_inv (l:=l) (k:=b.2.2) (kd:=8) (by decide) (by decide) h8
      have e56:=(kindO_inv _).2.2.1 e3;have hW5:=d1.next e1 (by
       rw [d1.fun_ d3 e2,e56];unfold mayO;rw [if_neg (by decide),if_neg (by decide),if_neg (by decide),if_pos rfl,decide_eq_true_eq]
       exact d4)
      refine funcsR_law q (b.2.2+1) ⟨hW5,.inr ((ahd_of (Nat.succ_pos _) e2).trans e56),fun _=>e56,fun hk5 hp5=>mayD_back (Nat.succ_pos _) e2 hp5⟩ (by omega)
   ·rw [if_pos h1];refine ⟨hle,h.well.may,fun _=>⟨rfl,?_⟩,fun e=>absurd e (by omega),h.well.mod⟩
    by_cases hp:partAt l k=8
    ·rw [mayD_fun h.well.mod hp];have hx:opAt l k≠54:=fun e=>h1 (by
      rcases nx_part hk with ⟨f1,f2⟩ | ⟨f1,f2⟩
      ·exact absurd hp f1
      ·rw [f2,e];decide)
     have ha:=h.ahd;generalize opAt l k=x at *;generalize ahd l k=a at *;generalize firstD l (k-1)=f at *;unfold mayO;rw [if_neg hx]
     by_cases x55:x=55
     ·rw [if_pos x55,decide_eq_false_iff_not];omega
     ·rw [if_neg x55]
      by_cases x248:x=248
      ·rw [if_pos x248,decide_eq_false_iff_not];omega
      ·rw [if_neg x248]
       by_cases x56:x=56
       ·rw [if_pos x56,decide_eq_false_iff_not];omega
       ·rw [if_neg x56,if_pos (by omega)]
    ·exact h.next hk hp
def badD (l:List InstI):Option Nat:=(List.range l.length).find? fun k=>!mayD l k
def layD (l:List InstI):Int × Int:=match badD l with
 | some k=>(50,(k:Int))
 | none=>if noMod l l.length=true∨(partAt l (l.length-1)=8∧opAt l (l.length-1)≠56) then (51,(l.length:Int)) else (0,0)
theorem badD_none {l:List InstI} (h:∀ j,j<l.length→mayD l j=true):badD l=none:=by
 unfold badD;rw [List.find?_eq_none];intro k hk;rw [h k (List.mem_range.1 hk)]
 decide
theorem badD_at {l:List InstI} {c:Nat} (hc:c<l.length) (h:∀ j,j<c→mayD l j=true) (hb:mayD l c=false):badD l=some c:=by
 unfold badD;rw [List.find?_range_eq_some];refine ⟨by rw [hb];rfl,List.mem_range.2 hc,fun j hj=>by rw [h j hj];decide⟩
theorem cutR_law (l:List InstI):layD l=if (cutR l).1=true then (0,0) else if (cutR l).2.1<l.length then (50,((cutR l).2.1:Int)) else (51,((cutR l).2.1:Int)):=by
 obtain ⟨t1,t2⟩:=topR_law l 8 0 0 (fun _=>0) rfl ⟨Nat.zero_le _,fun j hj=>absurd hj (Nat.not_lt_zero _),fun j hj=>absurd hj (Nat.not_lt_zero _),fun h=>absurd h (by decide),fun _ h=>absurd h (by have:=(partAt_bd l 0).1;omega)⟩
 have hbd:=topR_bd l 8 0 0 (fun _=>0) (Nat.zero_le _)
 unfold cutR;dsimp only;generalize topR l 8 0 0 (fun _=>0)=t at *
 by_cases ht:t.1=false
 ·rw [if_pos ht,ht,if_neg (by decide)]
  obtain ⟨a1,a2,a3⟩:=t2 ht;unfold layD
  by_cases hk:t.2.1<l.length
  ·rw [if_pos hk,badD_at hk a1 (a2 hk)]
  ·have e:t.2.1=l.length:=by omega
   rw [if_neg hk,badD_none (fun j hj=>a1 j (by omega)),e]
   rw [e] at a3;dsimp only;rw [if_pos (.inl a3)]
 ·rw [if_neg ht];have hI:=t1 (by simpa using ht)
  have hmod:=hI.mod (by decide)
  have hlow:∀ j,j<t.2.1→partAt l j≠8:=fun j hj=>by have:=hI.low j hj;omega
  have hB:Btw l t.2.1:=⟨⟨hI.le,hI.may,hmod⟩,.inl (by
   unfold ahd;rw [if_neg (fun hh=>hlow (t.2.1-1) (by omega) hh.2)]),fun hh=>absurd hh.2 (hlow (t.2.1-1) (by omega)),fun hk hp=>hI.next hk (by have:=(partAt_bd l t.2.1).2;omega)⟩
  have hC:=funcsR_law (l.length+1) t.2.1 hB (by omega)
  dsimp only;generalize funcsR l (l.length+1) t.2.1=r at *;obtain ⟨c1,c2,c3,c4,c5⟩:=hC;unfold layD
  by_cases hk:r.2<l.length
  ·have hr:¬ r.1=true:=by rw [(c3 hk).1];decide
   rw [badD_at hk c2 (c3 hk).2,if_neg hr,if_pos hk]
  ·have e:r.2=l.length:=by omega
   rw [badD_none (fun j hj=>c2 j (by omega)),if_neg hk]
   rw [e] at c4 c5 ⊢;have c6:=c4 rfl;dsimp only;have hpos:0<l.length:=by
    rcases Nat.eq_zero_or_pos l.length with h0 | h0
    ·rw [h0] at c5;cases c5
    ·exact h0
   by_cases hr:r.1=true
   ·rw [if_pos hr,if_neg];rintro (h | ⟨h1,h2⟩)
    ·rw [c5] at h;cases h
    ·exact h2 (c6.1 hr ⟨hpos,h1⟩)
   ·rw [if_neg hr,if_pos];refine .inr ?_
    by_cases h1:partAt l (l.length-1)=8
    ·exact ⟨h1,fun h2=>hr (c6.2 fun _=>h2)⟩
    ·exact absurd (c6.2 fun hh=>absurd hh.2 h1) hr
end
section
theorem topR_span (l:List InstI):∀ (r p k:Nat) (f:Nat→Int),r+p=8→1≤r→TopI l p k→(topR l r p k f).1=true →
  ∃ a:Nat,(topR l r p k f).2.2 14=(a:Int)∧(topR l r p k f).2.2 15=((topR l r p k f).2.1:Int)∧(∀ j,j<a→partAt l j≠7)∧(∀ j,a≤j→j<(topR l r p k f).2.1→partAt l j=7)
 | 0,_,_,_,_,h,_,_=>absurd h (by decide)
 | r+1,p,k,f,h,_,hI,ht=>by
  unfold topR at ht ⊢
  by_cases hc:p=1∧topEnd l p k=k
  ·rw [if_pos hc] at ht;cases ht
  ·rw [if_neg hc] at ht ⊢
   by_cases hr:1≤r
   ·exact topR_span l r (p+1) _ _ (by omega) hr (hI.step (by omega) hc) ht
   ·obtain rfl:r=0:=by omega
    obtain rfl:p=7:=by omega
    obtain ⟨a1,-,-⟩:=topTo_law l 7 (by decide) (l.length-k) k (by have:=hI.le;omega)
    refine ⟨k,rfl,rfl,fun j hj=>?_,fun j h1 h2=>a1 j h1 h2⟩
    have:=hI.low j hj;omega
theorem span7 {l:List InstI} (h:(cutR l).1=true):∀ j,j<l.length→(partAt l j=7 ↔ (cutR l).2.2 14≤(j:Int)∧(j:Int)<(cutR l).2.2 15):=by
 have hlay:=cutR_law l;rw [if_pos h] at hlay;have hall:∀ j,j<l.length→mayD l j=true:=fun j hj=>by
  unfold layD at hlay;cases hb:badD l with
  | some k=>rw [hb] at hlay;cases hlay
  | none =>
   unfold badD at hb;rw [List.find?_eq_none] at hb;have:=hb j (List.mem_range.2 hj);simpa using this
 have hI0:TopI l 0 0:=⟨Nat.zero_le _,fun j hj=>absurd hj (Nat.not_lt_zero _),fun j hj=>absurd hj (Nat.not_lt_zero _),fun h=>absurd h (by decide),fun _ h=>absurd h (by have:=(partAt_bd l 0).1;omega)⟩
 obtain ⟨t1,t2⟩:=topR_law l 8 0 0 (fun _=>0) rfl hI0
 have hsp:=topR_span l 8 0 0 (fun _=>0) rfl (by decide) hI0
 unfold cutR at h ⊢;dsimp only at h ⊢;generalize topR l 8 0 0 (fun _=>0)=t at *
 by_cases ht:t.1=false
 ·rw [if_pos ht,ht] at h;cases h
 ·rw [if_neg ht];have ht2:t.1=true:=by simpa using ht
  obtain ⟨a,s1,s2,s3,s4⟩:=hsp ht2;have hI:=t1 ht2;have e1:spanF (spanF t.2.2 8 t.2.1 l.length) 9 l.length l.length 14=t.2.2 14:=rfl;have e2:spanF (spanF t.2.2 8 t.2.1 l.length) 9 l.length l.length 15=t.2.2 15:=rfl;intro j hj;dsimp only;rw [e1,e2,s1,s2];refine ⟨fun h7=>⟨?_,?_⟩,fun hh=>s4 j (by omega) (by omega)⟩
  ·rcases Nat.lt_or_ge j a with hlt | hge
   ·exact absurd h7 (s3 j hlt)
   ·omega
  ·rcases Nat.lt_or_ge j t.2.1 with hlt | hge
   ·omega
   ·exfalso
    have h8:partAt l t.2.1=8:=by
     have hb:=(partAt_bd l t.2.1).2
     rcases Int.lt_or_le (partAt l t.2.1) 8 with hl | hl
     ·have:=hI.next (by omega) (by omega)
      rw [hall t.2.1 (by omega)] at this
      cases this
     ·omega
    by_cases e:j=t.2.1
    ·rw [e,h8] at h7;cases h7
    ·have:=mayD_low (l:=l) (k:=j) (j:=t.2.1) (by omega) (by omega)
     rw [hall j hj] at this;cases this
theorem idsM_lay {bound:Int} {l:List InstI} (h:(layM bound l).1≠0):idsM bound l=layM bound l:=if_pos h
theorem idsM_ok {bound:Int} {l:List InstI} (h:(layM bound l).1=0):idsM bound l=idsR (madeR l 0) (cutR l).2.2 l 0∧(cutR l).1=true:=by
 refine ⟨if_neg (fun hh=>hh h),?_⟩
 unfold layM at h
 split at h
 ·rename_i h1;exact absurd h h1
 ·split at h
  ·assumption
  ·split at h <;> cases h
end
end Go.Proofs.YtdebjkiilnhgpaaGreatDoor
