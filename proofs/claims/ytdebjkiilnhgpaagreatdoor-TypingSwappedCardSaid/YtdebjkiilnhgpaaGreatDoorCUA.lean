/- Plain: alike is an equivalence of the plain types, and keeps sizes. -/
import Derived.Test.YtdebjkiilnhgpaaGreatDoorCUI
import Derived.Test.YtdebjkiilnhgpaaGreatDoorCTN
import Derived.Test.YtdebjkiilnhgpaaGreatDoorCTO
namespace Go.Proofs.YtdebjkiilnhgpaaGreatDoor
section
theorem allN_true {f:Int→Int→Bool} {l m:List Int}:∀ {k:Nat},allN f l m k=true ↔ ∀ j,j<k→f (ix l j) (ix m j)=true
 | 0=>⟨fun _ j hj=>absurd hj (Nat.not_lt_zero j),fun _=>rfl⟩
 | k+1=>by
  show (allN f l m k&&f (ix l k) (ix m k))=true ↔ _
  rw [Bool.and_eq_true,allN_true]
  constructor
  ·rintro ⟨h1,h2⟩ j hj
   rcases Nat.lt_succ_iff_lt_or_eq.1 hj with h | rfl
   ·exact h1 j h
   ·exact h2
  ·exact fun h=>⟨fun j hj=>h j (by omega),h k (Nat.lt_succ_self k)⟩
theorem alikeT_iff {T:Int→TyI} {q:Nat} {a b:Int}:alikeT T (q+1) a b=true ↔
  ((T a).size≠0∧(T a).kind=(T b).kind∧(T a).size=(T b).size∧(T a).times=(T b).times∧(T a).parts.length=(T b).parts.length) ∧
   (((T a).kind=4∨(T a).kind=5)→alikeT T q (T a).part (T b).part=true)∧(¬ ((T a).kind=4∨(T a).kind=5)→∀ j,j<(T a).parts.length→alikeT T q (ix (T a).parts j) (ix (T b).parts j)=true):=by
 have e:alikeT T (q+1) a b=if (T a).size=0∨(T a).kind≠(T b).kind∨(T a).size≠(T b).size∨(T a).times≠(T b).times∨(T a).parts.length≠(T b).parts.length then false
  else if (T a).kind=4∨(T a).kind=5 then alikeT T q (T a).part (T b).part
  else allN (alikeT T q) (T a).parts (T b).parts (T a).parts.length:=rfl
 rw [e]
 by_cases h:(T a).size=0∨(T a).kind≠(T b).kind∨(T a).size≠(T b).size∨(T a).times≠(T b).times∨(T a).parts.length≠(T b).parts.length
 ·rw [if_pos h]
  constructor
  ·intro h';cases h'
  ·rintro ⟨⟨h1,h2,h3,h4,h5⟩,-⟩
   rcases h with h | h | h | h | h
   ·exact absurd h h1
   ·exact absurd h2 h
   ·exact absurd h3 h
   ·exact absurd h4 h
   ·exact absurd h5 h
 ·rw [if_neg h];simp only [not_or,Decidable.not_not,ne_eq] at h;obtain ⟨h1,h2,h3,h4,h5⟩:=h
  by_cases h6:(T a).kind=4∨(T a).kind=5
  ·rw [if_pos h6];exact ⟨fun h'=>⟨⟨h1,h2,h3,h4,h5⟩,fun _=>h',fun hn=>absurd h6 hn⟩,fun h'=>h'.2.1 h6⟩
  ·rw [if_neg h6,allN_true];exact ⟨fun h'=>⟨⟨h1,h2,h3,h4,h5⟩,fun hn=>absurd hn h6,fun _=>h'⟩,fun h'=>h'.2.2 h6⟩
theorem Typed.deepT {T:Int→TyI} (h:Typed T):DeepT T where
 one a hs hk:=by
  have h1:=h.size a;have hp:0<(T a).size:=by omega
  have h2:=rankT_part h (id:=a) hk;rw [rankT_plain h hp] at h2
  rcases h.ok a with h3 | ⟨b,h3⟩
  ·rw [h3] at hk;simp [ty0] at hk
  ·generalize hx:T a=x at *;cases h3 <;> simp at hk
   ·rename_i p n g1 g2 g3 g4
    have:=h.leaf p g2
    show (T p).depth<(T p).depth+1
    omega
   ·rename_i p n g1 g2 g3 g4 g5 g6
    show (T p).depth<(T p).depth+1
    omega
 all a hs p hp:=by
  rcases h.ok a with h3 | ⟨b,h3⟩
  ·rw [h3] at hs;exact absurd rfl hs
  ·generalize hx:T a=x at *;cases h3 <;> simp [ty0] at hp hs
   rename_i l s d g1 g2 g3 g4 g5 g6
   have:=(memR_max g1).2 p hp
   show (T p).depth<d+1
   omega
end
section
def partN (x:TyI) (j:Nat):Int:=(partT x j).1
def sumP (T:Int→TyI) (x:TyI):Nat→Int
 | 0=>0
 | k+1=>sumP T x k+(T (partN x k)).size
theorem sumP_times {T:Int→TyI} {x:TyI} (h:x.parts=[]) (h1:1≤x.times):∀ k:Nat,(k:Int)≤x.times→sumP T x k=k*(T x.part).size
 | 0,_=>by simp [sumP]
 | k+1,hk=>by
  have ih:=sumP_times (T:=T) h h1 k (by omega)
  have hp:partN x k=x.part:=by
   unfold partN partT cntT;rw [h,if_neg (by simp;omega),if_pos (by omega)]
  show sumP T x k+(T (partN x k)).size=_
  rw [ih,hp];have:((k+1:Nat):Int)=(k:Int)+1:=by omega
  rw [this,Int.add_mul,Int.one_mul]
theorem sumP_parts {T:Int→TyI} {x:TyI} (h:x.times=0):∀ k:Nat,k≤x.parts.length→sumP T x k=sumN T x.parts k
 | 0,_=>by simp [sumP,sumN]
 | k+1,hk=>by
  have ih:=sumP_parts (T:=T) h k (by omega)
  have hp:partN x k=ix x.parts k:=by
   unfold partN partT cntT;rw [h,if_neg (by omega),if_neg (by omega)]
   rfl
  show sumP T x k+(T (partN x k)).size=_
  rw [ih,hp,sumN_step (by omega)]
theorem sumN_all {T:Int→TyI} (l:List Int):sumN T l l.length=(l.map fun p=>(T p).size).sum:=by
 unfold sumN;rw [List.take_length]
structure SizesOk (T:Int→TyI) (b:List Int) (x:TyI):Prop where
 has:∀ j:Nat,(j:Int)<cntT x→(partT x j).2=true∧(partT x j).1∈b
 off:∀ j:Nat,(j:Int)<cntT x→(offT T x j).2=decide (x.kind=4∨x.kind=5∨x.kind=6)∧((x.kind=4∨x.kind=5∨x.kind=6)→(offT T x j).1=sumP T x j)
 whole:0<cntT x→x.kind≠7→x.kind≠8→x.size=sumP T x (cntT x).toNat
 most:x.size≤4096
theorem part_has {x:TyI} {j:Nat} (hj:(j:Int)<cntT x):(partT x j).2=true:=by
 unfold partT;rw [if_neg (by omega)]
 split <;> rfl
theorem TyOk.sizes {T:Int→TyI} {b:List Int} {x:TyI} (h:TyOk T b x) (hT:Typed T):SizesOk T b x:=by
 have hm:=h.size.2.2;cases h with
 | void=>exact ⟨fun j hj=>absurd hj (by show ¬ (j:Int)<0+0;omega),fun j hj=>absurd hj (by show ¬ (j:Int)<0+0;omega),fun h=>absurd h (by decide),hm⟩
 | bool=>exact ⟨fun j hj=>absurd hj (by show ¬ (j:Int)<0+0;omega),fun j hj=>absurd hj (by show ¬ (j:Int)<0+0;omega),fun h=>absurd h (by show ¬ (0:Int)<0+0;decide),hm⟩
 | int s=>exact ⟨fun j hj=>absurd hj (by show ¬ (j:Int)<0+0;omega),fun j hj=>absurd hj (by show ¬ (j:Int)<0+0;omega),fun h=>absurd h (by show ¬ (0:Int)<0+0;decide),hm⟩
 | vec p n h1 h2 h3 h4 =>
  generalize hx:({ ty0 with kind:=4,part:=p,times:=n,size:=n,depth:=(T p).depth+1 }:TyI)=x at *
  have e1:x.parts=[]:=by rw [← hx];rfl
  have e2:x.times=n:=by rw [← hx]
  have e3:x.part=p:=by rw [← hx]
  have e4:x.size=n:=by rw [← hx]
  have e5:x.kind=4:=by rw [← hx]
  have ec:cntT x=n:=by unfold cntT;rw [e1,e2];simp
  have hs:=(hT.leaf p h2).2;refine ⟨fun j hj=>⟨part_has (by omega),?_⟩,fun j hj=>?_,fun _ _ _=>?_,hm⟩
  ·unfold partT;rw [if_neg (by omega),if_pos (by omega),e3]
   exact h1
  ·unfold offT;rw [part_has (by omega),if_neg (by rintro (h | h);cases h;omega),if_pos (by omega)]
   refine ⟨by rw [e5];rfl,fun _=>?_⟩
   rw [sumP_times e1 (by omega) j (by omega)]
  ·rw [ec,sumP_times e1 (by omega) n.toNat (by omega),e3,hs,e4]
   omega
 | arr p n h1 h2 h3 h4 h5 h6 =>
  generalize hx:({ ty0 with kind:=5,part:=p,times:=n,size:=n*(T p).size,depth:=(T p).depth+1 }:TyI)=x at *
  have e1:x.parts=[]:=by rw [← hx];rfl
  have e2:x.times=n:=by rw [← hx]
  have e3:x.part=p:=by rw [← hx]
  have e4:x.size=n*(T p).size:=by rw [← hx]
  have e5:x.kind=5:=by rw [← hx]
  have ec:cntT x=n:=by unfold cntT;rw [e1,e2];simp
  have hp:=Int.mul_pos (show 0<n by omega) h2
  refine ⟨fun j hj=>⟨part_has (by omega),?_⟩,fun j hj=>?_,fun _ _ _=>?_,hm⟩
  ·unfold partT;rw [if_neg (by omega),if_pos (by omega),e3]
   exact h1
  ·unfold offT;rw [part_has (by omega),if_neg (by rintro (h | h);cases h;omega),if_pos (by omega)]
   refine ⟨by rw [e5];rfl,fun _=>?_⟩
   rw [sumP_times e1 (by omega) j (by omega)]
  ·rw [ec,sumP_times e1 (by omega) n.toNat (by omega),e3,e4,Int.toNat_of_nonneg (by omega)]
 | str l s d h1 h2 h3 h4 h5 h6 =>
  have hs:=(memR_sum h1).1;have hpos:=(TyOk.str (b:=b) l s d h1 h2 h3 h4 h5 h6).size.2.1.2 ⟨(by show (2:Int)≤6;decide),(by show (6:Int)≤6;decide)⟩
  generalize hx:({ ty0 with kind:=6,parts:=l,size:=s,depth:=d+1 }:TyI)=x at *
  have e1:x.parts=l:=by rw [← hx]
  have e2:x.times=0:=by rw [← hx];rfl
  have e4:x.size=s:=by rw [← hx]
  have e5:x.kind=6:=by rw [← hx]
  have ec:cntT x=l.length:=by unfold cntT;rw [e1,e2];simp
  refine ⟨fun j hj=>⟨part_has (by omega),?_⟩,fun j hj=>?_,fun _ _ _=>?_,hm⟩
  ·unfold partT;rw [if_neg (by omega),if_neg (by omega),e1]
   have e:((j:Nat):Int).toNat=j:=rfl;rw [e];refine h2 _ ?_
   show ix l j∈l
   rw [ix_of (by omega)]
   exact List.getElem_mem _
  ·unfold offT;rw [part_has (by omega),if_neg (by rintro (h | h);cases h;omega),if_neg (by omega)]
   refine ⟨by rw [e5];rfl,fun _=>?_⟩
   have e:((j:Nat):Int).toNat=j:=rfl;rw [e,sumP_parts e2 j (by rw [e1];omega)]
  ·have e:((l.length:Nat):Int).toNat=l.length:=rfl;rw [ec,e,sumP_parts e2 _ (by rw [e1];omega),e1,sumN_all,e4,hs,Int.zero_add]
 | ptr c p h1 h2 h3 =>
  refine ⟨fun j hj=>⟨part_has hj,?_⟩,fun j hj=>?_,fun _ h=>absurd rfl h,hm⟩
  ·have hj1:(j:Int)<0+1:=hj;obtain rfl:j=0:=by omega
   exact h1
  ·unfold offT;rw [if_pos (.inr rfl)];exact ⟨rfl,fun h=>absurd h (by show ¬ ((7:Int)=4∨(7:Int)=5∨(7:Int)=6);decide)⟩
 | fn l h1 h2 h3 h4 =>
  have ec:cntT ({ ty0 with kind:=8,parts:=l }:TyI)=l.length:=by unfold cntT;simp [ty0]
  refine ⟨fun j hj=>⟨part_has hj,?_⟩,fun j hj=>?_,fun _ _ h=>absurd rfl h,hm⟩
  ·unfold partT;rw [if_neg (by omega),if_neg (by show ¬ (0:Int)<0;decide)]
   have e:((j:Nat):Int).toNat=j:=rfl;rw [e];refine h2 _ ?_
   show ix l j∈l
   rw [ix_of (by omega)]
   exact List.getElem_mem _
  ·unfold offT;rw [if_pos (.inr rfl)];exact ⟨rfl,fun h=>absurd h (by show ¬ ((8:Int)=4∨(8:Int)=5∨(8:Int)=6);decide)⟩
end
section
end
section
def keyF (x:TyI):Int × List Int :=
 if x.kind=1 then (19,[]) else if x.kind=2 then (20,[]) else if x.kind=3 then (21,[32,if x.signed=true then 1 else 0])
 else if x.kind=4 then (23,[x.part,x.times]) else if x.kind=7 then (32,x.cls :: x.parts) else (33,x.parts)
def keyT (x:TyI):ByteArray:=⟨(keyL (keyF x).1 (keyF x).2).toArray⟩
structure OnceF (s:StN):Prop where
 pos:∀ k,0≤s.R k
 seen:∀ a∈s.ord,(s.T a).kind≠5→(s.T a).kind≠6→0<s.R (keyT (s.T a))
 one:∀ a∈s.ord,∀ b∈s.ord,(s.T a).kind≠5→(s.T a).kind≠6→s.T a=s.T b→a=b
theorem OnceF.st0:OnceF st0:=⟨fun _=>Int.le_refl _,fun a h=>(by cases h),fun a h=>(by cases h)⟩
theorem key_forms:([(19,0),(20,0),(21,2),(23,2),(32,2)].all fun (x:Int × Nat)=>match formOf x.1 with | some f=>decide (f.fixed.length=x.2)&&decide (f.rest.length=0) | none=>false)=true:=by decide +kernel
theorem key_len {i:InstI} {bound:Int} {f:FormI} {n:Nat} (h:InstW i bound f) (hm:((i.1,n):Int × Nat)∈[((19:Int),(0:Nat)),(20,0),(21,2),(23,2),(32,2)]):(nums i.2.2.2).length=n:=by
 have h1:=key_forms;rw [List.all_eq_true] at h1;have h2:=h1 _ hm;dsimp only at h2;rw [h.form] at h2;simp only [Bool.and_eq_true,decide_eq_true_eq] at h2;have:=h.len_eq h2.2;unfold nums;rw [List.length_map];omega
end
section
def valD (l:List UInt8):Nat:=l.foldl (fun v c=>v*10+(c.toNat-48)) 0
theorem valD_dec (u:Nat):valD (Lib.decDigits u)=u:=by
 induction u using Nat.strongRecOn with
 | _ u ih =>
  rw [Lib.decDigits]
  split
  ·rename_i h
   show 0*10+((UInt8.ofNat (48+u)).toNat-48)=u
   rw [UInt8.toNat_ofNat'];omega
  ·rename_i h
   unfold valD;rw [List.foldl_append];have:=ih (u / 10) (by omega)
   unfold valD at this;rw [this]
   show u / 10*10+((UInt8.ofNat (48+u % 10)).toNat-48)=u
   rw [UInt8.toNat_ofNat'];omega
theorem itoa_inj {n m:Int} (hn:0≤n) (hm:0≤m) (h:Lib.itoa n=Lib.itoa m):n=m:=by
 obtain ⟨a,rfl⟩:∃ a:Nat,n=a:=⟨n.toNat,by omega⟩
 obtain ⟨b,rfl⟩:∃ b:Nat,m=b:=⟨m.toNat,by omega⟩
 rw [Lib.itoa_nonneg,Lib.itoa_nonneg] at h;have:=congrArg valD h;rw [valD_dec,valD_dec] at this;omega
theorem class_heads:((enumsOf 99).all fun x=>match x.2 with | c :: _=>decide (c ∉ [118,98,105,117,97,115,102]) | []=>false)=true:=by decide +kernel
theorem class_of {c:Int} (h:namedE 99 c=0):∃ x∈enumsOf 99,x.1=c∧enumN 99 c=x.2:=by
 unfold namedE at h
 split at h
 ·rename_i h1
  unfold enumB at h1;unfold enumN;cases hf:(enumsOf 99).find? (fun x=>x.1==c) with
  | none =>
   rw [List.any_eq_true] at h1;obtain ⟨x,hx,hc⟩:=h1;exact absurd hc (List.find?_eq_none.1 hf x hx)
  | some x=>exact ⟨x,List.mem_of_find?_eq_some hf,by simpa using List.find?_some hf,rfl⟩
 ·cases h
def headK (l:List UInt8):Int :=
 if l.getD 0 0=118 then (if l.getD 1 0=111 then 1 else 4) else if l.getD 0 0=98 then 2 else if l.getD 0 0=105∨l.getD 0 0=117 then 3
 else if l.getD 0 0=97 then 5 else if l.getD 0 0=115 then 6 else if l.getD 0 0=102 then 8 else if l=[] then 0 else 7
theorem headK_cons {c:UInt8} {r:List UInt8} (h:c ∉ [118,98,105,117,97,115,102]):headK (c :: r)=7:=by
 simp only [List.mem_cons,List.not_mem_nil,or_false,not_or] at h;obtain ⟨h1,h2,h3,h4,h5,h6,h7⟩:=h;have e:(c :: r).getD 0 0=c:=rfl;unfold headK;rw [e,if_neg h1,if_neg h2,if_neg (by rintro (h | h);exact h3 h;exact h4 h),if_neg h5,if_neg h6,if_neg h7,if_neg (by simp)]
theorem Typed.head {T:Int→TyI} (h:Typed T) (q:Nat) (id:Int):headK (textT T (q+1) id)=(T id).kind:=by
 rcases h.ok id with h1 | ⟨b,h1⟩
 ·unfold textT;rw [h1];rfl
 ·unfold textT;generalize hx:T id=x at *;cases h1 with
  | void=>rfl
  | bool=>rfl
  | int s=>cases s <;> rfl
  | vec p n h1 h2 h3 h4=>rfl
  | arr p n h1 h2 h3 h4 h5 h6=>rfl
  | str l s d h1 h2 h3 h4 h5 h6=>rfl
  | ptr c p h1 h2 h3 =>
   obtain ⟨x,hx,-,e⟩:=class_of h3;have h4:=class_heads;rw [List.all_eq_true] at h4;have h5:=h4 x hx
   show headK (ofL (enumN 99 c) [textT T q p])=7
   rw [e];cases hs:x.2 with
   | nil=>rw [hs] at h5;cases h5
   | cons k r =>
    rw [hs] at h5;exact headK_cons (by simpa using h5)
  | fn l h1 h2 h3 h4=>rfl
structure SameT (T:Int→TyI) (q:Nat) (x y:TyI):Prop where
 kind:x.kind=y.kind
 sign:x.signed=y.signed
 times:x.times=y.times
 cls:x.cls=y.cls
 part:x.kind=4∨x.kind=5→textT T q x.part=textT T q y.part
 parts:x.parts.map (textT T q)=y.parts.map (textT T q)
end
end Go.Proofs.YtdebjkiilnhgpaaGreatDoor
