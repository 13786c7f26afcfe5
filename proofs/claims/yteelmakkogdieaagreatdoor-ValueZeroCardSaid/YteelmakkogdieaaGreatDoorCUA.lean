/- Plain: alike is an equivalence of the plain types, and keeps sizes. -/
import Derived.Test.YteelmakkogdieaaGreatDoorCUI
import Derived.Test.YteelmakkogdieaaGreatDoorCTN
import Derived.Test.YteelmakkogdieaaGreatDoorCTO
import Derived.Test.YteelmakkogdieaaGreatDoorCTS
import Derived.Test.YteelmakkogdieaaGreatDoorCUK
namespace Go.Proofs.YteelmakkogdieaaGreatDoor
section
end
section
def partN (x:TyI) (j:Nat):Int:=(partT x j).1
def sumP (T:Int→TyI) (x:TyI):Nat→Int
 | 0=>0
 | k+1=>sumP T x k+(T (partN x k)).size
theorem sumP_times {T:Int→TyI} {x:TyI} (h:x.parts=[]) (h1:1≤x.times):∀ k:Nat,(k:Int)≤x.times→sumP T x k=k*(T x.part).size
 | 0,_=>by simp [sumP]
 | k+1,hk=>by
  have ih:=sumP_times (T:=T) h h1 k (by omega)
  have hp:partN x k=x.part:=by
   unfold partN partT cntT;rw [h,if_neg (by simp;omega),if_pos (by omega)]
  show sumP T x k+(T (partN x k)).size=_
  rw [ih,hp];have:((k+1:Nat):Int)=(k:Int)+1:=by omega
  rw [this,Int.add_mul,Int.one_mul]
theorem sumP_parts {T:Int→TyI} {x:TyI} (h:x.times=0):∀ k:Nat,k≤x.parts.length→sumP T x k=sumN T x.parts k
 | 0,_=>by simp [sumP,sumN]
 | k+1,hk=>by
  have ih:=sumP_parts (T:=T) h k (by omega)
  have hp:partN x k=ix x.parts k:=by
   unfold partN partT cntT;rw [h,if_neg (by omega),if_neg (by omega)]
   rfl
  show sumP T x k+(T (partN x k)).size=_
  rw [ih,hp,sumN_step (by omega)]
theorem sumN_all {T:Int→TyI} (l:List Int):sumN T l l.length=(l.map fun p=>(T p).size).sum:=by
 unfold sumN;rw [List.take_length]
structure SizesOk (T:Int→TyI) (b:List Int) (x:TyI):Prop where
 has:∀ j:Nat,(j:Int)<cntT x→(partT x j).2=true∧(partT x j).1∈b
 off:∀ j:Nat,(j:Int)<cntT x→(offT T x j).2=decide (x.kind=4∨x.kind=5∨x.kind=6)∧((x.kind=4∨x.kind=5∨x.kind=6)→(offT T x j).1=sumP T x j)
 whole:0<cntT x→x.kind≠7→x.kind≠8→x.size=sumP T x (cntT x).toNat
 most:x.size≤4096
theorem part_has {x:TyI} {j:Nat} (hj:(j:Int)<cntT x):(partT x j).2=true:=by
 unfold partT;rw [if_neg (by omega)]
 split <;> rfl
theorem TyOk.sizes {T:Int→TyI} {b:List Int} {x:TyI} (h:TyOk T b x) (hT:Typed T):SizesOk T b x:=by
 have hm:=h.size.2.2;cases h with
 | void=>exact ⟨fun j hj=>absurd hj (by show ¬ (j:Int)<0+0;omega),fun j hj=>absurd hj (by show ¬ (j:Int)<0+0;omega),fun h=>absurd h (by decide),hm⟩
 | bool=>exact ⟨fun j hj=>absurd hj (by show ¬ (j:Int)<0+0;omega),fun j hj=>absurd hj (by show ¬ (j:Int)<0+0;omega),fun h=>absurd h (by show ¬ (0:Int)<0+0;decide),hm⟩
 | int s=>exact ⟨fun j hj=>absurd hj (by show ¬ (j:Int)<0+0;omega),fun j hj=>absurd hj (by show ¬ (j:Int)<0+0;omega),fun h=>absurd h (by show ¬ (0:Int)<0+0;decide),hm⟩
 | vec p n h1 h2 h3 h4 =>
  generalize hx:({ ty0 with kind:=4,part:=p,times:=n,size:=n,depth:=(T p).depth+1 }:TyI)=x at *
  have e1:x.parts=[]:=by rw [← hx];rfl
  have e2:x.times=n:=by rw [← hx]
  have e3:x.part=p:=by rw [← hx]
  have e4:x.size=n:=by rw [← hx]
  have e5:x.kind=4:=by rw [← hx]
  have ec:cntT x=n:=by unfold cntT;rw [e1,e2];simp
  have hs:=(hT.leaf p h2).2;refine ⟨fun j hj=>⟨part_has (by omega),?_⟩,fun j hj=>?_,fun _ _ _=>?_,hm⟩
  ·unfold partT;rw [if_neg (by omega),if_pos (by omega),e3]
   exact h1
  ·unfold offT;rw [part_has (by omega),if_neg (by rintro (h | h);cases h;omega),if_pos (by omega)]
   refine ⟨by rw [e5];rfl,fun _=>?_⟩
   rw [sumP_times e1 (by omega) j (by omega)]
  ·rw [ec,sumP_times e1 (by omega) n.toNat (by omega),e3,hs,e4]
   omega
 | arr p n h1 h2 h3 h4 h5 h6 =>
  generalize hx:({ ty0 with kind:=5,part:=p,times:=n,size:=n*(T p).size,depth:=(T p).depth+1 }:TyI)=x at *
  have e1:x.parts=[]:=by rw [← hx];rfl
  have e2:x.times=n:=by rw [← hx]
  have e3:x.part=p:=by rw [← hx]
  have e4:x.size=n*(T p).size:=by rw [← hx]
  have e5:x.kind=5:=by rw [← hx]
  have ec:cntT x=n:=by unfold cntT;rw [e1,e2];simp
  have hp:=Int.mul_pos (show 0<n by omega) h2
  refine ⟨fun j hj=>⟨part_has (by omega),?_⟩,fun j hj=>?_,fun _ _ _=>?_,hm⟩
  ·unfold partT;rw [if_neg (by omega),if_pos (by omega),e3]
   exact h1
  ·unfold offT;rw [part_has (by omega),if_neg (by rintro (h | h);cases h;omega),if_pos (by omega)]
   refine ⟨by rw [e5];rfl,fun _=>?_⟩
   rw [sumP_times e1 (by omega) j (by omega)]
  ·rw [ec,sumP_times e1 (by omega) n.toNat (by omega),e3,e4,Int.toNat_of_nonneg (by omega)]
 | str l s d h1 h2 h3 h4 h5 h6 =>
  have hs:=(memR_sum h1).1;have hpos:=(TyOk.str (b:=b) l s d h1 h2 h3 h4 h5 h6).size.2.1.2 ⟨(by show (2:Int)≤6;decide),(by show (6:Int)≤6;decide)⟩
  generalize hx:({ ty0 with kind:=6,parts:=l,size:=s,depth:=d+1 }:TyI)=x at *
  have e1:x.parts=l:=by rw [← hx]
  have e2:x.times=0:=by rw [← hx];rfl
  have e4:x.size=s:=by rw [← hx]
  have e5:x.kind=6:=by rw [← hx]
  have ec:cntT x=l.length:=by unfold cntT;rw [e1,e2];simp
  refine ⟨fun j hj=>⟨part_has (by omega),?_⟩,fun j hj=>?_,fun _ _ _=>?_,hm⟩
  ·unfold partT;rw [if_neg (by omega),if_neg (by omega),e1]
   have e:((j:Nat):Int).toNat=j:=rfl;rw [e];refine h2 _ ?_
   show ix l j∈l
   rw [ix_of (by omega)]
   exact List.getElem_mem _
  ·unfold offT;rw [part_has (by omega),if_neg (by rintro (h | h);cases h;omega),if_neg (by omega)]
   refine ⟨by rw [e5];rfl,fun _=>?_⟩
   have e:((j:Nat):Int).toNat=j:=rfl;rw [e,sumP_parts e2 j (by rw [e1];omega)]
  ·have e:((l.length:Nat):Int).toNat=l.length:=rfl;rw [ec,e,sumP_parts e2 _ (by rw [e1];omega),e1,sumN_all,e4,hs,Int.zero_add]
 | ptr c p h1 h2 h3 =>
  refine ⟨fun j hj=>⟨part_has hj,?_⟩,fun j hj=>?_,fun _ h=>absurd rfl h,hm⟩
  ·have hj1:(j:Int)<0+1:=hj;obtain rfl:j=0:=by omega
   exact h1
  ·unfold offT;rw [if_pos (.inr rfl)];exact ⟨rfl,fun h=>absurd h (by show ¬ ((7:Int)=4∨(7:Int)=5∨(7:Int)=6);decide)⟩
 | fn l h1 h2 h3 h4 =>
  have ec:cntT ({ ty0 with kind:=8,parts:=l }:TyI)=l.length:=by unfold cntT;simp [ty0]
  refine ⟨fun j hj=>⟨part_has hj,?_⟩,fun j hj=>?_,fun _ _ h=>absurd rfl h,hm⟩
  ·unfold partT;rw [if_neg (by omega),if_neg (by show ¬ (0:Int)<0;decide)]
   have e:((j:Nat):Int).toNat=j:=rfl;rw [e];refine h2 _ ?_
   show ix l j∈l
   rw [ix_of (by omega)]
   exact List.getElem_mem _
  ·unfold offT;rw [if_pos (.inr rfl)];exact ⟨rfl,fun h=>absurd h (by show ¬ ((8:Int)=4∨(8:Int)=5∨(8:Int)=6);decide)⟩
end
section
end
section
def keyF (x:TyI):Int × List Int :=
 if x.kind=1 then (19,[]) else if x.kind=2 then (20,[]) else if x.kind=3 then (21,[32,if x.signed=true then 1 else 0])
 else if x.kind=4 then (23,[x.part,x.times]) else if x.kind=7 then (32,x.cls :: x.parts) else (33,x.parts)
def keyT (x:TyI):ByteArray:=⟨(keyL (keyF x).1 (keyF x).2).toArray⟩
structure OnceF (s:StN):Prop where
 pos:∀ k,0≤s.R k
 seen:∀ a∈s.ord,(s.T a).kind≠5→(s.T a).kind≠6→0<s.R (keyT (s.T a))
 one:∀ a∈s.ord,∀ b∈s.ord,(s.T a).kind≠5→(s.T a).kind≠6→s.T a=s.T b→a=b
theorem OnceF.st0:OnceF st0:=⟨fun _=>Int.le_refl _,fun a h=>(by cases h),fun a h=>(by cases h)⟩
end
section
def valD (l:List UInt8):Nat:=l.foldl (fun v c=>v*10+(c.toNat-48)) 0
theorem valD_dec (u:Nat):valD (Lib.decDigits u)=u:=by
 induction u using Nat.strongRecOn with
 | _ u ih =>
  rw [Lib.decDigits]
  split
  ·rename_i h
   show 0*10+((UInt8.ofNat (48+u)).toNat-48)=u
   rw [UInt8.toNat_ofNat'];omega
  ·rename_i h
   unfold valD;rw [List.foldl_append];have:=ih (u / 10) (by omega)
   unfold valD at this;rw [this]
   show u / 10*10+((UInt8.ofNat (48+u % 10)).toNat-48)=u
   rw [UInt8.toNat_ofNat'];omega
theorem itoa_inj {n m:Int} (hn:0≤n) (hm:0≤m) (h:Lib.itoa n=Lib.itoa m):n=m:=by
 obtain ⟨a,rfl⟩:∃ a:Nat,n=a:=⟨n.toNat,by omega⟩
 obtain ⟨b,rfl⟩:∃ b:Nat,m=b:=⟨m.toNat,by omega⟩
 rw [Lib.itoa_nonneg,Lib.itoa_nonneg] at h;have:=congrArg valD h;rw [valD_dec,valD_dec] at this;omega
theorem class_heads:((enumsOf 99).all fun x=>match x.2 with | c :: _=>decide (c ∉ [118,98,105,117,97,115,102]) | []=>false)=true:=by decide +kernel
theorem class_of {c:Int} (h:namedE 99 c=0):∃ x∈enumsOf 99,x.1=c∧enumN 99 c=x.2:=by
 unfold namedE at h
 split at h
 ·rename_i h1
  unfold enumB at h1;unfold enumN;cases hf:(enumsOf 99).find? (fun x=>x.1==c) with
  | none =>
   rw [List.any_eq_true] at h1;obtain ⟨x,hx,hc⟩:=h1;exact absurd hc (List.find?_eq_none.1 hf x hx)
  | some x=>exact ⟨x,List.mem_of_find?_eq_some hf,by simpa using List.find?_some hf,rfl⟩
 ·cases h
def headK (l:List UInt8):Int :=
 if l.getD 0 0=118 then (if l.getD 1 0=111 then 1 else 4) else if l.getD 0 0=98 then 2 else if l.getD 0 0=105∨l.getD 0 0=117 then 3
 else if l.getD 0 0=97 then 5 else if l.getD 0 0=115 then 6 else if l.getD 0 0=102 then 8 else if l=[] then 0 else 7
theorem headK_cons {c:UInt8} {r:List UInt8} (h:c ∉ [118,98,105,117,97,115,102]):headK (c :: r)=7:=by
 simp only [List.mem_cons,List.not_mem_nil,or_false,not_or] at h;obtain ⟨h1,h2,h3,h4,h5,h6,h7⟩:=h;have e:(c :: r).getD 0 0=c:=rfl;unfold headK;rw [e,if_neg h1,if_neg h2,if_neg (by rintro (h | h);exact h3 h;exact h4 h),if_neg h5,if_neg h6,if_neg h7,if_neg (by simp)]
theorem Typed.head {T:Int→TyI} (h:Typed T) (q:Nat) (id:Int):headK (textT T (q+1) id)=(T id).kind:=by
 rcases h.ok id with h1 | ⟨b,h1⟩
 ·unfold textT;rw [h1];rfl
 ·unfold textT;generalize hx:T id=x at *;cases h1 with
  | void=>rfl
  | bool=>rfl
  | int s=>cases s <;> rfl
  | vec p n h1 h2 h3 h4=>rfl
  | arr p n h1 h2 h3 h4 h5 h6=>rfl
  | str l s d h1 h2 h3 h4 h5 h6=>rfl
  | ptr c p h1 h2 h3 =>
   obtain ⟨x,hx,-,e⟩:=class_of h3;have h4:=class_heads;rw [List.all_eq_true] at h4;have h5:=h4 x hx
   show headK (ofL (enumN 99 c) [textT T q p])=7
   rw [e];cases hs:x.2 with
   | nil=>rw [hs] at h5;cases h5
   | cons k r =>
    rw [hs] at h5;exact headK_cons (by simpa using h5)
  | fn l h1 h2 h3 h4=>rfl
structure SameT (T:Int→TyI) (q:Nat) (x y:TyI):Prop where
 kind:x.kind=y.kind
 sign:x.signed=y.signed
 times:x.times=y.times
 cls:x.cls=y.cls
 part:x.kind=4∨x.kind=5→textT T q x.part=textT T q y.part
 parts:x.parts.map (textT T q)=y.parts.map (textT T q)
theorem times_kind {T:Int→TyI} (h:Typed T) (a:Int):0<(T a).times ↔ (T a).kind=4∨(T a).kind=5:=by
 rcases h.ok a with h1 | ⟨b,h1⟩
 ·rw [h1];simp [ty0]
 ·generalize hx:T a=x at *;cases h1 <;> simp [ty0] <;> omega
end
section
open Go.RowKit
theorem new_copied {gen bound:Int} {A:Option Addr} {n c:Nat} {ls:List InstA} {L:List InstI} {w:World} (hM:ModS w w.heap.size A n ls) (hL:ls.map (·.1)=L) (hP:Pow w)
  (hu:∀ i∈L,∀ a∈i.2.2.2,0≤a.2.1∧a.2.1<4294967296) (hop:∀ i∈L,0≤i.1∧i.1<65536) :
  Calls Tryz.prog 25 #[.agg (modC gen bound A n c)] w (NewG (newM bound L) w):=by
 have h:=new_any gen bound ls A n c w hM hP (fun x hx=>hu x.1 (hL ▸ List.mem_map.2 ⟨x,hx,rfl⟩)) (fun x hx=>hop x.1 (hL ▸ List.mem_map.2 ⟨x,hx,rfl⟩))
 rw [hL] at h;exact h
end
section
open Go.RowKit
end
section
open Go.RowKit
theorem part_rank {T:Int→TyI} (h:Typed T) {id:Int} {k:Nat} (hk:((k:Nat):Int)<cntT (T id)):rankT (T (partT (T id) (k:Nat)).1)<rankT (T id):=by
 unfold partT;rw [if_neg (by omega)]
 split
 ·rename_i h1
  exact rankT_part h ((times_kind h id).1 h1)
 ·rename_i h1
  have ht:0≤(T id).times:=by
   rcases h.ok id with h2 | ⟨b,h2⟩
   ·rw [h2];exact Int.le_refl _
   ·generalize T id=x at *;cases h2 <;> simp [ty0] <;> omega
  have hc:k<(T id).parts.length:=by unfold cntT at hk;omega
  refine rankT_parts h _ ?_
  show ix (T id).parts k∈_
  rw [ix_of hc];exact List.getElem_mem _
end
section
theorem ix_in {l:List Int} {k:Nat} (h:k<l.length):ix l k∈l:=by rw [ix_of h];exact List.getElem_mem _
end
section
def wkW (T:Int→TyI):Int→Int→List Int→Int × Int
 | at_,ty,[]=>(at_,ty)
 | at_,ty,k :: r=>if cntT (T ty)≤k then (0,0) else wkW T (at_+(offT T (T ty) k).1) (partT (T ty) k).1 r
theorem sumP_mono {T:Int→TyI} (hT:∀ id,0≤(T id).size) (x:TyI):∀ (n k:Nat),sumP T x k≤sumP T x (k+n)
 | 0,k=>Int.le_refl _
 | n+1,k=>by
  have ih:=sumP_mono hT x n k;have:=hT (partN x (k+n))
  show _≤sumP T x (k+n)+(T (partN x (k+n))).size
  omega
theorem sumP_pos {T:Int→TyI} (hT:∀ id,0≤(T id).size) (x:TyI) (k:Nat):0≤sumP T x k:=by
 have:=sumP_mono hT x k 0;rw [Nat.zero_add] at this;exact this
theorem TyOk.part_plain {T:Int→TyI} {b:List Int} {x:TyI} (h:TyOk T b x) (hT:Typed T) (hs:0<x.size) {j:Nat} (hj:(j:Int)<cntT x):0<(T (partN x j)).size:=by
 unfold partN partT;rw [if_neg (by omega)]
 cases h with
 | void=>exact absurd hs (by decide)
 | bool=>exact absurd hj (by show ¬ (j:Int)<0+0;omega)
 | int s=>exact absurd hj (by show ¬ (j:Int)<0+0;omega)
 | vec p n h1 h2 h3 h4 =>
  have:=(hT.leaf p h2).2;dsimp only;rw [if_pos (by omega)]
  dsimp only;omega
 | arr p n h1 h2 h3 h4 h5 h6 =>
  dsimp only;rw [if_pos (by omega)]
  exact h2
 | str l s d h1 h2 h3 h4 h5 h6 =>
  have ec:cntT ({ ty0 with kind:=6,parts:=l,size:=s,depth:=d+1 }:TyI)=l.length:=by unfold cntT;simp [ty0]
  rw [ec] at hj;dsimp only;rw [if_neg (by show ¬ (0:Int)<0;decide)]
  have e:((j:Nat):Int).toNat=j:=rfl;dsimp only;rw [e,ix_of (by omega)]
  exact memR_in h1 _ (List.getElem_mem _)
 | ptr c p h1 h2 h3=>exact absurd hs (by show ¬ (0:Int)<0;decide)
 | fn l h1 h2 h3 h4=>exact absurd hs (by show ¬ (0:Int)<0;decide)
end
end Go.Proofs.YteelmakkogdieaaGreatDoor
