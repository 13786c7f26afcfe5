/- Plain: what an instruction of good shape has. -/
import Derived.Test.YtdebjkiilnhgpaaGreatDoorCTH
import Derived.Lib.ItoaLen
import Derived.Test.YtdebjkiilnhgpaaGreatDoorCTI
import Derived.Lib.Join
namespace Go.Proofs.YtdebjkiilnhgpaaGreatDoor
section
theorem loopR_ok {op bound:Int} {l:List ArgI} {st:RSt}:∀ {k:Nat},(loopR op bound l st k).1=0→st.1=0∧∀ j,j<k→argE op bound j (ag l j).1 (ag l j).2.1 (ag l j).2.2=0
 | 0,h=>⟨h,fun j hj=>absurd hj (Nat.not_lt_zero j)⟩
 | k+1,h=>by
  unfold loopR stepR at h
  split at h
  ·rename_i h0
   obtain ⟨h1,h2⟩:=loopR_ok h0;refine ⟨h1,fun j hj=>?_⟩
   by_cases hjk:j=k
   ·subst hjk;exact h
   ·exact h2 j (by omega)
  ·rename_i h0
   exact absurd h h0
structure InstW (i:InstI) (bound:Int) (f:FormI):Prop where
 form:formOf i.1=some f
 ty:f.ty=(i.2.1 != 0)
 tyb:f.ty=true→i.2.1<bound
 res:f.res=(i.2.2.1 != 0)
 resb:f.res=true→i.2.2.1<bound
 args:∀ j,j<i.2.2.2.length→argE i.1 bound j (ag i.2.2.2 j).1 (ag i.2.2.2 j).2.1 (ag i.2.2.2 j).2.2=0
 whole:fitsB i.1 (kinds i.2.2.2)=true
theorem headE_ok {must:Bool} {n lacks bound:Int} (hl:lacks≠0) (h:headE must n lacks bound=0):must=(n != 0)∧(must=true→n<bound):=by
 unfold headE at h
 split at h
 ·rename_i h0
  refine ⟨h0,fun h1=>?_⟩
  rw [if_pos h1] at h;unfold idE at h
  split at h
  ·cases h
  ·omega
 ·exact absurd h hl
theorem rawR_ok {i:InstI} {bound:Int} (h:(rawR i bound).1=0):∃ f,InstW i bound f:=by
 unfold rawR at h;cases hf:formOf i.1 with
 | none=>rw [hf] at h;cases h
 | some f =>
  rw [hf] at h;dsimp only at h;obtain ⟨s,hs⟩:∃ s,s=loopR i.1 bound i.2.2.2 (headsR f i bound) i.2.2.2.length:=⟨_,rfl⟩;rw [← hs] at h;have h1:s.1=0∧wholeE i.1 i.2.2.2=0:=by
   by_cases h0:s.1=0
   ·refine ⟨h0,Decidable.byContradiction fun hw=>?_⟩
    simp only [h0,if_true] at h;simp [hw] at h
   ·simp [h0] at h
  obtain ⟨hs1,hw⟩:=h1;rw [hs] at hs1;obtain ⟨hh,ha⟩:=loopR_ok hs1;have hw2:fitsB i.1 (kinds i.2.2.2)=true:=by
   unfold wholeE at hw
   split at hw
   ·assumption
   ·cases hw
  unfold headsR at hh
  split at hh
  ·rename_i h0
   obtain ⟨a1,a2⟩:=headE_ok (by decide) h0
   obtain ⟨b1,b2⟩:=headE_ok (by decide) hh
   exact ⟨f,hf,a1,a2,b1,b2,ha,hw2⟩
  ·rename_i h0
   exact absurd hh h0
theorem argE_ok {op bound:Int} {k:Nat} {kd n:Int} {s:ByteArray} (h:argE op bound k kd n s=0) :
  letterOf op k≠0∧kd=kindT (letterOf op k)∧(kd=3→n=0)∧(kd=1→n≠0∧n<bound)∧(kd=4→namedE (letterOf op k) n=0)∧(kd≠3→s.toList.isEmpty=true):=by
 unfold argE at h
 by_cases hb:argBad op k kd n s=true
 ·rw [if_pos hb] at h;cases h
 ·rw [if_neg hb] at h;unfold argBad at hb;simp only [Bool.or_eq_true,not_or] at hb;obtain ⟨⟨⟨h1,h2⟩,h3⟩,h4⟩:=hb;refine ⟨by simpa using h1,by simpa using h2,?_,?_,?_,?_⟩
  ·intro e;subst e;simpa using h3
  ·intro e;subst e;rw [if_neg (by decide),if_pos (by decide)] at h
   unfold idE at h
   split at h
   ·cases h
   ·omega
  ·intro e;subst e;rw [if_neg (by decide),if_neg (by decide),if_pos (by decide)] at h
   exact h
  ·intro e;have:(kd==3)=false:=by simpa using e
   simpa [this] using h4
theorem argR_pos {op bound:Int} {k:Nat} {kd n:Int} {s:ByteArray} (h:argE op bound k kd n s=0):1≤argR op k kd n s:=by
 unfold argE at h;unfold argR
 by_cases hb:argBad op k kd n s=true
 ·rw [if_pos hb] at h;cases h
 ·rw [if_neg hb] at h ⊢
  by_cases h3:(kd==3)=true
  ·rw [if_pos h3] at h ⊢;unfold txE at h;unfold txR
   by_cases h0:(0:Int)∈bl s
   ·rw [if_pos h0] at h;cases h
   ·rw [if_neg h0];unfold roomOf;omega
  ·rw [if_neg h3];exact Nat.le_refl _
theorem loopR_atleast {op bound:Int} {l:List ArgI} {st:RSt}:∀ {k:Nat},(loopR op bound l st k).1=0→st.2.2+k≤(loopR op bound l st k).2.2
 | 0,_=>Nat.le_refl _
 | k+1,h=>by
  unfold loopR stepR at h ⊢
  by_cases h0:(loopR op bound l st k).1=0
  ·rw [if_pos h0] at h ⊢;have h1:=loopR_atleast h0;have h2:=argR_pos h
   show _≤(loopR op bound l st k).2.2+_
   omega
  ·rw [if_neg h0] at h;exact absurd h h0
theorem rawR_args {i:InstI} {bound:Int} (h:(rawR i bound).1=0):i.2.2.2.length<65535:=by
 unfold rawR at h;cases hf:formOf i.1 with
 | none=>rw [hf] at h;cases h
 | some f =>
  rw [hf] at h;dsimp only at h;obtain ⟨s,hs⟩:∃ s,s=loopR i.1 bound i.2.2.2 (headsR f i bound) i.2.2.2.length:=⟨_,rfl⟩;rw [← hs] at h
  by_cases h0:s.1=0
  ·by_cases hw:wholeE i.1 i.2.2.2=0
   ·have hr:=loopR_atleast (op:=i.1) (bound:=bound) (l:=i.2.2.2) (st:=headsR f i bound) (k:=i.2.2.2.length) (by rw [← hs];exact h0)
    rw [← hs] at hr
    by_cases h65:65535≤s.2.2
    ·simp [h0,hw,h65] at h
    ·omega
   ·simp [h0,hw] at h
  ·simp [h0] at h
theorem ty_forms:([19,20,21,23,28,30,32,33].all fun op=>match formOf op with | some f=>f.res&&(!f.ty) | none=>false)=true:=by decide +kernel
theorem InstW.res_ne {i:InstI} {bound:Int} {f:FormI} (h:InstW i bound f) (ho:i.1∈[19,20,21,23,28,30,32,33]):i.2.2.1≠0:=by
 have h1:=ty_forms;rw [List.all_eq_true] at h1;have h2:=h1 i.1 (by simpa using ho)
 rw [h.form] at h2;simp only [Bool.and_eq_true] at h2;have h3:=h.res;rw [h2.1] at h3;simpa using h3.symm
end
section
structure TyI where
 kind:Int
 size:Int
 depth:Int
 signed:Bool
 cls:Int
 part:Int
 times:Int
 parts:List Int
def ty0:TyI:=⟨0,0,0,false,0,0,0,[]⟩
def wholeT (x:TyI) (size depth:Int):TyI × Int :=
 if 4096<size then (ty0,102) else if 16<depth+1 then (ty0,4) else ({ x with size:=size,depth:=depth+1 },0)
def vectorT (T:Int→TyI) (part n:Int):TyI × Int :=
 if (T part).kind≠2∧(T part).kind≠3 then (ty0,100) else if n<2∨4<n then (ty0,102) else wholeT { ty0 with kind:=4,part:=part,times:=n } n (T part).depth
def firstN (i:InstI):Int:=(ag i.2.2.2 0).2.1
def arrayC (p:TyI) (T:Int→TyI) (c:InstI) (part:Int):TyI × Int :=
 if p.size=0 then (ty0,100)
 else if c.1≠43∨(T c.2.1).kind≠3∨firstN c<1∨4096<firstN c then (ty0,102)
 else wholeT { ty0 with kind:=5,part:=part,times:=firstN c } (firstN c*p.size) p.depth
def arrayT (T:Int→TyI) (M:Int→InstI) (part length:Int):TyI × Int:=arrayC (T part) T (M length) part
def memR (T:Int→TyI):List Int→Int→Int→Option (Int × Int)
 | [],s,d=>some (s,d)
 | p :: r,s,d=>if (T p).size≤0 then none else memR T r (s+(T p).size) (max d (T p).depth)
def membersT (T:Int→TyI) (l:List Int):TyI × Int :=
 if l.length<1∨256<l.length then (ty0,102)
 else match memR T l 0 0 with
  | none=>(ty0,100)
  | some (s,d)=>wholeT { ty0 with kind:=6,parts:=l } s d
def funR (T:Int→TyI):List Int→Nat→Bool
 | [],_=>true
 | p :: r,k=>if (T p).size≤0∧(T p).kind≠(if k=0 then 1 else 7) then false else funR T r (k+1)
def functionT (T:Int→TyI) (l:List Int):TyI × Int:=if funR T l 0=true then ({ ty0 with kind:=8,parts:=l },0) else (ty0,100)
def nums (l:List ArgI):List Int:=l.map fun a=>a.2.1
def ixn (l:List Int) (k:Nat):Int:=l.getD k 0
def oneT (T:Int→TyI) (M:Int→InstI) (i:InstI):TyI × Bool × Int :=
 let l:=nums i.2.2.2
 if i.1=19 then ({ ty0 with kind:=1 },true,0)
 else if i.1=20 then ({ ty0 with kind:=2,size:=1,depth:=1 },true,0)
 else if i.1=21 then ({ ty0 with kind:=3,size:=1,depth:=1,signed:=ixn l 1==1 },true,if ixn l 0≠32∨1<ixn l 1 then 102 else 0)
 else if i.1=23 then ((vectorT T (ixn l 0) (ixn l 1)).1,true,(vectorT T (ixn l 0) (ixn l 1)).2)
 else if i.1=28 then ((arrayT T M (ixn l 0) (ixn l 1)).1,true,(arrayT T M (ixn l 0) (ixn l 1)).2)
 else if i.1=30 then ((membersT T l).1,true,(membersT T l).2)
 else if i.1=32 then ({ ty0 with kind:=7,cls:=ixn l 0,parts:=l.drop 1 },true,if (T (ixn l 1)).size≤0 then 100 else 0)
 else if i.1=33 then ((functionT T l).1,true,(functionT T l).2)
 else (ty0,false,0)
end
section
def keyL (op:Int) (l:List Int):List UInt8:=Lib.itoa op++(l.map fun n=>32 :: Lib.itoa n).flatten
def keyB (i:InstI):ByteArray:=⟨(keyL i.1 (nums i.2.2.2)).toArray⟩
theorem keyL_step (op:Int) {l:List Int} {x:Int}:keyL op (l++[x])=keyL op l++32 :: Lib.itoa x:=by
 unfold keyL;simp
theorem keyL_len (op:Int) (l:List Int) (h0:0≤op∧op<65536) (h:∀ x∈l,0≤x∧x<4294967296):(keyL op l).length≤21+22*l.length:=by
 unfold keyL;rw [List.length_append];have h1:=Lib.itoa_length_le op (by omega) (by omega)
 have h2:((l.map fun n=>32 :: Lib.itoa n).flatten).length≤22*l.length:=by
  clear h1
  induction l with
  | nil=>simp
  | cons a r ih =>
   have ha:=h a List.mem_cons_self;have:=Lib.itoa_length_le a (by omega) (by omega)
   have:=ih (fun x hx=>h x (List.mem_cons_of_mem _ hx))
   simp only [List.map_cons,List.flatten_cons,List.length_append,List.length_cons];omega
 omega
def bump (R:ByteArray→Int) (s:ByteArray):ByteArray→Int:=fun x=>if x=s then R x+1 else R x
def againR (R:ByteArray→Int) (i:InstI):Bool × (ByteArray→Int):=if i.1=28∨i.1=30 then (false,R) else (decide (0<R (keyB i)),bump R (keyB i))
end
section
def updT {α:Type} (T:Int→α) (id:Int) (x:α):Int→α:=fun y=>if y=id then x else T y
structure StN where
 T:Int→TyI
 M:Int→InstI
 R:ByteArray→Int
 ord:List Int
def st0:StN:=⟨fun _=>ty0,fun _=>(0,0,0,[]),fun _=>0,[]⟩
def errN (s:StN) (i:InstI):Int :=
 let r:=oneT s.T s.M i
 if r.2.1=true∧r.2.2=0∧(againR s.R i).1=true then 101 else r.2.2
def nextN (s:StN) (i:InstI):StN :=
 let r:=oneT s.T s.M i
 {T:=if r.2.1=true then fun x=>if x=i.2.2.1 then r.1 else s.T x else s.T
  M:=fun x=>if x=i.2.2.1 then i else s.M x
  R:=if r.2.1=true∧r.2.2=0 then (againR s.R i).2 else s.R
  ord:=if r.2.1=true then s.ord++[i.2.2.1] else s.ord }
def newL:StN→List InstI→Nat→Int × Int × StN
 | s,[],_=>(0,0,s)
 | s,i :: r,k=>if errN s i≠0 then (errN s i,k,s) else newL (nextN s i) r (k+1)
noncomputable def newM (bound:Int) (l:List InstI):Int × Int × StN :=
 if (idsM bound l).1≠0 then ((idsM bound l).1,(idsM bound l).2,st0) else newL st0 l 0
theorem newL_step {s:StN} {l:List InstI} {k:Nat} {i:InstI} (h:l[k]?=some i):newL s (l.drop k) k=if errN s i≠0 then (errN s i,(k:Int),s) else newL (nextN s i) (l.drop (k+1)) (k+1):=by
 obtain ⟨hk,rfl⟩:=List.getElem?_eq_some_iff.1 h;rw [List.drop_eq_getElem_cons hk];rfl
theorem shapeR_ok {bound:Int}:∀ {l:List InstI} {k:Nat} {left:Int},(shapeR bound l k left).1=0→∀ i∈l,(rawR i bound).1=0
 | [],_,_,_,_,h=>absurd h (by simp)
 | i :: r,k,left,h,j,hj=>by
  unfold shapeR at h
  by_cases h1:(rawR i bound).1≠0
  ·rw [if_pos h1] at h;exact absurd h h1
  ·rw [if_neg h1] at h
   by_cases h2:left-(1+(rawR i bound).2.length)<0
   ·rw [if_pos h2] at h;cases h
   ·rw [if_neg h2] at h
    rcases List.mem_cons.1 hj with rfl | hj
    ·exact Decidable.not_not.1 h1
    ·exact shapeR_ok h j hj
theorem rawR_fits {i:InstI} {bound:Int} (h:(rawR i bound).1=0):fitsB i.1 (kinds i.2.2.2)=true:=by
 unfold rawR at h;cases hf:formOf i.1 with
 | none=>rw [hf] at h;cases h
 | some f =>
  rw [hf] at h;dsimp only at h
  by_cases hw:fitsB i.1 (kinds i.2.2.2)=true
  ·exact hw
  ·exfalso
   have e:wholeE i.1 i.2.2.2=42:=if_neg hw;rw [e] at h;generalize loopR i.1 bound i.2.2.2 (headsR f i bound) i.2.2.2.length=st at h;obtain ⟨s1,s2,s3⟩:=st;dsimp only at h
   by_cases h1:s1=0
   ·simp [h1] at h
   ·by_cases h2:65535≤s3 <;> simp [h1,h2] at h
theorem fits_args {op:Int} {l:List Int} (h:fitsB op l=true):∃ f,formOf op=some f∧f.fixed.length≤l.length:=by
 unfold fitsB at h;cases hf:formOf op with
 | none=>rw [hf] at h;cases h
 | some f =>
  rw [hf] at h;simp only [Bool.and_eq_true,tailB,decide_eq_true_eq] at h;exact ⟨f,rfl,h.2.1⟩
theorem two_args:([21,23,28,32].all fun op=>match formOf op with | some f=>decide (f.fixed.length=2) | none=>false)=true:=by decide +kernel
theorem one_arg:(match formOf 43 with | some f=>decide (f.fixed.length=1) | none=>false)=true:=by decide +kernel
theorem ids_shape {bound:Int} {l:List InstI} (h:(idsM bound l).1=0):∀ i∈l,(rawR i bound).1=0:=by
 have h1:(shapeM bound l).1=0:=by
  unfold idsM layM at h
  by_cases hs:(shapeM bound l).1=0
  ·exact hs
  ·rw [if_pos hs,if_pos hs] at h;exact h
 unfold shapeM at h1
 split at h1
 ·cases h1
 ·exact shapeR_ok h1
theorem args_two {i:InstI} {bound:Int} (h:(rawR i bound).1=0) (ho:i.1=21∨i.1=23∨i.1=28∨i.1=32):2≤i.2.2.2.length:=by
 obtain ⟨f,hf,hl⟩:=fits_args (rawR_fits h);rw [kinds_length] at hl;have h2:=two_args;rw [List.all_eq_true] at h2;have h3:=h2 i.1 (by rcases ho with h | h | h | h <;> rw [h] <;> decide)
 rw [hf] at h3;simp only [decide_eq_true_eq] at h3;omega
theorem args_one {i:InstI} {bound:Int} (h:(rawR i bound).1=0) (ho:i.1=43):0<i.2.2.2.length:=by
 obtain ⟨f,hf,hl⟩:=fits_args (rawR_fits h);rw [kinds_length] at hl;have h3:=one_arg;rw [ho] at hf;rw [hf] at h3;simp only [decide_eq_true_eq] at h3;omega
end
section
inductive TyOk (T:Int→TyI) (b:List Int):TyI→Prop
 | void:TyOk T b { ty0 with kind:=1 }
 | bool:TyOk T b { ty0 with kind:=2,size:=1,depth:=1 }
 | int (s:Bool):TyOk T b { ty0 with kind:=3,size:=1,depth:=1,signed:=s }
 | vec (p n:Int):p∈b→((T p).kind=2∨(T p).kind=3)→2≤n→n≤4→TyOk T b { ty0 with kind:=4,part:=p,times:=n,size:=n,depth:=(T p).depth+1 }
 | arr (p n:Int):p∈b→0<(T p).size→1≤n→n≤4096→n*(T p).size≤4096→(T p).depth+1≤16→TyOk T b { ty0 with kind:=5,part:=p,times:=n,size:=n*(T p).size,depth:=(T p).depth+1 }
 | str (l:List Int) (s d:Int):memR T l 0 0=some (s,d)→(∀ p∈l,p∈b)→1≤l.length→l.length≤256→s≤4096→d+1≤16→TyOk T b { ty0 with kind:=6,parts:=l,size:=s,depth:=d+1 }
 | ptr (c p:Int):p∈b→0<(T p).size→namedE 99 c=0→TyOk T b { ty0 with kind:=7,cls:=c,parts:=[p] }
 | fn (l:List Int):funR T l 0=true→(∀ p∈l,p∈b)→1≤l.length→l.length≤65535→TyOk T b { ty0 with kind:=8,parts:=l }
theorem memR_congr {T T':Int→TyI}:∀ {l:List Int} {s d:Int},(∀ p∈l,T' p=T p)→memR T' l s d=memR T l s d
 | [],_,_,_=>rfl
 | p :: r,s,d,h=>by
  have h0:=h p List.mem_cons_self
  show (if (T' p).size≤0 then none else memR T' r (s+(T' p).size) (max d (T' p).depth))=(if (T p).size≤0 then none else memR T r (s+(T p).size) (max d (T p).depth))
  rw [h0,memR_congr (fun q hq=>h q (List.mem_cons_of_mem _ hq))]
theorem funR_congr {T T':Int→TyI}:∀ {l:List Int} {k:Nat},(∀ p∈l,T' p=T p)→funR T' l k=funR T l k
 | [],_,_=>rfl
 | p :: r,k,h=>by
  have h0:=h p List.mem_cons_self
  show (if (T' p).size≤0∧(T' p).kind≠(if k=0 then 1 else 7) then false else funR T' r (k+1))=(if (T p).size≤0∧(T p).kind≠(if k=0 then 1 else 7) then false else funR T r (k+1))
  rw [h0,funR_congr (fun q hq=>h q (List.mem_cons_of_mem _ hq))]
theorem TyOk.congr {T T':Int→TyI} {b b':List Int} {x:TyI} (h:TyOk T b x) (he:∀ p∈b,T' p=T p) (hb:∀ p∈b,p∈b'):TyOk T' b' x:=by
 cases h with
 | void=>exact .void
 | bool=>exact .bool
 | int s=>exact .int s
 | vec p n h1 h2 h3 h4 =>
  have e:=he p h1;rw [← e] at h2 ⊢;exact .vec p n (hb p h1) h2 h3 h4
 | arr p n h1 h2 h3 h4 h5 h6 =>
  have e:=he p h1;rw [← e] at h2 h5 h6 ⊢;exact .arr p n (hb p h1) h2 h3 h4 h5 h6
 | str l s d h1 h2 h3 h4 h5 h6 =>
  refine .str l s d ?_ (fun p hp=>hb p (h2 p hp)) h3 h4 h5 h6
  rw [memR_congr (fun p hp=>he p (h2 p hp))]
  exact h1
 | ptr c p h1 h2 h3 =>
  rw [← he p h1] at h2;exact .ptr c p (hb p h1) h2 h3
 | fn l h1 h2 h3 h4 =>
  refine .fn l ?_ (fun p hp=>hb p (h2 p hp)) h3 h4
  rw [funR_congr (fun p hp=>he p (h2 p hp))]
  exact h1
theorem TyOk.kind {T:Int→TyI} {b:List Int} {x:TyI} (h:TyOk T b x):1≤x.kind∧x.kind≤8:=by
 cases h <;> simp
structure WellS (s:StN):Prop where
 out:∀ id,id ∉ s.ord→s.T id=ty0
 nodup:s.ord.Nodup
 deep:∀ id,0≤(s.T id).depth∧(s.T id).depth≤16
 made:∀ k,(h:k<s.ord.length)→TyOk s.T (s.ord.take k) (s.T s.ord[k])
theorem wholeT_ok {x:TyI} {size depth:Int} (h:(wholeT x size depth).2=0):(wholeT x size depth).1={ x with size:=size,depth:=depth+1 }∧size≤4096∧depth+1≤16:=by
 unfold wholeT at *
 split at h
 ·cases h
 ·rename_i h1
  rw [if_neg h1]
  split at h
  ·cases h
  ·rename_i h2
   rw [if_neg h2];exact ⟨rfl,by omega,by omega⟩
theorem memR_in {T:Int→TyI}:∀ {l:List Int} {s d a e:Int},memR T l s d=some (a,e)→∀ p∈l,0<(T p).size
 | [],_,_,_,_,_,p,hp=>by cases hp
 | q :: r,s,d,a,e,h,p,hp=>by
  unfold memR at h
  split at h
  ·cases h
  ·rcases List.mem_cons.1 hp with rfl | hp
   ·omega
   ·exact memR_in h p hp
theorem funR_in {T:Int→TyI}:∀ {l:List Int} {k:Nat},funR T l k=true→∀ p∈l,0<(T p).size∨(T p).kind=1∨(T p).kind=7
 | [],_,_,p,hp=>by cases hp
 | q :: r,k,h,p,hp=>by
  have h':(if (T q).size≤0∧(T q).kind≠(if k=0 then 1 else 7) then false else funR T r (k+1))=true:=h
  by_cases h0:(T q).size≤0∧(T q).kind≠(if k=0 then 1 else 7)
  ·rw [if_pos h0] at h';cases h'
  ·rw [if_neg h0] at h'
   rcases List.mem_cons.1 hp with rfl | hp
   ·by_cases h1:(T p).size≤0
    ·right
     have:(T p).kind=if k=0 then 1 else 7:=Decidable.byContradiction fun hc=>h0 ⟨h1,hc⟩
     by_cases hk:k=0
     ·rw [if_pos hk] at this;exact .inl this
     ·rw [if_neg hk] at this;exact .inr this
    ·left;omega
   ·exact funR_in h' p hp
theorem InstW.len {i:InstI} {bound:Int} {f:FormI} (h:InstW i bound f):f.fixed.length≤i.2.2.2.length:=by
 obtain ⟨g,hg,hl⟩:=fits_args h.whole;rw [h.form] at hg;cases hg
 rw [kinds_length] at hl;exact hl
theorem letter_none {op:Int} {f:FormI} {k:Nat} (hf:formOf op=some f) (hr:f.rest.length=0) (hk:f.fixed.length≤k):letterOf op k=0:=by
 unfold letterOf;rw [hf]
 show letterB (bs f.fixed) (bs f.rest) f.most k=0
 have e1:(bs f.fixed).size=f.fixed.length:=bs_size f.fixed;have e2:(bs f.rest).size=0:=by rw [bs_size];exact hr
 unfold letterB;have e3:fixedB (bs f.fixed) k=0:=by unfold fixedB;rw [dif_neg (by rw [e1];omega)]
 rw [if_pos e3];unfold restB;rw [if_pos (.inr (.inl e2))]
theorem InstW.len_eq {i:InstI} {bound:Int} {f:FormI} (h:InstW i bound f) (hr:f.rest.length=0):i.2.2.2.length=f.fixed.length:=by
 have h1:=h.len
 rcases Nat.lt_or_ge f.fixed.length i.2.2.2.length with h2 | h2
 ·have h3:=(argE_ok (h.args f.fixed.length h2)).1;exact absurd (letter_none h.form hr (Nat.le_refl _)) h3
 ·omega
theorem ptr_form:(match formOf 32 with | some f=>decide (f.fixed.length=2)&&decide (f.rest.length=0)&&decide (letterOf 32 0=99)&&decide (kindT 99=4) | none=>false)=true:=by decide +kernel
theorem fn_form:(match formOf 33 with | some f=>decide (f.fixed.length=1) | none=>false)=true:=by decide +kernel
theorem nums_getD {l:List ArgI} {k:Nat} (h:k<l.length):ixn (nums l) k=(ag l k).2.1:=by
 unfold ixn nums;rw [List.getD_eq_getElem?_getD,List.getElem?_map,List.getElem?_eq_getElem h,ag_of h];rfl
theorem nums_two {l:List Int} (h:l.length=2):l.drop 1=[ixn l 1]:=by
 match l,h with
 | [a,b],_=>rfl
theorem oneT_ok {T:Int→TyI} {M:Int→InstI} {b:List Int} {i:InstI} {f:FormI} {bound:Int} (hout:∀ id,id ∉ b→T id=ty0) (hpos:∀ id,¬ (T id).size<0) (hi:InstW i bound f) (hla:i.2.2.2.length≤65535) (h:(oneT T M i).2.1=true) (h0:(oneT T M i).2.2=0):TyOk T b (oneT T M i).1:=by
 have hin:∀ p,0<(T p).size→p∈b:=fun p hp=>Decidable.byContradiction fun hn=>by rw [hout p hn] at hp;exact absurd hp (by decide)
 have hin2:∀ p,(T p).kind≠0→p∈b:=fun p hp=>Decidable.byContradiction fun hn=>by rw [hout p hn] at hp;exact hp rfl
 have hnl:(nums i.2.2.2).length=i.2.2.2.length:=by unfold nums;rw [List.length_map]
 unfold oneT at *;dsimp only at *
 by_cases h1:i.1=19
 ·rw [if_pos h1];exact .void
 rw [if_neg h1] at h h0 ⊢
 by_cases h1:i.1=20
 ·rw [if_pos h1];exact .bool
 rw [if_neg h1] at h h0 ⊢
 by_cases h1:i.1=21
 ·rw [if_pos h1];exact .int _
 rw [if_neg h1] at h h0 ⊢
 by_cases h1:i.1=23
 ·rw [if_pos h1] at h0 ⊢;dsimp only at h0 ⊢;unfold vectorT at *
  by_cases h2:(T (ixn (nums i.2.2.2) 0)).kind≠2∧(T (ixn (nums i.2.2.2) 0)).kind≠3
  ·rw [if_pos h2] at h0;cases h0
  rw [if_neg h2] at h0 ⊢
  by_cases h3:ixn (nums i.2.2.2) 1<2∨4<ixn (nums i.2.2.2) 1
  ·rw [if_pos h3] at h0;cases h0
  rw [if_neg h3] at h0 ⊢;rw [(wholeT_ok h0).1];exact .vec _ _ (hin2 _ (by omega)) (by omega) (by omega) (by omega)
 rw [if_neg h1] at h h0 ⊢
 by_cases h1:i.1=28
 ·rw [if_pos h1] at h0 ⊢;dsimp only at h0 ⊢;unfold arrayT arrayC at *
  by_cases h2:(T (ixn (nums i.2.2.2) 0)).size=0
  ·rw [if_pos h2] at h0;cases h0
  rw [if_neg h2] at h0 ⊢
  by_cases h3:(M (ixn (nums i.2.2.2) 1)).1≠43∨(T (M (ixn (nums i.2.2.2) 1)).2.1).kind≠3∨firstN (M (ixn (nums i.2.2.2) 1))<1∨4096<firstN (M (ixn (nums i.2.2.2) 1))
  ·rw [if_pos h3] at h0;cases h0
  rw [if_neg h3] at h0 ⊢;obtain ⟨e1,e2,e3⟩:=wholeT_ok h0;rw [e1];have hp:ixn (nums i.2.2.2) 0∈b:=Decidable.byContradiction fun hn=>h2 (by rw [hout _ hn];rfl)
  have hsz:0<(T (ixn (nums i.2.2.2) 0)).size:=by
   have hnn:0<firstN (M (ixn (nums i.2.2.2) 1)):=by omega
   rcases Int.lt_or_lt_of_ne h2 with hlt | hgt
   ·exact absurd hlt (hpos _)
   ·exact hgt
  exact .arr _ _ hp hsz (by omega) (by omega) e2 e3
 rw [if_neg h1] at h h0 ⊢
 by_cases h1:i.1=30
 ·rw [if_pos h1] at h0 ⊢;dsimp only at h0 ⊢;unfold membersT at *
  by_cases h2:(nums i.2.2.2).length<1∨256<(nums i.2.2.2).length
  ·rw [if_pos h2] at h0;cases h0
  rw [if_neg h2] at h0 ⊢;cases hm:memR T (nums i.2.2.2) 0 0 with
  | none=>rw [hm] at h0;cases h0
  | some q =>
   obtain ⟨s,d⟩:=q;rw [hm] at h0;dsimp only at h0 ⊢;obtain ⟨e1,e2,e3⟩:=wholeT_ok h0;rw [e1];exact .str _ _ _ hm (fun p hp=>hin p (memR_in hm p hp)) (show 1≤(nums i.2.2.2).length by omega) (show (nums i.2.2.2).length≤256 by omega) e2 e3
 rw [if_neg h1] at h h0 ⊢
 by_cases h1:i.1=32
 ·rw [if_pos h1] at h0 ⊢;dsimp only at h0 ⊢;have h2:=ptr_form;have h3:=hi.form;rw [h1] at h3;rw [h3] at h2;simp only [Bool.and_eq_true,decide_eq_true_eq] at h2;obtain ⟨⟨⟨a1,a2⟩,a3⟩,a4⟩:=h2;have hl:=hi.len_eq a2;rw [a1] at hl;have hz:0<(T (ixn (nums i.2.2.2) 1)).size:=by
   by_cases hz:(T (ixn (nums i.2.2.2) 1)).size≤0
   ·rw [if_pos hz] at h0;cases h0
   ·omega
  rw [nums_two (by omega)]
  obtain ⟨b1,b2,-,-,b5,-⟩:=argE_ok (hi.args 0 (by omega))
  rw [h1,a3] at b2 b5;rw [a4] at b2;have:=b5 b2;rw [← nums_getD (by omega)] at this
  exact .ptr _ _ (hin _ hz) hz this
 rw [if_neg h1] at h h0 ⊢
 by_cases h1:i.1=33
 ·rw [if_pos h1] at h0 ⊢;dsimp only at h0 ⊢;unfold functionT at *
  by_cases h2:funR T (nums i.2.2.2) 0=true
  ·rw [if_pos h2];have h4:=fn_form;have h3:=hi.form;rw [h1] at h3;rw [h3] at h4;simp only [decide_eq_true_eq] at h4;have hl:=hi.len;refine .fn _ h2 (fun p hp=>?_) (by omega) (by omega)
   rcases funR_in h2 p hp with h | h | h
   ·exact hin p h
   ·exact hin2 p (by omega)
   ·exact hin2 p (by omega)
  ·rw [if_neg h2] at h0;cases h0
 ·rw [if_neg h1] at h;cases h
theorem oneT_op {T:Int→TyI} {M:Int→InstI} {i:InstI} (h:(oneT T M i).2.1=true):i.1∈[19,20,21,23,28,30,32,33]:=by
 unfold oneT at h;dsimp only at h
 repeat' split at h
 all_goals first | (cases h;done) | simp_all
def Once (l:List InstI):Prop:=∀ (j k:Nat) (i i':InstI),l[j]?=some i→l[k]?=some i'→j<k→i'.2.2.1≠0→i.2.2.1≠i'.2.2.1
theorem idsR_at {made:Int→Option Nat} {p:Nat→Int}:∀ {l:List InstI} {k:Nat},(idsR made p l k).1=0→∀ j i,l[j]?=some i→idE1 made p (k+j) i=0
 | [],_,_,j,i,h=>by simp at h
 | x :: r,k,h,j,i,hi=>by
  unfold idsR at h
  by_cases h0:idE1 made p k x≠0
  ·rw [if_pos h0] at h;exact absurd h h0
  ·rw [if_neg h0] at h;cases j with
   | zero=>simp at hi;subst hi;exact Decidable.not_not.1 h0
   | succ j =>
    simp at hi;have:=idsR_at h j i hi;rw [Nat.add_assoc,Nat.add_comm 1 j] at this;exact this
theorem ids_once {bound:Int} {l:List InstI} (h:(idsM bound l).1=0):Once l:=by
 intro j k i i' hj hk hjk h0 he;unfold idsM at h
 split at h
 ·rename_i hc;exact absurd h hc
 ·have h1:=idsR_at h k i' hk;rw [Nat.zero_add] at h1;unfold idE1 at h1;obtain ⟨m,hm,hmj⟩:=madeR_at l 0 j i hj (by rw [he];exact h0)
  rw [he] at hm;rw [hm] at h1;rw [if_pos ⟨h0,by show m<k;omega⟩] at h1
  cases h1
theorem updT_at {α:Type} (T:Int→α) (id:Int) (x:α):updT T id x id=x:=if_pos rfl
theorem updT_ne {α:Type} (T:Int→α) {id y:Int} (x:α) (h:y≠id):updT T id x y=T y:=if_neg h
theorem WellS.st0:WellS st0:=⟨fun _ _=>rfl,List.nodup_nil,fun _=>⟨Int.le_refl _,(by show (0:Int)≤16;decide)⟩,fun k h=>absurd h (Nat.not_lt_zero k)⟩
theorem memR_sum {T:Int→TyI}:∀ {l:List Int} {s d a e:Int},memR T l s d=some (a,e)→a=s+(l.map fun p=>(T p).size).sum∧s≤a
 | [],s,d,a,e,h=>by
  have h2:some (s,d)=some (a,e):=h;cases h2
  simp
 | p :: r,s,d,a,e,h=>by
  unfold memR at h
  split at h
  ·cases h
  ·obtain ⟨h1,h2⟩:=memR_sum h;rw [List.map_cons,List.sum_cons];omega
theorem TyOk.size {T:Int→TyI} {b:List Int} {x:TyI} (h:TyOk T b x):0≤x.size∧(0<x.size ↔ 2≤x.kind∧x.kind≤6)∧x.size≤4096:=by
 cases h with
 | void=>simp [ty0]
 | bool=>simp
 | int s=>simp
 | vec p n h1 h2 h3 h4=>dsimp only;omega
 | arr p n h1 h2 h3 h4 h5 h6 =>
  have:0<n*(T p).size:=Int.mul_pos (by omega) h2
  dsimp only;omega
 | str l s d h1 h2 h3 h4 h5 h6 =>
  obtain ⟨a1,a2⟩:=memR_sum h1;have:0<s:=by
   cases l with
   | nil=>simp at h3
   | cons p r =>
    unfold memR at h1
    split at h1
    ·cases h1
    ·have:=(memR_sum h1).2;omega
  dsimp only;omega
 | ptr c p h1 h2 h3=>simp [ty0]
 | fn l h1 h2 h3 h4=>simp [ty0]
theorem WellS.ok {s:StN} (h:WellS s) (id:Int):s.T id=ty0∨∃ k,∃ hk:k<s.ord.length,s.ord[k]=id∧TyOk s.T (s.ord.take k) (s.T id):=by
 by_cases hi:id∈s.ord
 ·obtain ⟨k,hk,rfl⟩:=List.getElem_of_mem hi;exact .inr ⟨k,hk,rfl,h.made k hk⟩
 ·exact .inl (h.out id hi)
theorem WellS.size {s:StN} (h:WellS s) (id:Int):0≤(s.T id).size∧(0<(s.T id).size ↔ 2≤(s.T id).kind∧(s.T id).kind≤6)∧(s.T id).size≤4096:=by
 rcases h.ok id with h1 | ⟨k,hk,-,h1⟩
 ·rw [h1];simp [ty0]
 ·exact h1.size
theorem memR_max {T:Int→TyI}:∀ {l:List Int} {s d a e:Int},memR T l s d=some (a,e)→d≤e∧∀ p∈l,(T p).depth≤e
 | [],s,d,a,e,h=>by
  have h2:some (s,d)=some (a,e):=h;cases h2
  exact ⟨Int.le_refl _,fun p hp=>by cases hp⟩
 | q :: r,s,d,a,e,h=>by
  unfold memR at h
  split at h
  ·cases h
  ·obtain ⟨h1,h2⟩:=memR_max h;refine ⟨by omega,fun p hp=>?_⟩
   rcases List.mem_cons.1 hp with rfl | hp
   ·omega
   ·exact h2 p hp
theorem TyOk.leafs {T:Int→TyI} {b:List Int} {x:TyI} (h:TyOk T b x) (hk:x.kind=2∨x.kind=3):x.depth=1∧x.size=1:=by
 cases h <;> simp at hk ⊢
theorem WellS.leaf {s:StN} (h:WellS s) (id:Int) (hk:(s.T id).kind=2∨(s.T id).kind=3):(s.T id).depth=1:=by
 rcases h.ok id with h1 | ⟨k,hk',-,h1⟩
 ·rw [h1] at hk;simp [ty0] at hk
 ·exact (h1.leafs hk).1
theorem TyOk.deep {T:Int→TyI} {b:List Int} {x:TyI} (h:TyOk T b x) (hd:∀ p,0≤(T p).depth) (hl:∀ p,(T p).kind=2∨(T p).kind=3→(T p).depth=1):0≤x.depth∧x.depth≤16:=by
 cases h with
 | void=>simp [ty0]
 | bool=>simp
 | int s=>simp
 | vec p n h1 h2 h3 h4=>have:=hl p h2;dsimp only;omega
 | arr p n h1 h2 h3 h4 h5 h6=>have:=hd p;dsimp only;omega
 | str l s d h1 h2 h3 h4 h5 h6=>have:=(memR_max h1).1;dsimp only;omega
 | ptr c p h1 h2 h3=>simp [ty0]
 | fn l h1 h2 h3 h4=>simp [ty0]
theorem nextN_well {s:StN} {i:InstI} {f:FormI} {bound:Int} (h:WellS s) (hi:InstW i bound f) (hla:i.2.2.2.length≤65535) (hE:errN s i=0) (hn:i.2.2.1 ∉ s.ord):WellS (nextN s i):=by
 have hE2:(oneT s.T s.M i).2.2=0:=by
  unfold errN at hE;dsimp only at hE
  split at hE
  ·cases hE
  ·exact hE
 unfold nextN;dsimp only
 by_cases hb:(oneT s.T s.M i).2.1=true
 ·have hok:=oneT_ok h.out (fun id=>by have:=(h.size id).1;omega) hi hla hb hE2
  simp only [hb,if_true];have hT:∀ p∈s.ord,updT s.T i.2.2.1 (oneT s.T s.M i).1 p=s.T p:=fun p hp=>updT_ne _ _ (fun e=>hn (e ▸ hp))
  refine ⟨fun id hid=>?_,?_,fun id=>?_,fun k hk=>?_⟩
  ·rw [List.mem_append,not_or,List.mem_singleton] at hid;exact (updT_ne _ _ hid.2).trans (h.out id hid.1)
  ·rw [List.nodup_append];refine ⟨h.nodup,by simp,fun a ha b hb=>?_⟩
   rw [List.mem_singleton] at hb;rintro rfl;exact hn (hb ▸ ha)
  ·show 0≤(updT s.T i.2.2.1 (oneT s.T s.M i).1 id).depth∧(updT s.T i.2.2.1 (oneT s.T s.M i).1 id).depth≤16
   unfold updT
   split
   ·exact hok.deep (fun p=>(h.deep p).1) h.leaf
   ·exact h.deep id
  ·show TyOk (updT s.T i.2.2.1 (oneT s.T s.M i).1) _ (updT s.T i.2.2.1 (oneT s.T s.M i).1 _)
   dsimp only at hk ⊢;rw [List.length_append,List.length_singleton] at hk
   rcases Nat.lt_or_ge k s.ord.length with h1 | h1
   ·rw [List.getElem_append_left h1,List.take_append_of_le_length (Nat.le_of_lt h1),hT _ (List.getElem_mem h1)];exact (h.made k h1).congr (fun p hp=>hT p (List.mem_of_mem_take hp)) (fun p hp=>hp)
   ·obtain rfl:k=s.ord.length:=by omega
    rw [List.getElem_append_right (Nat.le_refl _)];simp only [Nat.sub_self,List.getElem_cons_zero,List.take_left'];rw [updT_at];exact hok.congr hT (fun p hp=>by simpa using hp)
 ·have hb:(oneT s.T s.M i).2.1=false:=by simpa using hb
  simp only [hb,Bool.false_eq_true,if_false];exact ⟨h.out,h.nodup,h.deep,h.made⟩
theorem newL_well {l:List InstI} {bound:Int} (hs:∀ i∈l,(rawR i bound).1=0) (hu:Once l) :
  ∀ (n k:Nat) (s s':StN) (at_:Int),l.length-k=n→k≤l.length→WellS s→(∀ id∈s.ord,id≠0∧∃ j i,j<k∧l[j]?=some i∧i.2.2.1=id)→newL s (l.drop k) k=(0,at_,s')→WellS s'∧(∀ id∈s'.ord,id≠0∧∃ j i,j<l.length∧l[j]?=some i∧i.2.2.1=id)
 | 0,k,s,s',at_,h1,h2,hw,ho,h=>by
  obtain rfl:k=l.length:=by omega
  rw [List.drop_length] at h;have h3:((0:Int),(0:Int),s)=(0,at_,s'):=h;cases h3
  exact ⟨hw,ho⟩
 | n+1,k,s,s',at_,h1,h2,hw,ho,h=>by
  have hk:k<l.length:=by omega
  have hgi:l[k]?=some l[k]:=List.getElem?_eq_getElem hk;rw [newL_step hgi] at h;obtain ⟨f,hi⟩:=rawR_ok (hs l[k] (List.getElem_mem hk));have hla:=rawR_args (hs l[k] (List.getElem_mem hk));generalize l[k]=i at *
  by_cases hE:errN s i≠0
  ·rw [if_pos hE] at h;injection h with h3 _
   exact absurd h3 hE
  ·rw [if_neg hE] at h;have hE:=Decidable.not_not.1 hE
   by_cases hb:(oneT s.T s.M i).2.1=true
   ·have hn:i.2.2.1≠0:=hi.res_ne (oneT_op hb);have hnin:i.2.2.1 ∉ s.ord:=fun hin=>by
     obtain ⟨-,j,i',hj,hji,he⟩:=ho _ hin;exact hu j k i' i hji hgi hj hn he
    refine newL_well hs hu n (k+1) _ _ _ (by omega) (by omega) (nextN_well hw hi (Nat.le_of_lt hla) hE hnin) ?_ h
    intro id hid;unfold nextN at hid;dsimp only at hid;rw [if_pos hb,List.mem_append,List.mem_singleton] at hid
    rcases hid with hid | rfl
    ·obtain ⟨a,j,i',hj,hr⟩:=ho id hid;exact ⟨a,j,i',by omega,hr⟩
    ·exact ⟨hn,k,i,by omega,hgi,rfl⟩
   ·have hb:(oneT s.T s.M i).2.1=false:=by simpa using hb
    have e1:(nextN s i).T=s.T:=by unfold nextN;dsimp only;rw [if_neg (by rw [hb];decide)]
    have e2:(nextN s i).ord=s.ord:=by unfold nextN;dsimp only;rw [if_neg (by rw [hb];decide)]
    refine newL_well hs hu n (k+1) _ _ _ (by omega) (by omega) ⟨by rw [e1,e2];exact hw.out,by rw [e2];exact hw.nodup,by rw [e1];exact hw.deep,by rw [e1];simp only [e2];exact hw.made⟩ ?_ h
    intro id hid;rw [e2] at hid;obtain ⟨a,j,i',hj,hr⟩:=ho id hid;exact ⟨a,j,i',by omega,hr⟩
theorem newM_well {bound:Int} {l:List InstI} {at_:Int} {s:StN} (h:newM bound l=(0,at_,s)):WellS s∧∀ id∈s.ord,id≠0:=by
 unfold newM at h
 split at h
 ·rename_i hc
  injection h with h1 _
  exact absurd h1 hc
 ·rename_i hc
  have hc:=Decidable.not_not.1 hc;obtain ⟨h1,h2⟩:=newL_well (ids_shape hc) (ids_once hc) (l.length) 0 st0 s at_ (by omega) (Nat.zero_le _) WellS.st0 (fun id hid=>by cases hid) h
  exact ⟨h1,fun id hid=>(h2 id hid).1⟩
end
section
def ofL (name:List UInt8) (l:List (List UInt8)):List UInt8:=name++[40]++Lib.join l [44]++[41]
def textT (T:Int→TyI):Nat→Int→List UInt8
 | 0,_=>[]
 | q+1,id =>
  if (T id).kind=1 then [118,111,105,100]
  else if (T id).kind=2 then [98,111,111,108]
  else if (T id).kind=3 then (if (T id).signed=true then [105,110,116] else [117,105,110,116])
  else if (T id).kind=4 then ofL ([118,101,99]++Lib.itoa (T id).times) [textT T q (T id).part]
  else if (T id).kind=5 then ofL ([97,114,114,97,121]++Lib.itoa (T id).times) [textT T q (T id).part]
  else if (T id).kind=6 then ofL [115,116,114,117,99,116] ((T id).parts.map (textT T q))
  else if (T id).kind=7 then ofL (enumN 99 (T id).cls) ((T id).parts.map (textT T q))
  else if (T id).kind=8 then ofL [102,110] ((T id).parts.map (textT T q))
  else []
structure Typed (T:Int→TyI):Prop where
 ok:∀ id,T id=ty0∨∃ b,TyOk T b (T id)
 deep:∀ id,0≤(T id).depth∧(T id).depth≤16
theorem WellS.typed {s:StN} (h:WellS s):Typed s.T :=
 ⟨fun id=>(h.ok id).elim .inl (fun ⟨_,_,_,hk⟩=>.inr ⟨_,hk⟩),h.deep⟩
theorem Typed.leaf {T:Int→TyI} (h:Typed T) (id:Int) (hk:(T id).kind=2∨(T id).kind=3):(T id).depth=1∧(T id).size=1:=by
 rcases h.ok id with h1 | ⟨b,h1⟩
 ·rw [h1] at hk;simp [ty0] at hk
 ·exact h1.leafs hk
def rankT (x:TyI):Int:=if x.kind=8 then 18 else if x.kind=7 then 17 else x.depth
theorem Typed.size {T:Int→TyI} (h:Typed T) (id:Int):0≤(T id).size∧(0<(T id).size ↔ 2≤(T id).kind∧(T id).kind≤6)∧(T id).size≤4096:=by
 rcases h.ok id with h1 | ⟨b,h1⟩
 ·rw [h1];simp [ty0]
 ·exact h1.size
theorem rankT_plain {T:Int→TyI} (h:Typed T) {id:Int} (hp:0<(T id).size):rankT (T id)=(T id).depth:=by
 have:=(h.size id).2.1.1 hp;unfold rankT;rw [if_neg (by omega),if_neg (by omega)]
theorem rankT_part {T:Int→TyI} (h:Typed T) {id:Int} (hk:(T id).kind=4∨(T id).kind=5):rankT (T (T id).part)<rankT (T id):=by
 rcases h.ok id with h1 | ⟨b,h1⟩
 ·rw [h1] at hk;simp [ty0] at hk
 ·generalize hx:T id=x at *;cases h1 <;> simp at hk
  ·rename_i p n h1 h2 h3 h4
   have e:=(h.leaf p h2)
   show rankT (T p)<(T p).depth+1
   rw [rankT_plain h (by omega)]
   omega
  ·rename_i p n h1 h2 h3 h4 h5 h6
   show rankT (T p)<(T p).depth+1
   rw [rankT_plain h h2];omega
end
section
def fitsC (op:Int) (l:List Int):Bool:=match formOf op with
 | none=>false
 | some f=>((List.range l.length).all fun i=>decide (ix l i≠0)&&decide (kindT (letterOf op i)=ix l i))&&tailB f l.length
open Classical in
theorem fitsB_eq (op:Int) (l:List Int):fitsB op l=fitsC op l:=by
 unfold fitsB fitsC;cases formOf op with
 | none=>rfl
 | some f =>
  dsimp only;congr 1
  rw [Bool.eq_iff_iff,List.all_eq_true];refine Iff.trans decide_eq_true_iff ?_;unfold kindsAt
  constructor
  ·intro h i hi;have:=h i (List.mem_range.1 hi);simp [this.1,this.2]
  ·intro h i hi;have:=h i (List.mem_range.2 hi);simpa using this
noncomputable def rawC (i:InstI) (bound:Int):Int × List Int:=match formOf i.1 with
 | none=>(30,[])
 | some f =>
  let st:=loopR i.1 bound i.2.2.2 (headsR f i bound) i.2.2.2.length
  let e:=if st.1=0 then (if fitsC i.1 (kinds i.2.2.2)=true then 0 else 42) else st.1
  let e:=if e=0∧65535≤st.2.2 then 25 else e
  if e=0 then (0,st.2.1) else (e,[])
theorem rawR_eq (i:InstI) (bound:Int):rawR i bound=rawC i bound:=by
 unfold rawR rawC wholeE;rw [fitsB_eq];cases formOf i.1 <;> rfl
noncomputable def shapeC (bound:Int):List InstI→Nat→Int→Int × Int
 | [],_,_=>(0,0)
 | i :: r,k,left =>
  if (rawC i bound).1≠0 then ((rawC i bound).1,k)
  else if left-(1+(rawC i bound).2.length)<0 then (4,k)
  else shapeC bound r (k+1) (left-(1+(rawC i bound).2.length))
theorem shapeR_eq (bound:Int):∀ (l:List InstI) (k:Nat) (left:Int),shapeR bound l k left=shapeC bound l k left
 | [],_,_=>rfl
 | i :: r,k,left=>by
  unfold shapeR shapeC;rw [rawR_eq,shapeR_eq bound r]
noncomputable def layC (bound:Int) (l:List InstI):Int × Int :=
 let s:=if bound=0∨65536<bound then (24,0) else shapeC bound l 0 1048571
 if s.1≠0 then s else if (cutR l).1=true then (0,0) else if (cutR l).2.1<l.length then (50,(cutR l).2.1) else (51,(cutR l).2.1)
noncomputable def idsC (bound:Int) (l:List InstI):Int × Int:=if (layC bound l).1≠0 then layC bound l else idsR (madeR l 0) (cutR l).2.2 l 0
theorem idsM_eq (bound:Int) (l:List InstI):idsM bound l=idsC bound l:=by
 unfold idsM idsC layM layC shapeM;rw [shapeR_eq]
end
end Go.Proofs.YtdebjkiilnhgpaaGreatDoor
