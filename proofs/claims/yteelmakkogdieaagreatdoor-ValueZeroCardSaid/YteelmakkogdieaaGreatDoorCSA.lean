/- Plain: a table of types as the document keeps it: each type's parts one by one. -/
import Derived.Test.YteelmakkogdieaaGreatDoorCUA
import Derived.Test.YteelmakkogdieaaGreatDoorCRA
set_option maxRecDepth 100000
set_option maxHeartbeats 4000000
namespace Go.Proofs.YteelmakkogdieaaGreatDoor
section
def rparts (x:TyI):List Int:=if 0<x.times then List.replicate x.times.toNat x.part else x.parts
structure ShapeT (x:TyI):Prop where
 rep:0<x.times→(x.kind=4∨x.kind=5)∧x.parts=[]
 lst:¬ 0<x.times→x.times=0∧x.kind≠4∧x.kind≠5
 few:x.times≤4096
theorem Typed.shape {T:Int→TyI} (h:Typed T) (id:Int):ShapeT (T id):=by
 rcases h.ok id with h1 | ⟨b,h1⟩
 ·rw [h1];exact ⟨fun h=>absurd h (by decide),fun _=>⟨rfl,by decide,by decide⟩,by decide⟩
 ·generalize T id=x at *;cases h1 with
  | void=>exact ⟨fun h=>absurd h (by decide),fun _=>⟨rfl,by decide,by decide⟩,by decide⟩
  | bool=>exact ⟨fun h=>absurd h (by decide),fun _=>⟨rfl,by dsimp only;decide,by dsimp only;decide⟩,by decide⟩
  | int s=>exact ⟨fun h=>absurd h (by show ¬ (0:Int)<0;decide),fun _=>⟨rfl,by dsimp only;decide,by dsimp only;decide⟩,(by show (0:Int)≤4096;decide)⟩
  | vec p n h1 h2 h3 h4=>exact ⟨fun _=>⟨.inl rfl,rfl⟩,fun hn=>absurd (show 0<n by omega) hn,(by show n≤4096;omega)⟩
  | arr p n h1 h2 h3 h4 h5 h6=>exact ⟨fun _=>⟨.inr rfl,rfl⟩,fun hn=>absurd (show 0<n by omega) hn,(by show n≤4096;omega)⟩
  | str l s d h1 h2 h3 h4 h5 h6=>exact ⟨fun h=>absurd h (by show ¬ (0:Int)<0;decide),fun _=>⟨rfl,by dsimp only;decide,by dsimp only;decide⟩,(by show (0:Int)≤4096;decide)⟩
  | ptr c p h1 h2 h3=>exact ⟨fun h=>absurd h (by show ¬ (0:Int)<0;decide),fun _=>⟨rfl,by dsimp only;decide,by dsimp only;decide⟩,(by show (0:Int)≤4096;decide)⟩
  | fn l h1 h2 h3 h4=>exact ⟨fun h=>absurd h (by show ¬ (0:Int)<0;decide),fun _=>⟨rfl,by dsimp only;decide,by dsimp only;decide⟩,(by show (0:Int)≤4096;decide)⟩
theorem ShapeT.len {x:TyI} (h:ShapeT x):((rparts x).length:Int)=cntT x:=by
 unfold rparts cntT
 by_cases h0:0<x.times
 ·rw [if_pos h0,(h.rep h0).2,List.length_replicate];simp
  omega
 ·rw [if_neg h0,(h.lst h0).1];omega
theorem ShapeT.at_ {x:TyI} (h:ShapeT x) {j:Nat} (hj:j<(rparts x).length):partT x (j:Nat)=(ix (rparts x) j,true):=by
 have hl:=h.len;unfold partT;rw [if_neg (by omega)]
 unfold rparts at hj ⊢
 by_cases h0:0<x.times
 ·rw [if_pos h0] at hj ⊢;rw [List.length_replicate] at hj;rw [if_pos h0,ix_replicate hj]
 ·rw [if_neg h0,if_neg h0];rfl
theorem ShapeT.part {x:TyI} (h:ShapeT x) (k:Int):partT x k=if k<0∨((rparts x).length:Int)≤k then (0,false) else (ix (rparts x) k.toNat,true):=by
 by_cases h0:k<0∨((rparts x).length:Int)≤k
 ·rw [if_pos h0];rw [h.len] at h0;unfold partT;rw [if_pos h0]
 ·rw [if_neg h0,← h.at_ (show k.toNat<_ by omega),Int.toNat_of_nonneg (by omega)]
theorem ShapeT.partN {x:TyI} (h:ShapeT x) {j:Nat} (hj:j<(rparts x).length):Go.Proofs.YteelmakkogdieaaGreatDoor.partN x j=ix (rparts x) j:=by
 show (partT x (j:Nat)).1=_
 rw [h.at_ hj]
theorem ShapeT.sumP {T:Int→TyI} {x:TyI} (h:ShapeT x):∀ k:Nat,k≤(rparts x).length→Go.Proofs.YteelmakkogdieaaGreatDoor.sumP T x k=sumN T (rparts x) k
 | 0,_=>by unfold Go.Proofs.YteelmakkogdieaaGreatDoor.sumP sumN;simp
 | k+1,hk=>by
  have ih:=ShapeT.sumP (T:=T) h k (by omega)
  show Go.Proofs.YteelmakkogdieaaGreatDoor.sumP T x k+(T (Go.Proofs.YteelmakkogdieaaGreatDoor.partN x k)).size=_
  rw [ih,h.partN (by omega),sumN_step (by omega)]
theorem Typed.sz0 {T:Int→TyI} (h:Typed T) (id:Int):0≤(T id).size∧(T id).size≤4096:=⟨(h.size id).1,(h.size id).2.2⟩
theorem sumN_mono {T:Int→TyI} (hT:∀ id,0≤(T id).size) (l:List Int):∀ (n k:Nat),sumN T l k≤sumN T l (k+n)
 | 0,k=>Int.le_refl _
 | n+1,k=>by
  have ih:=sumN_mono hT l n k
  rcases Nat.lt_or_ge (k+n) l.length with h | h
  ·have:=sumN_step (T:=T) (l:=l) (k:=k+n) h;have h2:=hT (ix l (k+n));rw [← Nat.add_assoc,this];omega
  ·have e:sumN T l (k+(n+1))=sumN T l (k+n):=by unfold sumN;rw [List.take_of_length_le (by omega),List.take_of_length_le h]
   rw [e];exact ih
theorem sumN_le {T:Int→TyI} (hT:∀ id,0≤(T id).size) (l:List Int) {j k:Nat} (h:j≤k):sumN T l j≤sumN T l k:=by
 have:=sumN_mono hT l (k-j) j;rwa [show j+(k-j)=k by omega] at this
theorem Typed.rp_sum {T:Int→TyI} (h:Typed T) {id:Int} (hk:4≤(T id).kind∧(T id).kind≤6):sumN T (rparts (T id)) (rparts (T id)).length=(T id).size:=by
 have hs:=h.shape id
 rcases h.ok id with h1 | ⟨b,h1⟩
 ·rw [h1] at hk;exact absurd hk.1 (by decide)
 ·have h2:=h1.sizes h;have hl:=hs.len;have hp:=(h.size id).2.1.2 (by omega)
  have hc:0<cntT (T id):=by
   generalize T id=x at *;cases h1 <;> simp [ty0] at hk hp ⊢ <;> unfold cntT <;> simp <;> omega
  have h3:=h2.whole hc (by omega) (by omega)
  rw [h3,← hl];exact (hs.sumP _ (Nat.le_refl _)).symm
theorem Typed.rp_plain {T:Int→TyI} (h:Typed T) {id:Int} (hp:0<(T id).size) {j:Nat} (hj:j<(rparts (T id)).length):0<(T (ix (rparts (T id)) j)).size:=by
 have hs:=h.shape id
 rcases h.ok id with h1 | ⟨b,h1⟩
 ·rw [h1] at hp;exact absurd hp (by decide)
 ·rw [← hs.partN hj];exact h1.part_plain h hp (by rw [← hs.len];omega)
def maxN (T:Int→TyI) (l:List Int):Nat→Int
 | 0=>0
 | k+1=>max (maxN T l k) (T (ix l k)).depth
theorem maxN_bd {T:Int→TyI} (hT:∀ id,(T id).depth≤16) (l:List Int):∀ k,0≤maxN T l k∧maxN T l k≤16
 | 0=>⟨Int.le_refl _,by show (0:Int)≤16;decide⟩
 | k+1=>by
  have ih:=maxN_bd hT l k;have:=hT (ix l k)
  show 0≤max _ _∧max _ _≤16
  omega
theorem maxN_ge (T:Int→TyI) (l:List Int) {j:Nat}:∀ k,j<k→(T (ix l j)).depth≤maxN T l k
 | 0,h=>absurd h (Nat.not_lt_zero j)
 | k+1,h=>by
  show _≤max (maxN T l k) (T (ix l k)).depth
  rcases Nat.lt_succ_iff_lt_or_eq.1 h with h1 | rfl
  ·have:=maxN_ge T l k h1;omega
  ·omega
theorem maxN_fold (T:Int→TyI) (l:List Int):∀ k,k≤l.length→maxN T l k=((l.take k).map fun p=>(T p).depth).foldl max 0
 | 0,_=>rfl
 | k+1,h=>by
  have ih:=maxN_fold T l k (by omega)
  rw [List.take_succ_eq_append_getElem (by omega),List.map_append,List.foldl_append,← ih]
  show max (maxN T l k) (T (ix l k)).depth=_
  rw [ix_of (by omega)]
  rfl
theorem memR_dep {T:Int→TyI}:∀ {l:List Int} {s d a e:Int},memR T l s d=some (a,e)→e=(l.map fun p=>(T p).depth).foldl max d
 | [],s,d,a,e,h=>by
  have h2:some (s,d)=some (a,e):=h;cases h2
  rfl
 | p :: r,s,d,a,e,h=>by
  unfold memR at h
  split at h
  ·cases h
  ·have ih:=memR_dep h;exact ih
theorem memR_plain {T:Int→TyI}:∀ {l:List Int} {s d:Int},(∀ p∈l,0<(T p).size)→∃ a e,memR T l s d=some (a,e)
 | [],s,d,_=>⟨s,d,rfl⟩
 | p :: r,s,d,h=>by
  have h0:=h p List.mem_cons_self;unfold memR;rw [if_neg (by omega)]
  exact memR_plain (fun q hq=>h q (List.mem_cons_of_mem _ hq))
theorem memR_of {T:Int→TyI} {l:List Int} (h:∀ p∈l,0<(T p).size):memR T l 0 0=some (sumN T l l.length,maxN T l l.length):=by
 obtain ⟨a,e,hm⟩:=memR_plain (s:=0) (d:=0) h;have h1:=(memR_sum hm).1;have h2:=memR_dep hm;rw [hm,sumN_all,maxN_fold T l _ (Nat.le_refl _),List.take_length,← h2,h1,Int.zero_add]
theorem maxN_rep (T:Int→TyI) (p:Int) (n:Nat) (hp:0≤(T p).depth):∀ k,k≤n→maxN T (List.replicate n p) k=if k=0 then 0 else (T p).depth
 | 0,_=>rfl
 | k+1,h=>by
  have ih:=maxN_rep T p n hp k (by omega)
  show max (maxN T (List.replicate n p) k) (T (ix (List.replicate n p) k)).depth=_
  rw [ih,ix_replicate (by omega),if_neg (show ¬ k+1=0 by omega)]
  split <;> omega
theorem sumN_rep (T:Int→TyI) (p:Int) (n:Nat):∀ k,k≤n→sumN T (List.replicate n p) k=k*(T p).size
 | 0,_=>by unfold sumN;simp
 | k+1,h=>by
  rw [sumN_step (by rw [List.length_replicate];omega),sumN_rep T p n k (by omega),ix_replicate (by omega)]
  have:((k+1:Nat):Int)=(k:Int)+1:=by omega
  rw [this,Int.add_mul,Int.one_mul]
theorem Typed.rp_deep {T:Int→TyI} (h:Typed T) {id:Int} (hp:0<(T id).size):(T id).depth=maxN T (rparts (T id)) (rparts (T id)).length+1:=by
 rcases h.ok id with h1 | ⟨b,h1⟩
 ·rw [h1] at hp;exact absurd hp (by decide)
 ·have hd:=fun p=>(h.deep p).1
  generalize T id=x at *;cases h1 with
  | void=>exact absurd hp (by decide)
  | bool=>rfl
  | int s=>rfl
  | vec p n h1 h2 h3 h4 =>
   have e:rparts { ty0 with kind:=4,part:=p,times:=n,size:=n,depth:=(T p).depth+1 }=List.replicate n.toNat p:=if_pos (show 0<n by omega)
   rw [e,List.length_replicate,maxN_rep T p _ (hd p) _ (Nat.le_refl _),if_neg (by omega)]
  | arr p n h1 h2 h3 h4 h5 h6 =>
   have e:rparts { ty0 with kind:=5,part:=p,times:=n,size:=n*(T p).size,depth:=(T p).depth+1 }=List.replicate n.toNat p:=if_pos (show 0<n by omega)
   rw [e,List.length_replicate,maxN_rep T p _ (hd p) _ (Nat.le_refl _),if_neg (by omega)]
  | str l s d h1 h2 h3 h4 h5 h6 =>
   have e:rparts { ty0 with kind:=6,parts:=l,size:=s,depth:=d+1 }=l:=if_neg (by show ¬ (0:Int)<0;decide)
   have hm:=memR_of (memR_in h1);rw [h1] at hm;injection hm with hm
   injection hm with _ hm
   rw [e,← hm]
  | ptr c p h1 h2 h3=>exact absurd hp (by show ¬ (0:Int)<0;decide)
  | fn l h1 h2 h3 h4=>exact absurd hp (by show ¬ (0:Int)<0;decide)
theorem Typed.rp_depth {T:Int→TyI} (h:Typed T) {id:Int} (hp:0<(T id).size) {j:Nat} (hj:j<(rparts (T id)).length):(T (ix (rparts (T id)) j)).depth<(T id).depth:=by
 rw [h.rp_deep hp];have:=maxN_ge T (rparts (T id)) _ hj;omega
theorem Typed.rp_few {T:Int→TyI} (h:Typed T) (id:Int):(rparts (T id)).length≤65535:=by
 have hs:=(h.shape id).len;have:cntT (T id)≤65535:=by
  rcases h.ok id with h | ⟨b,h⟩
  ·rw [h];decide
  ·generalize T id=x at *;unfold cntT;cases h <;> simp [ty0] <;> omega
 omega
end
section
open Go.RowKit
abbrev RtE:=Int × SlI
def RtC (T:Int→TyI):List RtE→List Value
 | []=>[]
 | e :: r=>.int .u32 e.1 :: .int .u8 (T e.1).kind :: .bool (T e.1).signed :: .int .u32 (T e.1).cls :: .slice e.2.1 e.2.2.1 e.2.2.2 :: RtC T r
def eg (l:List RtE) (k:Nat):RtE:=l.getD k (0,sl0)
theorem RtC_length (T:Int→TyI) (l:List RtE):(RtC T l).length=l.length*5:=by
 induction l with
 | nil=>rfl
 | cons p r ih=>simp only [RtC,List.length_cons,ih];omega
theorem RtC_at {T:Int→TyI}:∀ {l:List RtE} {k:Nat},k<l.length→(RtC T l)[k*5]?=some (.int .u32 (eg l k).1)∧(RtC T l)[k*5+1]?=some (.int .u8 (T (eg l k).1).kind)∧(RtC T l)[k*5+2]?=some (.bool (T (eg l k).1).signed)∧(RtC T l)[k*5+3]?=some (.int .u32 (T (eg l k).1).cls) ∧
  (RtC T l)[k*5+4]?=some (.slice (eg l k).2.1 (eg l k).2.2.1 (eg l k).2.2.2)
 | p :: r,0,_=>⟨rfl,rfl,rfl,rfl,rfl⟩
 | p :: r,k+1,h=>by
  have h1:=RtC_at (T:=T) (l:=r) (k:=k) (by simpa using h)
  have e:(k+1)*5=k*5+5:=by omega
  rw [e];exact h1
theorem RtC_congr {T T':Int→TyI}:∀ {l:List RtE},(∀ e∈l,T' e.1=T e.1)→RtC T' l=RtC T l
 | [],_=>rfl
 | p :: r,h=>by
  have h0:=h p List.mem_cons_self
  show _ :: _ :: _ :: _ :: _ :: RtC T' r=_ :: _ :: _ :: _ :: _ :: RtC T r
  rw [h0,RtC_congr (fun e he=>h e (List.mem_cons_of_mem _ he))]
theorem RtC_append (T:Int→TyI) (e:RtE):∀ l:List RtE,RtC T (l++[e])=RtC T l++[.int .u32 e.1,.int .u8 (T e.1).kind,.bool (T e.1).signed,.int .u32 (T e.1).cls,.slice e.2.1 e.2.2.1 e.2.2.2]
 | []=>rfl
 | p :: r=>by
  show _ :: _ :: _ :: _ :: _ :: RtC T (r++[e])=_
  rw [RtC_append T e r];rfl
theorem eg_of {l:List RtE} {k:Nat} (h:k<l.length):eg l k=l[k]:=by simp [eg,List.getD,List.getElem?_eq_getElem h]
theorem eg_mem {l:List RtE} {k:Nat} (h:k<l.length):eg l k∈l:=by rw [eg_of h];exact List.getElem_mem h
theorem Reads.rts_len {w:World} {B n:Nat} {A:Option Addr} {T:Int→TyI} {l:List RtE} (h:Reads w B 5 A n (RtC T l)):l.length=n:=by have:=h.1;rw [RtC_length] at this;omega
theorem Reads.rts {w:World} {B n:Nat} {A:Option Addr} {T:Int→TyI} {l:List RtE} (h:Reads w B 5 A n (RtC T l)) (hn:0<n) :
  ∃ b off,A=some ⟨b,off,none⟩∧b<B∧∀ k,k<n→w.cell? ⟨b,off+k*5,none⟩=some (.int .u32 (eg l k).1)∧w.cell? ⟨b,off+k*5+1,none⟩=some (.int .u8 (T (eg l k).1).kind)∧w.cell? ⟨b,off+k*5+2,none⟩=some (.bool (T (eg l k).1).signed) ∧
   w.cell? ⟨b,off+k*5+3,none⟩=some (.int .u32 (T (eg l k).1).cls)∧w.cell? ⟨b,off+k*5+4,none⟩=some (.slice (eg l k).2.1 (eg l k).2.2.1 (eg l k).2.2.2):=by
 have hl:=h.rts_len;obtain ⟨ad,rfl,hb,hc⟩:=h.2 hn;obtain ⟨b,off,spot⟩:=ad;have h0:=hc 0 _ (RtC_at (T:=T) (l:=l) (k:=0) (by omega)).1
 have hs:spot=none:=by simpa [Addr.add] using World.cell?_spot h0
 subst hs;refine ⟨b,off,rfl,hb,fun k hk=>?_⟩
 obtain ⟨h0,h1,h2,h3,h4⟩:=RtC_at (T:=T) (l:=l) (k:=k) (by omega)
 have e:=fun j=>add_plain b off j
 refine ⟨?_,?_,?_,?_,?_⟩
 ·rw [← e];exact hc _ _ h0
 ·rw [Nat.add_assoc,← e];exact hc _ _ h1
 ·rw [Nat.add_assoc,← e];exact hc _ _ h2
 ·rw [Nat.add_assoc,← e];exact hc _ _ h3
 ·rw [Nat.add_assoc,← e];exact hc _ _ h4
def rtV (id:Int) (x:TyI) (s:SlI):Array Value:=#[.int .u32 id,.int .u8 x.kind,.bool x.signed,.int .u32 x.cls,.slice s.1 s.2.1 s.2.2]
structure RTabA (w:World) (g:Nat) (T:Int→TyI) (ord:List Int) (A:Option Addr) (n c:Nat) (es:List RtE):Prop where
 cel:w.cell? ⟨g,0,none⟩=some (.slice A n c)
 row:Reads w w.heap.size 5 A n (RtC T es)
 ord_:es.map (·.1)=ord
 few:n≤7100000000000
 parts:∀ e∈es,Reads w w.heap.size 1 e.2.1 e.2.2.1 (Ints .u32 (rparts (T e.1)))∧e.2.2.1≤e.2.2.2
def RTab (w:World) (p:Option Addr) (T:Int→TyI) (ord:List Int):Prop:=(p=none∧ord=[])∨∃ g A n c es,p=some ⟨g,0,none⟩∧RTabA w g T ord A n c es
theorem RTabA.step {w w':World} {g:Nat} {T:Int→TyI} {ord:List Int} {A:Option Addr} {n c:Nat} {es:List RtE} (h:RTabA w g T ord A n c es) (hb:Below w.heap.size w w'):RTabA w' g T ord A n c es :=
 ⟨cell_on h.cel hb,(h.row.below hb).more hb.size,h.ord_,h.few,fun e he=>⟨((h.parts e he).1.below hb).more hb.size,(h.parts e he).2⟩⟩
theorem RTab.step {w w':World} {p:Option Addr} {T:Int→TyI} {ord:List Int} (h:RTab w p T ord) (hb:Below w.heap.size w w'):RTab w' p T ord:=by
 rcases h with h | ⟨g,A,n,c,es,h1,h2⟩
 ·exact .inl h
 ·exact .inr ⟨g,A,n,c,es,h1,h2.step hb⟩
def FindIs (T:Int→TyI) (ord:List Int) (id:Int) (w:World) (e:Ending) (w':World):Prop :=
 ∃ (i:Int) (s:SlI),e=.returned (.tuple #[.agg (rtV i (T id) s),.bool (decide (id∈ord))])∧Reads w' w'.heap.size 1 s.1 s.2.1 (Ints .u32 (rparts (T id)))∧s.2.1≤s.2.2∧Below w.heap.size w w'
theorem five_ {w:World} {g:Nat} {t:TypeId} {x0 x1 x2 x3 x4:Value} (h:Blk w g t #[x0,x1,x2,x3,x4]):w.cell? ⟨g,0,none⟩=some x0∧w.cell? ⟨g,1,none⟩=some x1∧w.cell? ⟨g,2,none⟩=some x2∧w.cell? ⟨g,3,none⟩=some x3∧w.cell? ⟨g,4,none⟩=some x4 :=
 ⟨h.cell 0,h.cell 1,h.cell 2,h.cell 3,h.cell 4⟩
abbrev put5 (W:World) (g:Nat) (y0 y1 y2 y3 y4:Value):World:=((((W.setCell ⟨g,0,none⟩ y0).setCell ⟨g,1,none⟩ y1).setCell ⟨g,2,none⟩ y2).setCell ⟨g,3,none⟩ y3).setCell ⟨g,4,none⟩ y4
theorem blk_put5 {W:World} {g:Nat} {t:TypeId} {x0 x1 x2 x3 x4:Value} (h:Blk W g t #[x0,x1,x2,x3,x4]) (y0 y1 y2 y3 y4:Value):Blk (put5 W g y0 y1 y2 y3 y4) g t #[y0,y1,y2,y3,y4]:=by
 simpa using ((((h.set_ 0 y0).set_ 1 y1).set_ 2 y2).set_ 3 y3).set_ 4 y4
theorem below_put5 {B:Nat} {w W:World} {g:Nat} (h:Below B w W) (hg:B≤g) (y0 y1 y2 y3 y4:Value):Below B w (put5 W g y0 y1 y2 y3 y4) :=
 ((((h.setCell (p:=⟨g,0,none⟩) hg _).setCell (p:=⟨g,1,none⟩) hg _).setCell (p:=⟨g,2,none⟩) hg _).setCell (p:=⟨g,3,none⟩) hg _).setCell (p:=⟨g,4,none⟩) hg _
theorem load_rt {W:World} {g:Nat} {i:Int} {y:TyI} {s:SlI} (k:Blk W g 188 (rtV i y s)):(loadVar 188 ⟨g,0,none⟩).run Tryz.prog W=.ok (.agg (rtV i y s)) W:=by
 obtain ⟨z0,z1,z2,z3,z4⟩:=five_ k;unfold rtV;go_simp
theorem rt_end {fn:Func} {p q:Tmp} (h:fn.results=#[.cell p 188,.tmp q]) (tmps:Array Value) {W:World} {g:Nat} {i:Int} {y:TyI} {s:SlI} {v:Value} (hp:tmps.getD p undef=.pointer (some ⟨g,0,none⟩)) (hq:tmps.getD q undef=v) (k:Blk W g 188 (rtV i y s)) :
  (results fn tmps).run Tryz.prog W=.ok (.tuple #[.agg (rtV i y s),v]) W:=by
 have ha:(asAddr (.pointer (some ⟨g,0,none⟩))).run Tryz.prog W=.ok ⟨g,0,none⟩ W:=rfl;rw [results_ct1 h,hp,ha];simp only [Result.andThen_ok];rw [load_rt k,hq];simp only [Result.andThen_ok]
theorem rfind_any (p:Option Addr) (T:Int→TyI) (ord:List Int) (id:Int) (w:World) (h:RTab w p T ord) (hout:∀ id,id ∉ ord→T id=ty0) :
  Calls Tryz.prog 122 #[.pointer p,.int .u32 id] w (FindIs T ord id w):=by
 have hb:=(Below.refl w.heap.size w).alloc (Nat.le_refl _) (.cells (rtV 0 ty0 sl0) 188);have kR:=Blk.new w 188 (rtV 0 ty0 sl0)
 rcases h with ⟨rfl,rfl⟩ | ⟨g,A,n,c,es,rfl,hA⟩
 ·have h1:=hout id (by simp)
  unfold FindIs;rw [h1];clear hout h1;go_enter Tryz.func122,Tryz.ntmps122;go_wp2_with fail;exact bodyPost_ret (rt_end (i:=0) (y:=ty0) (s:=sl0) rfl _ rfl rfl kR) rfl ⟨0,sl0,by simp,Reads.none_,Nat.le_refl _,hb⟩
 ·obtain ⟨hc,hr,ho,hn,hp⟩:=hA;have hlen:=hr.rts_len;have c1:=(hb.cell (p:=⟨g,0,none⟩) (World.block_lt_of_cell? w _ hc)).trans hc;have hng:w.heap.size≠g:=by have:=World.block_lt_of_cell? w _ hc;simp only at this;omega
  have HR:=Lib.hid ((hr.below hb));have HP:=Lib.hid hp;have HO:=Lib.hid ho;have HOUT:=Lib.hid hout;clear hc hr ho hp hout;unfold rtV ty0 sl0 at hb kR c1 HR;dsimp only at hb kR c1 HR;go_enter Tryz.func122,Tryz.ntmps122;go_upto_region 4 with fail
  generalize hW:(w.alloc (.cells #[.int .u32 0,.int .u8 0,.bool false,.int .u32 0,.slice none 0 0] 188))=W at *;have hsz:W.heap.size=w.heap.size+1:=by rw [← hW];simp
  clear hW;obtain ⟨z0,z1,z2,z3,z4⟩:=five_ kR;have fz:=kR.frozen;go_loopg [6] n (fun q i wr=>∃ k:Nat,k+q=n∧i=.int .i64 (k:Nat)∧wr=W∧Hid (∀ j,j<k→(eg es j).1≠id))
  case atStart=>exact ⟨0,by omega,rfl,rfl,Lib.hid (fun j hj=>absurd hj (Nat.not_lt_zero _))⟩
  case round =>
   obtain ⟨k,hq,rfl,rfl,HK⟩:=hrel
   by_cases hlt:k<n
   ·obtain ⟨b,off,rfl,hbb,hcc⟩:=HR.out.rts (by omega)
    obtain ⟨x0,x1,x2,x3,x4⟩:=hcc k hlt;have hmem:=eg_mem (l:=es) (k:=k) (by omega)
    have hpm:=HP.out _ hmem;have hin:(eg es k).1∈ord:=by rw [← HO.out];exact List.mem_map_of_mem hmem
    have hgb:w.heap.size≠b:=by omega
    by_cases he:(eg es k).1=id
    ·rw [he] at x0 x1 x2 x3 hpm hin;generalize hT:T id=y at *;generalize eg es k=e at *;have e1:(id==id)=true:=by simp
     clear hcc HK hmem he;go_wp2_with fail;have hd:decide (id∈ord)=true:=decide_eq_true hin;refine bodyPost_ret (rt_end (i:=id) (y:=y) (s:=e.2) rfl _ rfl rfl (blk_put5 kR _ _ _ _ _)) rfl ⟨id,e.2,by rw [hd,hT];rfl,?_,hpm.2,below_put5 hb (Nat.le_refl _) _ _ _ _ _⟩
     rw [hT];have hb2:=below_put5 hb (Nat.le_refl _) (.int .u32 id) (.int .u8 y.kind) (.bool y.signed) (.int .u32 y.cls) (.slice e.2.1 e.2.2.1 e.2.2.2);exact (hpm.1.below hb2).more hb2.size
    ·have e1:((eg es k).1==id)=false:=by simpa using he
     have HK2:=Lib.hid (show ∀ j,j<k+1→(eg es j).1≠id from fun j hj=>by
      by_cases e:j=k
      ·rw [e];exact he
      ·exact HK.out j (by omega))
     clear hcc hmem hpm hin HK he;generalize eg es k=e at *;generalize T e.1=y at *;go_wp2_with fail;go_roundg (n-(k+1))
     case measure=>omega
     case rel=>exact ⟨k+1,by omega,by go_num,rfl,HK2⟩
   ·obtain rfl:k=n:=by omega
    have hnin:id ∉ ord:=fun hin=>by
     rw [← HO.out] at hin;obtain ⟨e,he,rfl⟩:=List.mem_map.1 hin;obtain ⟨j,hj,rfl⟩:=List.getElem_of_mem he;exact HK.out j (by omega) (by rw [eg_of hj])
    have h1:=HOUT.out id hnin;have hd:decide (id∈ord)=false:=decide_eq_false hnin;clear HK;go_wp2_with fail;exact bodyPost_ret (rt_end (i:=0) (y:=ty0) (s:=sl0) rfl _ rfl rfl (blk_put5 kR _ _ _ _ _)) rfl ⟨0,sl0,by rw [hd,h1];rfl,by rw [h1];exact Reads.none_,Nat.le_refl _,below_put5 hb (Nat.le_refl _) _ _ _ _ _⟩
end
section
open Go.RowKit
theorem rkind_any (p:Option Addr) (T:Int→TyI) (ord:List Int) (id:Int) (w:World) (h:RTab w p T ord) (hout:∀ id,id ∉ ord→T id=ty0) :
  Calls Tryz.prog 94 #[.pointer p,.int .u32 id] w fun e w'=>e=.returned (.int .u8 (T id).kind)∧Below w.heap.size w w':=by
 have hf:=rfind_any p T ord id w h hout;unfold FindIs rtV at hf;clear h hout;generalize decide (id∈ord)=d at *;generalize T id=x at *;go_enter Tryz.func94,Tryz.ntmps94;go_wp2_with fail;refine hf.mono ?_;rintro e w1 ⟨i,s,rfl,hr,hsc,hb⟩;have hb2:=hb.alloc hb.size (.cells #[.int .u32 i,.int .u8 x.kind,.bool x.signed,.int .u32 x.cls,.slice s.1 s.2.1 s.2.2] 188);have k:=Blk.new w1 188 #[.int .u32 i,.int .u8 x.kind,.bool x.signed,.int .u32 x.cls,.slice s.1 s.2.1 s.2.2];obtain ⟨z0,z1,z2,z3,z4⟩:=five_ k;go_wp2_with fail;go_ret
 exact ⟨rfl,hb2⟩
theorem rcount_any (p:Option Addr) (T:Int→TyI) (ord:List Int) (id:Int) (w:World) (h:RTab w p T ord) (hout:∀ id,id ∉ ord→T id=ty0) :
  Calls Tryz.prog 64 #[.pointer p,.int .u32 id] w fun e w'=>e=.returned (.int .i64 ((rparts (T id)).length:Nat))∧Below w.heap.size w w':=by
 have hf:=rfind_any p T ord id w h hout;unfold FindIs rtV at hf;clear h hout;generalize decide (id∈ord)=d at *;generalize T id=x at *;obtain ⟨v,hv⟩:∃ v:Int,v=((rparts x).length:Nat):=⟨_,rfl⟩;rw [← hv];have HV:=Lib.hid hv;clear hv;go_enter Tryz.func64,Tryz.ntmps64;go_wp2_with fail;refine hf.mono ?_;rintro e w1 ⟨i,s,rfl,hr,hsc,hb⟩;have hl:=hr.len;have hb2:=hb.alloc hb.size (.cells #[.int .u32 i,.int .u8 x.kind,.bool x.signed,.int .u32 x.cls,.slice s.1 s.2.1 s.2.2] 188);have k:=Blk.new w1 188 #[.int .u32 i,.int .u8 x.kind,.bool x.signed,.int .u32 x.cls,.slice s.1 s.2.1 s.2.2];obtain ⟨z0,z1,z2,z3,z4⟩:=five_ k;have HL:=Lib.hid hl;clear hl hr hsc;go_wp2_with fail;go_ret
 exact ⟨by rw [HV.out,HL.out];rfl,hb2⟩
theorem rplain_any (p:Option Addr) (T:Int→TyI) (ord:List Int) (hY:Typed T) (id:Int) (w:World) (h:RTab w p T ord) (hout:∀ id,id ∉ ord→T id=ty0) :
  Calls Tryz.prog 61 #[.pointer p,.int .u32 id] w fun e w'=>e=.returned (.bool (decide (0<(T id).size)))∧Below w.heap.size w w':=by
 have hf:=rkind_any p T ord id w h hout;have hsz:=(hY.size id).2.1;clear h hout hY;generalize (T id).size=z at *;generalize (T id).kind=k at *
 by_cases h2:2≤k
 ·have d2:decide (k≥2)=true:=decide_eq_true h2
  by_cases h6:k≤6
  ·have d6:decide (k≤6)=true:=decide_eq_true h6;have dz:decide (0<z)=true:=decide_eq_true (hsz.2 ⟨h2,h6⟩);clear hsz h2 h6;go_enter Tryz.func61,Tryz.ntmps61;go_wp2_with fail;refine hf.mono ?_;rintro e w1 ⟨rfl,hb⟩;go_wp2_with fail;go_ret
   exact ⟨by rw [dz];try rfl,hb⟩
  ·have d6:decide (k≤6)=false:=decide_eq_false h6;have dz:decide (0<z)=false:=decide_eq_false (fun hc=>h6 (hsz.1 hc).2)
   clear hsz h2 h6;go_enter Tryz.func61,Tryz.ntmps61;go_wp2_with fail;refine hf.mono ?_;rintro e w1 ⟨rfl,hb⟩;go_wp2_with fail;go_ret
   exact ⟨by rw [dz];try rfl,hb⟩
 ·have d2:decide (k≥2)=false:=decide_eq_false h2;have dz:decide (0<z)=false:=decide_eq_false (fun hc=>h2 (hsz.1 hc).1)
  clear hsz h2;go_enter Tryz.func61,Tryz.ntmps61;go_wp2_with fail;refine hf.mono ?_;rintro e w1 ⟨rfl,hb⟩;go_wp2_with fail;go_ret
  exact ⟨by rw [dz];try rfl,hb⟩
theorem rpart_any (p:Option Addr) (T:Int→TyI) (ord:List Int) (hY:Typed T) (id k:Int) (w:World) (h:RTab w p T ord) (hout:∀ id,id ∉ ord→T id=ty0) :
  Calls Tryz.prog 65 #[.pointer p,.int .u32 id,.int .i64 k] w fun e w'=>e=.returned (.tuple #[.int .u32 (partT (T id) k).1,.bool (partT (T id) k).2])∧Below w.heap.size w w':=by
 have hf:=rfind_any p T ord id w h hout;unfold FindIs rtV at hf;have hp:=(hY.shape id).part k;clear h hout hY;generalize decide (id∈ord)=d at *;generalize partT (T id) k=v at *;generalize T id=x at *;have HP:=Lib.hid hp;clear hp;go_enter Tryz.func65,Tryz.ntmps65;go_wp2_with fail;refine hf.mono ?_;rintro e w1 ⟨i,s,rfl,hr,hsc,hb⟩;have hl:=hr.len;have hb2:=hb.alloc hb.size (.cells #[.int .u32 i,.int .u8 x.kind,.bool x.signed,.int .u32 x.cls,.slice s.1 s.2.1 s.2.2] 188);have kb:=Blk.new w1 188 #[.int .u32 i,.int .u8 x.kind,.bool x.signed,.int .u32 x.cls,.slice s.1 s.2.1 s.2.2];obtain ⟨z0,z1,z2,z3,z4⟩:=five_ kb;have hp:=HP.out;rw [hl] at hp;obtain ⟨A,n,c⟩:=s;dsimp only at *
 by_cases h0:k<0
 ·have d0:decide (k<0)=true:=decide_eq_true h0;obtain rfl:=hp.trans (if_pos (.inl h0));clear HP hl hr hsc h0;go_wp2_with fail;go_ret2
  exact ⟨rfl,hb2⟩
 ·have d0:decide (k<0)=false:=decide_eq_false h0
  by_cases h1:(n:Int)≤k
  ·have d1:decide (k≥(n:Int))=true:=decide_eq_true h1;obtain rfl:=hp.trans (if_pos (.inr h1));clear HP hl hr hsc h0 h1;go_wp2_with fail;go_ret2
   exact ⟨rfl,hb2⟩
  ·have d1:decide (k≥(n:Int))=false:=decide_eq_false h1;obtain ⟨j,rfl⟩:∃ j:Nat,k=j:=⟨k.toNat,by omega⟩
   have hj:j<n:=by omega
   have hj2:((j:Nat):Int)<(n:Int):=by omega
   obtain ⟨b,off,rfl,hbb,hcc⟩:=(hr.alloc (Nat.le_refl _) (.cells #[.int .u32 i,.int .u8 x.kind,.bool x.signed,.int .u32 x.cls,.slice A n c] 188)).ints (by omega)
   have c0:=hcc j hj;obtain rfl:=hp.trans (if_neg (by omega))
   have ej:((j:Nat):Int).toNat=j:=rfl;clear HP hl hr hsc hcc;go_wp2_with fail;go_ret2
   exact ⟨rfl,hb2⟩
end
section
open Go.RowKit
def lastN (l:List Int) (k:Nat):Int:=if k=0 then 0 else ix l (k-1)
theorem lastN_step (l:List Int) (k:Nat):lastN l (k+1)=ix l k:=by unfold lastN;rw [if_neg (by omega)];rfl
theorem lastN_eq {l:List Int} {k:Nat} (h0:ix l k≠0) (h:ix l k=lastN l k):k≠0∧ix l (k-1)=ix l k:=by
 unfold lastN at h
 by_cases hk:k=0
 ·rw [if_pos hk] at h;exact absurd h h0
 ·rw [if_neg hk] at h;exact ⟨hk,h.symm⟩
theorem maxN_again {T:Int→TyI} {l:List Int} {k:Nat} (h0:ix l k≠0) (h:ix l k=lastN l k):maxN T l (k+1)=maxN T l k:=by
 obtain ⟨h1,h2⟩:=lastN_eq h0 h;have h3:=maxN_ge T l (j:=k-1) k (by omega)
 rw [h2] at h3
 show max (maxN T l k) (T (ix l k)).depth=_
 omega
theorem plain_ne {T:Int→TyI} (h0:T 0=ty0) {p:Int} (hp:0<(T p).size):p≠0:=fun e=>by rw [e,h0] at hp;exact absurd hp (by decide)
theorem rsize_any (p:Option Addr) (T:Int→TyI) (ord:List Int) (hY:Typed T) (hout:∀ id,id ∉ ord→T id=ty0):∀ (q:Nat) (id:Int) (w:World),RTab w p T ord→(T id).depth<(q:Int) →
  Calls Tryz.prog 62 #[.pointer p,.int .u32 id] w fun e w'=>e=.returned (.int .i64 (T id).size)∧Below w.heap.size w w'
 | 0,id,w,h,hq=>absurd hq (by have:=(hY.deep id).1;omega)
 | q+1,id,w,h,hq=>by
  have ih:=rsize_any p T ord hY hout q;have hpl:=rplain_any p T ord hY id w h hout;have hf:=fun w1 (hb:Below w.heap.size w w1)=>rfind_any p T ord id w1 (h.step hb) hout
  unfold FindIs rtV at hf;have hz:=hY.sz0 id;have hk:=(hY.size id).2.1;have hlf:=hY.leaf id;have hsum:=hY.rp_sum (id:=id);have hdp:=fun (hp:0<(T id).size) j hj=>hY.rp_depth (id:=id) hp (j:=j) hj
  have hbd:=hY.sz0;have hfew:=hY.rp_few id;have HT:=Lib.hid h;clear h hout hY;generalize decide (id∈ord)=d at *;generalize hx:T id=x at *;clear hx
  by_cases h0:0<x.size
  ·have d0:decide (0<x.size)=true:=decide_eq_true h0;rw [d0] at hpl;have hdp:=hdp h0;have hk:=hk.1 h0;clear d0
   by_cases h3:x.kind≤3
   ·have d3:decide (x.kind≤3)=true:=decide_eq_true h3;rw [(hlf (by omega)).2]
    clear hlf hsum hdp hk hbd hz h0 h3 ih;go_enter Tryz.func62,Tryz.ntmps62;go_wp2_with fail;refine hpl.mono ?_;rintro e w1 ⟨rfl,hb1⟩;have hf1:=hf w1 hb1;clear hpl hf;go_wp2_with fail;refine hf1.mono ?_;rintro e w2 ⟨i,s,rfl,hr,hsc,hb⟩;have hb2:=below_cut hb1 hb (Nat.le_refl _);have hb3:=hb2.alloc hb2.size (.cells #[.int .u32 i,.int .u8 x.kind,.bool x.signed,.int .u32 x.cls,.slice s.1 s.2.1 s.2.2] 188);have kb:=Blk.new w2 188 #[.int .u32 i,.int .u8 x.kind,.bool x.signed,.int .u32 x.cls,.slice s.1 s.2.1 s.2.2];obtain ⟨z0,z1,z2,z3,z4⟩:=five_ kb;clear hr hsc;go_wp2_with fail;go_ret
    exact ⟨rfl,hb3⟩
   ·have d3:decide (x.kind≤3)=false:=decide_eq_false h3;have hs:=hsum ⟨by omega,hk.2⟩
    clear hlf hsum hk;go_enter Tryz.func62,Tryz.ntmps62;go_wp2_with fail;refine hpl.mono ?_;rintro e w1 ⟨rfl,hb1⟩;have hf1:=hf w1 hb1;clear hpl hf;go_wp2_with fail;refine hf1.mono ?_;rintro e w2 ⟨i,⟨A,n,c⟩,rfl,hr,hsc,hb⟩;have hl:=hr.len;dsimp only at *;have hb2:=below_cut hb1 hb (Nat.le_refl _);have hb3:=hb2.alloc hb2.size (.cells #[.int .u32 i,.int .u8 x.kind,.bool x.signed,.int .u32 x.cls,.slice A n c] 188);have kb:=Blk.new w2 188 #[.int .u32 i,.int .u8 x.kind,.bool x.signed,.int .u32 x.cls,.slice A n c];have hra:=(hr.alloc (Nat.le_refl _) (.cells #[.int .u32 i,.int .u8 x.kind,.bool x.signed,.int .u32 x.cls,.slice A n c] 188)).more (show w2.heap.size≤(w2.alloc (.cells #[.int .u32 i,.int .u8 x.kind,.bool x.signed,.int .u32 x.cls,.slice A n c] 188)).heap.size by simp)
    rw [hl] at hs hdp hfew;obtain ⟨l,hll⟩:∃ l,l=rparts x:=⟨_,rfl⟩;rw [← hll] at hs hdp hra hl;have HR:=Lib.hid hra;have HS:=Lib.hid hs;have hn6:n≤70000:=by omega
    have hz2:=hz.2;obtain ⟨z0,z1,z2,z3,z4⟩:=five_ kb;clear hr hsc hra hs hz h0 h3 hll hf1 hb hb1 hb2;go_wp2_with fail;clear d3 z0 z1 z2 z3 z4;generalize (w2.alloc (.cells #[.int .u32 i,.int .u8 x.kind,.bool x.signed,.int .u32 x.cls,.slice A n c] 188))=W at *;generalize w2.heap.size=g at *;go_loopg [7,8] n (fun q a i wr=>∃ k:Nat,k+q=n∧i=.int .i64 (k:Nat)∧a=.int .i64 (sumN T l k)∧Below W.heap.size W wr)
    case atStart=>exact ⟨0,by omega,rfl,rfl,Below.refl _ _⟩
    case round =>
     obtain ⟨k,hkq,rfl,rfl,hbr⟩:=hrel;obtain ⟨z0,z1,z2,z3,z4⟩:=five_ (kb.step hbr);have hbw:=below_cut hb3 hbr (Nat.le_refl _)
     by_cases hlt:k<n
     ·obtain ⟨b,off,rfl,hbb,hcc⟩:=(HR.out.below hbr).ints (by omega)
      have c0:=hcc k hlt;have hst:=sumN_step (T:=T) (l:=l) (k:=k) (by omega)
      have hs0:=sumN_bd hbd l k;have hle:=sumN_le (T:=T) (fun id=>(hbd id).1) l (show k+1≤n by omega)
      rw [HS.out,hst] at hle;have hs1:=hbd (ix l k);have hih:=ih (ix l k) wr (HT.out.step hbw) (by have:=hdp k (by omega);omega)
      have HST:=Lib.hid hst;clear hst hcc;generalize (T (ix l k)).size=y at *;generalize ix l k=pk at *;obtain ⟨sm,hsm⟩:∃ sm,sm=sumN T l k:=⟨_,rfl⟩;rw [← hsm] at hs0 hle ⊢;have HSM:=Lib.hid hsm;have hwr:IntKind.i64.wrap (sm+y)=sm+y:=IntWalk.i64_in _ (by omega)
      have dgt:decide (sm+y>4096)=false:=decide_eq_false (by omega)
      clear hsm hs0 hs1 hle;go_wp2_with fail;refine hih.mono ?_;rintro e w4 ⟨rfl,hb6⟩;have hb7:=below_cut hbr hb6 (Nat.le_refl _);go_wp2_with fail;go_roundg (n-(k+1))
      case measure=>omega
      case rel=>exact ⟨k+1,by omega,by go_num,by rw [HST.out,HSM.out],hb7⟩
     ·obtain rfl:k=n:=by omega
      go_wp2_with fail;go_ret
      exact ⟨by rw [HS.out];rfl,hbw⟩
  ·have d0:decide (0<x.size)=false:=decide_eq_false h0;rw [d0] at hpl;have e0:x.size=0:=by omega
   rw [e0];clear d0 e0 h0 hdp hk hlf hsum hz hbd hf;go_enter Tryz.func62,Tryz.ntmps62;go_wp2_with fail;refine hpl.mono ?_;rintro e w1 ⟨rfl,hb1⟩;go_wp2_with fail;go_ret
   exact ⟨rfl,hb1⟩
theorem rdeep_any (p:Option Addr) (T:Int→TyI) (ord:List Int) (hY:Typed T) (h00:T 0=ty0) (hout:∀ id,id ∉ ord→T id=ty0):∀ (q:Nat) (id:Int) (w:World),RTab w p T ord→0<(T id).size→(T id).depth<(q:Int) →
  Calls Tryz.prog 241 #[.pointer p,.int .u32 id] w fun e w'=>e=.returned (.int .i64 (T id).depth)∧Below w.heap.size w w'
 | 0,id,w,h,_,hq=>absurd hq (by have:=(hY.deep id).1;omega)
 | q+1,id,w,h,hp,hq=>by
  have ih:=rdeep_any p T ord hY h00 hout q;have hf:=rfind_any p T ord id w h hout;unfold FindIs rtV at hf;have hdp:=fun j hj=>hY.rp_depth (id:=id) hp (j:=j) hj
  have hpp:=fun j hj=>hY.rp_plain (id:=id) hp (j:=j) hj
  have hdd:=hY.rp_deep hp;have hmx:=fun l=>maxN_bd (fun id=>(hY.deep id).2) l
  have HT:=Lib.hid h;have H00:=Lib.hid h00;have hd16:=fun id=>hY.deep id
  have hfew:=hY.rp_few id;clear h hout hY h00;generalize decide (id∈ord)=d at *;generalize hx:T id=x at *;clear hx hp;go_enter Tryz.func241,Tryz.ntmps241;go_wp2_with fail;refine hf.mono ?_;rintro e w2 ⟨i,⟨A,n,c⟩,rfl,hr,hsc,hb⟩;have hl:=hr.len;dsimp only at *;have hb3:=hb.alloc hb.size (.cells #[.int .u32 i,.int .u8 x.kind,.bool x.signed,.int .u32 x.cls,.slice A n c] 188);have kb:=Blk.new w2 188 #[.int .u32 i,.int .u8 x.kind,.bool x.signed,.int .u32 x.cls,.slice A n c];have hra:=(hr.alloc (Nat.le_refl _) (.cells #[.int .u32 i,.int .u8 x.kind,.bool x.signed,.int .u32 x.cls,.slice A n c] 188)).more (show w2.heap.size≤(w2.alloc (.cells #[.int .u32 i,.int .u8 x.kind,.bool x.signed,.int .u32 x.cls,.slice A n c] 188)).heap.size by simp)
  rw [hl] at hdd hdp hpp hfew;have hn6:n≤70000:=by omega
  obtain ⟨l,hll⟩:∃ l,l=rparts x:=⟨_,rfl⟩;rw [← hll] at hdd hdp hpp hra hl;have HR:=Lib.hid hra;have HS:=Lib.hid hdd;have hmn:=hmx l;clear hr hsc hra hdd hll hf hb hmx;go_wp2_with fail;generalize (w2.alloc (.cells #[.int .u32 i,.int .u8 x.kind,.bool x.signed,.int .u32 x.cls,.slice A n c] 188))=W at *;generalize w2.heap.size=g at *;go_loopg [7,8,9,10] n (fun q a t i u wr=>∃ k:Nat,k+q=n∧i=.int .i64 (k:Nat)∧a=.int .i64 (maxN T l k)∧t=.int .u32 (lastN l k)∧Below W.heap.size W wr)
  case atStart=>exact ⟨0,by omega,rfl,rfl,rfl,Below.refl _ _⟩
  case round =>
   obtain ⟨k,hkq,rfl,rfl,rfl,hbr⟩:=hrel;obtain ⟨z0,z1,z2,z3,z4⟩:=five_ (kb.step hbr);have hbw:=below_cut hb3 hbr (Nat.le_refl _)
   by_cases hlt:k<n
   ·obtain ⟨b,off,rfl,hbb,hcc⟩:=(HR.out.below hbr).ints (by omega)
    have c0:=hcc k hlt;have hpk:=hpp k (by omega)
    have hne:=plain_ne H00.out hpk;have hag:=maxN_again (T:=T) (l:=l) (k:=k) hne;have hst:maxN T l (k+1)=max (maxN T l k) (T (ix l k)).depth:=rfl;have hls:=lastN_step l k;have hih:=ih (ix l k) wr (HT.out.step hbw) hpk (by have:=hdp k (by omega);omega)
    have hm0:=hmn k;have hdk:=hd16 (ix l k);clear hcc;generalize (T (ix l k)).depth=y at *;obtain ⟨mx,hmx⟩:∃ mx,mx=maxN T l k:=⟨_,rfl⟩;obtain ⟨la,hla⟩:∃ la,la=lastN l k:=⟨_,rfl⟩;rw [← hmx] at hag hst hm0 ⊢;rw [← hla] at hag ⊢
    by_cases he:ix l k=la
    ·have e1:(ix l k==la)=true:=by simpa using he
     have HM:=Lib.hid (hag he);have HL:=Lib.hid (show la=lastN l (k+1) by rw [hls,he])
     clear hag hst hls he hne hmx hla hm0 hdk hih;generalize ix l k=pk at *;go_wp2_with fail;go_roundg (n-(k+1))
     case measure=>omega
     case rel=>exact ⟨k+1,by omega,by go_num,by rw [HM.out],by rw [HL.out],hbr⟩
    ·have e1:(ix l k==la)=false:=by simpa using he
     have HL:=Lib.hid hls
     by_cases hy:mx<y
     ·have d1:decide (y>mx)=true:=decide_eq_true hy;have HM:=Lib.hid (show maxN T l (k+1)=y by rw [hst];omega)
      clear hag hst hls he hne hmx hla hm0 hdk hy;generalize ix l k=pk at *;go_wp2_with fail;refine hih.mono ?_;rintro e w4 ⟨rfl,hb6⟩;have hb7:=below_cut hbr hb6 (Nat.le_refl _);go_wp2_with fail;go_roundg (n-(k+1))
      case measure=>omega
      case rel=>exact ⟨k+1,by omega,by go_num,by rw [HM.out],by rw [HL.out],hb7⟩
     ·have d1:decide (y>mx)=false:=decide_eq_false hy;have HM:=Lib.hid (show maxN T l (k+1)=mx by rw [hst];omega)
      clear hag hst hls he hne hmx hla hm0 hdk hy;generalize ix l k=pk at *;go_wp2_with fail;refine hih.mono ?_;rintro e w4 ⟨rfl,hb6⟩;have hb7:=below_cut hbr hb6 (Nat.le_refl _);go_wp2_with fail;go_roundg (n-(k+1))
      case measure=>omega
      case rel=>exact ⟨k+1,by omega,by go_num,by rw [HM.out],by rw [HL.out],hb7⟩
   ·obtain rfl:k=n:=by omega
    have hm0:=hmn k;have hwr:IntKind.i64.wrap (maxN T l k+1)=maxN T l k+1:=IntWalk.i64_in _ (by omega)
    clear hm0;go_wp2_with fail;go_ret
    exact ⟨by rw [HS.out];rfl,hbw⟩
end
section
open Go.RowKit
def fitE (T:Int→TyI) (l:List Int):Int:=if 4096<sumN T l l.length then 102 else if 16<maxN T l l.length+1 then 4 else 0
theorem rfits_any (p:Option Addr) (T:Int→TyI) (ord:List Int) (hY:Typed T) (h00:T 0=ty0) (hout:∀ id,id ∉ ord→T id=ty0) (i kd cl:Int) (sg:Bool) (A:Option Addr) (n c:Nat) (l:List Int) (w:World) (h:RTab w p T ord)
  (hr:Reads w w.heap.size 1 A n (Ints .u32 l)) (hp:∀ j,j<n→0<(T (ix l j)).size) (hn:n≤70000) :
  Calls Tryz.prog 203 #[.pointer p,.agg #[.int .u32 i,.int .u8 kd,.bool sg,.int .u32 cl,.slice A n c]] w fun e w'=>e=.returned (.int .i64 (fitE T l))∧Below w.heap.size w w':=by
 have hl:=hr.len;have hb0:=(Below.refl w.heap.size w).alloc (Nat.le_refl _) (.cells #[.int .u32 i,.int .u8 kd,.bool sg,.int .u32 cl,.slice A n c] 188);have kb:=Blk.new w 188 #[.int .u32 i,.int .u8 kd,.bool sg,.int .u32 cl,.slice A n c];have hra:=(hr.alloc (Nat.le_refl _) (.cells #[.int .u32 i,.int .u8 kd,.bool sg,.int .u32 cl,.slice A n c] 188)).more (show w.heap.size≤(w.alloc (.cells #[.int .u32 i,.int .u8 kd,.bool sg,.int .u32 cl,.slice A n c] 188)).heap.size by simp)
 obtain ⟨v,hv⟩:∃ v,v=fitE T l:=⟨_,rfl⟩;rw [← hv];unfold fitE at hv;rw [hl] at hv;have HV:=Lib.hid hv;have HR:=Lib.hid hra;have HT:=Lib.hid h;have H00:=Lib.hid h00;have hsz:=fun q w' (hb:Below w.heap.size w w')=>rsize_any p T ord hY hout 17 q w' (h.step hb) (by have:=(hY.deep q).2;omega)
 have hdp:=fun q w' (hb:Below w.heap.size w w') (hq:0<(T q).size)=>rdeep_any p T ord hY h00 hout 17 q w' (h.step hb) hq (by have:=(hY.deep q).2;omega)
 have HSZ:=Lib.hid hsz;have HDP:=Lib.hid hdp;have HPL:=Lib.hid hp;have hbd:=hY.sz0;have hmn:=maxN_bd (fun id=>(hY.deep id).2) l
 have hd16:=fun id=>hY.deep id
 clear hr hra hv h h00 hsz hdp hp hout hY;go_enter Tryz.func203,Tryz.ntmps203;go_upto_region 1 with fail
 generalize (w.alloc (.cells #[.int .u32 i,.int .u8 kd,.bool sg,.int .u32 cl,.slice A n c] 188))=W at *;go_wp2_with fail;go_loopg [5,6,7,8,9,10] n (fun q a d t s i u wr=>∃ k:Nat,k+q=n∧i=.int .i64 (k:Nat)∧a=.int .i64 (sumN T l k)∧sumN T l k≤4096∧d=.int .i64 (maxN T l k)∧t=.int .u32 (lastN l k)∧s=.int .i64 (T (lastN l k)).size∧Below W.heap.size W wr)
 case atStart=>exact ⟨0,by omega,rfl,rfl,by unfold sumN;simp,rfl,rfl,by show _=Value.int _ (T 0).size;rw [H00.out];rfl,Below.refl _ _⟩
 case round =>
  obtain ⟨k,hkq,rfl,rfl,hs4,rfl,rfl,rfl,hbr⟩:=hrel;obtain ⟨z0,z1,z2,z3,z4⟩:=five_ (kb.step hbr);have hbw:=below_cut hb0 hbr (Nat.le_refl _)
  by_cases hlt:k<n
  ·obtain ⟨b,off,rfl,hbb,hcc⟩:=(HR.out.below hbr).ints (by omega)
   have c0:=hcc k hlt;have hpk:=HPL.out k hlt;have hne:=plain_ne H00.out hpk;have hag:=maxN_again (T:=T) (l:=l) (k:=k) hne;have hst:maxN T l (k+1)=max (maxN T l k) (T (ix l k)).depth:=rfl;have hsm:=sumN_step (T:=T) (l:=l) (k:=k) (by omega)
   have hs0:=(sumN_bd hbd l k).1;have hbp:=hbd (ix l k);have hge:4096<sumN T l (k+1)→v=102:=fun hc=>HV.out.trans (if_pos (by have:=sumN_le (T:=T) (fun id=>(hbd id).1) l (show k+1≤n by omega);omega))
   have hls:=lastN_step l k;have hsl:=HSZ.out (ix l k);have hdl:=fun w' hb=>HDP.out (ix l k) w' hb hpk
   have hm0:=hmn k;have hdk:=hd16 (ix l k);have hbl:=hbd (lastN l k);have HGE:=Lib.hid hge;clear hcc hge;rw [← hls] at hsl hdl hst hsm hpk hne hbp hdk c0;have hla:lastN l (k+1)=ix l k:=hls;generalize (T (lastN l (k+1))).depth=y at *
   by_cases he:ix l k=lastN l k
   ·have hl2:lastN l k=lastN l (k+1):=by rw [hls,he]
    rw [hl2] at hbl ⊢;have HM:=Lib.hid (hag he);clear hag hst hls he hdk hm0 hsl hdl hla hl2;generalize hz:(T (lastN l (k+1))).size=z at *;generalize hpk2:lastN l (k+1)=pk at *;have HZ:=Lib.hid hz;have HPK:=Lib.hid hpk2;clear hz hpk2;obtain ⟨sm,hsm2⟩:∃ sm,sm=sumN T l k:=⟨_,rfl⟩;obtain ⟨mx,hmx⟩:∃ mx,mx=maxN T l k:=⟨_,rfl⟩;rw [← hsm2] at hs4 hsm hs0 ⊢;rw [← hmx] at HM ⊢;have HSM:=Lib.hid hsm;have hwr:IntKind.i64.wrap (sm+z)=sm+z:=IntWalk.i64_in _ (by omega)
    have e1:(pk != pk)=false:=by simp
    by_cases h4:sm+z≤4096
    ·have dgt:decide (sm+z>4096)=false:=decide_eq_false (by omega)
     clear hsm hsm2 hmx hs0 hbp hpk hne HGE;go_wp2_with fail;go_roundg (n-(k+1))
     case measure=>omega
     case rel=>exact ⟨k+1,by omega,by go_num,by rw [HSM.out],by rw [HSM.out];exact h4,by rw [HM.out],by rw [HPK.out],by rw [HPK.out,HZ.out],hbr⟩
    ·have dgt:decide (sm+z>4096)=true:=decide_eq_true (by omega)
     obtain rfl:=HGE.out (by rw [HSM.out];omega)
     clear hsm hsm2 hmx hs0 hbp hpk hne HGE;go_wp2_with fail;go_ret
     exact ⟨rfl,hbw⟩
   ·have e1:(lastN l (k+1) != lastN l k)=true:=by rw [hls];simpa using he
    obtain ⟨sm,hsm2⟩:∃ sm,sm=sumN T l k:=⟨_,rfl⟩;obtain ⟨mx,hmx⟩:∃ mx,mx=maxN T l k:=⟨_,rfl⟩;rw [← hsm2] at hs4 hsm hs0 ⊢;rw [← hmx] at hst hm0 ⊢;have HSM:=Lib.hid hsm;have hs1:=hsl wr hbw;obtain ⟨my,hmy⟩:∃ my,my=maxN T l (k+1):=⟨_,rfl⟩;rw [← hmy] at hst;have HMY:=Lib.hid hmy;clear hag hls he hsm hsm2 hmx hpk hne hsl hmy hla;generalize (T (lastN l k)).size=z0' at *;generalize lastN l k=pl at *;generalize hz:(T (lastN l (k+1))).size=z at *;generalize hpk:lastN l (k+1)=pk at *;have HZ:=Lib.hid hz;have HPK:=Lib.hid hpk;clear hpk hz;have hwr:IntKind.i64.wrap (sm+z)=sm+z:=IntWalk.i64_in _ (by omega)
    by_cases hy:mx<y
    ·have d1:decide (y>mx)=true:=decide_eq_true hy;obtain rfl:my=y:=by omega
     by_cases h4:sm+z≤4096
     ·have dgt:decide (sm+z>4096)=false:=decide_eq_false (by omega)
      clear hs0 hbp HGE hst hm0 hdk hy hbl;go_wp2_with fail;refine hs1.mono ?_;rintro e w4 ⟨rfl,hb6⟩;have hb7:=below_cut hbw hb6 (Nat.le_refl _);have hd1:=hdl w4 hb7;go_wp2_with fail;refine hd1.mono ?_;rintro e w5 ⟨rfl,hb8⟩;have hb9:=below_cut hbr (below_cut hb6 hb8 (Nat.le_refl _)) (Nat.le_refl _);go_wp2_with fail;go_roundg (n-(k+1))
      case measure=>omega
      case rel=>exact ⟨k+1,by omega,by go_num,by rw [HSM.out],by rw [HSM.out];exact h4,by rw [HMY.out],by rw [HPK.out],by rw [HPK.out,HZ.out],hb9⟩
     ·have dgt:decide (sm+z>4096)=true:=decide_eq_true (by omega)
      obtain rfl:=HGE.out (by rw [HSM.out];omega)
      clear hs0 hbp HGE hst hm0 hdk hy hbl;go_wp2_with fail;refine hs1.mono ?_;rintro e w4 ⟨rfl,hb6⟩;have hb7:=below_cut hbw hb6 (Nat.le_refl _);have hd1:=hdl w4 hb7;go_wp2_with fail;refine hd1.mono ?_;rintro e w5 ⟨rfl,hb8⟩;have hb9:=below_cut hb7 hb8 (Nat.le_refl _);go_wp2_with fail;go_ret
      exact ⟨rfl,hb9⟩
    ·have d1:decide (y>mx)=false:=decide_eq_false hy;obtain rfl:my=mx:=by omega
     by_cases h4:sm+z≤4096
     ·have dgt:decide (sm+z>4096)=false:=decide_eq_false (by omega)
      clear hs0 hbp HGE hst hm0 hdk hy hbl;go_wp2_with fail;refine hs1.mono ?_;rintro e w4 ⟨rfl,hb6⟩;have hb7:=below_cut hbw hb6 (Nat.le_refl _);have hd1:=hdl w4 hb7;go_wp2_with fail;refine hd1.mono ?_;rintro e w5 ⟨rfl,hb8⟩;have hb9:=below_cut hbr (below_cut hb6 hb8 (Nat.le_refl _)) (Nat.le_refl _);go_wp2_with fail;go_roundg (n-(k+1))
      case measure=>omega
      case rel=>exact ⟨k+1,by omega,by go_num,by rw [HSM.out],by rw [HSM.out];exact h4,by rw [HMY.out],by rw [HPK.out],by rw [HPK.out,HZ.out],hb9⟩
     ·have dgt:decide (sm+z>4096)=true:=decide_eq_true (by omega)
      obtain rfl:=HGE.out (by rw [HSM.out];omega)
      clear hs0 hbp HGE hst hm0 hdk hy hbl;go_wp2_with fail;refine hs1.mono ?_;rintro e w4 ⟨rfl,hb6⟩;have hb7:=below_cut hbw hb6 (Nat.le_refl _);have hd1:=hdl w4 hb7;go_wp2_with fail;refine hd1.mono ?_;rintro e w5 ⟨rfl,hb8⟩;have hb9:=below_cut hb7 hb8 (Nat.le_refl _);go_wp2_with fail;go_ret
      exact ⟨rfl,hb9⟩
  ·obtain rfl:k=n:=by omega
   have hm0:=hmn k;have hwr:IntKind.i64.wrap (maxN T l k+1)=maxN T l k+1:=IntWalk.i64_in _ (by omega)
   have hv:=HV.out;rw [if_neg (by omega)] at hv
   by_cases h16:16<maxN T l k+1
   ·have d1:decide (maxN T l k+1>16)=true:=decide_eq_true h16;obtain rfl:=hv.trans (if_pos h16);clear hm0 HV hv h16;go_wp2_with fail;go_ret
    exact ⟨rfl,hbw⟩
   ·have d1:decide (maxN T l k+1>16)=false:=decide_eq_false h16;obtain rfl:=hv.trans (if_neg h16);clear hm0 HV hv h16;go_wp2_with fail;go_ret
    exact ⟨rfl,hbw⟩
end
end Go.Proofs.YteelmakkogdieaaGreatDoor
