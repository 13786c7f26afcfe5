/- Words: a pool of constants in memory, as New lays it down. -/
import Derived.Test.YtdebjkiilnhgpaaGreatDoorCVA
import Derived.Test.YtdebjkiilnhgpaaGreatDoorCTQ
import Derived.Test.YtdebjkiilnhgpaaGreatDoorCTO
import Derived.BigQuiet
import Derived.Test.YtdebjkiilnhgpaaGreatDoorCUI
import Derived.Test.YtdebjkiilnhgpaaGreatDoorCUA
set_option maxRecDepth 100000
set_option maxHeartbeats 1000000
namespace Go.Proofs.YtdebjkiilnhgpaaGreatDoor
section
open Go.RowKit
def conV (t:Int) (s:SlI):Array Value:=#[.int .u32 t,.slice s.1 s.2.1 s.2.2]
theorem zero_con (w:World):(zeroValue 110).run Tryz.prog w=.ok (.agg (conV 0 sl0)) w:=by kernel_rfl
structure ConM (w:World) (B bc:Nat) (T:Int→TyI) (C:Int→Option Int) (S:Int→SlI):Prop where
 mp:∃ cnt,MapU w bc cnt (fun id=>(C id).map fun t=>.agg (conV t (S id)))
 none_:∀ id,C id=none→S id=sl0
 len:∀ id t,C id=some t→((S id).2.1:Int)≤(T t).size∧(S id).2.1≤(S id).2.2
 reads:∀ id,∃ l,Reads w B 1 (S id).1 (S id).2.1 (Ints .u32 l)
section
variable {w w':World} {B bc:Nat} {T:Int→TyI} {C:Int→Option Int} {S:Int→SlI}
theorem ConM.look (h:ConM w B bc T C S) (id:Int):(Instr.lookup 69 (.map (some bc)) (.int .u32 id) true).run Tryz.prog w=.ok (.tuple #[.agg (conV ((C id).getD 0) (S id)),.bool (C id).isSome]) w:=by
 obtain ⟨cnt,hm⟩:=h.mp;rw [hm.look (P:=Tryz.prog) Tryz.underlying69 Tryz.underlying22 (zero_con w) id true];cases hc:C id with
 | none=>rw [h.none_ id hc];simp
 | some t=>simp
theorem ConM.lt (h:ConM w B bc T C S):bc<w.heap.size:=by obtain ⟨cnt,hm⟩:=h.mp;exact hm.lt
theorem ConM.row (h:ConM w B bc T C S):∀ r,some bc=some r→∃ o:Obj,w.heap[r]?=some o∧o.isCells=false:=by
 obtain ⟨cnt,⟨es,clock,hb,-⟩⟩:=h.mp;rintro r e;cases e
 exact ⟨_,hb,rfl⟩
theorem ConM.keepB {B':Nat} (h:ConM w B bc T C S) (hm:w'.heap[bc]?=w.heap[bc]?) (hr:∀ id l,Reads w B 1 (S id).1 (S id).2.1 (Ints .u32 l)→Reads w' B' 1 (S id).1 (S id).2.1 (Ints .u32 l)):ConM w' B' bc T C S:=by
 obtain ⟨cnt,h1⟩:=h.mp;exact ⟨⟨cnt,h1.same hm⟩,h.none_,h.len,fun id=>(h.reads id).elim fun l hl=>⟨l,hr id l hl⟩⟩
theorem ConM.step (h:ConM w w.heap.size bc T C S) (hb:Below w.heap.size w w'):ConM w' w'.heap.size bc T C S:=h.keepB (hb.block bc h.lt) (fun _ _ hr=>(hr.below hb).more hb.size)
theorem ConM.put (h:ConM w w.heap.size bc T C S) (id t:Int) (s:SlI) (hs:∃ l,Reads w w.heap.size 1 s.1 s.2.1 (Ints .u32 l)) (hl:(s.2.1:Int)≤(T t).size∧s.2.1≤s.2.2) :
  ∃ w',(Instr.mapUpdate 69 (.map (some bc)) (.int .u32 id) (.agg (conV t s))).run Tryz.prog w=.ok () w'∧ConM w' w'.heap.size bc T (updT C id (some t)) (updT S id s)∧w.grownBy w' (some bc):=by
 obtain ⟨cnt,hm⟩:=h.mp;obtain ⟨w',h1,h2,h3⟩:=MapU.put (P:=Tryz.prog) hm Tryz.underlying69 Tryz.underlying22 id (.agg (conV t s));refine ⟨w',h1,⟨⟨_,h2.ext ?_⟩,?_,?_,?_⟩,h3⟩
 ·intro k;unfold keyU setU updT;cases k <;> try rfl
  rename_i kd y
  cases kd <;> try rfl
  by_cases hy:y=id
  ·subst hy;simp
  ·simp [hy]
 ·intro y;unfold updT
  by_cases hy:y=id
  ·rw [if_pos hy];intro e;cases e
  ·rw [if_neg hy,if_neg hy];exact h.none_ y
 ·intro y u;unfold updT
  by_cases hy:y=id
  ·rw [if_pos hy,if_pos hy];intro e;cases e;exact hl
  ·rw [if_neg hy,if_neg hy];exact h.len y u
 ·intro y;unfold updT
  by_cases hy:y=id
  ·rw [if_pos hy];exact hs.elim fun l hr=>⟨l,hr.mapped h3 h.row h3.size⟩
  ·rw [if_neg hy];exact (h.reads y).elim fun l hr=>⟨l,hr.mapped h3 h.row h3.size⟩
end
def makF (gp:Nat) (op:Int):Option Value :=
 if op=1∨op=46 then some (.func (.func 40) #[.pointer (some ⟨gp,0,none⟩)] #[])
 else if op=41∨op=42 then some (.func (.func 41) #[.pointer (some ⟨gp,0,none⟩)] #[])
 else if op=43 then some (.func (.func 42) #[.pointer (some ⟨gp,0,none⟩)] #[])
 else if op=44 then some (.func (.func 43) #[.pointer (some ⟨gp,0,none⟩)] #[])
 else none
def makK (gp:Nat) (k:Value):Option Value:=match k with
 | .int .u16 op=>makF gp op
 | _=>none
def MakS (w:World) (bm gp:Nat):Prop:=∃ cnt,MapIs w (.int .u16) bm cnt (makK gp)
section
variable {w w':World} {bm gp:Nat}
theorem MakS.same (h:MakS w bm gp) (he:w'.heap[bm]?=w.heap[bm]?):MakS w' bm gp:=h.elim fun n hn=>⟨n,hn.same he⟩
theorem MakS.step (h:MakS w bm gp) (hb:Below w.heap.size w w'):MakS w' bm gp:=h.elim fun n hn=>⟨n,hn.step hb⟩
theorem MakS.lt (h:MakS w bm gp):bm<w.heap.size:=h.elim fun _ hn=>hn.lt
theorem MakS.ne_own {base size m:Nat} {e:TypeId} {v:Value} {xs:List Value} (h:MakS w bm gp) (ho:w.ownsRow base e size v m xs):some bm≠v.ownBlock:=h.elim fun _ hn=>hn.ne_own ho
theorem MakS.look (h:MakS w bm gp) (op:Int):(Instr.lookup 74 (.map (some bm)) (.int .u16 op) false).run Tryz.prog w=.ok ((makF gp op).getD .nilFunc) w:=by
 obtain ⟨n,hn⟩:=h;have:=hn.look (P:=Tryz.prog) Tryz.underlying74 Tryz.underlying39 (z:=.nilFunc) (by kernel_rfl) (key:=.int .u16 op) rfl false
 rw [this];rfl
end
def Apart (s:SlI) (v:Value):Prop:=∀ ad g,s.1=some ad→0<s.2.1→v.ownBlock=some g→ad.block≠g
structure PolS (w0 w:World) (q gt bm k:Nat) (T:Int→TyI) (C:Int→Option Int) (sl:SlI):Prop where
 pool:∃ (S:Int→SlI) (Ai:Option Addr) (ni ci:Nat) (Av:Option Addr) (nv cv:Nat) (xi xv:List Int),
  Blk w (q+2) 73 #[.pointer (some ⟨gt,0,none⟩),.slice Ai ni ci,.map (some q),.slice Av nv cv,.map (some (q+1))] ∧
  w.ownsRow (q+3) 22 1 (.slice Ai ni ci) ni (Ints .u32 xi)∧w.ownsRow (q+3) 22 1 (.slice Av nv cv) nv (Ints .u32 xv) ∧
  (∀ g,(Value.slice Ai ni ci).ownBlock=some g→(Value.slice Av nv cv).ownBlock≠some g)∧ni≤k∧nv≤k ∧
  ConM w w.heap.size q T C S∧(∀ id,Apart (S id) (.slice Ai ni ci)∧Apart (S id) (.slice Av nv cv))∧Apart sl (.slice Ai ni ci)∧Apart sl (.slice Av nv cv)
 words:∃ l,Reads w w.heap.size 1 sl.1 sl.2.1 (Ints .u32 l)
 vars:∃ cnt D,MapU w (q+1) cnt D
 mak:MakS w bm (q+2)
 size:∀ t,0≤(T t).size
 below:Below w0.heap.size w0 w
 low:w0.heap.size≤q
 far:q+3≤bm
 top:q+3≤w.heap.size
section
variable {w0 w w':World} {q gt bm k:Nat} {T:Int→TyI} {C:Int→Option Int} {sl:SlI}
theorem PolS.step (h:PolS w0 w q gt bm k T C sl) (hb:Below w.heap.size w w'):PolS w0 w' q gt bm k T C sl:=by
 obtain ⟨S,Ai,ni,ci,Av,nv,cv,xi,xv,kb,oi,ov,hne,h1,h2,hC,hA⟩:=h.pool;obtain ⟨l,hl⟩:=h.words;obtain ⟨cnt,D,hv⟩:=h.vars;exact ⟨⟨S,Ai,ni,ci,Av,nv,cv,xi,xv,kb.step hb,own_below oi hb,own_below ov hb,hne,h1,h2,hC.step hb,hA⟩,⟨l,(hl.below hb).more hb.size⟩,⟨cnt,D,hv.step hb⟩,h.mak.step hb,h.size,below_cut h.below hb (Nat.le_refl _),h.low,h.far,Nat.le_trans h.top hb.size⟩
theorem PolS.step_new (h:PolS w0 w q gt bm k T C sl) (hb:Below w.heap.size w w') {s:SlI} (hl:∀ ad,s.1=some ad→0<s.2.1→w.heap.size≤ad.block) (hr:∃ l,Reads w' w'.heap.size 1 s.1 s.2.1 (Ints .u32 l)):PolS w0 w' q gt bm k T C s:=by
 have h1:=h.step hb;obtain ⟨S,Ai,ni,ci,Av,nv,cv,xi,xv,kb,oi,ov,hne,e1,e2,hC,hA,-⟩:=h.pool;exact ⟨⟨S,Ai,ni,ci,Av,nv,cv,xi,xv,kb.step hb,own_below oi hb,own_below ov hb,hne,e1,e2,hC.step hb,hA,fun ad g ha hn hg e=>by have:=hl ad ha hn;have:=(oi.lt g hg).2;omega,fun ad g ha hn hg e=>by have:=hl ad ha hn;have:=(ov.lt g hg).2;omega⟩,hr,h1.vars,h1.mak,h1.size,h1.below,h1.low,h1.far,h1.top⟩
theorem PolS.more (h:PolS w0 w q gt bm k T C sl):PolS w0 w q gt bm (k+1) T C sl:=by
 obtain ⟨S,Ai,ni,ci,Av,nv,cv,xi,xv,kb,oi,ov,hne,h1,h2,hC,hA⟩:=h.pool;exact ⟨⟨S,Ai,ni,ci,Av,nv,cv,xi,xv,kb,oi,ov,hne,by omega,by omega,hC,hA⟩,h.words,h.vars,h.mak,h.size,h.below,h.low,h.far,h.top⟩
theorem PolS.drop (h:PolS w0 w q gt bm k T C sl):PolS w0 w q gt bm k T C sl0:=by
 obtain ⟨S,Ai,ni,ci,Av,nv,cv,xi,xv,kb,oi,ov,hne,h1,h2,hC,hA,-⟩:=h.pool;exact ⟨⟨S,Ai,ni,ci,Av,nv,cv,xi,xv,kb,oi,ov,hne,h1,h2,hC,hA,fun _ _ ha=>(by cases ha),fun _ _ ha=>(by cases ha)⟩,⟨[],Reads.none_⟩,h.vars,h.mak,h.size,h.below,h.low,h.far,h.top⟩
theorem PolS.con (h:PolS w0 w q gt bm k T C sl) (id t:Int) (hl:(sl.2.1:Int)≤(T t).size∧sl.2.1≤sl.2.2) :
  ∃ w',(Instr.mapUpdate 69 (.map (some q)) (.int .u32 id) (.agg (conV t sl))).run Tryz.prog w=.ok () w'∧PolS w0 w' q gt bm k T (updT C id (some t)) sl0∧w.grownBy w' (some q):=by
 have ht:=h.top;have hlw:=h.low;obtain ⟨S,Ai,ni,ci,Av,nv,cv,xi,xv,kb,oi,ov,hne,h1,h2,hC,hA,hs1,hs2⟩:=h.pool;obtain ⟨cnt,D,hv⟩:=h.vars;obtain ⟨w',hr,hC',hg⟩:=hC.put id t sl h.words hl;have hfar:=h.far;refine ⟨w',hr,⟨⟨updT S id sl,Ai,ni,ci,Av,nv,cv,xi,xv,kb.grown hg (by simp),oi.kept hg (.inr (own_ne_low oi (by omega))),ov.kept hg (.inr (own_ne_low ov (by omega))),hne,h1,h2,hC',fun y=>?_,fun _ _ ha=>(by cases ha),fun _ _ ha=>(by cases ha)⟩,⟨[],Reads.none_⟩,⟨cnt,D,hv.same (hg.block _ (by omega) (by simp))⟩,
  h.mak.same (hg.block _ h.mak.lt (by simp;omega)),h.size,h.below.grown hg (by omega) (fun b hb=>by cases hb;omega),h.low,h.far,Nat.le_trans ht hg.size⟩,hg⟩
 unfold updT
 split
 ·exact ⟨hs1,hs2⟩
 ·exact hA y
theorem PolS.var (h:PolS w0 w q gt bm k T C sl) (id:Int) (v:Value) :
  ∃ w',(Instr.mapUpdate 70 (.map (some (q+1))) (.int .u32 id) v).run Tryz.prog w=.ok () w'∧PolS w0 w' q gt bm k T C sl∧w.grownBy w' (some (q+1)):=by
 have ht:=h.top;have hlw:=h.low;have hfar:=h.far;obtain ⟨S,Ai,ni,ci,Av,nv,cv,xi,xv,kb,oi,ov,hne,h1,h2,hC,hA⟩:=h.pool;obtain ⟨cnt,D,hv⟩:=h.vars;obtain ⟨l,hl⟩:=h.words;obtain ⟨w',hr,hv',hg⟩:=MapU.put (P:=Tryz.prog) hv Tryz.underlying70 Tryz.underlying22 id v;have hrow:∀ r,some (q+1)=some r→∃ o:Obj,w.heap[r]?=some o∧o.isCells=false:=by
  obtain ⟨es,clock,hb,-⟩:=hv;rintro r e;cases e
  exact ⟨_,hb,rfl⟩
 exact ⟨w',hr,⟨⟨S,Ai,ni,ci,Av,nv,cv,xi,xv,kb.grown hg (by simp),oi.kept hg (.inr (own_ne_low oi (by omega))),ov.kept hg (.inr (own_ne_low ov (by omega))),hne,h1,h2,hC.keepB (hg.block _ (by omega) (by simp)) (fun _ _ hr=>hr.mapped hg hrow hg.size),hA⟩,
  ⟨l,hl.mapped hg hrow hg.size⟩,⟨_,_,hv'⟩,h.mak.same (hg.block _ h.mak.lt (by simp;omega)),h.size,h.below.grown hg (by omega) (fun b hb=>by cases hb;omega),h.low,h.far,Nat.le_trans ht hg.size⟩,hg⟩
theorem apart_kept {o1 o2:Option Nat} (h:∀ g,o1=some g→o2≠some g):o2=none∨o2≠o1:=by
 cases o2 with
 | none=>exact .inl rfl
 | some g=>exact .inr fun e=>h g e.symm rfl
section
variable {S:Int→SlI} {Ai Av A8:Option Addr} {ni ci nv cv c8:Nat} {xi xv:List Int} {w8:World} {id:Int}
theorem PolS.ids (h:PolS w0 w q gt bm k T C sl) (kb:Blk w (q+2) 73 #[.pointer (some ⟨gt,0,none⟩),.slice Ai ni ci,.map (some q),.slice Av nv cv,.map (some (q+1))])
  (oi:w.ownsRow (q+3) 22 1 (.slice Ai ni ci) ni (Ints .u32 xi)) (ov:w.ownsRow (q+3) 22 1 (.slice Av nv cv) nv (Ints .u32 xv)) (hne:∀ g,(Value.slice Ai ni ci).ownBlock=some g→(Value.slice Av nv cv).ownBlock≠some g) (hni:ni≤k) (hnv:nv≤k)
  (hC:ConM w w.heap.size q T C S) (hA:∀ id,Apart (S id) (.slice Ai ni ci)∧Apart (S id) (.slice Av nv cv)) (hs1:Apart sl (.slice Ai ni ci)) (hs2:Apart sl (.slice Av nv cv))
  (o8:w8.ownsRow (q+3) 22 1 (.slice A8 (ni+1) c8) (ni+1) (Ints .u32 xi++[.int .u32 id])) (hg:w.grownBy w8 (Value.slice Ai ni ci).ownBlock)
  (h3:(Value.slice A8 (ni+1) c8).ownBlock=(Value.slice Ai ni ci).ownBlock∨(Value.slice A8 (ni+1) c8).ownBlock=some w.heap.size) :
  PolS w0 (w8.setCell ⟨q+2,1,none⟩ (.slice A8 (ni+1) c8)) q gt bm (k+1) T C sl:=by
 have ht:=h.top;have hlw:=h.low;have hfar:=h.far;obtain ⟨l,hl⟩:=h.words;obtain ⟨cnt,D,hv⟩:=h.vars;have hnl:∀ g,g<q+3→some g≠(Value.slice Ai ni ci).ownBlock:=fun g hg=>Ne.symm (own_ne_low oi hg)
 have k8:=kb.grown hg (hnl _ (by omega))
 have c1:w8.cell? ⟨q+2,1,none⟩=some (.slice Ai ni ci):=k8.cell 1;have hs9:(w8.setCell ⟨q+2,1,none⟩ (.slice A8 (ni+1) c8)).heap.size=w8.heap.size:=by simp
 have hb9:∀ g,g<w.heap.size→some g≠(Value.slice Ai ni ci).ownBlock→g≠q+2→(w8.setCell ⟨q+2,1,none⟩ (.slice A8 (ni+1) c8)).heap[g]?=w.heap[g]?:=fun g hlt h1 hne=>(Below.heap_setCell w8 _ _ g (by simpa using hne)).trans (hg.block g hlt h1)
 have o9:(w8.setCell ⟨q+2,1,none⟩ (.slice A8 (ni+1) c8)).ownsRow (q+3) 22 1 (.slice A8 (ni+1) c8) (ni+1) (Ints .u32 (xi++[id])):=by
  have:=own_set_other o8 (p:=⟨q+2,1,none⟩) (own_ne_low o8 (by show q+2<q+3;omega)) (.slice A8 (ni+1) c8)
  rw [Ints_append];exact this
 have hne2:∀ g,(Value.slice A8 (ni+1) c8).ownBlock=some g→(Value.slice Av nv cv).ownBlock≠some g:=fun g hg e=>by
  rcases h3 with h3 | h3
  ·rw [h3] at hg;first | exact hne g hg e | exact hne g e hg
  ·rw [h3] at hg;cases hg;have:=(ov.lt _ e).2;omega
 have p9:=own_set_other (ov.kept hg (apart_kept fun g e1 e2=>by first | exact hne g e1 e2 | exact hne g e2 e1)) (p:=⟨q+2,1,none⟩) (own_ne_low ov (by show q+2<q+3;omega)) (.slice A8 (ni+1) c8)
 have rd:∀ {s:SlI} {l:List Int},Apart s (.slice Ai ni ci)→Reads w w.heap.size 1 s.1 s.2.1 (Ints .u32 l)→Reads (w8.setCell ⟨q+2,1,none⟩ (.slice A8 (ni+1) c8)) w8.heap.size 1 s.1 s.2.1 (Ints .u32 l):=fun ha hr=>(hr.grown_far hg (fun ad g h1 h2 h3=>ha ad g h1 h2 h3) (Nat.le_refl _) hg.size).far_ c1 (by unfold Ints;simp) _
 have hd9:∀ (s:SlI),Apart s (.slice Ai ni ci)→Apart s (.slice Av nv cv)→(∃ l,Reads w w.heap.size 1 s.1 s.2.1 (Ints .u32 l))→Apart s (.slice A8 (ni+1) c8):=fun s h1 _ ⟨l,hr⟩ ad g ha hn hg e=>by
  rcases h3 with h3 | h3
  ·rw [h3] at hg;exact h1 ad g ha hn hg e
  ·rw [h3] at hg;cases hg
   obtain ⟨ad',e',hb,-⟩:=hr.2 hn;rw [ha] at e';cases e'
   omega
 have hp9:∀ (s:SlI),Apart s (.slice Av nv cv)→Apart s (.slice Av nv cv):=fun _ h=>h
 refine ⟨⟨S,A8,ni+1,c8,Av,nv,cv,xi++[id],xv,by simpa using k8.set_ 1 (.slice A8 (ni+1) c8),o9,p9,fun g e1 e2=>hne2 g e1 e2,by omega,by omega,?_,fun y=>⟨hd9 (S y) (hA y).1 (hA y).2 (hC.reads y),hp9 (S y) (hA y).2⟩,hd9 sl hs1 hs2 h.words,hs2⟩,⟨l,?_⟩,⟨cnt,D,hv.same (hb9 _ (by omega) (hnl _ (by omega)) (by omega))⟩,?_,h.size,?_,h.low,h.far,by rw [hs9];exact Nat.le_trans ht hg.size⟩
 ·refine hC.keepB (hb9 _ (by omega) (hnl _ (by omega)) (by omega)) (fun y l hr=>?_)
  rw [hs9];exact rd (hA y).1 hr
 ·rw [hs9];exact rd hs1 hl
 ·exact h.mak.same (hb9 _ h.mak.lt (h.mak.ne_own oi) (by omega))
 ·exact (h.below.grown hg (by omega) (fun g e=>by have:=(oi.lt g e).1;omega)).setCell (p:=⟨q+2,1,none⟩) (show w0.heap.size≤q+2 by omega) (.slice A8 (ni+1) c8)
theorem PolS.vrs (h:PolS w0 w q gt bm k T C sl) (kb:Blk w (q+2) 73 #[.pointer (some ⟨gt,0,none⟩),.slice Ai ni ci,.map (some q),.slice Av nv cv,.map (some (q+1))])
  (oi:w.ownsRow (q+3) 22 1 (.slice Ai ni ci) ni (Ints .u32 xi)) (ov:w.ownsRow (q+3) 22 1 (.slice Av nv cv) nv (Ints .u32 xv)) (hne:∀ g,(Value.slice Ai ni ci).ownBlock=some g→(Value.slice Av nv cv).ownBlock≠some g) (hni:ni≤k) (hnv:nv≤k)
  (hC:ConM w w.heap.size q T C S) (hA:∀ id,Apart (S id) (.slice Ai ni ci)∧Apart (S id) (.slice Av nv cv)) (hs1:Apart sl (.slice Ai ni ci)) (hs2:Apart sl (.slice Av nv cv))
  (o8:w8.ownsRow (q+3) 22 1 (.slice A8 (nv+1) c8) (nv+1) (Ints .u32 xv++[.int .u32 id])) (hg:w.grownBy w8 (Value.slice Av nv cv).ownBlock)
  (h3:(Value.slice A8 (nv+1) c8).ownBlock=(Value.slice Av nv cv).ownBlock∨(Value.slice A8 (nv+1) c8).ownBlock=some w.heap.size) :
  PolS w0 (w8.setCell ⟨q+2,3,none⟩ (.slice A8 (nv+1) c8)) q gt bm (k+1) T C sl:=by
 have ht:=h.top;have hlw:=h.low;have hfar:=h.far;obtain ⟨l,hl⟩:=h.words;obtain ⟨cnt,D,hv⟩:=h.vars;have hnl:∀ g,g<q+3→some g≠(Value.slice Av nv cv).ownBlock:=fun g hg=>Ne.symm (own_ne_low ov hg)
 have k8:=kb.grown hg (hnl _ (by omega))
 have c1:w8.cell? ⟨q+2,3,none⟩=some (.slice Av nv cv):=k8.cell 3;have hs9:(w8.setCell ⟨q+2,3,none⟩ (.slice A8 (nv+1) c8)).heap.size=w8.heap.size:=by simp
 have hb9:∀ g,g<w.heap.size→some g≠(Value.slice Av nv cv).ownBlock→g≠q+2→(w8.setCell ⟨q+2,3,none⟩ (.slice A8 (nv+1) c8)).heap[g]?=w.heap[g]?:=fun g hlt h1 hne=>(Below.heap_setCell w8 _ _ g (by simpa using hne)).trans (hg.block g hlt h1)
 have o9:(w8.setCell ⟨q+2,3,none⟩ (.slice A8 (nv+1) c8)).ownsRow (q+3) 22 1 (.slice A8 (nv+1) c8) (nv+1) (Ints .u32 (xv++[id])):=by
  have:=own_set_other o8 (p:=⟨q+2,3,none⟩) (own_ne_low o8 (by show q+2<q+3;omega)) (.slice A8 (nv+1) c8)
  rw [Ints_append];exact this
 have hne2:∀ g,(Value.slice A8 (nv+1) c8).ownBlock=some g→(Value.slice Ai ni ci).ownBlock≠some g:=fun g hg e=>by
  rcases h3 with h3 | h3
  ·rw [h3] at hg;first | exact hne g hg e | exact hne g e hg
  ·rw [h3] at hg;cases hg;have:=(oi.lt _ e).2;omega
 have p9:=own_set_other (oi.kept hg (apart_kept fun g e1 e2=>by first | exact hne g e1 e2 | exact hne g e2 e1)) (p:=⟨q+2,3,none⟩) (own_ne_low oi (by show q+2<q+3;omega)) (.slice A8 (nv+1) c8)
 have rd:∀ {s:SlI} {l:List Int},Apart s (.slice Av nv cv)→Reads w w.heap.size 1 s.1 s.2.1 (Ints .u32 l)→Reads (w8.setCell ⟨q+2,3,none⟩ (.slice A8 (nv+1) c8)) w8.heap.size 1 s.1 s.2.1 (Ints .u32 l):=fun ha hr=>(hr.grown_far hg (fun ad g h1 h2 h3=>ha ad g h1 h2 h3) (Nat.le_refl _) hg.size).far_ c1 (by unfold Ints;simp) _
 have hd9:∀ (s:SlI),Apart s (.slice Av nv cv)→Apart s (.slice Ai ni ci)→(∃ l,Reads w w.heap.size 1 s.1 s.2.1 (Ints .u32 l))→Apart s (.slice A8 (nv+1) c8):=fun s h1 _ ⟨l,hr⟩ ad g ha hn hg e=>by
  rcases h3 with h3 | h3
  ·rw [h3] at hg;exact h1 ad g ha hn hg e
  ·rw [h3] at hg;cases hg
   obtain ⟨ad',e',hb,-⟩:=hr.2 hn;rw [ha] at e';cases e'
   omega
 have hp9:∀ (s:SlI),Apart s (.slice Ai ni ci)→Apart s (.slice Ai ni ci):=fun _ h=>h
 refine ⟨⟨S,Ai,ni,ci,A8,nv+1,c8,xi,xv++[id],by simpa using k8.set_ 3 (.slice A8 (nv+1) c8),p9,o9,fun g e1 e2=>hne2 g e2 e1,by omega,by omega,?_,fun y=>⟨hp9 (S y) (hA y).1,hd9 (S y) (hA y).2 (hA y).1 (hC.reads y)⟩,hs1,hd9 sl hs2 hs1 h.words⟩,⟨l,?_⟩,⟨cnt,D,hv.same (hb9 _ (by omega) (hnl _ (by omega)) (by omega))⟩,?_,h.size,?_,h.low,h.far,by rw [hs9];exact Nat.le_trans ht hg.size⟩
 ·refine hC.keepB (hb9 _ (by omega) (hnl _ (by omega)) (by omega)) (fun y l hr=>?_)
  rw [hs9];exact rd (hA y).2 hr
 ·rw [hs9];exact rd hs2 hl
 ·exact h.mak.same (hb9 _ h.mak.lt (h.mak.ne_own ov) (by omega))
 ·exact (h.below.grown hg (by omega) (fun g e=>by have:=(ov.lt g e).1;omega)).setCell (p:=⟨q+2,3,none⟩) (show w0.heap.size≤q+2 by omega) (.slice A8 (nv+1) c8)
end
end
end
section
open Go.RowKit
def cellsAt (w:World):List (Addr × Value)→Prop
 | []=>True
 | x :: r=>w.cell? x.1=some x.2∧cellsAt w r
theorem cellsAt_keep {w w':World}:∀ {l:List (Addr × Value)},cellsAt w l→(∀ a v,w.cell? a=some v→w'.cell? a=some v)→cellsAt w' l
 | [],_,_=>trivial
 | _ :: _,h,hk=>⟨hk _ _ h.1,cellsAt_keep h.2 hk⟩
def Cx (w:World) (l:List (Addr × Value)) (w':World):Prop:=cellsAt w' l∧Below w.heap.size w w'
section
variable {w w1 w2:World} {l:List (Addr × Value)}
theorem Cx.call (h:Cx w l w1) (hb:Below w1.heap.size w1 w2):Cx w l w2 :=
 ⟨cellsAt_keep h.1 fun a _ ha=>(hb.cell (World.block_lt_of_cell? w1 a ha)).trans ha,below_cut h.2 hb (Nat.le_refl _)⟩
theorem Cx.drew_ (h:Cx w l w1):Cx w l w1.drew:=⟨cellsAt_keep h.1 fun _ _ ha=>ha,h.2.drew⟩
theorem Cx.here (h:Cx w l w1):Cx w1 l w1:=⟨h.1,Below.refl _ _⟩
theorem Cx.low {B:Nat} (h:Cx w l w1) (hb:Below B w1 w2) (hB:w.heap.size≤B) (hl:∀ x∈l,x.1.block<B):Cx w l w2:=by
 refine ⟨?_,h.2.trans (hb.mono hB)⟩;have h1:=h.1;clear h
 induction l with
 | nil=>trivial
 | cons x r ih=>exact ⟨(hb.cell (hl x List.mem_cons_self)).trans h1.1,ih (fun y hy=>hl y (List.mem_cons_of_mem _ hy)) h1.2⟩
theorem Cx.is (h:Cx w l w1):Below w.heap.size w w1:=h.2
theorem wp_region_cx {P:Program} {id:Nat} {Q:Exit→Act→World→Prop} {a:Act} {ops:List Oper} (hm:P.follows .mixedOrders=true) (hB:Region.lexB .any ops.toArray=true) (h0:Cx w l w1)
  (h:wpQuiet P ops.toArray (Cx w l) (fun a'=>∀ w',Cx w l w'→Q .normal a' w') ops a):(Code.region id ops.toArray true).wp P Q a w1 :=
 wp_region_quiet (C:=Cx w l) hm hB h0.drew_ (by simpa using h)
end
end
section
open Go.RowKit
def PooS (w:World) (gp gt:Nat) (T:Int→TyI) (C:Int→Option Int):Prop:=∃ (bc:Nat) (S:Int→SlI) (vi vv vm:Value),Blk w gp 73 #[.pointer (some ⟨gt,0,none⟩),vi,.map (some bc),vv,vm]∧ConM w w.heap.size bc T C S
theorem PooS.step {w w':World} {gp gt:Nat} {T:Int→TyI} {C:Int→Option Int} (h:PooS w gp gt T C) (hb:Below w.heap.size w w'):PooS w' gp gt T C:=by
 obtain ⟨bc,S,vi,vv,vm,h1,h2⟩:=h;exact ⟨bc,S,vi,vv,vm,h1.step hb,h2.step hb⟩
structure CkD where
 gc:Nat
 gt:Nat
 gp:Nat
 A:Option Addr
 n:Nat
 c:Nat
 bm:Nat
 T:Int→TyI
 S:Int→SlI
 M:Int→InstA
 C:Int→Option Int
 ls:List InstA
def CkD.g (d:CkD):Tg:=⟨d.T,fun id=>(d.M id).1,d.C⟩
structure CkS (d:CkD) (back:Int) (w:World):Prop where
 blk:Blk w d.gc 61 #[.pointer (some ⟨d.gt,0,none⟩),.pointer (some ⟨d.gp,0,none⟩),.slice d.A d.n d.c,.map (some d.bm),.int .u32 back]
 base:∃ w0:World,Below w0.heap.size w0 w∧w0.heap.size≤d.gc∧d.bm≠d.gc∧TabW w0 (some ⟨d.gt,0,none⟩) d.T d.S∧PooS w0 d.gp d.gt d.T d.C∧ModS w0 w0.heap.size d.A d.n d.ls∧MadM w w0.heap.size d.bm d.M
 ty:Typed d.T
 two:∀ id,(d.M id).1.1=54→2≤(d.M id).1.2.2.2.length
section
variable {d:CkD} {b:Int} {w w':World}
theorem CkS.step (h:CkS d b w) (hb:Below w.heap.size w w'):CkS d b w':=by
 obtain ⟨w0,h1,h2,h3,h4,h5,h6,h7⟩:=h.base;exact ⟨h.blk.step hb,⟨w0,below_cut h1 hb (Nat.le_refl _),h2,h3,h4,h5,h6,h7.same (hb.block _ h7.lt) (fun p hp=>hb.cell (Nat.lt_of_lt_of_le hp h1.size))⟩,h.ty,h.two⟩
theorem CkS.tab (h:CkS d b w):TabW w (some ⟨d.gt,0,none⟩) d.T d.S:=by
 obtain ⟨w0,h1,h2,h3,h4,-⟩:=h.base;exact h4.step h1
theorem CkS.pool (h:CkS d b w):PooS w d.gp d.gt d.T d.C:=by
 obtain ⟨w0,h1,h2,h3,h4,h5,-⟩:=h.base;exact h5.step h1
theorem CkS.insts (h:CkS d b w):ModS w w.heap.size d.A d.n d.ls:=by
 obtain ⟨w0,h1,h2,h3,h4,h5,h6,-⟩:=h.base;exact h6.step h1
theorem CkS.mad (h:CkS d b w):MadM w w.heap.size d.bm d.M:=by
 obtain ⟨w0,h1,h2,h3,h4,h5,h6,h7⟩:=h.base;exact h7.more h1.size
theorem CkS.back (h:CkS d b w) (b':Int):CkS d b' (w.setCell ⟨d.gc,4,none⟩ (.int .u32 b')):=by
 obtain ⟨w0,h1,h2,h3,h4,h5,h6,h7⟩:=h.base;refine ⟨by simpa using h.blk.set_ 4 (.int .u32 b'),⟨w0,h1.setCell (p:=⟨d.gc,4,none⟩) h2 _,h2,h3,h4,h5,h6,h7.same (Below.heap_setCell w _ _ _ h3) (fun p hp=>?_)⟩,h.ty,h.two⟩
 exact World.cell?_setCell_other w _ p _ (fun e=>by subst e;exact absurd hp (by show ¬ d.gc<_;omega))
theorem CkS.cell (h:CkS d b w):w.cell? ⟨d.gc,0,none⟩=some (.pointer (some ⟨d.gt,0,none⟩))∧w.cell? ⟨d.gc,1,none⟩=some (.pointer (some ⟨d.gp,0,none⟩))∧w.cell? ⟨d.gc,2,none⟩=some (.slice d.A d.n d.c)∧w.cell? ⟨d.gc,3,none⟩=some (.map (some d.bm))∧w.cell? ⟨d.gc,4,none⟩=some (.int .u32 b) :=
 ⟨h.blk.cell 0,h.blk.cell 1,h.blk.cell 2,h.blk.cell 3,h.blk.cell 4⟩
end
def Ret (v:Value) (w:World) (e:Ending) (w':World):Prop:=e=.returned v∧Below w.heap.size w w'
theorem of_ck (d:CkD) (b id:Int) (w:World) (h:CkS d b w):Calls Tryz.prog 26 #[.pointer (some ⟨d.gc,0,none⟩),.int .u32 id] w (Ret (.int .u32 (ofT d.g.M id)) w):=by
 have hl:=h.mad.look id;obtain ⟨c0,c1,c2,c3,c4⟩:=h.cell;obtain ⟨v,hv⟩:∃ v,v=ofT d.g.M id:=⟨_,rfl⟩;rw [← hv];replace hv:v=if (d.M id).1.1=54 then 0 else (d.M id).1.2.1:=hv
 have HV:=Lib.hid hv;clear h hv c0 c1 c2 c4;generalize d.M id=x at *;obtain ⟨⟨op,ty,res,al⟩,A,n,c⟩:=x;unfold instC at hl;dsimp only at *;have k1:=Blk.new w 42 #[.int .u16 op,.int .u32 ty,.int .u32 res,.slice A n c];have hb:=(Below.refl w.heap.size w).alloc (Nat.le_refl _) (.cells #[.int .u16 op,.int .u32 ty,.int .u32 res,.slice A n c] 42);obtain ⟨z0,z1,z2,z3⟩:=four_ k1
 by_cases h54:op=54
 ·have HV1:Hid (v=0):=Lib.hid (by rw [HV.out,if_pos h54])
  have e54:(op==54)=true:=by simpa using h54
  clear h54 HV;go_enter Tryz.func26,Tryz.ntmps26;go_wp2_with fail;go_ret
  exact ⟨by rw [HV1.out];rfl,hb⟩
 ·have HV1:Hid (v=ty):=Lib.hid (by rw [HV.out,if_neg h54])
  have e54:(op==54)=false:=by simpa using h54
  clear h54 HV;go_enter Tryz.func26,Tryz.ntmps26;go_wp2_with fail;go_ret
  exact ⟨by rw [HV1.out];rfl,hb⟩
theorem part_ck (d:CkD) (b ty k:Int) (w:World) (h:CkS d b w):Calls Tryz.prog 85 #[.pointer (some ⟨d.gc,0,none⟩),.int .u32 ty,.int .i64 k] w (Ret (.int .u32 (prt d.T ty k)) w):=by
 have hp:=partM_any _ _ _ ty k w h.tab.tab (h.tab.mild ty);obtain ⟨c0,-⟩:=h.cell;unfold prt;clear h;generalize partT (d.T ty) k=r at *;obtain ⟨r1,r2⟩:=r;dsimp only at *;go_enter Tryz.func85,Tryz.ntmps85;go_wp2_with fail;refine hp.mono ?_;rintro e w1 ⟨rfl,hb⟩;clear hp;go_wp2_with fail;go_ret
 exact ⟨rfl,hb⟩
theorem to_ck (d:CkD) (b ty:Int) (w:World) (h:CkS d b w):Calls Tryz.prog 120 #[.pointer (some ⟨d.gc,0,none⟩),.int .u32 ty] w (Ret (.tuple #[.int .u32 (toT d.T ty).1,.int .u32 (toT d.T ty).2]) w):=by
 have hc:=classM_any _ _ _ ty w h.tab.tab;have hp:=fun w' (hb:Below w.heap.size w w')=>part_ck d b ty 0 w' (h.step hb)
 obtain ⟨c0,-⟩:=h.cell;unfold toT;clear h;generalize prt d.T ty 0=pt at *;generalize (d.T ty).cls=cl at *;obtain ⟨q,hq⟩:∃ q,((d.T ty).kind==7)=q:=⟨_,rfl⟩;rw [hq] at hc;have hk:∀ x y:Int × Int,(if (d.T ty).kind=7 then x else y)=if q=true then x else y:=fun x y=>by
  rw [← hq]
  by_cases h7:(d.T ty).kind=7 <;> simp [h7]
 rw [hk];clear hk hq;cases q with
 | false =>
  go_enter Tryz.func120,Tryz.ntmps120;go_wp2_with fail;refine hc.mono ?_;rintro e w1 ⟨rfl,hb⟩;clear hc;go_wp2_with fail;go_ret2
  exact ⟨rfl,hb⟩
 | true =>
  go_enter Tryz.func120,Tryz.ntmps120;go_wp2_with fail;refine hc.mono ?_;rintro e w1 ⟨rfl,hb⟩;have hp1:=hp w1 hb;clear hc hp;go_wp2_with fail;refine hp1.mono ?_;rintro e w2 ⟨rfl,hb2⟩;clear hp1;go_wp2_with fail;go_ret2
  exact ⟨rfl,below_cut hb hb2 (Nat.le_refl _)⟩
theorem leaf_ck (d:CkD) (b ty:Int) (w:World) (h:CkS d b w):Calls Tryz.prog 114 #[.pointer (some ⟨d.gc,0,none⟩),.int .u32 ty] w (Ret (.int .u8 (leafK d.T ty)) w):=by
 have hk:=fun u w' (hb:Below w.heap.size w w')=>kindM_any _ _ _ u w' (h.step hb).tab.tab
 have hp:=fun w' (hb:Below w.heap.size w w')=>part_ck d b ty 0 w' (h.step hb)
 have hc:=fun w' (hb:Below w.heap.size w w')=>(h.step hb).cell.1
 have c0:=h.cell.1;have hk0:=hk ty w (Below.refl _ _);unfold leafK;clear h;generalize prt d.T ty 0=pt at *;have HC:=Lib.hid hc;clear hc
 by_cases h4:(d.T ty).kind=4
 ·have e4:((d.T ty).kind==4)=true:=by simpa using h4
  rw [if_pos h4];clear h4;generalize (d.T ty).kind=kd at hk0 e4;go_enter Tryz.func114,Tryz.ntmps114;go_wp2_with fail;refine hk0.mono ?_;rintro e w1 ⟨rfl,hb⟩;have hp1:=hp w1 hb;clear hk0 hp c0;go_wp2_with fail;refine hp1.mono ?_;rintro e w2 ⟨rfl,hb2⟩;have hb3:=below_cut hb hb2 (Nat.le_refl _);have hk1:=hk pt w2 hb3;have c0:=HC.out w2 hb3;clear hp1 hk;go_wp2_with fail;refine hk1.mono ?_;rintro e w3 ⟨rfl,hb4⟩;clear hk1;go_wp2_with fail;go_ret
  exact ⟨rfl,below_cut hb3 hb4 (Nat.le_refl _)⟩
 ·have e4:((d.T ty).kind==4)=false:=by simpa using h4
  rw [if_neg h4];clear h4;have hk1:=hk ty;clear hk;generalize (d.T ty).kind=kd at *;go_enter Tryz.func114,Tryz.ntmps114;go_wp2_with fail;refine hk0.mono ?_;rintro e w1 ⟨rfl,hb⟩;have hk2:=hk1 w1 hb;have c0:=HC.out w1 hb;clear hk0 hp hk1;go_wp2_with fail;refine hk2.mono ?_;rintro e w2 ⟨rfl,hb2⟩;clear hk2;go_wp2_with fail;go_ret
  exact ⟨rfl,below_cut hb hb2 (Nat.le_refl _)⟩
theorem isNumber_ck (d:CkD) (b ty:Int) (w:World) (h:CkS d b w):Calls Tryz.prog 119 #[.pointer (some ⟨d.gc,0,none⟩),.int .u32 ty] w (BoolIs ((d.T ty).kind==3) w):=by
 have hk:=kindM_any _ _ _ ty w h.tab.tab;have c0:=h.cell.1;clear h;generalize (d.T ty).kind=kd at *;go_enter Tryz.func119,Tryz.ntmps119;go_wp2_with fail;refine hk.mono ?_;rintro e w1 ⟨rfl,hb⟩;clear hk;go_wp2_with fail;go_ret
 exact ⟨rfl,hb⟩
theorem isNumbers_ck (d:CkD) (b ty:Int) (w:World) (h:CkS d b w):Calls Tryz.prog 86 #[.pointer (some ⟨d.gc,0,none⟩),.int .u32 ty] w (BoolIs (leafK d.T ty==3) w):=by
 have hk:=leaf_ck d b ty w h;clear h;generalize leafK d.T ty=kd at *;go_enter Tryz.func86,Tryz.ntmps86;go_wp2_with fail;refine hk.mono ?_;rintro e w1 ⟨rfl,hb⟩;clear hk;go_wp2_with fail;go_ret
 exact ⟨rfl,hb⟩
theorem isTruths_ck (d:CkD) (b ty:Int) (w:World) (h:CkS d b w):Calls Tryz.prog 88 #[.pointer (some ⟨d.gc,0,none⟩),.int .u32 ty] w (BoolIs (leafK d.T ty==2) w):=by
 have hk:=leaf_ck d b ty w h;clear h;generalize leafK d.T ty=kd at *;go_enter Tryz.func88,Tryz.ntmps88;go_wp2_with fail;refine hk.mono ?_;rintro e w1 ⟨rfl,hb⟩;clear hk;go_wp2_with fail;go_ret
 exact ⟨rfl,hb⟩
end
section
open Go.RowKit
def idxL {α:Type} (p:α→Bool) (l:List α):Nat→Nat→Int
 | 0,_=>-1
 | q+1,k=>if (l.drop k).head?.any p=true then (k:Int) else idxL p l q (k+1)
theorem idxL_any {α:Type} (p:α→Bool) (l:List α):∀ (q k:Nat),k+q=l.length→decide ((0:Int)≤idxL p l q k)=(l.drop k).any p
 | 0,k,h=>by
  rw [List.drop_of_length_le (by omega)]
  rfl
 | q+1,k,h=>by
  have hk:k<l.length:=by omega
  unfold idxL;rw [List.drop_eq_getElem_cons hk,List.any_cons]
  show decide (0≤if p l[k]=true then (k:Int) else _)=_
  cases hp:p l[k] with
  | true=>rw [if_pos rfl];simp
  | false =>
   rw [if_neg (by decide),Bool.false_or]
   exact idxL_any p l q (k+1) (by omega)
theorem idxL_here {α:Type} {p:α→Bool} {l:List α} {q k:Nat} (h:k+(q+1)=l.length):idxL p l (q+1) k=if p (l[k]'(by omega))=true then (k:Int) else idxL p l q (k+1):=by
 have hk:k<l.length:=by omega
 show (if (l.drop k).head?.any p=true then (k:Int) else idxL p l q (k+1))=_
 rw [List.drop_eq_getElem_cons hk];rfl
theorem index8_any (A:Option Addr) (n c:Nat) (l:List Int) (x:Int) (w:World) (hr:Reads w w.heap.size 1 A n (Ints .u8 l)) (hn:n≤4611686018427387904) :
  Calls Tryz.prog 129 #[.slice A n c,.int .u8 x] w (Ret (.int .i64 (idxL (fun y=>x==y) l n 0)) w):=by
 have hl:=hr.len;obtain ⟨v,hv⟩:∃ v,v=idxL (fun y=>x==y) l n 0:=⟨_,rfl⟩
 rw [← hv];have HV:=Lib.hid hv;have HR:=Lib.hid hr;clear hr hv;go_enter Tryz.func129,Tryz.ntmps129;go_wp2_with fail;go_loopg [8] n (fun q i wr=>∃ k:Nat,k+q=n∧i=.int .i64 (k:Nat)∧Hid (v=idxL (fun y=>x==y) l q k)∧wr=w)
 case atStart=>exact ⟨0,by omega,rfl,HV,rfl⟩
 case round =>
  obtain ⟨k,hq,rfl,HK,rfl⟩:=hrel;clear HV
  by_cases hlt:k<n
  ·obtain ⟨b,off,rfl,hbb,hcc⟩:=HR.out.ints (by omega)
   have c0:=hcc k hlt;obtain ⟨q,rfl⟩:∃ q,gk=q+1:=⟨gk-1,by omega⟩
   have hv:=HK.out;rw [idxL_here (by omega),← ix_of (by omega)] at hv
   have HV:=Lib.hid hv;have d1:decide (((k:Nat):Int)<(n:Nat))=true:=by rw [decide_eq_true_eq];omega
   have hi1:((k:Nat):Int)<(n:Nat):=by omega
   generalize ix l k=y at *;clear hcc HK hv;cases hb:(x==y) with
   | true =>
    have HV1:Hid (v=k):=Lib.hid (by rw [HV.out,if_pos hb])
    clear HV;go_wp2_with fail;go_ret
    exact ⟨by rw [HV1.out];rfl,Below.refl _ _⟩
   | false =>
    have HV1:Hid (v=idxL (fun y=>x==y) l q (k+1)):=Lib.hid (by rw [HV.out,if_neg (by rw [hb];decide)])
    clear HV;go_wp2_with fail;go_roundg q
    case measure=>omega
    case rel=>exact ⟨k+1,by omega,by go_num,HV1,rfl⟩
  ·obtain rfl:gk=0:=by omega
   have d1:decide (((k:Nat):Int)<(n:Nat))=false:=by rw [decide_eq_false_iff_not];omega
   go_wp2_with fail;go_ret
   exact ⟨by rw [HK.out];rfl,Below.refl _ _⟩
theorem contains8_any (A:Option Addr) (n c:Nat) (l:List Int) (x:Int) (w:World) (hr:Reads w w.heap.size 1 A n (Ints .u8 l)) (hn:n≤4611686018427387904) :
  Calls Tryz.prog 108 #[.slice A n c,.int .u8 x] w (BoolIs (l.any fun y=>x==y) w):=by
 have hi:=index8_any A n c l x w hr hn;have he:=idxL_any (fun y=>x==y) l n 0 (by rw [hr.len];omega)
 rw [List.drop_zero] at he;rw [← he];clear hr hn he;unfold Ret at hi;generalize idxL (fun y=>x==y) l n 0=z at *
 go_enter Tryz.func108,Tryz.ntmps108;go_wp2_with fail;refine hi.mono ?_;rintro e w1 ⟨rfl,hb⟩;clear hi;go_wp2_with fail;go_ret
 exact ⟨rfl,hb⟩
def argV (a:ArgI):Value:=.agg #[.int .u8 a.1,.int .u32 a.2.1,.string a.2.2]
theorem indexFunc_any (fid:Nat) (caps:Array Value) (A:Option Addr) (n c:Nat) (l:List ArgI) (p:ArgI→Bool) (w:World) (hr:Reads w w.heap.size 3 A n (Acells l)) (hn:n≤4611686018427387904)
  (hcf:∀ args w,(callFunc fid args).run Tryz.prog w=.ok (.enter fid args) w) (hF:∀ k,k<n→∀ w',Below w.heap.size w w'→Calls Tryz.prog fid (#[argV (ag l k)]++caps) w' (BoolIs (p (ag l k)) w')) :
  Calls Tryz.prog 134 #[.slice A n c,.func (.func fid) #[] caps] w (Ret (.int .i64 (idxL p l n 0)) w):=by
 have hl:=hr.args_len;obtain ⟨v,hv⟩:∃ v,v=idxL p l n 0:=⟨_,rfl⟩;rw [← hv];have HV:=Lib.hid hv;have HR:=Lib.hid hr;have HF:=Lib.hid hF;clear hr hv hF;go_enter Tryz.func134,Tryz.ntmps134;go_wp2_with fail;go_loopg [8] n (fun q i wr=>∃ k:Nat,k+q=n∧i=.int .i64 (k:Nat)∧Hid (v=idxL p l q k)∧Below w.heap.size w wr)
 case atStart=>exact ⟨0,by omega,rfl,HV,Below.refl _ _⟩
 case round =>
  obtain ⟨k,hq,rfl,HK,hbr⟩:=hrel;clear HV
  by_cases hlt:k<n
  ·obtain ⟨b,off,rfl,hbb,hcc⟩:=HR.out.args (by omega)
   obtain ⟨c0,c1,c2⟩:=hcc k hlt;have c0:=(hbr.cell (p:=⟨b,off+k*3,none⟩) hbb).trans c0;have c1:=(hbr.cell (p:=⟨b,off+k*3+1,none⟩) hbb).trans c1;have c2:=(hbr.cell (p:=⟨b,off+k*3+2,none⟩) hbb).trans c2;obtain ⟨q,rfl⟩:∃ q,gk=q+1:=⟨gk-1,by omega⟩
   have hv:=HK.out;rw [idxL_here (by omega),← ag_of (by omega)] at hv
   have HV:=Lib.hid hv;have d1:decide (((k:Nat):Int)<(n:Nat))=true:=by rw [decide_eq_true_eq];omega
   have hi1:((k:Nat):Int)<(n:Nat):=by omega
   have hf:=HF.out k hlt wr hbr;unfold argV at hf;generalize ag l k=y at *;obtain ⟨y1,y2,y3⟩:=y;dsimp only at c0 c1 c2 hf;clear hcc HK hv;cases hb:p (y1,y2,y3) with
   | true =>
    rw [hb] at hf;have HV1:Hid (v=k):=Lib.hid (by rw [HV.out,if_pos hb])
    clear HV hb;go_wp2_with fail;refine hf.mono ?_;rintro e w1 ⟨rfl,hb1⟩;clear hf;go_wp2_with fail;go_ret
    exact ⟨by rw [HV1.out];rfl,below_cut hbr hb1 (Nat.le_refl _)⟩
   | false =>
    rw [hb] at hf;have HV1:Hid (v=idxL p l q (k+1)):=Lib.hid (by rw [HV.out,if_neg (by rw [hb];decide)])
    clear HV hb;go_wp2_with fail;refine hf.mono ?_;rintro e w1 ⟨rfl,hb1⟩;clear hf;go_wp2_with fail;go_roundg q
    case measure=>omega
    case rel=>exact ⟨k+1,by omega,by go_num,HV1,below_cut hbr hb1 (Nat.le_refl _)⟩
  ·obtain rfl:gk=0:=by omega
   have d1:decide (((k:Nat):Int)<(n:Nat))=false:=by rw [decide_eq_false_iff_not];omega
   go_wp2_with fail;go_ret
   exact ⟨by rw [HK.out];rfl,hbr⟩
theorem containsFunc_any (fid:Nat) (caps:Array Value) (A:Option Addr) (n c:Nat) (l:List ArgI) (p:ArgI→Bool) (w:World) (hr:Reads w w.heap.size 3 A n (Acells l)) (hn:n≤4611686018427387904)
  (hcf:∀ args w,(callFunc fid args).run Tryz.prog w=.ok (.enter fid args) w) (hF:∀ k,k<n→∀ w',Below w.heap.size w w'→Calls Tryz.prog fid (#[argV (ag l k)]++caps) w' (BoolIs (p (ag l k)) w')) :
  Calls Tryz.prog 115 #[.slice A n c,.func (.func fid) #[] caps] w (BoolIs (l.any p) w):=by
 have hi:=indexFunc_any fid caps A n c l p w hr hn hcf hF;have he:=idxL_any p l n 0 (by rw [hr.args_len];omega)
 rw [List.drop_zero] at he;rw [← he];clear hr hn he hF hcf;unfold Ret at hi;generalize idxL p l n 0=z at *;go_enter Tryz.func115,Tryz.ntmps115;go_wp2_with fail;refine hi.mono ?_;rintro e w1 ⟨rfl,hb⟩;clear hi;go_wp2_with fail;go_ret
 exact ⟨rfl,hb⟩
theorem not_any_not {α:Type} (p:α→Bool):∀ l:List α,(!l.any fun a=>!p a)=l.all p
 | []=>rfl
 | a :: r=>by
  rw [List.any_cons,List.all_cons,← not_any_not p r];cases p a <;> simp
theorem nums_all (l:List ArgI) (p:Int→Bool):(nums l).all p=l.all fun a=>p a.2.1:=by
 unfold nums;rw [List.all_map];rfl
theorem alike17 (d:CkD) (b x y:Int) (w:World) (h:CkS d b w):Calls Tryz.prog 117 #[.pointer (some ⟨d.gt,0,none⟩),.int .u32 x,.int .u32 y] w (BoolIs (alk d.T x y) w) :=
 alike_any _ d.T d.S h.ty.deepT 17 x y w h.tab (by have:=(h.ty.deep x).2;omega) (by decide)
theorem alikeIn_ck (d:CkD) (b ty:Int) (g1 g2:Nat) (a:ArgI) (w:World) (h:CkS d b w) (h1:w.cell? ⟨g1,0,none⟩=some (.pointer (some ⟨d.gc,0,none⟩))) (h2:w.cell? ⟨g2,0,none⟩=some (.int .u32 ty)) :
  Calls Tryz.prog 116 #[argV a,.pointer (some ⟨g1,0,none⟩),.pointer (some ⟨g2,0,none⟩)] w (BoolIs (!alk d.T ty (ofT d.g.M a.2.1)) w):=by
 obtain ⟨a1,a2,a3⟩:=a;unfold argV;dsimp only;have hb:=(Below.refl w.heap.size w).alloc (Nat.le_refl _) (.cells #[.int .u8 a1,.int .u32 a2,.string a3] 44);have k1:=Blk.new w 44 #[.int .u8 a1,.int .u32 a2,.string a3];have hof:=fun (w':World) (hb:Below w.heap.size w w')=>of_ck d b a2 w' (h.step hb)
 have hal:=fun (w':World) (hb:Below w.heap.size w w')=>alike17 d b ty (ofT d.g.M a2) w' (h.step hb)
 have hX:Cx w [(⟨g1,0,none⟩,.pointer (some ⟨d.gc,0,none⟩)),(⟨g2,0,none⟩,.int .u32 ty),(⟨d.gc,0,none⟩,.pointer (some ⟨d.gt,0,none⟩)),(⟨w.heap.size,1,none⟩,.int .u32 a2)] (w.alloc (.cells #[.int .u8 a1,.int .u32 a2,.string a3] 44)) :=
  ⟨⟨(hb.cell (World.block_lt_of_cell? w _ h1)).trans h1,(hb.cell (World.block_lt_of_cell? w _ h2)).trans h2,(hb.cell (World.block_lt_of_cell? w _ h.cell.1)).trans h.cell.1,(three_ k1).2.1,trivial⟩,hb⟩
 unfold Ret at hof;generalize ofT d.g.M a2=o at *;generalize alk d.T ty o=v at *;clear h h1 h2 k1 hb;go_enter Tryz.func116,Tryz.ntmps116;go_wp2_with fail;refine wp_region_cx (by kernel_rfl) (by kernel_rfl) hX ?_
 repeat' first | (refine BigFrame.wpQuiet_want (by rfl) (fun K hK=>?_);apply Exists.intro;refine ⟨fun w' hw'=>?_,hK _ ?_⟩;(have hc:=hw'.1;simp only [cellsAt] at hc;go_simp;first | done | with_reducible rfl | (go_at_call 26;exact (hof _ hw'.2).mono fun e w2 h2=>⟨h2.1,hw'.call h2.2⟩) | (go_at_call 117;exact (hal _ hw'.2).mono fun e w2 h2=>⟨h2.1,hw'.call h2.2⟩));clear hK K;(try simp only [Act.put,List.setIfInBounds_toArray,List.set_cons_zero,List.set_cons_succ])) | (refine BigFrame.wpQuiet_skip (by rfl) ?_;(try simp only [Act.put,List.setIfInBounds_toArray,List.set_cons_zero,List.set_cons_succ]))
 refine wpQuiet_nil ?_;intro w' hw';have hb9:=hw'.2;clear hw';go_wp2_with fail;go_ret
 exact ⟨rfl,hb9⟩
theorem alike_ck (d:CkD) (b ty:Int) (A:Option Addr) (n c:Nat) (l:List ArgI) (w:World) (h:CkS d b w) (hr:Reads w w.heap.size 3 A n (Acells l)) (hn:n≤4611686018427387904) :
  Calls Tryz.prog 87 #[.pointer (some ⟨d.gc,0,none⟩),.int .u32 ty,.slice A n c] w (BoolIs (alkL d.g ty (nums l)) w):=by
 have hb:=((Below.refl w.heap.size w).alloc (Nat.le_refl _) (.cells #[.pointer (some ⟨d.gc,0,none⟩)] 56)).alloc (by simp) (.cells #[.int .u32 ty] 22)
 have k1:=(Blk.new w 56 #[.pointer (some ⟨d.gc,0,none⟩)]).alloc (.cells #[.int .u32 ty] 22);have k2:=Blk.new (w.alloc (.cells #[.pointer (some ⟨d.gc,0,none⟩)] 56)) 22 #[.int .u32 ty];rw [World.size_alloc] at k2;have hc:=containsFunc_any 116 #[.pointer (some ⟨w.heap.size,0,none⟩),.pointer (some ⟨w.heap.size+1,0,none⟩)] A n c l (fun a=>!alk d.T ty (ofT d.g.M a.2.1)) _ ((hr.below hb).more hb.size) hn (fun _ _=>by kernel_rfl)
  (fun k hk w' hb'=>alikeIn_ck d b ty w.heap.size (w.heap.size+1) (ag l k) w' (h.step (below_cut hb hb' (Nat.le_refl _))) ((k1.step hb').cell 0) ((k2.step hb').cell 0))
 have e:alkL d.g ty (nums l)=!(l.any fun a=>!alk d.T ty (ofT d.g.M a.2.1)):=by
  rw [not_any_not];exact nums_all l _
 rw [e];generalize (l.any fun a=>!alk d.T ty (ofT d.g.M a.2.1))=v at *
 clear h hr k1 k2 e;go_enter Tryz.func87,Tryz.ntmps87;go_wp2_with fail;refine hc.mono ?_;rintro e w1 ⟨rfl,hb1⟩;clear hc;go_wp2_with fail;go_ret
 exact ⟨rfl,below_cut hb hb1 (Nat.le_refl _)⟩
theorem cell_alloc_c {W:World} {a:Addr} {v:Value} (o:Obj) (h:W.cell? a=some v):(W.alloc o).cell? a=some v:=cell_kept h (World.grownBy_alloc W o none) (fun r e=>by cases e)
end
end Go.Proofs.YtdebjkiilnhgpaaGreatDoor
