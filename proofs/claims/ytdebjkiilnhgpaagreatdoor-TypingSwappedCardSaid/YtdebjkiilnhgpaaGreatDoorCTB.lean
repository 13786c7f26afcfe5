/- Words for memory, used by the walks: a slice that reads as a list, a block that is known whole, an append onto a row of the call's own; no program is named. -/
import Derived.WalkKit
import Derived.WalkSpells
import Derived.WalkLawsBesides
import Derived.Below
import Derived.Laws.OwnMore
import Derived.Deep.AppendLies
import Derived.Deep.Draws
import Derived.Laws.Rows
import Derived.Maps.AppendAt
import Derived.RegionTactic
import Derived.OwnWalk
import Derived.Deep.QuietTactic
import Derived.Deep.OwnRows
import Derived.BigQuiet
import Derived.ChangeSame
import Derived.Lib.Hide
import Derived.Laws.MakeOwn
import Derived.RangeFuncNested
import Derived.RangeFuncBound
import Derived.RangeFuncCalls
import Derived.RangeFuncLeaves
import Derived.StillTailTactics
import Derived.Laws.RangeAny
import Derived.Laws.Runes
import Derived.Laws.Concat
import Derived.RangeFuncRecord
import Derived.RangeFuncOwn
namespace Go.Proofs.YtdebjkiilnhgpaaGreatDoor
section
open Go.RowKit Go.WideShapes Go.ChangeShapes
theorem block_of_add (a:Addr) (n:Nat):(a.add n).block=a.block:=by unfold Addr.add;split <;> rfl
theorem add_of_add (a:Addr) (i j:Nat):(a.add i).add j=a.add (i+j):=by
 unfold Addr.add
 by_cases hi:i=0 <;> by_cases hj:j=0 <;> simp [hi,hj,Nat.add_assoc]
def Reads (w:World) (B size:Nat) (A:Option Addr) (n:Nat) (xs:List Value):Prop :=
 xs.length=n*size∧(0<n→∃ ad,A=some ad∧ad.block<B∧∀ j u,xs[j]?=some u→w.cell? (ad.add j)=some u)
section
variable {w w':World} {B B' size n:Nat} {A:Option Addr} {xs:List Value}
theorem Reads.none_:Reads w B size A 0 []:=⟨by simp,fun h=>absurd h (by omega)⟩
theorem Reads.at_ {k:Nat} (h:Reads w B 1 A n xs) (hk:k<n):∃ ad u,A=some ad∧ad.block<B∧xs[k]?=some u∧w.cell? (ad.add k)=some u:=by
 obtain ⟨ad,e,hb,hc⟩:=h.2 (by omega)
 have hl:k<xs.length:=by have:=h.1;omega
 exact ⟨ad,xs[k],e,hb,List.getElem?_eq_getElem hl,hc k _ (List.getElem?_eq_getElem hl)⟩
theorem Reads.keep (h:Reads w B size A n xs) (hk:∀ p:Addr,p.block<B→w'.cell? p=w.cell? p):Reads w' B size A n xs :=
 ⟨h.1,fun hn=>by
  obtain ⟨ad,e,hb,hc⟩:=h.2 hn;exact ⟨ad,e,hb,fun j u hu=>(hk _ (by rw [block_of_add];exact hb)).trans (hc j u hu)⟩⟩
theorem Reads.more (h:Reads w B size A n xs) (hB:B≤B'):Reads w B' size A n xs :=
 ⟨h.1,fun hn=>by
  obtain ⟨ad,e,hb,hc⟩:=h.2 hn;exact ⟨ad,e,by omega,hc⟩⟩
theorem Reads.below (h:Reads w B size A n xs) (hb:Below B w w'):Reads w' B size A n xs:=h.keep fun _ hp=>hb.cell hp
theorem Reads.drew (h:Reads w B size A n xs):Reads w.drew B size A n xs:=h
theorem Reads.drewN (h:Reads w B size A n xs) (k:Nat):Reads (w.drewN k) B size A n xs:=h
theorem Reads.alloc (h:Reads w B size A n xs) (hB:B≤w.heap.size) (o:Obj):Reads (w.alloc o) B size A n xs:=h.keep fun p hp=>World.cell?_alloc_lt w o p (by omega)
theorem Reads.setCell (h:Reads w B size A n xs) {p:Addr} (hB:B≤p.block) (u:Value):Reads (w.setCell p u) B size A n xs :=
 h.keep fun q hq=>World.cell?_setCell_other w p q u (fun e=>by subst e;omega)
theorem Reads.grown (h:Reads w B size A n xs) {row:Option Nat} (hg:w.grownBy w' row) (hB:B≤w.heap.size) (hr:∀ g,row=some g→B≤g):Reads w' B size A n xs :=
 h.keep fun p hp=>World.cell?_of_block (hg.block p.block (by omega) (fun e=>by have:=hr _ e.symm;omega))
theorem Reads.cut (h:Reads w B size A n xs) {k cap:Nat} (hk:k≤n) (hc:n≤cap) :
  Reads w B size (if cap=k then A else A.map (·.add (k*size))) (n-k) (xs.drop (k*size)):=by
 refine ⟨by rw [List.length_drop,h.1,Nat.sub_mul],fun hn=>?_⟩
 obtain ⟨ad,rfl,hb,hcell⟩:=h.2 (by omega)
 rw [if_neg (by omega)]
 refine ⟨ad.add (k*size),rfl,by rw [block_of_add];exact hb,fun j u hu=>?_⟩
 rw [add_of_add];exact hcell _ u (by rw [← hu,List.getElem?_drop])
theorem Reads.of_own {base:Nat} {e:TypeId} {c:Nat} (h:w.ownsRow base e size (.slice A n c) n xs):Reads w w.heap.size size A n xs:=by
 refine ⟨h.1,fun hn=>?_⟩
 obtain ⟨g,cap,hv,_,hlt⟩:=h.form hn;have hA:A=some ⟨g,0,none⟩:=by injection hv
 subst hA;exact ⟨_,rfl,hlt,h.cells (g:=g) rfl⟩
end
def Blk (w:World) (g:Nat) (t:TypeId) (cs:Array Value):Prop:=w.heap[g]?=some (.cells cs t (0,0))
section
variable {w w':World} {g:Nat} {t:TypeId} {cs:Array Value}
theorem Blk.lt (h:Blk w g t cs):g<w.heap.size:=by
 rcases Nat.lt_or_ge g w.heap.size with hlt | hge
 ·exact hlt
 ·unfold Blk at h;rw [Array.getElem?_eq_none hge] at h;cases h
theorem Blk.cell (h:Blk w g t cs) (i:Nat):w.cell? ⟨g,i,none⟩=cs[i]?:=cell_of_row w g i cs t (0,0) h
theorem Blk.frozen (h:Blk w g t cs) (i:Nat):w.frozen? ⟨g,i,none⟩=false:=by
 unfold Blk at h;simp [World.frozen?,h]
theorem Blk.new (w:World) (t:TypeId) (cs:Array Value):Blk (w.alloc (.cells cs t)) w.heap.size t cs:=heap_alloc_new w _
theorem Blk.drew (h:Blk w g t cs):Blk w.drew g t cs:=h
theorem Blk.drewN (h:Blk w g t cs) (n:Nat):Blk (w.drewN n) g t cs:=h
theorem Blk.alloc (h:Blk w g t cs) (o:Obj):Blk (w.alloc o) g t cs:=(Below.heap_alloc w o g h.lt).trans h
theorem Blk.set_ (h:Blk w g t cs) (i:Nat) (u:Value):Blk (w.setCell ⟨g,i,none⟩ u) g t (cs.setIfInBounds i u):=by
 unfold Blk at h ⊢;simp [World.setCell,Array.getElem?_modify,h]
theorem Blk.far (h:Blk w g t cs) {p:Addr} (hp:g≠p.block) (u:Value):Blk (w.setCell p u) g t cs:=(Below.heap_setCell w p u g hp).trans h
theorem Blk.below {B:Nat} (h:Blk w g t cs) (hb:Below B w w') (hg:g<B):Blk w' g t cs:=(hb.block g hg).trans h
theorem Blk.grown {row:Option Nat} (h:Blk w g t cs) (hb:w.grownBy w' row) (hg:some g≠row):Blk w' g t cs:=(hb.block g h.lt hg).trans h
theorem Blk.ne_ {g':Nat} {t':TypeId} {cs':Array Value} (h:Blk w g t cs) (h':Blk w g' t' cs') (hne:t≠t'):g≠g':=by
 rintro rfl;unfold Blk at h h';rw [h] at h';injection h' with h'
 injection h' with _ ht
 exact hne ht
theorem own_blk_ne {base:Nat} {e:TypeId} {size n:Nat} {v:Value} {xs:List Value} (h:w.ownsRow base e size v n xs) (hg:Blk w g t cs) (hne:e≠t):v.ownBlock≠some g:=by
 rcases h.2 with ⟨rfl,_⟩ | ⟨g',cap,cur,rfl,_,hh,_⟩
 ·simp [Value.ownBlock]
 ·intro he;have:g'=g:=by simpa [Value.ownBlock] using he
  subst this;exact Blk.ne_ (t:=e) hh hg hne rfl
end
section
variable {P:Program} (w:World)
theorem run_append_of_nil (base:Nat) (t ty e:TypeId) (i:TypeInfo) (size:Nat) (ht:P.underlying t=some (.slice e)) (hi:P.info? e=some i)
  (v:Value) (n:Nat) (xs:List Value) (hown:w.ownsRow base e size v n xs) (c:Nat):(Builtin.append_ #[t,t] ty #[v,.slice none 0 c]).run P w=.ok v w:=by
 rcases hown.2 with ⟨rfl,rfl⟩ | ⟨g,cap,cur,rfl,_,_,hnc,_⟩
 ·simp [Builtin.append_,run_underlying ht,sizeOf,typeInfo,hi,Builtin.lenOf,Builtin.firstCells]
 ·simp [Builtin.append_,run_underlying ht,sizeOf,typeInfo,hi,Builtin.lenOf,Builtin.firstCells,hnc,storeCells]
theorem run_append_any (base:Nat) (t ty e:TypeId) (i:TypeInfo) (z:Value) (size bytes:Nat) (ht:P.underlying t=some (.slice e)) (hi:P.info? e=some i) (hz:i.zero=some z)
  (hsize:i.size=size) (hby:i.bytes=bytes) (hzs:z.cells.size=size) (hsz:0<size)
  (v:Value) (n:Nat) (xs:List Value) (hown:w.ownsRow base e size v n xs)
  (B:Nat) (A:Option Addr) (m c:Nat) (news:List Value) (hr:Reads w B size A m news) (h1:∀ u∈news,u.oneCell'=true)
  (h63:n+m≤maxLen) (hbytes:(n+m)*bytes≤140737488355328) (hbase:base≤w.heap.size) :
  ∃ v' w',(Builtin.append_ #[t,t] ty #[v,.slice A m c]).run P w=.ok v' w'∧w'.ownsRow base e size v' (n+m) (xs++news)∧w.grownBy w' v.ownBlock ∧
   (v'.ownBlock=v.ownBlock∨v'.ownBlock=some w.heap.size):=by
 rcases A with _ | ad
 ·have hm:m=0:=by
   rcases Nat.eq_zero_or_pos m with h0 | h0
   ·exact h0
   ·obtain ⟨ad,h,_⟩:=hr.2 h0;cases h
  subst hm;have hn:news=[]:=List.eq_nil_of_length_eq_zero (by simpa using hr.1)
  subst hn;exact ⟨v,w,run_append_of_nil w base t ty e i size ht hi v n xs hown c,by simpa using hown,World.grownBy.refl w _,.inl rfl⟩
 ·have hcells:∀ j u,news[j]?=some u→w.cell? (ad.add j)=some u:=by
   intro j u hu
   rcases Nat.eq_zero_or_pos m with h0 | h0
   ·subst h0;have hn:news=[]:=List.eq_nil_of_length_eq_zero (by simpa using hr.1)
    subst hn;simp at hu
   ·obtain ⟨ad',h,_,hc⟩:=hr.2 h0;injection h with h
    subst h;exact hc j u hu
  obtain ⟨v',w',hrun,h2,h3,_,h5⟩:=run_append_own_at (P:=P) w base t ty e i z size bytes ht hi hz hsize hby hzs hsz v n xs hown ad m c news hr.1 hcells h1 h63 hbytes hbase;exact ⟨v',w',hrun,h2,h3,h5⟩
theorem wp_append_any {o:Oper} {a:Act} {K:Act→World→Prop} {Q:Exit→Act→World→Prop} (s x:Operand) (t:TypeId)
  (ho:o.op=.call { callee:=.builtin .append,args:=#[s,x],argTypes:=#[t,t] })
  (base:Nat) (e:TypeId) (i:TypeInfo) (z:Value) (size bytes:Nat) (ht:P.underlying t=some (.slice e)) (hi:P.info? e=some i) (hz:i.zero=some z)
  (hsize:i.size=size) (hby:i.bytes=bytes) (hzs:z.cells.size=size) (hsz:0<size)
  (v:Value) (n:Nat) (xs:List Value) (hs:a.eval s=v) (hown:w.ownsRow base e size v n xs)
  (B:Nat) (A:Option Addr) (m c:Nat) (news:List Value) (hx:a.eval x=.slice A m c) (hr:Reads w B size A m news) (h1:∀ u∈news,u.oneCell'=true)
  (h63:n+m≤maxLen) (hbytes:(n+m)*bytes≤140737488355328) (hbase:base≤w.heap.size)
  (h:∀ v' w',w'.ownsRow base e size v' (n+m) (xs++news)→w.grownBy w' v.ownBlock→(v'.ownBlock=v.ownBlock∨v'.ownBlock=some w.heap.size)→K (a.put o.dst v') w'):o.wp P a w K Q:=by
 obtain ⟨v',w',hrun,h2,h3,h4⟩:=run_append_any (P:=P) w base t o.type e i z size bytes ht hi hz hsize hby hzs hsz v n xs hown B A m c news hr h1 h63 hbytes hbase;unfold Oper.wp execOp;simp only [ho,resolve,invoke,builtin,Sem.run_bind,Sem.run_pure,Result.andThen_ok,List.map_toArray,List.map_cons,List.map_nil,hs,hx,hrun];exact h v' w' h2 h3 h4
theorem wpList_append_any {ops:Array Oper} {rest:List Oper} {o:Oper} {a:Act} {Q:Exit→Act→World→Prop} (hgd:o.guard=none) (s x:Operand) (t:TypeId)
  (ho:o.op=.call { callee:=.builtin .append,args:=#[s,x],argTypes:=#[t,t] })
  (base:Nat) (e:TypeId) (i:TypeInfo) (z:Value) (size bytes:Nat) (ht:P.underlying t=some (.slice e)) (hi:P.info? e=some i) (hz:i.zero=some z)
  (hsize:i.size=size) (hby:i.bytes=bytes) (hzs:z.cells.size=size) (hsz:0<size)
  (v:Value) (n:Nat) (xs:List Value) (hs:a.eval s=v) (hown:w.ownsRow base e size v n xs)
  (B:Nat) (A:Option Addr) (m c:Nat) (news:List Value) (hx:a.eval x=.slice A m c) (hr:Reads w B size A m news) (h1:∀ u∈news,u.oneCell'=true)
  (h63:n+m≤maxLen) (hbytes:(n+m)*bytes≤140737488355328) (hbase:base≤w.heap.size)
  (h:∀ v' w',w'.ownsRow base e size v' (n+m) (xs++news)→w.grownBy w' v.ownBlock→(v'.ownBlock=v.ownBlock∨v'.ownBlock=some w.heap.size)→wpList P ops Q rest (a.put o.dst v') w'):wpList P ops Q (o :: rest) a w :=
 wpList_plain hgd fun _ hK=>wp_append_any w s x t ho base e i z size bytes ht hi hz hsize hby hzs hsz v n xs hs hown B A m c news hx hr h1 h63 hbytes hbase fun v' w' h2 h3 h4=>hK _ _ (h v' w' h2 h3 h4)
theorem step_append_any {ops:Array Oper} {o:Oper} {a:Act} {K:Act→World→Prop} {Q:Exit→Act→World→Prop} {E:Prop} (hgd:o.guard=none) (s x:Operand) (t:TypeId)
  (ho:o.op=.call { callee:=.builtin .append,args:=#[s,x],argTypes:=#[t,t] })
  (base:Nat) (e:TypeId) (i:TypeInfo) (z:Value) (size bytes:Nat) (ht:P.underlying t=some (.slice e)) (hi:P.info? e=some i) (hz:i.zero=some z)
  (hsize:i.size=size) (hby:i.bytes=bytes) (hzs:z.cells.size=size) (hsz:0<size)
  (v:Value) (n:Nat) (xs:List Value) (hs:a.eval s=v) (hown:w.ownsRow base e size v n xs)
  (B:Nat) (A:Option Addr) (m c:Nat) (news:List Value) (hx:a.eval x=.slice A m c) (hr:Reads w B size A m news) (h1:∀ u∈news,u.oneCell'=true)
  (h63:n+m≤maxLen) (hbytes:(n+m)*bytes≤140737488355328) (hbase:base≤w.heap.size)
  (h:∀ v' w',w'.ownsRow base e size v' (n+m) (xs++news)→w.grownBy w' v.ownBlock→(v'.ownBlock=v.ownBlock∨v'.ownBlock=some w.heap.size)→K (a.put o.dst v') w') :
  if Region.wanted o (yielded ops a.tmps)=true then Oper.wp P o a w K Q else E:=by
 have hw:Region.wanted o (yielded ops a.tmps)=true:=by simp [Region.wanted,hgd]
 rw [if_pos hw];exact wp_append_any w s x t ho base e i z size bytes ht hi hz hsize hby hzs hsz v n xs hs hown B A m c news hx hr h1 h63 hbytes hbase h
end
theorem below_drewN {B:Nat} {a w:World} (h:Below B a w) (n:Nat):Below B a (w.drewN n):=⟨h.os,h.tape,h.output,h.size,h.block⟩
theorem only_drew {a w:World} {row:Option Nat} (h:a.grownBy w row):a.grownBy w.drew row:=⟨h.os,h.tape,h.output,h.size,h.block⟩
theorem only_alloc {a w:World} {row:Option Nat} (h:a.grownBy w row) (o:Obj):a.grownBy (w.alloc o) row :=
 ⟨h.os,h.tape,h.output,Nat.le_trans h.size (by simp),fun i hi hne=>(Below.heap_alloc w o i (Nat.lt_of_lt_of_le hi h.size)).trans (h.block i hi hne)⟩
theorem only_setCell {a w:World} {g:Nat} (h:a.grownBy w (some g)) {p:Addr} (hp:p.block=g∨a.heap.size≤p.block) (u:Value):a.grownBy (w.setCell p u) (some g) :=
 ⟨h.os,h.tape,h.output,by simpa [World.setCell] using h.size,fun i hi hne=>(Below.heap_setCell w p u i (by
  rintro rfl
  rcases hp with hp | hp
  ·exact hne (by rw [hp])
  ·omega)).trans (h.block i hi hne)⟩
theorem only_of_below {a w:World} (h:Below a.heap.size a w) (row:Option Nat):a.grownBy w row:=⟨h.os,h.tape,h.output,h.size,fun i hi _=>h.block i hi⟩
section
variable {H:Type} {enc:TypeId × Value→H} {P:Program}
theorem post_of_below {f:Func} {s:ChangeSpec} {apart fresh handsOn again:Bool} {W W':World} {args:Array Value} {v:Value} {ds gs:List (DataW H)} {before pa pv:List MemPlace}
  (hW:DataW.Whole enc P f.params.toList s.vars apart W args.toList ds gs before)
  (hres:∀ (b:Nat) (sp:Nat→Bool) (hd:Bool),DataW.TrodAll enc P W' b sp hd f.resultTypes.toList (v.resultList f.resultTypes.size) (s.fn H (ds++gs)).results [])
  (hargs:∀ sp:Nat→Bool,(∀ p∈before,sp p.block=true)→DataW.TrodAll enc P W' 0 sp true f.params.toList args.toList (s.fn H (ds++gs)).args pa)
  (hvars:∀ sp:Nat→Bool,(∀ p∈before,sp p.block=true)→DataW.TrodVars enc P W' sp s.vars (s.fn H (ds++gs)).vars pv)
  (hps:before=pa++pv) (hb:Below W.heap.size W W')
  (hok:∀ (j:Nat) (t:TypeId) (r:Value),f.resultTypes[j]?=some t→(v.resultList f.resultTypes.size)[j]?=some r→Value.okWide P W' .any 0 t r) :
  s.post enc P f apart fresh handsOn again W args v W':=by
 have hlt:∀ p∈before,p.block<W.heap.size:=fun p hp=>hW.lt p hp
 have hold:∀ p∈before,(fun b=>decide (b<W.heap.size)) p.block=true:=fun p hp=>by simpa using hlt p hp
 refine ⟨ds,gs,before,[],pa,pv,hW,hres _ _ _,hargs _ hold,hvars _ hold,World.keptBut_mono (fun p hp=>⟨hp,?_⟩) (hb.frame (·∈before)),fun _=>?_⟩
 ·rw [hps,List.mem_append] at hp;exact Or.inr hp
 ·obtain ⟨_,_,_,_,_,hz,hn⟩:=hW;refine ⟨hok,_,_,([]++pa)++pv,⟨[]++pa,pv,trodAll_append (hargs _ (fun _ _=>rfl)) (hres _ _ _),hvars _ (fun _ _=>rfl),rfl,?_,?_⟩,?_⟩
  ·intro b off hp;have hin:MemPlace.cell b off∈before:=by rw [hps];simpa using hp
   rw [hb.frozen (hlt _ hin)];exact hz b off hin
  ·intro ha;have:=hn ha;rw [hps] at this;simpa using this
  ·intro p hp _;rw [hps];simpa using hp
end
structure SliceOf (P:Program) (t e:TypeId) (z:Value) (size bytes:Nat):Prop where
 ht:P.underlying t=some (.slice e)
 hi:(P.info? e).map (fun i=>(i.zero,i.size,i.bytes))=some (some z,size,bytes)
 hs:z.cells.size=size
 pos:0<size
section
variable {P:Program} {t e:TypeId} {z:Value} {size bytes:Nat}
theorem mk_full (S:SliceOf P t e z 1 bytes) (hz1:z.cells=#[z]) (w:World) {ops:Array Oper} {rest:List Oper} {o:Oper} {a:Act} {Q:Exit→Act→World→Prop} (hg:o.guard=none)
  (l c:Operand) (hop:o.op=.makeSlice t l c) (base n:Nat) {kl kc:IntKind} {L C:Int} (hl:a.eval l=.int kl L) (hc:a.eval c=.int kc C) (hL:L=n) (hC:C=n)
  (hb:bytes*n≤281474976710656) (h63:n≤9223372036854775807) (h4:base≤w.heap.size)
  (hK:∀ w':World,w'.ownsRow base e 1 (.slice (some ⟨w.heap.size,0,none⟩) n n) n (List.replicate n z)→w.grownBy w' none →
   wpList P ops Q rest (a.put o.dst (.slice (some ⟨w.heap.size,0,none⟩) n n)) w'):wpList P ops Q (o :: rest) a w:=by
 obtain ⟨i,h1,h2,h3,rfl⟩:=info_parts S.hi;refine wpList_make_full w hg l c t hop base e i z 1 S.ht h1 h2 h3 kl kc L C n hl hc hL hC hb (by unfold maxLen;omega) h4 fun w' ho hg'=>hK w' ?_ hg'
 rw [hz1,Nat.mul_one,toList_madeCells_one] at ho;exact ho
theorem mk_room (S:SliceOf P t e z size bytes) (w:World) {ops:Array Oper} {rest:List Oper} {o:Oper} {a:Act} {Q:Exit→Act→World→Prop} (hg:o.guard=none)
  (l c:Operand) (hop:o.op=.makeSlice t l c) (base n:Nat) {kl kc:IntKind} {C:Int} (hl:a.eval l=.int kl 0) (hc:a.eval c=.int kc C) (hC:C=n)
  (hb:bytes*n≤281474976710656) (h63:n≤9223372036854775807) (h4:base≤w.heap.size)
  (hK:∀ w':World,w'.ownsRow base e size (.slice (some ⟨w.heap.size,0,none⟩) 0 n) 0 []→w.grownBy w' none →
   wpList P ops Q rest (a.put o.dst (.slice (some ⟨w.heap.size,0,none⟩) 0 n)) w'):wpList P ops Q (o :: rest) a w:=by
 obtain ⟨i,h1,h2,h3,rfl⟩:=info_parts S.hi;exact wpList_make_own w hg l c t hop base e i z size S.ht h1 h2 h3 kl kc C n hl hc hC hb (by unfold maxLen;omega) h4 hK
theorem ap_one (S:SliceOf P t e z 1 bytes) (w:World) {ops:Array Oper} {rest:List Oper} {o:Oper} {a:Act} {Q:Exit→Act→World→Prop} (hg:o.guard=none) (s x:Operand)
  (hop:o.op=.call { callee:=.builtin .append,args:=#[s,x],argTypes:=#[t,t] }) (base:Nat) (v:Value) (n:Nat) (xs:List Value) (hs:a.eval s=v) (hown:w.ownsRow base e 1 v n xs)
  (u:Value) (te:TypeId) (hu:u.oneCell'=true) (hx:a.eval x=.slice (some ⟨w.heap.size,0,none⟩) 1 1)
  (h63:n+1≤9223372036854775807) (hb:(n+1)*bytes≤140737488355328) (hbase:base≤w.heap.size)
  (hK:∀ (v':Value) (w':World),w'.ownsRow base e 1 v' (n+1) (xs++[u])→(w.alloc (.cells #[u] te)).grownBy w' v.ownBlock→(v'≠.slice none 0 0)→wpList P ops Q rest (a.put o.dst v') w') :
  wpList P ops Q (o :: rest) a (w.alloc (.cells #[u] te)):=by
 obtain ⟨i,h1,h2,h3,rfl⟩:=info_parts S.hi;refine wpList_append_own _ hg s x t hop base e i z 1 i.bytes S.ht h1 h2 h3 rfl S.hs (by decide) v n xs hs (hown.alloc _) ⟨w.heap.size,0,none⟩ 1 1 [u] hx rfl ?_ ?_ (by unfold maxLen;omega) hb (by simp;omega) ?_
 ·exact cell_one_new _ _ _
 ·intro q hq;simp at hq;subst hq;exact hu
 ·intro v' w' ho hgr hn;exact hK v' w' ho hgr (fun hv=>by have:=hn.1 hv;omega)
end
def ix (l:List Int) (k:Nat):Int:=l.getD k 0
def Ints (kd:IntKind) (l:List Int):List Value:=l.map (Value.int kd)
def Under (m:Int) (l:List Int):Prop:=∀ x∈l,0≤x∧x<m
theorem ix_of {l:List Int} {k:Nat} (h:k<l.length):ix l k=l[k]:=by simp [ix,List.getD,List.getElem?_eq_getElem h]
theorem ix_mem {l:List Int} {k:Nat} (h:k<l.length):ix l k∈l:=by rw [ix_of h];exact List.getElem_mem h
theorem ix_out {l:List Int} {k:Nat} (h:l.length≤k):ix l k=0:=by simp [ix,List.getD,List.getElem?_eq_none h]
theorem Under.ix {m:Int} {l:List Int} (h:Under m l) (hm:0<m) (k:Nat):0≤ix l k∧ix l k<m:=by
 rcases Nat.lt_or_ge k l.length with hk | hk
 ·exact h _ (ix_mem hk)
 ·rw [ix_out hk];exact ⟨Int.le_refl 0,hm⟩
theorem ix_take {l:List Int} {k n:Nat} (h:k<n):Go.Proofs.YtdebjkiilnhgpaaGreatDoor.ix (l.take n) k=ix l k:=by simp [ix,List.getD,h]
theorem Under.take {m:Int} {l:List Int} (h:Under m l) (k:Nat):Under m (l.take k):=fun x hx=>h x (List.mem_of_mem_take hx)
theorem Under.drop {m:Int} {l:List Int} (h:Under m l) (k:Nat):Under m (l.drop k):=fun x hx=>h x (List.mem_of_mem_drop hx)
theorem Under.append {m:Int} {l r:List Int} (h:Under m l) (h':Under m r):Under m (l++r):=fun x hx=>by
 rcases List.mem_append.1 hx with hx | hx
 ·exact h x hx
 ·exact h' x hx
theorem Under.one {m x:Int} (h:0≤x) (h':x<m):Under m [x]:=fun y hy=>by simp at hy;subst hy;exact ⟨h,h'⟩
theorem Under.nil {m:Int}:Under m []:=fun y hy=>by simp at hy
theorem ext_ix {l r:List Int} (hl:l.length=r.length) (h:∀ k,k<l.length→ix l k=ix r k):l=r:=by
 refine List.ext_getElem hl fun k h1 h2=>?_
 have:=h k h1;rwa [ix_of h1,ix_of h2] at this
theorem ix_append_left {l r:List Int} {k:Nat} (h:k<l.length):ix (l++r) k=ix l k:=by simp [ix,List.getD,List.getElem?_append_left h]
theorem ix_append_right {l r:List Int} {k:Nat} (h:l.length≤k):ix (l++r) k=ix r (k-l.length):=by simp [ix,List.getD,List.getElem?_append_right h]
theorem ix_set_same {l:List Int} {k:Nat} {x:Int} (h:k<l.length):ix (l.set k x) k=x:=by simp [ix,List.getD,h]
theorem ix_set_other {l:List Int} {k j:Nat} {x:Int} (h:k≠j):ix (l.set k x) j=ix l j:=by simp [ix,List.getD,List.getElem?_set_ne h]
theorem ix_replicate {k n:Nat} {x:Int} (h:k<n):ix (List.replicate n x) k=x:=by simp [ix,List.getD,h]
theorem Ints_length (kd:IntKind) (l:List Int):(Ints kd l).length=l.length:=by simp [Ints]
theorem Ints_at {kd:IntKind} {l:List Int} {k:Nat} (h:k<l.length):(Ints kd l)[k]?=some (.int kd (ix l k)):=by
 simp [Ints,List.getElem?_map,List.getElem?_eq_getElem h,ix_of h]
theorem Ints_set (kd:IntKind) (l:List Int) (k:Nat) (x:Int):(Ints kd l).set k (.int kd x)=Ints kd (l.set k x):=by simp [Ints,List.map_set]
theorem Ints_append (kd:IntKind) (l r:List Int):Ints kd (l++r)=Ints kd l++Ints kd r:=by simp [Ints]
theorem Ints_replicate (kd:IntKind) (n:Nat) (x:Int):Ints kd (List.replicate n x)=List.replicate n (.int kd x):=by simp [Ints]
theorem Ints_drop (kd:IntKind) (l:List Int) (k:Nat):Ints kd (l.drop k)=(Ints kd l).drop k:=by simp [Ints]
theorem Ints_oneCell {kd:IntKind} {l:List Int}:∀ u∈Ints kd l,u.oneCell'=true:=ints_oneCell kd l
section
variable {w:World} {B n c k base g:Nat} {e:TypeId} {A:Option Addr} {l:List Int} {kd:IntKind}
theorem Reads.len (h:Reads w B 1 A n (Ints kd l)):l.length=n:=by have:=h.1;rw [Ints_length] at this;omega
theorem Reads.int_at (h:Reads w B 1 A n (Ints kd l)) (hk:k<n):∃ ad,A=some ad∧ad.block<B∧w.cell? (ad.add k)=some (.int kd (ix l k)):=by
 obtain ⟨ad,u,hA,hb,hu,hc⟩:=h.at_ hk;rw [Ints_at (by rw [h.len];exact hk)] at hu
 cases hu
 exact ⟨ad,hA,hb,hc⟩
theorem own_len {v:Value} (h:w.ownsRow base e 1 v n (Ints kd l)):l.length=n:=by have:=h.1;rw [Ints_length] at this;omega
theorem own_int_at (h:w.ownsRow base e 1 (.slice (some ⟨g,0,none⟩) n c) n (Ints kd l)) (hk:k<n):w.cell? ⟨g,k,none⟩=some (.int kd (ix l k)) :=
 (h.cellAt k (by omega)).trans (Ints_at (by rw [own_len h];exact hk))
theorem own_int_set (h:w.ownsRow base e 1 (.slice (some ⟨g,0,none⟩) n c) n (Ints kd l)) (k:Nat) (x:Int) :
  (w.setCell ⟨g,k,none⟩ (.int kd x)).ownsRow base e 1 (.slice (some ⟨g,0,none⟩) n c) n (Ints kd (l.set k x)):=by
 rw [← Ints_set];exact (h.stored k _).1
end
def mid (l:List Int) (n k:Nat):List Int:=l.take k++List.replicate (n-k) 0
section
variable {w w':World} {B n base size:Nat} {e:TypeId} {v:Value} {xs:List Value}
theorem own_below (h:w.ownsRow base e size v n xs) (hb:Below w.heap.size w w'):w'.ownsRow base e size v n xs :=
 h.kept (row:=none) (only_of_below hb none) (by cases hv:v.ownBlock <;> simp)
theorem own_drewN (h:w.ownsRow base e size v n xs) (m:Nat):(w.drewN m).ownsRow base e size v n xs:=h
end
theorem ret_int {k:IntKind} {a b:Int} (h:a=b):Ending.returned (.int k a)=.returned (.int k b):=by rw [h]
def SameTo (l r:List Int) (k:Nat):Prop:=∀ j,j<k→ix l j=ix r j
theorem SameTo.zero (l r:List Int):SameTo l r 0:=fun j hj=>by omega
theorem SameTo.succ {l r:List Int} {k:Nat} (h:SameTo l r k) (he:ix l k=ix r k):SameTo l r (k+1):=fun j hj=>by
 rcases Nat.lt_or_ge j k with hj' | hj'
 ·exact h j hj'
 ·obtain rfl:j=k:=by omega
  exact he
def Drawn (w w':World):Prop:=∃ m,w'=w.drewN m
theorem Drawn.refl (w:World):Drawn w w:=⟨0,rfl⟩
theorem Drawn.mk (w:World) (m:Nat):Drawn w (w.drewN m):=⟨m,rfl⟩
theorem Drawn.more {w w':World} (h:Drawn w w') (m:Nat):Drawn w (w'.drewN m):=by
 obtain ⟨k,rfl⟩:=h;exact ⟨_,World.drewN_drewN _ _ _⟩
theorem Drawn.trans {w w' w'':World} (h:Drawn w w') (k:Drawn w' w''):Drawn w w'':=by
 obtain ⟨m,rfl⟩:=k;exact h.more m
theorem Drawn.below {w w':World} (B:Nat) (h:Drawn w w'):Below B w w':=by
 obtain ⟨m,rfl⟩:=h;exact below_drewN (Below.refl _ _) m
theorem own_shape {w:World} {base n size:Nat} {e:TypeId} {v:Value} {xs:List Value} (h:w.ownsRow base e size v n xs):∃ A c,v=.slice A n c:=by
 rcases Nat.eq_zero_or_pos n with rfl | hn
 ·rcases h.2 with ⟨rfl,_⟩ | ⟨g,cap,cur,rfl,_⟩
  ·exact ⟨_,_,rfl⟩
  ·exact ⟨_,_,rfl⟩
 ·obtain ⟨g,cap,hv,_⟩:=h.form hn;exact ⟨_,_,hv⟩
theorem below_cut {B:Nat} {w0 w1 w2:World} (h:Below B w0 w1) (hq:Below w1.heap.size w1 w2) (hB:B≤w0.heap.size):Below B w0 w2:=h.trans (hq.mono (Nat.le_trans hB h.size))
theorem own_lt {w:World} {base n size g c:Nat} {e:TypeId} {ad:Nat} {xs:List Value} (h:w.ownsRow base e size (.slice (some ⟨g,ad,none⟩) n c) n xs):base≤g∧g<w.heap.size:=h.lt g rfl
theorem own_cap {w:World} {base n size c:Nat} {e:TypeId} {A:Option Addr} {xs:List Value} (h:w.ownsRow base e size (.slice A n c) n xs):n≤c:=by
 rcases h.2 with ⟨hv,h0⟩ | ⟨g,cap,cur,hv,_,_,hn,_⟩
 ·injection hv with _ _ h3;omega
 ·injection hv with _ _ h3;omega
theorem Reads.ints {w:World} {B n:Nat} {A:Option Addr} {l:List Int} {kd:IntKind} (h:Reads w B 1 A n (Ints kd l)) (hn:0<n) :
  ∃ b off,A=some ⟨b,off,none⟩∧b<B∧∀ k,k<n→w.cell? ⟨b,off+k,none⟩=some (.int kd (ix l k)):=by
 obtain ⟨ad,rfl,hb,hc⟩:=h.int_at hn;obtain ⟨b,off,spot⟩:=ad;have hs:spot=none:=by simpa [Addr.add] using World.cell?_spot hc
 subst hs;refine ⟨b,off,rfl,hb,fun k hk=>?_⟩
 obtain ⟨ad',e,_,hc'⟩:=h.int_at hk;cases e
 rw [← add_plain];exact hc'
theorem grown_set (w:World) (p:Addr) (u:Value):w.grownBy (w.setCell p u) (some p.block) :=
 ⟨rfl,rfl,rfl,by simp [World.setCell],fun k _ hne=>Below.heap_setCell _ _ _ _ (fun e=>hne (by rw [e]))⟩
section
variable {w w1:World} {base n size g:Nat} {e:TypeId} {v:Value} {xs:List Value}
theorem own_ne_low (h:w.ownsRow base e size v n xs) (hg:g<base):v.ownBlock≠some g:=fun e=>by have:=h.lt g e;omega
theorem own_ne_high (h:w.ownsRow base e size v n xs) (hg:w.heap.size≤g):v.ownBlock≠some g:=fun e=>by have:=h.lt g e;omega
theorem own_set_other (h:w.ownsRow base e size v n xs) {p:Addr} (hne:v.ownBlock≠some p.block) (u:Value):(w.setCell p u).ownsRow base e size v n xs :=
 h.kept (grown_set w p u) (.inr hne)
end
theorem own_base {w:World} {base base' n size:Nat} {e:TypeId} {v:Value} {xs:List Value} (h:w.ownsRow base e size v n xs) (hB:base'≤base):w.ownsRow base' e size v n xs:=by
 obtain ⟨h1,h2⟩:=h;refine ⟨h1,?_⟩
 rcases h2 with h2 | ⟨g,cap,cur,hv,hg,r⟩
 ·exact .inl h2
 ·exact .inr ⟨g,cap,cur,hv,by omega,r⟩
section
variable {P:Program} (w:World)
end
section
variable {P:Program} {t e:TypeId} {z:Value} {size bytes:Nat}
theorem ap_any (S:SliceOf P t e z size bytes) (w:World) {ops:Array Oper} {rest:List Oper} {o:Oper} {a:Act} {Q:Exit→Act→World→Prop} (hg:o.guard=none) (s x:Operand)
  (hop:o.op=.call { callee:=.builtin .append,args:=#[s,x],argTypes:=#[t,t] }) (base:Nat) (v:Value) (n:Nat) (xs:List Value) (hs:a.eval s=v) (hown:w.ownsRow base e size v n xs)
  (B:Nat) (A:Option Addr) (m c:Nat) (news:List Value) (hx:a.eval x=.slice A m c) (hr:Reads w B size A m news) (h1:∀ u∈news,u.oneCell'=true)
  (h63:n+m≤9223372036854775807) (hb:(n+m)*bytes≤140737488355328) (hbase:base≤w.heap.size)
  (hK:∀ A' c' w',w'.ownsRow base e size (.slice A' (n+m) c') (n+m) (xs++news)→w.grownBy w' v.ownBlock→((Value.slice A' (n+m) c').ownBlock=v.ownBlock∨(Value.slice A' (n+m) c').ownBlock=some w.heap.size)→wpList P ops Q rest (a.put o.dst (.slice A' (n+m) c')) w') :
  wpList P ops Q (o :: rest) a w:=by
 obtain ⟨i,h2,h3,h4,rfl⟩:=info_parts S.hi;refine wpList_append_any w hg s x t hop base e i z size i.bytes S.ht h2 h3 h4 rfl S.hs S.pos v n xs hs hown B A m c news hx hr h1 (by unfold maxLen;omega) hb hbase ?_
 intro v' w' ho hgr hat;obtain ⟨A',c',rfl⟩:=own_shape ho;exact hK A' c' w' ho hgr hat
end
theorem Reads.from_ {w:World} {B n c p:Nat} {A:Option Addr} {kd:IntKind} {l:List Int} (h:Reads w B 1 A n (Ints kd l)) (hp:p≤n) (hc:n≤c) :
  Reads w B 1 (if c=p then A else Option.map (fun x=>x.add p) A) (n-p) (Ints kd (l.drop p)):=by
 have h1:=h.cut (k:=p) (cap:=c) hp hc;rw [Nat.mul_one,← Ints_drop] at h1;exact h1
end
section
open Go.RowKit
structure Off (S:Nat→Prop) (w w':World):Prop where
 os:w'.os=w.os
 tape:w'.tape=w.tape
 output:w'.output=w.output
 size:w.heap.size≤w'.heap.size
 block:∀ k,k<w.heap.size→¬ S k→w'.heap[k]?=w.heap[k]?
theorem Off.refl (S:Nat→Prop) (w:World):Off S w w:=⟨rfl,rfl,rfl,Nat.le_refl _,fun _ _ _=>rfl⟩
theorem Off.trans {S:Nat→Prop} {a b c:World} (h:Off S a b) (k:Off S b c):Off S a c :=
 ⟨k.os.trans h.os,k.tape.trans h.tape,k.output.trans h.output,Nat.le_trans h.size k.size,fun i hi hn=>(k.block i (Nat.lt_of_lt_of_le hi h.size) hn).trans (h.block i hi hn)⟩
theorem Off.mono {S S':Nat→Prop} {w w':World} (h:Off S w w') (hS:∀ k,k<w.heap.size→S k→S' k):Off S' w w':=⟨h.os,h.tape,h.output,h.size,fun k hk hn=>h.block k hk (fun hs=>hn (hS k hk hs))⟩
theorem Off.of_below {w w':World} (S:Nat→Prop) (h:Below w.heap.size w w'):Off S w w':=⟨h.os,h.tape,h.output,h.size,fun k hk _=>h.block k hk⟩
theorem Off.set_ {S:Nat→Prop} {a w:World} (h:Off S a w) {p:Addr} (hp:S p.block∨a.heap.size≤p.block) (u:Value):Off S a (w.setCell p u) :=
 ⟨h.os,h.tape,h.output,by simpa [World.setCell] using h.size,fun k hk hn=>(Below.heap_setCell w p u k (fun e=>by
  subst e
  rcases hp with hp | hp
  ·exact hn hp
  ·omega)).trans (h.block k hk hn)⟩
theorem Off.alloc {S:Nat→Prop} {a w:World} (h:Off S a w) (o:Obj):Off S a (w.alloc o) :=
 ⟨h.os,h.tape,h.output,Nat.le_trans h.size (by simp),fun k hk hn=>(Below.heap_alloc w o k (Nat.lt_of_lt_of_le hk h.size)).trans (h.block k hk hn)⟩
theorem Off.drew {S:Nat→Prop} {a w:World} (h:Off S a w):Off S a w.drew:=⟨h.os,h.tape,h.output,h.size,h.block⟩
theorem Off.drewN {S:Nat→Prop} {a w:World} (h:Off S a w) (n:Nat):Off S a (w.drewN n):=⟨h.os,h.tape,h.output,h.size,h.block⟩
section
variable {w w':World} {S:Nat→Prop}
theorem Blk.off {g:Nat} {t:TypeId} {cs:Array Value} (h:Blk w g t cs) (ho:Off S w w') (hn:¬ S g):Blk w' g t cs:=(ho.block g h.lt hn).trans h
theorem own_off {base n size:Nat} {e:TypeId} {v:Value} {xs:List Value} (h:w.ownsRow base e size v n xs) (ho:Off S w w') (hn:∀ k,v.ownBlock=some k→¬ S k):w'.ownsRow base e size v n xs:=by
 have hlt:=h.lt;obtain ⟨h1,h2⟩:=h;refine ⟨h1,?_⟩
 rcases h2 with h2 | ⟨g,cap,cur,hv,hg,hh,r⟩
 ·exact .inl h2
 ·refine .inr ⟨g,cap,cur,hv,hg,?_,r⟩;have hb:v.ownBlock=some g:=by rw [hv];rfl
  rw [ho.block g (hlt g hb).2 (hn g hb)];exact hh
theorem Reads.off {B size n:Nat} {A:Option Addr} {xs:List Value} (h:Reads w B size A n xs) (ho:Off S w w') (hB:B≤w.heap.size) (hn:∀ a,A=some a→¬ S a.block):Reads w' B size A n xs :=
 ⟨h.1,fun h0=>by
  obtain ⟨ad,e,hb,hc⟩:=h.2 h0;refine ⟨ad,e,hb,fun j u hu=>?_⟩
  have hk:(ad.add j).block=ad.block:=block_of_add _ _;exact (World.cell?_of_block (w:=w) (by rw [hk];exact ho.block _ (by omega) (hn ad e))).trans (hc j u hu)⟩
end
def Lst (w:World) (base:Nat) (e:TypeId) (A:Option Addr) (n c:Nat) (xs:List Value):Prop :=
 w.ownsRow base e 1 (.slice A n c) n xs∨(c=n∧Reads w w.heap.size 1 A n xs∧(∀ a,A=some a→base≤a.block∧a.block<w.heap.size)∧n≤9223372036854775807)
section
variable {w w':World} {S:Nat→Prop} {base n c:Nat} {e:TypeId} {A:Option Addr} {xs:List Value}
theorem Lst.reads (h:Lst w base e A n c xs):Reads w w.heap.size 1 A n xs:=by
 rcases h with h | h
 ·exact Reads.of_own h
 ·exact h.2.1
theorem Lst.cap (h:Lst w base e A n c xs):n≤c:=by
 rcases h with h | h
 ·exact own_cap h
 ·omega
theorem Lst.len (h:Lst w base e A n c xs):xs.length=n:=by have:=h.reads.1;omega
theorem Lst.lt (h:Lst w base e A n c xs) {a:Addr} (ha:A=some a):base≤a.block∧a.block<w.heap.size:=by
 rcases h with h | h
 ·subst ha;exact h.lt a.block rfl
 ·exact h.2.2.1 a ha
theorem Lst.off (h:Lst w base e A n c xs) (ho:Off S w w') (hn:∀ a,A=some a→¬ S a.block):Lst w' base e A n c xs:=by
 rcases h with h | ⟨h1,h2,h3,h4⟩
 ·refine .inl (own_off h ho fun k hk=>?_)
  rcases A with _ | a
  ·cases hk
  ·cases hk;exact hn a rfl
 ·exact .inr ⟨h1,(h2.off ho (Nat.le_refl _) hn).more ho.size,fun a ha=>⟨(h3 a ha).1,Nat.lt_of_lt_of_le (h3 a ha).2 ho.size⟩,h4⟩
theorem Lst.below (h:Lst w base e A n c xs) (hb:Below w.heap.size w w'):Lst w' base e A n c xs:=h.off (Off.of_below (fun _=>False) hb) fun _ _ h=>h
theorem Lst.nil:Lst w base e none 0 0 []:=.inl (World.ownsRow_nil _ _ _ _)
end
end
section
open Go.RowKit
def SeqG {α:Type} (F:Fence) (n:Nat) (P:Program) (gf:Nat) (lb:Array Value) (encs:α→Array Value) (G:List α→α→World→Prop) (Kp:World→World→Prop) (S Sp:List α→Prop) (w:World):Prop :=
 ∀ (l:Nat) (J Jx:List α→World→Prop) (W:World),Below w.heap.size w W→AbidesFrom W.heap.size J →
  (∀ pre x W1,J pre W1→G pre x W1→YieldAt F (n-1) P l (encs x) W1 fun e W'=>(e=.returned (.bool true)∧J (pre++[x]) W'∧Kp W1 W')∨(e=.returned (.bool false)∧Jx (pre++[x]) W')) →
  J [] W→CallsIn F n P gf (#[.func (.yield l) #[] #[]]++lb) W fun e W'=>(∃ v,e=.returned v)∧((∃ xs,S xs∧J xs W')∨∃ pre,Sp pre∧Jx pre W')
def RecAt (D:Nat) (r:Loop) (W:World):Prop:=W.heap[D+1]?=some (.loop r)∧W.heap[D]?=some (.deferred (some []))
theorem RecAt.keeps {D:Nat} {r:Loop} {W W':World} (h:RecAt D r W) (hk:KeepsFrom D W W'):RecAt D r W':=⟨hk.same _ _ (by omega) h.1 rfl,hk.same _ _ (Nat.le_refl _) h.2 rfl⟩
theorem RecAt.put {D:Nat} {r r':Loop} {W:World} (h:RecAt D r W):RecAt D r' (W.putObj (D+1) (.loop r')) :=
 ⟨World.putObj_heap_same (Array.getElem?_eq_some_iff.1 h.1).1,(World.putObj_heap_other (by omega)).trans h.2⟩
theorem RecAt.grown {B D:Nat} {r:Loop} {W W':World} {row:Option Nat} (h:RecAt D r W) (hg:W.grownBy W' row) (hr:∀ k,row=some k→B≤k∧∃ o:Obj,W.heap[k]?=some o∧o.isWalk=true):RecAt D r W' :=
 ⟨(grownBy_keeps hg (fun k e=>(hr k e).2) h.1 rfl).trans h.1,(grownBy_keeps hg (fun k e=>(hr k e).2) h.2 rfl).trans h.2⟩
theorem wpIn_range_w {F:Fence} {n:Nat} {P:Program} {α:Type} {g:Operand} {ps:Array Tmp} {assign body:Code} {Q:Exit→Act→World→Prop} {a:Act} {w:World}
  (hro:F.round=none) (h1:1≤n) {gf:Nat} {lb:Array Value} (hg:a.eval g=.func (.func gf) #[] lb) (hFg:F.fn gf) (eg:∀ args w,(callFunc gf args).run P w=.ok (.enter gf args) w)
  {encs:α→Array Value} {G:List α→α→World→Prop} {Kp:World→World→Prop} {S Sp:List α→Prop} (hseq:SeqG F (n-1) P gf lb encs G Kp S Sp w)
  (hKt:∀ {A B C:World},Kp A B→Kp B C→Kp A C) (hKb:∀ (W:World) (o o':Obj),W.heap[w.heap.size+1]?=some o→o.isWalk=false→Kp W (W.putObj (w.heap.size+1) o')) (hps:∀ x,(encs x).size=ps.size)
  (I:List α→World→Prop) (Ix:Code→List α→World→Prop) (hI:OwnFrom w.heap.size I) (hIx:∀ c,OwnFrom w.heap.size (Ix c)) (h0:I [] w) (Ax:List α→α→Act→World→Prop) (hAx:∀ pre x a',OwnFrom w.heap.size (fun (_:Unit) W=>Ax pre x a' W))
  (hassign:∀ (l:Nat) (pre:List α) (x:α) (W:World) (K:Act→World→Prop),w.heap.size+2≤W.heap.size→I pre W→G pre x W→(∀ a' W',KeepsFrom w.heap.size W W'→Kp W W'→I pre W'→Ax pre x a' W'→K a' W') →
   assign.wpIn (F.inRound l) (n-1-1) P (Exit.then K (fun _ _ _=>False)) { tmps:=(ps.zip (encs x)).foldl (fun t (p,v)=>t.setIfInBounds p v) a.tmps,defers:=[] } W)
  (hbody:∀ (l:Nat) (pre:List α) (x:α) (a':Act) (W:World),w.heap.size+2≤W.heap.size→(∃ r,W.heap[l]?=some (.loop r))→I pre W→Ax pre x a' W→body.wpIn (F.inRound l) (n-1-1) P (ownPostG w.heap.size Kp I Ix (pre++[x]) W) a' W)
  (hdone:∀ (D:Nat) (xs:List α) (W:World),w.heap.size≤D→S xs→I xs W→W.heap[D]?=some (.deferred (some []))→Q .normal { a with defers:={ target:=.collected D,args:=#[] } :: a.defers } W)
  (hstop:∀ (D:Nat) (c:Code) (pre:List α) (W:World),w.heap.size≤D→Sp pre→Ix c pre W→W.heap[D]?=some (.deferred (some []))→c.wpIn F n P Q { a with defers:={ target:=.collected D,args:=#[] } :: a.defers } W) :
  (Code.rangeFunc g ps assign body).wpIn F n P Q a w:=by
 refine wpIn_rangeFunc fun fn hfn=>?_
 rw [hro];obtain ⟨D,hD⟩:∃ D,D=w.heap.size:=⟨_,rfl⟩;obtain ⟨rc,hrc⟩:∃ rc:LoopState→Option Code→Loop,rc=fun st pe=>{ state:=st,pending:=pe,fn,tmps:=a.tmps,params:=ps,assign,body,defers:=w.heap.size }:=⟨_,rfl⟩
 obtain ⟨W1,hW1⟩:∃ W1,W1=(w.alloc (.deferred (some []))).alloc (.loop (rc .ready none)):=⟨_,rfl⟩;have hR1:RecAt D (rc .ready none) W1:=by
  subst hW1 hD;have h2:=World.alloc_heap_new (w.alloc (.deferred (some []))) (.loop (rc .ready none));rw [World.size_alloc] at h2;exact ⟨h2,(Below.heap_alloc _ _ _ (by simp)).trans (World.alloc_heap_new w _)⟩
 have hB1:Below w.heap.size w W1:=by
  subst hW1;exact ((Below.refl _ w).alloc (Nat.le_refl _) _).alloc (by simp) _
 have hI1:I [] W1:=by subst hW1;exact hI.alloc _ (hI.alloc _ h0)
 have hlen1:D+2≤W1.heap.size:=by subst hW1 hD;simp
 refine ⟨D+1,[{ target:=.collected D,args:=#[] }],W1,{ target:=.fn (.func gf) lb,args:=#[.func (.yield (D+1)) #[] #[]] },W1,gf,#[.func (.yield (D+1)) #[] #[]]++lb,W1,?_,?_,?_,?_,fun _=>h1,?_⟩
 ·subst hW1 hD hrc;exact run_enterLoop_outer _ _ _ _ _
 ·simp only [resolve,hg];simp [go_sem]
 ·intro f' hf';simp [Target.leads] at hf'
  subst hf';exact hFg
 ·simp [invoke,go_sem,eg]
 have fin:∀ (r:Loop) (jump:Option Code) (W:World),r=rc .busy none→RecAt D r W→(Instr.endRound (D+1) jump).run P W=.ok (.bool jump.isNone) (W.putObj (D+1) (.loop (rc (if jump.isNone then .ready else .done) jump)))∧RecAt D (rc (if jump.isNone then .ready else .done) jump) (W.putObj (D+1) (.loop (rc (if jump.isNone then .ready else .done) jump))):=fun r jump W er hR=>by
  refine ⟨?_,hR.put⟩;have h2:=run_endRound (P:=P) jump hR.1;subst er hrc;exact h2
 refine (hseq (D+1) (fun pre W=>I pre W∧RecAt D (rc .ready none) W∧D+2≤W.heap.size) (fun pre W=>∃ c,Ix c pre W∧RecAt D (rc .done (some c)) W) W1 hB1 ?_ ?_ ⟨hI1,hR1,hlen1⟩).mono ?_
 ·rintro s X Y row ⟨q1,q2,q3⟩ hgr hr;refine ⟨hI s X Y row q1 hgr (fun k e=>?_),q2.grown hgr hr,Nat.le_trans q3 hgr.size⟩
  obtain ⟨q4,o,q5,q6⟩:=hr k e;exact ⟨Nat.le_trans hB1.size q4,o,q5,Obj.not_cells_of_walk q6⟩
 ·rintro pre x W ⟨hi,hR,hlen⟩ hG;have hy:=run_yield (P:=P) (args:=encs x) hR.1 (by rw [hrc];exact hps x)
  have hy2:(Instr.yield (D+1) (encs x)).run P W=.ok (.round (D+1) fn ((ps.zip (encs x)).foldl (fun t (p,v)=>t.setIfInBounds p v) a.tmps) assign body) W:=by
   rw [hrc] at hy;exact hy
  refine ⟨fn,_,assign,body,hy2,roundIn_of_wpIn hfn (hassign _ pre x W _ (by omega) hi hG ?_)⟩
  intro a' W2 hk2 hkp2 hi2 hax2;rw [← hD] at hk2;have hR2:=hR.keeps hk2;have hlen2:D+2≤W2.heap.size:=Nat.le_trans hlen hk2.size;refine ⟨W2.putObj (D+1) (.loop (rc .busy none)),by have h2:=run_beginRound (P:=P) hR2.1 (by rw [hrc]);rw [hrc] at h2 ⊢;exact h2,?_⟩
  have hR3:RecAt D (rc .busy none) (W2.putObj (D+1) (.loop (rc .busy none))):=hR2.put;have hkp3:Kp W (W2.putObj (D+1) (.loop (rc .busy none))):=hKt hkp2 (by rw [hD];exact hKb _ _ _ (by rw [← hD];exact hR2.1) rfl)
  refine wpIn_mono (hbody _ pre x a' _ (by rw [World.putObj_size];omega) ⟨_,hR3.1⟩ (hI.putObj _ hi2 (by omega) hR2.1 rfl) ((hAx pre x a').putObj (s:=()) _ hax2 (by omega) hR2.1 rfl)) ?_
  rintro e a3 W3 hp;cases e with
  | normal =>
   obtain ⟨k3,k4,k5⟩:=hp;rw [← hD] at k3;obtain ⟨h2,h3⟩:=fin _ none W3 rfl (hR3.keeps k3);exact ⟨_,_,h2,.inl ⟨rfl,⟨hI.putObj _ k5 (by omega) (hR3.keeps k3).1 rfl,h3,by rw [World.putObj_size];have:=k3.size;rw [World.putObj_size] at this;omega⟩,hKt hkp3 (hKt k4 (by rw [hD];exact hKb _ _ _ (by rw [← hD];exact (hR3.keeps k3).1) rfl))⟩⟩
  | ret =>
   obtain ⟨k3,k5⟩:=hp;rw [← hD] at k3;obtain ⟨h2,h3⟩:=fin _ (some .ret) W3 rfl (hR3.keeps k3);exact ⟨_,_,h2,.inr ⟨rfl,.ret,(hIx _).putObj _ k5 (by omega) (hR3.keeps k3).1 rfl,h3⟩⟩
  | exit id =>
   obtain ⟨k3,k5⟩:=hp;rw [← hD] at k3;obtain ⟨h2,h3⟩:=fin _ (some (.exit id)) W3 rfl (hR3.keeps k3);exact ⟨_,_,h2,.inr ⟨rfl,.exit id,(hIx _).putObj _ k5 (by omega) (hR3.keeps k3).1 rfl,h3⟩⟩
  | goto t =>
   obtain ⟨k3,k5⟩:=hp;rw [← hD] at k3;obtain ⟨h2,h3⟩:=fin _ (some (.goto t)) W3 rfl (hR3.keeps k3);exact ⟨_,_,h2,.inr ⟨rfl,.goto t,(hIx _).putObj _ k5 (by omega) (hR3.keeps k3).1 rfl,h3⟩⟩
  | panic ch=>exact hp.elim
  | outgrown=>exact hp.elim
 ·rintro e W2 ⟨⟨v,rfl⟩,⟨xs,hS,hi,hR,_⟩ | ⟨pre,hSp,c,hi,hR⟩⟩
  ·exact ⟨none,_,by have h2:=run_endLoop (P:=P) hR.1 (by rw [hrc];simp);rw [hrc] at h2;exact h2,hdone D xs _ (by omega) hS (hI.putObj _ hi (by omega) hR.1 rfl) ((World.putObj_heap_other (by omega)).trans hR.2)⟩
  ·exact ⟨some c,_,by have h2:=run_endLoop (P:=P) hR.1 (by rw [hrc];simp);rw [hrc] at h2;exact h2,hstop D c pre _ (by omega) hSp ((hIx c).putObj _ hi (by omega) hR.1 rfl) ((World.putObj_heap_other (by omega)).trans hR.2)⟩
end
section
open Go.RowKit
abbrev ArgI:=Int × Int × ByteArray
def Acells:List ArgI→List Value
 | []=>[]
 | q :: r=>.int .u8 q.1 :: .int .u32 q.2.1 :: .string q.2.2 :: Acells r
def ag (l:List ArgI) (k:Nat):ArgI:=l.getD k (0,0,⟨#[]⟩)
def kinds (l:List ArgI):List Int:=l.map (·.1)
theorem Acells_length (l:List ArgI):(Acells l).length=l.length*3:=by
 induction l with
 | nil=>rfl
 | cons p r ih=>simp only [Acells,List.length_cons,ih];omega
theorem Acells_at:∀ {l:List ArgI} {k:Nat},k<l.length→(Acells l)[k*3]?=some (.int .u8 (ag l k).1)∧(Acells l)[k*3+1]?=some (.int .u32 (ag l k).2.1)∧(Acells l)[k*3+2]?=some (.string (ag l k).2.2)
 | p :: r,0,_=>⟨rfl,rfl,rfl⟩
 | p :: r,k+1,h=>by
  have h1:=Acells_at (l:=r) (k:=k) (by simpa using h)
  have e:(k+1)*3=k*3+3:=by omega
  rw [e];exact h1
theorem ag_of {l:List ArgI} {k:Nat} (h:k<l.length):ag l k=l[k]:=by simp [ag,List.getD,List.getElem?_eq_getElem h]
theorem ag_mem {l:List ArgI} {k:Nat} (h:k<l.length):ag l k∈l:=by rw [ag_of h];exact List.getElem_mem h
theorem kinds_length (l:List ArgI):(kinds l).length=l.length:=by simp [kinds]
theorem kinds_take {l:List ArgI} {k:Nat} (h:k<l.length):kinds (l.take (k+1))=kinds (l.take k)++[(ag l k).1]:=by
 rw [ag_of h,List.take_succ_eq_append_getElem h];unfold kinds;rw [List.map_append];rfl
theorem add_plain (b off j:Nat):Addr.add ⟨b,off,none⟩ j=⟨b,off+j,none⟩:=by
 unfold Addr.add
 by_cases hj:j=0 <;> simp [hj]
theorem Reads.args_len {w:World} {B n:Nat} {A:Option Addr} {l:List ArgI} (h:Reads w B 3 A n (Acells l)):l.length=n:=by have:=h.1;rw [Acells_length] at this;omega
theorem Reads.args {w:World} {B n:Nat} {A:Option Addr} {l:List ArgI} (h:Reads w B 3 A n (Acells l)) (hn:0<n) :
  ∃ b off,A=some ⟨b,off,none⟩∧b<B∧∀ k,k<n→w.cell? ⟨b,off+k*3,none⟩=some (.int .u8 (ag l k).1)∧w.cell? ⟨b,off+k*3+1,none⟩=some (.int .u32 (ag l k).2.1) ∧
   w.cell? ⟨b,off+k*3+2,none⟩=some (.string (ag l k).2.2):=by
 have hl:=h.args_len;obtain ⟨ad,rfl,hb,hc⟩:=h.2 hn;obtain ⟨b,off,spot⟩:=ad;have h0:=hc 0 _ (Acells_at (l:=l) (k:=0) (by omega)).1
 have hs:spot=none:=by simpa [Addr.add] using World.cell?_spot h0
 subst hs;refine ⟨b,off,rfl,hb,fun k hk=>?_⟩
 obtain ⟨h0,h1,h2⟩:=Acells_at (l:=l) (k:=k) (by omega)
 have e:=fun j=>add_plain b off j
 refine ⟨?_,?_,?_⟩
 ·rw [← e];exact hc _ _ h0
 ·rw [Nat.add_assoc,← e];exact hc _ _ h1
 ·rw [Nat.add_assoc,← e];exact hc _ _ h2
end
section
theorem still_of_quiet {P:Program} {ops:Array Oper} {w:World} {Q:Act→Prop}:∀ {l:List Oper} {a:Act},wpQuiet P ops (fun w'=>w'=w) Q l a→wpStill P ops w Q l a
 | [],_,h=>h
 | o :: rest,a,h=>by
  simp only [wpQuiet] at h;simp only [wpStill]
  split at h
  ·rename_i hw
   rw [if_pos hw];obtain ⟨v,hv,hn⟩:=h;have h1:=hv w rfl;have hn':=still_of_quiet hn;unfold Oper.quietAt at h1;unfold Oper.still
   revert h1
   generalize (execOp a.eval o).run P w=r;intro h1
   match r,h1 with
   | .ok (.value u) w',h1 =>
    obtain ⟨rfl,rfl⟩:=h1;exact ⟨rfl,hn'⟩
   | .ok .skip w',h1 =>
    obtain ⟨rfl,rfl⟩:=h1;exact ⟨rfl,hn'⟩
   | .ok (.enter f args) w',h1 =>
    obtain ⟨rfl,hc⟩:=h1;exact ⟨rfl,v,hc,hn'⟩
  ·rename_i hw
   rw [if_neg hw];exact still_of_quiet h
theorem wp_region_tail {P:Program} {id:Nat} {Q:Exit→Act→World→Prop} {a:Act} {w:World} {l:List Oper} (n:Nat) (hm:P.follows .mixedOrders=true) (hB:Region.lexTailB .any l.toArray n=true)
  (h:wpQuiet P l.toArray (fun w'=>w'=w.drew) (fun a'=>wpList P l.toArray Q (l.drop n) a' w.drew) (l.take n) a):(Code.region id l.toArray true).wp P Q a w :=
 wp_region_still_tail n hm hB (still_of_quiet h)
end
section
open Go.RowKit
def IterAt (W:World) (g:Nat) (s:ByteArray) (pos:Nat):Prop:=W.heap[g]?=some (.stringIter s pos)
theorem IterAt.lt {W:World} {g:Nat} {s:ByteArray} {pos:Nat} (h:IterAt W g s pos):g<W.heap.size:=(Array.getElem?_eq_some_iff.1 h).1
theorem IterAt.new (W:World) (s:ByteArray) (pos:Nat):IterAt (W.iter s pos) W.heap.size s pos:=World.iter_heap W s pos
theorem IterAt.put {W:World} {g:Nat} {s:ByteArray} {pos:Nat} (h:IterAt W g s pos) (pos':Nat):IterAt (W.putObj g (.stringIter s pos')) g s pos':=World.putObj_heap_same h.lt
theorem IterAt.setCell {W:World} {g:Nat} {s:ByteArray} {pos:Nat} (h:IterAt W g s pos) {p:Addr} (hp:g≠p.block) (u:Value):IterAt (W.setCell p u) g s pos:=(Below.heap_setCell _ _ _ _ hp).trans h
theorem IterAt.step {W W':World} {g:Nat} {s:ByteArray} {pos:Nat} (h:IterAt W g s pos) (hb:Below W.heap.size W W'):IterAt W' g s pos:=(hb.block g h.lt).trans h
theorem IterAt.alloc {W:World} {g:Nat} {s:ByteArray} {pos:Nat} (h:IterAt W g s pos) (o:Obj):IterAt (W.alloc o) g s pos:=(Below.heap_alloc W o g h.lt).trans h
theorem IterAt.not_cells {W:World} {g:Nat} {s:ByteArray} {pos:Nat} (h:IterAt W g s pos) {b:Nat} {t:TypeId} {cs:Array Value} (k:Blk W b t cs):b≠g:=by
 rintro rfl;unfold IterAt at h;unfold Blk at k;rw [h] at k;cases k
theorem run_next_at {P:Program} {W:World} {g:Nat} {s:ByteArray} {pos:Nat} (hg:IterAt W g s pos) (ty:TypeId) (h:pos<s.size) (ha:(s[pos]'h).toNat<128) :
  (Instr.next (.pointer (some ⟨g,0,none⟩)) true ty).run P W=.ok (.tuple #[.bool true,.int .i64 pos,.int .i32 (s[pos]'h).toNat]) (W.putObj g (.stringIter s (pos+1))):=by
 unfold IterAt at hg;simp only [Instr.next,getObj,setObj,Sem.run_bind,Sem.run,hg,Result.andThen,h,if_true,decode_ascii s pos h ha];simp [goInt,World.putObj]
theorem run_next_done {P:Program} {W:World} {g:Nat} {s:ByteArray} {pos:Nat} (hg:IterAt W g s pos) (ty:TypeId) (h:¬ pos<s.size) :
  (Instr.next (.pointer (some ⟨g,0,none⟩)) true ty).run P W=.ok (.tuple #[.bool false]) W:=by
 unfold IterAt at hg;simp [Instr.next,getObj,Sem.run,hg,h]
theorem encode_ascii (c:UInt8) (h:c.toNat<128):Utf8.encode (c.toNat:Int)=⟨#[c]⟩:=by
 have h1:Utf8.valid (c.toNat:Int)=true:=by simp [Utf8.valid];omega
 unfold Utf8.encode;simp [h1,h]
theorem below_putIter {n₀:Nat} {w W:World} {g:Nat} (o:Obj) (h:Below n₀ w W) (hg:n₀≤g):Below n₀ w (W.putObj g o):=by
 obtain ⟨h1,h2,h3,h4,h5⟩:=h;refine ⟨h1,h2,h3,by rw [World.putObj_size];exact h4,fun k hk=>?_⟩
 rw [World.putObj_heap_other (by omega)]
 exact h5 k hk
end
end Go.Proofs.YtdebjkiilnhgpaaGreatDoor
