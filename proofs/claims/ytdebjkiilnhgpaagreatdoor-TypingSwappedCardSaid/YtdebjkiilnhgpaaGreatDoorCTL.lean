/- Walks: slices.Backward over a module's instructions. -/
import Derived.RangeFuncNested
import Derived.RangeFuncBound
import Derived.RangeFuncCalls
import Derived.RangeFuncLeaves
import Derived.Shelf.Abstract
import Derived.Shelf.RegionOpen
import Derived.WalkKit
import Derived.OwnWalkIn
import Derived.TacticsInMore
import Derived.LoopNIn
import Derived.LoopIn
import Derived.Sort.QuietTacIn
import Derived.Test.YtdebjkiilnhgpaaGreatDoorCTI
set_option maxRecDepth 100000
set_option maxHeartbeats 2000000
namespace Go.Proofs.YtdebjkiilnhgpaaGreatDoor
section
open Go.RowKit Go.Shelf
attribute [local go_sem] Oper.semAt_some
structure KeepL (n₀:Nat) (A B:World):Prop where
 cell:∀ p:Addr,p.block<n₀→B.cell? p=A.cell? p
 size:A.heap.size≤B.heap.size
theorem KeepL.refl (n₀:Nat) (A:World):KeepL n₀ A A:=⟨fun _ _=>rfl,Nat.le_refl _⟩
theorem KeepL.trans {n₀:Nat} {A B C:World} (h:KeepL n₀ A B) (k:KeepL n₀ B C):KeepL n₀ A C:=⟨fun p hp=>(k.cell p hp).trans (h.cell p hp),Nat.le_trans h.size k.size⟩
theorem KeepL.below {n₀ b:Nat} {A B:World} (h:Below b A B) (h1:n₀≤b):KeepL n₀ A B:=⟨fun p hp=>h.cell (by omega),h.size⟩
theorem KeepL.put {n₀ l:Nat} (W:World) (o':Obj) (h1:n₀≤l):KeepL n₀ W (W.putObj l o') :=
 ⟨fun p hp=>World.cell?_of_block (World.putObj_heap_other (by omega)),by rw [World.putObj_size];exact Nat.le_refl _⟩
abbrev PlI:=Nat × InstA
def plA (x:PlI):Array Value:=#[.int .i64 (x.1:Nat),.agg #[.int .u16 x.2.1.1,.int .u32 x.2.1.2.1,.int .u32 x.2.1.2.2.1,.slice x.2.2.1 x.2.2.2.1 x.2.2.2.2]]
def NextP (ls:List InstA) (n:Nat) (pre:List PlI) (x:PlI) (_:World):Prop:=pre.length<n∧x=(n-1-pre.length,ig ls (n-1-pre.length))
theorem back1_in (Wd:World) (m:Nat) (hm:1≤m) (l Bs n₀:Nat) (ls:List InstA) (A:Option Addr) (n c:Nat) (hBs:Bs<n₀) (J Jx:List PlI→World→Prop)
  (hY:∀ pre x W1,J pre W1→NextP ls n pre x W1→YieldAt Fence.wide (m-1) Tryz.prog l (plA x) W1 fun e W' =>
   (e=.returned (.bool true)∧J (pre++[x]) W'∧KeepL n₀ W1 W')∨(e=.returned (.bool false)∧Jx (pre++[x]) W'))
  (hbox:Wd.cell? ⟨Bs,0,none⟩=some (.slice A n c)) (hn:n≤7100000000000) (hr:Reads Wd n₀ 4 A n (Icells ls)) (h0:J [] Wd) :
  CallsIn Fence.wide m Tryz.prog 109 #[.func (.yield l) #[] #[],.pointer (some ⟨Bs,0,none⟩)] Wd fun e W'=>(∃ v,e=.returned v) ∧
   ((∃ ys,ys.length=n∧J ys W')∨(∃ pre,True∧Jx pre W')):=by
 have hw1:IntKind.i64.wrap ((n:Int)-1)=(n:Int)-1:=IntWalk.i64_in _ (by omega)
 refine callsIn_of_wp Tryz.func109 rfl trivial ?_ rfl;simp only [Tryz.ntmps109,List.size_toArray,List.length_cons,List.length_nil,Nat.reduceAdd,Nat.reduceSub,Array.replicate_succ,Array.replicate_zero,List.push_toArray,List.append_toArray,List.nil_append,List.cons_append];gi_wp2
 gi_loopw [3] (fun i wr=>∃ (k:Nat) (j:Int) (pre:List PlI),pre.length+k=n∧i=.int .i64 j∧j=(k:Int)-1∧J pre wr∧KeepL n₀ Wd wr) (fun i _=>(intOf i+1).toNat)
 case atStart=>exact ⟨n,_,[],by simp,rfl,rfl,h0,KeepL.refl _ _⟩
 case round =>
  obtain ⟨k,j,pre,hpl,rfl,hjk,hJk,hK⟩:=hrel;have cb:=(hK.cell ⟨Bs,0,none⟩ hBs).trans hbox
  rcases k with _ | k
  ·have dj:decide ((0:Int)≤j)=false:=by rw [decide_eq_false_iff_not];omega
   clear hjk;gi_wp2_with fail;go_end0
   exact ⟨⟨_,rfl⟩,.inl ⟨pre,by omega,hJk⟩⟩
  ·have hj:j=(k:Nat):=by omega
   have hHJ:=Lib.hid hjk;clear hjk;subst hj;obtain ⟨b,off,rfl,hbb,hc⟩:=hr.insts (by omega)
   obtain ⟨c0,c1,c2,c3⟩:=hc k (by omega)
   replace c0:=(hK.cell _ hbb).trans c0
   replace c1:=(hK.cell _ hbb).trans c1
   replace c2:=(hK.cell _ hbb).trans c2
   replace c3:=(hK.cell _ hbb).trans c3
   have hkI:((k:Nat):Int)<(n:Nat):=by omega
   have hw2:IntKind.i64.wrap ((k:Int)-1)=(k:Int)-1:=IntWalk.i64_in _ (by omega)
   have hx:=hY pre (k,ig ls k) wr hJk ⟨by omega,by rw [show n-1-pre.length=k from by omega]⟩
   clear hc;dsimp only [plA] at hx;generalize ig ls k=x at *;obtain ⟨⟨op,ty,res,al⟩,Ax,nx_,cx⟩:=x;dsimp only at *;obtain ⟨fn,tmps,assign,body,hy,hRd⟩:=hx;gi_wp2_with fail;refine hRd.mono ?_;rintro e W3 (⟨rfl,hJ3,hk3⟩ | ⟨rfl,hJx3⟩)
   ·clear hy hRd c0 c1 c2 c3 cb;gi_wp2_with fail;go_roundw
    case rel=>exact ⟨k,_,_,by rw [List.length_append];simp;omega,rfl,rfl,hJ3,hK.trans hk3⟩
    case measure=>simp [intOf]
   ·clear hy hRd c0 c1 c2 c3 cb;gi_wp2_with fail;refine bodyPost_ret (results_none rfl _ _ _) rfl ?_;exact ⟨⟨_,rfl⟩,.inr ⟨_,trivial,hJx3⟩⟩
theorem back1_stops (m:Nat) (hm:1≤m) (Bs n₀:Nat) (ls:List InstA) (A:Option Addr) (n c:Nat) (w:World) (hn₀:n₀≤w.heap.size) (hBs:Bs<n₀) (hbox:w.cell? ⟨Bs,0,none⟩=some (.slice A n c)) (hn:n≤7100000000000) (hr:Reads w n₀ 4 A n (Icells ls)) :
  SeqG Fence.wide m Tryz.prog 109 #[.pointer (some ⟨Bs,0,none⟩)] plA (NextP ls n) (KeepL n₀) (fun ys=>ys.length=n) (fun _=>True) w:=fun l J Jx Wd hWd _ hY h0 =>
 back1_in Wd m hm l Bs n₀ ls A n c hBs J Jx hY ((hWd.cell (show Bs<w.heap.size by omega)).trans hbox) hn (hr.below (hWd.mono hn₀)) h0
theorem back_in (m:Nat) (A:Option Addr) (n c:Nat) (w:World) :
  CallsIn Fence.wide m Tryz.prog 80 #[.slice A n c] w fun e w'=>e=.returned (.func (.func 109) #[] #[.pointer (some ⟨w.heap.size,0,none⟩)])∧w'=w.alloc (.cells #[.slice A n c] 23):=by
 refine callsIn_of_wp Tryz.func80 rfl trivial ?_ rfl;simp only [Tryz.ntmps80,List.size_toArray,List.length_cons,List.length_nil,Nat.reduceAdd,Nat.reduceSub,Array.replicate_succ,Array.replicate_zero,List.push_toArray,List.append_toArray,List.nil_append,List.cons_append];gi_wp2
 go_ret
 exact ⟨rfl,rfl⟩
end
section
open Go.RowKit Go.Shelf
attribute [local go_sem] Oper.semAt_some
def madeD (l:List InstI) (k:Nat):Int→Option Value:=fun id=>(madeR (l.drop k) k id).map fun m=>.int .i64 ((m:Nat):Int)
theorem madeD_end {l:List InstI} {k:Nat} (h:l.length≤k):madeD l k=fun _=>none:=by
 funext id
 unfold madeD;rw [List.drop_of_length_le h];rfl
theorem madeD_step {l:List InstI} {k:Nat} {i:InstI} (h:l[k]?=some i):madeD l k=if i.2.2.1=0 then madeD l (k+1) else setU (madeD l (k+1)) i.2.2.1 (.int .i64 ((k:Nat):Int)):=by
 have hd:l.drop k=i :: l.drop (k+1):=by
  obtain ⟨hlt,rfl⟩:=List.getElem?_eq_some_iff.1 h;exact List.drop_eq_getElem_cons hlt
 funext id
 unfold madeD;rw [hd]
 by_cases h0:i.2.2.1=0
 ·rw [if_pos h0,madeR,if_neg (fun hh=>hh.1 h0)]
 ·rw [if_neg h0,madeR];unfold setU
  by_cases he:i.2.2.1=id
  ·rw [if_pos ⟨h0,he⟩,if_pos he.symm];rfl
  ·rw [if_neg (fun hh=>he hh.2),if_neg (fun hh=>he hh.symm)]
structure MkI (w:World) (l:List InstI) (k:Nat) (W:World):Prop where
 k3:Blk W (w.heap.size+1) 118 #[.map (some w.heap.size)]
 mp:∃ cnt,MapU W w.heap.size cnt (madeD l k)
 below:Below w.heap.size w W
 size:w.heap.size+3≤W.heap.size
theorem MkI.keep {w W W':World} {B k:Nat} {l:List InstI} {row:Option Nat} (hB:w.heap.size+1≤B) (i:MkI w l k W) (hg:W.grownBy W' row) (hr:∀ k,row=some k→B≤k∧∃ o:Obj,W.heap[k]?=some o∧o.isCells=false):MkI w l k W':=by
 obtain ⟨h3,⟨cnt,h4⟩,h5,h6⟩:=i;exact ⟨h3.grown hg (noncells (fun r e=>(hr r e).2) h3),⟨cnt,h4.grown hg (fun e=>by have:=(hr _ e.symm).1;omega)⟩,h5.grown hg h5.size (fun k e=>by have:=(hr k e).1;omega),Nat.le_trans h6 hg.size⟩
theorem MkI.alloc {w W:World} {k:Nat} {l:List InstI} (i:MkI w l k W) (o:Obj):MkI w l k (W.alloc o):=by
 obtain ⟨h3,⟨cnt,h4⟩,h5,h6⟩:=i;exact ⟨h3.alloc o,⟨cnt,h4.alloc o⟩,h5.alloc h5.size o,by simp;omega⟩
theorem MapIs.no_cell {W:World} {d:TypeDesc} {b n:Nat} {D:Value→Option Value} (h:MapIs W d b n D) (p:Addr) (hp:p.block=b):W.cell? p=none:=by
 obtain ⟨es,clock,hb,-⟩:=h;simp [World.cell?,hp,hb]
theorem KeepL.map {n₀ b:Nat} {W W':World} {d d':TypeDesc} {n n':Nat} {D D':Value→Option Value} (h:MapIs W d b n D) (h':MapIs W' d' b n' D') (hg:W.grownBy W' (some b)) (hn:n₀≤W.heap.size):KeepL n₀ W W' :=
 ⟨fun p hp=>by
  by_cases e:p.block=b
  ·rw [h.no_cell p e,h'.no_cell p e]
  ·exact World.cell?_of_block (hg.block p.block (by omega) (fun he=>e (by injection he))),hg.size⟩
theorem makers_in (ls:List InstA) (A:Option Addr) (n c:Nat) (w:World) (hM:ModS w w.heap.size A n ls) :
  CallsIn Fence.wide 9 Tryz.prog 49 #[.slice A n c] w fun e w'=>e=.returned (.map (some w.heap.size))∧(∃ cnt,MapU w' w.heap.size cnt (madeD (ls.map (·.1)) 0))∧Below w.heap.size w w':=by
 have hlen:=hM.length;have hn:=hM.len;have hmm:=@run_makeMap Tryz.prog;refine callsIn_of_wp_marks Tryz.func49 rfl trivial ?_ rfl;simp only [Tryz.ntmps49,List.size_toArray,List.length_cons,List.length_nil,Nat.reduceAdd,Nat.reduceSub,Array.replicate_succ,Array.replicate_zero,List.push_toArray,List.append_toArray,List.nil_append,List.cons_append];gi_wp2_with fail;refine ⟨trivial,(back_in _ A n c _).mono ?_⟩;rintro e w' ⟨rfl,rfl⟩;have hb:=(((Below.refl w.heap.size w).alloc (Nat.le_refl _) (.map #[] 0)).alloc (by simp) (.cells #[.map (some w.heap.size)] 118)).alloc (by simp;omega) (.cells #[.slice A n c] 23)
 have q3:=(Blk.new (w.alloc (.map #[] 0)) 118 #[.map (some w.heap.size)]).alloc (.cells #[.slice A n c] 23);have q5:=Blk.new ((w.alloc (.map #[] 0)).alloc (.cells #[.map (some w.heap.size)] 118)) 23 #[.slice A n c];have qm:=((MapU.made w).alloc (.cells #[.map (some w.heap.size)] 118)).alloc (.cells #[.slice A n c] 23);simp only [World.size_alloc] at q3 q5;have hsz9:(((w.alloc (.map #[] 0)).alloc (.cells #[.map (some w.heap.size)] 118)).alloc (.cells #[.slice A n c] 23)).heap.size=w.heap.size+1+1+1:=by simp
 gi_wp2_with fail;generalize ((w.alloc (.map #[] 0)).alloc (.cells #[.map (some w.heap.size)] 118)).alloc (.cells #[.slice A n c] 23)=w9 at *;have hend:=madeD_end (l:=ls.map (·.1)) (k:=n) (by omega)
 have h0:MkI w (ls.map (·.1)) (n-0) w9:=⟨q3,⟨0,by rw [Nat.sub_zero,hend];exact qm⟩,hb,by omega⟩
 have hr9:=(hM.reads.below hb).more (B':=w.heap.size+3) (by omega)
 refine wpIn_range_w rfl (by omega) (gf:=109) (lb:=#[.pointer (some ⟨w.heap.size+1+1,0,none⟩)]) rfl trivial (enters_of Tryz.func109 (by kernel_rfl) rfl)
   (back1_stops _ (by omega) (w.heap.size+1+1) (w.heap.size+3) ls A n c w9 (by omega) (by omega) (q5.cell 0) hn hr9) (fun h k=>h.trans k) (fun W o o' _ _=>KeepL.put W o' (by omega)) (fun _=>rfl)
   (fun pre W=>pre.length≤n∧MkI w (ls.map (·.1)) (n-pre.length) W) (fun _ _ _=>False)
   (fun pre W W' row h hg hr=>⟨h.1,h.2.keep (B:=w9.heap.size) (by omega) hg hr⟩) (fun c pre W W' row h hg hr=>h.elim) ⟨Nat.zero_le _,h0⟩
   (fun pre x a' W=>NextP ls n pre x W∧∃ pb,w.heap.size+3≤pb∧Blk W pb 42 #[.int .u16 x.2.1.1,.int .u32 x.2.1.2.1,.int .u32 x.2.1.2.2.1,.slice x.2.2.1 x.2.2.2.1 x.2.2.2.2]∧a'={ tmps:=#[.slice A n c,undef,.map none,.pointer (some ⟨w.heap.size+1,0,none⟩),.int .i64 (x.1:Nat),.pointer (some ⟨pb,0,none⟩),.map (some w.heap.size),.slice A n c,.func (.func 109) #[] #[.pointer (some ⟨w.heap.size+1+1,0,none⟩)],.int .i64 (x.1:Nat),.agg #[.int .u16 x.2.1.1,.int .u32 x.2.1.2.1,.int .u32 x.2.1.2.2.1,.slice x.2.2.1 x.2.2.2.1 x.2.2.2.2],undef,undef,undef,undef,undef,undef,undef,undef],defers:=[] })
   ?hax ?assign ?body ?done ?stop
 case hax =>
  rintro pre x a' _ X Y row ⟨g0,pb,g1,g2,g4⟩ hg hr;exact ⟨g0,pb,g1,g2.grown hg (noncells (fun r e=>(hr r e).2) g2),g4⟩
 case assign =>
  rintro l pre x W K hsW ⟨hpl,hI⟩ hGx hK;dsimp only [plA];gi_wp2_with fail;have hb:=(Below.refl W.heap.size W).alloc (Nat.le_refl _) (.cells #[.int .u16 x.2.1.1,.int .u32 x.2.1.2.1,.int .u32 x.2.1.2.2.1,.slice x.2.2.1 x.2.2.2.1 x.2.2.2.2] 42);exact hK _ _ ((KeepsOthers.alloc _ _).from _) (KeepL.below hb (by omega)) ⟨hpl,hI.alloc _⟩ ⟨hGx,W.heap.size,by omega,Blk.new _ _ _,rfl⟩
 case body =>
  rintro l pre x a' W hsW ⟨r,hr⟩ ⟨hpl,hI⟩ ⟨hGx,pb,hpb,kb,rfl⟩;obtain ⟨hlt,hx⟩:=hGx;obtain ⟨k,hk⟩:∃ k,k=n-1-pre.length:=⟨_,rfl⟩;rw [← hk] at hx;subst hx;have hst:=madeD_step (ig_map (ls:=ls) (k:=k) (by have:=hM.reads.insts_len;omega))
  have e1:n-pre.length=k+1:=by omega
  have e2:n-(pre++[(k,ig ls k)]).length=k:=by rw [List.length_append,List.length_singleton];omega
  have e3:(pre++[(k,ig ls k)]).length≤n:=by rw [List.length_append,List.length_singleton];omega
  rw [e1] at hI;have hgoal:∀ W':World,KeepsFrom (w.heap.size+1+1+1) W W'→KeepL (w.heap.size+3) W W'→MkI w (ls.map (·.1)) k W'→KeepsFrom (w.heap.size+1+1+1) W W'∧KeepL (w.heap.size+3) W W'∧(pre++[(k,ig ls k)]).length≤n∧MkI w (ls.map (·.1)) (n-(pre++[(k,ig ls k)]).length) W' :=
   fun W' h1 h2 h3=>⟨h1,h2,e3,by rw [e2];exact h3⟩
  have HG:=Lib.hid hgoal;clear hgoal e1 e2 e3 hk;generalize ig ls k=x at *;obtain ⟨⟨op,ty,res,al⟩,Ax,nx_,cx⟩:=x;dsimp only at *;have d2:=kb.cell 2;have f3:=hI.k3.cell 0;simp at d2 f3;obtain ⟨cnt,hmp⟩:=hI.mp
  by_cases h0:res=0
  ·have dr:(res != 0)=false:=by rw [h0];rfl
   rw [if_pos h0] at hst;have HS:=Lib.hid hst;clear hst h0;gi_wp2_with fail;exact HG.out _ (KeepsFrom.refl _ _) (KeepL.refl _ _) ⟨hI.k3,⟨cnt,by rw [HS.out];exact hmp⟩,hI.below,hI.size⟩
  ·have dr:(res != 0)=true:=by simpa using h0
   rw [if_neg h0] at hst;have HS:=Lib.hid hst;obtain ⟨W2,hrun,hM2,hg2⟩:=hmp.put Tryz.underlying118 Tryz.underlying22 res (.int .i64 ((k:Nat):Int));clear hst h0;gi_wp2_with fail;refine HG.out _ (KeepsFrom.of_grownBy hg2 (fun j hj=>by cases hj;omega)) (KeepL.map hmp hM2 hg2 hI.size) ⟨hI.k3.grown hg2 (by simp),⟨_,by rw [HS.out];exact hM2⟩,hI.below.grown hg2 hI.below.size (fun j hj=>by cases hj;exact Nat.le_refl _),Nat.le_trans hI.size hg2.size⟩
 case done =>
  rintro D ys W hD hS ⟨hpl,hI⟩ hK;have f3:=hI.k3.cell 0;simp at f3;obtain ⟨cnt,hmp⟩:=hI.mp;rw [hS,Nat.sub_self] at hmp;have hbl:=hI.below.trans (belowK_b (n₀:=w.heap.size) (w:=w9) (by omega) W D _ (.deferred none) hD hK rfl rfl)
  have hm2:MapU (W.putObj D (.deferred none)) w.heap.size cnt (madeD (ls.map (·.1)) 0):=hmp.same (World.putObj_heap_other (by omega))
  gi_wp2_with fail;refine ⟨by simp,.inl ⟨_,_,rfl,run_takeDeferred hK,?_⟩⟩
  refine ⟨.map (some w.heap.size),by simp [results,Tryz.results49,go_sem],?_⟩
  exact ⟨rfl,⟨cnt,hm2⟩,hbl⟩
 case stop =>
  rintro D c pre W hD _ hf hK;exact hf.elim
theorem makers_any (ls:List InstA) (A:Option Addr) (n c:Nat) (w:World) (hM:ModS w w.heap.size A n ls) :
  Calls Tryz.prog 49 #[.slice A n c] w fun e w'=>e=.returned (.map (some w.heap.size))∧(∃ cnt,MapU w' w.heap.size cnt (madeD (ls.map (·.1)) 0))∧Below w.heap.size w w':=callsIn_wide.1 (makers_in ls A n c w hM)
end
end Go.Proofs.YtdebjkiilnhgpaaGreatDoor
