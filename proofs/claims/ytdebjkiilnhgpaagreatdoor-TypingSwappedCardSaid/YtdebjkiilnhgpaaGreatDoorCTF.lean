/- Walks: grammar.Enums and its iterator. -/
import Derived.Shelf.Abstract
import Derived.Shelf.RegionOpen
import Derived.WalkKit
import Derived.OwnWalkIn
import Derived.TacticsInMore
import Derived.LoopNIn
import Derived.LoopIn
import Derived.Sort.QuietTacIn
import Derived.Test.YtdebjkiilnhgpaaGreatDoorCTB
import Derived.Test.YtdebjkiilnhgpaaGreatDoorCTE
import Derived.RangeFuncKeeps
import Derived.Test.YtdebjkiilnhgpaaGreatDoorRows
import Derived.Test.YtdebjkiilnhgpaaGreatDoorCTC
import Derived.Lib.Bytealg
import Derived.Lib.Walk
import Derived.Deep.QuietTactic
import Derived.BigQuiet
set_option maxRecDepth 100000
set_option maxHeartbeats 2000000
namespace Go.Proofs.YtdebjkiilnhgpaaGreatDoor
section
open Go.RowKit Go.Shelf
attribute [local go_sem] Oper.semAt_some
theorem abides_below {β:Type} {B:Nat} {J:β→World→Prop} (hJ:AbidesFrom B J) {s:β} {w w':World} (h:J s w) (hb:Below w.heap.size w w'):J s w':=hJ s _ _ none h (only_of_below hb none) (fun r e=>by cases e)
theorem abides_iter {β:Type} {B:Nat} {J:β→World→Prop} (hJ:AbidesFrom B J) {x:β} {W:World} {g:Nat} {s:ByteArray} {pos:Nat} (h:J x W) (hi:IterAt W g s pos) (hg:B≤g) (o':Obj):J x (W.putObj g o') :=
 hJ x W _ (some g) h (grownBy_putObj' W g o') (fun r e=>by cases e;exact ⟨hg,_,hi,rfl⟩)
theorem IterAt.pos_ {W:World} {g:Nat} {s:ByteArray} {pos:Nat} (h:IterAt W g s pos):W.iterPos g=pos:=by unfold World.iterPos;rw [h]
def enumV (x:Int × List UInt8):Array Value:=#[.int .u32 x.1,.string (bs x.2)]
def NextE (letter:Int) (pre:List (Int × List UInt8)) (x:Int × List UInt8) (_:World):Prop:=∃ rest,enumsOf letter=pre++x :: rest
theorem enums1_in (Wd:World) (m:Nat) (hm:1≤m) (l Bs:Nat) (letter:Int) (J Jx:List (Int × List UInt8)→World→Prop)
  (hJ:AbidesFrom Wd.heap.size J)
  (hY:∀ pre x W1,J pre W1→NextE letter pre x W1→YieldAt Fence.wide (m-1) Tryz.prog l (enumV x) W1 fun e W' =>
   (e=.returned (.bool true)∧J (pre++[x]) W'∧KeepsWalks W1 W')∨(e=.returned (.bool false)∧Jx (pre++[x]) W'))
  (hbox:Wd.cell? ⟨Bs,0,none⟩=some (.int .u8 letter)) (h0:J [] Wd) :
  CallsIn Fence.wide m Tryz.prog 167 #[.func (.yield l) #[] #[],.pointer (some ⟨Bs,0,none⟩)] Wd fun e W'=>(∃ v,e=.returned v) ∧
   ((∃ ys,ys=enumsOf letter∧J ys W')∨(∃ pre,(∃ rest,enumsOf letter=pre++rest)∧Jx pre W')):=by
 obtain ⟨ha,hz⟩:=pickN_ok letter;obtain ⟨s,hs⟩:∃ s,s=pickT namesT letter:=⟨_,rfl⟩;have hna:=names_any letter;have hE:enumsOf letter=(estOf s.data.toList).out:=by rw [hs];rfl
 rw [← hs] at ha hz hna;clear hs;have hwd:=estOf_word s.data.toList;have HA:=Lib.hid ha;have HE:=Lib.hid hE;have hi0:=IterAt.new Wd s 0;have hb0:Below Wd.heap.size Wd (Wd.iter s 0):=(Below.refl _ _).alloc (Nat.le_refl _) (.stringIter s 0);have hJ0:=abides_below hJ h0 hb0;clear ha hE hwd hb0;refine callsIn_of_wp Tryz.func167 rfl trivial ?_ rfl;simp only [Tryz.ntmps167,List.size_toArray,List.length_cons,List.length_nil,Nat.reduceAdd,Nat.reduceSub,Array.replicate_succ,Array.replicate_zero,List.push_toArray,List.append_toArray,List.nil_append,List.cons_append];gi_wp2_with fail;refine ⟨trivial,(callsIn_wide.2 (hna _)).mono ?_⟩;rintro e w' ⟨rfl,rfl⟩;gi_wp2_with fail;generalize Wd.iter s 0=w1 at *;gi_loopw [3,4,5,6] (fun a b c d wr=>∃ (pos:Nat) (t:ByteArray),pos≤s.size∧a=.int .u32 (estOf (s.data.toList.take pos)).n∧b=.string t∧c=.string (bs (estOf (s.data.toList.take pos)).word)∧d=.bool (estOf (s.data.toList.take pos)).num∧J (estOf (s.data.toList.take pos)).out wr∧IterAt wr Wd.heap.size s pos) (fun _ _ _ _ wr=>s.size-wr.iterPos Wd.heap.size)
 case atStart=>exact ⟨0,_,by omega,rfl,rfl,rfl,rfl,hJ0,hi0⟩
 case round =>
  obtain ⟨pos,t,hps,rfl,rfl,rfl,rfl,hJk,hit⟩:=hrel;have hmeas:wr.iterPos Wd.heap.size=pos:=by unfold World.iterPos;rw [hit]
  rw [hmeas];clear hmeas
  by_cases hp:pos<s.size
  ·have hc:=HA.out s[pos] (by show s.data[pos]'hp∈s.data.toList;rw [Array.mem_toList_iff];exact Array.getElem_mem _)
   have hnx:=fun ty=>run_next_at (P:=Tryz.prog) hit ty hp hc
   have hsn:=estOf_snoc (s.data.toList.take pos) s[pos];rw [← ba_snoc s pos hp] at hsn;have hit2:=hit.put (pos+1);have hmeas:(wr.putObj Wd.heap.size (.stringIter s (pos+1))).iterPos Wd.heap.size=pos+1:=by unfold World.iterPos;rw [hit2]
   have hJ2:=abides_iter hJ hJk hit (Nat.le_refl _) (.stringIter s (pos+1));have hln:=estOf_len (s.data.toList.take pos);have htl:(s.data.toList.take pos).length≤pos:=List.length_take_le _ _;have hwa:=estOf_word (s.data.toList.take pos) (fun c hc=>HA.out c (List.mem_of_mem_take hc))
   have hout:=estOf_out (s.data.toList.take (pos+1)) (s.data.toList.drop (pos+1));rw [List.take_append_drop,← HE.out] at hout;have henc:=encode_ascii s[pos] hc;have Hmeas:=Lib.hid hmeas;have Hsn:=Lib.hid hsn;have Hout:=Lib.hid hout;have Hwa:=Lib.hid hwa;obtain ⟨st2,hst2⟩:∃ st2,estOf (s.data.toList.take (pos+1))=st2:=⟨_,rfl⟩;rw [hst2] at Hsn Hout;have HT:=Lib.hid hst2;clear hsn hit hJk hmeas hst2 hout hwa;generalize estOf (s.data.toList.take pos)=st at *;obtain ⟨n,wd,nm,out⟩:=st;simp only at hln hJ2;generalize (s.data.toList.take pos).length=lt at *;generalize wr.putObj Wd.heap.size (.stringIter s (pos+1))=w2 at *
   by_cases h32:s[pos]=32
   ·have e1:((s[pos].toNat:Int) != 32)=false:=by rw [h32];rfl
    rcases nm with _ | _
    ·have Hst:Hid (st2=⟨numT wd,[],true,out⟩):=Lib.hid (by rw [Hsn.out];unfold stepE;rw [if_pos h32];rfl)
     clear henc;generalize s[pos]=c at *;gi_wp2_with fail;refine ⟨trivial,(callsIn_wide.2 (number_any (bs wd) w2 (by simpa [bs] using Hwa.out))).mono ?_⟩
     rintro e w3 ⟨rfl,hb3⟩;gi_wp2_with fail;go_roundw
     case rel=>exact ⟨pos+1,t,by omega,by rw [HT.out,Hst.out];rfl,rfl,by rw [HT.out,Hst.out];rfl,by rw [HT.out,Hst.out],by rw [HT.out,Hst.out];exact abides_below hJ hJ2 hb3,hit2.step hb3⟩
     case measure=>rw [(hit2.step hb3).pos_];omega
    ·have Hst:Hid (st2=⟨n,[],false,out++[(n,wd)]⟩):=Lib.hid (by rw [Hsn.out];unfold stepE;rw [if_pos h32];rfl)
     clear henc;generalize s[pos]=c at *;have hG:NextE letter out (n,wd) w2:=by
      obtain ⟨r,hr⟩:=Hout.out;rw [Hst.out] at hr;exact ⟨r,by rw [hr];simp⟩
     obtain ⟨fn,tmps,assign,body,hy,hRd⟩:=hY out (n,wd) w2 hJ2 hG;dsimp only [enumV] at hy;gi_wp2_with fail;refine hRd.mono ?_;rintro e W3 (⟨rfl,hJ3,hk3⟩ | ⟨rfl,hJx3⟩)
     ·clear hy hRd;gi_wp2_with fail;go_roundw
      case rel=>exact ⟨pos+1,_,by omega,by rw [HT.out,Hst.out],rfl,by rw [HT.out,Hst.out];rfl,by rw [HT.out,Hst.out],by rw [HT.out,Hst.out];exact hJ3,hk3.same _ _ hit2 rfl⟩
      case measure=>rw [IterAt.pos_ (hk3.same _ _ hit2 rfl)];omega
     ·gi_wp2_with fail;refine bodyPost_ret (results_none rfl _ _ _) rfl ?_;exact ⟨⟨_,rfl⟩,.inr ⟨_,by obtain ⟨r,hr⟩:=Hout.out;rw [Hst.out] at hr;exact ⟨r,hr⟩,hJx3⟩⟩
   ·have e1:((s[pos].toNat:Int) != 32)=true:=by
     rw [bne_iff_ne];intro e;exact h32 (UInt8.toNat_inj.1 (by show s[pos].toNat=32;omega))
    have Hst:Hid (st2=⟨n,wd++[s[pos]],nm,out⟩):=Lib.hid (by rw [Hsn.out];unfold stepE;rw [if_neg h32])
    have hadd:∀ w,(Op.stringOp .add (bs wd) ⟨#[s[pos]]⟩).run Tryz.prog w=.ok (.string (bs (wd++[s[pos]]))) w:=fun w=>by
     rw [run_string_add_sum]
     ·rw [show (⟨#[s[pos]]⟩:ByteArray)=bs [s[pos]] from rfl,bs_append]
     ·rw [bs_size]
      show _+1≤_
      omega
    generalize s[pos]=c at *;gi_wp2_with fail;go_roundw
    case rel=>exact ⟨pos+1,t,by omega,by rw [HT.out,Hst.out],rfl,by rw [HT.out,Hst.out],by rw [HT.out,Hst.out],by rw [HT.out,Hst.out];exact hJ2,hit2⟩
    case measure=>rw [hit2.pos_];omega
  ·obtain rfl:pos=s.size:=by omega
   have hnx:=fun ty=>run_next_done (P:=Tryz.prog) hit ty hp
   rw [ba_all s,← HE.out] at hJk;generalize (estOf (s.data.toList.take s.size)).n=n at *;clear hit;gi_wp2_with fail;go_end0
   exact ⟨⟨_,rfl⟩,.inl ⟨_,rfl,hJk⟩⟩
theorem enums_in (m:Nat) (letter:Int) (w:World) :
  CallsIn Fence.wide m Tryz.prog 165 #[.int .u8 letter] w fun e w'=>e=.returned (.func (.func 167) #[] #[.pointer (some ⟨w.heap.size,0,none⟩)])∧w'=w.alloc (.cells #[.int .u8 letter] 5):=by
 refine callsIn_of_wp Tryz.func165 rfl trivial ?_ rfl;simp only [Tryz.ntmps165,List.size_toArray,List.length_cons,List.length_nil,Nat.reduceAdd,Nat.reduceSub,Array.replicate_succ,Array.replicate_zero,List.push_toArray,List.append_toArray,List.nil_append,List.cons_append];gi_wp2
 go_ret
 exact ⟨rfl,rfl⟩
theorem enums_stops (m:Nat) (hm:1≤m) (Bs:Nat) (letter:Int) (w:World) (hBs:Bs<w.heap.size) (hbox:w.cell? ⟨Bs,0,none⟩=some (.int .u8 letter)) :
  SeqG Fence.wide m Tryz.prog 167 #[.pointer (some ⟨Bs,0,none⟩)] enumV (NextE letter) KeepsWalks (fun ys=>ys=enumsOf letter) (fun pre=>∃ rest,enumsOf letter=pre++rest) w:=fun l J Jx W hW hJ hY h0 =>
 enums1_in W m hm l Bs letter J Jx hJ hY ((hW.cell hBs).trans hbox) h0
end
section
open Go.RowKit Go.Shelf
attribute [local go_sem] Oper.semAt_some
theorem noncells {W:World} {row:Option Nat} {g:Nat} {t:TypeId} {cs:Array Value} (hr:∀ r,row=some r→∃ o:Obj,W.heap[r]?=some o∧o.isCells=false) (h:Blk W g t cs):some g≠row:=fun e=>by
 obtain ⟨o,h1,h2⟩:=hr g e.symm;unfold Blk at h;rw [h] at h1;cases h1
 cases h2
theorem Blk.kept_ {W W':World} {row:Option Nat} {g:Nat} {t:TypeId} {cs:Array Value} (h:Blk W g t cs) (hg:W.grownBy W' row) (hr:∀ r,row=some r→∃ o:Obj,W.heap[r]?=some o∧o.isCells=false):Blk W' g t cs:=h.grown hg (noncells hr h)
theorem cell_putObj {w:World} {p:Addr} {v:Value} {D:Nat} {o:Obj} (h:w.cell? p=some v) (hne:p.block≠D):(w.putObj D o).cell? p=some v:=(World.cell?_of_block (World.putObj_heap_other hne)).trans h
theorem results_cc1 {fn:Func} {p q:Tmp} {ty ty':TypeId} (h:fn.results=#[.cell p ty,.cell q ty']) (tmps:Array Value) (P:Program) (w:World) :
  (results fn tmps).run P w=((asAddr (tmps.getD p undef)).run P w).andThen fun ad w₁=>((loadVar ty ad).run P w₁).andThen fun v w₂=>((asAddr (tmps.getD q undef)).run P w₂).andThen fun ad' w₃=>((loadVar ty' ad').run P w₃).andThen fun v' w₄=>.ok (.tuple #[v,v']) w₄:=by
 simp only [results,h];simp [Sem.run_bind,Result.andThen]
theorem enumB_no {letter n:Int} (h:∀ y∈enumsOf letter,(y.1==n)=false):enumB letter n=false∧enumN letter n=[]:=by
 have e:(enumsOf letter).find? (fun x=>x.1==n)=none:=List.find?_eq_none.2 (fun q hq=>by simp [h q hq])
 refine ⟨?_,by unfold enumN;rw [e]⟩
 unfold enumB;rw [List.any_eq_false];exact fun x hx=>by simp [h x hx]
theorem enumB_yes {letter n:Int} {pre rest:List (Int × List UInt8)} {q:Int × List UInt8} (hl:enumsOf letter=pre++q :: rest) (h:∀ y∈pre,(y.1==n)=false) (hq:(q.1==n)=true):enumB letter n=true∧enumN letter n=q.2:=by
 have e1:pre.find? (fun x=>x.1==n)=none:=List.find?_eq_none.2 (fun y hy=>by simp [h y hy])
 have e:(enumsOf letter).find? (fun x=>x.1==n)=some q:=by rw [hl,List.find?_append,e1];simp [hq]
 refine ⟨?_,by unfold enumN;rw [e]⟩
 unfold enumB;rw [List.any_eq_true];exact ⟨q,by rw [hl];simp,hq⟩
structure EInv (w:World) (n:Int) (v:ByteArray) (r:Bool) (W:World):Prop where
 k3:Blk W w.heap.size 22 #[.int .u32 n]
 k4:Blk W (w.heap.size+1) 9 #[.string v]
 k5:Blk W (w.heap.size+1+1) 4 #[.bool r]
 below:Below w.heap.size w W
 size:w.heap.size+4≤W.heap.size
theorem EInv.keep {w W W':World} {B:Nat} {n:Int} {v:ByteArray} {r:Bool} {row:Option Nat} (hB:w.heap.size≤B) (i:EInv w n v r W) (hg:W.grownBy W' row) (hr:∀ k,row=some k→B≤k∧∃ o:Obj,W.heap[k]?=some o∧o.isCells=false):EInv w n v r W':=by
 have hr':∀ r,row=some r→∃ o:Obj,W.heap[r]?=some o∧o.isCells=false:=fun r e=>(hr r e).2
 obtain ⟨h3,h4,h5,h7,h8⟩:=i;exact ⟨h3.kept_ hg hr',h4.kept_ hg hr',h5.kept_ hg hr',h7.grown hg h7.size (fun k e=>Nat.le_trans hB (hr k e).1),Nat.le_trans h8 hg.size⟩
theorem EInv.put {w W:World} {n:Int} {v:ByteArray} {r:Bool} (i:EInv w n v r W) (v':ByteArray) (r':Bool):EInv w n v' r' ((W.setCell ⟨w.heap.size+1,0,none⟩ (.string v')).setCell ⟨w.heap.size+1+1,0,none⟩ (.bool r')):=by
 obtain ⟨h3,h4,h5,h7,h8⟩:=i;refine ⟨(h3.far (p:=⟨w.heap.size+1,0,none⟩) (show w.heap.size≠w.heap.size+1 by omega) _).far (p:=⟨w.heap.size+1+1,0,none⟩) (show w.heap.size≠w.heap.size+1+1 by omega) _,?_,?_,(h7.setCell (p:=⟨w.heap.size+1,0,none⟩) (show w.heap.size≤w.heap.size+1 by omega) _).setCell (p:=⟨w.heap.size+1+1,0,none⟩) (show w.heap.size≤w.heap.size+1+1 by omega) _,by simp;omega⟩
 ·have h:=(h4.set_ 0 (.string v')).far (p:=⟨w.heap.size+1+1,0,none⟩) (by simp) (.bool r')
  simpa using h
 ·have h:=((h5.far (p:=⟨w.heap.size+1,0,none⟩) (by simp) (.string v'))).set_ 0 (.bool r')
  simpa using h
def EnumIs (letter n:Int) (w:World) (e:Ending) (w':World):Prop:=e=.returned (.tuple #[.string (bs (enumN letter n)),.bool (enumB letter n)])∧Below w.heap.size w w'
theorem enum_in (letter n:Int) (w:World) :
  CallsIn Fence.wide 9 Tryz.prog 161 #[.int .u8 letter,.int .u32 n] w (EnumIs letter n w):=by
 refine callsIn_of_wp_marks Tryz.func161 rfl trivial ?_ rfl;simp only [Tryz.ntmps161,List.size_toArray,List.length_cons,List.length_nil,Nat.reduceAdd,Nat.reduceSub,Array.replicate_succ,Array.replicate_zero,List.push_toArray,List.append_toArray,List.nil_append,List.cons_append];gi_wp2_with fail;refine ⟨trivial,(enums_in _ letter _).mono ?_⟩;rintro e w' ⟨rfl,rfl⟩;gi_wp2_with fail;have hb:=((((Below.refl w.heap.size w).alloc (Nat.le_refl _) (.cells #[.int .u32 n] 22)).alloc (by simp) (.cells #[.string ⟨#[]⟩] 9)).alloc (by simp;omega) (.cells #[.bool false] 4)).alloc (by simp;omega) (.cells #[.int .u8 letter] 5)
 have q3:=(((Blk.new w 22 #[.int .u32 n]).alloc (.cells #[.string ⟨#[]⟩] 9)).alloc (.cells #[.bool false] 4)).alloc (.cells #[.int .u8 letter] 5);have q4:=((Blk.new (w.alloc (.cells #[.int .u32 n] 22)) 9 #[.string ⟨#[]⟩]).alloc (.cells #[.bool false] 4)).alloc (.cells #[.int .u8 letter] 5);have q5:=(Blk.new ((w.alloc (.cells #[.int .u32 n] 22)).alloc (.cells #[.string ⟨#[]⟩] 9)) 4 #[.bool false]).alloc (.cells #[.int .u8 letter] 5);have q9:=(Blk.new (((w.alloc (.cells #[.int .u32 n] 22)).alloc (.cells #[.string ⟨#[]⟩] 9)).alloc (.cells #[.bool false] 4)) 5 #[.int .u8 letter]).cell 0;simp only [World.size_alloc] at q4 q5 q9;simp at q9;have hsz9:((((w.alloc (.cells #[.int .u32 n] 22)).alloc (.cells #[.string ⟨#[]⟩] 9)).alloc (.cells #[.bool false] 4)).alloc (.cells #[.int .u8 letter] 5)).heap.size=w.heap.size+1+1+1+1:=by simp
 generalize (((w.alloc (.cells #[.int .u32 n] 22)).alloc (.cells #[.string ⟨#[]⟩] 9)).alloc (.cells #[.bool false] 4)).alloc (.cells #[.int .u8 letter] 5)=w9 at *;have h0:EInv w n ⟨#[]⟩ false w9:=⟨q3,q4,q5,hb,by omega⟩
 clear q3 q4 q5;refine wpIn_range_w rfl (by omega) (gf:=167) (lb:=#[.pointer (some ⟨w.heap.size+1+1+1,0,none⟩)]) rfl trivial (enters_of Tryz.func167 (by kernel_rfl) rfl)
   (enums_stops _ (by omega) (w.heap.size+1+1+1) letter w9 (by omega) q9) (fun h k=>h.trans k) (fun W o o' h hw=>KeepsWalks.putObj o' h hw) (fun _=>rfl)
   (fun pre W=>EInv w n ⟨#[]⟩ false W∧∀ y∈pre,(y.1==n)=false) (fun c pre W=>c=.ret∧∃ pre' x rest,pre=pre'++[x]∧enumsOf letter=pre'++x :: rest∧(∀ y∈pre',(y.1==n)=false)∧(x.1==n)=true∧EInv w n (bs x.2) true W)
   (fun pre W W' row h hg hr=>⟨h.1.keep (B:=w9.heap.size) (by omega) hg hr,h.2⟩) (fun c pre W W' row h hg hr=>by
    obtain ⟨hc,pre',x,rest,e1,e5,e2,e3,e4⟩:=h;exact ⟨hc,pre',x,rest,e1,e5,e2,e3,e4.keep (B:=w9.heap.size) (by omega) hg hr⟩) ⟨h0,by simp⟩
   (fun pre x a' W=>(∃ rest,enumsOf letter=pre++x :: rest)∧a'={ tmps:=#[Value.int IntKind.u8 letter,Value.int IntKind.u32 n,undef,Value.pointer (some { block:=w.heap.size,off:=0,spot:=none }),Value.pointer (some { block:=w.heap.size+1,off:=0,spot:=none }),Value.pointer (some { block:=w.heap.size+1+1,off:=0,spot:=none }),Value.int IntKind.u32 x.1,Value.string (bs x.2),Value.int IntKind.u8 letter,Value.func (Fn.func 167) #[] #[Value.pointer (some { block:=w.heap.size+1+1+1,off:=0,spot:=none })],Value.int IntKind.u32 x.1,Value.string (bs x.2),undef,undef,undef,undef],defers:=[] })
   ?hax ?assign ?body ?done ?stop
 case hax =>
  rintro pre x a' _ X Y row ⟨g3,g4⟩ hg hr;exact ⟨g3,g4⟩
 case assign =>
  rintro l pre x W K hsW ⟨hI,hno⟩ hGx hK;dsimp only [enumV];gi_wp2_with fail;exact hK _ _ (KeepsFrom.refl _ _) (KeepsWalks.refl _) ⟨hI,hno⟩ ⟨hGx,rfl⟩
 case body =>
  rintro l pre x a' W hsW ⟨r,hr⟩ ⟨hI,hno⟩ ⟨⟨rest,hL⟩,rfl⟩;have f3:=hI.k3.cell 0;have f4:=hI.k4.cell 0;have f5:=hI.k5.cell 0;have g4:=hI.k4.frozen 0;have g5:=hI.k5.frozen 0;simp at f3 f4 f5;have HL:=Lib.hid hL;clear hL
  rcases hfit:(x.1==n) with _ | _
  ·gi_wp2_with fail;exact ⟨KeepsFrom.refl _ _,KeepsWalks.refl _,hI,fun y hy=>by
    rcases List.mem_append.1 hy with hy | hy
    ·exact hno y hy
    ·rw [List.mem_singleton] at hy;subst hy;exact hfit⟩
  ·gi_wp2_with fail;exact ⟨((KeepsOthers.setCell _ _ _).trans (KeepsOthers.setCell _ _ _)).from _,rfl,pre,x,rest,rfl,HL.out,hno,hfit,hI.put (bs x.2) true⟩
 case done =>
  rintro D ys W hD hS ⟨hI,hno⟩ hK;have hI2:=hI.put ⟨#[]⟩ false;have f6:=hI.k4.cell 0;have f7:=hI.k5.cell 0;have g6:=hI.k4.frozen 0;have g7:=hI.k5.frozen 0;have f7':=((hI.k5.far (p:=⟨w.heap.size+1,0,none⟩) (by simp) (.string ⟨#[]⟩))).cell 0
  have g7':=((hI.k5.far (p:=⟨w.heap.size+1,0,none⟩) (by simp) (.string ⟨#[]⟩))).frozen 0
  simp at f6 f7 f7';have hDlt:=(Array.getElem?_eq_some_iff.1 hK).1;have hK6:((W.setCell ⟨w.heap.size+1,0,none⟩ (.string ⟨#[]⟩)).setCell ⟨w.heap.size+1+1,0,none⟩ (.bool false)).heap[D]?=some (.deferred (some [])) :=
   (Below.heap_setCell _ _ _ _ (show D≠w.heap.size+1+1 by omega)).trans ((Below.heap_setCell _ _ _ _ (show D≠w.heap.size+1 by omega)).trans hK)
  gi_wp2_with fail;obtain ⟨W6,hW6⟩:∃ W6,W6=(W.setCell ⟨w.heap.size+1,0,none⟩ (.string ⟨#[]⟩)).setCell ⟨w.heap.size+1+1,0,none⟩ (.bool false):=⟨_,rfl⟩;rw [← hW6] at hI2 hK6;have c6:=hI2.k4.cell 0;have c7:=hI2.k5.cell 0;simp at c6 c7;have m0:=cell_putObj (o:=.deferred none) (D:=D) c6 (by simp;omega)
  have m1:=cell_putObj (o:=.deferred none) (D:=D) c7 (by simp;omega)
  have hbl:=hI2.below.trans (belowK_b (n₀:=w.heap.size) (w:=w9) (by omega) W6 D _ (.deferred none) hD hK6 rfl rfl)
  rw [← hW6];clear hW6 hI hI2 f6 f7 g6 g7 f7' g7';refine ⟨by simp,.inl ⟨_,_,rfl,run_takeDeferred hK6,?_⟩⟩
  refine ⟨.tuple #[.string ⟨#[]⟩,.bool false],by rw [results_cc1 rfl];go_simp,?_⟩
  obtain ⟨z1,z2⟩:=enumB_no (n:=n) (fun y hy=>hno y (by rw [hS];exact hy))
  exact ⟨by rw [z1,z2];rfl,hbl⟩
 case stop =>
  rintro D c pre W hD ⟨rest,hSp⟩ ⟨rfl,pre',x,rest',rfl,hL,hno,hfit,hI⟩ hK;have c6:=hI.k4.cell 0;have c7:=hI.k5.cell 0;simp at c6 c7;have hDlt:=(Array.getElem?_eq_some_iff.1 hK).1;have m0:=cell_putObj (o:=.deferred none) (D:=D) c6 (by simp;omega)
  have m1:=cell_putObj (o:=.deferred none) (D:=D) c7 (by simp;omega)
  have hbl:=hI.below.trans (belowK_b (n₀:=w.heap.size) (w:=w9) (by omega) W D _ (.deferred none) hD hK rfl rfl)
  gi_wp2_with fail;refine ⟨by simp,.inl ⟨_,_,rfl,run_takeDeferred hK,?_⟩⟩
  refine ⟨.tuple #[.string (bs x.2),.bool true],by rw [results_cc1 rfl];go_simp,?_⟩
  obtain ⟨z1,z2⟩:=enumB_yes hL hno hfit;exact ⟨by rw [z1,z2],hbl⟩
theorem enum_any (letter n:Int) (w:World) :
  Calls Tryz.prog 161 #[.int .u8 letter,.int .u32 n] w (EnumIs letter n w):=callsIn_wide.1 (enum_in letter n w)
end
section
open Go.RowKit
theorem sl32:SliceOf Tryz.prog 71 22 (.int .u32 0) 1 4:=⟨Tryz.underlying71,by kernel_rfl,rfl,by decide⟩
theorem room_any (s:ByteArray) (w:World) (hs:s.size≤140737488351232) :
  Calls Tryz.prog 160 #[.string s] w fun e w'=>e=.returned (.int .i64 (roomOf (bl s):Nat))∧w=w':=by
 go_enter Tryz.func160,Tryz.ntmps160;go_wp2
 go_ret
 exact ⟨ret_int (by unfold roomOf;rw [bl_length];omega),rfl⟩
def Ofs (l:List Int) (w:World) (e:Ending) (w':World):Prop :=
 ∃ A',e=.returned (.tuple #[.slice A' (ofW l).length (ofW l).length,.int .i64 (ofE l)])∧w'.ownsRow w.heap.size 22 1 (.slice A' (ofW l).length (ofW l).length) (ofW l).length (Ints .u32 (ofW l))∧Below w.heap.size w w'
theorem Ofs.none_ {l:List Int} {w w':World} {v:Int} (h:ofE l=v∧ofW l=[]) (hb:Below w.heap.size w w'):Ofs l w (.returned (.tuple #[.slice none 0 0,.int .i64 v])) w':=by
 refine ⟨none,?_,?_,hb⟩
 ·rw [h.1,h.2];rfl
 ·rw [h.2];exact World.ownsRow_nil _ _ _ _
theorem Ofs.some_ {l:List Int} {w w':World} {A':Option Addr} (h:ofE l=0∧ofW l=part l l.length) (ho:w'.ownsRow w.heap.size 22 1 (.slice A' (roomOf l) (roomOf l)) (roomOf l) (Ints .u32 (part l l.length))) (hb:Below w.heap.size w w') :
  Ofs l w (.returned (.tuple #[.slice A' (roomOf l) (roomOf l),.int .i64 0])) w':=by
 refine ⟨A',?_,?_,hb⟩
 ·rw [h.1,h.2,part_length]
 ·rw [h.2,part_length];exact ho
theorem ofText_any (s:ByteArray) (w:World) (hs:s.size≤140737488351232) :
  Calls Tryz.prog 159 #[.string s] w (Ofs (bl s) w):=by
 have hL:=Lib.hid (bl_length s);go_enter Tryz.func159,Tryz.ntmps159;go_wp2
 go_loop [4,9] (fun _ i=>∃ k:Nat,k≤s.size∧i=.int .i64 k∧Full (bl s) k) (fun _ i=>s.size-(intOf i).toNat)
 case atStart=>exact ⟨0,by omega,rfl,Full.zero _⟩
 case round =>
  obtain ⟨k,hk,rfl,hf⟩:=hrel
  by_cases hlt:k<s.size
  ·have hx:=bl_ix s hlt
   by_cases hz:ix (bl s) k=0
   ·have hO:=Lib.hid (of_nul (by rw [hL.out];exact hlt) hz)
    have hz1:((s[k].toNat:Int)==0)=true:=by rw [← hx,hz];rfl
    clear hx hz;go_wp2
    go_ret2
    exact Ofs.none_ hO.out (Below.refl _ _)
   ·have hz1:((s[k].toNat:Int)==0)=false:=by rw [← hx];simpa using hz
    clear hx;go_wp2
    go_round
    case rel=>exact ⟨k+1,by omega,by go_num,hf.succ hz⟩
    case measure=>simp [intOf];omega
  ·obtain rfl:k=s.size:=by omega
   have hf':Full (bl s) (bl s).length:=by rw [hL.out];exact hf
   obtain ⟨R,HR⟩:∃ R,Hid (roomOf (bl s)=R):=⟨_,rfl⟩;have hR:R≤35184372087809∧0<R∧s.size<4*R:=by have h:=HR.out;unfold roomOf at h;rw [hL.out] at h;omega
   go_wp2_with fail;refine (room_any s _ hs).mono ?_;rintro e w' ⟨rfl,rfl⟩;rw [HR.out]
   by_cases hbig:65535<R
   ·have hO:=Lib.hid (of_large hf' (by rw [HR.out];exact hbig))
    have hg:decide ((65535:Int)<(R:Int))=true:=by simp;omega
    go_wp2_with fail;go_ret2
    exact Ofs.none_ hO.out (Below.refl _ _)
   ·have hO:=Lib.hid (of_ok hf' (by rw [HR.out];exact hbig))
    have hg:decide ((65535:Int)<(R:Int))=false:=by simp;omega
    go_wp2_with fail;refine (room_any s _ hs).mono ?_;rintro e w' ⟨rfl,rfl⟩;rw [HR.out];go_wp2_with (at_make;refine mk_full sl32 rfl _ rfl _ _ rfl w.heap.size R rfl rfl rfl rfl (by omega) (by omega) (Nat.le_refl _) ?_;intro w1 hown hgr)
    go_loopw [6,25] (fun _ i wr=>∃ k:Nat,k≤s.size∧i=.int .i64 k∧wr.ownsRow w.heap.size 22 1 (.slice (some ⟨w.heap.size,0,none⟩) R R) R (Ints .u32 (part (bl s) k))∧Below w.heap.size w wr) (fun _ i _=>s.size-(intOf i).toNat)
    case atStart=>exact ⟨0,by omega,rfl,by rw [part_zero,HR.out,Ints_replicate];exact hown,(Below.refl _ _).grown hgr (Nat.le_refl _) (fun _ h=>by cases h)⟩
    case round =>
     obtain ⟨k,hk,rfl,ho,hb⟩:=hrel
     by_cases hlt:k<s.size
     ·have hx:=bl_ix s hlt;have hc:=own_int_at ho (k:=k / 4) (by omega)
      have hf:=ho.frozenAt (k / 4);go_wp2_with fail;refine wp_region_tail 14 (by kernel_rfl) (by kernel_rfl) ?_
      simp only [List.take_succ_cons,List.take_zero,List.drop_succ_cons,List.drop_zero]
      repeat (go_big_quiet_step (fail))
      refine wpQuiet_nil ?_;go_wp2
      go_roundw
      case rel =>
       refine ⟨k+1,by omega,by go_num,?_,(hb.setCell (Nat.le_refl _) _).drew⟩
       rw [← part_step' (bl_under s) (by rw [hL.out];exact hlt),hx]
       exact (own_int_set ho (k / 4) _).drew
      case measure=>simp [intOf];omega
     ·obtain rfl:k=s.size:=by omega
      go_wp2
      go_ret2
      rw [← hL.out,← HR.out] at ho;rw [← HR.out];exact Ofs.some_ hO.out ho hb
end
section
open Go.RowKit
def idE (n b:Int):Int:=if n=0∨b≤n then 43 else 0
theorem id_any (n b:Int) (w:World) :
  Calls Tryz.prog 148 #[.int .u32 n,.int .u32 b] w fun e w'=>e=.returned (.int .i64 (idE n b))∧w=w':=by
 by_cases h0:n=0
 ·have hv:idE n b=43:=if_pos (.inl h0);have h0b:(n==0)=true:=by rw [h0];rfl
  rw [hv];clear h0 hv;go_enter Tryz.func148,Tryz.ntmps148;go_wp2
  go_ret
  exact ⟨rfl,rfl⟩
 ·have h0b:(n==0)=false:=by simpa using h0
  by_cases h1:b≤n
  ·have hv:idE n b=43:=if_pos (.inr h1);rw [hv];clear h0 hv;go_enter Tryz.func148,Tryz.ntmps148;go_wp2
   go_ret
   exact ⟨rfl,rfl⟩
  ·have hv:idE n b=0:=if_neg (fun h=>h.elim h0 h1)
   rw [hv];clear h0 hv;go_enter Tryz.func148,Tryz.ntmps148;go_wp2
   go_ret
   exact ⟨rfl,rfl⟩
def namedE (letter n:Int):Int:=if enumB letter n=true then 0 else 31
theorem named_any (letter n:Int) (w:World) :
  Calls Tryz.prog 152 #[.int .u8 letter,.int .u32 n] w fun e w'=>e=.returned (.int .i64 (namedE letter n))∧Below w.heap.size w w':=by
 have he:=enum_any letter n;unfold EnumIs at he;unfold namedE;generalize bs (enumN letter n)=s at *;generalize enumB letter n=b at *
 rcases b with _ | _
 all_goals
  go_enter Tryz.func152,Tryz.ntmps152;go_wp2_with (go_at_call 161;refine (he _).mono ?_;rintro e w' ⟨rfl,hb⟩)
  go_ret
  exact ⟨rfl,hb⟩
theorem liteIndex_any (s:ByteArray) (c:Int) (w:World) :
  Calls Tryz.prog 164 #[.string s,.int .u8 c] w fun e w'=>e=.returned (.int .i64 (Lib.indexByte s.data.toList c.toNat.toUInt8))∧w=w':=by
 go_enter Tryz.func164,Tryz.ntmps164;go_wp2
 rw [run_callFunc_extern Tryz.func166 (by kernel_rfl) (by kernel_rfl) (by kernel_rfl) (e:=Extern.BytealgIndexByte.indexByte) (by kernel_rfl),Lib.run_indexByteString]
 simp only [Result.andThen];rw [Oper.upon_value];go_wp2
 go_ret
 exact ⟨rfl,rfl⟩
theorem indexByte_any (s:ByteArray) (c:Int) (w:World) :
  Calls Tryz.prog 158 #[.string s,.int .u8 c] w fun e w'=>e=.returned (.int .i64 (Lib.indexByte s.data.toList c.toNat.toUInt8))∧w=w':=by
 go_enter Tryz.func158,Tryz.ntmps158;go_wp2_with (go_at_call 164;refine (liteIndex_any _ _ _).mono ?_;rintro e w' ⟨rfl,rfl⟩)
 go_ret
 exact ⟨rfl,rfl⟩
end
section
open Go.RowKit
def wcells (op:Int) (s0:ByteArray) (T R:Bool) (s2 s3:ByteArray) (m part bound:Int) (A:Option Addr) (n c:Nat) (room:Int):Array Value :=
 #[.int .u16 op,.string s0,.bool T,.bool R,.string s2,.string s3,.int .i64 m,.int .u8 part,.int .u32 bound,.slice A n c,.int .i64 room]
def WrS (B g:Nat) (op bound:Int) (ws:List Int) (room:Int) (W:World):Prop :=
 B≤g∧∃ (s0:ByteArray) (T R:Bool) (s2 s3:ByteArray) (m part:Int) (A:Option Addr) (c:Nat),
  Blk W g 195 (wcells op s0 T R s2 s3 m part bound A ws.length c room)∧W.ownsRow B 22 1 (.slice A ws.length c) ws.length (Ints .u32 ws)
def KeepT (w w':World):Prop:=∀ (j:Nat) (t:TypeId) (cs:Array Value),Blk w j t cs→t≠195→t≠22→Blk w' j t cs
theorem eleven_ {w:World} {g:Nat} {x0 x1 x2 x3 x4 x5 x6 x7 x8 x9 x10:Value} (h:∀ i,w.cell? ⟨g,i,none⟩=#[x0,x1,x2,x3,x4,x5,x6,x7,x8,x9,x10][i]?):w.cell? ⟨g,0,none⟩=some x0∧w.cell? ⟨g,8,none⟩=some x8∧w.cell? ⟨g,9,none⟩=some x9∧w.cell? ⟨g,10,none⟩=some x10 :=
 ⟨h 0,h 8,h 9,h 10⟩
theorem put_any (B g:Nat) (op bound:Int) (ws:List Int) (room n:Int) (w:World) (h:WrS B g op bound ws room w) (hB:B≤w.heap.size) (hl:ws.length≤8796093022208) (hr:0≤room∧room<2^62) :
  Calls Tryz.prog 147 #[.pointer (some ⟨g,0,none⟩),.int .u32 n] w fun e w'=>e=.returned (.tuple #[])∧WrS B g op bound (ws++[n]) (room+1) w'∧Below B w w'∧KeepT w w':=by
 obtain ⟨hg,s0,T,R,s2,s3,m,part,A,c,k,ho⟩:=h;unfold wcells at k;obtain ⟨y0,y8,y9,y10⟩:=eleven_ k.cell;have fz:=k.frozen;have hne:=Ne.symm (own_blk_ne ho k (by decide))
 have hrw:IntKind.i64.wrap (room+1)=room+1:=by simp [IntKind.wrap,IntKind.signed,IntKind.bits];omega
 go_enter Tryz.func147,Tryz.ntmps147;go_wp2_with (at_builtin;refine ap_one sl32 _ rfl _ _ rfl B _ _ _ rfl ho _ _ rfl rfl (by omega) (by omega) hB ?_;intro v' w2 ho2 hgr2 _;obtain ⟨A',c',rfl⟩:=own_shape ho2;have k2:=(k.alloc (.cells #[.int .u32 n] 22)).grown hgr2 hne;have hb2:=((Below.refl B w).alloc hB (.cells #[.int .u32 n] 22)).grown hgr2 (by simp;omega) (fun j hj=>(ho.lt j hj).1);obtain ⟨z0,z8,z9,z10⟩:=eleven_ k2.cell;have fz2:=k2.frozen;have HG:=Lib.hid hgr2;clear hgr2 hne)
 go_end0
 have k3:=(k2.set_ 9 (.slice A' (ws.length+1) c')).set_ 10 (.int .i64 (room+1));refine ⟨rfl,⟨hg,s0,T,R,s2,s3,m,part,A',c',?_,?_⟩,?_,?_⟩
 ·rw [List.length_append];simpa [wcells] using k3
 ·rw [List.length_append,Ints_append];have hx:=own_blk_ne ho2 k2 (by decide)
  exact own_set_other (own_set_other ho2 (p:=⟨g,9,none⟩) hx _) (p:=⟨g,10,none⟩) hx _
 ·exact (hb2.setCell (p:=⟨g,9,none⟩) hg _).setCell (p:=⟨g,10,none⟩) hg _
 ·intro j t cs kj h1 h2;have hjg:j≠g:=kj.ne_ k h1;have kj2:=(kj.alloc (.cells #[.int .u32 n] 22)).grown HG.out (Ne.symm (own_blk_ne ho kj (Ne.symm h2)));exact (kj2.far (p:=⟨g,9,none⟩) hjg _).far (p:=⟨g,10,none⟩) hjg _
def headE (must:Bool) (n lacks bound:Int):Int:=if must=(n != 0) then (if must then idE n bound else 0) else lacks
def headW (must:Bool) (n:Int):List Int:=if must=(n != 0) then (if must then [n] else []) else []
theorem WrS.bound_ {B g:Nat} {op bound:Int} {ws:List Int} {room:Int} {W:World} (h:WrS B g op bound ws room W):W.cell? ⟨g,8,none⟩=some (.int .u32 bound)∧W.cell? ⟨g,0,none⟩=some (.int .u16 op)∧W.cell? ⟨g,10,none⟩=some (.int .i64 room):=by
 obtain ⟨hg,s0,T,R,s2,s3,m,part,A,c,k,ho⟩:=h;obtain ⟨y0,y8,y9,y10⟩:=eleven_ k.cell;exact ⟨y8,y0,y10⟩
theorem head_any (B g:Nat) (op bound:Int) (ws:List Int) (room:Int) (must:Bool) (n lacks:Int) (w:World) (h:WrS B g op bound ws room w) (hB:B≤w.heap.size) (hl:ws.length≤8796093022208) (hr:0≤room∧room<2^62) :
  Calls Tryz.prog 137 #[.pointer (some ⟨g,0,none⟩),.bool must,.int .u32 n,.int .i64 lacks] w fun e w'=>e=.returned (.int .i64 (headE must n lacks bound))∧WrS B g op bound (ws++headW must n) (room+(headW must n).length) w'∧Below B w w':=by
 obtain ⟨b,hb⟩:∃ b,b=(n != 0):=⟨_,rfl⟩;have hb':(n != 0)=b:=hb.symm;have hp:=put_any B g op bound ws room n w h hB hl hr;have hi:=id_any n bound;unfold headE headW;rw [← hb];clear hb
 rcases must with _ | _ <;> rcases b with _ | _
 ·simp only [if_true,Bool.false_eq_true,if_false,List.append_nil,List.length_nil];clear hp hi;go_enter Tryz.func137,Tryz.ntmps137;go_wp2_with fail;go_ret
  exact ⟨rfl,by simpa using h,Below.refl _ _⟩
 ·simp only [Bool.false_eq_true,if_false,List.append_nil,List.length_nil];clear hp hi;go_enter Tryz.func137,Tryz.ntmps137;go_wp2_with fail;go_ret
  exact ⟨rfl,by simpa using h,Below.refl _ _⟩
 ·simp only [Bool.true_eq_false,if_false,List.append_nil,List.length_nil];clear hp hi;go_enter Tryz.func137,Tryz.ntmps137;go_wp2_with fail;go_ret
  exact ⟨rfl,by simpa using h,Below.refl _ _⟩
 ·simp only [if_true];generalize idE n bound=v at *;go_enter Tryz.func137,Tryz.ntmps137;go_wp2_with (go_at_call 147;refine hp.mono ?_;rintro e w2 ⟨rfl,h2,hb2,-⟩;obtain ⟨y8,-,-⟩:=h2.bound_)
  go_wp2_with (go_at_call 148;refine (hi _).mono ?_;rintro e w3 ⟨rfl,rfl⟩)
  go_ret
  exact ⟨rfl,h2,hb2⟩
end
section
open Go.RowKit
theorem WrS.step {B g:Nat} {op bound:Int} {ws:List Int} {room:Int} {W W':World} (h:WrS B g op bound ws room W) (hb:Below W.heap.size W W'):WrS B g op bound ws room W':=by
 obtain ⟨hg,s0,T,R,s2,s3,m,part,A,c,k,ho⟩:=h;exact ⟨hg,s0,T,R,s2,s3,m,part,A,c,k.below hb k.lt,own_below ho hb⟩
theorem indexByte_mem (l:List UInt8) (c:UInt8):(0≤Lib.indexByte l c) ↔ c∈l:=by
 induction l with
 | nil=>simp [Lib.indexByte]
 | cons b l ih =>
  unfold Lib.indexByte
  by_cases h:b=c
  ·subst h;simp
  ·rw [if_neg (by simpa using h)]
   have hge:=Lib.indexByte_ge l c;have h2:¬ c=b:=fun e=>h e.symm
   rw [List.mem_cons,← ih]
   by_cases h1:(Lib.indexByte l c==-1)=true
   ·rw [if_pos h1];have:Lib.indexByte l c = -1:=by simpa using h1
    rw [this];simp [h2]
   ·rw [if_neg h1];have:¬ Lib.indexByte l c = -1:=by simpa using h1
    constructor
    ·intro _;exact .inr (by omega)
    ·rintro (h | h)
     ·exact absurd h h2
     ·omega
theorem nul_iff (s:ByteArray):(0≤Lib.indexByte s.data.toList (0:Int).toNat.toUInt8) ↔ (0:Int)∈bl s:=by
 rw [indexByte_mem];unfold bl;rw [List.mem_map]
 constructor
 ·intro h;exact ⟨_,h,rfl⟩
 ·rintro ⟨b,hb,e⟩;have:b=(0:Int).toNat.toUInt8:=UInt8.toNat_inj.1 (by show b.toNat=0;omega)
  rw [← this];exact hb
def txE (s:ByteArray):Int:=if (0:Int)∈bl s then 13 else 0
def txW (s:ByteArray):List Int:=if (0:Int)∈bl s then [] else ofW (bl s)
def txR (s:ByteArray):Nat:=if (0:Int)∈bl s then 0 else roomOf (bl s)
theorem text_any (B g:Nat) (op bound:Int) (ws:List Int) (room:Int) (s:ByteArray) (w:World) (h:WrS B g op bound ws room w) (hB:B≤w.heap.size) (hl:ws.length≤8796093022208) (hr:0≤room∧room<2^61) (hs:s.size≤140737488351232) :
  Calls Tryz.prog 151 #[.pointer (some ⟨g,0,none⟩),.string s] w fun e w'=>e=.returned (.int .i64 (txE s))∧WrS B g op bound (ws++txW s) (room+txR s) w'∧Below B w w':=by
 have hix:=indexByte_any s 0;have hnul:=nul_iff s;have hroom':∀ w,Calls Tryz.prog 160 #[.string s] w fun e w'=>e=.returned (.int .i64 (roomOf (bl s):Nat))∧w'=w:=fun w=>(room_any s w hs).mono (by rintro e w' ⟨h1,h2⟩;exact ⟨h1,h2.symm⟩)
 have hof:=fun w=>ofText_any s w hs
 unfold txE txW txR
 by_cases h0:(0:Int)∈bl s
 ·simp only [h0,if_true,List.append_nil];have hp:=hnul.2 h0;generalize Lib.indexByte s.data.toList (0:Int).toNat.toUInt8=ixv at *;have hpb:decide (0≤ixv)=true:=decide_eq_true hp;clear hof hroom' hnul h0;go_enter Tryz.func151,Tryz.ntmps151;go_wp2_with (go_at_call 158;refine (hix _).mono ?_;rintro e w2 ⟨rfl,rfl⟩)
  go_ret
  exact ⟨rfl,by simpa using h,Below.refl _ _⟩
 ·simp only [h0,if_false];have hp:¬ (0≤Lib.indexByte s.data.toList (0:Int).toNat.toUInt8):=fun hh=>h0 (hnul.1 hh)
  generalize Lib.indexByte s.data.toList (0:Int).toNat.toUInt8=ixv at *;have hpb:decide (0≤ixv)=false:=decide_eq_false hp;have hrl:roomOf (bl s)≤35184372087809:=by unfold roomOf;rw [bl_length];omega
  by_cases hbig:65535<roomOf (bl s)
  ·have hE:ofE (bl s)=4:=by unfold ofE;rw [if_neg h0,if_pos hbig]
   have hW:ofW (bl s)=[]:=by unfold ofW;rw [hE];rfl
   rw [hW,List.append_nil];unfold Ofs at hof;rw [hE,hW] at hof;generalize roomOf (bl s)=rm at *;clear hE hW hnul h0 hbig;go_enter Tryz.func151,Tryz.ntmps151;go_wp2_with (first | (go_at_call 158;refine (hix _).mono ?_;rintro e w2 ⟨rfl,rfl⟩) | (go_at_call 159;refine (hof _).mono ?_;rintro e w3 ⟨A',rfl,ho3,hb3⟩))
   have h3:=h.step hb3;have hbb:=below_cut (Below.refl B w) hb3 hB;clear h hb3 ho3;obtain ⟨hg,s0,T,R,s2,s3,m,part,A,c,k,ho⟩:=h3;unfold wcells at k;obtain ⟨y0,y8,y9,y10⟩:=eleven_ k.cell;have fz:=k.frozen;have hrw:IntKind.i64.wrap (room+(rm:Int))=room+(rm:Int):=by simp [IntKind.wrap,IntKind.signed,IntKind.bits];omega
   refine wp_region_tail 9 (by kernel_rfl) (by kernel_rfl) ?_
   simp only [List.take_succ_cons,List.take_zero,List.drop_succ_cons,List.drop_zero]
   repeat (go_big_quiet_step (exact hroom' _ _))
   refine wpQuiet_nil ?_;go_wp2_with fail;go_ret
   have k3:=(k.set_ 10 (.int .i64 (room+(rm:Int)))).drew;refine ⟨rfl,⟨hg,s0,T,R,s2,s3,m,part,A,c,by simpa [wcells] using k3,?_⟩,(hbb.setCell (p:=⟨g,10,none⟩) hg _).drew⟩
   exact (own_set_other ho (p:=⟨g,10,none⟩) (own_blk_ne ho k (by decide)) _).drew
  ·have hE:ofE (bl s)=0:=by unfold ofE;rw [if_neg h0,if_neg hbig]
   have hWl:(ofW (bl s)).length=roomOf (bl s):=by unfold ofW;rw [hE,if_pos rfl,part_length]
   unfold Ofs at hof;rw [hE] at hof;generalize ofW (bl s)=tw at *;rw [← hWl];have htl:tw.length≤65535:=by omega
   clear hE hWl hnul h0 hbig hroom' hrl;go_enter Tryz.func151,Tryz.ntmps151;have hrw:IntKind.i64.wrap (room+(tw.length:Int))=room+(tw.length:Int):=by simp [IntKind.wrap,IntKind.signed,IntKind.bits];omega
   go_wp2_with (first
    | (go_at_call 158;refine (hix _).mono ?_;rintro e w2 ⟨rfl,rfl⟩)
    | (go_at_call 159;refine (hof _).mono ?_;rintro e w3 ⟨A',rfl,ho3,hb3⟩;have h3:=h.step hb3;have hbb:=below_cut (Below.refl B w) hb3 hB;have hs3:=hbb.size;clear h hb3;obtain ⟨hg,s0,T,R,s2,s3,m,part,A,c,k,ho⟩:=h3;unfold wcells at k;obtain ⟨y0,y8,y9,y10⟩:=eleven_ k.cell;have fz:=k.frozen;have hne:=Ne.symm (own_blk_ne ho k (by decide)))
    | (at_builtin;refine ap_any sl32 _ rfl _ _ rfl B _ _ _ rfl ho w3.heap.size _ _ _ _ rfl (Reads.of_own ho3) Ints_oneCell (by omega) (by omega) (by omega) ?_;intro A4 c4 w4 ho4 hg4 hat4;have k4:=k.grown hg4 hne;have hb4:=hbb.grown hg4 (Nat.le_trans hB hs3) (fun j hj=>(ho.lt j hj).1);obtain ⟨z0,z8,z9,z10⟩:=eleven_ k4.cell;have fz4:=k4.frozen;clear hg4 hne))
   go_ret
   have k5:=(k4.set_ 9 (.slice A4 (ws.length+tw.length) c4)).set_ 10 (.int .i64 (room+(tw.length:Int)));refine ⟨rfl,⟨hg,s0,T,R,s2,s3,m,part,A4,c4,?_,?_⟩,(hb4.setCell (p:=⟨g,9,none⟩) hg _).setCell (p:=⟨g,10,none⟩) hg _⟩
   ·rw [List.length_append];simpa [wcells] using k5
   ·rw [List.length_append,Ints_append];have hx:=own_blk_ne ho4 k4 (by decide)
    exact own_set_other (own_set_other ho4 (p:=⟨g,9,none⟩) hx _) (p:=⟨g,10,none⟩) hx _
end
end Go.Proofs.YtdebjkiilnhgpaaGreatDoor
