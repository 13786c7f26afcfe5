/- Walks: the law of TypingRenamed: with other ids all is the same. -/
import Derived.Deep.DeepCutAuto
import Derived.Deep.RegionHeld3
import Derived.Test.YtdebjkiilnhgpaaGreatDoorCVM
import Derived.Test.YtdebjkiilnhgpaaGreatDoorCUQ
import Derived.Test.YtdebjkiilnhgpaaGreatDoorCVP
set_option maxRecDepth 100000
set_option maxHeartbeats 8000000
namespace Go.Proofs.YtdebjkiilnhgpaaGreatDoor
open Go.RowKit
theorem shapeR_few {bound:Int}:∀ {l:List InstI} {k:Nat} {left:Int},0≤left→(shapeR bound l k left).1=0→(l.length:Int)≤left
 | [],_,left,h,_=>h
 | i :: r,k,left,h,h0=>by
  unfold shapeR at h0
  by_cases h1:(rawR i bound).1≠0
  ·rw [if_pos h1] at h0;exact absurd h0 h1
  ·rw [if_neg h1] at h0
   by_cases h2:left-(1+(rawR i bound).2.length)<0
   ·rw [if_pos h2] at h0;cases h0
   ·rw [if_neg h2] at h0;have:=shapeR_few (by omega) h0
    rw [List.length_cons];omega
theorem ids_shapeM {bound:Int} {l:List InstI} (h:(idsM bound l).1=0):(shapeM bound l).1=0:=by
 unfold idsM layM at h
 by_cases hs:(shapeM bound l).1=0
 ·exact hs
 ·rw [if_pos hs,if_pos hs] at h;exact h
theorem renamed_use {bound:Int} {l:List InstI} (hop:∀ i∈l,0≤i.1∧i.1<65536) (hu:∀ i∈l,∀ a∈i.2.2.2,0≤a.2.1∧a.2.1<4294967296) (hi:(idsM bound l).1=0) :
  l.length≤2000000∧(∀ i∈l,i.2.2.2.length≤65535)∧(∀ i∈l.map (renI (toF l)),∀ a∈i.2.2.2,0≤a.2.1∧a.2.1<4294967296)∧(∀ i∈l.map (renI (toF l)),0≤i.1∧i.1<65536):=by
 have hshape:=ids_shapeM hi;have hlen:l.length≤2000000:=by
  unfold shapeM at hshape
  split at hshape
  ·cases hshape
  ·have:=shapeR_few (by decide) hshape
   omega
 have hraw:=ids_shape hi;have hused:=ids_used hi;have hR:=toF_ok (ids_once hi);refine ⟨hlen,fun i hil=>Nat.le_of_lt (rawR_args (hraw i hil)),fun i hil a ha=>?_,fun i hil=>?_⟩
 ·obtain ⟨j,hj,rfl⟩:=List.mem_map.1 hil;have ha:a∈j.2.2.2.map (renA (toF l)):=ha;obtain ⟨y,hy,rfl⟩:=List.mem_map.1 ha;have hyu:=hu j hj y hy
  by_cases h0:y.1=1
  ·rw [renA_id h0];have hU:=(hused j hj).args y hy h0
   by_cases hz:y.2.1=0
   ·rw [hz,hR.zero];decide
   ·have hb:=hR.bd _ hU hz;have hcb:=cntN_bd l l.length;omega
  ·rw [renA_other h0];exact hyu
 ·obtain ⟨j,hj,rfl⟩:=List.mem_map.1 hil;exact hop j hj
theorem kitNone_any (w:World):Calls Tryz.prog 18 #[.agg #[.int .u32 0,.int .u32 0,.slice none 0 0]] w (BoolIs true w):=by
 have hb:=(Below.refl w.heap.size w).alloc (Nat.le_refl _) (.cells #[.int .u32 0,.int .u32 0,.slice none 0 0] 25);obtain ⟨z0,z1,z2⟩:=three_ (Blk.new w 25 #[.int .u32 0,.int .u32 0,.slice none 0 0]);go_enter Tryz.func18,Tryz.ntmps18;go_wp2_with fail;go_ret
 exact ⟨rfl,hb⟩
theorem renumber_bad (gen bound:Int) (A:Option Addr) (n c:Nat) (ls:List InstA) (w:World) (hM:ModS w w.heap.size A n ls) (hi:(idsM bound (ls.map (·.1))).1≠0) :
  Calls Tryz.prog 17 #[.agg (modC gen bound A n c)] w fun e w'=>(∃ a b,a≠0∧e=.returned (.tuple #[.agg #[.int .u32 0,.int .u32 0,.slice none 0 0],.agg #[.int .i64 a,.int .i64 b]]))∧Below w.heap.size w w':=by
 have hb:=(((Below.refl w.heap.size w).alloc (Nat.le_refl _) (.cells (modC gen bound A n c) 25)).alloc (by simp) (.cells #[.int .u32 0,.int .u32 0,.slice none 0 0] 25)).alloc (by simp;omega) (.cells #[.int .i64 0,.int .i64 0] 28)
 have k1:=((Blk.new w 25 (modC gen bound A n c)).alloc (.cells #[.int .u32 0,.int .u32 0,.slice none 0 0] 25)).alloc (.cells #[.int .i64 0,.int .i64 0] 28);have k2:=(Blk.new (w.alloc (.cells (modC gen bound A n c) 25)) 25 #[.int .u32 0,.int .u32 0,.slice none 0 0]).alloc (.cells #[.int .i64 0,.int .i64 0] 28);have k3:=Blk.new ((w.alloc (.cells (modC gen bound A n c) 25)).alloc (.cells #[.int .u32 0,.int .u32 0,.slice none 0 0] 25)) 28 #[.int .i64 0,.int .i64 0];simp only [World.size_alloc] at k2 k3;have hck:=check_any gen bound ls A n c _ (hM.step hb);generalize (idsM bound (ls.map (·.1))).2=sp at *;generalize (idsM bound (ls.map (·.1))).1=er at *;have d1:(er != 0)=true:=by simpa using hi
 unfold modC at *;clear hM;go_enter Tryz.func17,Tryz.ntmps17;go_upto_region 1 with fail
 generalize (((w.alloc (.cells #[.int .u32 gen,.int .u32 bound,.slice A n c] 25)).alloc (.cells #[.int .u32 0,.int .u32 0,.slice none 0 0] 25)).alloc (.cells #[.int .i64 0,.int .i64 0] 28))=W at *;obtain ⟨q0,q1,q2⟩:=three_ k1;go_wp2_with fail;refine hck.mono ?_;rintro e w2 ⟨rfl,hb2⟩;have hb3:=(below_cut hb hb2 (Nat.le_refl _));have hb4:=hb3.alloc hb3.size (.cells #[.int .i64 er,.int .i64 sp] 28);have k2b:=(k2.step hb2).alloc (.cells #[.int .i64 er,.int .i64 sp] 28);have k3b:=(k3.step hb2).alloc (.cells #[.int .i64 er,.int .i64 sp] 28);obtain ⟨s0,s1⟩:=two_ (Blk.new w2 28 #[.int .i64 er,.int .i64 sp]);obtain ⟨y0,y1,y2⟩:=three_ k2b;obtain ⟨x0,x1⟩:=two_ k3b;have fY:=k2b.frozen;have fX:=k3b.frozen;have hl2:w.heap.size+1+1<w2.heap.size:=(k3.step hb2).lt;clear q0 q1 q2 k1 k2 k3 hb hck hb2 hb3;go_wp2_with fail;go_region
 all_goals
  go_wp2_with fail;have kY3:Blk _ (w.heap.size+1) 25 #[.int .u32 0,.int .u32 0,.slice none 0 0]:=((((k2b.set_ 0 (.int .u32 0)).set_ 1 (.int .u32 0)).set_ 2 (.slice none 0 0)).far (p:=⟨w.heap.size+1+1,0,none⟩) (by show w.heap.size+1≠w.heap.size+1+1;omega) (.int .i64 er)).far (p:=⟨w.heap.size+1+1,1,none⟩) (by show w.heap.size+1≠w.heap.size+1+1;omega) (.int .i64 sp)
  have kZ3:Blk _ (w.heap.size+1+1) 28 #[.int .i64 er,.int .i64 sp]:=((((k3b.far (p:=⟨w.heap.size+1,0,none⟩) (by show w.heap.size+1+1≠w.heap.size+1;omega) (.int .u32 0)).far (p:=⟨w.heap.size+1,1,none⟩) (by show w.heap.size+1+1≠w.heap.size+1;omega) (.int .u32 0)).far (p:=⟨w.heap.size+1,2,none⟩) (by show w.heap.size+1+1≠w.heap.size+1;omega) (.slice none 0 0)).set_ 0 (.int .i64 er)).set_ 1 (.int .i64 sp)
  have hb9:=((((hb4.setCell (p:=⟨w.heap.size+1,0,none⟩) (Nat.le_succ _) (.int .u32 0)).setCell (p:=⟨w.heap.size+1,1,none⟩) (Nat.le_succ _) (.int .u32 0)).setCell (p:=⟨w.heap.size+1,2,none⟩) (Nat.le_succ _) (.slice none 0 0)).setCell (p:=⟨w.heap.size+1+1,0,none⟩) (show w.heap.size≤w.heap.size+1+1 by omega) (.int .i64 er)).setCell (p:=⟨w.heap.size+1+1,1,none⟩) (show w.heap.size≤w.heap.size+1+1 by omega) (.int .i64 sp)
  exact bodyPost_ret (renum_end rfl _ rfl rfl kY3.drew kZ3.drew) rfl ⟨⟨er,sp,hi,rfl⟩,hb9.drew⟩
theorem law_trenamed (gen bound:Int) (A:Option Addr) (n c:Nat) (ls:List InstA) (w:World) (hM:ModS w w.heap.size A n ls) (hn:n≤3600000000000) (hP:Pow w)
  (hN:∀ x∈ls,(∀ a∈x.1.2.2.2,0≤a.2.1∧a.2.1<4294967296)∧(0≤x.1.1∧x.1.1<65536)∧0≤x.1.2.2.1) :
  Calls Tryz.prog 6 #[.agg (modC gen bound A n c)] w (BoolIs true w):=by
 obtain ⟨L,hL⟩:∃ L,ls.map (·.1)=L:=⟨_,rfl⟩;have hlL:L.length=n:=by rw [← hL];exact hM.length
 have hu:∀ i∈L,∀ a∈i.2.2.2,0≤a.2.1∧a.2.1<4294967296:=fun i hi=>by
  rw [← hL] at hi;obtain ⟨x,hx,rfl⟩:=List.mem_map.1 hi;exact (hN x hx).1
 have hop:∀ i∈L,0≤i.1∧i.1<65536:=fun i hi=>by
  rw [← hL] at hi;obtain ⟨x,hx,rfl⟩:=List.mem_map.1 hi;exact (hN x hx).2.1
 have hrs:∀ i∈L,0≤i.2.2.1:=fun i hi=>by
  rw [← hL] at hi;obtain ⟨x,hx,rfl⟩:=List.mem_map.1 hi;exact (hN x hx).2.2
 have hcp:=fun (w':World) (hb:Below w.heap.size w w')=>cop_any gen bound A n c ls L w' (hM.step hb) hL hn hu hop (hP.step hb)
 have hb1:=(Below.refl w.heap.size w).alloc (Nat.le_refl _) (.cells (modC gen bound A n c) 25);have k1:=Blk.new w 25 (modC gen bound A n c);have hsg:=spotT_guard;have HU:=Lib.hid (And.intro hu (And.intro hop hrs));clear hN hM hL hu hop hrs;unfold modC CopIs at *;obtain ⟨z0,z1,z2⟩:=three_ k1;go_enter Tryz.func6,Tryz.ntmps6;go_wp2_with fail;refine (hcp _ hb1).mono ?_;rintro e w2 ⟨g2,l2,rfl,hT2,-,hb2⟩;have hB2:=below_cut hb1 hb2 (Nat.le_refl _);have k2:=k1.step hb2;clear k1 z0 z1 z2
 by_cases hi:(idsM bound L).1=0
 ·obtain ⟨hlen,hargs,hu2,hop2⟩:=renamed_use HU.out.2.1 HU.out.1 hi;have hrn:=renumber_any gen bound (some ⟨g2,0,none⟩) n n l2 w2 hT2.mod (by omega) (fun x hx=>hargs x.1 (by rw [← hT2.map];exact List.mem_map.2 ⟨x,hx,rfl⟩)) (by rw [hT2.map];exact hi)
  rw [hT2.map] at hrn;have hch:=renumber_chk (fun i hi=>(HU.out.2.1 i hi).1) HU.out.2.2 (fun i hi x hx=>by
   unfold nums at hx;obtain ⟨y,hy,rfl⟩:=List.mem_map.1 hx;exact (HU.out.1 i hi y hy).1) hi
  rw [hlL] at hch;have hck:=fun (w':World) (g:Nat) (l:List InstA) (hT:ModT w' (some ⟨g,0,none⟩) n n l L)=>chk_any gen bound (some ⟨g,0,none⟩) n n l L w' hT
  have hck2:=fun (w':World) (A':Option Addr) (c':Nat) (l:List InstA) (hT:ModT w' A' n c' l (L.map (renI (toF L))))=>chk_any gen (cntN L n:Nat) A' n c' l _ w' hT
  unfold RenumIs modC at hrn;unfold SpotIs modC at hck hck2;rw [hch] at hck2;have hse:=spotT_eq (chkM bound L).1 (chkM bound L).2;have HU2:=Lib.hid (And.intro hu2 hop2);generalize (cntN L n:Nat)=cnt at *;generalize (chkM bound L).1=s1 at *;generalize (chkM bound L).2=s2 at *;clear hch hi hlen hargs hu2 hop2;go_wp2_with fail;refine hrn.mono ?_;rintro e w3 ⟨A3,c3,l3,rfl,hL3,hM3,hb3,hnc3,hcap3⟩;have hB3:=below_cut hB2 hb3 (Nat.le_refl _);have hT3:ModT w3 A3 n c3 l3 (L.map (renI (toF L))):=⟨hM3,hL3,hnc3,hcap3,HU2.out.1,HU2.out.2,hP.step hB3⟩;have kN:=(Blk.new w3 25 #[.int .u32 gen,.int .u32 (cnt:Nat),.slice A3 n c3]).alloc (.cells #[.int .i64 0,.int .i64 0] 28);have kS:=Blk.new (w3.alloc (.cells #[.int .u32 gen,.int .u32 (cnt:Nat),.slice A3 n c3] 25)) 28 #[.int .i64 0,.int .i64 0];rw [World.size_alloc] at kS;have hbn:=((Below.refl w3.heap.size w3).alloc (Nat.le_refl _) (.cells #[.int .u32 gen,.int .u32 (cnt:Nat),.slice A3 n c3] 25)).alloc (by simp) (.cells #[.int .i64 0,.int .i64 0] 28)
  have k3:=(k2.step hb3).step hbn;have hT4:=hT3.step hbn;have hB4:=below_cut hB3 hbn (Nat.le_refl _);obtain ⟨s0,s1'⟩:=two_ kS;obtain ⟨z0,z1,z2⟩:=three_ k3;obtain ⟨y0,y1,y2⟩:=three_ kN;clear hrn hT3 k2 hM3 hL3 hbn;go_wp2_with fail;generalize ((w3.alloc (.cells #[.int .u32 gen,.int .u32 (cnt:Nat),.slice A3 n c3] 25)).alloc (.cells #[.int .i64 0,.int .i64 0] 28))=W4 at *;have hX:Cx W4 [(⟨w.heap.size,0,none⟩,.int .u32 gen),(⟨w.heap.size,1,none⟩,.int .u32 bound),(⟨w.heap.size,2,none⟩,.slice A n c),(⟨w3.heap.size,0,none⟩,.int .u32 gen),(⟨w3.heap.size,1,none⟩,.int .u32 (cnt:Nat)),(⟨w3.heap.size,2,none⟩,.slice A3 n c3)] W4:=⟨⟨z0,z1,z2,y0,y1,y2,trivial⟩,Below.refl _ _⟩;have c1:=fun (w':World) (hb:Below W4.heap.size W4 w')=>hck2 w' A3 c3 l3 (hT4.step hb)
  have c3':=fun (w':World) (hb:Below W4.heap.size W4 w')=>hcp w' (below_cut hB4 hb (Nat.le_refl _))
  have c7:=fun (w':World) (hb:Below W4.heap.size W4 w')=>awake18_any w' (hP.step (below_cut hB4 hb (Nat.le_refl _)))
  have HB4:=Lib.hid hB4;clear z0 z1 z2 y0 y1 y2 s0 s1' hck2 hcp hT4 k3 kN kS hB4;refine wp_region_held_drew (S:=Cx W4 _) (by kernel_rfl) hX.drew_ (fun hHeld=>?_)
  refine wpAnyH_take (i:=0) (oi:=_) (v:=?_) rfl (by kernel_rfl) (by kernel_rfl) (by kernel_rfl) (fun _ _ _ h=>h) (Or.inl ⟨by rfl,?_⟩) hHeld ?_
  rotate_left
  ·intro w' hSw;have hc:=hSw.1;simp only [cellsAt] at hc;go_simp
   try with_reducible rfl
  (try simp only [Act.put,List.setIfInBounds_toArray,List.set_cons_zero,List.set_cons_succ,List.getElem_toArray,List.getElem_cons_zero])
  refine wpAnyH_take (i:=2) (oi:=_) (v:=?_) rfl (by kernel_rfl) (by kernel_rfl) (by kernel_rfl) (fun _ _ _ h=>h) (Or.inl ⟨by rfl,?_⟩) hHeld ?_
  rotate_left
  ·intro w' hSw;have hc:=hSw.1;simp only [cellsAt] at hc;go_simp
   try with_reducible rfl
  (try simp only [Act.put,List.setIfInBounds_toArray,List.set_cons_zero,List.set_cons_succ,List.getElem_toArray,List.getElem_cons_succ,List.getElem_cons_zero])
  refine wpAnyH_ready (rs:=[1]) (by kernel_rfl) (by simp) ?_
  refine AllReadyH.cons (o:=_) rfl (fun K hK=>?_) AllReadyH.nil
  go_simp
  go_at_call 7
  refine (c1 _ hHeld.2).mono ?_;rintro e W11 ⟨rfl,hb9⟩
  (try go_wp2_with fail)
  have hHeld2:=hHeld.call hb9;refine hK.out _ _ hHeld2 (fun hHeld=>?_)
  clear hK K hHeld2
  (try simp only [Act.put,List.setIfInBounds_toArray,List.set_cons_zero,List.set_cons_succ,List.getElem_toArray,List.getElem_cons_succ,List.getElem_cons_zero])
  refine wpAnyH_ready (rs:=[3]) (by kernel_rfl) (by simp) ?_
  refine AllReadyH.cons (o:=_) rfl (fun K hK=>?_) AllReadyH.nil
  go_simp
  go_at_call 8
  refine (c3' _ hHeld.2).mono ?_;rintro e W13 ⟨g5,l5,rfl,hT5,-,hb9⟩
  (try go_wp2_with fail)
  have hHeld2:=hHeld.call hb9;refine hK.out _ _ hHeld2 (fun hHeld=>?_)
  clear hK K hHeld2
  (try simp only [Act.put,List.setIfInBounds_toArray,List.set_cons_zero,List.set_cons_succ,List.getElem_toArray,List.getElem_cons_succ,List.getElem_cons_zero])
  refine wpAnyH_ready (rs:=[4]) (by kernel_rfl) (by simp) ?_
  refine AllReadyH.cons (o:=_) rfl (fun K hK=>?_) AllReadyH.nil
  go_simp
  go_at_call 7
  refine (hck _ g5 l5 hT5).mono ?_;rintro e W14 ⟨rfl,hb9⟩
  (try go_wp2_with fail)
  have hHeld2:=hHeld.call hb9;refine hK.out _ _ hHeld2 (fun hHeld=>?_)
  clear hK K hHeld2
  (try simp only [Act.put,List.setIfInBounds_toArray,List.set_cons_zero,List.set_cons_succ,List.getElem_toArray,List.getElem_cons_succ,List.getElem_cons_zero])
  refine wpAnyH_take (i:=5) (oi:=_) (v:=?_) rfl (by kernel_rfl) (by kernel_rfl) (by kernel_rfl) (fun _ _ _ h=>h) (Or.inl ⟨by rfl,?_⟩) hHeld ?_
  rotate_left
  ·intro w' hSw;have hc:=hSw.1;simp only [cellsAt] at hc;go_simp
   try with_reducible rfl
  (try simp only [Act.put,List.setIfInBounds_toArray,List.set_cons_zero,List.set_cons_succ,List.getElem_toArray,List.getElem_cons_succ,List.getElem_cons_zero])
  refine wpAnyH_take (i:=6) (oi:=_) (v:=?_) rfl (by kernel_rfl) (by kernel_rfl) (by kernel_rfl) (fun _ _ _ h=>h) (Or.inl ⟨by rfl,?_⟩) hHeld ?_
  rotate_left
  ·intro w' hSw;have hc:=hSw.1;simp only [cellsAt] at hc;go_simp
   try with_reducible rfl
  (try simp only [Act.put,List.setIfInBounds_toArray,List.set_cons_zero,List.set_cons_succ,List.getElem_toArray,List.getElem_cons_succ,List.getElem_cons_zero])
  refine wpAnyH_ready (rs:=[7]) (by kernel_rfl) (by simp) ?_
  refine AllReadyH.cons (o:=_) rfl (fun K hK=>?_) AllReadyH.nil
  go_simp
  go_at_call 10
  refine (c7 _ hHeld.2).mono ?_;rintro e W17 ⟨rfl,hb9⟩
  (try go_wp2_with fail)
  have hHeld2:=hHeld.call hb9;refine hK.out _ _ hHeld2 (fun hHeld=>?_)
  clear hK K hHeld2
  (try simp only [Act.put,List.setIfInBounds_toArray,List.set_cons_zero,List.set_cons_succ,List.getElem_toArray,List.getElem_cons_succ,List.getElem_cons_zero])
  refine wpAnyH_take (i:=8) (oi:=_) (v:=?_) rfl (by kernel_rfl) (by kernel_rfl) (by kernel_rfl) (fun _ _ _ h=>h) (Or.inl ⟨by rfl,?_⟩) hHeld ?_
  rotate_left
  ·intro w' hSw;have hc:=hSw.1;simp only [cellsAt] at hc;go_simp
   try with_reducible rfl
  (try simp only [Act.put,List.setIfInBounds_toArray,List.set_cons_zero,List.set_cons_succ,List.getElem_toArray,List.getElem_cons_succ,List.getElem_cons_zero])
  refine wpAnyH_take (i:=9) (oi:=_) (v:=?_) rfl (by kernel_rfl) (by kernel_rfl) (by kernel_rfl) (fun _ _ _ h=>h) (Or.inl ⟨by rfl,?_⟩) hHeld ?_
  rotate_left
  ·intro w' hSw;have hc:=hSw.1;simp only [cellsAt] at hc;go_simp
   try with_reducible rfl
  (try simp only [Act.put,List.setIfInBounds_toArray,List.set_cons_zero,List.set_cons_succ,List.getElem_toArray,List.getElem_cons_succ,List.getElem_cons_zero])
  refine wpAnyH_done (by kernel_rfl) ?_ _
  have HB:=Lib.hid hHeld.2;clear hHeld hX;go_wp2_with fail;go_ret
  exact ⟨rfl,below_cut HB4.out HB.out (Nat.le_refl _)⟩
 ·have hbad:=renumber_bad gen bound (some ⟨g2,0,none⟩) n n l2 w2 hT2.mod (by rw [hT2.map];exact hi)
  unfold modC at hbad;clear hi hcp;go_wp2_with fail;refine hbad.mono ?_;rintro e w3 ⟨⟨a,b,ha,rfl⟩,hb3⟩;have hB3:=below_cut hB2 hb3 (Nat.le_refl _);have d1:(a != 0)=true:=by simpa using ha
  have kN:=(Blk.new w3 25 #[.int .u32 0,.int .u32 0,.slice none 0 0]).alloc (.cells #[.int .i64 a,.int .i64 b] 28);have kS:=Blk.new (w3.alloc (.cells #[.int .u32 0,.int .u32 0,.slice none 0 0] 25)) 28 #[.int .i64 a,.int .i64 b];rw [World.size_alloc] at kS;have hbn:=((Below.refl w3.heap.size w3).alloc (Nat.le_refl _) (.cells #[.int .u32 0,.int .u32 0,.slice none 0 0] 25)).alloc (by simp) (.cells #[.int .i64 a,.int .i64 b] 28)
  have hB4:=below_cut hB3 hbn (Nat.le_refl _);obtain ⟨s0,s1⟩:=two_ kS;obtain ⟨y0,y1,y2⟩:=three_ kN;clear hbad ha;go_wp2_with fail;refine (kitNone_any _).mono ?_;rintro e w5 ⟨rfl,hb5⟩;have hB5:=below_cut hB4 hb5 (Nat.le_refl _);go_wp2_with fail;refine (awake18_any _ (hP.step hB5)).mono ?_;rintro e w9 ⟨rfl,hb9⟩;go_wp2_with fail;go_ret
  exact ⟨rfl,below_cut hB5 hb9 (Nat.le_refl _)⟩
end Go.Proofs.YtdebjkiilnhgpaaGreatDoor
