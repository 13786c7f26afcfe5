/- Walks: ids.Check. -/
import Derived.Test.YtdebjkiilnhgpaaGreatDoorCTL
import Derived.Test.YtdebjkiilnhgpaaGreatDoorCTK
set_option maxRecDepth 100000
set_option maxHeartbeats 4000000
namespace Go.Proofs.YtdebjkiilnhgpaaGreatDoor
section
open Go.RowKit
theorem zero_int (w:World):(zeroValue 3).run Tryz.prog w=.ok (.int .i64 0) w:=by kernel_rfl
theorem size_setCells (b:Nat):∀ (vs:List Value) (o:Nat) (w:World),(w.setCells b o vs).heap.size=w.heap.size
 | [],_,_=>rfl
 | v :: r,o,w=>by rw [World.setCells,size_setCells b r];simp [World.setCell]
theorem madeD_zero (l:List InstI) (id:Int):madeD l 0 id=(madeR l 0 id).map fun m=>.int .i64 ((m:Nat):Int):=rfl
theorem check_bad (gen bound:Int) (ls:List InstA) (A:Option Addr) (n c:Nat) (w:World) (hM:ModS w w.heap.size A n ls) (h0:(layM bound (ls.map (·.1))).1≠0) :
  Calls Tryz.prog 27 #[.agg (modC gen bound A n c)] w fun e w'=>e=.returned (.agg #[.int .i64 (idsM bound (ls.map (·.1))).1,.int .i64 (idsM bound (ls.map (·.1))).2])∧Below w.heap.size w w':=by
 have hlen:=hM.length;have hil:=hM.reads.insts_len;have hn:=hM.len;unfold modC;have hb0:=((Below.refl w.heap.size w).alloc (Nat.le_refl _) (.cells #[.int .u32 gen,.int .u32 bound,.slice A n c] 25)).alloc (by simp) (.cells #[.int .i64 0,.int .i64 0] 28)
 have k1:=(Blk.new w 25 #[.int .u32 gen,.int .u32 bound,.slice A n c]).alloc (.cells #[.int .i64 0,.int .i64 0] 28);have k3:=Blk.new (w.alloc (.cells #[.int .u32 gen,.int .u32 bound,.slice A n c] 25)) 28 #[.int .i64 0,.int .i64 0];rw [World.size_alloc] at k3;have hparts:=parts_any gen bound ls A n c _ (hM.step hb0);unfold modC PartsIs at hparts;obtain ⟨v,hv⟩:∃ v,v=idsM bound (ls.map (·.1)):=⟨_,rfl⟩;rw [← hv];unfold idsM at hv;generalize layM bound (ls.map (·.1))=lv at *;obtain ⟨l1,l2⟩:=lv;dsimp only at *;have sz0:((w.alloc (.cells #[.int .u32 gen,.int .u32 bound,.slice A n c] 25)).alloc (.cells #[.int .i64 0,.int .i64 0] 28)).heap.size=w.heap.size+2:=by simp
 have HV:=Lib.hid hv;clear hv;obtain ⟨Z,hZ,hzz⟩:∃ Z:Array Value,Z.size=20∧∀ w,(zeroValue 66).run Tryz.prog w=.ok (.agg Z) w:=⟨#[.int .i64 0,.int .i64 0,.int .i64 0,.int .i64 0,.int .i64 0,.int .i64 0,.int .i64 0,.int .i64 0,.int .i64 0,.int .i64 0,.int .i64 0,.int .i64 0,.int .i64 0,.int .i64 0,.int .i64 0,.int .i64 0,.int .i64 0,.int .i64 0,.int .i64 0,.int .i64 0],rfl,fun w=>by kernel_rfl⟩
 go_enter Tryz.func27,Tryz.ntmps27;go_wp2_with fail;go_step3
 go_wp2_with fail;refine hparts.mono ?_;rintro e w2 ⟨hb2,f,he,hf⟩;have HF:=Lib.hid hf;have hb3:=below_cut hb0 hb2 (Nat.le_refl _);have sz2:=hb2.size;rw [sz0] at sz2;obtain ⟨cs,hcs⟩:∃ cs,cs=(psA f).toList:=⟨_,rfl⟩;have hpa:psA f=cs.toArray:=by rw [hcs]
 rw [hpa] at he;subst he;have hlc:cs.length=20:=by rw [hcs];rfl
 have honec:cs.toArray.all (·.oneCell')=true:=all_oneCell_toArray (by rw [hcs];exact psA_one f)
 have hc14:cs[14]?=some (.int .i64 (f 14)):=by rw [hcs];rfl
 have hc15:cs[15]?=some (.int .i64 (f 15)):=by rw [hcs];rfl
 have k13:=((k1.step hb2).alloc (.cells Z 66)).alloc (.cells #[.int .i64 0,.int .i64 0] 28);have k33:=((k3.step hb2).alloc (.cells Z 66)).alloc (.cells #[.int .i64 0,.int .i64 0] 28);have kz:=(Blk.new w2 66 Z).alloc (.cells #[.int .i64 0,.int .i64 0] 28);have kS:=Blk.new (w2.alloc (.cells Z 66)) 28 #[.int .i64 0,.int .i64 0];rw [World.size_alloc] at kS;have hbA:=(hb3.alloc hb3.size (.cells Z 66)).alloc (by simp;omega) (.cells #[.int .i64 0,.int .i64 0] 28)
 have hwA:((w2.alloc (.cells Z 66)).alloc (.cells #[.int .i64 0,.int .i64 0] 28)).heap.size=w2.heap.size+1+1:=by simp
 have ht:((w2.alloc (.cells Z 66)).alloc (.cells #[.int .i64 0,.int .i64 0] 28)).there w2.heap.size 0 cs.toArray.size:=by
  rw [show cs.toArray.size=20 from by rw [List.size_toArray];exact hlc]
  rw [← hZ];exact blk_there kz
 have hi:(Tryz.prog.info? 66).map (·.size)=some cs.toArray.size:=by rw [List.size_toArray,hlc];exact info134
 have k14:Blk (((((w2.alloc (.cells Z 66)).alloc (.cells #[.int .i64 0,.int .i64 0] 28)).setCells w2.heap.size 0 cs).setCell ⟨w2.heap.size+1,0,none⟩ (.int .i64 l1)).setCell ⟨w2.heap.size+1,1,none⟩ (.int .i64 l2)) w.heap.size 25 #[.int .u32 gen,.int .u32 bound,.slice A n c] :=
  (show Blk (((w2.alloc (.cells Z 66)).alloc (.cells #[.int .i64 0,.int .i64 0] 28)).setCells w2.heap.size 0 cs) w.heap.size _ _ from (heap_setCells _ _ (by omega) cs 0 _).trans k13).far (p:=⟨w2.heap.size+1,0,none⟩) (by simp;omega) _ |>.far (p:=⟨w2.heap.size+1,1,none⟩) (by simp;omega) _
 have k34:Blk (((((w2.alloc (.cells Z 66)).alloc (.cells #[.int .i64 0,.int .i64 0] 28)).setCells w2.heap.size 0 cs).setCell ⟨w2.heap.size+1,0,none⟩ (.int .i64 l1)).setCell ⟨w2.heap.size+1,1,none⟩ (.int .i64 l2)) (w.heap.size+1) 28 #[.int .i64 0,.int .i64 0] :=
  (show Blk (((w2.alloc (.cells Z 66)).alloc (.cells #[.int .i64 0,.int .i64 0] 28)).setCells w2.heap.size 0 cs) (w.heap.size+1) _ _ from (heap_setCells _ _ (by omega) cs 0 _).trans k33).far (p:=⟨w2.heap.size+1,0,none⟩) (by simp;omega) _ |>.far (p:=⟨w2.heap.size+1,1,none⟩) (by simp;omega) _
 have kS3:Blk (((w2.alloc (.cells Z 66)).alloc (.cells #[.int .i64 0,.int .i64 0] 28)).setCells w2.heap.size 0 cs) (w2.heap.size+1) 28 #[.int .i64 0,.int .i64 0]:=(heap_setCells _ _ (by omega) cs 0 _).trans kS
 have k64:=spot_put kS3 (.int .i64 l1) (.int .i64 l2);obtain ⟨v0,v1⟩:=two_ kS3;have vf:=kS3.frozen;have hr3:=World.rangeAt_setCells_same ((w2.alloc (.cells Z 66)).alloc (.cells #[.int .i64 0,.int .i64 0] 28)) w2.heap.size 0 cs (by rw [hlc,← hZ];exact blk_there kz)
 have hr4:(((((w2.alloc (.cells Z 66)).alloc (.cells #[.int .i64 0,.int .i64 0] 28)).setCells w2.heap.size 0 cs).setCell ⟨w2.heap.size+1,0,none⟩ (.int .i64 l1)).setCell ⟨w2.heap.size+1,1,none⟩ (.int .i64 l2)).rangeAt w2.heap.size 0 cs:=fun j u hu=>(World.cell?_of_block ((Below.heap_setCell _ _ _ _ (show w2.heap.size≠w2.heap.size+1 by omega)).trans (Below.heap_setCell _ _ _ _ (show w2.heap.size≠w2.heap.size+1 by omega)))).trans (hr3 j u hu)
 have hb4:Below w.heap.size w (((((w2.alloc (.cells Z 66)).alloc (.cells #[.int .i64 0,.int .i64 0] 28)).setCells w2.heap.size 0 cs).setCell ⟨w2.heap.size+1,0,none⟩ (.int .i64 l1)).setCell ⟨w2.heap.size+1,1,none⟩ (.int .i64 l2)):=((below_setCells (b:=w2.heap.size) (by omega) cs 0 _ hbA).setCell (p:=⟨w2.heap.size+1,0,none⟩) (show w.heap.size≤w2.heap.size+1 by omega) _).setCell (p:=⟨w2.heap.size+1,1,none⟩) (show w.heap.size≤w2.heap.size+1 by omega) _
 have hw4:(((((w2.alloc (.cells Z 66)).alloc (.cells #[.int .i64 0,.int .i64 0] 28)).setCells w2.heap.size 0 cs).setCell ⟨w2.heap.size+1,0,none⟩ (.int .i64 l1)).setCell ⟨w2.heap.size+1,1,none⟩ (.int .i64 l2)).heap.size=w2.heap.size+1+1:=by
  have e:=size_setCells w2.heap.size cs 0 ((w2.alloc (.cells Z 66)).alloc (.cells #[.int .i64 0,.int .i64 0] 28));rw [hwA] at e;simp only [World.setCell,Array.size_modify];exact e
 have hM4:=hM.step hb4;have hmk:=makers_any ls A n c _ hM4;rw [hw4] at hmk;clear hparts k1 k3 hb0 hb2 sz0 hf hcs hpa kz hb3 k13 k33 kS kS3 hr3 hbA hwA;have d0:(l1 != 0)=true:=by simpa using h0
 have hv1:=HV.out;rw [if_pos h0] at hv1;have HV1:=Lib.hid hv1;obtain ⟨x0,x1⟩:=two_ k64;obtain ⟨z0,z1⟩:=two_ k34;have fz:=k34.frozen;have k5:=spot_put k34 (.int .i64 l1) (.int .i64 l2);have hb5:=(hb4.setCell (p:=⟨w.heap.size+1,0,none⟩) (show w.heap.size≤w.heap.size+1 by omega) (.int .i64 l1)).setCell (p:=⟨w.heap.size+1,1,none⟩) (show w.heap.size≤w.heap.size+1 by omega) (.int .i64 l2)
 clear h0 hv1 HV HF k64 hmk hM4 k14 hw4;go_wp2_with (refine wpList_store_mid rfl _ _ _ rfl _ _ cs.toArray rfl rfl ht hi honec ?_)
 clear x0 x1 z0 z1 fz ht hi honec v0 v1 vf;generalize (((((((w2.alloc (.cells Z 66)).alloc (.cells #[.int .i64 0,.int .i64 0] 28)).setCells w2.heap.size 0 cs).setCell ⟨w2.heap.size+1,0,none⟩ (.int .i64 l1)).setCell ⟨w2.heap.size+1,1,none⟩ (.int .i64 l2)).setCell ⟨w.heap.size+1,0,none⟩ (.int .i64 l1)).setCell ⟨w.heap.size+1,1,none⟩ (.int .i64 l2))=w9 at *;obtain ⟨z0,z1⟩:=two_ k5;rw [Exit.noGoto_ret];exact bodyPost_ret (v:=.agg #[.int .i64 l1,.int .i64 l2]) (by simp [results,Tryz.results27,go_sem,z0,z1]) rfl ⟨by rw [HV1.out],hb5⟩
end
section
open Go.RowKit
theorem check_ok (gen bound:Int) (ls:List InstA) (A:Option Addr) (n c:Nat) (w:World) (hM:ModS w w.heap.size A n ls) (h0:(layM bound (ls.map (·.1))).1=0) :
  Calls Tryz.prog 27 #[.agg (modC gen bound A n c)] w fun e w'=>e=.returned (.agg #[.int .i64 (idsM bound (ls.map (·.1))).1,.int .i64 (idsM bound (ls.map (·.1))).2])∧Below w.heap.size w w':=by
 have hlen:=hM.length;have hil:=hM.reads.insts_len;have hn:=hM.len;unfold modC;have hb0:=((Below.refl w.heap.size w).alloc (Nat.le_refl _) (.cells #[.int .u32 gen,.int .u32 bound,.slice A n c] 25)).alloc (by simp) (.cells #[.int .i64 0,.int .i64 0] 28)
 have k1:=(Blk.new w 25 #[.int .u32 gen,.int .u32 bound,.slice A n c]).alloc (.cells #[.int .i64 0,.int .i64 0] 28);have k3:=Blk.new (w.alloc (.cells #[.int .u32 gen,.int .u32 bound,.slice A n c] 25)) 28 #[.int .i64 0,.int .i64 0];rw [World.size_alloc] at k3;have hparts:=parts_any gen bound ls A n c _ (hM.step hb0);unfold modC PartsIs at hparts;obtain ⟨v,hv⟩:∃ v,v=idsM bound (ls.map (·.1)):=⟨_,rfl⟩;rw [← hv];unfold idsM at hv;generalize layM bound (ls.map (·.1))=lv at *;obtain ⟨l1,l2⟩:=lv;dsimp only at *;have sz0:((w.alloc (.cells #[.int .u32 gen,.int .u32 bound,.slice A n c] 25)).alloc (.cells #[.int .i64 0,.int .i64 0] 28)).heap.size=w.heap.size+2:=by simp
 have HV:=Lib.hid hv;clear hv;obtain ⟨Z,hZ,hzz⟩:∃ Z:Array Value,Z.size=20∧∀ w,(zeroValue 66).run Tryz.prog w=.ok (.agg Z) w:=⟨#[.int .i64 0,.int .i64 0,.int .i64 0,.int .i64 0,.int .i64 0,.int .i64 0,.int .i64 0,.int .i64 0,.int .i64 0,.int .i64 0,.int .i64 0,.int .i64 0,.int .i64 0,.int .i64 0,.int .i64 0,.int .i64 0,.int .i64 0,.int .i64 0,.int .i64 0,.int .i64 0],rfl,fun w=>by kernel_rfl⟩
 go_enter Tryz.func27,Tryz.ntmps27;go_wp2_with fail;go_step3
 go_wp2_with fail;refine hparts.mono ?_;rintro e w2 ⟨hb2,f,he,hf⟩;have HF:=Lib.hid hf;have hb3:=below_cut hb0 hb2 (Nat.le_refl _);have sz2:=hb2.size;rw [sz0] at sz2;obtain ⟨cs,hcs⟩:∃ cs,cs=(psA f).toList:=⟨_,rfl⟩;have hpa:psA f=cs.toArray:=by rw [hcs]
 rw [hpa] at he;subst he;have hlc:cs.length=20:=by rw [hcs];rfl
 have honec:cs.toArray.all (·.oneCell')=true:=all_oneCell_toArray (by rw [hcs];exact psA_one f)
 have hc14:cs[14]?=some (.int .i64 (f 14)):=by rw [hcs];rfl
 have hc15:cs[15]?=some (.int .i64 (f 15)):=by rw [hcs];rfl
 have k13:=((k1.step hb2).alloc (.cells Z 66)).alloc (.cells #[.int .i64 0,.int .i64 0] 28);have k33:=((k3.step hb2).alloc (.cells Z 66)).alloc (.cells #[.int .i64 0,.int .i64 0] 28);have kz:=(Blk.new w2 66 Z).alloc (.cells #[.int .i64 0,.int .i64 0] 28);have kS:=Blk.new (w2.alloc (.cells Z 66)) 28 #[.int .i64 0,.int .i64 0];rw [World.size_alloc] at kS;have hbA:=(hb3.alloc hb3.size (.cells Z 66)).alloc (by simp;omega) (.cells #[.int .i64 0,.int .i64 0] 28)
 have hwA:((w2.alloc (.cells Z 66)).alloc (.cells #[.int .i64 0,.int .i64 0] 28)).heap.size=w2.heap.size+1+1:=by simp
 have ht:((w2.alloc (.cells Z 66)).alloc (.cells #[.int .i64 0,.int .i64 0] 28)).there w2.heap.size 0 cs.toArray.size:=by
  rw [show cs.toArray.size=20 from by rw [List.size_toArray];exact hlc]
  rw [← hZ];exact blk_there kz
 have hi:(Tryz.prog.info? 66).map (·.size)=some cs.toArray.size:=by rw [List.size_toArray,hlc];exact info134
 have k14:Blk (((((w2.alloc (.cells Z 66)).alloc (.cells #[.int .i64 0,.int .i64 0] 28)).setCells w2.heap.size 0 cs).setCell ⟨w2.heap.size+1,0,none⟩ (.int .i64 l1)).setCell ⟨w2.heap.size+1,1,none⟩ (.int .i64 l2)) w.heap.size 25 #[.int .u32 gen,.int .u32 bound,.slice A n c] :=
  (show Blk (((w2.alloc (.cells Z 66)).alloc (.cells #[.int .i64 0,.int .i64 0] 28)).setCells w2.heap.size 0 cs) w.heap.size _ _ from (heap_setCells _ _ (by omega) cs 0 _).trans k13).far (p:=⟨w2.heap.size+1,0,none⟩) (by simp;omega) _ |>.far (p:=⟨w2.heap.size+1,1,none⟩) (by simp;omega) _
 have k34:Blk (((((w2.alloc (.cells Z 66)).alloc (.cells #[.int .i64 0,.int .i64 0] 28)).setCells w2.heap.size 0 cs).setCell ⟨w2.heap.size+1,0,none⟩ (.int .i64 l1)).setCell ⟨w2.heap.size+1,1,none⟩ (.int .i64 l2)) (w.heap.size+1) 28 #[.int .i64 0,.int .i64 0] :=
  (show Blk (((w2.alloc (.cells Z 66)).alloc (.cells #[.int .i64 0,.int .i64 0] 28)).setCells w2.heap.size 0 cs) (w.heap.size+1) _ _ from (heap_setCells _ _ (by omega) cs 0 _).trans k33).far (p:=⟨w2.heap.size+1,0,none⟩) (by simp;omega) _ |>.far (p:=⟨w2.heap.size+1,1,none⟩) (by simp;omega) _
 have kS3:Blk (((w2.alloc (.cells Z 66)).alloc (.cells #[.int .i64 0,.int .i64 0] 28)).setCells w2.heap.size 0 cs) (w2.heap.size+1) 28 #[.int .i64 0,.int .i64 0]:=(heap_setCells _ _ (by omega) cs 0 _).trans kS
 have k64:=spot_put kS3 (.int .i64 l1) (.int .i64 l2);obtain ⟨v0,v1⟩:=two_ kS3;have vf:=kS3.frozen;have hr3:=World.rangeAt_setCells_same ((w2.alloc (.cells Z 66)).alloc (.cells #[.int .i64 0,.int .i64 0] 28)) w2.heap.size 0 cs (by rw [hlc,← hZ];exact blk_there kz)
 have hr4:(((((w2.alloc (.cells Z 66)).alloc (.cells #[.int .i64 0,.int .i64 0] 28)).setCells w2.heap.size 0 cs).setCell ⟨w2.heap.size+1,0,none⟩ (.int .i64 l1)).setCell ⟨w2.heap.size+1,1,none⟩ (.int .i64 l2)).rangeAt w2.heap.size 0 cs:=fun j u hu=>(World.cell?_of_block ((Below.heap_setCell _ _ _ _ (show w2.heap.size≠w2.heap.size+1 by omega)).trans (Below.heap_setCell _ _ _ _ (show w2.heap.size≠w2.heap.size+1 by omega)))).trans (hr3 j u hu)
 have hb4:Below w.heap.size w (((((w2.alloc (.cells Z 66)).alloc (.cells #[.int .i64 0,.int .i64 0] 28)).setCells w2.heap.size 0 cs).setCell ⟨w2.heap.size+1,0,none⟩ (.int .i64 l1)).setCell ⟨w2.heap.size+1,1,none⟩ (.int .i64 l2)):=((below_setCells (b:=w2.heap.size) (by omega) cs 0 _ hbA).setCell (p:=⟨w2.heap.size+1,0,none⟩) (show w.heap.size≤w2.heap.size+1 by omega) _).setCell (p:=⟨w2.heap.size+1,1,none⟩) (show w.heap.size≤w2.heap.size+1 by omega) _
 have hw4:(((((w2.alloc (.cells Z 66)).alloc (.cells #[.int .i64 0,.int .i64 0] 28)).setCells w2.heap.size 0 cs).setCell ⟨w2.heap.size+1,0,none⟩ (.int .i64 l1)).setCell ⟨w2.heap.size+1,1,none⟩ (.int .i64 l2)).heap.size=w2.heap.size+1+1:=by
  have e:=size_setCells w2.heap.size cs 0 ((w2.alloc (.cells Z 66)).alloc (.cells #[.int .i64 0,.int .i64 0] 28));rw [hwA] at e;simp only [World.setCell,Array.size_modify];exact e
 have hM4:=hM.step hb4;have hmk:=makers_any ls A n c _ hM4;rw [hw4] at hmk;clear hparts k1 k3 hb0 hb2 sz0 hf hcs hpa kz hb3 k13 k33 kS kS3 hr3 hbA hwA;have d0:(l1 != 0)=false:=by rw [h0];rfl
 have hv1:=HV.out;rw [if_neg (fun hh=>hh h0)] at hv1
 have HV1:=Lib.hid hv1;have HF1:=Lib.hid (HF.out h0);have y2:=k14.cell 2;simp at y2;obtain ⟨x0,x1⟩:=two_ k64;clear h0 hv1 HV HF k64;go_wp2_with (refine wpList_store_mid rfl _ _ _ rfl _ _ cs.toArray rfl rfl ht hi honec ?_)
 clear ht hi honec v0 v1 vf x0 x1 y2;generalize (((((w2.alloc (.cells Z 66)).alloc (.cells #[.int .i64 0,.int .i64 0] 28)).setCells w2.heap.size 0 cs).setCell ⟨w2.heap.size+1,0,none⟩ (.int .i64 l1)).setCell ⟨w2.heap.size+1,1,none⟩ (.int .i64 l2))=w4 at *;refine hmk.mono ?_;rintro e w5 ⟨rfl,⟨cnt,hmp⟩,hb5⟩;have k15:=(k14.below hb5 (by omega)).alloc (.cells #[.int .i64 (f 14),.int .i64 (f 15)] 65)
 have k35:=(k34.below hb5 (by omega)).alloc (.cells #[.int .i64 (f 14),.int .i64 (f 15)] 65)
 have e14:=(hb5.cell (p:=⟨w2.heap.size,14,none⟩) (show w2.heap.size<w2.heap.size+1+1 by omega)).trans (hr4 14 _ hc14)
 have e15:=(hb5.cell (p:=⟨w2.heap.size,15,none⟩) (show w2.heap.size<w2.heap.size+1+1 by omega)).trans (hr4 15 _ hc15)
 have kg:=Blk.new w5 65 #[.int .i64 (f 14),.int .i64 (f 15)];have hb6:=hb4.trans (hb5.mono (by omega))
 have hb7:=hb6.alloc hb6.size (.cells #[.int .i64 (f 14),.int .i64 (f 15)] 65);have hmp7:=hmp.alloc (.cells #[.int .i64 (f 14),.int .i64 (f 15)] 65);have sz5:=hb5.size;rw [hw4] at sz5;have y2':=k15.cell 2;simp at y2';clear k14 k34 hb4 hb5 hb6 hmp hmk hM4 hw4;go_wp2_with fail;go_step3
 go_wp2_with fail;have kg7:Blk (w5.alloc (.cells #[.int .i64 (f 14),.int .i64 (f 15)] 65)) w5.heap.size 65 #[.int .i64 (f 14),.int .i64 (f 15)]:=kg;clear e14 e15 y2' kg hr4 hc14 hc15 hlc hZ hzz k15;generalize w5.alloc (.cells #[.int .i64 (f 14),.int .i64 (f 15)] 65)=w6 at *;generalize w5.heap.size=bg at *;generalize w2.heap.size+1+1=bm at *;have hv2:=HV1.out;rw [← HF1.out] at hv2;obtain ⟨made,hmade⟩:∃ made,made=madeR (ls.map (·.1)) 0:=⟨_,rfl⟩;rw [← hmade] at hv2;have HMD:=Lib.hid hmade;have HV2:Hid (v=idsR made f ((ls.map (·.1)).drop 0) 0):=hv2;clear hv2 hmade HV1 HF1;go_loopg [31] n (fun q i wr=>∃ k:Nat,k+q=n∧i=.int .i64 (k:Nat)∧Hid (v=idsR made f ((ls.map (·.1)).drop k) k)∧MapU wr bm cnt (madeD (ls.map (·.1)) 0)∧Blk wr bg 65 #[.int .i64 (f 14),.int .i64 (f 15)]∧Blk wr (w.heap.size+1) 28 #[.int .i64 0,.int .i64 0]∧Below w.heap.size w wr)
 case atStart=>exact ⟨0,by omega,rfl,HV2,hmp7,kg7,k35,hb7⟩
 case round =>
  obtain ⟨k,hq,rfl,HK,hmpr,kgr,kRr,hbr⟩:=hrel
  by_cases hlt:k<n
  ·have hM1:=hM.keep hbr;obtain ⟨b,off,rfl,hbb,hc⟩:=hM1.reads.insts (by omega)
   obtain ⟨c0,c1,c2,c3⟩:=hc k hlt;have hok:=(hM1.ok _ (ig_mem (l:=ls) (k:=k) (by omega))).more hbr.size
   have hilb:(idsOf (ig ls k).1).length≤6000000000001:=by
    have h1:=idsOf_len (ig ls k).1;have h2:=hok.reads.args_len;have h3:=hok.len;omega
   have hdrop:(ls.map (·.1)).drop k=(ig ls k).1 :: (ls.map (·.1)).drop (k+1):=by
    rw [List.drop_eq_getElem_cons (by omega),List.getElem_map,← ig_of (by omega)]
   have hat:(ig ls k).1.2.2.1≠0→∃ m,made (ig ls k).1.2.2.1=some m∧m≤k:=fun h0=>by
    have h1:=madeR_at (ls.map (·.1)) 0 k _ (ig_map (ls:=ls) (k:=k) (by omega)) h0
    rw [HMD.out,Nat.zero_add] at *;exact h1
   have hmdz:∀ id,madeD (ls.map (·.1)) 0 id=(made id).map fun m=>.int .i64 ((m:Nat):Int):=fun id=>by rw [HMD.out];exact madeD_zero _ id
   have hk1:=HK.out;rw [hdrop] at hk1;unfold idsR at hk1;have hids:=fun w' hd=>ids_any (ig ls k) w' (hok.step hd)
   clear hc hdrop HK hok;generalize ig ls k=x at *;obtain ⟨⟨op,ty,res,al⟩,Ax,nx_,cx⟩:=x;unfold instC at hids;dsimp only at *;have hbA:=(Below.refl wr.heap.size wr).alloc (Nat.le_refl _) (.cells #[.int .u16 op,.int .u32 ty,.int .u32 res,.slice Ax nx_ cx] 42);have hmp1:=hmpr.step hbA;have kg1:=kgr.step hbA;have kR1:=kRr.step hbA;have hb1:=below_cut hbr hbA (Nat.le_refl _);have hids1:=hids _ hbA;obtain ⟨z0,z1⟩:=two_ kR1;have fz:=kR1.frozen;have HK1:=Lib.hid hk1;have hkI:((k:Nat):Int)<(n:Nat):=by omega
   clear hk1 hids hmpr kgr kRr hbr hM1 hbA;obtain ⟨e1,he1⟩:∃ e1,e1=idE1 made f k (op,ty,res,al):=⟨_,rfl⟩;have HE:=Lib.hid he1;have hk2:=HK1.out;rw [← he1] at hk2;have HK2:=Lib.hid hk2;clear he1 hk2;have hgo:(res=0∨∃ m,res≠0∧made res=some m∧k≤m)∨∃ m,res≠0∧made res=some m∧m<k:=by
    by_cases h0:res=0
    ·exact .inl (.inl h0)
    ·obtain ⟨m,h1,h2⟩:=hat h0
     rcases Nat.lt_or_ge m k with h3 | h3
     ·exact .inr ⟨m,h0,h1,h3⟩
     ·exact .inl (.inr ⟨m,h0,h1,h3⟩)
   clear hat
   rcases hgo with hgo | ⟨m,hr0,hm,hmk⟩
   ·have he1:e1=if lostB made (idsOf (op,ty,res,al))=true then 91 else if aheadB made (idsOf (op,ty,res,al)) k=true∧f 14≤(k:Int)∧(k:Int)<f 15 then 92 else 0:=by
     rw [HE.out];unfold idE1;rw [if_neg];rintro ⟨h1,h2⟩
     rcases hgo with hgo | ⟨m,h3,h4,h5⟩
     ·exact h1 hgo
     ·rw [h4] at h2;simp at h2;omega
    generalize idsOf (op,ty,res,al)=il at *;have HE1:=Lib.hid he1;clear he1
    rcases hgo with hr0 | ⟨m,hr0,hm,hmk⟩
    case' inl =>
     have dr:(res != 0)=false:=by rw [hr0];rfl
     clear hr0;go_wp2_with fail
    case' inr =>
     have dr:(res != 0)=true:=by simpa using hr0
     have hlook:=MapU.look (P:=Tryz.prog) hmp1 Tryz.underlying118 Tryz.underlying22 (zero_int _) res false;rw [hmdz,hm] at hlook;simp only [Option.map_some,Option.getD_some,Bool.false_eq_true,if_false] at hlook;have dm:decide (((m:Nat):Int)<((k:Nat):Int))=false:=by rw [decide_eq_false_iff_not];omega
     have dm2:decide (m<k)=false:=by rw [decide_eq_false_iff_not];omega
     clear hr0 hm;go_wp2_with fail
    all_goals
     refine hids1.mono ?_;rintro e w3 ⟨A3,c3,rfl,ho3,hb3⟩;have hmp3:=hmp1.step hb3;have kg3:=kg1.step hb3;have kR3:=kR1.step hb3;have hb4:=below_cut hb1 hb3 (Nat.le_refl _);have hro:=Reads.of_own ho3;clear hids1 hmp1 kg1 kR1 hb1 hb3 ho3 z0 z1 fz;obtain ⟨z0,z1⟩:=two_ kR3;have fz:=kR3.frozen;have hlk:=fun id=>MapU.look (P:=Tryz.prog) hmp3 Tryz.underlying118 Tryz.underlying22 (zero_int _) id true
     have HLK:=Lib.hid hlk;clear hlk;have HMZ:=Lib.hid hmdz;clear hmdz;go_wp2_with fail;go_loopg [9,52] il.length (fun q2 ah i2 wr2=>∃ j:Nat,j+q2=il.length∧i2=.int .i64 (j:Nat)∧ah=.bool (aheadB made (il.take j) k)∧Hid (lostB made (il.take j)=false)∧wr2=w3)
     case atStart=>exact ⟨0,by omega,rfl,rfl,Lib.hid rfl,rfl⟩
     case round =>
      obtain ⟨j,hq2,rfl,rfl,HLo,hwr⟩:=hrel;subst hwr
      by_cases hj:j<il.length
      ·obtain ⟨b3,off3,rfl,-,hc3⟩:=hro.ints (by omega)
       have ci:=hc3 j hj;have hla:=lostB_take (made:=made) (l:=il) (j:=j) hj;have haa:=aheadB_take (made:=made) (l:=il) (j:=j) (k:=k) hj;have hlat:=lostB_at (made:=made) (l:=il) (j:=j) hj;have hl1:=HLK.out (ix il j);rw [HMZ.out] at hl1;clear hc3;have hjI:((j:Nat):Int)<(il.length:Nat):=by omega
       generalize ix il j=id at *;generalize aheadB made (il.take j) k=ab at *
       rcases hmi:made id with _ | m2
       ·rw [hmi] at hl1;simp only [Option.map_none,Option.getD_none,Option.isSome_none,if_true] at hl1;have he2:e1=91:=by rw [HE1.out,if_pos (hlat hmi)]
        have hv1:v=(91,(k:Int)):=by rw [HK2.out,he2];rfl
        have HV3:=Lib.hid hv1;clear he2 hv1 hmi hla haa hlat;have k5:=spot_put kR3 (.int .i64 91) (.int .i64 (k:Nat));have hb5:=(hb4.setCell (p:=⟨w.heap.size+1,0,none⟩) (show w.heap.size≤w.heap.size+1 by omega) (.int .i64 91)).setCell (p:=⟨w.heap.size+1,1,none⟩) (show w.heap.size≤w.heap.size+1 by omega) (.int .i64 (k:Nat))
        go_wp2_with fail;clear z0 z1 fz;generalize ((wr).setCell ⟨w.heap.size+1,0,none⟩ (.int .i64 91)).setCell ⟨w.heap.size+1,1,none⟩ (.int .i64 (k:Nat))=w9 at *;obtain ⟨z0,z1⟩:=two_ k5;rw [Exit.noGoto_ret];exact bodyPost_ret (v:=.agg #[.int .i64 91,.int .i64 (k:Nat)]) (by simp [results,Tryz.results27,go_sem,z0,z1]) rfl ⟨by rw [HV3.out],hb5⟩
       ·rw [hmi] at hl1 hla haa;simp only [Option.map_some,Option.getD_some,Option.isSome_some,if_true] at hl1;have hla2:lostB made (il.take (j+1))=false:=by rw [hla,HLo.out];rfl
        have HLo2:=Lib.hid hla2;have dm2:decide (((k:Nat):Int)≤((m2:Nat):Int))=decide (k≤m2):=by simp
        simp only [Option.getD_some] at haa;have HAA:=Lib.hid haa;clear hla hla2 haa hlat hmi
        rcases ab with _ | _
        ·go_wp2_with fail;go_roundg (il.length-(j+1))
         case measure=>omega
         case rel=>exact ⟨j+1,by omega,by go_num,by rw [HAA.out];simp,HLo2,rfl⟩
        ·go_wp2_with fail;go_roundg (il.length-(j+1))
         case measure=>omega
         case rel=>exact ⟨j+1,by omega,by go_num,by rw [HAA.out];simp,HLo2,rfl⟩
      ·obtain rfl:j=il.length:=by omega
       rw [List.take_length] at HLo;have hab:aheadB made (il.take il.length) k=aheadB made il k:=by rw [List.take_length]
       rw [hab];have he2:e1=if aheadB made il k=true∧f 14≤(k:Int)∧(k:Int)<f 15 then 92 else 0:=by
        rw [HE1.out,if_neg (by rw [HLo.out];decide)]
       have hcont:e1=0→v=idsR made f ((ls.map (·.1)).drop (k+1)) (k+1):=fun h0=>by rw [HK2.out,if_neg (fun hh=>hh h0)]
       have HC:=Lib.hid hcont;obtain ⟨g0,g1⟩:=two_ kg3;clear hab hcont;generalize aheadB made il k=ab at *
       rcases ab with _ | _
       ·have HV4:=Lib.hid (HC.out (by rw [he2,if_neg (by simp)]))
        clear he2 z0 z1 fz;go_wp2_with fail;go_roundg (n-(k+1))
        case measure=>omega
        case rel=>exact ⟨k+1,by omega,by go_num,HV4,hmp3,kg3,kR3,hb4⟩
       ·by_cases h14:(k:Int)<f 14
        ·have HV4:=Lib.hid (HC.out (by rw [he2,if_neg (by rintro ⟨-,h,-⟩;omega)]))
         have d14:decide (((k:Nat):Int)<f 14)=true:=by rw [decide_eq_true_eq];exact h14
         clear he2 h14 z0 z1 fz;go_wp2_with fail;go_roundg (n-(k+1))
         case measure=>omega
         case rel=>exact ⟨k+1,by omega,by go_num,HV4,hmp3,kg3,kR3,hb4⟩
        ·have d14:decide (((k:Nat):Int)<f 14)=false:=by rw [decide_eq_false_iff_not];exact h14
         by_cases h15:f 15≤(k:Int)
         ·have HV4:=Lib.hid (HC.out (by rw [he2,if_neg (by rintro ⟨-,-,h⟩;omega)]))
          have d15:decide (f 15≤((k:Nat):Int))=true:=by rw [decide_eq_true_eq];exact h15
          clear he2 h14 h15 z0 z1 fz;go_wp2_with fail;go_roundg (n-(k+1))
          case measure=>omega
          case rel=>exact ⟨k+1,by omega,by go_num,HV4,hmp3,kg3,kR3,hb4⟩
         ·have d15:decide (f 15≤((k:Nat):Int))=false:=by rw [decide_eq_false_iff_not];exact h15
          have he3:e1=92:=by rw [he2,if_pos ⟨rfl,by omega,by omega⟩]
          have hv1:v=(92,(k:Int)):=by rw [HK2.out,he3];rfl
          have HV3:=Lib.hid hv1;clear he2 he3 hv1 h14 h15;have k5:=spot_put kR3 (.int .i64 92) (.int .i64 (k:Nat));have hb5:=(hb4.setCell (p:=⟨w.heap.size+1,0,none⟩) (show w.heap.size≤w.heap.size+1 by omega) (.int .i64 92)).setCell (p:=⟨w.heap.size+1,1,none⟩) (show w.heap.size≤w.heap.size+1 by omega) (.int .i64 (k:Nat))
          go_wp2_with fail;clear z0 z1 fz;generalize ((wr).setCell ⟨w.heap.size+1,0,none⟩ (.int .i64 92)).setCell ⟨w.heap.size+1,1,none⟩ (.int .i64 (k:Nat))=w9 at *;obtain ⟨z0,z1⟩:=two_ k5;exact bodyPost_ret (v:=.agg #[.int .i64 92,.int .i64 (k:Nat)]) (by simp [results,Tryz.results27,go_sem,z0,z1]) rfl ⟨by rw [HV3.out],hb5⟩
   ·have he1:e1=90:=by
     rw [HE.out];unfold idE1;rw [if_pos ⟨hr0,by rw [hm];exact hmk⟩]
    have hv1:v=(90,(k:Int)):=by rw [HK1.out,← HE.out,he1];rfl
    have HV3:=Lib.hid hv1;have dr:(res != 0)=true:=by simpa using hr0
    have hlook:=MapU.look (P:=Tryz.prog) hmp1 Tryz.underlying118 Tryz.underlying22 (zero_int _) res false;rw [hmdz,hm] at hlook;simp only [Option.map_some,Option.getD_some,Bool.false_eq_true,if_false] at hlook;have dm:decide (((m:Nat):Int)<((k:Nat):Int))=true:=by rw [decide_eq_true_eq];omega
    have dm2:decide (m<k)=true:=by rw [decide_eq_true_eq];omega
    clear hr0 hm hv1 he1;have k5:=spot_put kR1 (.int .i64 90) (.int .i64 (k:Nat));have hb5:=(hb1.setCell (p:=⟨w.heap.size+1,0,none⟩) (show w.heap.size≤w.heap.size+1 by omega) (.int .i64 90)).setCell (p:=⟨w.heap.size+1,1,none⟩) (show w.heap.size≤w.heap.size+1 by omega) (.int .i64 (k:Nat))
    go_wp2_with fail;clear z0 z1 fz;generalize ((wr.alloc (.cells #[.int .u16 op,.int .u32 ty,.int .u32 res,.slice Ax nx_ cx] 42)).setCell ⟨w.heap.size+1,0,none⟩ (.int .i64 90)).setCell ⟨w.heap.size+1,1,none⟩ (.int .i64 (k:Nat))=w9 at *;obtain ⟨z0,z1⟩:=two_ k5;exact bodyPost_ret (v:=.agg #[.int .i64 90,.int .i64 (k:Nat)]) (by simp [results,Tryz.results27,go_sem,z0,z1]) rfl ⟨by rw [HV3.out],hb5⟩
  ·obtain rfl:gk=0:=by omega
   obtain rfl:k=n:=by omega
   have hv1:v=(0,0):=by
    rw [HK.out,List.drop_of_length_le (by omega)]
    rfl
   have HV3:=Lib.hid hv1;obtain ⟨z0,z1⟩:=two_ kRr;have fz:=kRr.frozen;have k5:=spot_put kRr (.int .i64 0) (.int .i64 0);have hb5:=(hbr.setCell (p:=⟨w.heap.size+1,0,none⟩) (show w.heap.size≤w.heap.size+1 by omega) (.int .i64 0)).setCell (p:=⟨w.heap.size+1,1,none⟩) (show w.heap.size≤w.heap.size+1 by omega) (.int .i64 0)
   clear hv1;go_wp2_with fail;clear z0 z1 fz;generalize (wr.setCell ⟨w.heap.size+1,0,none⟩ (.int .i64 0)).setCell ⟨w.heap.size+1,1,none⟩ (.int .i64 0)=w9 at *;obtain ⟨z0,z1⟩:=two_ k5;exact bodyPost_ret (v:=.agg #[.int .i64 0,.int .i64 0]) (by simp [results,Tryz.results27,go_sem,z0,z1]) rfl ⟨by rw [HV3.out],hb5⟩
theorem check_any (gen bound:Int) (ls:List InstA) (A:Option Addr) (n c:Nat) (w:World) (hM:ModS w w.heap.size A n ls) :
  Calls Tryz.prog 27 #[.agg (modC gen bound A n c)] w fun e w'=>e=.returned (.agg #[.int .i64 (idsM bound (ls.map (·.1))).1,.int .i64 (idsM bound (ls.map (·.1))).2])∧Below w.heap.size w w':=by
 by_cases h0:(layM bound (ls.map (·.1))).1=0
 ·exact check_ok gen bound ls A n c w hM h0
 ·exact check_bad gen bound ls A n c w hM h0
end
end Go.Proofs.YtdebjkiilnhgpaaGreatDoor
