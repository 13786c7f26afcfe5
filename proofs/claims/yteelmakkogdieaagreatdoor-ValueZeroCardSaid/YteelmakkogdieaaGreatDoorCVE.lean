/- Walks: the small module of the statements on values. -/
import Derived.Test.YteelmakkogdieaaGreatDoorCTS
import Derived.Test.YteelmakkogdieaaGreatDoorCVD
import Derived.Test.YteelmakkogdieaaGreatDoorCUE
set_option maxRecDepth 100000
set_option maxHeartbeats 4000000
namespace Go.Proofs.YteelmakkogdieaaGreatDoor
section
open Go.RowKit
def small12L:List InstI:=[((14,0,0,[(4,0,⟨#[]⟩),(4,0,⟨#[]⟩)]):InstI),((20,0,1,[]):InstI),((21,0,2,[(2,32,⟨#[]⟩),(2,1,⟨#[]⟩)]):InstI),((23,0,3,[(1,2,⟨#[]⟩),(2,2,⟨#[]⟩)]):InstI),((30,0,4,[(1,1,⟨#[]⟩),(1,3,⟨#[]⟩)]):InstI)]
theorem small12_any (w:World):Calls Tryz.prog 68 #[] w (ModIs 0 9 small12L w):=by
 have hS:SmS w ((w.alloc (.cells #[.int .u32 0,.int .u32 0,.slice none 0 0] 25)).alloc (.cells #[.int .u32 0,.int .u32 9,.slice none 0 0] 25)) 0 9 w.heap.size (w.heap.size+1) [] none 0 0:=by
  have k1:=Blk.new (w.alloc (.cells #[.int .u32 0,.int .u32 0,.slice none 0 0] 25)) 25 #[.int .u32 0,.int .u32 9,.slice none 0 0];rw [World.size_alloc] at k1;exact ⟨k1,World.ownsRow_nil _ _ _ _,fun x hx=>(by cases hx),(Blk.new w 25 #[.int .u32 0,.int .u32 0,.slice none 0 0]).alloc _,((Below.refl _ _).alloc (Nat.le_refl _) _).alloc (by simp) _,Nat.le_refl _,rfl,by simp⟩
 have HL:Hid (([]:List InstA).map (·.1)=small12L.take 0):=Lib.hid rfl;go_enter Tryz.func68,Tryz.ntmps68;go_upto_region 2 with fail
 generalize ((w.alloc (.cells #[.int .u32 0,.int .u32 0,.slice none 0 0] 25)).alloc (.cells #[.int .u32 0,.int .u32 9,.slice none 0 0] 25))=W at *;obtain ⟨A0,c0,hS⟩:∃ A0 c0,SmS w W 0 9 w.heap.size (w.heap.size+1) [] A0 0 c0:=⟨none,0,hS⟩;go_cut [] (fun wx=>∃ A c ls,Hid (ls.map (·.1)=small12L.take 1)∧SmS w wx 0 9 w.heap.size (w.heap.size+1) ls A 1 c)
 case first =>
  have q0:=hS.cell2;have hmt:w.heap.size+1<W.heap.size:=hS.top;have hS0:=hS.step (Below.refl W.heap.size W).drew;go_region_law (first
   | (refine step_ap_any slInst ((w2.alloc (.cells #[.int .u8 4,.int .u32 0,.string ⟨#[]⟩,.int .u8 4,.int .u32 0,.string ⟨#[]⟩] 53)).alloc (.cells #[.int .u16 14,.int .u32 0,.int .u32 0,.slice (some ⟨w2.heap.size,0,none⟩) 2 2] 51)) rfl _ _ rfl (w.heap.size+1+1) _ _ _ rfl h3.own _ _ 1 1 [.int .u16 14,.int .u32 0,.int .u32 0,.slice (some ⟨w2.heap.size,0,none⟩) 2 2] rfl hlit (by simp [Value.oneCell']) (by omega) (by omega) h3.top ?_;intro A8 c8 w8 ho8 hg8;have kb8:=h3.blk.grown hg8 (Ne.symm (own_blk_ne h3.own h3.blk (by decide)));have p8:=kb8.cell 2;simp at p8;have p6:=kb8.frozen 2)
   | (go_simp;go_at_call 80;(with_reducible refine (kitEnum_any 0 W.drew).mono ?_);rintro e w1 ⟨rfl,hb1⟩;have h1:=hS0.step hb1;have p1:=h1.cell2)
   | (go_simp;go_at_call 80;(with_reducible refine (kitEnum_any 0 w1).mono ?_);rintro e w2 ⟨rfl,hb2⟩;have h2:=h1.step hb2;have p2:=h2.cell2;have p3:=fun o=>cell_alloc_s o p2;have p4:=fun o o'=>cell_alloc_s o' (cell_alloc_s o p2);have h3:=h2.step (((Below.refl w2.heap.size w2).alloc (Nat.le_refl _) (.cells #[.int .u8 4,.int .u32 0,.string ⟨#[]⟩,.int .u8 4,.int .u32 0,.string ⟨#[]⟩] 53)).alloc (by simp) (.cells #[.int .u16 14,.int .u32 0,.int .u32 0,.slice (some ⟨w2.heap.size,0,none⟩) 2 2] 51));have hlit:=Reads.litN (w2.alloc (.cells #[.int .u8 4,.int .u32 0,.string ⟨#[]⟩,.int .u8 4,.int .u32 0,.string ⟨#[]⟩] 53)) #[.int .u16 14,.int .u32 0,.int .u32 0,.slice (some ⟨w2.heap.size,0,none⟩) 2 2] 51 4 1 4 rfl rfl (by omega);simp only [World.size_alloc] at hlit))
  all_goals
   have h4:=h3.put (x:=(((14,0,0,[(4,0,⟨#[]⟩),(4,0,⟨#[]⟩)]):InstI),(some ⟨w2.heap.size,0,none⟩,2,2))) (.inl ⟨w2.heap.size,_,2,2,rfl,(Blk.new w2 53 #[.int .u8 4,.int .u32 0,.string ⟨#[]⟩,.int .u8 4,.int .u32 0,.string ⟨#[]⟩]).alloc _,⟨[],rfl⟩,rfl⟩) ho8 hg8;go_wp2_with fail;go_meet
   exact ⟨A8,c8,_,Lib.hid (by rw [List.map_append,HL.out];rfl),h4⟩
 clear hS HL;obtain ⟨A1,c1,ls,HL,hS⟩:=hcut;go_upto_region 3 with fail
 go_cut [] (fun wx=>∃ A c ls,Hid (ls.map (·.1)=small12L.take 2)∧SmS w wx 0 9 w.heap.size (w.heap.size+1) ls A 2 c)
 case first =>
  have q0:=hS.cell2;have hmt:w.heap.size+1<wc.heap.size:=hS.top;have h3:=hS.step ((Below.refl wc.heap.size wc).alloc (Nat.le_refl _) (.cells #[.int .u16 20,.int .u32 0,.int .u32 1,.slice none 0 0] 51));have hlit:=Reads.litN wc #[.int .u16 20,.int .u32 0,.int .u32 1,.slice none 0 0] 51 4 1 4 rfl rfl (by omega)
  go_wp2_with (at_builtin;refine ap_any slInst (wc.alloc (.cells #[.int .u16 20,.int .u32 0,.int .u32 1,.slice none 0 0] 51)) rfl _ _ rfl (w.heap.size+1+1) _ _ _ rfl h3.own _ _ 1 1 [.int .u16 20,.int .u32 0,.int .u32 1,.slice none 0 0] rfl hlit (by simp [Value.oneCell']) (by omega) (by omega) h3.top ?_;intro A8 c8 w8 ho8 hg8 _;have kb8:=h3.blk.grown hg8 (Ne.symm (own_blk_ne h3.own h3.blk (by decide)));have p8:=kb8.cell 2;simp at p8;have p6:=kb8.frozen 2)
  have h4:=h3.put (x:=(((20,0,1,[]):InstI),(none,0,0))) (.inr ⟨rfl,rfl⟩) ho8 hg8;go_wp2_with fail;go_meet
  exact ⟨A8,c8,_,Lib.hid (by rw [List.map_append,HL.out];rfl),h4⟩
 clear hS HL;obtain ⟨A2,c2,ls,HL,hS⟩:=hcut;go_upto_region 4 with fail
 go_cut [] (fun wx=>∃ A c ls,Hid (ls.map (·.1)=small12L.take 3)∧SmS w wx 0 9 w.heap.size (w.heap.size+1) ls A 3 c)
 case first =>
  have q0:=hS.cell2;have hmt:w.heap.size+1<wc.heap.size:=hS.top;have hS0:=hS.step (Below.refl wc.heap.size wc).drew;go_region_law (first
   | (refine step_ap_any slInst ((w2.alloc (.cells #[.int .u8 2,.int .u32 32,.string ⟨#[]⟩,.int .u8 2,.int .u32 1,.string ⟨#[]⟩] 53)).alloc (.cells #[.int .u16 21,.int .u32 0,.int .u32 2,.slice (some ⟨w2.heap.size,0,none⟩) 2 2] 51)) rfl _ _ rfl (w.heap.size+1+1) _ _ _ rfl h3.own _ _ 1 1 [.int .u16 21,.int .u32 0,.int .u32 2,.slice (some ⟨w2.heap.size,0,none⟩) 2 2] rfl hlit (by simp [Value.oneCell']) (by omega) (by omega) h3.top ?_;intro A8 c8 w8 ho8 hg8;have kb8:=h3.blk.grown hg8 (Ne.symm (own_blk_ne h3.own h3.blk (by decide)));have p8:=kb8.cell 2;simp at p8;have p6:=kb8.frozen 2)
   | (go_simp;go_at_call 81;(with_reducible refine (kitNumber_any 32 wc.drew).mono ?_);rintro e w1 ⟨rfl,hb1⟩;have h1:=hS0.step hb1;have p1:=h1.cell2)
   | (go_simp;go_at_call 81;(with_reducible refine (kitNumber_any 1 w1).mono ?_);rintro e w2 ⟨rfl,hb2⟩;have h2:=h1.step hb2;have p2:=h2.cell2;have p3:=fun o=>cell_alloc_s o p2;have p4:=fun o o'=>cell_alloc_s o' (cell_alloc_s o p2);have h3:=h2.step (((Below.refl w2.heap.size w2).alloc (Nat.le_refl _) (.cells #[.int .u8 2,.int .u32 32,.string ⟨#[]⟩,.int .u8 2,.int .u32 1,.string ⟨#[]⟩] 53)).alloc (by simp) (.cells #[.int .u16 21,.int .u32 0,.int .u32 2,.slice (some ⟨w2.heap.size,0,none⟩) 2 2] 51));have hlit:=Reads.litN (w2.alloc (.cells #[.int .u8 2,.int .u32 32,.string ⟨#[]⟩,.int .u8 2,.int .u32 1,.string ⟨#[]⟩] 53)) #[.int .u16 21,.int .u32 0,.int .u32 2,.slice (some ⟨w2.heap.size,0,none⟩) 2 2] 51 4 1 4 rfl rfl (by omega);simp only [World.size_alloc] at hlit))
  all_goals
   have h4:=h3.put (x:=(((21,0,2,[(2,32,⟨#[]⟩),(2,1,⟨#[]⟩)]):InstI),(some ⟨w2.heap.size,0,none⟩,2,2))) (.inl ⟨w2.heap.size,_,2,2,rfl,(Blk.new w2 53 #[.int .u8 2,.int .u32 32,.string ⟨#[]⟩,.int .u8 2,.int .u32 1,.string ⟨#[]⟩]).alloc _,⟨[],rfl⟩,rfl⟩) ho8 hg8;go_wp2_with fail;go_meet
   exact ⟨A8,c8,_,Lib.hid (by rw [List.map_append,HL.out];rfl),h4⟩
 clear hS HL;obtain ⟨A3,c3,ls,HL,hS⟩:=hcut;go_upto_region 5 with fail
 go_cut [] (fun wx=>∃ A c ls,Hid (ls.map (·.1)=small12L.take 4)∧SmS w wx 0 9 w.heap.size (w.heap.size+1) ls A 4 c)
 case first =>
  have q0:=hS.cell2;have hmt:w.heap.size+1<wc.heap.size:=hS.top;have hS0:=hS.step (Below.refl wc.heap.size wc).drew;go_region_law (first
   | (refine step_ap_any slInst ((w2.alloc (.cells #[.int .u8 1,.int .u32 2,.string ⟨#[]⟩,.int .u8 2,.int .u32 2,.string ⟨#[]⟩] 53)).alloc (.cells #[.int .u16 23,.int .u32 0,.int .u32 3,.slice (some ⟨w2.heap.size,0,none⟩) 2 2] 51)) rfl _ _ rfl (w.heap.size+1+1) _ _ _ rfl h3.own _ _ 1 1 [.int .u16 23,.int .u32 0,.int .u32 3,.slice (some ⟨w2.heap.size,0,none⟩) 2 2] rfl hlit (by simp [Value.oneCell']) (by omega) (by omega) h3.top ?_;intro A8 c8 w8 ho8 hg8;have kb8:=h3.blk.grown hg8 (Ne.symm (own_blk_ne h3.own h3.blk (by decide)));have p8:=kb8.cell 2;simp at p8;have p6:=kb8.frozen 2)
   | (go_simp;go_at_call 82;(with_reducible refine (kitId_any 2 wc.drew).mono ?_);rintro e w1 ⟨rfl,hb1⟩;have h1:=hS0.step hb1;have p1:=h1.cell2)
   | (go_simp;go_at_call 81;(with_reducible refine (kitNumber_any 2 w1).mono ?_);rintro e w2 ⟨rfl,hb2⟩;have h2:=h1.step hb2;have p2:=h2.cell2;have p3:=fun o=>cell_alloc_s o p2;have p4:=fun o o'=>cell_alloc_s o' (cell_alloc_s o p2);have h3:=h2.step (((Below.refl w2.heap.size w2).alloc (Nat.le_refl _) (.cells #[.int .u8 1,.int .u32 2,.string ⟨#[]⟩,.int .u8 2,.int .u32 2,.string ⟨#[]⟩] 53)).alloc (by simp) (.cells #[.int .u16 23,.int .u32 0,.int .u32 3,.slice (some ⟨w2.heap.size,0,none⟩) 2 2] 51));have hlit:=Reads.litN (w2.alloc (.cells #[.int .u8 1,.int .u32 2,.string ⟨#[]⟩,.int .u8 2,.int .u32 2,.string ⟨#[]⟩] 53)) #[.int .u16 23,.int .u32 0,.int .u32 3,.slice (some ⟨w2.heap.size,0,none⟩) 2 2] 51 4 1 4 rfl rfl (by omega);simp only [World.size_alloc] at hlit))
  all_goals
   have h4:=h3.put (x:=(((23,0,3,[(1,2,⟨#[]⟩),(2,2,⟨#[]⟩)]):InstI),(some ⟨w2.heap.size,0,none⟩,2,2))) (.inl ⟨w2.heap.size,_,2,2,rfl,(Blk.new w2 53 #[.int .u8 1,.int .u32 2,.string ⟨#[]⟩,.int .u8 2,.int .u32 2,.string ⟨#[]⟩]).alloc _,⟨[],rfl⟩,rfl⟩) ho8 hg8;go_wp2_with fail;go_meet
   exact ⟨A8,c8,_,Lib.hid (by rw [List.map_append,HL.out];rfl),h4⟩
 clear hS HL;obtain ⟨A4,c4,ls,HL,hS⟩:=hcut;go_upto_region 6 with fail
 go_cut [] (fun wx=>∃ A c ls,Hid (ls.map (·.1)=small12L.take 5)∧SmS w wx 0 9 w.heap.size (w.heap.size+1) ls A 5 c)
 case first =>
  have q0:=hS.cell2;have hmt:w.heap.size+1<wc.heap.size:=hS.top;have hS0:=hS.step (Below.refl wc.heap.size wc).drew;go_region_law (first
   | (refine step_ap_any slInst ((w2.alloc (.cells #[.int .u8 1,.int .u32 1,.string ⟨#[]⟩,.int .u8 1,.int .u32 3,.string ⟨#[]⟩] 53)).alloc (.cells #[.int .u16 30,.int .u32 0,.int .u32 4,.slice (some ⟨w2.heap.size,0,none⟩) 2 2] 51)) rfl _ _ rfl (w.heap.size+1+1) _ _ _ rfl h3.own _ _ 1 1 [.int .u16 30,.int .u32 0,.int .u32 4,.slice (some ⟨w2.heap.size,0,none⟩) 2 2] rfl hlit (by simp [Value.oneCell']) (by omega) (by omega) h3.top ?_;intro A8 c8 w8 ho8 hg8;have kb8:=h3.blk.grown hg8 (Ne.symm (own_blk_ne h3.own h3.blk (by decide)));have p8:=kb8.cell 2;simp at p8;have p6:=kb8.frozen 2)
   | (go_simp;go_at_call 82;(with_reducible refine (kitId_any 1 wc.drew).mono ?_);rintro e w1 ⟨rfl,hb1⟩;have h1:=hS0.step hb1;have p1:=h1.cell2)
   | (go_simp;go_at_call 82;(with_reducible refine (kitId_any 3 w1).mono ?_);rintro e w2 ⟨rfl,hb2⟩;have h2:=h1.step hb2;have p2:=h2.cell2;have p3:=fun o=>cell_alloc_s o p2;have p4:=fun o o'=>cell_alloc_s o' (cell_alloc_s o p2);have h3:=h2.step (((Below.refl w2.heap.size w2).alloc (Nat.le_refl _) (.cells #[.int .u8 1,.int .u32 1,.string ⟨#[]⟩,.int .u8 1,.int .u32 3,.string ⟨#[]⟩] 53)).alloc (by simp) (.cells #[.int .u16 30,.int .u32 0,.int .u32 4,.slice (some ⟨w2.heap.size,0,none⟩) 2 2] 51));have hlit:=Reads.litN (w2.alloc (.cells #[.int .u8 1,.int .u32 1,.string ⟨#[]⟩,.int .u8 1,.int .u32 3,.string ⟨#[]⟩] 53)) #[.int .u16 30,.int .u32 0,.int .u32 4,.slice (some ⟨w2.heap.size,0,none⟩) 2 2] 51 4 1 4 rfl rfl (by omega);simp only [World.size_alloc] at hlit))
  all_goals
   have h4:=h3.put (x:=(((30,0,4,[(1,1,⟨#[]⟩),(1,3,⟨#[]⟩)]):InstI),(some ⟨w2.heap.size,0,none⟩,2,2))) (.inl ⟨w2.heap.size,_,2,2,rfl,(Blk.new w2 53 #[.int .u8 1,.int .u32 1,.string ⟨#[]⟩,.int .u8 1,.int .u32 3,.string ⟨#[]⟩]).alloc _,⟨[],rfl⟩,rfl⟩) ho8 hg8;go_wp2_with fail;go_meet
   exact ⟨A8,c8,_,Lib.hid (by rw [List.map_append,HL.out];rfl),h4⟩
 clear hS HL;obtain ⟨A5,c5,ls,HL,hS⟩:=hcut;obtain ⟨hf,hb⟩:=hS.mod HL.out rfl (by decide) (by decide)
 obtain ⟨z0,z1,z2⟩:=three_ hS.blk;obtain ⟨r0,r1,r2⟩:=three_ hS.res;have fz:=hS.res.frozen;clear hS HL;go_wp2_with fail;exact bodyPost_ret (mod_end rfl _ rfl hb) rfl hf
end
section
open Go.RowKit
noncomputable def small12S:StN:=(newL st0 small12L 0).2.2
theorem small12_new:newM 9 small12L=(0,0,small12S):=by
 unfold newM;have hi:(idsM 9 small12L).1=0:=by
  rw [idsM_eq]
  decide +kernel
 rw [if_neg (by rw [hi];decide)]
 have h1:(newL st0 small12L 0).1=0:=by decide +kernel
 have h2:(newL st0 small12L 0).2.1=0:=by decide +kernel
 exact Prod.ext h1 (Prod.ext h2 rfl)
theorem small12_facts:(small12S.T 4).size=3∧(small12S.T 1).size=1∧textV small12S.T 19 4 [1,4294967295,5]=[123,116,114,117,101,44,32,123,45,49,44,32,53,125,125]∧fitsV small12S.T 4 [1,4294967295,5]=true∧fitsV small12S.T 1 [2]=false:=by
 refine ⟨by decide +kernel,by decide +kernel,by decide +kernel,by decide +kernel,by decide +kernel⟩
theorem row12_any (a b c:Int) (w:World):Calls Tryz.prog 70 #[.int .u32 a,.int .u32 b,.int .u32 c] w fun e w'=>∃ g,e=.returned (.slice (some ⟨g,0,none⟩) 3 3)∧w'.ownsRow w.heap.size 22 1 (.slice (some ⟨g,0,none⟩) 3 3) 3 (Ints .u32 [a,b,c])∧Below w.heap.size w w':=by
 go_enter Tryz.func70,Tryz.ntmps70;go_wp2_with (at_make;refine mk_full sl32 rfl w rfl _ _ rfl w.heap.size 3 rfl rfl rfl rfl (by omega) (by omega) (by omega) ?_;intro w3 hown hgr;have hb:=(Below.refl w.heap.size w).grown hgr (Nat.le_refl _) (fun j hj=>by cases hj);have h0:=own_cell hown (i:=0) rfl;have h1:=own_cell hown (i:=1) rfl;have h2:=own_cell hown (i:=2) rfl;obtain ⟨x0,f0⟩:=h0;obtain ⟨x1,f1⟩:=h1;obtain ⟨x2,f2⟩:=h2;have HO:=Lib.hid (((hown.stored 0 (.int .u32 a)).1.stored 1 (.int .u32 b)).1.stored 2 (.int .u32 c)).1;have HB:=Lib.hid (((hb.setCell (p:=⟨w.heap.size,0,none⟩) (Nat.le_refl _) (.int .u32 a)).setCell (p:=⟨w.heap.size,1,none⟩) (Nat.le_refl _) (.int .u32 b)).setCell (p:=⟨w.heap.size,2,none⟩) (Nat.le_refl _) (.int .u32 c));clear hown hgr hb)
 go_ret
 exact ⟨_,rfl,HO.out,HB.out⟩
end
end Go.Proofs.YteelmakkogdieaaGreatDoor
