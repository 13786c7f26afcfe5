/- Walks: two arguments in a list. -/
import Derived.Test.YtdebjkiilnhgpaaGreatDoorCUK
import Derived.Test.YtdebjkiilnhgpaaGreatDoorCVB
import Derived.Test.YtdebjkiilnhgpaaGreatDoorCTS
set_option maxRecDepth 100000
set_option maxHeartbeats 4000000
namespace Go.Proofs.YtdebjkiilnhgpaaGreatDoor
section
open Go.RowKit Go.WideShapes
theorem own_blkT {w:World} {base n size g:Nat} {e:TypeId} {xs:List Value} (h:w.ownsRow base e size (.slice (some ⟨g,0,none⟩) n n) n xs):Blk w g e xs.toArray:=by
 rcases h.2 with ⟨hv,-⟩ | ⟨g',cap,cur,hv,-,hg,-,-,hcs,htake⟩
 ·cases hv
 ·cases hv
  have:cur=xs.toArray:=by
   apply Array.ext'
   rw [List.toList_toArray,← htake,List.take_of_length_le (Nat.le_of_eq (by rw [Array.length_toList,hcs]))]
  rw [← this];exact hg
theorem two_any (a b:ArgI) (w:World):Calls Tryz.prog 45 #[argV a,argV b] w fun e w'=>∃ g,e=.returned (.slice (some ⟨g,0,none⟩) 2 2) ∧
  Blk w' g 44 #[.int .u8 a.1,.int .u32 a.2.1,.string a.2.2,.int .u8 b.1,.int .u32 b.2.1,.string b.2.2]∧Below w.heap.size w w':=by
 obtain ⟨a1,a2,a3⟩:=a;obtain ⟨b1,b2,b3⟩:=b;unfold argV;dsimp only;have k1:=(Blk.new w 44 #[.int .u8 a1,.int .u32 a2,.string a3]).alloc (.cells #[.int .u8 b1,.int .u32 b2,.string b3] 44);have k2:=Blk.new (w.alloc (.cells #[.int .u8 a1,.int .u32 a2,.string a3] 44)) 44 #[.int .u8 b1,.int .u32 b2,.string b3];rw [World.size_alloc] at k2;have hb:=((Below.refl w.heap.size w).alloc (Nat.le_refl _) (.cells #[.int .u8 a1,.int .u32 a2,.string a3] 44)).alloc (by simp) (.cells #[.int .u8 b1,.int .u32 b2,.string b3] 44)
 have hs:((w.alloc (.cells #[.int .u8 a1,.int .u32 a2,.string a3] 44)).alloc (.cells #[.int .u8 b1,.int .u32 b2,.string b3] 44)).heap.size=w.heap.size+2:=by simp
 have he:(madeCells (Value.agg #[.int .u8 0,.int .u32 0,.string ⟨#[]⟩]).cells (2*3)).toList=[.int .u8 0,.int .u32 0,.string ⟨#[]⟩,.int .u8 0,.int .u32 0,.string ⟨#[]⟩]:=by kernel_rfl
 go_enter Tryz.func45,Tryz.ntmps45;go_upto_region 1 with fail
 generalize ((w.alloc (.cells #[.int .u8 a1,.int .u32 a2,.string a3] 44)).alloc (.cells #[.int .u8 b1,.int .u32 b2,.string b3] 44))=W at *;have HS:=Lib.hid hs;have HB:=Lib.hid hb;clear hs hb;have n1:w.heap.size+1≠W.heap.size:=by rw [HS.out];omega
 have n2:W.heap.size≠w.heap.size+1:=by rw [HS.out];omega
 go_wp2_with (at_make;go_loud (refine mk_wides slArg W rfl _ _ rfl (w.heap.size+2) 2 rfl rfl rfl rfl (by omega) (by omega) (by rw [HS.out];exact Nat.le_refl _) ?_;intro w3 hown hgr;rw [he] at hown;have kg:Blk w3 W.heap.size 44 #[.int .u8 0,.int .u32 0,.string ⟨#[]⟩,.int .u8 0,.int .u32 0,.string ⟨#[]⟩]:=own_blkT hown;have j1:=k1.grown hgr (by simp);have j2:=k2.grown hgr (by simp);have hb3:=HB.out.grown hgr (by rw [HS.out];omega) (fun _ e=>by cases e);obtain ⟨x0,x1,x2⟩:=three_ j1;obtain ⟨y0,y1,y2⟩:=three_ j2;have g0:=kg.cell 0;have g1:=kg.cell 1;have g2:=kg.cell 2;have g3:=kg.cell 3;have g4:=kg.cell 4;have g5:=kg.cell 5;have fz:=kg.frozen;simp at g0 g1 g2 g3 g4 g5))
 go_ret
 refine ⟨_,rfl,?_,?_⟩
 ·simpa using (((((kg.set_ 0 (.int .u8 a1)).set_ 1 (.int .u32 a2)).set_ 2 (.string a3)).set_ 3 (.int .u8 b1)).set_ 4 (.int .u32 b2)).set_ 5 (.string b3)
 ·have hWw:w.heap.size≤W.heap.size:=by rw [HS.out];omega
  exact (((((hb3.setCell (p:=⟨W.heap.size,0,none⟩) hWw _).setCell (p:=⟨W.heap.size,1,none⟩) hWw _).setCell (p:=⟨W.heap.size,2,none⟩) hWw _).setCell (p:=⟨W.heap.size,3,none⟩) hWw _).setCell (p:=⟨W.heap.size,4,none⟩) hWw _).setCell (p:=⟨W.heap.size,5,none⟩) hWw _
end
section
open Go.RowKit
def small18L (back:Int):List InstI:=[((14,0,0,[(4,0,⟨#[]⟩),(4,0,⟨#[]⟩)]):InstI),((21,0,1,[(2,32,⟨#[]⟩),(2,1,⟨#[]⟩)]):InstI),((20,0,2,[]):InstI),((33,0,3,[(1,1,⟨#[]⟩)]):InstI),((43,1,4,[(2,5,⟨#[]⟩)]):InstI),((41,2,5,[]):InstI),((54,1,6,[(4,0,⟨#[]⟩),(1,3,⟨#[]⟩)]):InstI),((248,0,7,[]):InstI),((254,0,0,[(1,back,⟨#[]⟩)]):InstI),((56,0,0,[]):InstI)]
theorem small18_okL (back:Int):okL (small18L back)=true:=rfl
theorem caps_snoc {ls:List InstA} {x:InstA} (h:∀ y∈ls,y.2.2.1≤y.2.2.2) (hx:x.2.2.1≤x.2.2.2):∀ y∈ls++[x],y.2.2.1≤y.2.2.2:=fun y hy=>by
 rw [List.mem_append,List.mem_singleton] at hy
 rcases hy with hy | rfl
 ·exact h y hy
 ·exact hx
def ModIsC (gen bound:Int) (l:List InstI) (w:World) (e:Ending) (w':World):Prop:=∃ A c ls,e=.returned (.agg (modC gen bound A l.length c))∧ModS w' w'.heap.size A l.length ls∧ls.map (·.1)=l∧Below w.heap.size w w'∧l.length≤c∧∀ x∈ls,x.2.2.1≤x.2.2.2
theorem SmS.modC {w0 W:World} {gen bound:Int} {r m:Nat} {ls:List InstA} {A:Option Addr} {k c:Nat} {L:List InstI} (h:SmS w0 W gen bound r m ls A k c) (hL:ls.map (·.1)=L) (hcap:∀ x∈ls,x.2.2.1≤x.2.2.2) (hk:L.length=k) (hk2:L.length≤1000) (ho:okL L=true) :
  ModIsC gen bound L w0 (.returned (.agg (modC gen bound A k c))) (((W.setCell ⟨r,0,none⟩ (.int .u32 gen)).setCell ⟨r,1,none⟩ (.int .u32 bound)).setCell ⟨r,2,none⟩ (.slice A k c)) ∧
   Blk (((W.setCell ⟨r,0,none⟩ (.int .u32 gen)).setCell ⟨r,1,none⟩ (.int .u32 bound)).setCell ⟨r,2,none⟩ (.slice A k c)) r 25 #[.int .u32 gen,.int .u32 bound,.slice A k c]:=by
 have hb:Blk (((W.setCell ⟨r,0,none⟩ (.int .u32 gen)).setCell ⟨r,1,none⟩ (.int .u32 bound)).setCell ⟨r,2,none⟩ (.slice A k c)) r 25 #[.int .u32 gen,.int .u32 bound,.slice A k c]:=by
  simpa using ((h.res.set_ 0 (.int .u32 gen)).set_ 1 (.int .u32 bound)).set_ 2 (.slice A k c)
 refine ⟨?_,hb⟩;have hcA:=own_cap h.own;have hne:(Value.slice A k c).ownBlock≠some r:=own_blk_ne h.own h.res (by decide)
 have hown:=own_set_other (p:=⟨r,2,none⟩) (own_set_other (p:=⟨r,1,none⟩) (own_set_other (p:=⟨r,0,none⟩) h.own hne (.int .u32 gen)) hne (.int .u32 bound)) hne (.slice A k c);unfold okL at ho;rw [List.all_eq_true] at ho;subst hk;refine ⟨A,c,ls,rfl,⟨?_,Reads.of_own hown,fun x hx=>?_⟩,hL,((h.below.setCell (p:=⟨r,0,none⟩) h.low _).setCell (p:=⟨r,1,none⟩) h.low _).setCell (p:=⟨r,2,none⟩) h.low _,hcA,hcap⟩
 ·omega
 ·have hi:=ho x.1 (hL ▸ List.mem_map.2 ⟨x,hx,rfl⟩);simp only [Bool.and_eq_true,decide_eq_true_eq,List.all_eq_true] at hi;have hA:ArgB (((W.setCell ⟨r,0,none⟩ (.int .u32 gen)).setCell ⟨r,1,none⟩ (.int .u32 bound)).setCell ⟨r,2,none⟩ (.slice A L.length c)) x:=by
   rcases h.ok x hx with ⟨g,cs,n,c',e1,e2,e3⟩ | e1
   ·exact .inl ⟨g,cs,n,c',e1,((e2.far (p:=⟨r,0,none⟩) (e2.ne_ h.res (by decide)) _).far (p:=⟨r,1,none⟩) (e2.ne_ h.res (by decide)) _).far (p:=⟨r,2,none⟩) (e2.ne_ h.res (by decide)) _,e3⟩
   ·exact .inr e1
  refine hA.ok (fun y hy=>?_) (fun a ha=>by have:=(hi.2 a ha).2;omega) hi.1
  unfold kinds at hy;obtain ⟨a,ha,rfl⟩:=List.mem_map.1 hy;have:=hi.2 a ha;omega
theorem small18_any (back:Int) (w:World):Calls Tryz.prog 25 #[.int .u32 back] w (ModIsC 0 20 (small18L back) w):=by
 have hS:SmS w ((w.alloc (.cells #[.int .u32 0,.int .u32 0,.slice none 0 0] 25)).alloc (.cells #[.int .u32 0,.int .u32 20,.slice none 0 0] 25)) 0 20 w.heap.size (w.heap.size+1) [] none 0 0:=by
  have k1:=Blk.new (w.alloc (.cells #[.int .u32 0,.int .u32 0,.slice none 0 0] 25)) 25 #[.int .u32 0,.int .u32 20,.slice none 0 0];rw [World.size_alloc] at k1;exact ⟨k1,World.ownsRow_nil _ _ _ _,fun x hx=>(by cases hx),(Blk.new w 25 #[.int .u32 0,.int .u32 0,.slice none 0 0]).alloc _,((Below.refl _ _).alloc (Nat.le_refl _) _).alloc (by simp) _,Nat.le_refl _,rfl,by simp⟩
 have HL:Hid (([]:List InstA).map (·.1)=(small18L back).take 0∧∀ x∈([]:List InstA),x.2.2.1≤x.2.2.2):=Lib.hid ⟨rfl,fun x hx=>by cases hx⟩
 go_enter Tryz.func25,Tryz.ntmps25;go_upto_region 2 with fail
 generalize ((w.alloc (.cells #[.int .u32 0,.int .u32 0,.slice none 0 0] 25)).alloc (.cells #[.int .u32 0,.int .u32 20,.slice none 0 0] 25))=W at *;obtain ⟨A0,c0,hS⟩:∃ A0 c0,SmS w W 0 20 w.heap.size (w.heap.size+1) [] A0 0 c0:=⟨none,0,hS⟩;go_cut [] (fun wx=>∃ A c ls,Hid (ls.map (·.1)=(small18L back).take 1∧∀ x∈ls,x.2.2.1≤x.2.2.2)∧SmS w wx 0 20 w.heap.size (w.heap.size+1) ls A 1 c)
 case first =>
  have q0:=hS.cell2;have hmt:w.heap.size+1<W.heap.size:=hS.top;have hS0:=hS.step (Below.refl W.heap.size W).drew;go_region_law (first
   | (refine step_ap_any slInst (w3.alloc (.cells #[.int .u16 14,.int .u32 0,.int .u32 0,.slice (some ⟨g3,0,none⟩) 2 2] 42)) rfl _ _ rfl (w.heap.size+1+1) _ _ _ rfl h4.own _ _ 1 1 [.int .u16 14,.int .u32 0,.int .u32 0,.slice (some ⟨g3,0,none⟩) 2 2] rfl hlit (by simp [Value.oneCell']) (by omega) (by omega) h4.top ?_;intro A8 c8 w8 ho8 hg8;have kb8:=h4.blk.grown hg8 (Ne.symm (own_blk_ne h4.own h4.blk (by decide)));have p8:=kb8.cell 2;simp at p8;have p6:=kb8.frozen 2)
   | (go_simp;go_at_call 46;(with_reducible refine (kitEnum_any 0 W.drew).mono ?_);rintro e w1 ⟨rfl,hb1⟩;have h1:=hS0.step hb1;have p1:=h1.cell2)
   | (go_simp;go_at_call 46;(with_reducible refine (kitEnum_any 0 w1).mono ?_);rintro e w2 ⟨rfl,hb2⟩;have h2:=h1.step hb2;have p2:=h2.cell2)
   | (go_simp;go_at_call 45;refine (two_any ((4,0,⟨#[]⟩):ArgI) ((4,0,⟨#[]⟩):ArgI) w2).mono ?_;rintro e w3 ⟨g3,rfl,kg3,hb3⟩;have h3:=h2.step hb3;have p3:=h3.cell2;have p4:=fun o=>cell_alloc_s o p3;have h4:=h3.step ((Below.refl w3.heap.size w3).alloc (Nat.le_refl _) (.cells #[.int .u16 14,.int .u32 0,.int .u32 0,.slice (some ⟨g3,0,none⟩) 2 2] 42));have hlit:=Reads.litN w3 #[.int .u16 14,.int .u32 0,.int .u32 0,.slice (some ⟨g3,0,none⟩) 2 2] 42 4 1 4 rfl rfl (by omega)))
  all_goals
   have h5:=h4.put (x:=(((14,0,0,[(4,0,⟨#[]⟩),(4,0,⟨#[]⟩)]):InstI),(some ⟨g3,0,none⟩,2,2))) (.inl ⟨g3,_,2,2,rfl,kg3.alloc _,⟨_,rfl⟩,rfl⟩) ho8 hg8;go_wp2_with fail;go_meet
   exact ⟨A8,c8,_,Lib.hid ⟨by rw [List.map_append,HL.out.1];rfl,caps_snoc HL.out.2 (by dsimp only;omega)⟩,h5⟩
 clear hS HL;obtain ⟨A1,c1,ls,HL,hS⟩:=hcut;go_upto_region 3 with fail
 go_cut [] (fun wx=>∃ A c ls,Hid (ls.map (·.1)=(small18L back).take 2∧∀ x∈ls,x.2.2.1≤x.2.2.2)∧SmS w wx 0 20 w.heap.size (w.heap.size+1) ls A 2 c)
 case first =>
  have q0:=hS.cell2;have hmt:w.heap.size+1<wc.heap.size:=hS.top;have hS0:=hS.step (Below.refl wc.heap.size wc).drew;go_region_law (first
   | (refine step_ap_any slInst (w3.alloc (.cells #[.int .u16 21,.int .u32 0,.int .u32 1,.slice (some ⟨g3,0,none⟩) 2 2] 42)) rfl _ _ rfl (w.heap.size+1+1) _ _ _ rfl h4.own _ _ 1 1 [.int .u16 21,.int .u32 0,.int .u32 1,.slice (some ⟨g3,0,none⟩) 2 2] rfl hlit (by simp [Value.oneCell']) (by omega) (by omega) h4.top ?_;intro A8 c8 w8 ho8 hg8;have kb8:=h4.blk.grown hg8 (Ne.symm (own_blk_ne h4.own h4.blk (by decide)));have p8:=kb8.cell 2;simp at p8;have p6:=kb8.frozen 2)
   | (go_simp;go_at_call 47;(with_reducible refine (kitNumber_any 32 wc.drew).mono ?_);rintro e w1 ⟨rfl,hb1⟩;have h1:=hS0.step hb1;have p1:=h1.cell2)
   | (go_simp;go_at_call 47;(with_reducible refine (kitNumber_any 1 w1).mono ?_);rintro e w2 ⟨rfl,hb2⟩;have h2:=h1.step hb2;have p2:=h2.cell2)
   | (go_simp;go_at_call 45;refine (two_any ((2,32,⟨#[]⟩):ArgI) ((2,1,⟨#[]⟩):ArgI) w2).mono ?_;rintro e w3 ⟨g3,rfl,kg3,hb3⟩;have h3:=h2.step hb3;have p3:=h3.cell2;have p4:=fun o=>cell_alloc_s o p3;have h4:=h3.step ((Below.refl w3.heap.size w3).alloc (Nat.le_refl _) (.cells #[.int .u16 21,.int .u32 0,.int .u32 1,.slice (some ⟨g3,0,none⟩) 2 2] 42));have hlit:=Reads.litN w3 #[.int .u16 21,.int .u32 0,.int .u32 1,.slice (some ⟨g3,0,none⟩) 2 2] 42 4 1 4 rfl rfl (by omega)))
  all_goals
   have h5:=h4.put (x:=(((21,0,1,[(2,32,⟨#[]⟩),(2,1,⟨#[]⟩)]):InstI),(some ⟨g3,0,none⟩,2,2))) (.inl ⟨g3,_,2,2,rfl,kg3.alloc _,⟨_,rfl⟩,rfl⟩) ho8 hg8;go_wp2_with fail;go_meet
   exact ⟨A8,c8,_,Lib.hid ⟨by rw [List.map_append,HL.out.1];rfl,caps_snoc HL.out.2 (by dsimp only;omega)⟩,h5⟩
 clear hS HL;obtain ⟨A2,c2,ls,HL,hS⟩:=hcut;go_upto_region 4 with fail
 go_cut [] (fun wx=>∃ A c ls,Hid (ls.map (·.1)=(small18L back).take 3∧∀ x∈ls,x.2.2.1≤x.2.2.2)∧SmS w wx 0 20 w.heap.size (w.heap.size+1) ls A 3 c)
 case first =>
  have q0:=hS.cell2;have hmt:w.heap.size+1<wc.heap.size:=hS.top;have h3:=hS.step ((Below.refl wc.heap.size wc).alloc (Nat.le_refl _) (.cells #[.int .u16 20,.int .u32 0,.int .u32 2,.slice none 0 0] 42));have hlit:=Reads.litN wc #[.int .u16 20,.int .u32 0,.int .u32 2,.slice none 0 0] 42 4 1 4 rfl rfl (by omega)
  go_wp2_with (at_builtin;refine ap_any slInst (wc.alloc (.cells #[.int .u16 20,.int .u32 0,.int .u32 2,.slice none 0 0] 42)) rfl _ _ rfl (w.heap.size+1+1) _ _ _ rfl h3.own _ _ 1 1 [.int .u16 20,.int .u32 0,.int .u32 2,.slice none 0 0] rfl hlit (by simp [Value.oneCell']) (by omega) (by omega) h3.top ?_;intro A8 c8 w8 ho8 hg8 _;have kb8:=h3.blk.grown hg8 (Ne.symm (own_blk_ne h3.own h3.blk (by decide)));have p8:=kb8.cell 2;simp at p8;have p6:=kb8.frozen 2)
  have h4:=h3.put (x:=(((20,0,2,[]):InstI),(none,0,0))) (.inr ⟨rfl,rfl⟩) ho8 hg8;go_wp2_with fail;go_meet
  exact ⟨A8,c8,_,Lib.hid ⟨by rw [List.map_append,HL.out.1];rfl,caps_snoc HL.out.2 (by dsimp only;omega)⟩,h4⟩
 clear hS HL;obtain ⟨A3,c3,ls,HL,hS⟩:=hcut;go_upto_region 5 with fail
 go_cut [] (fun wx=>∃ A c ls,Hid (ls.map (·.1)=(small18L back).take 4∧∀ x∈ls,x.2.2.1≤x.2.2.2)∧SmS w wx 0 20 w.heap.size (w.heap.size+1) ls A 4 c)
 case first =>
  have q0:=hS.cell2;have hmt:w.heap.size+1<wc.heap.size:=hS.top;have hS0:=hS.step (Below.refl wc.heap.size wc).drew;go_region_law (first
   | (refine step_ap_any slInst (w3.alloc (.cells #[.int .u16 33,.int .u32 0,.int .u32 3,.slice (some ⟨g3,0,none⟩) 1 2] 42)) rfl _ _ rfl (w.heap.size+1+1) _ _ _ rfl h4.own _ _ 1 1 [.int .u16 33,.int .u32 0,.int .u32 3,.slice (some ⟨g3,0,none⟩) 1 2] rfl hlit (by simp [Value.oneCell']) (by omega) (by omega) h4.top ?_;intro A8 c8 w8 ho8 hg8;have kb8:=h4.blk.grown hg8 (Ne.symm (own_blk_ne h4.own h4.blk (by decide)));have p8:=kb8.cell 2;simp at p8;have p6:=kb8.frozen 2)
   | (go_simp;go_at_call 48;(with_reducible refine (kitId_any 1 wc.drew).mono ?_);rintro e w1 ⟨rfl,hb1⟩;have h1:=hS0.step hb1;have p1:=h1.cell2)
   | (go_simp;go_at_call 48;(with_reducible refine (kitId_any 1 w1).mono ?_);rintro e w2 ⟨rfl,hb2⟩;have h2:=h1.step hb2;have p2:=h2.cell2)
   | (go_simp;go_at_call 45;refine (two_any ((1,1,⟨#[]⟩):ArgI) ((1,1,⟨#[]⟩):ArgI) w2).mono ?_;rintro e w3 ⟨g3,rfl,kg3,hb3⟩;have h3:=h2.step hb3;have p3:=h3.cell2;have p4:=fun o=>cell_alloc_s o p3;have h4:=h3.step ((Below.refl w3.heap.size w3).alloc (Nat.le_refl _) (.cells #[.int .u16 33,.int .u32 0,.int .u32 3,.slice (some ⟨g3,0,none⟩) 1 2] 42));have hlit:=Reads.litN w3 #[.int .u16 33,.int .u32 0,.int .u32 3,.slice (some ⟨g3,0,none⟩) 1 2] 42 4 1 4 rfl rfl (by omega)))
  all_goals
   have h5:=h4.put (x:=(((33,0,3,[(1,1,⟨#[]⟩)]):InstI),(some ⟨g3,0,none⟩,1,2))) (.inl ⟨g3,_,1,2,rfl,kg3.alloc _,⟨_,rfl⟩,rfl⟩) ho8 hg8;go_wp2_with fail;go_meet
   exact ⟨A8,c8,_,Lib.hid ⟨by rw [List.map_append,HL.out.1];rfl,caps_snoc HL.out.2 (by dsimp only;omega)⟩,h5⟩
 clear hS HL;obtain ⟨A4,c4,ls,HL,hS⟩:=hcut;go_upto_region 6 with fail
 go_cut [] (fun wx=>∃ A c ls,Hid (ls.map (·.1)=(small18L back).take 5∧∀ x∈ls,x.2.2.1≤x.2.2.2)∧SmS w wx 0 20 w.heap.size (w.heap.size+1) ls A 5 c)
 case first =>
  have q0:=hS.cell2;have hmt:w.heap.size+1<wc.heap.size:=hS.top;have hS0:=hS.step (Below.refl wc.heap.size wc).drew;go_region_law (first
   | (refine step_ap_any slInst (w3.alloc (.cells #[.int .u16 43,.int .u32 1,.int .u32 4,.slice (some ⟨g3,0,none⟩) 1 2] 42)) rfl _ _ rfl (w.heap.size+1+1) _ _ _ rfl h4.own _ _ 1 1 [.int .u16 43,.int .u32 1,.int .u32 4,.slice (some ⟨g3,0,none⟩) 1 2] rfl hlit (by simp [Value.oneCell']) (by omega) (by omega) h4.top ?_;intro A8 c8 w8 ho8 hg8;have kb8:=h4.blk.grown hg8 (Ne.symm (own_blk_ne h4.own h4.blk (by decide)));have p8:=kb8.cell 2;simp at p8;have p6:=kb8.frozen 2)
   | (go_simp;go_at_call 47;(with_reducible refine (kitNumber_any 5 wc.drew).mono ?_);rintro e w1 ⟨rfl,hb1⟩;have h1:=hS0.step hb1;have p1:=h1.cell2)
   | (go_simp;go_at_call 47;(with_reducible refine (kitNumber_any 5 w1).mono ?_);rintro e w2 ⟨rfl,hb2⟩;have h2:=h1.step hb2;have p2:=h2.cell2)
   | (go_simp;go_at_call 45;refine (two_any ((2,5,⟨#[]⟩):ArgI) ((2,5,⟨#[]⟩):ArgI) w2).mono ?_;rintro e w3 ⟨g3,rfl,kg3,hb3⟩;have h3:=h2.step hb3;have p3:=h3.cell2;have p4:=fun o=>cell_alloc_s o p3;have h4:=h3.step ((Below.refl w3.heap.size w3).alloc (Nat.le_refl _) (.cells #[.int .u16 43,.int .u32 1,.int .u32 4,.slice (some ⟨g3,0,none⟩) 1 2] 42));have hlit:=Reads.litN w3 #[.int .u16 43,.int .u32 1,.int .u32 4,.slice (some ⟨g3,0,none⟩) 1 2] 42 4 1 4 rfl rfl (by omega)))
  all_goals
   have h5:=h4.put (x:=(((43,1,4,[(2,5,⟨#[]⟩)]):InstI),(some ⟨g3,0,none⟩,1,2))) (.inl ⟨g3,_,1,2,rfl,kg3.alloc _,⟨_,rfl⟩,rfl⟩) ho8 hg8;go_wp2_with fail;go_meet
   exact ⟨A8,c8,_,Lib.hid ⟨by rw [List.map_append,HL.out.1];rfl,caps_snoc HL.out.2 (by dsimp only;omega)⟩,h5⟩
 clear hS HL;obtain ⟨A5,c5,ls,HL,hS⟩:=hcut;go_upto_region 7 with fail
 go_cut [] (fun wx=>∃ A c ls,Hid (ls.map (·.1)=(small18L back).take 6∧∀ x∈ls,x.2.2.1≤x.2.2.2)∧SmS w wx 0 20 w.heap.size (w.heap.size+1) ls A 6 c)
 case first =>
  have q0:=hS.cell2;have hmt:w.heap.size+1<wc.heap.size:=hS.top;have h3:=hS.step ((Below.refl wc.heap.size wc).alloc (Nat.le_refl _) (.cells #[.int .u16 41,.int .u32 2,.int .u32 5,.slice none 0 0] 42));have hlit:=Reads.litN wc #[.int .u16 41,.int .u32 2,.int .u32 5,.slice none 0 0] 42 4 1 4 rfl rfl (by omega)
  go_wp2_with (at_builtin;refine ap_any slInst (wc.alloc (.cells #[.int .u16 41,.int .u32 2,.int .u32 5,.slice none 0 0] 42)) rfl _ _ rfl (w.heap.size+1+1) _ _ _ rfl h3.own _ _ 1 1 [.int .u16 41,.int .u32 2,.int .u32 5,.slice none 0 0] rfl hlit (by simp [Value.oneCell']) (by omega) (by omega) h3.top ?_;intro A8 c8 w8 ho8 hg8 _;have kb8:=h3.blk.grown hg8 (Ne.symm (own_blk_ne h3.own h3.blk (by decide)));have p8:=kb8.cell 2;simp at p8;have p6:=kb8.frozen 2)
  have h4:=h3.put (x:=(((41,2,5,[]):InstI),(none,0,0))) (.inr ⟨rfl,rfl⟩) ho8 hg8;go_wp2_with fail;go_meet
  exact ⟨A8,c8,_,Lib.hid ⟨by rw [List.map_append,HL.out.1];rfl,caps_snoc HL.out.2 (by dsimp only;omega)⟩,h4⟩
 clear hS HL;obtain ⟨A6,c6,ls,HL,hS⟩:=hcut;go_upto_region 8 with fail
 go_cut [] (fun wx=>∃ A c ls,Hid (ls.map (·.1)=(small18L back).take 7∧∀ x∈ls,x.2.2.1≤x.2.2.2)∧SmS w wx 0 20 w.heap.size (w.heap.size+1) ls A 7 c)
 case first =>
  have q0:=hS.cell2;have hmt:w.heap.size+1<wc.heap.size:=hS.top;have hS0:=hS.step (Below.refl wc.heap.size wc).drew;go_region_law (first
   | (refine step_ap_any slInst (w3.alloc (.cells #[.int .u16 54,.int .u32 1,.int .u32 6,.slice (some ⟨g3,0,none⟩) 2 2] 42)) rfl _ _ rfl (w.heap.size+1+1) _ _ _ rfl h4.own _ _ 1 1 [.int .u16 54,.int .u32 1,.int .u32 6,.slice (some ⟨g3,0,none⟩) 2 2] rfl hlit (by simp [Value.oneCell']) (by omega) (by omega) h4.top ?_;intro A8 c8 w8 ho8 hg8;have kb8:=h4.blk.grown hg8 (Ne.symm (own_blk_ne h4.own h4.blk (by decide)));have p8:=kb8.cell 2;simp at p8;have p6:=kb8.frozen 2)
   | (go_simp;go_at_call 46;(with_reducible refine (kitEnum_any 0 wc.drew).mono ?_);rintro e w1 ⟨rfl,hb1⟩;have h1:=hS0.step hb1;have p1:=h1.cell2)
   | (go_simp;go_at_call 48;(with_reducible refine (kitId_any 3 w1).mono ?_);rintro e w2 ⟨rfl,hb2⟩;have h2:=h1.step hb2;have p2:=h2.cell2)
   | (go_simp;go_at_call 45;refine (two_any ((4,0,⟨#[]⟩):ArgI) ((1,3,⟨#[]⟩):ArgI) w2).mono ?_;rintro e w3 ⟨g3,rfl,kg3,hb3⟩;have h3:=h2.step hb3;have p3:=h3.cell2;have p4:=fun o=>cell_alloc_s o p3;have h4:=h3.step ((Below.refl w3.heap.size w3).alloc (Nat.le_refl _) (.cells #[.int .u16 54,.int .u32 1,.int .u32 6,.slice (some ⟨g3,0,none⟩) 2 2] 42));have hlit:=Reads.litN w3 #[.int .u16 54,.int .u32 1,.int .u32 6,.slice (some ⟨g3,0,none⟩) 2 2] 42 4 1 4 rfl rfl (by omega)))
  all_goals
   have h5:=h4.put (x:=(((54,1,6,[(4,0,⟨#[]⟩),(1,3,⟨#[]⟩)]):InstI),(some ⟨g3,0,none⟩,2,2))) (.inl ⟨g3,_,2,2,rfl,kg3.alloc _,⟨_,rfl⟩,rfl⟩) ho8 hg8;go_wp2_with fail;go_meet
   exact ⟨A8,c8,_,Lib.hid ⟨by rw [List.map_append,HL.out.1];rfl,caps_snoc HL.out.2 (by dsimp only;omega)⟩,h5⟩
 clear hS HL;obtain ⟨A7,c7,ls,HL,hS⟩:=hcut;go_upto_region 9 with fail
 go_cut [] (fun wx=>∃ A c ls,Hid (ls.map (·.1)=(small18L back).take 8∧∀ x∈ls,x.2.2.1≤x.2.2.2)∧SmS w wx 0 20 w.heap.size (w.heap.size+1) ls A 8 c)
 case first =>
  have q0:=hS.cell2;have hmt:w.heap.size+1<wc.heap.size:=hS.top;have h3:=hS.step ((Below.refl wc.heap.size wc).alloc (Nat.le_refl _) (.cells #[.int .u16 248,.int .u32 0,.int .u32 7,.slice none 0 0] 42));have hlit:=Reads.litN wc #[.int .u16 248,.int .u32 0,.int .u32 7,.slice none 0 0] 42 4 1 4 rfl rfl (by omega)
  go_wp2_with (at_builtin;refine ap_any slInst (wc.alloc (.cells #[.int .u16 248,.int .u32 0,.int .u32 7,.slice none 0 0] 42)) rfl _ _ rfl (w.heap.size+1+1) _ _ _ rfl h3.own _ _ 1 1 [.int .u16 248,.int .u32 0,.int .u32 7,.slice none 0 0] rfl hlit (by simp [Value.oneCell']) (by omega) (by omega) h3.top ?_;intro A8 c8 w8 ho8 hg8 _;have kb8:=h3.blk.grown hg8 (Ne.symm (own_blk_ne h3.own h3.blk (by decide)));have p8:=kb8.cell 2;simp at p8;have p6:=kb8.frozen 2)
  have h4:=h3.put (x:=(((248,0,7,[]):InstI),(none,0,0))) (.inr ⟨rfl,rfl⟩) ho8 hg8;go_wp2_with fail;go_meet
  exact ⟨A8,c8,_,Lib.hid ⟨by rw [List.map_append,HL.out.1];rfl,caps_snoc HL.out.2 (by dsimp only;omega)⟩,h4⟩
 clear hS HL;obtain ⟨A8,c8,ls,HL,hS⟩:=hcut;go_upto_region 10 with fail
 go_cut [] (fun wx=>∃ A c ls,Hid (ls.map (·.1)=(small18L back).take 9∧∀ x∈ls,x.2.2.1≤x.2.2.2)∧SmS w wx 0 20 w.heap.size (w.heap.size+1) ls A 9 c)
 case first =>
  have q0:=hS.cell2;have hmt:w.heap.size+1<wc.heap.size:=hS.top;have hS0:=hS.step (Below.refl wc.heap.size wc).drew;go_region_law (first
   | (refine step_ap_any slInst (w3.alloc (.cells #[.int .u16 254,.int .u32 0,.int .u32 0,.slice (some ⟨g3,0,none⟩) 1 2] 42)) rfl _ _ rfl (w.heap.size+1+1) _ _ _ rfl h4.own _ _ 1 1 [.int .u16 254,.int .u32 0,.int .u32 0,.slice (some ⟨g3,0,none⟩) 1 2] rfl hlit (by simp [Value.oneCell']) (by omega) (by omega) h4.top ?_;intro A8 c8 w8 ho8 hg8;have kb8:=h4.blk.grown hg8 (Ne.symm (own_blk_ne h4.own h4.blk (by decide)));have p8:=kb8.cell 2;simp at p8;have p6:=kb8.frozen 2)
   | (go_simp;go_at_call 48;(with_reducible refine (kitId_any back wc.drew).mono ?_);rintro e w1 ⟨rfl,hb1⟩;have h1:=hS0.step hb1;have p1:=h1.cell2)
   | (go_simp;go_at_call 48;(with_reducible refine (kitId_any back w1).mono ?_);rintro e w2 ⟨rfl,hb2⟩;have h2:=h1.step hb2;have p2:=h2.cell2)
   | (go_simp;go_at_call 45;refine (two_any ((1,back,⟨#[]⟩):ArgI) ((1,back,⟨#[]⟩):ArgI) w2).mono ?_;rintro e w3 ⟨g3,rfl,kg3,hb3⟩;have h3:=h2.step hb3;have p3:=h3.cell2;have p4:=fun o=>cell_alloc_s o p3;have h4:=h3.step ((Below.refl w3.heap.size w3).alloc (Nat.le_refl _) (.cells #[.int .u16 254,.int .u32 0,.int .u32 0,.slice (some ⟨g3,0,none⟩) 1 2] 42));have hlit:=Reads.litN w3 #[.int .u16 254,.int .u32 0,.int .u32 0,.slice (some ⟨g3,0,none⟩) 1 2] 42 4 1 4 rfl rfl (by omega)))
  all_goals
   have h5:=h4.put (x:=(((254,0,0,[(1,back,⟨#[]⟩)]):InstI),(some ⟨g3,0,none⟩,1,2))) (.inl ⟨g3,_,1,2,rfl,kg3.alloc _,⟨_,rfl⟩,rfl⟩) ho8 hg8;go_wp2_with fail;go_meet
   exact ⟨A8,c8,_,Lib.hid ⟨by rw [List.map_append,HL.out.1];rfl,caps_snoc HL.out.2 (by dsimp only;omega)⟩,h5⟩
 clear hS HL;obtain ⟨A9,c9,ls,HL,hS⟩:=hcut;go_upto_region 11 with fail
 go_cut [] (fun wx=>∃ A c ls,Hid (ls.map (·.1)=(small18L back).take 10∧∀ x∈ls,x.2.2.1≤x.2.2.2)∧SmS w wx 0 20 w.heap.size (w.heap.size+1) ls A 10 c)
 case first =>
  have q0:=hS.cell2;have hmt:w.heap.size+1<wc.heap.size:=hS.top;have h3:=hS.step ((Below.refl wc.heap.size wc).alloc (Nat.le_refl _) (.cells #[.int .u16 56,.int .u32 0,.int .u32 0,.slice none 0 0] 42));have hlit:=Reads.litN wc #[.int .u16 56,.int .u32 0,.int .u32 0,.slice none 0 0] 42 4 1 4 rfl rfl (by omega)
  go_wp2_with (at_builtin;refine ap_any slInst (wc.alloc (.cells #[.int .u16 56,.int .u32 0,.int .u32 0,.slice none 0 0] 42)) rfl _ _ rfl (w.heap.size+1+1) _ _ _ rfl h3.own _ _ 1 1 [.int .u16 56,.int .u32 0,.int .u32 0,.slice none 0 0] rfl hlit (by simp [Value.oneCell']) (by omega) (by omega) h3.top ?_;intro A8 c8 w8 ho8 hg8 _;have kb8:=h3.blk.grown hg8 (Ne.symm (own_blk_ne h3.own h3.blk (by decide)));have p8:=kb8.cell 2;simp at p8;have p6:=kb8.frozen 2)
  have h4:=h3.put (x:=(((56,0,0,[]):InstI),(none,0,0))) (.inr ⟨rfl,rfl⟩) ho8 hg8;go_wp2_with fail;go_meet
  exact ⟨A8,c8,_,Lib.hid ⟨by rw [List.map_append,HL.out.1];rfl,caps_snoc HL.out.2 (by dsimp only;omega)⟩,h4⟩
 clear hS HL;obtain ⟨A10,c10,ls,HL,hS⟩:=hcut;obtain ⟨hf,hb⟩:=hS.modC HL.out.1 HL.out.2 rfl (by show (10:Nat)≤1000;decide) (small18_okL back)
 obtain ⟨z0,z1,z2⟩:=three_ hS.blk;obtain ⟨r0,r1,r2⟩:=three_ hS.res;have fz:=hS.res.frozen;clear hS HL;go_wp2_with fail;exact bodyPost_ret (mod_end rfl _ rfl hb) rfl hf
end
end Go.Proofs.YtdebjkiilnhgpaaGreatDoor
