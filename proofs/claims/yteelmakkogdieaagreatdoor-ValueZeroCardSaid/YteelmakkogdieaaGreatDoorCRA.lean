/- Walks: the document's enumerants: Names. -/
import Derived.Test.YteelmakkogdieaaGreatDoorCTF
import Derived.Test.YteelmakkogdieaaGreatDoorCTS
import Derived.Test.YteelmakkogdieaaGreatDoorCRF
import Derived.Test.YteelmakkogdieaaGreatDoorCTB
import Derived.Test.YteelmakkogdieaaGreatDoorCTO
import Derived.Test.YteelmakkogdieaaGreatDoorCUM
set_option maxRecDepth 100000
set_option maxHeartbeats 8000000
namespace Go.Proofs.YteelmakkogdieaaGreatDoor
section
open Go.RowKit
def namesL:List (Int × Int × ByteArray):=[(107,0,⟨#[77,97,116,114,105,120]⟩),(107,1,⟨#[83,104,97,100,101,114]⟩),(97,0,⟨#[76,111,103,105,99,97,108]⟩),(109,0,⟨#[83,105,109,112,108,101]⟩),(109,1,⟨#[71,76,83,76,52,53,48]⟩),(101,0,⟨#[86,101,114,116,101,120]⟩),(101,4,⟨#[70,114,97,103,109,101,110,116]⟩),(120,7,⟨#[79,114,105,103,105,110,85,112,112,101,114,76,101,102,116]⟩),(108,0,⟨#[85,110,107,110,111,119,110]⟩),(108,1,⟨#[69,83,83,76]⟩),(108,2,⟨#[71,76,83,76]⟩),(99,1,⟨#[73,110,112,117,116]⟩),(99,3,⟨#[79,117,116,112,117,116]⟩),(99,6,⟨#[80,114,105,118,97,116,101]⟩),(99,7,⟨#[70,117,110,99,116,105,111,110]⟩),(100,0,⟨#[82,101,108,97,120,101,100,80,114,101,99,105,115,105,111,110]⟩),(100,11,⟨#[66,117,105,108,116,73,110]⟩),(100,14,⟨#[70,108,97,116]⟩),(100,30,⟨#[76,111,99,97,116,105,111,110]⟩),(102,0,⟨#[78,111,110,101]⟩),(102,1,⟨#[73,110,108,105,110,101]⟩),(102,2,⟨#[68,111,110,116,73,110,108,105,110,101]⟩),(102,4,⟨#[80,117,114,101]⟩),(102,8,⟨#[67,111,110,115,116]⟩),(104,0,⟨#[78,111,110,101]⟩),(104,1,⟨#[70,108,97,116,116,101,110]⟩),(104,2,⟨#[68,111,110,116,70,108,97,116,116,101,110]⟩),(103,0,⟨#[78,111,110,101]⟩),(103,1,⟨#[85,110,114,111,108,108]⟩),(103,2,⟨#[68,111,110,116,85,110,114,111,108,108]⟩)]
theorem slName:SliceOf Tryz.prog 332 335 (.agg #[.int .u8 0,.int .u32 0,.string ⟨#[]⟩]) 3 24:=⟨Tryz.underlying332,by kernel_rfl,rfl,by decide⟩
def nameC (r:Int × Int × ByteArray):List Value:=[.int .u8 r.1,.int .u32 r.2.1,.string r.2.2]
theorem Reads.cast_ {w:World} {B s n:Nat} {A:Option Addr} {xs ys:List Value} (h:Reads w B s A n xs) (e:xs=ys):Reads w B s A n ys:=e ▸ h
theorem names_lit (w:World) (r:Int × Int × ByteArray):Reads (w.alloc (.cells #[.int .u8 r.1,.int .u32 r.2.1,.string r.2.2] 335)) (w.heap.size+1) 3 (some ⟨w.heap.size,0,none⟩) 1 (nameC r):=by
 have k:=Blk.new w 335 #[.int .u8 r.1,.int .u32 r.2.1,.string r.2.2];refine ⟨rfl,fun _=>⟨_,rfl,by simp,fun j u hu=>?_⟩⟩
 have h:=k.cell j;rw [← h] at *;simp only [nameC] at hu;have:(⟨w.heap.size,0,none⟩:Addr).add j=⟨w.heap.size,j,none⟩:=by
  unfold Addr.add
  split
  ·rename_i h0;rw [h0]
  ·simp
 rw [this,h];simpa using hu
theorem nameC_one (r:Int × Int × ByteArray):∀ u∈nameC r,u.oneCell'=true:=fun u hu=>by
 simp only [nameC,List.mem_cons,List.mem_nil_iff,or_false] at hu
 rcases hu with rfl | rfl | rfl <;> rfl
structure NmS (w W:World) (v:Value) (n:Nat) (xs:List Value):Prop where
 own:W.ownsRow w.heap.size 335 3 v n xs
 below:Below w.heap.size w W
section
variable {w W W':World} {v:Value} {n:Nat} {xs:List Value}
theorem NmS.lit (h:NmS w W v n xs) (o:Obj):NmS w (W.alloc o) v n xs:=⟨h.own.alloc _,h.below.alloc h.below.size _⟩
theorem NmS.next (h:NmS w W v n xs) {v':Value} {ys:List Value} (ho:W'.ownsRow w.heap.size 335 3 v' (n+1) (xs++ys)) (hg:W.grownBy W' v.ownBlock):NmS w W' v' (n+1) (xs++ys) :=
 ⟨ho,h.below.grown hg h.below.size (fun k e=>(h.own.lt k e).1)⟩
end
theorem refNames_any (w:World):Calls Tryz.prog 295 #[] w fun e w'=>∃ A c,e=.returned (.slice A 30 c)∧Reads w' w'.heap.size 3 A 30 (Acells namesL)∧Below w.heap.size w w':=by
 have h0:NmS w w (.slice none 0 0) 0 []:=⟨World.ownsRow_nil _ _ _ _,Below.refl _ _⟩;go_enter Tryz.func295,Tryz.ntmps295;have p0:=h0.lit (.cells #[.int .u8 107,.int .u32 0,.string ⟨#[77,97,116,114,105,120]⟩] 335);have l0:=names_lit w (107,0,⟨#[77,97,116,114,105,120]⟩);have z0:=h0.below.size;go_upto_region 3 with (at_builtin;refine ap_any slName _ rfl _ _ rfl w.heap.size _ 0 _ rfl p0.own _ _ 1 1 (nameC (107,0,⟨#[77,97,116,114,105,120]⟩)) rfl l0 (nameC_one _) (by omega) (by omega) (by rw [World.size_alloc];omega) ?_;intro A1 c1 w1 ho hg hat)
 have h1:=p0.next ho hg;clear ho hg hat p0 l0 z0 h0;have p1:=h1.lit (.cells #[.int .u8 107,.int .u32 1,.string ⟨#[83,104,97,100,101,114]⟩] 335);have l1:=names_lit w1 (107,1,⟨#[83,104,97,100,101,114]⟩);have z1:=h1.below.size;go_upto_region 4 with (at_builtin;refine ap_any slName _ rfl _ _ rfl w.heap.size _ 1 _ rfl p1.own _ _ 1 1 (nameC (107,1,⟨#[83,104,97,100,101,114]⟩)) rfl l1 (nameC_one _) (by omega) (by omega) (by rw [World.size_alloc];omega) ?_;intro A2 c2 w2 ho hg hat)
 have h2:=p1.next ho hg;clear ho hg hat p1 l1 z1 h1;have p2:=h2.lit (.cells #[.int .u8 97,.int .u32 0,.string ⟨#[76,111,103,105,99,97,108]⟩] 335);have l2:=names_lit w2 (97,0,⟨#[76,111,103,105,99,97,108]⟩);have z2:=h2.below.size;go_upto_region 5 with (at_builtin;refine ap_any slName _ rfl _ _ rfl w.heap.size _ 2 _ rfl p2.own _ _ 1 1 (nameC (97,0,⟨#[76,111,103,105,99,97,108]⟩)) rfl l2 (nameC_one _) (by omega) (by omega) (by rw [World.size_alloc];omega) ?_;intro A3 c3 w3 ho hg hat)
 have h3:=p2.next ho hg;clear ho hg hat p2 l2 z2 h2;have p3:=h3.lit (.cells #[.int .u8 109,.int .u32 0,.string ⟨#[83,105,109,112,108,101]⟩] 335);have l3:=names_lit w3 (109,0,⟨#[83,105,109,112,108,101]⟩);have z3:=h3.below.size;go_upto_region 6 with (at_builtin;refine ap_any slName _ rfl _ _ rfl w.heap.size _ 3 _ rfl p3.own _ _ 1 1 (nameC (109,0,⟨#[83,105,109,112,108,101]⟩)) rfl l3 (nameC_one _) (by omega) (by omega) (by rw [World.size_alloc];omega) ?_;intro A4 c4 w4 ho hg hat)
 have h4:=p3.next ho hg;clear ho hg hat p3 l3 z3 h3;have p4:=h4.lit (.cells #[.int .u8 109,.int .u32 1,.string ⟨#[71,76,83,76,52,53,48]⟩] 335);have l4:=names_lit w4 (109,1,⟨#[71,76,83,76,52,53,48]⟩);have z4:=h4.below.size;go_upto_region 7 with (at_builtin;refine ap_any slName _ rfl _ _ rfl w.heap.size _ 4 _ rfl p4.own _ _ 1 1 (nameC (109,1,⟨#[71,76,83,76,52,53,48]⟩)) rfl l4 (nameC_one _) (by omega) (by omega) (by rw [World.size_alloc];omega) ?_;intro A5 c5 w5 ho hg hat)
 have h5:=p4.next ho hg;clear ho hg hat p4 l4 z4 h4;have p5:=h5.lit (.cells #[.int .u8 101,.int .u32 0,.string ⟨#[86,101,114,116,101,120]⟩] 335);have l5:=names_lit w5 (101,0,⟨#[86,101,114,116,101,120]⟩);have z5:=h5.below.size;go_upto_region 8 with (at_builtin;refine ap_any slName _ rfl _ _ rfl w.heap.size _ 5 _ rfl p5.own _ _ 1 1 (nameC (101,0,⟨#[86,101,114,116,101,120]⟩)) rfl l5 (nameC_one _) (by omega) (by omega) (by rw [World.size_alloc];omega) ?_;intro A6 c6 w6 ho hg hat)
 have h6:=p5.next ho hg;clear ho hg hat p5 l5 z5 h5;have p6:=h6.lit (.cells #[.int .u8 101,.int .u32 4,.string ⟨#[70,114,97,103,109,101,110,116]⟩] 335);have l6:=names_lit w6 (101,4,⟨#[70,114,97,103,109,101,110,116]⟩);have z6:=h6.below.size;go_upto_region 9 with (at_builtin;refine ap_any slName _ rfl _ _ rfl w.heap.size _ 6 _ rfl p6.own _ _ 1 1 (nameC (101,4,⟨#[70,114,97,103,109,101,110,116]⟩)) rfl l6 (nameC_one _) (by omega) (by omega) (by rw [World.size_alloc];omega) ?_;intro A7 c7 w7 ho hg hat)
 have h7:=p6.next ho hg;clear ho hg hat p6 l6 z6 h6;have p7:=h7.lit (.cells #[.int .u8 120,.int .u32 7,.string ⟨#[79,114,105,103,105,110,85,112,112,101,114,76,101,102,116]⟩] 335);have l7:=names_lit w7 (120,7,⟨#[79,114,105,103,105,110,85,112,112,101,114,76,101,102,116]⟩);have z7:=h7.below.size;go_upto_region 10 with (at_builtin;refine ap_any slName _ rfl _ _ rfl w.heap.size _ 7 _ rfl p7.own _ _ 1 1 (nameC (120,7,⟨#[79,114,105,103,105,110,85,112,112,101,114,76,101,102,116]⟩)) rfl l7 (nameC_one _) (by omega) (by omega) (by rw [World.size_alloc];omega) ?_;intro A8 c8 w8 ho hg hat)
 have h8:=p7.next ho hg;clear ho hg hat p7 l7 z7 h7;have p8:=h8.lit (.cells #[.int .u8 108,.int .u32 0,.string ⟨#[85,110,107,110,111,119,110]⟩] 335);have l8:=names_lit w8 (108,0,⟨#[85,110,107,110,111,119,110]⟩);have z8:=h8.below.size;go_upto_region 11 with (at_builtin;refine ap_any slName _ rfl _ _ rfl w.heap.size _ 8 _ rfl p8.own _ _ 1 1 (nameC (108,0,⟨#[85,110,107,110,111,119,110]⟩)) rfl l8 (nameC_one _) (by omega) (by omega) (by rw [World.size_alloc];omega) ?_;intro A9 c9 w9 ho hg hat)
 have h9:=p8.next ho hg;clear ho hg hat p8 l8 z8 h8;have p9:=h9.lit (.cells #[.int .u8 108,.int .u32 1,.string ⟨#[69,83,83,76]⟩] 335);have l9:=names_lit w9 (108,1,⟨#[69,83,83,76]⟩);have z9:=h9.below.size;go_upto_region 12 with (at_builtin;refine ap_any slName _ rfl _ _ rfl w.heap.size _ 9 _ rfl p9.own _ _ 1 1 (nameC (108,1,⟨#[69,83,83,76]⟩)) rfl l9 (nameC_one _) (by omega) (by omega) (by rw [World.size_alloc];omega) ?_;intro A10 c10 w10 ho hg hat)
 have h10:=p9.next ho hg;clear ho hg hat p9 l9 z9 h9;have p10:=h10.lit (.cells #[.int .u8 108,.int .u32 2,.string ⟨#[71,76,83,76]⟩] 335);have l10:=names_lit w10 (108,2,⟨#[71,76,83,76]⟩);have z10:=h10.below.size;go_upto_region 13 with (at_builtin;refine ap_any slName _ rfl _ _ rfl w.heap.size _ 10 _ rfl p10.own _ _ 1 1 (nameC (108,2,⟨#[71,76,83,76]⟩)) rfl l10 (nameC_one _) (by omega) (by omega) (by rw [World.size_alloc];omega) ?_;intro A11 c11 w11 ho hg hat)
 have h11:=p10.next ho hg;clear ho hg hat p10 l10 z10 h10;have p11:=h11.lit (.cells #[.int .u8 99,.int .u32 1,.string ⟨#[73,110,112,117,116]⟩] 335);have l11:=names_lit w11 (99,1,⟨#[73,110,112,117,116]⟩);have z11:=h11.below.size;go_upto_region 14 with (at_builtin;refine ap_any slName _ rfl _ _ rfl w.heap.size _ 11 _ rfl p11.own _ _ 1 1 (nameC (99,1,⟨#[73,110,112,117,116]⟩)) rfl l11 (nameC_one _) (by omega) (by omega) (by rw [World.size_alloc];omega) ?_;intro A12 c12 w12 ho hg hat)
 have h12:=p11.next ho hg;clear ho hg hat p11 l11 z11 h11;have p12:=h12.lit (.cells #[.int .u8 99,.int .u32 3,.string ⟨#[79,117,116,112,117,116]⟩] 335);have l12:=names_lit w12 (99,3,⟨#[79,117,116,112,117,116]⟩);have z12:=h12.below.size;go_upto_region 15 with (at_builtin;refine ap_any slName _ rfl _ _ rfl w.heap.size _ 12 _ rfl p12.own _ _ 1 1 (nameC (99,3,⟨#[79,117,116,112,117,116]⟩)) rfl l12 (nameC_one _) (by omega) (by omega) (by rw [World.size_alloc];omega) ?_;intro A13 c13 w13 ho hg hat)
 have h13:=p12.next ho hg;clear ho hg hat p12 l12 z12 h12;have p13:=h13.lit (.cells #[.int .u8 99,.int .u32 6,.string ⟨#[80,114,105,118,97,116,101]⟩] 335);have l13:=names_lit w13 (99,6,⟨#[80,114,105,118,97,116,101]⟩);have z13:=h13.below.size;go_upto_region 16 with (at_builtin;refine ap_any slName _ rfl _ _ rfl w.heap.size _ 13 _ rfl p13.own _ _ 1 1 (nameC (99,6,⟨#[80,114,105,118,97,116,101]⟩)) rfl l13 (nameC_one _) (by omega) (by omega) (by rw [World.size_alloc];omega) ?_;intro A14 c14 w14 ho hg hat)
 have h14:=p13.next ho hg;clear ho hg hat p13 l13 z13 h13;have p14:=h14.lit (.cells #[.int .u8 99,.int .u32 7,.string ⟨#[70,117,110,99,116,105,111,110]⟩] 335);have l14:=names_lit w14 (99,7,⟨#[70,117,110,99,116,105,111,110]⟩);have z14:=h14.below.size;go_upto_region 17 with (at_builtin;refine ap_any slName _ rfl _ _ rfl w.heap.size _ 14 _ rfl p14.own _ _ 1 1 (nameC (99,7,⟨#[70,117,110,99,116,105,111,110]⟩)) rfl l14 (nameC_one _) (by omega) (by omega) (by rw [World.size_alloc];omega) ?_;intro A15 c15 w15 ho hg hat)
 have h15:=p14.next ho hg;clear ho hg hat p14 l14 z14 h14;have p15:=h15.lit (.cells #[.int .u8 100,.int .u32 0,.string ⟨#[82,101,108,97,120,101,100,80,114,101,99,105,115,105,111,110]⟩] 335);have l15:=names_lit w15 (100,0,⟨#[82,101,108,97,120,101,100,80,114,101,99,105,115,105,111,110]⟩);have z15:=h15.below.size;go_upto_region 18 with (at_builtin;refine ap_any slName _ rfl _ _ rfl w.heap.size _ 15 _ rfl p15.own _ _ 1 1 (nameC (100,0,⟨#[82,101,108,97,120,101,100,80,114,101,99,105,115,105,111,110]⟩)) rfl l15 (nameC_one _) (by omega) (by omega) (by rw [World.size_alloc];omega) ?_;intro A16 c16 w16 ho hg hat)
 have h16:=p15.next ho hg;clear ho hg hat p15 l15 z15 h15;have p16:=h16.lit (.cells #[.int .u8 100,.int .u32 11,.string ⟨#[66,117,105,108,116,73,110]⟩] 335);have l16:=names_lit w16 (100,11,⟨#[66,117,105,108,116,73,110]⟩);have z16:=h16.below.size;go_upto_region 19 with (at_builtin;refine ap_any slName _ rfl _ _ rfl w.heap.size _ 16 _ rfl p16.own _ _ 1 1 (nameC (100,11,⟨#[66,117,105,108,116,73,110]⟩)) rfl l16 (nameC_one _) (by omega) (by omega) (by rw [World.size_alloc];omega) ?_;intro A17 c17 w17 ho hg hat)
 have h17:=p16.next ho hg;clear ho hg hat p16 l16 z16 h16;have p17:=h17.lit (.cells #[.int .u8 100,.int .u32 14,.string ⟨#[70,108,97,116]⟩] 335);have l17:=names_lit w17 (100,14,⟨#[70,108,97,116]⟩);have z17:=h17.below.size;go_upto_region 20 with (at_builtin;refine ap_any slName _ rfl _ _ rfl w.heap.size _ 17 _ rfl p17.own _ _ 1 1 (nameC (100,14,⟨#[70,108,97,116]⟩)) rfl l17 (nameC_one _) (by omega) (by omega) (by rw [World.size_alloc];omega) ?_;intro A18 c18 w18 ho hg hat)
 have h18:=p17.next ho hg;clear ho hg hat p17 l17 z17 h17;have p18:=h18.lit (.cells #[.int .u8 100,.int .u32 30,.string ⟨#[76,111,99,97,116,105,111,110]⟩] 335);have l18:=names_lit w18 (100,30,⟨#[76,111,99,97,116,105,111,110]⟩);have z18:=h18.below.size;go_upto_region 21 with (at_builtin;refine ap_any slName _ rfl _ _ rfl w.heap.size _ 18 _ rfl p18.own _ _ 1 1 (nameC (100,30,⟨#[76,111,99,97,116,105,111,110]⟩)) rfl l18 (nameC_one _) (by omega) (by omega) (by rw [World.size_alloc];omega) ?_;intro A19 c19 w19 ho hg hat)
 have h19:=p18.next ho hg;clear ho hg hat p18 l18 z18 h18;have p19:=h19.lit (.cells #[.int .u8 102,.int .u32 0,.string ⟨#[78,111,110,101]⟩] 335);have l19:=names_lit w19 (102,0,⟨#[78,111,110,101]⟩);have z19:=h19.below.size;go_upto_region 22 with (at_builtin;refine ap_any slName _ rfl _ _ rfl w.heap.size _ 19 _ rfl p19.own _ _ 1 1 (nameC (102,0,⟨#[78,111,110,101]⟩)) rfl l19 (nameC_one _) (by omega) (by omega) (by rw [World.size_alloc];omega) ?_;intro A20 c20 w20 ho hg hat)
 have h20:=p19.next ho hg;clear ho hg hat p19 l19 z19 h19;have p20:=h20.lit (.cells #[.int .u8 102,.int .u32 1,.string ⟨#[73,110,108,105,110,101]⟩] 335);have l20:=names_lit w20 (102,1,⟨#[73,110,108,105,110,101]⟩);have z20:=h20.below.size;go_upto_region 23 with (at_builtin;refine ap_any slName _ rfl _ _ rfl w.heap.size _ 20 _ rfl p20.own _ _ 1 1 (nameC (102,1,⟨#[73,110,108,105,110,101]⟩)) rfl l20 (nameC_one _) (by omega) (by omega) (by rw [World.size_alloc];omega) ?_;intro A21 c21 w21 ho hg hat)
 have h21:=p20.next ho hg;clear ho hg hat p20 l20 z20 h20;have p21:=h21.lit (.cells #[.int .u8 102,.int .u32 2,.string ⟨#[68,111,110,116,73,110,108,105,110,101]⟩] 335);have l21:=names_lit w21 (102,2,⟨#[68,111,110,116,73,110,108,105,110,101]⟩);have z21:=h21.below.size;go_upto_region 24 with (at_builtin;refine ap_any slName _ rfl _ _ rfl w.heap.size _ 21 _ rfl p21.own _ _ 1 1 (nameC (102,2,⟨#[68,111,110,116,73,110,108,105,110,101]⟩)) rfl l21 (nameC_one _) (by omega) (by omega) (by rw [World.size_alloc];omega) ?_;intro A22 c22 w22 ho hg hat)
 have h22:=p21.next ho hg;clear ho hg hat p21 l21 z21 h21;have p22:=h22.lit (.cells #[.int .u8 102,.int .u32 4,.string ⟨#[80,117,114,101]⟩] 335);have l22:=names_lit w22 (102,4,⟨#[80,117,114,101]⟩);have z22:=h22.below.size;go_upto_region 25 with (at_builtin;refine ap_any slName _ rfl _ _ rfl w.heap.size _ 22 _ rfl p22.own _ _ 1 1 (nameC (102,4,⟨#[80,117,114,101]⟩)) rfl l22 (nameC_one _) (by omega) (by omega) (by rw [World.size_alloc];omega) ?_;intro A23 c23 w23 ho hg hat)
 have h23:=p22.next ho hg;clear ho hg hat p22 l22 z22 h22;have p23:=h23.lit (.cells #[.int .u8 102,.int .u32 8,.string ⟨#[67,111,110,115,116]⟩] 335);have l23:=names_lit w23 (102,8,⟨#[67,111,110,115,116]⟩);have z23:=h23.below.size;go_upto_region 26 with (at_builtin;refine ap_any slName _ rfl _ _ rfl w.heap.size _ 23 _ rfl p23.own _ _ 1 1 (nameC (102,8,⟨#[67,111,110,115,116]⟩)) rfl l23 (nameC_one _) (by omega) (by omega) (by rw [World.size_alloc];omega) ?_;intro A24 c24 w24 ho hg hat)
 have h24:=p23.next ho hg;clear ho hg hat p23 l23 z23 h23;have p24:=h24.lit (.cells #[.int .u8 104,.int .u32 0,.string ⟨#[78,111,110,101]⟩] 335);have l24:=names_lit w24 (104,0,⟨#[78,111,110,101]⟩);have z24:=h24.below.size;go_upto_region 27 with (at_builtin;refine ap_any slName _ rfl _ _ rfl w.heap.size _ 24 _ rfl p24.own _ _ 1 1 (nameC (104,0,⟨#[78,111,110,101]⟩)) rfl l24 (nameC_one _) (by omega) (by omega) (by rw [World.size_alloc];omega) ?_;intro A25 c25 w25 ho hg hat)
 have h25:=p24.next ho hg;clear ho hg hat p24 l24 z24 h24;have p25:=h25.lit (.cells #[.int .u8 104,.int .u32 1,.string ⟨#[70,108,97,116,116,101,110]⟩] 335);have l25:=names_lit w25 (104,1,⟨#[70,108,97,116,116,101,110]⟩);have z25:=h25.below.size;go_upto_region 28 with (at_builtin;refine ap_any slName _ rfl _ _ rfl w.heap.size _ 25 _ rfl p25.own _ _ 1 1 (nameC (104,1,⟨#[70,108,97,116,116,101,110]⟩)) rfl l25 (nameC_one _) (by omega) (by omega) (by rw [World.size_alloc];omega) ?_;intro A26 c26 w26 ho hg hat)
 have h26:=p25.next ho hg;clear ho hg hat p25 l25 z25 h25;have p26:=h26.lit (.cells #[.int .u8 104,.int .u32 2,.string ⟨#[68,111,110,116,70,108,97,116,116,101,110]⟩] 335);have l26:=names_lit w26 (104,2,⟨#[68,111,110,116,70,108,97,116,116,101,110]⟩);have z26:=h26.below.size;go_upto_region 29 with (at_builtin;refine ap_any slName _ rfl _ _ rfl w.heap.size _ 26 _ rfl p26.own _ _ 1 1 (nameC (104,2,⟨#[68,111,110,116,70,108,97,116,116,101,110]⟩)) rfl l26 (nameC_one _) (by omega) (by omega) (by rw [World.size_alloc];omega) ?_;intro A27 c27 w27 ho hg hat)
 have h27:=p26.next ho hg;clear ho hg hat p26 l26 z26 h26;have p27:=h27.lit (.cells #[.int .u8 103,.int .u32 0,.string ⟨#[78,111,110,101]⟩] 335);have l27:=names_lit w27 (103,0,⟨#[78,111,110,101]⟩);have z27:=h27.below.size;go_upto_region 30 with (at_builtin;refine ap_any slName _ rfl _ _ rfl w.heap.size _ 27 _ rfl p27.own _ _ 1 1 (nameC (103,0,⟨#[78,111,110,101]⟩)) rfl l27 (nameC_one _) (by omega) (by omega) (by rw [World.size_alloc];omega) ?_;intro A28 c28 w28 ho hg hat)
 have h28:=p27.next ho hg;clear ho hg hat p27 l27 z27 h27;have p28:=h28.lit (.cells #[.int .u8 103,.int .u32 1,.string ⟨#[85,110,114,111,108,108]⟩] 335);have l28:=names_lit w28 (103,1,⟨#[85,110,114,111,108,108]⟩);have z28:=h28.below.size;go_upto_region 31 with (at_builtin;refine ap_any slName _ rfl _ _ rfl w.heap.size _ 28 _ rfl p28.own _ _ 1 1 (nameC (103,1,⟨#[85,110,114,111,108,108]⟩)) rfl l28 (nameC_one _) (by omega) (by omega) (by rw [World.size_alloc];omega) ?_;intro A29 c29 w29 ho hg hat)
 have h29:=p28.next ho hg;clear ho hg hat p28 l28 z28 h28;have p29:=h29.lit (.cells #[.int .u8 103,.int .u32 2,.string ⟨#[68,111,110,116,85,110,114,111,108,108]⟩] 335);have l29:=names_lit w29 (103,2,⟨#[68,111,110,116,85,110,114,111,108,108]⟩);have z29:=h29.below.size;go_upto_region 32 with (at_builtin;refine ap_any slName _ rfl _ _ rfl w.heap.size _ 29 _ rfl p29.own _ _ 1 1 (nameC (103,2,⟨#[68,111,110,116,85,110,114,111,108,108]⟩)) rfl l29 (nameC_one _) (by omega) (by omega) (by rw [World.size_alloc];omega) ?_;intro A30 c30 w30 ho hg hat)
 have h30:=p29.next ho hg;clear ho hg hat p29 l29 z29 h29;go_wp2_with fail;go_ret
 exact ⟨_,_,rfl,(Reads.of_own h30.own).cast_ (by kernel_rfl),h30.below⟩
end
section
open Go.RowKit
def keysN:List Int:=namesT.map (·.1)
theorem keys_kind:(keysN.all fun c=>decide ((pickT namesT c).size≠0)&&(namesL.any fun x=>x.1==c))=true:=by decide +kernel
theorem keys_all:(namesL.all fun x=>keysN.contains x.1)=true:=by decide +kernel
theorem keys_enum:(keysN.all fun c=>decide (enumsOf c=(namesL.filter fun x=>x.1==c).map fun x=>(x.2.1,x.2.2.data.toList)))=true:=by decide +kernel
theorem keys_out {c:Int} (h:c ∉ keysN):∀ x∈namesL,(x.1==c)=false:=fun x hx=>by
 have hk:=keys_all;rw [List.all_eq_true] at hk;have h1:=hk x hx;rw [beq_eq_false_iff_ne];intro e;exact h (by simpa [e] using h1)
theorem kind_names (c:Int):((pickT namesT c).size=0) ↔ ∀ x∈namesL,(x.1==c)=false:=by
 by_cases h:c∈keysN
 ·have hk:=keys_kind;rw [List.all_eq_true] at hk;have h1:=hk c h;simp only [Bool.and_eq_true,decide_eq_true_eq,List.any_eq_true] at h1;obtain ⟨h2,x,h3,h4⟩:=h1;exact ⟨fun e=>absurd e h2,fun e=>by rw [e x h3] at h4;cases h4⟩
 ·rw [pickT_out h];exact ⟨fun _=>keys_out h,fun _=>rfl⟩
theorem enums_names (c:Int):enumsOf c=(namesL.filter fun x=>x.1==c).map fun x=>(x.2.1,x.2.2.data.toList):=by
 by_cases h:c∈keysN
 ·have hk:=keys_enum;rw [List.all_eq_true] at hk;simpa using hk c h
 ·unfold enumsOf;rw [pickT_out h,List.filter_eq_nil_iff.2 (fun x hx=>by simpa using keys_out h x hx)]
  rfl
theorem enum_hit {c n:Int} {pre rest:List ArgI} {q:ArgI} (hl:namesL=pre++q :: rest) (h:∀ y∈pre,((y.1==c)&&(y.2.1==n))=false) (hq:q.1=c∧q.2.1=n):enumB c n=true∧bs (enumN c n)=q.2.2:=by
 have hq1:(q.1==c)=true:=by simpa using hq.1
 have he:enumsOf c=((pre.filter fun x=>x.1==c).map fun x=>(x.2.1,x.2.2.data.toList))++(q.2.1,q.2.2.data.toList) :: ((rest.filter fun x=>x.1==c).map fun x=>(x.2.1,x.2.2.data.toList)):=by
  rw [enums_names,hl,List.filter_append,List.filter_cons_of_pos (by simpa using hq1),List.map_append]
  rfl
 have:=enumB_yes (letter:=c) (n:=n) he (fun y hy=>by
  obtain ⟨x,hx,rfl⟩:=List.mem_map.1 hy;obtain ⟨h1,h2⟩:=List.mem_filter.1 hx;have h3:=h x h1;rw [h2,Bool.true_and] at h3;exact h3) (by simpa using hq.2)
 refine ⟨this.1,?_⟩;rw [this.2];apply ByteArray.ext
 simp [bs]
theorem enum_miss {c n:Int} (h:∀ y∈namesL,((y.1==c)&&(y.2.1==n))=false):enumB c n=false∧bs (enumN c n)=⟨#[]⟩:=by
 have:=enumB_no (letter:=c) (n:=n) (fun y hy=>by
  rw [enums_names] at hy;obtain ⟨x,hx,rfl⟩:=List.mem_map.1 hy;obtain ⟨h1,h2⟩:=List.mem_filter.1 hx;have h3:=h x h1;rw [h2,Bool.true_and] at h3;exact h3)
 exact ⟨this.1,by rw [this.2];rfl⟩
theorem ag_cut {l:List ArgI} {k:Nat} (h:k<l.length):l=l.take k++ag l k :: l.drop (k+1):=by
 rw [ag_of h,← List.drop_eq_getElem_cons h,List.take_append_drop]
theorem ag_take {l:List ArgI} {k:Nat} {y:ArgI} (h:y∈l.take k):∃ j,j<k∧ag l j=y:=by
 obtain ⟨j,hj,rfl⟩:=List.mem_iff_getElem.1 h;rw [List.length_take] at hj;refine ⟨j,by omega,?_⟩
 rw [ag_of (show j<l.length by omega),List.getElem_take]
theorem refKind_any (c:Int) (w:World):Calls Tryz.prog 283 #[.int .u8 c] w fun e w'=>e=.returned (.int .u8 (kindT c))∧Below w.heap.size w w':=by
 have hN:=refNames_any w;obtain ⟨v,hv⟩:∃ v,v=kindT c:=⟨_,rfl⟩;rw [← hv]
 rcases Decidable.em (c=105) with rfl | h1
 ·obtain rfl:v=1:=hv;clear hN;go_enter Tryz.func283,Tryz.ntmps283;go_wp2_with fail;go_ret
  exact ⟨rfl,Below.refl _ _⟩
 have e1:(c==105)=false:=by simpa using h1
 rcases Decidable.em (c=110) with rfl | h2
 ·obtain rfl:v=2:=hv;clear hN;go_enter Tryz.func283,Tryz.ntmps283;go_wp2_with fail;go_ret
  exact ⟨rfl,Below.refl _ _⟩
 have e2:(c==110)=false:=by simpa using h2
 rcases Decidable.em (c=115) with rfl | h3
 ·obtain rfl:v=3:=hv;clear hN;go_enter Tryz.func283,Tryz.ntmps283;go_wp2_with fail;go_ret
  exact ⟨rfl,Below.refl _ _⟩
 have e3:(c==115)=false:=by simpa using h3
 unfold kindT at hv;rw [e1,e2,e3] at hv;simp only [Bool.false_eq_true,if_false] at hv;have HV:=Lib.hid hv;clear hv h1 h2 h3;go_enter Tryz.func283,Tryz.ntmps283;go_wp2_with (go_at_call 295;refine hN.mono ?_;rintro e w1 ⟨A,cc,rfl,hr,hb1⟩)
 obtain ⟨b,off,rfl,hbb,hcc⟩:=hr.args (by decide)
 clear hr hN;go_loopg [2,4] 30 (fun q s i wr=>∃ k:Nat,k+q=30∧s=.int .u8 0∧i=.int .i64 (k:Nat)∧wr=w1∧Hid (∀ j,j<k→((ag namesL j).1==c)=false))
 case atStart=>exact ⟨0,rfl,rfl,rfl,rfl,Lib.hid (fun j hj=>absurd hj (Nat.not_lt_zero _))⟩
 case round =>
  obtain ⟨k,hq,rfl,rfl,rfl,HK⟩:=hrel
  by_cases hlt:k<30
  ·obtain ⟨c0,-,-⟩:=hcc k hlt
   by_cases hx:(ag namesL k).1=c
   ·have hx1:((ag namesL k).1==c)=true:=by simpa using hx
    have HX:=Lib.hid hx1;rw [hx] at c0;have hcc':(c==c)=true:=by simp
    clear hcc hx hx1;go_wp2_with fail;go_ret
    refine ⟨?_,hb1⟩;have h4:¬ (pickT namesT c).size=0:=fun h5=>by
     have h6:=(kind_names c).1 h5 _ (ag_mem (l:=namesL) (k:=k) hlt);rw [HX.out] at h6;cases h6
    rw [HV.out,if_neg h4];rfl
   ·have hx1:((ag namesL k).1==c)=false:=by simpa using hx
    have HK2:=Lib.hid (show ∀ j,j<k+1→((ag namesL j).1==c)=false from fun j hj=>by
     rcases Nat.lt_or_ge j k with h5 | h5
     ·exact HK.out j h5
     ·obtain rfl:j=k:=by omega
      exact hx1)
    clear hcc hx HK;generalize (ag namesL k).1=y at *;go_wp2_with fail;go_roundg (30-(k+1))
    case measure=>omega
    case rel=>exact ⟨k+1,by omega,rfl,by go_num,rfl,HK2⟩
  ·obtain rfl:k=30:=by omega
   clear hcc;go_wp2_with fail;go_ret
   refine ⟨?_,hb1⟩;have h4:(pickT namesT c).size=0:=(kind_names c).2 (fun x hx=>by
    obtain ⟨j,hj,rfl⟩:=List.mem_iff_getElem.1 hx;have:=HK.out j hj;rwa [ag_of hj] at this)
   rw [HV.out,if_pos h4];rfl
theorem refEnum_any (c n:Int) (w:World):Calls Tryz.prog 285 #[.int .u8 c,.int .u32 n] w fun e w'=>e=.returned (.tuple #[.string (bs (enumN c n)),.bool (enumB c n)])∧Below w.heap.size w w':=by
 have hN:=refNames_any w;go_enter Tryz.func285,Tryz.ntmps285;go_wp2_with (go_at_call 295;refine hN.mono ?_;rintro e w1 ⟨A,cc,rfl,hr,hb1⟩)
 obtain ⟨b,off,rfl,hbb,hcc⟩:=hr.args (by decide)
 clear hr hN;go_loopg [4,5,7] 30 (fun q s t i wr=>∃ k:Nat,k+q=30∧s=.string ⟨#[]⟩∧t=.bool false∧i=.int .i64 (k:Nat)∧wr=w1∧Hid (∀ j,j<k→(((ag namesL j).1==c)&&((ag namesL j).2.1==n))=false))
 case atStart=>exact ⟨0,rfl,rfl,rfl,rfl,rfl,Lib.hid (fun j hj=>absurd hj (Nat.not_lt_zero _))⟩
 case round =>
  obtain ⟨k,hq,rfl,rfl,rfl,rfl,HK⟩:=hrel
  by_cases hlt:k<30
  ·obtain ⟨c0,c1,c2⟩:=hcc k hlt
   by_cases hx:(ag namesL k).1=c∧(ag namesL k).2.1=n
   ·have hq2:=enum_hit (c:=c) (n:=n) (pre:=namesL.take k) (rest:=namesL.drop (k+1)) (q:=ag namesL k) (ag_cut (l:=namesL) (k:=k) hlt) (fun y hy=>by
     obtain ⟨j,hj,rfl⟩:=ag_take hy;exact HK.out j hj) hx
    have H2:=Lib.hid hq2;obtain ⟨hx1,hx2⟩:=hx;rw [hx1] at c0;rw [hx2] at c1;have e1:(c==c)=true:=by simp
    have e2:(n==n)=true:=by simp
    clear hcc hx1 hx2 hq2;generalize (ag namesL k).2.2=y at *;go_wp2_with fail;go_ret2
    exact ⟨by rw [H2.out.1,H2.out.2];rfl,hb1⟩
   ·have hx1:(((ag namesL k).1==c)&&((ag namesL k).2.1==n))=false:=by
     rw [Bool.eq_false_iff];intro e;rw [Bool.and_eq_true,beq_iff_eq,beq_iff_eq] at e;exact hx e
    have HK2:=Lib.hid (show ∀ j,j<k+1→(((ag namesL j).1==c)&&((ag namesL j).2.1==n))=false from fun j hj=>by
     rcases Nat.lt_or_ge j k with h5 | h5
     ·exact HK.out j h5
     ·obtain rfl:j=k:=by omega
      exact hx1)
    clear hcc hx HK;generalize (ag namesL k).1=y at *;generalize (ag namesL k).2.1=z at *
    by_cases hy:y=c
    ·obtain rfl:=hy;have e1:(y==y)=true:=by simp
     rw [e1,Bool.true_and] at hx1;go_wp2_with fail;go_roundg (30-(k+1))
     case measure=>omega
     case rel=>exact ⟨k+1,by omega,rfl,rfl,by go_num,rfl,HK2⟩
    ·have e1:(y==c)=false:=by simpa using hy
     clear hx1 hy;go_wp2_with fail;go_roundg (30-(k+1))
     case measure=>omega
     case rel=>exact ⟨k+1,by omega,rfl,rfl,by go_num,rfl,HK2⟩
  ·obtain rfl:k=30:=by omega
   clear hcc;go_wp2_with fail;go_ret2
   refine ⟨?_,hb1⟩;have:=enum_miss (c:=c) (n:=n) (fun x hx=>by
    obtain ⟨j,hj,rfl⟩:=List.mem_iff_getElem.1 hx;have:=HK.out j hj;rwa [ag_of hj] at this)
   rw [this.1,this.2];rfl
theorem refLetter_any (op:Int) (i:Nat) (w:World) (hi:i<2^62):Calls Tryz.prog 264 #[.int .u16 op,.int .i64 (i:Nat)] w fun e w'=>e=.returned (.int .u8 (letterOf op i))∧Below w.heap.size w w':=by
 have hof:=refOf_any op w;obtain ⟨v,hv⟩:∃ v,v=letterOf op i:=⟨_,rfl⟩;rw [← hv];unfold letterOf at hv;unfold ofV ofB at hof;cases hop:formOf op with
 | none =>
  rw [hop] at hof hv;obtain rfl:v=0:=hv;clear hop;unfold form0 at hof;simp only [Option.isSome_none] at hof;go_enter Tryz.func264,Tryz.ntmps264;go_wp2_with (go_at_call 44;refine hof.mono ?_;rintro e w1 ⟨rfl,hb1⟩)
  go_ret
  exact ⟨rfl,hb1.alloc hb1.size _⟩
 | some f =>
  rw [hop] at hof hv;obtain ⟨hs,hs3,hm⟩:=formOf_bd hop;clear hop;unfold formV at hof;simp only [Option.isSome_some] at hof hv;generalize bs f.name=s0 at *;generalize bs f.fixed=s2 at *;generalize bs f.rest=s3 at *;generalize f.ty=T at *;generalize f.res=R at *;generalize f.most=m at *;generalize f.part=part at *;clear f;unfold letterB at hv
  by_cases h:i<s2.size
  ·have hv1:v=(s2[i].toNat:Int):=by
    rw [show fixedB s2 i=(s2[i].toNat:Int) from dif_pos h,show restB s2 s3 m i=0 from if_pos (.inl h)] at hv
    rw [hv]
    split <;> omega
   rw [hv1];clear hv hv1 hs hs3 hm;go_enter Tryz.func264,Tryz.ntmps264;go_wp2_with (go_at_call 44;refine hof.mono ?_;rintro e w1 ⟨rfl,hb1⟩)
   go_ret
   exact ⟨rfl,hb1.alloc hb1.size _⟩
  ·rw [show fixedB s2 i=0 from dif_neg h,if_pos rfl] at hv
   by_cases h3:s3.size=0
   ·obtain rfl:v=0:=hv.trans (if_pos (.inr (.inl h3)));have he:((s3.size:Int)==0)=true:=by rw [h3];rfl
    clear hs hs3 hm;go_enter Tryz.func264,Tryz.ntmps264;go_wp2_with (go_at_call 44;refine hof.mono ?_;rintro e w1 ⟨rfl,hb1⟩)
    go_ret
    exact ⟨rfl,hb1.alloc hb1.size _⟩
   ·have he:((s3.size:Int)==0)=false:=by rw [beq_eq_false_iff_ne];omega
    obtain ⟨j,hij⟩:∃ j,i=s2.size+j:=⟨i-s2.size,by omega⟩
    obtain ⟨q,rfl⟩:∃ q:Nat,m=q:=⟨m.toNat,by omega⟩
    have hj:(i:Int)-(s2.size:Int)=(j:Int):=by omega
    have hji:j<2^62:=by omega
    have hwj:IntKind.i64.wrap ((i:Int)-(s2.size:Int))=(j:Int):=by rw [hj];exact IntWalk.i64_in _ (by omega)
    have hrest:restB s2 s3 (q:Nat) i=if 0<q∧q≤j / s3.size then 0 else if h:j % s3.size<s3.size then (s3[j % s3.size].toNat:Int) else 0:=by
     have hmul:((q:Nat):Int)*(s3.size:Nat)=((q*s3.size:Nat):Int):=by simp
     rw [hij];unfold restB;rw [Nat.add_sub_cancel_left]
     by_cases hc:0<q∧q≤j / s3.size
     ·rw [if_pos hc,if_pos (.inr (.inr ⟨by omega,by rw [hmul];have:=(Nat.le_div_iff_mul_le (by omega)).1 hc.2;omega⟩))]
     ·rw [if_neg hc,if_neg];rintro (h' | h' | ⟨h',h''⟩)
      ·omega
      ·exact h3 h'
      ·exact hc ⟨by omega,(Nat.le_div_iff_mul_le (by omega)).2 (by rw [hmul] at h'';omega)⟩
    have hmod:j % s3.size<s3.size:=Nat.mod_lt _ (by omega)
    rw [hrest] at hv;clear hrest hij;have hmm:(j:Int).tmod (s3.size:Int)=((j % s3.size:Nat):Int):=rfl;have hdd:(j:Int).tdiv (s3.size:Int)=((j / s3.size:Nat):Int):=rfl;have hmm2:(j:Int) % (s3.size:Int)=((j % s3.size:Nat):Int):=rfl;have hdd2:(j:Int) / (s3.size:Int)=((j / s3.size:Nat):Int):=rfl;have hdl:j / s3.size≤j:=Nat.div_le_self _ _;generalize j % s3.size=k at *;generalize j / s3.size=d at *;have wd:IntKind.i64.wrap (d:Int)=d:=IntWalk.i64_in _ (by omega)
    by_cases hc:0<q∧q≤d
    ·rw [if_pos hc] at hv;obtain rfl:=hv;have d1:decide ((0:Int)<(q:Nat))=true:=by rw [decide_eq_true_eq];omega
     have d2:decide (((q:Nat):Int)≤(d:Nat))=true:=by rw [decide_eq_true_eq];omega
     clear hs hs3 hm;go_enter Tryz.func264,Tryz.ntmps264;go_wp2_with (go_at_call 44;refine hof.mono ?_;rintro e w1 ⟨rfl,hb1⟩)
     go_big_region
     go_wp2_with fail;go_ret
     exact ⟨rfl,(hb1.alloc hb1.size _).drew⟩
    ·rw [if_neg hc,dif_pos hmod] at hv;obtain rfl:=hv
     by_cases hq:0<q
     ·have d1:decide ((0:Int)<(q:Nat))=true:=by rw [decide_eq_true_eq];omega
      have d2:decide (((q:Nat):Int)≤(d:Nat))=false:=by rw [decide_eq_false_iff_not];omega
      clear hs hs3 hm;go_enter Tryz.func264,Tryz.ntmps264;go_wp2_with (go_at_call 44;refine hof.mono ?_;rintro e w1 ⟨rfl,hb1⟩)
      go_big_region
      go_wp2_with fail;go_big_region
      go_wp2_with fail;go_ret
      exact ⟨rfl,(hb1.alloc hb1.size _).drew.drew⟩
     ·have d1:decide ((0:Int)<(q:Nat))=false:=by rw [decide_eq_false_iff_not];omega
      clear hs hs3 hm;go_enter Tryz.func264,Tryz.ntmps264;go_wp2_with (go_at_call 44;refine hof.mono ?_;rintro e w1 ⟨rfl,hb1⟩)
      go_big_region
      go_wp2_with fail;go_big_region
      go_wp2_with fail;go_ret
      exact ⟨rfl,(hb1.alloc hb1.size _).drew.drew⟩
end
section
open Go.RowKit
abbrev H1 (w1:World) (a1:Addr) (v1:Value) (w':World):Prop:=w'.cell? a1=some v1∧Below w1.heap.size w1 w'
abbrev H2 (w1:World) (a1:Addr) (v1:Value) (a2:Addr) (v2:Value) (w':World):Prop:=w'.cell? a1=some v1∧w'.cell? a2=some v2∧Below w1.heap.size w1 w'
abbrev H3 (w1:World) (a1:Addr) (v1:Value) (a2:Addr) (v2:Value) (a3:Addr) (v3:Value) (w':World):Prop:=w'.cell? a1=some v1∧w'.cell? a2=some v2∧w'.cell? a3=some v3∧Below w1.heap.size w1 w'
abbrev H4 (w1:World) (a1:Addr) (v1:Value) (a2:Addr) (v2:Value) (a3:Addr) (v3:Value) (a4:Addr) (v4:Value) (w':World):Prop:=w'.cell? a1=some v1∧w'.cell? a2=some v2∧w'.cell? a3=some v3∧w'.cell? a4=some v4∧Below w1.heap.size w1 w'
abbrev H5 (w1:World) (a1:Addr) (v1:Value) (a2:Addr) (v2:Value) (a3:Addr) (v3:Value) (a4:Addr) (v4:Value) (a5:Addr) (v5:Value) (w':World):Prop:=w'.cell? a1=some v1∧w'.cell? a2=some v2∧w'.cell? a3=some v3∧w'.cell? a4=some v4∧w'.cell? a5=some v5∧Below w1.heap.size w1 w'
abbrev H6 (w1:World) (a1:Addr) (v1:Value) (a2:Addr) (v2:Value) (a3:Addr) (v3:Value) (a4:Addr) (v4:Value) (a5:Addr) (v5:Value) (a6:Addr) (v6:Value) (w':World):Prop :=
 w'.cell? a1=some v1∧w'.cell? a2=some v2∧w'.cell? a3=some v3∧w'.cell? a4=some v4∧w'.cell? a5=some v5∧w'.cell? a6=some v6∧Below w1.heap.size w1 w'
section
variable {w1 w2 w3:World} {a1 a2 a3 a4 a5 a6:Addr} {v1 v2 v3 v4 v5 v6:Value}
theorem cell_on {a:Addr} {v:Value} (h:w2.cell? a=some v) (hq:Below w2.heap.size w2 w3):w3.cell? a=some v:=(hq.cell (p:=a) (World.block_lt_of_cell? w2 _ h)).trans h
theorem H1.drew_ (h:H1 w1 a1 v1 w2):H1 w1 a1 v1 w2.drew:=⟨h.1,h.2.drew⟩
theorem H1.call (h:H1 w1 a1 v1 w2) (hq:Below w2.heap.size w2 w3):H1 w1 a1 v1 w3:=⟨cell_on h.1 hq,below_cut h.2 hq (Nat.le_refl _)⟩
theorem H1.is (h:H1 w1 a1 v1 w2):Below w1.heap.size w1 w2:=h.2
theorem H2.drew_ (h:H2 w1 a1 v1 a2 v2 w2):H2 w1 a1 v1 a2 v2 w2.drew:=⟨h.1,h.2.1,h.2.2.drew⟩
theorem H2.call (h:H2 w1 a1 v1 a2 v2 w2) (hq:Below w2.heap.size w2 w3):H2 w1 a1 v1 a2 v2 w3:=⟨cell_on h.1 hq,cell_on h.2.1 hq,below_cut h.2.2 hq (Nat.le_refl _)⟩
theorem H2.is (h:H2 w1 a1 v1 a2 v2 w2):Below w1.heap.size w1 w2:=h.2.2
theorem H3.drew_ (h:H3 w1 a1 v1 a2 v2 a3 v3 w2):H3 w1 a1 v1 a2 v2 a3 v3 w2.drew:=⟨h.1,h.2.1,h.2.2.1,h.2.2.2.drew⟩
theorem H3.call (h:H3 w1 a1 v1 a2 v2 a3 v3 w2) (hq:Below w2.heap.size w2 w3):H3 w1 a1 v1 a2 v2 a3 v3 w3:=⟨cell_on h.1 hq,cell_on h.2.1 hq,cell_on h.2.2.1 hq,below_cut h.2.2.2 hq (Nat.le_refl _)⟩
theorem H3.is (h:H3 w1 a1 v1 a2 v2 a3 v3 w2):Below w1.heap.size w1 w2:=h.2.2.2
theorem H4.drew_ (h:H4 w1 a1 v1 a2 v2 a3 v3 a4 v4 w2):H4 w1 a1 v1 a2 v2 a3 v3 a4 v4 w2.drew:=⟨h.1,h.2.1,h.2.2.1,h.2.2.2.1,h.2.2.2.2.drew⟩
theorem H4.call (h:H4 w1 a1 v1 a2 v2 a3 v3 a4 v4 w2) (hq:Below w2.heap.size w2 w3):H4 w1 a1 v1 a2 v2 a3 v3 a4 v4 w3 :=
 ⟨cell_on h.1 hq,cell_on h.2.1 hq,cell_on h.2.2.1 hq,cell_on h.2.2.2.1 hq,below_cut h.2.2.2.2 hq (Nat.le_refl _)⟩
theorem H4.is (h:H4 w1 a1 v1 a2 v2 a3 v3 a4 v4 w2):Below w1.heap.size w1 w2:=h.2.2.2.2
theorem H5.drew_ (h:H5 w1 a1 v1 a2 v2 a3 v3 a4 v4 a5 v5 w2):H5 w1 a1 v1 a2 v2 a3 v3 a4 v4 a5 v5 w2.drew:=⟨h.1,h.2.1,h.2.2.1,h.2.2.2.1,h.2.2.2.2.1,h.2.2.2.2.2.drew⟩
theorem H5.call (h:H5 w1 a1 v1 a2 v2 a3 v3 a4 v4 a5 v5 w2) (hq:Below w2.heap.size w2 w3):H5 w1 a1 v1 a2 v2 a3 v3 a4 v4 a5 v5 w3 :=
 ⟨cell_on h.1 hq,cell_on h.2.1 hq,cell_on h.2.2.1 hq,cell_on h.2.2.2.1 hq,cell_on h.2.2.2.2.1 hq,below_cut h.2.2.2.2.2 hq (Nat.le_refl _)⟩
theorem H5.is (h:H5 w1 a1 v1 a2 v2 a3 v3 a4 v4 a5 v5 w2):Below w1.heap.size w1 w2:=h.2.2.2.2.2
theorem H6.drew_ (h:H6 w1 a1 v1 a2 v2 a3 v3 a4 v4 a5 v5 a6 v6 w2):H6 w1 a1 v1 a2 v2 a3 v3 a4 v4 a5 v5 a6 v6 w2.drew:=⟨h.1,h.2.1,h.2.2.1,h.2.2.2.1,h.2.2.2.2.1,h.2.2.2.2.2.1,h.2.2.2.2.2.2.drew⟩
theorem H6.call (h:H6 w1 a1 v1 a2 v2 a3 v3 a4 v4 a5 v5 a6 v6 w2) (hq:Below w2.heap.size w2 w3):H6 w1 a1 v1 a2 v2 a3 v3 a4 v4 a5 v5 a6 v6 w3 :=
 ⟨cell_on h.1 hq,cell_on h.2.1 hq,cell_on h.2.2.1 hq,cell_on h.2.2.2.1 hq,cell_on h.2.2.2.2.1 hq,cell_on h.2.2.2.2.2.1 hq,below_cut h.2.2.2.2.2.2 hq (Nat.le_refl _)⟩
theorem H6.is (h:H6 w1 a1 v1 a2 v2 a3 v3 a4 v4 a5 v5 a6 v6 w2):Below w1.heap.size w1 w2:=h.2.2.2.2.2.2
end
end
section
section
variable {op bound:Int} {l:List ArgI} {st:RSt}
def roomA (a:ArgI):Nat:=if a.1=3 then a.2.2.size / 4+1 else 1
def sumD (l:List ArgI):Nat→Nat
 | 0=>0
 | k+1=>sumD l k+roomA (ag l k)
theorem sumD_succ (l:List ArgI) (k:Nat):sumD l (k+1)=sumD l k+roomA (ag l k):=rfl
theorem sumD_mono {j k:Nat} (h:j≤k):sumD l j≤sumD l k:=by
 induction h with
 | refl=>exact Nat.le_refl _
 | step _ ih=>exact Nat.le_trans ih (Nat.le_add_right _ _)
theorem argR_good {k:Nat} {a:ArgI} (h:argE op bound k a.1 a.2.1 a.2.2=0):argR op k a.1 a.2.1 a.2.2=roomA a:=by
 obtain ⟨kd,n,s⟩:=a;dsimp only at *;unfold argE at h;unfold argR roomA;dsimp only
 by_cases hb:argBad op k kd n s=true
 ·rw [if_pos hb] at h;cases h
 ·rw [if_neg hb] at h ⊢
  by_cases h3:kd=3
  ·rw [if_pos (by simpa using h3)] at h ⊢
   rw [if_pos h3];unfold txE at h;unfold txR
   by_cases h0:(0:Int)∈bl s
   ·rw [if_pos h0] at h;cases h
   ·rw [if_neg h0];unfold roomOf;rw [bl_length]
  ·rw [if_neg (by simpa using h3),if_neg h3]
theorem argW_good {k:Nat} {a:ArgI} (h:argE op bound k a.1 a.2.1 a.2.2=0) (hr:roomA a≤65535):(argW op k a.1 a.2.1 a.2.2).length=roomA a:=by
 obtain ⟨kd,n,s⟩:=a;dsimp only at *;unfold argE at h;unfold argW roomA at *;dsimp only at *
 by_cases hb:argBad op k kd n s=true
 ·rw [if_pos hb] at h;cases h
 ·rw [if_neg hb] at h ⊢
  by_cases h3:kd=3
  ·rw [if_pos h3] at hr ⊢;rw [if_pos (by simpa using h3)] at h ⊢
   unfold txE at h;unfold txW
   by_cases h0:(0:Int)∈bl s
   ·rw [if_pos h0] at h;cases h
   ·rw [if_neg h0];have hro:roomOf (bl s)=s.size / 4+1:=by unfold roomOf;rw [bl_length]
    have ho:ofE (bl s)=0:=by
     unfold ofE;rw [if_neg h0,if_neg (by omega)]
    unfold ofW;rw [if_pos ho,part_length,hro]
  ·rw [if_neg (by simpa using h3),if_neg h3]
   rfl
theorem loopR_err (h:st.1≠0):∀ k,loopR op bound l st k=st
 | 0=>rfl
 | k+1=>by
  unfold loopR;rw [loopR_err h k];unfold stepR;rw [if_neg h]
theorem loopR_good (h0:st.1=0):∀ {k:Nat},(∀ j,j<k→argE op bound j (ag l j).1 (ag l j).2.1 (ag l j).2.2=0) →
  (loopR op bound l st k).1=0∧(loopR op bound l st k).2.2=st.2.2+sumD l k
 | 0,_=>⟨h0,rfl⟩
 | k+1,h=>by
  obtain ⟨h1,h2⟩:=loopR_good h0 (k:=k) (fun j hj=>h j (by omega))
  unfold loopR stepR;rw [if_pos h1];refine ⟨h k (Nat.lt_succ_self k),?_⟩
  show (loopR op bound l st k).2.2+_=_
  rw [h2,argR_good (h k (Nat.lt_succ_self k))];rw [sumD_succ];omega
theorem loopR_len (h0:st.1=0):∀ {k:Nat},(∀ j,j<k→argE op bound j (ag l j).1 (ag l j).2.1 (ag l j).2.2=0)→sumD l k≤65535 →
  (loopR op bound l st k).2.1.length=st.2.1.length+sumD l k
 | 0,_,_=>rfl
 | k+1,h,hs=>by
  rw [sumD_succ] at hs;have h1:=(loopR_good h0 (k:=k) (fun j hj=>h j (by omega))).1
  have h2:=loopR_len h0 (k:=k) (fun j hj=>h j (by omega)) (by omega)
  unfold loopR stepR;rw [if_pos h1]
  show ((loopR op bound l st k).2.1++_).length=_
  rw [List.length_append,h2,argW_good (h k (Nat.lt_succ_self k)) (by omega)]
  rw [sumD_succ];omega
theorem loopR_bad (h0:st.1=0) {k:Nat} (h:∀ j,j<k→argE op bound j (ag l j).1 (ag l j).2.1 (ag l j).2.2=0) (hk:argE op bound k (ag l k).1 (ag l k).2.1 (ag l k).2.2≠0) :
  ∀ m,(loopR op bound l st (k+1+m)).1=argE op bound k (ag l k).1 (ag l k).2.1 (ag l k).2.2
 | 0=>by
  show (loopR op bound l st (k+1)).1=_
  unfold loopR stepR;rw [if_pos (loopR_good h0 h).1]
 | m+1=>by
  have ih:=loopR_bad h0 h hk m
  show (loopR op bound l st (k+1+m+1)).1=_
  unfold loopR stepR;rw [if_neg (by rw [ih];exact hk),ih]
end
section
variable {i:InstI} {bound:Int} {f:FormI}
theorem rawR_f (hf:formOf i.1=some f):(rawR i bound).1 =
  if (loopR i.1 bound i.2.2.2 (headsR f i bound) i.2.2.2.length).1≠0 then (loopR i.1 bound i.2.2.2 (headsR f i bound) i.2.2.2.length).1
  else if wholeE i.1 i.2.2.2≠0 then wholeE i.1 i.2.2.2 else if 65535≤(loopR i.1 bound i.2.2.2 (headsR f i bound) i.2.2.2.length).2.2 then 25 else 0:=by
 unfold rawR;rw [hf];dsimp only;generalize loopR i.1 bound i.2.2.2 (headsR f i bound) i.2.2.2.length=s;generalize wholeE i.1 i.2.2.2=wh
 by_cases h0:s.1=0
 ·simp only [h0,if_true,ne_eq,not_true_eq_false,if_false]
  by_cases hw:wh=0
  ·simp only [hw,true_and,not_true_eq_false,if_false]
   by_cases h5:65535≤s.2.2
   ·simp [h5]
   ·simp [h5]
  ·simp [hw]
 ·simp [h0]
theorem fault_none (hf:formOf i.1=none):(rawR i bound).1=30:=by
 unfold rawR;rw [hf]
theorem fault_ty (hf:formOf i.1=some f) (h:headE f.ty i.2.1 40 bound≠0):(rawR i bound).1=headE f.ty i.2.1 40 bound:=by
 have hh:headsR f i bound=(headE f.ty i.2.1 40 bound,headW f.ty i.2.1,(headW f.ty i.2.1).length):=if_neg h;rw [rawR_f hf,loopR_err (by rw [hh];exact h),hh,if_pos h]
theorem fault_res (hf:formOf i.1=some f) (h0:headE f.ty i.2.1 40 bound=0) (h:headE f.res i.2.2.1 41 bound≠0):(rawR i bound).1=headE f.res i.2.2.1 41 bound:=by
 have hh:headsR f i bound=(headE f.res i.2.2.1 41 bound,headW f.ty i.2.1++headW f.res i.2.2.1,(headW f.ty i.2.1).length+(headW f.res i.2.2.1).length):=if_pos h0;rw [rawR_f hf,loopR_err (by rw [hh];exact h),hh,if_pos h]
theorem headW_lenD {must:Bool} {n lacks:Int} (hl:lacks≠0) (h:headE must n lacks bound=0):(headW must n).length=if must then 1 else 0:=by
 have:=(headE_ok hl h).1;unfold headW;rw [if_pos this]
 split <;> rfl
theorem heads_good (h0:headE f.ty i.2.1 40 bound=0) (h1:headE f.res i.2.2.1 41 bound=0):(headsR f i bound).1=0∧(headsR f i bound).2.1.length=(if f.ty then 1 else 0)+(if f.res then 1 else 0)∧(headsR f i bound).2.2=(if f.ty then 1 else 0)+(if f.res then 1 else 0):=by
 have hh:headsR f i bound=(headE f.res i.2.2.1 41 bound,headW f.ty i.2.1++headW f.res i.2.2.1,(headW f.ty i.2.1).length+(headW f.res i.2.2.1).length):=if_pos h0;have w1:=headW_lenD (by decide) h0
 have w2:=headW_lenD (by decide) h1
 rw [hh];exact ⟨h1,by simp only [List.length_append,w1,w2],by simp only [w1,w2]⟩
theorem fault_arg (hf:formOf i.1=some f) (h0:headE f.ty i.2.1 40 bound=0) (h1:headE f.res i.2.2.1 41 bound=0) {k:Nat} (hk:k<i.2.2.2.length)
  (ha:∀ j,j<k→argE i.1 bound j (ag i.2.2.2 j).1 (ag i.2.2.2 j).2.1 (ag i.2.2.2 j).2.2=0) (hb:argE i.1 bound k (ag i.2.2.2 k).1 (ag i.2.2.2 k).2.1 (ag i.2.2.2 k).2.2≠0) :
  (rawR i bound).1=argE i.1 bound k (ag i.2.2.2 k).1 (ag i.2.2.2 k).2.1 (ag i.2.2.2 k).2.2:=by
 have h2:=loopR_bad (heads_good h0 h1).1 ha hb (i.2.2.2.length-(k+1));rw [show k+1+(i.2.2.2.length-(k+1))=i.2.2.2.length by omega] at h2
 rw [rawR_f hf,h2,if_pos hb]
def wholeB (f:FormI) (n:Nat):Bool:=decide (f.fixed.length≤n)&&(if f.rest.length=0 then decide (n=f.fixed.length) else decide ((n-f.fixed.length) % f.rest.length=0))
theorem forms_kind:((firstT++secondT++thirdT).all fun x=>((formT x.2).fixed++(formT x.2).rest).all fun c=>decide (kindT (c.toNat:Int)≠0))=true:=by decide +kernel
theorem form_in {op:Int} {f:FormI} (hf:formOf op=some f):∃ x∈firstT++secondT++thirdT,f=formT x.2:=by
 unfold formOf at hf
 split at hf
 ·cases hf
 ·rename_i h0
  cases hf
  have hp:∀ l:List (Int × ByteArray),(pickT l op).size≠0→∃ x∈l,pickT l op=x.2:=by
   intro l
   induction l with
   | nil=>intro h;exact absurd rfl h
   | cons x l ih =>
    obtain ⟨k,s⟩:=x;unfold pickT
    split
    ·exact fun _=>⟨_,List.mem_cons_self ..,rfl⟩
    ·intro h;obtain ⟨x,hx,e⟩:=ih h;exact ⟨x,List.mem_cons_of_mem _ hx,e⟩
  unfold rowT at h0 ⊢
  split
  ·rename_i h1
   rw [if_pos h1] at h0;obtain ⟨x,hx,e⟩:=hp _ h0;exact ⟨x,by simp [hx],by rw [e]⟩
  ·rename_i h1
   rw [if_neg h1] at h0
   split
   ·rename_i h2
    rw [if_pos h2] at h0;obtain ⟨x,hx,e⟩:=hp _ h0;exact ⟨x,by simp [hx],by rw [e]⟩
   ·rename_i h2
    rw [if_neg h2] at h0;obtain ⟨x,hx,e⟩:=hp _ h0;exact ⟨x,by simp [hx],by rw [e]⟩
theorem letter_kind {op:Int} {f:FormI} (hf:formOf op=some f) {k:Nat} (h:letterOf op k≠0):kindT (letterOf op k)≠0:=by
 rcases letter_in hf k with h0 | ⟨c,hc,e⟩
 ·exact absurd h0 h
 ·obtain ⟨x,hx,rfl⟩:=form_in hf;have hk:=forms_kind;rw [List.all_eq_true] at hk;have h1:=hk x hx;rw [List.all_eq_true] at h1;have h2:=h1 c hc;rw [decide_eq_true_eq] at h2;rw [e];exact h2
theorem ix_kinds {l:List ArgI} {k:Nat} (h:k<l.length):ix (kinds l) k=(ag l k).1:=by
 rw [ag_of h,ix_of (by rw [kinds_length];exact h)]
 unfold kinds;rw [List.getElem_map]
theorem whole_good (hf:formOf i.1=some f) (ha:∀ j,j<i.2.2.2.length→argE i.1 bound j (ag i.2.2.2 j).1 (ag i.2.2.2 j).2.1 (ag i.2.2.2 j).2.2=0) :
  wholeE i.1 i.2.2.2=if wholeB f i.2.2.2.length then 0 else 42:=by
 have hk:kindsAt i.1 (kinds i.2.2.2) (kinds i.2.2.2).length:=fun j hj=>by
  rw [kinds_length] at hj;obtain ⟨h1,h2,-⟩:=argE_ok (ha j hj);rw [ix_kinds hj,h2];exact ⟨letter_kind hf h1,rfl⟩
 unfold wholeE;rw [fitsB_all hf hk,kinds_length];unfold tailB wholeB;generalize hn:i.2.2.2.length=n
 by_cases hr:f.rest.length=0
 ·have hle:n≤f.fixed.length:=by
   rcases Nat.lt_or_ge f.fixed.length n with h | h
   ·have h1:=(argE_ok (ha f.fixed.length (by omega))).1
    exact absurd (letter_none hf hr (Nat.le_refl _)) h1
   ·exact h
  rw [if_pos hr];simp only [hr,beq_self_eq_true,Bool.true_or,Bool.and_true]
  by_cases h:f.fixed.length≤n
  ·have:n=f.fixed.length:=by omega
   simp [this]
  ·simp [h]
 ·have hb:(f.rest.length==0)=false:=by simpa using hr
  rw [if_neg hr,hb,Bool.false_or];rfl
theorem fault_all (hf:formOf i.1=some f) (h0:headE f.ty i.2.1 40 bound=0) (h1:headE f.res i.2.2.1 41 bound=0)
  (ha:∀ j,j<i.2.2.2.length→argE i.1 bound j (ag i.2.2.2 j).1 (ag i.2.2.2 j).2.1 (ag i.2.2.2 j).2.2=0) :
  (rawR i bound).1=if wholeB f i.2.2.2.length then (if 65535<1+(if f.ty then 1 else 0)+(if f.res then 1 else 0)+sumD i.2.2.2 i.2.2.2.length then 25 else 0) else 42:=by
 obtain ⟨a1,-,a3⟩:=heads_good h0 h1;obtain ⟨b1,b2⟩:=loopR_good a1 ha;rw [rawR_f hf,if_neg (by rw [b1];decide),whole_good hf ha,b2,a3]
 cases wholeB f i.2.2.2.length with
 | false=>simp
 | true =>
  simp only [if_true,ne_eq,not_true_eq_false,if_false];congr 1
  rw [eq_iff_iff];omega
theorem rawR_lenD (h:(rawR i bound).1=0):∃ f,formOf i.1=some f∧1+(rawR i bound).2.length=1+(if f.ty then 1 else 0)+(if f.res then 1 else 0)+sumD i.2.2.2 i.2.2.2.length∧1+(rawR i bound).2.length≤65535 ∧
  ∀ j,j<i.2.2.2.length→argE i.1 bound j (ag i.2.2.2 j).1 (ag i.2.2.2 j).2.1 (ag i.2.2.2 j).2.2=0:=by
 cases hf:formOf i.1 with
 | none=>rw [fault_none hf] at h;cases h
 | some f =>
  have h0:headE f.ty i.2.1 40 bound=0:=Decidable.byContradiction fun hn=>hn ((fault_ty hf hn) ▸ h)
  have h1:headE f.res i.2.2.1 41 bound=0:=Decidable.byContradiction fun hn=>hn ((fault_res hf h0 hn) ▸ h)
  obtain ⟨a1,a2,a3⟩:=heads_good h0 h1;have hl:(loopR i.1 bound i.2.2.2 (headsR f i bound) i.2.2.2.length).1=0:=Decidable.byContradiction fun hn=>by
   rw [rawR_f hf,if_pos hn] at h;exact hn h
  have ha:=(loopR_ok hl).2;have hall:=fault_all hf h0 h1 ha;rw [h] at hall;have hw:wholeB f i.2.2.2.length=true:=by
   cases hw:wholeB f i.2.2.2.length with
   | true=>rfl
   | false=>rw [hw] at hall;cases hall
  rw [hw,if_pos rfl] at hall;have hle:¬ (65535<1+(if f.ty then 1 else 0)+(if f.res then 1 else 0)+sumD i.2.2.2 i.2.2.2.length):=fun hh=>by rw [if_pos hh] at hall;cases hall
  have hlen:=loopR_len a1 ha (by omega)
  have hb:=(loopR_good a1 ha).2;have hwh:wholeE i.1 i.2.2.2=0:=by rw [whole_good hf ha,hw];rfl
  have hraw:(rawR i bound).2=(loopR i.1 bound i.2.2.2 (headsR f i bound) i.2.2.2.length).2.1:=by
   unfold rawR;rw [hf];dsimp only;rw [if_pos hl,hwh];have h6:¬ (65535≤(loopR i.1 bound i.2.2.2 (headsR f i bound) i.2.2.2.length).2.2):=by rw [hb,a3];omega
   simp [h6]
  refine ⟨f,rfl,?_,?_,ha⟩
  ·rw [hraw,hlen,a2];omega
  ·rw [hraw,hlen,a2];omega
end
end
end Go.Proofs.YteelmakkogdieaaGreatDoor
