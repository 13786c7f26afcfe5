/- Walks: the law of ValueGet: every Get; what is answered is its own. -/
import Derived.Test.YtkfjjkibbjlldaaGreatDoorCQC
set_option maxRecDepth 100000
set_option maxHeartbeats 8000000
namespace Go.Proofs.YtkfjjkibbjlldaaGreatDoor
open Go.RowKit
theorem law_qget (gen bound:Int) (A:Option Addr) (n c:Nat) (ls:List InstA) (ty:Int) (A2:Option Addr) (n2 c2:Nat) (ws:List Int) (A3:Option Addr) (n3 c3:Nat) (path:List Int) (w:World) (hM:ModS w w.heap.size A n ls) (hn:n≤3600000000000) (hP:Pow w) (hE:Errs w)
  (hN:∀ x∈ls,(∀ a∈x.1.2.2.2,0≤a.2.1∧a.2.1<4294967296)∧(0≤x.1.1∧x.1.1<65536)) (hnc2:n2≤c2) (hn2:n2≤35184372087808) (hr2:Reads w w.heap.size 1 A2 n2 (Ints .u32 ws)) (u2:U32 ws) (_hnc3:n3≤c3) (hn3:n3≤35184372087808) (hr3:Reads w w.heap.size 1 A3 n3 (Ints .u32 path)) (u3:U32 path) :
  Calls Tryz.prog 6 #[.agg (modC gen bound A n c),.int .u32 ty,.slice A2 n2 c2,.slice A3 n3 c3] w (BoolIs true w):=by
 have hb1:=(Below.refl w.heap.size w).alloc (Nat.le_refl _) (.cells (modC gen bound A n c) 25);have k1:=Blk.new w 25 (modC gen bound A n c);have hbo:=both_any gen bound A n c ls _ (hM.step hb1) hn (hP.step hb1) (hE.step hb1) hN;have HPE:=Lib.hid (And.intro hP hE);have R2:=Lib.hid (rd_on hr2 hb1);have hl2:=hr2.len;have HU2:=Lib.hid u2;clear hr2 u2;have R3:=Lib.hid (rd_on hr3 hb1);have hl3:=hr3.len;have HU3:=Lib.hid u3;clear hr3 u3;clear hM hN hP hE;unfold modC at *;obtain ⟨z0,z1,z2⟩:=three_ k1;go_enter Tryz.func6,Tryz.ntmps6;go_wp2_with fail;refine hbo.mono ?_;rintro e w1 ⟨hb2,p,q,T,S,ord,rfl,hV,hQ,hpq⟩;have HV:=Lib.hid hV;have HQ:=Lib.hid hQ;have HPQ:=Lib.hid hpq;have B:=below_cut hb1 hb2 (Nat.le_refl _);replace R2:=Lib.hid (rd_on R2.out hb2)
 replace R3:=Lib.hid (rd_on R3.out hb2)
 clear hbo hV hQ hpq z0 z1 z2 k1 hb1 hb2;have hfew:(getQ q T ty ws path).2.1.length≤4096:=getQ_few HQ.out.ok.ty HU2.out HU3.out;obtain ⟨r,hr⟩:∃ r,r=getQ q T ty ws path:=⟨_,rfl⟩;rw [← hr] at hfew;have HR:=Lib.hid hr;clear hr;obtain ⟨a,x,E⟩:=r;dsimp only at hfew;have hc2:=qget_any q T ord ty A2 n2 c2 ws A3 n3 c3 path w1 HQ.out R2.out hnc2 R3.out (by omega) HU3.out
 rw [← HR.out] at hc2;unfold QGet at hc2;dsimp only at hc2;go_wp2_with fail;refine hc2.mono ?_;rintro e w2 ⟨Ax,cx,rfl,hx2,hb2⟩;clear hc2;replace HQ:=Lib.hid (HQ.out.on hb2)
 replace HV:=Lib.hid (HV.out.on hb2)
 replace B:=below_cut B hb2 (Nat.le_refl _)
 replace R2:=Lib.hid (rd_on R2.out hb2)
 replace R3:=Lib.hid (rd_on R3.out hb2)
 have Rx:=Lib.hid hx2;clear hx2 hb2;have RxC:=Lib.hid Rx.out;have SzC:=B.size;have hc3:=copyWords A2 n2 c2 ws w2 hn2 R2.out;go_wp2_with fail;refine hc3.mono ?_;rintro e w3 ⟨g3,rfl,ho3,hb3⟩;clear hc3;replace HQ:=Lib.hid (HQ.out.on hb3)
 replace HV:=Lib.hid (HV.out.on hb3)
 replace B:=below_cut B hb3 (Nat.le_refl _)
 replace R2:=Lib.hid (rd_on R2.out hb3)
 replace R3:=Lib.hid (rd_on R3.out hb3)
 replace Rx:=Lib.hid (rd_on Rx.out hb3)
 have Oc:=Lib.hid ho3;have NOc:∀ g,(Value.slice (some ⟨g3,0,none⟩) n2 n2).ownBlock=some g→g<w3.heap.size:=fun g hg=>(ho3.lt g hg).2
 have COc:Below w2.heap.size w2 w3:=hb3;have Tc:=Lib.hid (Reads.of_own ho3);clear ho3 hb3;have K1:=Below.refl w3.heap.size w3;have hc4:=copyWords A3 n3 c3 path w3 hn3 R3.out;go_wp2_with fail;refine hc4.mono ?_;rintro e w4 ⟨g4,rfl,ho4,hb4⟩;clear hc4;replace HQ:=Lib.hid (HQ.out.on hb4)
 replace HV:=Lib.hid (HV.out.on hb4)
 replace B:=below_cut B hb4 (Nat.le_refl _)
 replace R2:=Lib.hid (rd_on R2.out hb4)
 replace R3:=Lib.hid (rd_on R3.out hb4)
 replace Rx:=Lib.hid (rd_on Rx.out hb4)
 replace Tc:=Lib.hid (rd_on Tc.out hb4)
 replace Oc:=Lib.hid (own_below Oc.out hb4)
 replace COc:=below_cut COc hb4 (Nat.le_refl _)
 replace K1:=below_cut K1 hb4 (Nat.le_refl _)
 have Td:=Lib.hid (Reads.of_own ho4);clear ho4 hb4;have SzV:=K1.size;have SzW:=B.size;clear K1;have hc5:=vget_q p T S ty (some ⟨g3,0,none⟩) n2 n2 ws (some ⟨g4,0,none⟩) n3 n3 path w4 HV.out Tc.out Td.out (Nat.le_refl _) (by omega) HU3.out
 rw [getQ_eq HPQ.out,← HR.out] at hc5;unfold GenIs at hc5;dsimp only at hc5;go_wp2_with fail;refine hc5.mono ?_;rintro e w5 ⟨Ay,cy,rfl,hy5,hb5⟩;clear hc5;replace HQ:=Lib.hid (HQ.out.on hb5)
 replace HV:=Lib.hid (HV.out.on hb5)
 replace B:=below_cut B hb5 (Nat.le_refl _)
 replace R2:=Lib.hid (rd_on R2.out hb5)
 replace R3:=Lib.hid (rd_on R3.out hb5)
 replace Rx:=Lib.hid (rd_on Rx.out hb5)
 replace Tc:=Lib.hid (rd_on Tc.out hb5)
 replace Td:=Lib.hid (rd_on Td.out hb5)
 replace Oc:=Lib.hid (own_below Oc.out hb5)
 replace COc:=below_cut COc hb5 (Nat.le_refl _)
 have Oy:=Lib.hid hy5;clear hy5 hb5;have Ry:=Lib.hid (Reads.of_own Oy.out);have ea:(a != a)=false:=by simp
 have eE:(E != E)=false:=by simp
 have hc6:=words_same Ay Ax x.length x.length cy cx x x w5 (by omega) Ry.out Rx.out
 rw [same_refl] at hc6;go_wp2_with fail;refine hc6.mono ?_;rintro e w6 ⟨rfl,hd6⟩;have hb6:=hd6.below w5.heap.size;clear hc6 hd6;replace HQ:=Lib.hid (HQ.out.on hb6)
 replace HV:=Lib.hid (HV.out.on hb6)
 replace B:=below_cut B hb6 (Nat.le_refl _)
 replace R2:=Lib.hid (rd_on R2.out hb6)
 replace R3:=Lib.hid (rd_on R3.out hb6)
 replace Rx:=Lib.hid (rd_on Rx.out hb6)
 replace Tc:=Lib.hid (rd_on Tc.out hb6)
 replace Td:=Lib.hid (rd_on Td.out hb6)
 replace Ry:=Lib.hid (rd_on Ry.out hb6)
 replace Oc:=Lib.hid (own_below Oc.out hb6)
 replace Oy:=Lib.hid (own_below Oy.out hb6)
 replace COc:=below_cut COc hb6 (Nat.le_refl _)
 clear hb6;have hc7:=words_same (some ⟨g3,0,none⟩) A2 n2 n2 n2 c2 ws ws w6 (by omega) Tc.out R2.out
 rw [same_refl] at hc7;go_wp2_with fail;refine hc7.mono ?_;rintro e w7 ⟨rfl,hd7⟩;have hb7:=hd7.below w6.heap.size;clear hc7 hd7;replace HQ:=Lib.hid (HQ.out.on hb7)
 replace HV:=Lib.hid (HV.out.on hb7)
 replace B:=below_cut B hb7 (Nat.le_refl _)
 replace R2:=Lib.hid (rd_on R2.out hb7)
 replace R3:=Lib.hid (rd_on R3.out hb7)
 replace Rx:=Lib.hid (rd_on Rx.out hb7)
 replace Tc:=Lib.hid (rd_on Tc.out hb7)
 replace Td:=Lib.hid (rd_on Td.out hb7)
 replace Ry:=Lib.hid (rd_on Ry.out hb7)
 replace Oc:=Lib.hid (own_below Oc.out hb7)
 replace Oy:=Lib.hid (own_below Oy.out hb7)
 replace COc:=below_cut COc hb7 (Nat.le_refl _)
 clear hb7;have hc8:=words_same (some ⟨g4,0,none⟩) A3 n3 n3 n3 c3 path path w7 (by omega) Td.out R3.out
 rw [same_refl] at hc8;go_wp2_with fail;refine hc8.mono ?_;rintro e w8 ⟨rfl,hd8⟩;have hb8:=hd8.below w7.heap.size;clear hc8 hd8;replace HQ:=Lib.hid (HQ.out.on hb8)
 replace HV:=Lib.hid (HV.out.on hb8)
 replace B:=below_cut B hb8 (Nat.le_refl _)
 replace R2:=Lib.hid (rd_on R2.out hb8)
 replace R3:=Lib.hid (rd_on R3.out hb8)
 replace Rx:=Lib.hid (rd_on Rx.out hb8)
 replace Tc:=Lib.hid (rd_on Tc.out hb8)
 replace Td:=Lib.hid (rd_on Td.out hb8)
 replace Ry:=Lib.hid (rd_on Ry.out hb8)
 replace Oc:=Lib.hid (own_below Oc.out hb8)
 replace Oy:=Lib.hid (own_below Oy.out hb8)
 replace COc:=below_cut COc hb8 (Nat.le_refl _)
 clear hb8;have hc9:=spoil_q w2.heap.size w3.heap.size (some ⟨g3,0,none⟩) n2 n2 ws w8 hn2 Oc.out NOc;go_wp2_with fail;refine hc9.mono ?_;rintro e w9 ⟨rfl,hb9,hk9⟩;clear hc9;have Bz:=B.trans (hb9.mono (show w.heap.size≤w2.heap.size from SzC))
 have Oy2:=Lib.hid (own_kept Oy.out SzV hk9);have Rx2:=Lib.hid (rd_on RxC.out (COc.trans hb9));clear hb9 hk9 Rx Ry Tc Td Oc R2 R3 HQ HV B;have B:=Bz;clear Bz;have Ry2:=Lib.hid (Reads.of_own Oy2.out);have hc10:=words_same Ay Ax x.length x.length cy cx x x w9 (by omega) Ry2.out Rx2.out
 rw [same_refl] at hc10;go_wp2_with fail;refine hc10.mono ?_;rintro e w10 ⟨rfl,hd10⟩;have hb10:=hd10.below w9.heap.size;clear hc10 hd10;replace B:=below_cut B hb10 (Nat.le_refl _)
 replace Rx2:=Lib.hid (rd_on Rx2.out hb10)
 replace Ry2:=Lib.hid (rd_on Ry2.out hb10)
 replace Oy2:=Lib.hid (own_below Oy2.out hb10)
 clear hb10;have hc11:=spoil_q w4.heap.size w10.heap.size Ay x.length cy x w10 (by omega) Oy2.out (fun g hg=>(Oy2.out.lt g hg).2)
 go_wp2_with fail;refine hc11.mono ?_;rintro e w11 ⟨rfl,hb11,-⟩;clear hc11;replace B:=B.trans (hb11.mono (show w.heap.size≤w4.heap.size from SzW))
 clear hb11;have hc12:=awake12_any w11 (HPE.out.1.step B) (HPE.out.2.step B);go_wp2_with fail;refine hc12.mono ?_;rintro e w12 ⟨rfl,hb12⟩;clear hc12;go_wp2_with fail;go_ret
 exact ⟨rfl,below_cut B hb12 (Nat.le_refl _)⟩
end Go.Proofs.YtkfjjkibbjlldaaGreatDoor
