/- Walks: the law of ValueText: every Text; what is handed in stays. -/
import Derived.Test.YtkfjjkibbjlldaaGreatDoorCQC
set_option maxRecDepth 100000
set_option maxHeartbeats 8000000
namespace Go.Proofs.YtkfjjkibbjlldaaGreatDoor
open Go.RowKit
theorem law_qtext (gen bound:Int) (A:Option Addr) (n c:Nat) (ls:List InstA) (ty:Int) (A2:Option Addr) (n2 c2:Nat) (ws:List Int) (w:World) (hM:ModS w w.heap.size A n ls) (hn:n≤3600000000000) (hP:Pow w) (hE:Errs w)
  (hN:∀ x∈ls,(∀ a∈x.1.2.2.2,0≤a.2.1∧a.2.1<4294967296)∧(0≤x.1.1∧x.1.1<65536)) (hnc2:n2≤c2) (hn2:n2≤35184372087808) (hr2:Reads w w.heap.size 1 A2 n2 (Ints .u32 ws)) (u2:U32 ws) :
  Calls Tryz.prog 4 #[.agg (modC gen bound A n c),.int .u32 ty,.slice A2 n2 c2] w (BoolIs true w):=by
 have hb1:=(Below.refl w.heap.size w).alloc (Nat.le_refl _) (.cells (modC gen bound A n c) 25);have k1:=Blk.new w 25 (modC gen bound A n c);have hbo:=both_any gen bound A n c ls _ (hM.step hb1) hn (hP.step hb1) (hE.step hb1) hN;have HPE:=Lib.hid (And.intro hP hE);have R2:=Lib.hid (rd_on hr2 hb1);have hl2:=hr2.len;have HU2:=Lib.hid u2;clear hr2 u2;clear hM hN hP hE;unfold modC at *;obtain ⟨z0,z1,z2⟩:=three_ k1;go_enter Tryz.func4,Tryz.ntmps4;go_wp2_with fail;refine hbo.mono ?_;rintro e w1 ⟨hb2,p,q,T,S,ord,rfl,hV,hQ,hpq⟩;have HV:=Lib.hid hV;have HQ:=Lib.hid hQ;have HPQ:=Lib.hid hpq;have B:=below_cut hb1 hb2 (Nat.le_refl _);replace R2:=Lib.hid (rd_on R2.out hb2)
 clear hbo hV hQ hpq z0 z1 z2 k1 hb1 hb2;obtain ⟨⟨x,E⟩,hr⟩:∃ r,r=textQ q T ty ws:=⟨_,rfl⟩;have HR:=Lib.hid hr;clear hr;have hc2:=qtxt_any q T ord ty A2 n2 c2 ws w1 HQ.out (HPE.out.1.step B) R2.out hnc2 HU2.out;rw [← HR.out] at hc2;dsimp only at hc2;go_wp2_with fail;refine hc2.mono ?_;rintro e w2 ⟨rfl,hb2⟩;clear hc2;replace HQ:=Lib.hid (HQ.out.on hb2)
 replace HV:=Lib.hid (HV.out.on hb2)
 replace B:=below_cut B hb2 (Nat.le_refl _)
 replace R2:=Lib.hid (rd_on R2.out hb2)
 clear hb2;have hc3:=copyWords A2 n2 c2 ws w2 hn2 R2.out;go_wp2_with fail;refine hc3.mono ?_;rintro e w3 ⟨g3,rfl,ho3,hb3⟩;clear hc3;replace HQ:=Lib.hid (HQ.out.on hb3)
 replace HV:=Lib.hid (HV.out.on hb3)
 replace B:=below_cut B hb3 (Nat.le_refl _)
 replace R2:=Lib.hid (rd_on R2.out hb3)
 have T1:=Lib.hid (Reads.of_own ho3);clear ho3 hb3;have hc4:=vtext_q p T S ty (some ⟨g3,0,none⟩) n2 n2 ws w3 HV.out T1.out (Nat.le_refl _) HU2.out;rw [textQ_eq HPQ.out,← HR.out] at hc4;dsimp only at hc4;have ex:(x.toList==x.toList)=true:=by simp
 have ee:(E==E)=true:=by simp
 go_wp2_with fail;refine hc4.mono ?_;rintro e w4 ⟨rfl,hb4⟩;clear hc4;replace HQ:=Lib.hid (HQ.out.on hb4)
 replace HV:=Lib.hid (HV.out.on hb4)
 replace B:=below_cut B hb4 (Nat.le_refl _)
 replace R2:=Lib.hid (rd_on R2.out hb4)
 replace T1:=Lib.hid (rd_on T1.out hb4)
 clear hb4;have hc5:=words_same (some ⟨g3,0,none⟩) A2 n2 n2 n2 c2 ws ws w4 (by omega) T1.out R2.out
 rw [same_refl] at hc5;go_wp2_with fail;refine hc5.mono ?_;rintro e w5 ⟨rfl,hd5⟩;have hb5:=hd5.below w4.heap.size;clear hc5 hd5;replace HQ:=Lib.hid (HQ.out.on hb5)
 replace HV:=Lib.hid (HV.out.on hb5)
 replace B:=below_cut B hb5 (Nat.le_refl _)
 replace R2:=Lib.hid (rd_on R2.out hb5)
 replace T1:=Lib.hid (rd_on T1.out hb5)
 clear hb5;have hc6:=awake12_any w5 (HPE.out.1.step B) (HPE.out.2.step B);go_wp2_with fail;refine hc6.mono ?_;rintro e w6 ⟨rfl,hb6⟩;clear hc6;go_wp2_with fail;go_ret
 exact ⟨rfl,below_cut B hb6 (Nat.le_refl _)⟩
end Go.Proofs.YtkfjjkibbjlldaaGreatDoor
