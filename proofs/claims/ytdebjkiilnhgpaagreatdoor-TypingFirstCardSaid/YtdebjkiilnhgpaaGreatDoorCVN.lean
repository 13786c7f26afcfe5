/- Walks: the law of TypingFirst: Check tells the first place that does not fit. -/
import Derived.Test.YtdebjkiilnhgpaaGreatDoorCVM
set_option maxRecDepth 100000
set_option maxHeartbeats 8000000
namespace Go.Proofs.YtdebjkiilnhgpaaGreatDoor
open Go.RowKit
theorem toNat_lt_ {a:Int} {m:Nat} (h0:0≤a) (h:a<(m:Int)):a.toNat<m:=by omega
theorem law_first (gen bound:Int) (A:Option Addr) (n c:Nat) (ls:List InstA) (from_:Int) (w:World) (hM:ModS w w.heap.size A n ls) (hn:n≤3600000000000) (hP:Pow w)
  (hN:∀ x∈ls,(∀ a∈x.1.2.2.2,0≤a.2.1∧a.2.1<4294967296)∧(0≤x.1.1∧x.1.1<65536)) (hf : -9223372036854775808≤from_∧from_<9223372036854775808) :
  Calls Tryz.prog 3 #[.agg (modC gen bound A n c),.int .i64 from_] w (BoolIs true w):=by
 obtain ⟨L,hL⟩:∃ L,ls.map (·.1)=L:=⟨_,rfl⟩;have hlL:L.length=n:=by rw [← hL];exact hM.length
 have hu:∀ i∈L,∀ a∈i.2.2.2,0≤a.2.1∧a.2.1<4294967296:=fun i hi=>by
  rw [← hL] at hi;obtain ⟨x,hx,rfl⟩:=List.mem_map.1 hi;exact (hN x hx).1
 have hop:∀ i∈L,0≤i.1∧i.1<65536:=fun i hi=>by
  rw [← hL] at hi;obtain ⟨x,hx,rfl⟩:=List.mem_map.1 hi;exact (hN x hx).2
 have hcp:=fun (w':World) (hb:Below w.heap.size w w')=>cop_any gen bound A n c ls L w' (hM.step hb) hL hn hu hop (hP.step hb)
 have hb1:=(Below.refl w.heap.size w).alloc (Nat.le_refl _) (.cells (modC gen bound A n c) 25);have k1:=Blk.new w 25 (modC gen bound A n c);have hse:=fun a b=>spotT_eq a b
 have hsg:=spotT_guard;clear hN hM hL hu hop;unfold modC CopIs at *;obtain ⟨z0,z1,z2⟩:=three_ k1;go_enter Tryz.func3,Tryz.ntmps3;go_wp2_with fail;refine (hcp _ hb1).mono ?_;rintro e w2 ⟨g2,l2,rfl,hT2,-,hb2⟩;have hB2:=below_cut hb1 hb2 (Nat.le_refl _);have hck:=chk_any gen bound (some ⟨g2,0,none⟩) n n l2 L w2 hT2;have k2:=k1.step hb2;unfold modC SpotIs at hck;generalize hch:chkM bound L=ch at hck;obtain ⟨s1,s2⟩:=ch;dsimp only at hck;clear k1 z0 z1 z2;go_wp2_with fail;refine hck.mono ?_;rintro e w3 ⟨rfl,hb3⟩;have hB3:=below_cut hB2 hb3 (Nat.le_refl _);have k3:=(k2.step hb3).alloc (.cells #[.int .i64 s1,.int .i64 s2] 28);have kS:=Blk.new w3 28 #[.int .i64 s1,.int .i64 s2];have hB4:=hB3.alloc hB3.size (.cells #[.int .i64 s1,.int .i64 s2] 28);obtain ⟨z0,z1,z2⟩:=three_ k3;clear hck k2;go_wp2_with fail;obtain ⟨gs,hgs⟩:∃ gs,w3.heap.size=gs:=⟨_,rfl⟩;rw [hgs] at kS ⊢;generalize (w3.alloc (.cells #[.int .i64 s1,.int .i64 s2] 28))=W4 at *;clear hgs;refine (hcp _ hB4).mono ?_;rintro e w5 ⟨g5,l5,rfl,hT5,-,hb5⟩;have hB5:=below_cut hB4 hb5 (Nat.le_refl _);have hcn:=consts_any gen bound l5 (some ⟨g5,0,none⟩) n n w5 hT5.mod hT5.pow (fun x hx=>hT5.u x.1 (by rw [← hT5.map];exact List.mem_map.2 ⟨x,hx,rfl⟩)) (fun x hx=>hT5.op x.1 (by rw [← hT5.map];exact List.mem_map.2 ⟨x,hx,rfl⟩))
 rw [hT5.map] at hcn;have k5:=k3.step hb5;have kS5:=kS.step hb5;unfold modC ConIs at hcn;clear k3 kS z0 z1 z2;go_wp2_with fail;refine hcn.mono ?_;rintro e w6 ⟨hb6,⟨h0,gp,gt,S,rfl,-⟩ | ⟨h0,rfl⟩⟩
 ·have hB6:=below_cut hB5 hb6 (Nat.le_refl _);have kM:=(k5.step hb6).alloc (.cells #[.int .i64 0,.int .i64 0] 28);have kS:=(kS5.step hb6).alloc (.cells #[.int .i64 0,.int .i64 0] 28);have kT:=Blk.new w6 28 #[.int .i64 0,.int .i64 0];have hB:=hB6.alloc hB6.size (.cells #[.int .i64 0,.int .i64 0] 28);obtain ⟨x0,x1⟩:=two_ kS;obtain ⟨t0,t1⟩:=two_ kT;have H0:=Lib.hid h0;have hsp:=chkL_spec (tgM bound L) L L 0 rfl;rw [show chkL (tgM bound L) L (backL (L.take 0)) 0=chkM bound L by unfold chkM;rw [if_neg (fun h=>h h0)];rfl,hch] at hsp
  clear hcn k5 kS5 hch h0 hse hsg
  rcases hsp with ⟨e1,e2,HFz⟩ | ⟨e1,m,e2,-,-,HFz⟩
  ·have HF:=Lib.hid HFz;clear HFz;dsimp only at e1 e2;subst e1 e2;go_wp2_with fail;clear x0 x1 t0 t1 kT;generalize (w6.alloc (.cells #[.int .i64 0,.int .i64 0] 28))=W7 at *;go_loopg [8] 20 (fun q i wr=>∃ j:Nat,j+q=20∧i=.int .i64 (from_+(j:Nat))∧Blk wr w.heap.size 25 #[.int .u32 gen,.int .u32 bound,.slice A n c]∧Blk wr gs 28 #[.int .i64 0,.int .i64 0]∧Below w.heap.size w wr)
   case atStart=>exact ⟨0,by omega,by simp,kM,kS,hB⟩
   case round =>
    obtain ⟨j,hq,rfl,kMr,kSr,hbr⟩:=hrel;clear kM kS hB;obtain ⟨y0,y1,y2⟩:=three_ kMr;have hj:((j:Nat):Int)≤20:=by omega
    obtain ⟨a,ha⟩:∃ a,a=from_+(j:Nat):=⟨_,rfl⟩;rw [← ha]
    by_cases hneg:a<0
    ·have da:decide (a≥0)=false:=by rw [decide_eq_false_iff_not];omega
     have da2:decide (0≤a)=false:=by rw [decide_eq_false_iff_not];omega
     clear hcp;go_wp2_with fail;refine (awake18_any _ (hP.step hbr)).mono ?_;rintro e w9 ⟨rfl,hb9⟩;go_wp2_with fail;go_ret
     exact ⟨rfl,below_cut hbr hb9 (Nat.le_refl _)⟩
    ·have da:decide (a≥0)=true:=by rw [decide_eq_true_eq];omega
     have da2:decide (0≤a)=true:=by rw [decide_eq_true_eq];omega
     by_cases hbig:((n:Nat):Int)≤a
     ·have db:decide (a<((n:Nat):Int))=false:=by rw [decide_eq_false_iff_not];omega
      clear hcp;go_wp2_with fail;refine (awake18_any _ (hP.step hbr)).mono ?_;rintro e w9 ⟨rfl,hb9⟩;go_wp2_with fail;go_ret
      exact ⟨rfl,below_cut hbr hb9 (Nat.le_refl _)⟩
     ·have db:decide (a<((n:Nat):Int))=true:=by rw [decide_eq_true_eq];omega
      have hsub:IntKind.i64.wrap (a-from_)=((j:Nat):Int):=by rw [IntWalk.i64_in _ (by omega)];omega
      by_cases hend:j=20
      ·subst hend;have dc:decide ((((20:Nat):Nat):Int)<20)=false:=by decide
       clear hcp;go_wp2_with fail;refine (awake18_any _ (hP.step hbr)).mono ?_;rintro e w9 ⟨rfl,hb9⟩;go_wp2_with fail;go_ret
       exact ⟨rfl,below_cut hbr hb9 (Nat.le_refl _)⟩
      ·have dc:decide (((j:Nat):Int)<20)=true:=by rw [decide_eq_true_eq];omega
       have hfm:fitM bound L a=(fitAt (tgM bound L) L a.toNat,0,0):=by
        unfold fitM;rw [if_neg (fun h=>h H0.out),if_neg (by rw [hlL];omega)]
       have hA1:IntKind.i64.wrap (a+1)=a+1:=IntWalk.i64_in _ (by omega)
       have hA2:a+1=from_+((j+1:Nat):Int):=by rw [ha];push_cast;omega
       have HA2:=Lib.hid hA2;have HQ:=Lib.hid (show j+1+(19-j)=20∧19-j<gk by omega)
       have HHA:=Lib.hid ha;have HAT:=Lib.hid (show ((a.toNat:Nat):Int)=a by omega)
       clear ha hA2;have his:fitAt (tgM bound L) L a.toNat=true:=HF.out _ (Nat.zero_le _) (by rw [hlL];omega)
       rw [his] at hfm;have hf:=fun (w':World) (g:Nat) (l:List InstA) (hT:ModT w' (some ⟨g,0,none⟩) n n l L)=>fitM_any gen bound (some ⟨g,0,none⟩) n n l L a w' hT
       unfold FitIs at hf;rw [hfm] at hf;clear his hfm;go_wp2_with fail;refine (hcp _ hbr).mono ?_;rintro e w5 ⟨g5,l5,rfl,hT5,-,hb5⟩;have hB5:=below_cut hbr hb5 (Nat.le_refl _);have hf5:=hf w5 g5 l5 hT5;clear hf;go_wp2_with fail;refine hf5.mono ?_;rintro e w6 ⟨rfl,hb6⟩;have hB6:=below_cut hB5 hb6 (Nat.le_refl _);have kM6:=((kMr.step hb5).step hb6).alloc (.cells #[.int .i64 0,.int .i64 0] 28);have kS6:=((kSr.step hb5).step hb6).alloc (.cells #[.int .i64 0,.int .i64 0] 28);have kT6:=Blk.new w6 28 #[.int .i64 0,.int .i64 0];have hB7:=hB6.alloc hB6.size (.cells #[.int .i64 0,.int .i64 0] 28);obtain ⟨x0,x1⟩:=two_ kS6;obtain ⟨t0,t1⟩:=two_ kT6;clear hf5 y0 y1 y2;go_wp2_with fail;go_roundg (19-j)
       case measure=>exact HQ.out.2
       case rel=>exact ⟨j+1,HQ.out.1,congrArg (Value.int .i64) HA2.out,kM6,kS6,hB7⟩
  ·have HF:=Lib.hid HFz;clear HFz;dsimp only at e1 e2;subst e1 e2;go_wp2_with fail;clear x0 x1 t0 t1 kT;generalize (w6.alloc (.cells #[.int .i64 0,.int .i64 0] 28))=W7 at *;go_loopg [8] 20 (fun q i wr=>∃ j:Nat,j+q=20∧i=.int .i64 (from_+(j:Nat))∧Blk wr w.heap.size 25 #[.int .u32 gen,.int .u32 bound,.slice A n c]∧Blk wr gs 28 #[.int .i64 180,.int .i64 ((m:Nat):Int)]∧Below w.heap.size w wr)
   case atStart=>exact ⟨0,by omega,by simp,kM,kS,hB⟩
   case round =>
    obtain ⟨j,hq,rfl,kMr,kSr,hbr⟩:=hrel;clear kM kS hB;obtain ⟨y0,y1,y2⟩:=three_ kMr;have hj:((j:Nat):Int)≤20:=by omega
    obtain ⟨a,ha⟩:∃ a,a=from_+(j:Nat):=⟨_,rfl⟩;rw [← ha]
    by_cases hneg:a<0
    ·have da:decide (a≥0)=false:=by rw [decide_eq_false_iff_not];omega
     have da2:decide (0≤a)=false:=by rw [decide_eq_false_iff_not];omega
     clear hcp;go_wp2_with fail;refine (awake18_any _ (hP.step hbr)).mono ?_;rintro e w9 ⟨rfl,hb9⟩;go_wp2_with fail;go_ret
     exact ⟨rfl,below_cut hbr hb9 (Nat.le_refl _)⟩
    ·have da:decide (a≥0)=true:=by rw [decide_eq_true_eq];omega
     have da2:decide (0≤a)=true:=by rw [decide_eq_true_eq];omega
     by_cases hbig:((n:Nat):Int)≤a
     ·have db:decide (a<((n:Nat):Int))=false:=by rw [decide_eq_false_iff_not];omega
      clear hcp;go_wp2_with fail;refine (awake18_any _ (hP.step hbr)).mono ?_;rintro e w9 ⟨rfl,hb9⟩;go_wp2_with fail;go_ret
      exact ⟨rfl,below_cut hbr hb9 (Nat.le_refl _)⟩
     ·have db:decide (a<((n:Nat):Int))=true:=by rw [decide_eq_true_eq];omega
      have hsub:IntKind.i64.wrap (a-from_)=((j:Nat):Int):=by rw [IntWalk.i64_in _ (by omega)];omega
      by_cases hend:j=20
      ·subst hend;have dc:decide ((((20:Nat):Nat):Int)<20)=false:=by decide
       clear hcp;go_wp2_with fail;refine (awake18_any _ (hP.step hbr)).mono ?_;rintro e w9 ⟨rfl,hb9⟩;go_wp2_with fail;go_ret
       exact ⟨rfl,below_cut hbr hb9 (Nat.le_refl _)⟩
      ·have dc:decide (((j:Nat):Int)<20)=true:=by rw [decide_eq_true_eq];omega
       have hfm:fitM bound L a=(fitAt (tgM bound L) L a.toNat,0,0):=by
        unfold fitM;rw [if_neg (fun h=>h H0.out),if_neg (by rw [hlL];omega)]
       have hA1:IntKind.i64.wrap (a+1)=a+1:=IntWalk.i64_in _ (by omega)
       have hA2:a+1=from_+((j+1:Nat):Int):=by rw [ha];push_cast;omega
       have HA2:=Lib.hid hA2;have HQ:=Lib.hid (show j+1+(19-j)=20∧19-j<gk by omega)
       have HHA:=Lib.hid ha;have HAT:=Lib.hid (show ((a.toNat:Nat):Int)=a by omega)
       clear ha hA2;have h0a:=Int.not_lt.1 hneg
       rcases Int.lt_trichotomy a (m:Nat) with hlt | heq | hgt
       ·have dd:decide (a≤((m:Nat):Int))=true:=decide_eq_true (Int.le_of_lt hlt);have de:decide (a<((m:Nat):Int))=true:=decide_eq_true hlt;have hiz:=HF.out.2 _ (Nat.zero_le _) (toNat_lt_ h0a hlt);clear hlt h0a;have his:fitAt (tgM bound L) L a.toNat=true:=hiz;rw [his] at hfm;have hf:=fun (w':World) (g:Nat) (l:List InstA) (hT:ModT w' (some ⟨g,0,none⟩) n n l L)=>fitM_any gen bound (some ⟨g,0,none⟩) n n l L a w' hT
        unfold FitIs at hf;rw [hfm] at hf;clear his hfm;go_wp2_with fail;refine (hcp _ hbr).mono ?_;rintro e w5 ⟨g5,l5,rfl,hT5,-,hb5⟩;have hB5:=below_cut hbr hb5 (Nat.le_refl _);have hf5:=hf w5 g5 l5 hT5;clear hf;go_wp2_with fail;refine hf5.mono ?_;rintro e w6 ⟨rfl,hb6⟩;have hB6:=below_cut hB5 hb6 (Nat.le_refl _);have kM6:=((kMr.step hb5).step hb6).alloc (.cells #[.int .i64 0,.int .i64 0] 28);have kS6:=((kSr.step hb5).step hb6).alloc (.cells #[.int .i64 0,.int .i64 0] 28);have kT6:=Blk.new w6 28 #[.int .i64 0,.int .i64 0];have hB7:=hB6.alloc hB6.size (.cells #[.int .i64 0,.int .i64 0] 28);obtain ⟨x0,x1⟩:=two_ kS6;obtain ⟨t0,t1⟩:=two_ kT6;clear hf5 y0 y1 y2;go_wp2_with fail;go_roundg (19-j)
        case measure=>exact HQ.out.2
        case rel=>exact ⟨j+1,HQ.out.1,congrArg (Value.int .i64) HA2.out,kM6,kS6,hB7⟩
       ·have dd:decide (a≤((m:Nat):Int))=true:=decide_eq_true (Int.le_of_eq heq);have de:decide (a<((m:Nat):Int))=false:=decide_eq_false (by rw [heq];exact Int.lt_irrefl _)
        have hiz:fitAt (tgM bound L) L a.toNat=false:=by rw [heq,Int.toNat_natCast];exact HF.out.1
        clear heq h0a;have his:fitAt (tgM bound L) L a.toNat=false:=hiz;rw [his] at hfm;have hf:=fun (w':World) (g:Nat) (l:List InstA) (hT:ModT w' (some ⟨g,0,none⟩) n n l L)=>fitM_any gen bound (some ⟨g,0,none⟩) n n l L a w' hT
        unfold FitIs at hf;rw [hfm] at hf;clear his hfm;go_wp2_with fail;refine (hcp _ hbr).mono ?_;rintro e w5 ⟨g5,l5,rfl,hT5,-,hb5⟩;have hB5:=below_cut hbr hb5 (Nat.le_refl _);have hf5:=hf w5 g5 l5 hT5;clear hf;go_wp2_with fail;refine hf5.mono ?_;rintro e w6 ⟨rfl,hb6⟩;have hB6:=below_cut hB5 hb6 (Nat.le_refl _);have kM6:=((kMr.step hb5).step hb6).alloc (.cells #[.int .i64 0,.int .i64 0] 28);have kS6:=((kSr.step hb5).step hb6).alloc (.cells #[.int .i64 0,.int .i64 0] 28);have kT6:=Blk.new w6 28 #[.int .i64 0,.int .i64 0];have hB7:=hB6.alloc hB6.size (.cells #[.int .i64 0,.int .i64 0] 28);obtain ⟨x0,x1⟩:=two_ kS6;obtain ⟨t0,t1⟩:=two_ kT6;clear hf5 y0 y1 y2;go_wp2_with fail;go_roundg (19-j)
        case measure=>exact HQ.out.2
        case rel=>exact ⟨j+1,HQ.out.1,congrArg (Value.int .i64) HA2.out,kM6,kS6,hB7⟩
       ·have dd:decide (a≤((m:Nat):Int))=false:=decide_eq_false (Int.not_le.2 hgt);clear hgt h0a;obtain ⟨vb,hcs⟩:∃ vb,fitAt (tgM bound L) L a.toNat=vb:=⟨_,rfl⟩;have his:fitAt (tgM bound L) L a.toNat=vb:=hcs;rw [his] at hfm;have hf:=fun (w':World) (g:Nat) (l:List InstA) (hT:ModT w' (some ⟨g,0,none⟩) n n l L)=>fitM_any gen bound (some ⟨g,0,none⟩) n n l L a w' hT
        unfold FitIs at hf;rw [hfm] at hf;clear his hfm;go_wp2_with fail;refine (hcp _ hbr).mono ?_;rintro e w5 ⟨g5,l5,rfl,hT5,-,hb5⟩;have hB5:=below_cut hbr hb5 (Nat.le_refl _);have hf5:=hf w5 g5 l5 hT5;clear hf;go_wp2_with fail;refine hf5.mono ?_;rintro e w6 ⟨rfl,hb6⟩;have hB6:=below_cut hB5 hb6 (Nat.le_refl _);have kM6:=((kMr.step hb5).step hb6).alloc (.cells #[.int .i64 0,.int .i64 0] 28);have kS6:=((kSr.step hb5).step hb6).alloc (.cells #[.int .i64 0,.int .i64 0] 28);have kT6:=Blk.new w6 28 #[.int .i64 0,.int .i64 0];have hB7:=hB6.alloc hB6.size (.cells #[.int .i64 0,.int .i64 0] 28);obtain ⟨x0,x1⟩:=two_ kS6;obtain ⟨t0,t1⟩:=two_ kT6;clear hf5 y0 y1 y2;go_wp2_with fail;go_roundg (19-j)
        case measure=>exact HQ.out.2
        case rel=>exact ⟨j+1,HQ.out.1,congrArg (Value.int .i64) HA2.out,kM6,kS6,hB7⟩
 ·have hB6:=below_cut hB5 hb6 (Nat.le_refl _);have hch2:chkM bound L=((conM bound L).1,(conM bound L).2.1):=by unfold chkM;rw [if_pos h0]
  rw [hch2] at hch;injection hch with e1 e2
  subst e1 e2;have kS:=(kS5.step hb6).alloc (.cells #[.int .i64 (conM bound L).1,.int .i64 (conM bound L).2.1] 28);have kT:=Blk.new w6 28 #[.int .i64 (conM bound L).1,.int .i64 (conM bound L).2.1];have hB:=hB6.alloc hB6.size (.cells #[.int .i64 (conM bound L).1,.int .i64 (conM bound L).2.1] 28);obtain ⟨x0,x1⟩:=two_ kS;obtain ⟨t0,t1⟩:=two_ kT;have hse9:=hse (conM bound L).1 (conM bound L).2.1;generalize (conM bound L).1=e1 at *;generalize (conM bound L).2.1=e2 at *;have d1:(e1 != 0)=true:=by simpa using h0
  clear hcn k5 kS5 h0 hse hch2;clear hcp;go_wp2_with fail;refine (awake18_any _ (hP.step hB)).mono ?_;rintro e w9 ⟨rfl,hb9⟩;go_wp2_with fail;go_ret
  exact ⟨rfl,below_cut hB hb9 (Nat.le_refl _)⟩
end Go.Proofs.YtdebjkiilnhgpaaGreatDoor
