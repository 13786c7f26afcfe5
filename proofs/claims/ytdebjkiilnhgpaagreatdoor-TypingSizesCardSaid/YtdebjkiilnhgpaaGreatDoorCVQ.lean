/- Walks: the law of TypingSizes: of a typed module words fit words. -/
import Derived.Deep.DeepCutAuto
import Derived.Test.YtdebjkiilnhgpaaGreatDoorCVM
set_option maxRecDepth 100000
set_option maxHeartbeats 16000000
namespace Go.Proofs.YtdebjkiilnhgpaaGreatDoor
open Go.RowKit
theorem chk_con {bound:Int} {L:List InstI} (h:(chkM bound L).1=0):(conM bound L).1=0:=by
 by_cases h1:(conM bound L).1=0
 ·exact h1
 ·unfold chkM at h;rw [if_pos h1] at h;exact absurd h h1
theorem field_spot0 (a b:Value) (w:World):(Instr.field 28 (.agg #[a,b]) 0).run Tryz.prog w=.ok a w:=by kernel_rfl
theorem law_tsizes (gen bound:Int) (A:Option Addr) (n c:Nat) (ls:List InstA) (from_:Int) (w:World) (hM:ModS w w.heap.size A n ls) (hn:n≤3600000000000) (hP:Pow w)
  (hN:∀ x∈ls,(∀ a∈x.1.2.2.2,0≤a.2.1∧a.2.1<4294967296)∧(0≤x.1.1∧x.1.1<65536)) :
  Calls Tryz.prog 5 #[.agg (modC gen bound A n c),.int .i64 from_] w (BoolIs true w):=by
 obtain ⟨L,hL⟩:∃ L,ls.map (·.1)=L:=⟨_,rfl⟩;have hls:ls.length=n:=hM.reads.insts_len;have hu:∀ i∈L,∀ a∈i.2.2.2,0≤a.2.1∧a.2.1<4294967296:=fun i hi=>by
  rw [← hL] at hi;obtain ⟨x,hx,rfl⟩:=List.mem_map.1 hi;exact (hN x hx).1
 have hop:∀ i∈L,0≤i.1∧i.1<65536:=fun i hi=>by
  rw [← hL] at hi;obtain ⟨x,hx,rfl⟩:=List.mem_map.1 hi;exact (hN x hx).2
 have hcp:=fun (w':World) (hb:Below w.heap.size w w')=>cop_any gen bound A n c ls L w' (hM.step hb) hL hn hu hop (hP.step hb)
 have hb1:=(Below.refl w.heap.size w).alloc (Nat.le_refl _) (.cells (modC gen bound A n c) 25);have k1:=Blk.new w 25 (modC gen bound A n c);have HM:=Lib.hid hM;have HL:=Lib.hid hL;have HU:=Lib.hid (And.intro hu hop);clear hN hM hL hu hop;unfold modC CopIs at *;obtain ⟨z0,z1,z2⟩:=three_ k1;go_enter Tryz.func5,Tryz.ntmps5;go_wp2_with fail;refine (hcp _ hb1).mono ?_;rintro e w2 ⟨g2,l2,rfl,hT2,-,hb2⟩;have hB2:=below_cut hb1 hb2 (Nat.le_refl _);have hck:=chk_any gen bound (some ⟨g2,0,none⟩) n n l2 L w2 hT2;have k2:=k1.step hb2;have hfl:=field_spot0;unfold modC SpotIs at hck;clear k1 z0 z1 z2
 by_cases hc0:(chkM bound L).1=0
 ·have h0:=chk_con hc0;have HSZ:=Lib.hid (typed_sizes hc0);obtain ⟨hn0,hs2,-,-,-⟩:=conM_ok h0;have hTe:(tgM bound L).T=(newM bound L).2.2.T:=by unfold tgM;rw [hs2]
  generalize (chkM bound L).2=c2 at hck;rw [hc0] at hck;clear hs2 hc0;go_wp2_with fail;refine hck.mono ?_;rintro e w3 ⟨rfl,hb3⟩;have hB3:=below_cut hB2 hb3 (Nat.le_refl _);have k3:=k2.step hb3;obtain ⟨z0,z1,z2⟩:=three_ k3;clear hck k2;go_wp2_with fail;refine (hcp _ hB3).mono ?_;rintro e w4 ⟨g4,l4,rfl,hT4,-,hb4⟩;have hB4:=below_cut hB3 hb4 (Nat.le_refl _);have hnw:=new_any gen bound l4 (some ⟨g4,0,none⟩) n n w4 hT4.mod hT4.pow (fun x hx=>hT4.u x.1 (by rw [← hT4.map];exact List.mem_map.2 ⟨x,hx,rfl⟩)) (fun x hx=>hT4.op x.1 (by rw [← hT4.map];exact List.mem_map.2 ⟨x,hx,rfl⟩))
  rw [hT4.map] at hnw;have k4:=k3.step hb4;unfold modC at hnw;clear k3 z0 z1 z2;go_wp2_with fail;refine hnw.mono ?_;rintro e w5 ⟨hb5,⟨-,-,gt,rfl,S,hTb,-⟩ | ⟨h1,-⟩⟩
  ·have hB5:=below_cut hB4 hb5 (Nat.le_refl _);have k5:=(k4.step hb5).alloc (.cells #[.int .i64 0,.int .i64 0] 28);have kT:=Blk.new w5 28 #[.int .i64 0,.int .i64 0];have hB:=hB5.alloc hB5.size (.cells #[.int .i64 0,.int .i64 0] 28);have hTb5:=hTb.step ((Below.refl w5.heap.size w5).alloc (Nat.le_refl _) (.cells #[.int .i64 0,.int .i64 0] 28));obtain ⟨t0,t1⟩:=two_ kT;rw [← hTe] at hTb5;clear hnw k4 hTe hn0 hTb;go_wp2_with fail;clear t0 t1 kT;generalize (w5.alloc (.cells #[.int .i64 0,.int .i64 0] 28))=W at *;have HSD:=Lib.hid (fun (id:Int) (w':World) (hb:Below W.heap.size W w')=>sized_any gen bound A n c gt ls L S id w' (HM.out.step (below_cut hB hb (Nat.le_refl _))) HL.out hn HU.out.1 HU.out.2 (hP.step (below_cut hB hb (Nat.le_refl _))) (hTb5.step hb) h0)
   have HTS:=Lib.hid (fun (u:Int) (w':World) (hb:Below W.heap.size W w')=>sizeM_any _ _ _ u w' (hTb5.step hb).tab)
   have HMW:=Lib.hid (HM.out.step hB);have HB:=Lib.hid hB;clear hTb5 h0 hcp hB;go_loopg [7,8] n (fun q cv i wr=>∃ (k:Nat) (cn:Int),k+q=n∧cv=.int .i64 cn∧i=.int .i64 (k:Nat)∧Hid (0≤cn∧cn≤21)∧Blk wr w.heap.size 25 #[.int .u32 gen,.int .u32 bound,.slice A n c]∧Below W.heap.size W wr)
   case atStart=>exact ⟨0,0,by omega,rfl,rfl,Lib.hid ⟨Int.le_refl _,by decide⟩,k5,Below.refl _ _⟩
   case round =>
    obtain ⟨k,cn,hq,rfl,rfl,HC1,kMr,hWr⟩:=hrel;clear k5
    by_cases hlt:k<n
    ·have hmem:=ig_mem (l:=ls) (k:=k) (by omega)
     have HSI:=Lib.hid (HSZ.out (ig ls k).1 (by rw [← HL.out];exact List.mem_map.2 ⟨_,hmem,rfl⟩))
     obtain ⟨ib,io,rfl,hib,hcc⟩:=(HMW.out.step hWr).reads.insts (by omega)
     obtain ⟨c0,c1,c2,c3⟩:=hcc k hlt;have hrd:=((HMW.out.step hWr).ok _ hmem).reads;have HQ:=Lib.hid (show k+1+(n-(k+1))=n∧n-(k+1)<gk by omega)
     clear hcc hmem;generalize ig ls k=x at *;obtain ⟨⟨op,ty,res,al⟩,A',n',c'⟩:=x;dsimp only at c0 c1 c2 c3 HSI hrd;have hal:=hrd.args_len;have d1:decide (((k:Nat):Int)<(n:Nat))=true:=by rw [decide_eq_true_eq];omega
     have hi1:((k:Nat):Int)<(n:Nat):=by omega
     obtain ⟨z0,z1,z2,z3⟩:=four_ (Blk.new wr 42 #[.int .u16 op,.int .u32 ty,.int .u32 res,.slice A' n' c']);have kMa:=kMr.alloc (.cells #[.int .u16 op,.int .u32 ty,.int .u32 res,.slice A' n' c'] 42);have hba:=hWr.alloc hWr.size (.cells #[.int .u16 op,.int .u32 ty,.int .u32 res,.slice A' n' c'] 42);obtain ⟨y0,y1,y2⟩:=three_ kMa;obtain ⟨m0,m1,m2⟩:=three_ kMr
     by_cases hsk:((k:Nat):Int)<from_
     ·have d2:decide (((k:Nat):Int)<from_)=true:=decide_eq_true hsk;clear hsk HSI;go_wp2_with fail;go_roundg (n-(k+1))
      case measure=>exact HQ.out.2
      case rel=>exact ⟨k+1,cn,HQ.out.1,by go_num,by go_num,HC1.out,kMa,hba⟩
     ·have d2:decide (((k:Nat):Int)<from_)=false:=decide_eq_false hsk;clear hsk
      by_cases h20:20<cn
      ·have d3:decide (cn>20)=true:=decide_eq_true h20;have d4:decide (20<cn)=true:=decide_eq_true h20;clear h20 HSI;go_wp2_with fail;go_roundg (n-(k+1))
       case measure=>exact HQ.out.2
       case rel=>exact ⟨k+1,cn,HQ.out.1,by go_num,by go_num,HC1.out,kMa,hba⟩
      ·have d3:decide (cn>20)=false:=decide_eq_false h20;have d4:decide (20<cn)=false:=decide_eq_false h20;have HCW:=Lib.hid (show IntKind.i64.wrap (cn+1)=cn+1 from IntWalk.i64_in _ (by have:=HC1.out;omega))
       have HC2:Hid (0≤cn+1∧cn+1≤21):=Lib.hid (by have:=HC1.out;omega)
       clear h20 kMa hba
       by_cases hA:op=128∨op=130∨op=132∨op=134∨op=135∨op=137∨op=138∨op=139∨op=194∨op=195∨op=196∨op=197∨op=198∨op=199
       ·as_aux_lemma =>
         obtain ⟨e0,e1,hlen⟩:=HSI.out.two (by show op∈_;simp only [List.mem_cons,List.not_mem_nil,or_false];exact hA)
         dsimp only at e0 e1 hlen;have hn1:2≤al.length:=by omega
         obtain ⟨ab,ao,rfl,hab,hac⟩:=hrd.args (by omega)
         have a0:=(hac 0 (by omega)).2.1
         simp only [Nat.zero_mul,Nat.add_zero] at a0;have i0:(0:Int)<(n':Nat):=by omega
         have j0:0<n':=by omega
         have a1:wr.cell? ⟨ab,ao+4,none⟩=some (.int .u32 (ag al 1).2.1):=(hac 1 (by omega)).2.1
         have i1:(1:Int)<(n':Nat):=by omega
         have j1:1<n':=by omega
         rw [show ixn (nums al) 0=(ag al 0).2.1 from nums_getD (by omega)] at e0
         rw [show ixn (nums al) 1=(ag al 1).2.1 from nums_getD (by omega)] at e1
         generalize (ag al 0).2.1=n0 at *;generalize (ag al 1).2.1=n1 at *;have hts:=fun (w':World) (hb:Below W.heap.size W w')=>HTS.out ty w' hb
         have hsd:=fun (id:Int) (w':World) (hb:Below W.heap.size W w')=>HSD.out id w' hb
         generalize ((tgM bound L).T ty).size=Z at *;have q0:(sizedV (tgM bound L) bound n0==Z)=true:=by rw [e0];simp
         have q1:(sizedV (tgM bound L) bound n1==Z)=true:=by rw [e1];simp
         have hal9:=hal;have e62:(op==62)=false:=by rw [beq_eq_false_iff_ne];omega
         have e61:(op==61)=false:=by rw [beq_eq_false_iff_ne];omega
         clear e0 e1 hlen hn1 HSI hac;have hX:Cx wr [(⟨w.heap.size,0,none⟩,.int .u32 gen),(⟨w.heap.size,1,none⟩,.int .u32 bound),(⟨w.heap.size,2,none⟩,.slice (some ⟨ib,io,none⟩) n c),(⟨wr.heap.size,0,none⟩,.int .u16 op),(⟨wr.heap.size,1,none⟩,.int .u32 ty),(⟨wr.heap.size,3,none⟩,.slice (some ⟨ab,ao,none⟩) n' c'),(⟨ab,ao+1,none⟩,.int .u32 n0),(⟨ab,ao+4,none⟩,.int .u32 n1)] (wr.alloc (.cells #[.int .u16 op,.int .u32 ty,.int .u32 res,.slice (some ⟨ab,ao,none⟩) n' c'] 42)):=⟨⟨y0,y1,y2,z0,z1,z3,cell_alloc_c _ a0,cell_alloc_c _ a1,trivial⟩,(Below.refl wr.heap.size wr).alloc (Nat.le_refl _) _⟩;have hc:=hX.1;have hcw:=HCW.out;simp only [cellsAt] at hc;go_upto_if 47 with fail
         go_cut [47] (fun v wx=>v=.bool true∧wx=wr.alloc (.cells #[.int .u16 op,.int .u32 ty,.int .u32 res,.slice (some ⟨ab,ao,none⟩) n' c'] 42))
         case first =>
          rcases hA with rfl | rfl | rfl | rfl | rfl | rfl | rfl | rfl | rfl | rfl | rfl | rfl | rfl | rfl <;> (go_wp2_with fail;go_meet;exact ⟨rfl,rfl⟩)
         obtain ⟨rfl,rfl⟩:=hcut;clear hc;have hc:=hX.1;simp only [cellsAt] at hc;go_wp2_with fail;clear m0 m1 m2 y0 y1 y2 z0 z1 z2 z3 c0 c1 c2 c3 hrd a0 a1;clear hc;refine wp_region_cx (by kernel_rfl) (by kernel_rfl) hX ?_
         repeat' first | go_big_quiet_skip | (go_big_quiet_want;apply Exists.intro;refine ⟨fun w' hw'=>?_,?_⟩;(have hc:=hw'.1;simp only [cellsAt] at hc;go_simp;first | done | with_reducible rfl | (go_at_call 15;exact (hsd _ _ (below_cut hWr hw'.2 (Nat.le_refl _))).mono fun e w2 h2=>⟨h2.1,hw'.call h2.2⟩) | (go_at_call 16;exact (hts _ (below_cut hWr hw'.2 (Nat.le_refl _))).mono fun e w2 h2=>⟨h2.1,hw'.call h2.2⟩));go_big_quiet_on;(try simp only [Act.put,List.setIfInBounds_toArray,List.set_cons_zero,List.set_cons_succ]))
         all_goals
          refine wpQuiet_nil ?_;intro w9 hw9;clear hX;have hX:=hw9;clear hw9;have hc:=hX.1;simp only [cellsAt] at hc;go_wp2_with fail;clear hc;refine wp_region_cx (by kernel_rfl) (by kernel_rfl) hX ?_
          repeat' first | go_big_quiet_skip | (go_big_quiet_want;apply Exists.intro;refine ⟨fun w' hw'=>?_,?_⟩;(have hc:=hw'.1;simp only [cellsAt] at hc;go_simp;first | done | with_reducible rfl);go_big_quiet_on;(try simp only [Act.put,List.setIfInBounds_toArray,List.set_cons_zero,List.set_cons_succ]))
          all_goals
           refine wpQuiet_nil ?_;intro w9 hw9;clear hX;have hX:=hw9;clear hw9;have hc:=hX.1;simp only [cellsAt] at hc;go_wp2_with fail;have kM9:=kMr.step hX.2;have hb9:=below_cut hWr hX.2 (Nat.le_refl _);clear hX hc;go_roundg (n-(k+1))
           case measure=>exact HQ.out.2
           case rel=>exact ⟨k+1,cn+1,HQ.out.1,by go_num,by go_num,HC2.out,kM9,hb9⟩
       ·by_cases h62:op=62
        ·as_aux_lemma =>
          subst h62;obtain ⟨e0,e1,hlen⟩:=HSI.out.store rfl;dsimp only at e0 e1 hlen;have hn1:2≤al.length:=by omega
          obtain ⟨ab,ao,rfl,hab,hac⟩:=hrd.args (by omega)
          have a0:=(hac 0 (by omega)).2.1
          simp only [Nat.zero_mul,Nat.add_zero] at a0;have i0:(0:Int)<(n':Nat):=by omega
          have j0:0<n':=by omega
          have a1:wr.cell? ⟨ab,ao+4,none⟩=some (.int .u32 (ag al 1).2.1):=(hac 1 (by omega)).2.1
          have i1:(1:Int)<(n':Nat):=by omega
          have j1:1<n':=by omega
          rw [show ixn (nums al) 0=(ag al 0).2.1 from nums_getD (by omega)] at e0 e1
          rw [show ixn (nums al) 1=(ag al 1).2.1 from nums_getD (by omega)] at e0
          generalize (ag al 0).2.1=n0 at *;generalize (ag al 1).2.1=n1 at *;have hts:=fun (w':World) (hb:Below W.heap.size W w')=>HTS.out ty w' hb
          have hsd:=fun (id:Int) (w':World) (hb:Below W.heap.size W w')=>HSD.out id w' hb
          have q0:(sizedV (tgM bound L) bound n0==sizedV (tgM bound L) bound n1)=true:=by rw [e0];simp
          have q1:decide (sizedV (tgM bound L) bound n0<1)=false:=by rw [decide_eq_false_iff_not];omega
          clear e0 e1 hlen hn1 HSI hac hA;have hX:Cx wr [(⟨w.heap.size,0,none⟩,.int .u32 gen),(⟨w.heap.size,1,none⟩,.int .u32 bound),(⟨w.heap.size,2,none⟩,.slice (some ⟨ib,io,none⟩) n c),(⟨wr.heap.size,0,none⟩,.int .u16 62),(⟨wr.heap.size,1,none⟩,.int .u32 ty),(⟨wr.heap.size,3,none⟩,.slice (some ⟨ab,ao,none⟩) n' c'),(⟨ab,ao+1,none⟩,.int .u32 n0),(⟨ab,ao+4,none⟩,.int .u32 n1)] (wr.alloc (.cells #[.int .u16 62,.int .u32 ty,.int .u32 res,.slice (some ⟨ab,ao,none⟩) n' c'] 42)):=⟨⟨y0,y1,y2,z0,z1,z3,cell_alloc_c _ a0,cell_alloc_c _ a1,trivial⟩,(Below.refl wr.heap.size wr).alloc (Nat.le_refl _) _⟩;have hc:=hX.1;have hcw:=HCW.out;simp only [cellsAt] at hc;go_wp2_with fail;clear m0 m1 m2 y0 y1 y2 z0 z1 z2 z3 c0 c1 c2 c3 hrd a0 a1;clear hc;refine wp_region_cx (by kernel_rfl) (by kernel_rfl) hX ?_
          repeat' first | go_big_quiet_skip | (go_big_quiet_want;apply Exists.intro;refine ⟨fun w' hw'=>?_,?_⟩;(have hc:=hw'.1;simp only [cellsAt] at hc;go_simp;first | done | with_reducible rfl | (go_at_call 15;exact (hsd _ _ (below_cut hWr hw'.2 (Nat.le_refl _))).mono fun e w2 h2=>⟨h2.1,hw'.call h2.2⟩));go_big_quiet_on;(try simp only [Act.put,List.setIfInBounds_toArray,List.set_cons_zero,List.set_cons_succ]))
          all_goals
           refine wpQuiet_nil ?_;intro w9 hw9;clear hX;have hX:=hw9;clear hw9;have hc:=hX.1;simp only [cellsAt] at hc;go_wp2_with fail;clear hc;refine wp_region_cx (by kernel_rfl) (by kernel_rfl) hX ?_
           repeat' first | go_big_quiet_skip | (go_big_quiet_want;apply Exists.intro;refine ⟨fun w' hw'=>?_,?_⟩;(have hc:=hw'.1;simp only [cellsAt] at hc;go_simp;first | done | with_reducible rfl | (go_at_call 15;exact (hsd _ _ (below_cut hWr hw'.2 (Nat.le_refl _))).mono fun e w2 h2=>⟨h2.1,hw'.call h2.2⟩));go_big_quiet_on;(try simp only [Act.put,List.setIfInBounds_toArray,List.set_cons_zero,List.set_cons_succ]))
           all_goals
            refine wpQuiet_nil ?_;intro w9 hw9;clear hX;have hX:=hw9;clear hw9;have hc:=hX.1;simp only [cellsAt] at hc;go_wp2_with fail;have kM9:=kMr.step hX.2;have hb9:=below_cut hWr hX.2 (Nat.le_refl _);clear hX hc;go_roundg (n-(k+1))
            case measure=>exact HQ.out.2
            case rel=>exact ⟨k+1,cn+1,HQ.out.1,by go_num,by go_num,HC2.out,kM9,hb9⟩
        ·by_cases h61:op=61
         ·as_aux_lemma =>
           subst h61;obtain ⟨e0,e1,hlen⟩:=HSI.out.load rfl;dsimp only at e0 e1 hlen;have hn1:1≤al.length:=by omega
           obtain ⟨ab,ao,rfl,hab,hac⟩:=hrd.args (by omega)
           have a0:=(hac 0 (by omega)).2.1
           simp only [Nat.zero_mul,Nat.add_zero] at a0;have i0:(0:Int)<(n':Nat):=by omega
           have j0:0<n':=by omega
           rw [show ixn (nums al) 0=(ag al 0).2.1 from nums_getD (by omega)] at e0 e1
           generalize (ag al 0).2.1=n0 at *;have hts:=fun (w':World) (hb:Below W.heap.size W w')=>HTS.out ty w' hb
           have hsd:=fun (id:Int) (w':World) (hb:Below W.heap.size W w')=>HSD.out id w' hb
           generalize ((tgM bound L).T ty).size=Z at *;have q0:(sizedV (tgM bound L) bound n0==Z)=true:=by rw [e0];simp
           have q1:decide (sizedV (tgM bound L) bound n0<1)=false:=by rw [decide_eq_false_iff_not];omega
           clear e0 e1 hlen hn1 HSI hac hA h62;have hX:Cx wr [(⟨w.heap.size,0,none⟩,.int .u32 gen),(⟨w.heap.size,1,none⟩,.int .u32 bound),(⟨w.heap.size,2,none⟩,.slice (some ⟨ib,io,none⟩) n c),(⟨wr.heap.size,0,none⟩,.int .u16 61),(⟨wr.heap.size,1,none⟩,.int .u32 ty),(⟨wr.heap.size,3,none⟩,.slice (some ⟨ab,ao,none⟩) n' c'),(⟨ab,ao+1,none⟩,.int .u32 n0)] (wr.alloc (.cells #[.int .u16 61,.int .u32 ty,.int .u32 res,.slice (some ⟨ab,ao,none⟩) n' c'] 42)):=⟨⟨y0,y1,y2,z0,z1,z3,cell_alloc_c _ a0,trivial⟩,(Below.refl wr.heap.size wr).alloc (Nat.le_refl _) _⟩;have hc:=hX.1;have hcw:=HCW.out;simp only [cellsAt] at hc;go_wp2_with fail;clear m0 m1 m2 y0 y1 y2 z0 z1 z2 z3 c0 c1 c2 c3 hrd a0;clear hc;refine wp_region_cx (by kernel_rfl) (by kernel_rfl) hX ?_
           repeat' first | go_big_quiet_skip | (go_big_quiet_want;apply Exists.intro;refine ⟨fun w' hw'=>?_,?_⟩;(have hc:=hw'.1;simp only [cellsAt] at hc;go_simp;first | done | with_reducible rfl | (go_at_call 15;exact (hsd _ _ (below_cut hWr hw'.2 (Nat.le_refl _))).mono fun e w2 h2=>⟨h2.1,hw'.call h2.2⟩) | (go_at_call 16;exact (hts _ (below_cut hWr hw'.2 (Nat.le_refl _))).mono fun e w2 h2=>⟨h2.1,hw'.call h2.2⟩));go_big_quiet_on;(try simp only [Act.put,List.setIfInBounds_toArray,List.set_cons_zero,List.set_cons_succ]))
           all_goals
            refine wpQuiet_nil ?_;intro w9 hw9;clear hX;have hX:=hw9;clear hw9;have hc:=hX.1;simp only [cellsAt] at hc;go_wp2_with fail;clear hc;refine wp_region_cx (by kernel_rfl) (by kernel_rfl) hX ?_
            repeat' first | go_big_quiet_skip | (go_big_quiet_want;apply Exists.intro;refine ⟨fun w' hw'=>?_,?_⟩;(have hc:=hw'.1;simp only [cellsAt] at hc;go_simp;first | done | with_reducible rfl | (go_at_call 15;exact (hsd _ _ (below_cut hWr hw'.2 (Nat.le_refl _))).mono fun e w2 h2=>⟨h2.1,hw'.call h2.2⟩));go_big_quiet_on;(try simp only [Act.put,List.setIfInBounds_toArray,List.set_cons_zero,List.set_cons_succ]))
            all_goals
             refine wpQuiet_nil ?_;intro w9 hw9;clear hX;have hX:=hw9;clear hw9;have hc:=hX.1;simp only [cellsAt] at hc;go_wp2_with fail;have kM9:=kMr.step hX.2;have hb9:=below_cut hWr hX.2 (Nat.le_refl _);clear hX hc;go_roundg (n-(k+1))
             case measure=>exact HQ.out.2
             case rel=>exact ⟨k+1,cn+1,HQ.out.1,by go_num,by go_num,HC2.out,kM9,hb9⟩
         ·by_cases hD:op=83∨op=126∨op=200
          ·as_aux_lemma =>
            obtain ⟨e0,hlen⟩:=HSI.out.one (by show op∈_;simp only [List.mem_cons,List.not_mem_nil,or_false];exact hD)
            dsimp only at e0 hlen;have hn1:1≤al.length:=by omega
            obtain ⟨ab,ao,rfl,hab,hac⟩:=hrd.args (by omega)
            have a0:=(hac 0 (by omega)).2.1
            simp only [Nat.zero_mul,Nat.add_zero] at a0;have i0:(0:Int)<(n':Nat):=by omega
            have j0:0<n':=by omega
            rw [show ixn (nums al) 0=(ag al 0).2.1 from nums_getD (by omega)] at e0
            generalize (ag al 0).2.1=n0 at *;have hts:=fun (w':World) (hb:Below W.heap.size W w')=>HTS.out ty w' hb
            have hsd:=fun (id:Int) (w':World) (hb:Below W.heap.size W w')=>HSD.out id w' hb
            generalize ((tgM bound L).T ty).size=Z at *;have q0:(sizedV (tgM bound L) bound n0==Z)=true:=by rw [e0];simp
            have f128:(op==128)=false:=by rw [beq_eq_false_iff_ne];omega
            have f130:(op==130)=false:=by rw [beq_eq_false_iff_ne];omega
            have f132:(op==132)=false:=by rw [beq_eq_false_iff_ne];omega
            have f134:(op==134)=false:=by rw [beq_eq_false_iff_ne];omega
            have f135:(op==135)=false:=by rw [beq_eq_false_iff_ne];omega
            have f137:(op==137)=false:=by rw [beq_eq_false_iff_ne];omega
            have f138:(op==138)=false:=by rw [beq_eq_false_iff_ne];omega
            have f139:(op==139)=false:=by rw [beq_eq_false_iff_ne];omega
            have f194:(op==194)=false:=by rw [beq_eq_false_iff_ne];omega
            have f195:(op==195)=false:=by rw [beq_eq_false_iff_ne];omega
            have f196:(op==196)=false:=by rw [beq_eq_false_iff_ne];omega
            have f197:(op==197)=false:=by rw [beq_eq_false_iff_ne];omega
            have f198:(op==198)=false:=by rw [beq_eq_false_iff_ne];omega
            have f199:(op==199)=false:=by rw [beq_eq_false_iff_ne];omega
            have f62:(op==62)=false:=by rw [beq_eq_false_iff_ne];omega
            have f61:(op==61)=false:=by rw [beq_eq_false_iff_ne];omega
            clear e0 hlen hn1 HSI hac hA h62 h61;have hX:Cx wr [(⟨w.heap.size,0,none⟩,.int .u32 gen),(⟨w.heap.size,1,none⟩,.int .u32 bound),(⟨w.heap.size,2,none⟩,.slice (some ⟨ib,io,none⟩) n c),(⟨wr.heap.size,0,none⟩,.int .u16 op),(⟨wr.heap.size,1,none⟩,.int .u32 ty),(⟨wr.heap.size,3,none⟩,.slice (some ⟨ab,ao,none⟩) n' c'),(⟨ab,ao+1,none⟩,.int .u32 n0)] (wr.alloc (.cells #[.int .u16 op,.int .u32 ty,.int .u32 res,.slice (some ⟨ab,ao,none⟩) n' c'] 42)):=⟨⟨y0,y1,y2,z0,z1,z3,cell_alloc_c _ a0,trivial⟩,(Below.refl wr.heap.size wr).alloc (Nat.le_refl _) _⟩;have hc:=hX.1;have hcw:=HCW.out;simp only [cellsAt] at hc;go_upto_if 113 with fail
            go_cut [113] (fun v wx=>v=.bool true∧wx=wr.alloc (.cells #[.int .u16 op,.int .u32 ty,.int .u32 res,.slice (some ⟨ab,ao,none⟩) n' c'] 42))
            case first =>
             rcases hD with rfl | rfl | rfl <;> (go_wp2_with fail;go_meet;exact ⟨rfl,rfl⟩)
            obtain ⟨rfl,rfl⟩:=hcut;clear hc;have hc:=hX.1;simp only [cellsAt] at hc;go_wp2_with fail;clear m0 m1 m2 y0 y1 y2 z0 z1 z2 z3 c0 c1 c2 c3 hrd a0;clear hc;refine wp_region_cx (by kernel_rfl) (by kernel_rfl) hX ?_
            repeat' first | go_big_quiet_skip | (go_big_quiet_want;apply Exists.intro;refine ⟨fun w' hw'=>?_,?_⟩;(have hc:=hw'.1;simp only [cellsAt] at hc;go_simp;first | done | with_reducible rfl | (go_at_call 15;exact (hsd _ _ (below_cut hWr hw'.2 (Nat.le_refl _))).mono fun e w2 h2=>⟨h2.1,hw'.call h2.2⟩) | (go_at_call 16;exact (hts _ (below_cut hWr hw'.2 (Nat.le_refl _))).mono fun e w2 h2=>⟨h2.1,hw'.call h2.2⟩));go_big_quiet_on;(try simp only [Act.put,List.setIfInBounds_toArray,List.set_cons_zero,List.set_cons_succ]))
            all_goals
             refine wpQuiet_nil ?_;intro w9 hw9;clear hX;have hX:=hw9;clear hw9;have hc:=hX.1;simp only [cellsAt] at hc;go_wp2_with fail;clear hc;refine wp_region_cx (by kernel_rfl) (by kernel_rfl) hX ?_
             repeat' first | go_big_quiet_skip | (go_big_quiet_want;apply Exists.intro;refine ⟨fun w' hw'=>?_,?_⟩;(have hc:=hw'.1;simp only [cellsAt] at hc;go_simp;first | done | with_reducible rfl);go_big_quiet_on;(try simp only [Act.put,List.setIfInBounds_toArray,List.set_cons_zero,List.set_cons_succ]))
             all_goals
              refine wpQuiet_nil ?_;intro w9 hw9;clear hX;have hX:=hw9;clear hw9;have hc:=hX.1;simp only [cellsAt] at hc;go_wp2_with fail;have kM9:=kMr.step hX.2;have hb9:=below_cut hWr hX.2 (Nat.le_refl _);clear hX hc;go_roundg (n-(k+1))
              case measure=>exact HQ.out.2
              case rel=>exact ⟨k+1,cn+1,HQ.out.1,by go_num,by go_num,HC2.out,kM9,hb9⟩
          ·as_aux_lemma =>
            have f128:(op==128)=false:=by rw [beq_eq_false_iff_ne];omega
            have f130:(op==130)=false:=by rw [beq_eq_false_iff_ne];omega
            have f132:(op==132)=false:=by rw [beq_eq_false_iff_ne];omega
            have f134:(op==134)=false:=by rw [beq_eq_false_iff_ne];omega
            have f135:(op==135)=false:=by rw [beq_eq_false_iff_ne];omega
            have f137:(op==137)=false:=by rw [beq_eq_false_iff_ne];omega
            have f138:(op==138)=false:=by rw [beq_eq_false_iff_ne];omega
            have f139:(op==139)=false:=by rw [beq_eq_false_iff_ne];omega
            have f194:(op==194)=false:=by rw [beq_eq_false_iff_ne];omega
            have f195:(op==195)=false:=by rw [beq_eq_false_iff_ne];omega
            have f196:(op==196)=false:=by rw [beq_eq_false_iff_ne];omega
            have f197:(op==197)=false:=by rw [beq_eq_false_iff_ne];omega
            have f198:(op==198)=false:=by rw [beq_eq_false_iff_ne];omega
            have f199:(op==199)=false:=by rw [beq_eq_false_iff_ne];omega
            have f62:(op==62)=false:=by rw [beq_eq_false_iff_ne];omega
            have f61:(op==61)=false:=by rw [beq_eq_false_iff_ne];omega
            have f83:(op==83)=false:=by rw [beq_eq_false_iff_ne];omega
            have f126:(op==126)=false:=by rw [beq_eq_false_iff_ne];omega
            have f200:(op==200)=false:=by rw [beq_eq_false_iff_ne];omega
            clear HSI hA h62 h61 hD;have hX:Cx wr [(⟨w.heap.size,0,none⟩,.int .u32 gen),(⟨w.heap.size,1,none⟩,.int .u32 bound),(⟨w.heap.size,2,none⟩,.slice (some ⟨ib,io,none⟩) n c),(⟨wr.heap.size,0,none⟩,.int .u16 op),(⟨wr.heap.size,1,none⟩,.int .u32 ty)] (wr.alloc (.cells #[.int .u16 op,.int .u32 ty,.int .u32 res,.slice A' n' c'] 42)):=⟨⟨y0,y1,y2,z0,z1,trivial⟩,(Below.refl wr.heap.size wr).alloc (Nat.le_refl _) _⟩;have hc:=hX.1;have hcw:=HCW.out;simp only [cellsAt] at hc;go_wp2_with fail;clear m0 m1 m2 y0 y1 y2 z0 z1 z2 z3 c0 c1 c2 c3 hrd;clear hc;refine wp_region_cx (by kernel_rfl) (by kernel_rfl) hX ?_
            repeat' first | go_big_quiet_skip | (go_big_quiet_want;apply Exists.intro;refine ⟨fun w' hw'=>?_,?_⟩;(have hc:=hw'.1;simp only [cellsAt] at hc;go_simp;first | done | with_reducible rfl);go_big_quiet_on;(try simp only [Act.put,List.setIfInBounds_toArray,List.set_cons_zero,List.set_cons_succ]))
            all_goals
             refine wpQuiet_nil ?_;intro w9 hw9;clear hX;have hX:=hw9;clear hw9;have hc:=hX.1;simp only [cellsAt] at hc;go_wp2_with fail;have kM9:=kMr.step hX.2;have hb9:=below_cut hWr hX.2 (Nat.le_refl _);clear hX hc;go_roundg (n-(k+1))
             case measure=>exact HQ.out.2
             case rel=>exact ⟨k+1,cn,HQ.out.1,by go_num,by go_num,HC1.out,kM9,hb9⟩
    ·obtain rfl:gk=0:=by omega
     obtain rfl:k=n:=by omega
     have d1:decide (((k:Nat):Int)<(k:Nat))=false:=by rw [decide_eq_false_iff_not];omega
     have hbr:=below_cut HB.out hWr (Nat.le_refl _);obtain ⟨y0,y1,y2⟩:=three_ kMr;go_wp2_with fail;refine (awake18_any _ (hP.step hbr)).mono ?_;rintro e w9 ⟨rfl,hb9⟩;go_wp2_with fail;go_ret
     exact ⟨rfl,below_cut hbr hb9 (Nat.le_refl _)⟩
  ·exact absurd hn0 h1
 ·have d0:((chkM bound L).1 != 0)=true:=by simpa using hc0
  generalize (chkM bound L).1=c1 at *;generalize (chkM bound L).2=c2 at *;clear hcp hc0;go_wp2_with fail;refine hck.mono ?_;rintro e w3 ⟨rfl,hb3⟩;have hB3:=below_cut hB2 hb3 (Nat.le_refl _);go_wp2_with fail;refine (awake18_any _ (hP.step hB3)).mono ?_;rintro e w9 ⟨rfl,hb9⟩;go_wp2_with fail;go_ret
  exact ⟨rfl,below_cut hB3 hb9 (Nat.le_refl _)⟩
end Go.Proofs.YtdebjkiilnhgpaaGreatDoor
