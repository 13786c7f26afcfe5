/- Walks: the checker's chain. -/
import Derived.Test.YtdebjkiilnhgpaaGreatDoorCVC
import Derived.Deep.DeepCutAuto
set_option maxRecDepth 100000
set_option maxHeartbeats 4000000
namespace Go.Proofs.YtdebjkiilnhgpaaGreatDoor
section
open Go.RowKit
theorem chainR_six {g:Tg} {ty a:Int} {r:List Int} (h:(g.T ty).kind=6):chainR g ty (a :: r)=if (g.M a).1≠43∨cntT (g.T ty)≤ixn (nums (g.M a).2.2.2) 0 then some 0 else chainR g (prt g.T ty (ixn (nums (g.M a).2.2.2) 0)) r:=by
 rw [chainR,if_pos h]
theorem chainR_arr {g:Tg} {ty a:Int} {r:List Int} (h:(g.T ty).kind=4∨(g.T ty).kind=5):chainR g ty (a :: r)=if (g.T (ofT g.M a)).kind=3 then chainR g (prt g.T ty 0) r else none:=by
 rw [chainR,if_neg (by omega),if_pos h]
theorem chainR_no {g:Tg} {ty a:Int} {r:List Int} (h:¬ (g.T ty).kind=6) (h2:¬ ((g.T ty).kind=4∨(g.T ty).kind=5)):chainR g ty (a :: r)=none:=by
 rw [chainR,if_neg h,if_neg h2]
theorem chain_ck (d:CkD) (b:Int) (x:InstA) (w:World) (h:CkS d b w) (hx:InstOk w w.heap.size x) (hn:1≤x.1.2.2.2.length) (hcap:x.2.2.1≤x.2.2.2) (hM:∀ id,InsT (d.M id)) :
  Calls Tryz.prog 95 #[.pointer (some ⟨d.gc,0,none⟩),.agg (instC x)] w (BoolIs ((toT d.T x.1.2.1).1 != 0&&(toT d.T (ofT d.g.M (ixn (nums x.1.2.2.2) 0))).1 != 0&&(toT d.T x.1.2.1).2==(toT d.T (ofT d.g.M (ixn (nums x.1.2.2.2) 0))).2&&chainR d.g (toT d.T (ofT d.g.M (ixn (nums x.1.2.2.2) 0))).1 ((nums x.1.2.2.2).drop 1)==some (toT d.T x.1.2.1).1) w):=by
 obtain ⟨⟨op,ty,res,al⟩,A,n,c⟩:=x;have hlen:=hx.len;have hr:=hx.reads;have hl:=hr.args_len;dsimp only at hn hlen hr hl hcap ⊢;unfold instC;dsimp only;obtain ⟨c0,c1,c2,c3,c4⟩:=h.cell;obtain ⟨ab,ao,rfl,hab,hac⟩:=hr.args (by omega)
 obtain ⟨f0,a0,g0⟩:=hac 0 (by omega)
 simp only [Nat.zero_mul,Nat.add_zero] at a0 f0 g0;have i0:(0:Int)<(n:Nat):=by omega
 rw [show ixn (nums al) 0=(ag al 0).2.1 from nums_getD (by omega)]
 generalize (ag al 0).2.1=n0 at *;have l1:(1:Int)≤(n:Nat):=by omega
 obtain ⟨q1,hq1⟩:∃ vv,(if c=1 then some ⟨ab,ao,none⟩ else some ⟨ab,ao+3,none⟩:Option Addr)=vv:=⟨_,rfl⟩
 rw [← nums_dropL];have hr1:Reads w w.heap.size 3 q1 (n-1) (Acells (al.drop 1)):=by rw [← hq1];exact hr.args_from (k:=1) (by omega) hcap
 obtain ⟨al1,hal1⟩:∃ vv,al.drop 1=vv:=⟨_,rfl⟩;rw [hal1] at hr1 ⊢;have hl1:=hr1.args_len;obtain ⟨m,hm⟩:∃ m,n-1=m:=⟨_,rfl⟩;rw [hm] at hr1 hl1;have hm6:m≤6000000000000:=by omega
 have hm1:((n:Nat):Int)-1=(m:Nat):=by omega
 have hto:=fun (u:Int) (w':World) (hb:Below w.heap.size w w')=>to_ck d b u w' (h.step hb)
 have hof:=fun (u:Int) (w':World) (hb:Below w.heap.size w w')=>of_ck d b u w' (h.step hb)
 have hki:=fun (u:Int) (w':World) (hb:Below w.heap.size w w')=>kindM_any _ _ _ u w' (h.step hb).tab.tab
 have hco:=fun (u:Int) (w':World) (hb:Below w.heap.size w w')=>countM_any _ _ _ u w' (h.step hb).tab.tab ((h.step hb).tab.mild u)
 have hpa:=fun (u k:Int) (w':World) (hb:Below w.heap.size w w')=>part_ck d b u k w' (h.step hb)
 have hnu:=fun (w':World) (y1 y2:Int) (y3:ByteArray) (hb:Below w.heap.size w w')=>numbers_ck d b (some ⟨w'.heap.size,0,none⟩) 1 1 [(y1,y2,y3)] (w'.alloc (.cells #[.int .u8 y1,.int .u32 y2,.string y3] 44)) (h.step (hb.alloc hb.size _)) (by have:=Reads.litN w' #[.int .u8 y1,.int .u32 y2,.string y3] 44 3 1 3 rfl rfl (by omega);rw [World.size_alloc];exact this) (by decide)
 have hmd:=fun (w':World) (hb:Below w.heap.size w w')=>(h.step hb).mad
 have kB:=Blk.new w 42 #[.int .u16 op,.int .u32 ty,.int .u32 res,.slice (some ⟨ab,ao,none⟩) n c];obtain ⟨z0,z1,z2,z3⟩:=four_ kB;have hX:Cx w [(⟨d.gc,0,none⟩,.pointer (some ⟨d.gt,0,none⟩)),(⟨d.gc,3,none⟩,.map (some d.bm)),(⟨w.heap.size,1,none⟩,.int .u32 ty),(⟨w.heap.size,3,none⟩,.slice (some ⟨ab,ao,none⟩) n c),(⟨ab,ao+1,none⟩,.int .u32 n0)] (w.alloc (.cells #[.int .u16 op,.int .u32 ty,.int .u32 res,.slice (some ⟨ab,ao,none⟩) n c] 42)):=⟨⟨cell_alloc_c _ c0,cell_alloc_c _ c3,z1,z3,cell_alloc_c _ a0,trivial⟩,(Below.refl w.heap.size w).alloc (Nat.le_refl _) _⟩;obtain ⟨b1,hb1⟩:∃ vv,((toT d.T ty).1==0)=vv:=⟨_,rfl⟩;obtain ⟨b2,hb2⟩:∃ vv,((toT d.T (ofT d.g.M n0)).1==0)=vv:=⟨_,rfl⟩;obtain ⟨b3,hb3⟩:∃ vv,((toT d.T ty).2 != (toT d.T (ofT d.g.M n0)).2)=vv:=⟨_,rfl⟩;obtain ⟨v,hv⟩:∃ vv,((toT d.T ty).1 != 0&&(toT d.T (ofT d.g.M n0)).1 != 0&&(toT d.T ty).2==(toT d.T (ofT d.g.M n0)).2&&chainR d.g (toT d.T (ofT d.g.M n0)).1 (nums al1)==some (toT d.T ty).1)=vv:=⟨_,rfl⟩;rw [hv];have hE:v=(!b1&&!b2&&!b3&&(chainR d.g (toT d.T (ofT d.g.M n0)).1 (nums al1)==some (toT d.T ty).1)):=by
  rw [← hv,← hb1,← hb2,← hb3];simp only [bne,Bool.not_not]
 have HE:=Lib.hid hE;have HR:=Lib.hid hr1;have HM:=Lib.hid hM;have HT:=Lib.hid h.ty;have HMD:=Lib.hid hmd;have hc:=hX.1;simp only [cellsAt] at hc;clear hv hE h hx hr hr1 hal1 hac hab kB z0 z1 z2 z3 c0 c1 c2 c3 c4 f0 a0 g0 hM hmd;cases b1 with
 | true =>
  have HF:Hid (v=false):=Lib.hid (by rw [HE.out];simp)
  go_enter Tryz.func95,Tryz.ntmps95;go_wp2_with fail;go_step3
  go_wp2_with (first | (go_at_call 26;refine (hof _ _ hX.2).mono ?_;rintro e W ⟨rfl,hb⟩;replace hX:=hX.call hb;clear hb;clear hc;have hc:=hX.1;simp only [cellsAt] at hc) | (go_at_call 120;refine (hto _ _ hX.2).mono ?_;rintro e W ⟨rfl,hb⟩;replace hX:=hX.call hb;clear hb;clear hc;have hc:=hX.1;simp only [cellsAt] at hc) | (go_at_call 30;refine (hki _ _ hX.2).mono ?_;rintro e W ⟨rfl,hb⟩;replace hX:=hX.call hb;clear hb;clear hc;have hc:=hX.1;simp only [cellsAt] at hc) | (go_at_call 85;refine (hpa _ _ _ hX.2).mono ?_;rintro e W ⟨rfl,hb⟩;replace hX:=hX.call hb;clear hb;clear hc;have hc:=hX.1;simp only [cellsAt] at hc))
  rw [Exit.noGoto_ret];go_ret
  exact ⟨(by rw [HF.out];try rfl),hX.2⟩
 | false =>
  cases b2 with
  | true =>
   have HF:Hid (v=false):=Lib.hid (by rw [HE.out];simp)
   go_enter Tryz.func95,Tryz.ntmps95;go_wp2_with fail;go_step3
   go_wp2_with (first | (go_at_call 26;refine (hof _ _ hX.2).mono ?_;rintro e W ⟨rfl,hb⟩;replace hX:=hX.call hb;clear hb;clear hc;have hc:=hX.1;simp only [cellsAt] at hc) | (go_at_call 120;refine (hto _ _ hX.2).mono ?_;rintro e W ⟨rfl,hb⟩;replace hX:=hX.call hb;clear hb;clear hc;have hc:=hX.1;simp only [cellsAt] at hc) | (go_at_call 30;refine (hki _ _ hX.2).mono ?_;rintro e W ⟨rfl,hb⟩;replace hX:=hX.call hb;clear hb;clear hc;have hc:=hX.1;simp only [cellsAt] at hc) | (go_at_call 85;refine (hpa _ _ _ hX.2).mono ?_;rintro e W ⟨rfl,hb⟩;replace hX:=hX.call hb;clear hb;clear hc;have hc:=hX.1;simp only [cellsAt] at hc))
   rw [Exit.noGoto_ret];go_ret
   exact ⟨(by rw [HF.out];try rfl),hX.2⟩
  | false =>
   cases b3 with
   | true =>
    have HF:Hid (v=false):=Lib.hid (by rw [HE.out];simp)
    go_enter Tryz.func95,Tryz.ntmps95;go_wp2_with fail;go_step3
    go_wp2_with (first | (go_at_call 26;refine (hof _ _ hX.2).mono ?_;rintro e W ⟨rfl,hb⟩;replace hX:=hX.call hb;clear hb;clear hc;have hc:=hX.1;simp only [cellsAt] at hc) | (go_at_call 120;refine (hto _ _ hX.2).mono ?_;rintro e W ⟨rfl,hb⟩;replace hX:=hX.call hb;clear hb;clear hc;have hc:=hX.1;simp only [cellsAt] at hc) | (go_at_call 30;refine (hki _ _ hX.2).mono ?_;rintro e W ⟨rfl,hb⟩;replace hX:=hX.call hb;clear hb;clear hc;have hc:=hX.1;simp only [cellsAt] at hc) | (go_at_call 85;refine (hpa _ _ _ hX.2).mono ?_;rintro e W ⟨rfl,hb⟩;replace hX:=hX.call hb;clear hb;clear hc;have hc:=hX.1;simp only [cellsAt] at hc))
    rw [Exit.noGoto_ret];go_ret
    exact ⟨(by rw [HF.out];try rfl),hX.2⟩
   | false =>
    have HV:Hid (v=(chainR d.g (toT d.T (ofT d.g.M n0)).1 ((nums al1).drop 0)==some (toT d.T ty).1)):=Lib.hid (by rw [HE.out];simp)
    have hp0:(toT d.T ty).1≠0:=by simpa using hb1
    have hX0:Cx w [(⟨d.gc,0,none⟩,.pointer (some ⟨d.gt,0,none⟩)),(⟨d.gc,3,none⟩,.map (some d.bm)),(⟨w.heap.size,1,none⟩,.int .u32 ty),(⟨w.heap.size,3,none⟩,.slice (some ⟨ab,ao,none⟩) n c)] (w.alloc (.cells #[.int .u16 op,.int .u32 ty,.int .u32 res,.slice (some ⟨ab,ao,none⟩) n c] 42)):=⟨⟨hX.1.1,hX.1.2.1,hX.1.2.2.1,hX.1.2.2.2.1,trivial⟩,hX.2⟩;clear HE hX0;go_enter Tryz.func95,Tryz.ntmps95;go_wp2_with fail;go_step3
    go_wp2_with (first | (go_at_call 26;refine (hof _ _ hX.2).mono ?_;rintro e W ⟨rfl,hb⟩;replace hX:=hX.call hb;clear hb;clear hc;have hc:=hX.1;simp only [cellsAt] at hc) | (go_at_call 120;refine (hto _ _ hX.2).mono ?_;rintro e W ⟨rfl,hb⟩;replace hX:=hX.call hb;clear hb;clear hc;have hc:=hX.1;simp only [cellsAt] at hc) | (go_at_call 30;refine (hki _ _ hX.2).mono ?_;rintro e W ⟨rfl,hb⟩;replace hX:=hX.call hb;clear hb;clear hc;have hc:=hX.1;simp only [cellsAt] at hc) | (go_at_call 85;refine (hpa _ _ _ hX.2).mono ?_;rintro e W ⟨rfl,hb⟩;replace hX:=hX.call hb;clear hb;clear hc;have hc:=hX.1;simp only [cellsAt] at hc))
    have HP:=Lib.hid hp0;clear hb1 hb2 hb3 hp0;generalize (toT d.T (ofT d.g.M n0)).1=u0 at *;generalize (toT d.T ty).1=p at *;have hX:Cx w [(⟨d.gc,0,none⟩,.pointer (some ⟨d.gt,0,none⟩)),(⟨d.gc,3,none⟩,.map (some d.bm)),(⟨w.heap.size,1,none⟩,.int .u32 ty),(⟨w.heap.size,3,none⟩,.slice (some ⟨ab,ao,none⟩) n c)] W:=⟨⟨hX.1.1,hX.1.2.1,hX.1.2.2.1,hX.1.2.2.2.1,trivial⟩,hX.2⟩;go_step3
    go_wp2_with fail;go_loopg [7,47] m (fun q t i wr=>∃ (k:Nat) (u:Int),k+q=m∧t=.int .u32 u∧i=.int .i64 (k:Nat)∧Hid (v=(chainR d.g u ((nums al1).drop k)==some p))∧Cx w [(⟨d.gc,0,none⟩,.pointer (some ⟨d.gt,0,none⟩)),(⟨d.gc,3,none⟩,.map (some d.bm)),(⟨w.heap.size,1,none⟩,.int .u32 ty),(⟨w.heap.size,3,none⟩,.slice (some ⟨ab,ao,none⟩) n c)] wr)
    case atStart=>exact ⟨0,u0,by omega,rfl,rfl,HV,hX⟩
    case round =>
     obtain ⟨k,u,hq,rfl,rfl,HK,hXr⟩:=hrel;clear hX HV hc
     by_cases hlt:k<m
     ·obtain ⟨qb,qo,rfl,hqb,hac⟩:=HR.out.args (by omega)
      obtain ⟨a0,a1,a2⟩:=hac k hlt;have a0:=(hXr.2.cell (p:=⟨qb,qo+k*3,none⟩) hqb).trans a0;have a1:=(hXr.2.cell (p:=⟨qb,qo+k*3+1,none⟩) hqb).trans a1;have a2:=(hXr.2.cell (p:=⟨qb,qo+k*3+2,none⟩) hqb).trans a2;have hE:=HK.out;rw [nums_drop (by omega)] at hE
      have HE:=Lib.hid hE;clear hE hac HK;generalize ag al1 k=y at *;obtain ⟨y1,y2,y3⟩:=y;dsimp only at a0 a1 a2 HE;have d1:decide (((k:Nat):Int)<(m:Nat))=true:=by rw [decide_eq_true_eq];omega
      have hi1:((k:Nat):Int)<(m:Nat):=by omega
      have kA:=Blk.new wr 44 #[.int .u8 y1,.int .u32 y2,.string y3];have hX:Cx w [(⟨d.gc,0,none⟩,.pointer (some ⟨d.gt,0,none⟩)),(⟨d.gc,3,none⟩,.map (some d.bm)),(⟨w.heap.size,1,none⟩,.int .u32 ty),(⟨w.heap.size,3,none⟩,.slice (some ⟨ab,ao,none⟩) n c),(⟨wr.heap.size,0,none⟩,.int .u8 y1),(⟨wr.heap.size,1,none⟩,.int .u32 y2),(⟨wr.heap.size,2,none⟩,.string y3)] (wr.alloc (.cells #[.int .u8 y1,.int .u32 y2,.string y3] 44)):=by
       obtain ⟨⟨r0,r1,r2,r3,-⟩,r4⟩:=hXr.call ((Below.refl wr.heap.size wr).alloc (Nat.le_refl _) (.cells #[.int .u8 y1,.int .u32 y2,.string y3] 44));obtain ⟨s0,s1,s2⟩:=three_ kA;exact ⟨⟨r0,r1,r2,r3,s0,s1,s2,trivial⟩,r4⟩
      have hc:=hX.1;simp only [cellsAt] at hc;clear hXr kA
      by_cases h6:(d.T u).kind=6
      ·have e6:((d.T u).kind==6)=true:=by simpa using h6
       go_wp2_with (first | (go_at_call 30;refine (hki _ _ hX.2).mono ?_;rintro e W ⟨rfl,hb⟩;replace hX:=hX.call hb;clear hb;clear hc;have hc:=hX.1;simp only [cellsAt] at hc))
       have hl0:=(HMD.out _ hX.2).look y2;have hl1:=(HMD.out _ hX.2.drew).look y2;have hlA:=fun o=>(HMD.out _ (hX.2.alloc hX.2.size o).drew).look y2
       have hMy:=HM.out y2;have hMo:=(HMD.out _ hX.2).one y2;have hMk:=(HMD.out _ hX.2).ok y2;have hE6:v=((if (d.M y2).1.1≠43∨cntT (d.T u)≤ixn (nums (d.M y2).1.2.2.2) 0 then some 0 else chainR d.g (prt d.T u (ixn (nums (d.M y2).1.2.2.2) 0)) ((nums al1).drop (k+1)))==some p):=by
        rw [HE.out,chainR_six (g:=d.g) h6];rfl
       have HE6:=Lib.hid hE6;clear hE6;generalize d.M y2=x at *;obtain ⟨⟨xop,xty,xres,xal⟩,xA,xn,xc⟩:=x;unfold instC at hl0 hl1 hlA;dsimp only at hl0 hl1 hlA hMo hMk HE6;have hXA:=fun o=>(hX.call ((Below.refl W.heap.size W).alloc (Nat.le_refl _) o)).1
       have p1:=fun o=>(hXA o).2.1
       have p2:=fun o=>(hXA o).2.2.2.2.2.1
       have kX:=(Blk.new W 42 #[.int .u16 xop,.int .u32 xty,.int .u32 xres,.slice xA xn xc]).drew;have hX9:=(hX.call ((Below.refl W.heap.size W).alloc (Nat.le_refl _) (.cells #[.int .u16 xop,.int .u32 xty,.int .u32 xres,.slice xA xn xc] 42))).drew_;obtain ⟨v0,v1,v2,v3⟩:=four_ kX;have hb9:=((Below.refl W.heap.size W).alloc (Nat.le_refl _) (.cells #[.int .u16 xop,.int .u32 xty,.int .u32 xres,.slice xA xn xc] 42)).drew;have hMr:=hMk.reads.below hb9;dsimp only at hMr;clear hXA kX hMk hb9;go_region
       all_goals
        clear hl0 hl1 hlA p1 p2 hX;generalize (W.alloc (.cells #[.int .u16 xop,.int .u32 xty,.int .u32 xres,.slice xA xn xc] 42)).drew=W9 at *;obtain ⟨⟨r0,r1,r2,r3,r4,r5,r6,-⟩,rb⟩:=hX9;cases hb4:(xop != 43) with
        | true =>
         have HF:Hid (v=false):=Lib.hid (by rw [HE6.out,if_pos (.inl (by simpa using hb4)),show ((some 0:Option Int)==some p)=false by simpa using Ne.symm HP.out])
         have e0:((0:Int)==p)=false:=by simpa using Ne.symm HP.out
         have hX:Cx w [(⟨d.gc,0,none⟩,.pointer (some ⟨d.gt,0,none⟩)),(⟨d.gc,3,none⟩,.map (some d.bm)),(⟨w.heap.size,1,none⟩,.int .u32 ty),(⟨w.heap.size,3,none⟩,.slice (some ⟨ab,ao,none⟩) n c),(⟨W.heap.size,0,none⟩,.int .u16 xop)] W9:=⟨⟨r0,r1,r2,r3,v0,trivial⟩,rb⟩;have hc:=hX.1;simp only [cellsAt] at hc;clear hMr hMo hMy v0 v1 v2 v3 r4 r5 r6 a0 a1 a2 HE6;go_wp2_with fail;clear hc;refine wp_region_cx (by kernel_rfl) (by kernel_rfl) hX ?_
         repeat' first | go_big_quiet_skip | (go_big_quiet_want;apply Exists.intro;refine ⟨fun w' hw'=>?_,?_⟩;(have hc:=hw'.1;simp only [cellsAt] at hc;go_simp;first | done | with_reducible rfl | (go_at_call 77;exact (hco _ _ hw'.2).mono fun e w2 h2=>⟨h2.1,hw'.call h2.2⟩));go_big_quiet_on;(try simp only [Act.put,List.setIfInBounds_toArray,List.set_cons_zero,List.set_cons_succ]))
         all_goals
          refine wpQuiet_nil ?_;intro w9 hw9;clear hX;have hX:=hw9;clear hw9;have hc:=hX.1;simp only [cellsAt] at hc;clear hb4;go_wp2_with fail;rw [Exit.noGoto_ret];go_ret
          exact ⟨(by rw [HF.out];try rfl),hX.2⟩
        | false =>
         obtain rfl:xop=43:=by simpa using hb4
         have hMl:=hMr.args_len;have hM0:=hMo rfl;obtain ⟨xb,xo,rfl,hxb,hxc⟩:=hMr.args (by omega)
         have x1:=(hxc 0 (by omega)).2.1
         simp only [Nat.zero_mul,Nat.add_zero] at x1;have hN:=hMy.u _ (ag_mem (by omega:0<xal.length))
         have hE7:=HE6.out;rw [show ixn (nums xal) 0=(ag xal 0).2.1 from nums_getD (by omega)] at hE7
         generalize (ag xal 0).2.1=N at *;have hcb:=cntB HT.out u;have wC:IntKind.u32.wrap (cntT (d.T u))=cntT (d.T u):=IntWalk.u32_in _ (by omega)
         have wC2:cntT (d.T u) % 4294967296=cntT (d.T u):=by omega
         have wY:IntKind.i64.wrap N=N:=IntWalk.i64_in _ (by omega)
         have ix0:(0:Int)<(xn:Nat):=by omega
         have jx0:0<xn:=by omega
         have HE7:=Lib.hid hE7;obtain ⟨g,hg⟩:∃ vv,decide (cntT (d.T u)≤N)=vv:=⟨_,rfl⟩;have hX:Cx w [(⟨d.gc,0,none⟩,.pointer (some ⟨d.gt,0,none⟩)),(⟨d.gc,3,none⟩,.map (some d.bm)),(⟨w.heap.size,1,none⟩,.int .u32 ty),(⟨w.heap.size,3,none⟩,.slice (some ⟨ab,ao,none⟩) n c),(⟨W.heap.size,0,none⟩,.int .u16 43),(⟨W.heap.size,3,none⟩,.slice (some ⟨xb,xo,none⟩) xn xc),(⟨xb,xo+1,none⟩,.int .u32 N)] W9:=⟨⟨r0,r1,r2,r3,v0,v3,x1,trivial⟩,rb⟩;have hc:=hX.1;simp only [cellsAt] at hc;clear hMr hMo hMy hb4 v0 v1 v2 v3 r4 r5 r6 a0 a1 a2 HE6 hxc x1 hE7 r0 r1 r2 r3 hcb;go_wp2_with fail;clear hc;refine wp_region_cx (by kernel_rfl) (by kernel_rfl) hX ?_
         repeat' first | go_big_quiet_skip | (go_big_quiet_want;apply Exists.intro;refine ⟨fun w' hw'=>?_,?_⟩;(have hc:=hw'.1;simp only [cellsAt] at hc;go_simp;first | done | with_reducible rfl | (go_at_call 77;exact (hco _ _ hw'.2).mono fun e w2 h2=>⟨h2.1,hw'.call h2.2⟩));go_big_quiet_on;(try simp only [Act.put,List.setIfInBounds_toArray,List.set_cons_zero,List.set_cons_succ]))
         all_goals
          refine wpQuiet_nil ?_;intro w9 hw9;clear hX;have hX:=hw9;clear hw9;have hc:=hX.1;simp only [cellsAt] at hc;clear wC wC2;cases g with
          | true =>
           have HF:Hid (v=false):=Lib.hid (by rw [HE7.out,if_pos (.inr (of_decide_eq_true hg)),show ((some 0:Option Int)==some p)=false by simpa using Ne.symm HP.out])
           have e0:((0:Int)==p)=false:=by simpa using Ne.symm HP.out
           go_wp2_with fail;rw [Exit.noGoto_ret];go_ret
           exact ⟨(by rw [HF.out];try rfl),hX.2⟩
          | false =>
           have HV1:Hid (v=(chainR d.g (prt d.T u N) ((nums al1).drop (k+1))==some p)):=Lib.hid (by rw [HE7.out,if_neg (fun h=>h.elim (fun h=>h rfl) (of_decide_eq_false hg))])
           clear hg;go_wp2_with (first | (go_at_call 85;refine (hpa _ _ _ hX.2).mono ?_;rintro e W ⟨rfl,hb⟩;replace hX:=hX.call hb;clear hb;clear hc;have hc:=hX.1;simp only [cellsAt] at hc))
           go_roundg (m-(k+1))
           case measure=>omega
           case rel=>exact ⟨k+1,prt d.T u N,by omega,rfl,by go_num,HV1,⟨⟨hX.1.1,hX.1.2.1,hX.1.2.2.1,hX.1.2.2.2.1,trivial⟩,hX.2⟩⟩
      ·have e6:((d.T u).kind==6)=false:=by simpa using h6
       by_cases h45:(d.T u).kind=4∨(d.T u).kind=5
       ·obtain ⟨g,hg⟩:∃ vv,numL d.g [y2]=vv:=⟨_,rfl⟩;have hE7:v=((if g=true then chainR d.g (prt d.T u 0) ((nums al1).drop (k+1)) else none)==some p):=by
         rw [HE.out,chainR_arr (g:=d.g) h45,← hg];unfold numL;simp only [List.all_cons,List.all_nil,Bool.and_true,beq_iff_eq];rfl
        have HE7:=Lib.hid hE7;have hnw:=fun (w':World) (hb:Below w.heap.size w w')=>hnu w' y1 y2 y3 hb
        simp only [nums,List.map_cons,List.map_nil,hg] at hnw;clear hE7 hg HE hnu
        rcases h45 with h45 | h45
        ·have e4:((d.T u).kind==4)=true:=by rw [h45];rfl
         cases g with
         | true =>
          have HV1:Hid (v=(chainR d.g (prt d.T u 0) ((nums al1).drop (k+1))==some p)):=Lib.hid (by rw [HE7.out,if_pos rfl])
          clear HE7;go_wp2_with (first | (go_at_call 30;refine (hki _ _ hX.2).mono ?_;rintro e W ⟨rfl,hb⟩;replace hX:=hX.call hb;clear hb;clear hc;have hc:=hX.1;simp only [cellsAt] at hc) | (go_at_call 85;refine (hpa _ _ _ hX.2).mono ?_;rintro e W ⟨rfl,hb⟩;replace hX:=hX.call hb;clear hb;clear hc;have hc:=hX.1;simp only [cellsAt] at hc) | (go_at_call 90;have hX9:=hX.call ((Below.refl _ _).alloc (Nat.le_refl _) (.cells #[.int .u8 y1,.int .u32 y2,.string y3] 44));refine (hnw _ hX.2).mono ?_;rintro e W ⟨rfl,hb⟩;replace hX:=hX9.call hb;clear hX9 hb;clear hc;have hc:=hX.1;simp only [cellsAt] at hc))
          go_roundg (m-(k+1))
          case measure=>omega
          case rel=>exact ⟨k+1,prt d.T u 0,by omega,rfl,by go_num,HV1,⟨⟨hX.1.1,hX.1.2.1,hX.1.2.2.1,hX.1.2.2.2.1,trivial⟩,hX.2⟩⟩
         | false =>
          have HF:Hid (v=false):=Lib.hid (by rw [HE7.out,if_neg (by decide)];rfl)
          clear HE7;go_wp2_with (first | (go_at_call 30;refine (hki _ _ hX.2).mono ?_;rintro e W ⟨rfl,hb⟩;replace hX:=hX.call hb;clear hb;clear hc;have hc:=hX.1;simp only [cellsAt] at hc) | (go_at_call 85;refine (hpa _ _ _ hX.2).mono ?_;rintro e W ⟨rfl,hb⟩;replace hX:=hX.call hb;clear hb;clear hc;have hc:=hX.1;simp only [cellsAt] at hc) | (go_at_call 90;have hX9:=hX.call ((Below.refl _ _).alloc (Nat.le_refl _) (.cells #[.int .u8 y1,.int .u32 y2,.string y3] 44));refine (hnw _ hX.2).mono ?_;rintro e W ⟨rfl,hb⟩;replace hX:=hX9.call hb;clear hX9 hb;clear hc;have hc:=hX.1;simp only [cellsAt] at hc))
          rw [Exit.noGoto_ret];go_ret
          exact ⟨(by rw [HF.out];try rfl),hX.2⟩
        ·have e4:((d.T u).kind==4)=false:=by rw [h45];rfl
         have e5:((d.T u).kind==5)=true:=by rw [h45];rfl
         cases g with
         | true =>
          have HV1:Hid (v=(chainR d.g (prt d.T u 0) ((nums al1).drop (k+1))==some p)):=Lib.hid (by rw [HE7.out,if_pos rfl])
          clear HE7;go_wp2_with (first | (go_at_call 30;refine (hki _ _ hX.2).mono ?_;rintro e W ⟨rfl,hb⟩;replace hX:=hX.call hb;clear hb;clear hc;have hc:=hX.1;simp only [cellsAt] at hc) | (go_at_call 85;refine (hpa _ _ _ hX.2).mono ?_;rintro e W ⟨rfl,hb⟩;replace hX:=hX.call hb;clear hb;clear hc;have hc:=hX.1;simp only [cellsAt] at hc) | (go_at_call 90;have hX9:=hX.call ((Below.refl _ _).alloc (Nat.le_refl _) (.cells #[.int .u8 y1,.int .u32 y2,.string y3] 44));refine (hnw _ hX.2).mono ?_;rintro e W ⟨rfl,hb⟩;replace hX:=hX9.call hb;clear hX9 hb;clear hc;have hc:=hX.1;simp only [cellsAt] at hc))
          go_roundg (m-(k+1))
          case measure=>omega
          case rel=>exact ⟨k+1,prt d.T u 0,by omega,rfl,by go_num,HV1,⟨⟨hX.1.1,hX.1.2.1,hX.1.2.2.1,hX.1.2.2.2.1,trivial⟩,hX.2⟩⟩
         | false =>
          have HF:Hid (v=false):=Lib.hid (by rw [HE7.out,if_neg (by decide)];rfl)
          clear HE7;go_wp2_with (first | (go_at_call 30;refine (hki _ _ hX.2).mono ?_;rintro e W ⟨rfl,hb⟩;replace hX:=hX.call hb;clear hb;clear hc;have hc:=hX.1;simp only [cellsAt] at hc) | (go_at_call 85;refine (hpa _ _ _ hX.2).mono ?_;rintro e W ⟨rfl,hb⟩;replace hX:=hX.call hb;clear hb;clear hc;have hc:=hX.1;simp only [cellsAt] at hc) | (go_at_call 90;have hX9:=hX.call ((Below.refl _ _).alloc (Nat.le_refl _) (.cells #[.int .u8 y1,.int .u32 y2,.string y3] 44));refine (hnw _ hX.2).mono ?_;rintro e W ⟨rfl,hb⟩;replace hX:=hX9.call hb;clear hX9 hb;clear hc;have hc:=hX.1;simp only [cellsAt] at hc))
          rw [Exit.noGoto_ret];go_ret
          exact ⟨(by rw [HF.out];try rfl),hX.2⟩
       ·have HF:Hid (v=false):=Lib.hid (by rw [HE.out,chainR_no (g:=d.g) h6 h45];rfl)
        have e4:((d.T u).kind==4)=false:=by rw [beq_eq_false_iff_ne];omega
        have e5:((d.T u).kind==5)=false:=by rw [beq_eq_false_iff_ne];omega
        clear HE;go_wp2_with (first | (go_at_call 30;refine (hki _ _ hX.2).mono ?_;rintro e W ⟨rfl,hb⟩;replace hX:=hX.call hb;clear hb;clear hc;have hc:=hX.1;simp only [cellsAt] at hc))
        rw [Exit.noGoto_ret];go_ret
        exact ⟨(by rw [HF.out];try rfl),hX.2⟩
     ·obtain rfl:gk=0:=by omega
      obtain rfl:k=m:=by omega
      have d1:decide (((k:Nat):Int)<(k:Nat))=false:=by rw [decide_eq_false_iff_not];omega
      have hv1:v=(u==p):=by
       rw [HK.out,List.drop_of_length_le (by rw [nums_len];omega)]
       show ((some u:Option Int)==some p)=(u==p)
       simp
      have HV1:=Lib.hid hv1;clear hv1 HK;go_wp2_with fail;rw [Exit.noGoto_ret];go_ret
      exact ⟨(by rw [HV1.out];try rfl),hXr.2⟩
end
section
open Go.RowKit
theorem Cx.set_new {w W:World} {l:List (Addr × Value)} {g:Nat} (h:Cx w l W) (hg:w.heap.size≤g) (v:Value):(∀ x∈l,x.1.block≠g)→Cx w l (W.setCell ⟨g,0,none⟩ v):=fun hl=>by
 refine ⟨?_,h.2.setCell (p:=⟨g,0,none⟩) hg v⟩;have h1:=h.1;clear h
 induction l with
 | nil=>trivial
 | cons x r ih=>exact ⟨(World.cell?_setCell_other W _ x.1 _ (fun e=>hl x List.mem_cons_self (by first | rw [e] | rw [← e]))).trans h1.1,ih (fun y hy=>hl y (List.mem_cons_of_mem _ hy)) h1.2⟩
theorem Cx.box {w W:World} {gc:Nat} {x0 x1 x3:Value} (h:Cx w [(⟨gc,0,none⟩,x0),(⟨w.heap.size,1,none⟩,x1),(⟨w.heap.size,3,none⟩,x3)] W):Blk (W.alloc (.cells #[.int .u32 0] 22)) W.heap.size 22 #[.int .u32 0]∧w.heap.size≤W.heap.size ∧
  ∀ x∈[((⟨gc,0,none⟩:Addr),x0),(⟨w.heap.size,1,none⟩,x1),(⟨w.heap.size,3,none⟩,x3)],x.1.block≠W.heap.size:=by
 have h0:=World.block_lt_of_cell? W _ h.1.1;have h1:=World.block_lt_of_cell? W _ h.1.2.1;refine ⟨Blk.new W 22 #[.int .u32 0],h.2.size,fun x hx=>?_⟩
 dsimp only at h0 h1;simp only [List.mem_cons,List.not_mem_nil,or_false] at hx
 rcases hx with rfl | rfl | rfl <;> dsimp only <;> omega
theorem Cx.boxv {w W:World} {l:List (Addr × Value)} (h:Cx w l W) (v:Value):Cx w l (W.alloc (.cells #[v] 22))∧Blk (W.alloc (.cells #[v] 22)) W.heap.size 22 #[v]:=⟨h.call ((Below.refl _ _).alloc (Nat.le_refl _) _),Blk.new W 22 #[v]⟩
theorem shuffleIn_ck (g:Nat) (s:Int) (a:ArgI) (w:World) (h1:w.cell? ⟨g,0,none⟩=some (.int .u32 s)):Calls Tryz.prog 122 #[argV a,.pointer (some ⟨g,0,none⟩)] w (BoolIs (decide (s≤a.2.1)) w):=by
 obtain ⟨a1,a2,a3⟩:=a;unfold argV;dsimp only;have hb:=(Below.refl w.heap.size w).alloc (Nat.le_refl _) (.cells #[.int .u8 a1,.int .u32 a2,.string a3] 44);obtain ⟨z0,z1,z2⟩:=three_ (Blk.new w 44 #[.int .u8 a1,.int .u32 a2,.string a3]);have h2:=cell_alloc_c (.cells #[.int .u8 a1,.int .u32 a2,.string a3] 44) h1;obtain ⟨v,hv⟩:∃ v,decide (s≤a2)=v:=⟨_,rfl⟩;rw [hv];clear h1;go_enter Tryz.func122,Tryz.ntmps122;go_wp2_with fail;go_ret
 exact ⟨rfl,hb⟩
theorem shuffle_ck (d:CkD) (b:Int) (x:InstA) (w:World) (h:CkS d b w) (hx:InstOk w w.heap.size x) (hn:2≤x.1.2.2.2.length) (hcap:x.2.2.1≤x.2.2.2) :
  Calls Tryz.prog 98 #[.pointer (some ⟨d.gc,0,none⟩),.agg (instC x)] w (BoolIs ([x.1.2.1,ofT d.g.M (ixn (nums x.1.2.2.2) 0),ofT d.g.M (ixn (nums x.1.2.2.2) 1)].all (fun v=>(d.T v).kind==4&&prt d.T v 0==prt d.T x.1.2.1 0)&&(((nums x.1.2.2.2).drop 2).length:Int)==cntT (d.T x.1.2.1)&&((nums x.1.2.2.2).drop 2).all fun y=>decide (y<cntT (d.T (ofT d.g.M (ixn (nums x.1.2.2.2) 0)))+cntT (d.T (ofT d.g.M (ixn (nums x.1.2.2.2) 1))))) w):=by
 obtain ⟨⟨op,ty,res,al⟩,A,n,c⟩:=x;have hlen:=hx.len;have hr:=hx.reads;have hl:=hr.args_len;dsimp only at hn hlen hr hl hcap ⊢;unfold instC;dsimp only;obtain ⟨c0,c1,c2,c3,c4⟩:=h.cell;obtain ⟨ab,ao,rfl,hab,hac⟩:=hr.args (by omega)
 obtain ⟨-,a0,-⟩:=hac 0 (by omega)
 obtain ⟨-,a1,-⟩:=hac 1 (by omega)
 simp only [Nat.zero_mul,Nat.add_zero] at a0;have a1:w.cell? ⟨ab,ao+4,none⟩=some (.int .u32 (ag al 1).2.1):=a1;have i0:(0:Int)<(n:Nat):=by omega
 have i1:(1:Int)<(n:Nat):=by omega
 have j1:1<n:=by omega
 have j0:0<n:=by omega
 rw [show ixn (nums al) 0=(ag al 0).2.1 from nums_getD (by omega),show ixn (nums al) 1=(ag al 1).2.1 from nums_getD (by omega)]
 generalize (ag al 0).2.1=n0 at *;generalize (ag al 1).2.1=n1 at *;have l2:(2:Int)≤(n:Nat):=by omega
 obtain ⟨q2,hq2⟩:∃ vv,(if c=2 then some ⟨ab,ao,none⟩ else some ⟨ab,ao+6,none⟩:Option Addr)=vv:=⟨_,rfl⟩
 rw [← nums_dropL];have hr2:Reads w w.heap.size 3 q2 (n-2) (Acells (al.drop 2)):=by rw [← hq2];exact hr.args_from (k:=2) (by omega) hcap
 obtain ⟨al2,hal2⟩:∃ vv,al.drop 2=vv:=⟨_,rfl⟩;rw [hal2] at hr2 ⊢;have hl2:=hr2.args_len;obtain ⟨m,hm⟩:∃ m,n-2=m:=⟨_,rfl⟩;rw [hm] at hr2 hl2;have hm6:m≤6000000000000:=by omega
 have hm2:((n:Nat):Int)-2=(m:Nat):=by omega
 have hof:=fun (u:Int) (w':World) (hb:Below w.heap.size w w')=>of_ck d b u w' (h.step hb)
 have hki:=fun (u:Int) (w':World) (hb:Below w.heap.size w w')=>kindM_any _ _ _ u w' (h.step hb).tab.tab
 have hco:=fun (u:Int) (w':World) (hb:Below w.heap.size w w')=>countM_any _ _ _ u w' (h.step hb).tab.tab ((h.step hb).tab.mild u)
 have hpa:=fun (u k:Int) (w':World) (hb:Below w.heap.size w w')=>part_ck d b u k w' (h.step hb)
 have kB:=Blk.new w 42 #[.int .u16 op,.int .u32 ty,.int .u32 res,.slice (some ⟨ab,ao,none⟩) n c];obtain ⟨z0,z1,z2,z3⟩:=four_ kB;have hX:Cx w [(⟨d.gc,0,none⟩,.pointer (some ⟨d.gt,0,none⟩)),(⟨w.heap.size,1,none⟩,.int .u32 ty),(⟨w.heap.size,3,none⟩,.slice (some ⟨ab,ao,none⟩) n c),(⟨ab,ao+1,none⟩,.int .u32 n0),(⟨ab,ao+4,none⟩,.int .u32 n1)] (w.alloc (.cells #[.int .u16 op,.int .u32 ty,.int .u32 res,.slice (some ⟨ab,ao,none⟩) n c] 42)):=⟨⟨cell_alloc_c _ c0,z1,z3,cell_alloc_c _ a0,cell_alloc_c _ a1,trivial⟩,(Below.refl w.heap.size w).alloc (Nat.le_refl _) _⟩;have hs1:w.heap.size+1≤(w.alloc (.cells #[.int .u16 op,.int .u32 ty,.int .u32 res,.slice (some ⟨ab,ao,none⟩) n c] 42)).heap.size:=by simp
 have hgc:=World.block_lt_of_cell? w _ c0;have hT:=h.ty;have cb0:=cntB hT (ofT d.g.M n0);have cb1:=cntB hT (ofT d.g.M n1);obtain ⟨a,ha⟩:∃ a,ofT d.g.M n0=a:=⟨_,rfl⟩;obtain ⟨e,he⟩:∃ e,ofT d.g.M n1=e:=⟨_,rfl⟩;rw [ha] at cb0 ⊢;rw [he] at cb1 ⊢;obtain ⟨f,hf⟩:∃ f:Int→Bool,f=fun v=>(d.T v).kind==4&&prt d.T v 0==prt d.T ty 0:=⟨_,rfl⟩
 rw [← hf];have hfu:∀ u,f u=((d.T u).kind==4&&prt d.T u 0==prt d.T ty 0):=fun u=>by rw [hf]
 obtain ⟨g,hg⟩:∃ g,(((nums al2).length:Int)==cntT (d.T ty)&&(nums al2).all fun y=>decide (y<cntT (d.T a)+cntT (d.T e)))=g:=⟨_,rfl⟩
 obtain ⟨v,hv⟩:∃ v,v=([ty,a,e].all f&&g):=⟨_,rfl⟩;rw [Bool.and_assoc,hg,← hv];rw [nums_len,hl2] at hg;have HV:Hid (v=((([ty,a,e].drop 0).all f)&&g)):=Lib.hid hv;have HG:=Lib.hid hg;have HR:=Lib.hid hr2;have HFU:=Lib.hid hfu;have hc:=hX.1;simp only [cellsAt] at hc;clear h hx hr hac hal2 c0 c1 c2 c3 c4 a0 a1 kB z0 z1 z2 z3 hf hv hg hr2 hfu hT;go_enter Tryz.func98,Tryz.ntmps98;go_wp2_with fail;clear hc;refine wp_region_cx (by kernel_rfl) (by kernel_rfl) hX ?_
 repeat' first | go_big_quiet_skip | (go_big_quiet_want;apply Exists.intro;refine ⟨fun w' hw'=>?_,?_⟩;(have hc:=hw'.1;simp only [cellsAt] at hc;go_simp;first | done | with_reducible rfl | (go_at_call 26;exact (hof _ _ hw'.2).mono fun e w2 h2=>⟨h2.1,hw'.call h2.2⟩));go_big_quiet_on;(try simp only [Act.put,List.setIfInBounds_toArray,List.set_cons_zero,List.set_cons_succ]))
 all_goals
  refine wpQuiet_nil ?_;intro w9 hw9;clear hX;have hX:=hw9;clear hw9;have hc:=hX.1;simp only [cellsAt] at hc;rw [ha,he];go_wp2_with fail;have hX:Cx w [(⟨d.gc,0,none⟩,.pointer (some ⟨d.gt,0,none⟩)),(⟨w.heap.size,1,none⟩,.int .u32 ty),(⟨w.heap.size,3,none⟩,.slice (some ⟨ab,ao,none⟩) n c)] w9:=⟨⟨hX.1.1,hX.1.2.1,hX.1.2.2.1,trivial⟩,hX.2⟩;clear hc;go_loopg [30] 3 (fun r i wr=>∃ k:Nat,k+r=3∧i=.int .i64 (k:Nat)∧Hid (v=((([ty,a,e].drop k).all f)&&g))∧Cx w [(⟨d.gc,0,none⟩,.pointer (some ⟨d.gt,0,none⟩)),(⟨w.heap.size,1,none⟩,.int .u32 ty),(⟨w.heap.size,3,none⟩,.slice (some ⟨ab,ao,none⟩) n c)] wr)
  case atStart=>exact ⟨0,by omega,rfl,HV,hX⟩
  case round =>
   obtain ⟨k,hkr,rfl,HK,hXr⟩:=hrel;clear hX HV
   by_cases hlt:k<3
   ·have hk3:(k=0∨k=1)∨k=2:=by omega
    rcases hk3 with (rfl | rfl) | rfl
    ·have hix:∀ w:World,(Instr.index 169 (.agg #[.int .u32 ty,.int .u32 a,.int .u32 e]) (.int .i64 0)).run Tryz.prog w=.ok (.int .u32 ty) w:=fun _=>by kernel_rfl
     obtain ⟨g1,hg1⟩:∃ vv,((d.T ty).kind != 4)=vv:=⟨_,rfl⟩;obtain ⟨g2,hg2⟩:∃ vv,(prt d.T ty 0 != prt d.T ty 0)=vv:=⟨_,rfl⟩;have hE:v=(!g1&&!g2&&((([ty,a,e].drop 1).all f)&&g)):=by
      rw [HK.out,← hg1,← hg2];simp only [bne,Bool.not_not]
      show ((f ty&&([ty,a,e].drop 1).all f)&&g)=_
      rw [HFU.out,Bool.and_assoc]
     have HE:=Lib.hid hE;have hX:=hXr;have hc:=hX.1;simp only [cellsAt] at hc;clear hE HK hXr;cases g1 with
     | true =>
      have HF:Hid (v=false):=Lib.hid (by rw [HE.out];rfl)
      go_wp2_with fail;clear hc;refine wp_region_cx (by kernel_rfl) (by kernel_rfl) hX ?_
      repeat' first | go_big_quiet_skip | (go_big_quiet_want;apply Exists.intro;refine ⟨fun w' hw'=>?_,?_⟩;(have hc:=hw'.1;simp only [cellsAt] at hc;go_simp;first | done | with_reducible rfl | (go_at_call 30;exact (hki _ _ hw'.2).mono fun e w2 h2=>⟨h2.1,hw'.call h2.2⟩) | (go_at_call 85;exact (hpa _ _ _ hw'.2).mono fun e w2 h2=>⟨h2.1,hw'.call h2.2⟩));go_big_quiet_on;(try simp only [Act.put,List.setIfInBounds_toArray,List.set_cons_zero,List.set_cons_succ]))
      all_goals
       refine wpQuiet_nil ?_;intro w9 hw9;clear hX;have hX:=hw9;clear hw9;have hc:=hX.1;simp only [cellsAt] at hc;go_wp2_with fail;go_ret
       exact ⟨(by rw [HF.out];try rfl),hX.2⟩
     | false =>
      cases g2 with
      | true =>
       exact absurd hg2 (by simp)
      | false =>
       have HV1:Hid (v=((([ty,a,e].drop 1).all f)&&g)):=Lib.hid (by rw [HE.out];rfl)
       clear HE;go_wp2_with fail;clear hc;refine wp_region_cx (by kernel_rfl) (by kernel_rfl) hX ?_
       repeat' first | go_big_quiet_skip | (go_big_quiet_want;apply Exists.intro;refine ⟨fun w' hw'=>?_,?_⟩;(have hc:=hw'.1;simp only [cellsAt] at hc;go_simp;first | done | with_reducible rfl | (go_at_call 30;exact (hki _ _ hw'.2).mono fun e w2 h2=>⟨h2.1,hw'.call h2.2⟩) | (go_at_call 85;exact (hpa _ _ _ hw'.2).mono fun e w2 h2=>⟨h2.1,hw'.call h2.2⟩));go_big_quiet_on;(try simp only [Act.put,List.setIfInBounds_toArray,List.set_cons_zero,List.set_cons_succ]))
       all_goals
        refine wpQuiet_nil ?_;intro w9 hw9;clear hX;have hX:=hw9;clear hw9;have hc:=hX.1;simp only [cellsAt] at hc;clear hg1 hg2;go_wp2_with fail;go_roundg (3-1)
        case measure=>omega
        case rel=>exact ⟨1,by omega,rfl,HV1,hX⟩
    ·have hix:∀ w:World,(Instr.index 169 (.agg #[.int .u32 ty,.int .u32 a,.int .u32 e]) (.int .i64 1)).run Tryz.prog w=.ok (.int .u32 a) w:=fun _=>by kernel_rfl
     obtain ⟨g1,hg1⟩:∃ vv,((d.T a).kind != 4)=vv:=⟨_,rfl⟩;obtain ⟨g2,hg2⟩:∃ vv,(prt d.T a 0 != prt d.T ty 0)=vv:=⟨_,rfl⟩;have hE:v=(!g1&&!g2&&((([ty,a,e].drop 2).all f)&&g)):=by
      rw [HK.out,← hg1,← hg2];simp only [bne,Bool.not_not]
      show ((f a&&([ty,a,e].drop 2).all f)&&g)=_
      rw [HFU.out,Bool.and_assoc]
     have HE:=Lib.hid hE;have hX:=hXr;have hc:=hX.1;simp only [cellsAt] at hc;clear hE HK hXr;cases g1 with
     | true =>
      have HF:Hid (v=false):=Lib.hid (by rw [HE.out];rfl)
      go_wp2_with fail;clear hc;refine wp_region_cx (by kernel_rfl) (by kernel_rfl) hX ?_
      repeat' first | go_big_quiet_skip | (go_big_quiet_want;apply Exists.intro;refine ⟨fun w' hw'=>?_,?_⟩;(have hc:=hw'.1;simp only [cellsAt] at hc;go_simp;first | done | with_reducible rfl | (go_at_call 30;exact (hki _ _ hw'.2).mono fun e w2 h2=>⟨h2.1,hw'.call h2.2⟩) | (go_at_call 85;exact (hpa _ _ _ hw'.2).mono fun e w2 h2=>⟨h2.1,hw'.call h2.2⟩));go_big_quiet_on;(try simp only [Act.put,List.setIfInBounds_toArray,List.set_cons_zero,List.set_cons_succ]))
      all_goals
       refine wpQuiet_nil ?_;intro w9 hw9;clear hX;have hX:=hw9;clear hw9;have hc:=hX.1;simp only [cellsAt] at hc;go_wp2_with fail;go_ret
       exact ⟨(by rw [HF.out];try rfl),hX.2⟩
     | false =>
      cases g2 with
      | true =>
       have HF:Hid (v=false):=Lib.hid (by rw [HE.out];rfl)
       go_wp2_with fail;clear hc;refine wp_region_cx (by kernel_rfl) (by kernel_rfl) hX ?_
       repeat' first | go_big_quiet_skip | (go_big_quiet_want;apply Exists.intro;refine ⟨fun w' hw'=>?_,?_⟩;(have hc:=hw'.1;simp only [cellsAt] at hc;go_simp;first | done | with_reducible rfl | (go_at_call 30;exact (hki _ _ hw'.2).mono fun e w2 h2=>⟨h2.1,hw'.call h2.2⟩) | (go_at_call 85;exact (hpa _ _ _ hw'.2).mono fun e w2 h2=>⟨h2.1,hw'.call h2.2⟩));go_big_quiet_on;(try simp only [Act.put,List.setIfInBounds_toArray,List.set_cons_zero,List.set_cons_succ]))
       all_goals
        refine wpQuiet_nil ?_;intro w9 hw9;clear hX;have hX:=hw9;clear hw9;have hc:=hX.1;simp only [cellsAt] at hc;go_wp2_with fail;go_ret
        exact ⟨(by rw [HF.out];try rfl),hX.2⟩
      | false =>
       have HV1:Hid (v=((([ty,a,e].drop 2).all f)&&g)):=Lib.hid (by rw [HE.out];rfl)
       clear HE;go_wp2_with fail;clear hc;refine wp_region_cx (by kernel_rfl) (by kernel_rfl) hX ?_
       repeat' first | go_big_quiet_skip | (go_big_quiet_want;apply Exists.intro;refine ⟨fun w' hw'=>?_,?_⟩;(have hc:=hw'.1;simp only [cellsAt] at hc;go_simp;first | done | with_reducible rfl | (go_at_call 30;exact (hki _ _ hw'.2).mono fun e w2 h2=>⟨h2.1,hw'.call h2.2⟩) | (go_at_call 85;exact (hpa _ _ _ hw'.2).mono fun e w2 h2=>⟨h2.1,hw'.call h2.2⟩));go_big_quiet_on;(try simp only [Act.put,List.setIfInBounds_toArray,List.set_cons_zero,List.set_cons_succ]))
       all_goals
        refine wpQuiet_nil ?_;intro w9 hw9;clear hX;have hX:=hw9;clear hw9;have hc:=hX.1;simp only [cellsAt] at hc;clear hg1 hg2;go_wp2_with fail;go_roundg (3-2)
        case measure=>omega
        case rel=>exact ⟨2,by omega,rfl,HV1,hX⟩
    ·have hix:∀ w:World,(Instr.index 169 (.agg #[.int .u32 ty,.int .u32 a,.int .u32 e]) (.int .i64 2)).run Tryz.prog w=.ok (.int .u32 e) w:=fun _=>by kernel_rfl
     obtain ⟨g1,hg1⟩:∃ vv,((d.T e).kind != 4)=vv:=⟨_,rfl⟩;obtain ⟨g2,hg2⟩:∃ vv,(prt d.T e 0 != prt d.T ty 0)=vv:=⟨_,rfl⟩;have hE:v=(!g1&&!g2&&((([ty,a,e].drop 3).all f)&&g)):=by
      rw [HK.out,← hg1,← hg2];simp only [bne,Bool.not_not]
      show ((f e&&([ty,a,e].drop 3).all f)&&g)=_
      rw [HFU.out,Bool.and_assoc]
     have HE:=Lib.hid hE;have hX:=hXr;have hc:=hX.1;simp only [cellsAt] at hc;clear hE HK hXr;cases g1 with
     | true =>
      have HF:Hid (v=false):=Lib.hid (by rw [HE.out];rfl)
      go_wp2_with fail;clear hc;refine wp_region_cx (by kernel_rfl) (by kernel_rfl) hX ?_
      repeat' first | go_big_quiet_skip | (go_big_quiet_want;apply Exists.intro;refine ⟨fun w' hw'=>?_,?_⟩;(have hc:=hw'.1;simp only [cellsAt] at hc;go_simp;first | done | with_reducible rfl | (go_at_call 30;exact (hki _ _ hw'.2).mono fun e w2 h2=>⟨h2.1,hw'.call h2.2⟩) | (go_at_call 85;exact (hpa _ _ _ hw'.2).mono fun e w2 h2=>⟨h2.1,hw'.call h2.2⟩));go_big_quiet_on;(try simp only [Act.put,List.setIfInBounds_toArray,List.set_cons_zero,List.set_cons_succ]))
      all_goals
       refine wpQuiet_nil ?_;intro w9 hw9;clear hX;have hX:=hw9;clear hw9;have hc:=hX.1;simp only [cellsAt] at hc;go_wp2_with fail;go_ret
       exact ⟨(by rw [HF.out];try rfl),hX.2⟩
     | false =>
      cases g2 with
      | true =>
       have HF:Hid (v=false):=Lib.hid (by rw [HE.out];rfl)
       go_wp2_with fail;clear hc;refine wp_region_cx (by kernel_rfl) (by kernel_rfl) hX ?_
       repeat' first | go_big_quiet_skip | (go_big_quiet_want;apply Exists.intro;refine ⟨fun w' hw'=>?_,?_⟩;(have hc:=hw'.1;simp only [cellsAt] at hc;go_simp;first | done | with_reducible rfl | (go_at_call 30;exact (hki _ _ hw'.2).mono fun e w2 h2=>⟨h2.1,hw'.call h2.2⟩) | (go_at_call 85;exact (hpa _ _ _ hw'.2).mono fun e w2 h2=>⟨h2.1,hw'.call h2.2⟩));go_big_quiet_on;(try simp only [Act.put,List.setIfInBounds_toArray,List.set_cons_zero,List.set_cons_succ]))
       all_goals
        refine wpQuiet_nil ?_;intro w9 hw9;clear hX;have hX:=hw9;clear hw9;have hc:=hX.1;simp only [cellsAt] at hc;go_wp2_with fail;go_ret
        exact ⟨(by rw [HF.out];try rfl),hX.2⟩
      | false =>
       have HV1:Hid (v=((([ty,a,e].drop 3).all f)&&g)):=Lib.hid (by rw [HE.out];rfl)
       clear HE;go_wp2_with fail;clear hc;refine wp_region_cx (by kernel_rfl) (by kernel_rfl) hX ?_
       repeat' first | go_big_quiet_skip | (go_big_quiet_want;apply Exists.intro;refine ⟨fun w' hw'=>?_,?_⟩;(have hc:=hw'.1;simp only [cellsAt] at hc;go_simp;first | done | with_reducible rfl | (go_at_call 30;exact (hki _ _ hw'.2).mono fun e w2 h2=>⟨h2.1,hw'.call h2.2⟩) | (go_at_call 85;exact (hpa _ _ _ hw'.2).mono fun e w2 h2=>⟨h2.1,hw'.call h2.2⟩));go_big_quiet_on;(try simp only [Act.put,List.setIfInBounds_toArray,List.set_cons_zero,List.set_cons_succ]))
       all_goals
        refine wpQuiet_nil ?_;intro w9 hw9;clear hX;have hX:=hw9;clear hw9;have hc:=hX.1;simp only [cellsAt] at hc;clear hg1 hg2;go_wp2_with fail;go_roundg (3-3)
        case measure=>omega
        case rel=>exact ⟨3,by omega,rfl,HV1,hX⟩
   ·obtain rfl:gk=0:=by omega
    obtain rfl:k=3:=by omega
    have d1:decide (((3:Nat):Int)<3)=false:=by decide
    have HV2:Hid (v=g):=Lib.hid (by rw [HK.out];simp)
    have hX:=hXr;clear HK hXr;go_upto_region 8 with fail
    go_cut [9] (fun p wx=>∃ gb:Nat,p=.pointer (some ⟨gb,0,none⟩)∧Cx w [(⟨d.gc,0,none⟩,.pointer (some ⟨d.gt,0,none⟩)),(⟨w.heap.size,1,none⟩,.int .u32 ty),(⟨w.heap.size,3,none⟩,.slice (some ⟨ab,ao,none⟩) n c),(⟨gb,0,none⟩,.int .u32 (cntT (d.T a)+cntT (d.T e)))] wx)
    case first =>
     have hw1:IntKind.i64.wrap (cntT (d.T a)+cntT (d.T e))=cntT (d.T a)+cntT (d.T e):=IntWalk.i64_in _ (by omega)
     have hw2:IntKind.u32.wrap (cntT (d.T a)+cntT (d.T e))=cntT (d.T a)+cntT (d.T e):=IntWalk.u32_in _ (by omega)
     clear HV2;refine wp_region_held_drew (S:=Cx w _) (by kernel_rfl) hX.drew_ (fun hHeld=>?_)
     refine wpAnyH_take (i:=0) (oi:=_) (v:=?_) rfl (by kernel_rfl) (by kernel_rfl) (by kernel_rfl) (fun _ _ _ h=>h) (Or.inl ⟨by rfl,?_⟩) hHeld ?_
     rotate_left
     ·intro w' hSw;have hc:=hSw.1;simp only [cellsAt] at hc;go_simp
      try with_reducible rfl
     (try simp only [Act.put,List.setIfInBounds_toArray,List.set_cons_zero,List.set_cons_succ,List.getElem_toArray,List.getElem_cons_zero])
     refine wpAnyH_take (i:=1) (oi:=_) (v:=?_) rfl (by kernel_rfl) (by kernel_rfl) (by kernel_rfl) (fun _ _ _ h=>h) (Or.inl ⟨by rfl,?_⟩) hHeld ?_
     rotate_left
     ·intro w' hSw;have hc:=hSw.1;simp only [cellsAt] at hc;go_simp
      try with_reducible rfl
     (try simp only [Act.put,List.setIfInBounds_toArray,List.set_cons_zero,List.set_cons_succ,List.getElem_toArray,List.getElem_cons_succ,List.getElem_cons_zero])
     refine wpAnyH_take (i:=2) (oi:=_) (v:=?_) rfl (by kernel_rfl) (by kernel_rfl) (by kernel_rfl) (fun _ _ _ h=>h) (Or.inl ⟨by rfl,?_⟩) hHeld ?_
     rotate_left
     ·intro w' hSw;have hc:=hSw.1;simp only [cellsAt] at hc;go_simp
      try with_reducible rfl
     (try simp only [Act.put,List.setIfInBounds_toArray,List.set_cons_zero,List.set_cons_succ,List.getElem_toArray,List.getElem_cons_succ,List.getElem_cons_zero])
     refine wpAnyH_take (i:=3) (oi:=_) (v:=?_) rfl (by kernel_rfl) (by kernel_rfl) (by kernel_rfl) (fun _ _ _ h=>h) (Or.inl ⟨by rfl,?_⟩) hHeld ?_
     rotate_left
     ·intro w' hSw;have hc:=hSw.1;simp only [cellsAt] at hc;go_simp
      try with_reducible rfl
     (try simp only [Act.put,List.setIfInBounds_toArray,List.set_cons_zero,List.set_cons_succ,List.getElem_toArray,List.getElem_cons_succ,List.getElem_cons_zero])
     refine wpAnyH_take (i:=4) (oi:=_) (v:=?_) rfl (by kernel_rfl) (by kernel_rfl) (by kernel_rfl) (fun _ _ _ h=>h) (Or.inl ⟨by rfl,?_⟩) hHeld ?_
     rotate_left
     ·intro w' hSw;have hc:=hSw.1;simp only [cellsAt] at hc;go_simp
      try with_reducible rfl
     (try simp only [Act.put,List.setIfInBounds_toArray,List.set_cons_zero,List.set_cons_succ,List.getElem_toArray,List.getElem_cons_succ,List.getElem_cons_zero])
     refine wpAnyH_take (i:=6) (oi:=_) (v:=?_) rfl (by kernel_rfl) (by kernel_rfl) (by kernel_rfl) (fun _ _ _ h=>h) (Or.inl ⟨by rfl,?_⟩) hHeld ?_
     rotate_left
     ·intro w' hSw;have hc:=hSw.1;simp only [cellsAt] at hc;go_simp
      try with_reducible rfl
     (try simp only [Act.put,List.setIfInBounds_toArray,List.set_cons_zero,List.set_cons_succ,List.getElem_toArray,List.getElem_cons_succ,List.getElem_cons_zero])
     refine wpAnyH_take (i:=7) (oi:=_) (v:=?_) rfl (by kernel_rfl) (by kernel_rfl) (by kernel_rfl) (fun _ _ _ h=>h) (Or.inl ⟨by rfl,?_⟩) hHeld ?_
     rotate_left
     ·intro w' hSw;have hc:=hSw.1;simp only [cellsAt] at hc;go_simp
      try with_reducible rfl
     (try simp only [Act.put,List.setIfInBounds_toArray,List.set_cons_zero,List.set_cons_succ,List.getElem_toArray,List.getElem_cons_succ,List.getElem_cons_zero])
     refine wpAnyH_take (i:=8) (oi:=_) (v:=?_) rfl (by kernel_rfl) (by kernel_rfl) (by kernel_rfl) (fun _ _ _ h=>h) (Or.inl ⟨by rfl,?_⟩) hHeld ?_
     rotate_left
     ·intro w' hSw;have hc:=hSw.1;simp only [cellsAt] at hc;go_simp
      try with_reducible rfl
     (try simp only [Act.put,List.setIfInBounds_toArray,List.set_cons_zero,List.set_cons_succ,List.getElem_toArray,List.getElem_cons_succ,List.getElem_cons_zero])
     refine wpAnyH_take (i:=9) (oi:=_) (v:=?_) rfl (by kernel_rfl) (by kernel_rfl) (by kernel_rfl) (fun _ _ _ h=>h) (Or.inl ⟨by rfl,?_⟩) hHeld ?_
     rotate_left
     ·intro w' hSw;have hc:=hSw.1;simp only [cellsAt] at hc;go_simp
      try with_reducible rfl
     (try simp only [Act.put,List.setIfInBounds_toArray,List.set_cons_zero,List.set_cons_succ,List.getElem_toArray,List.getElem_cons_succ,List.getElem_cons_zero])
     refine wpAnyH_take (i:=10) (oi:=_) (v:=?_) rfl (by kernel_rfl) (by kernel_rfl) (by kernel_rfl) (fun _ _ _ h=>h) (Or.inl ⟨by rfl,?_⟩) hHeld ?_
     rotate_left
     ·intro w' hSw;have hc:=hSw.1;simp only [cellsAt] at hc;go_simp
      try with_reducible rfl
     (try simp only [Act.put,List.setIfInBounds_toArray,List.set_cons_zero,List.set_cons_succ,List.getElem_toArray,List.getElem_cons_succ,List.getElem_cons_zero])
     refine wpAnyH_ready (rs:=[5,14]) (by kernel_rfl) (by simp) ?_
     refine AllReadyH.cons (o:=_) rfl (fun K hK=>?_) (AllReadyH.cons (o:=_) rfl (fun K hK=>?_) AllReadyH.nil)
     ·go_simp
      go_at_call 77
      refine (hco _ _ hHeld.2).mono ?_;rintro e W1 ⟨rfl,hb9⟩
      (try go_wp2_with fail)
      have hHeld2:=hHeld.call hb9;refine hK.out _ _ hHeld2 (fun hHeld=>?_)
      clear hK K hHeld2
      (try simp only [Act.put,List.setIfInBounds_toArray,List.set_cons_zero,List.set_cons_succ,List.getElem_toArray,List.getElem_cons_succ,List.getElem_cons_zero])
      refine wpAnyH_ready (rs:=[11,14]) (by kernel_rfl) (by simp) ?_
      refine AllReadyH.cons (o:=_) rfl (fun K hK=>?_) (AllReadyH.cons (o:=_) rfl (fun K hK=>?_) AllReadyH.nil)
      ·go_simp
       go_at_call 77
       refine (hco _ _ hHeld.2).mono ?_;rintro e W2 ⟨rfl,hb9⟩
       (try go_wp2_with fail)
       have hHeld2:=hHeld.call hb9;refine hK.out _ _ hHeld2 (fun hHeld=>?_)
       clear hK K hHeld2
       (try simp only [Act.put,List.setIfInBounds_toArray,List.set_cons_zero,List.set_cons_succ,List.getElem_toArray,List.getElem_cons_succ,List.getElem_cons_zero])
       refine wpAnyH_take (i:=12) (oi:=_) (v:=?_) rfl (by kernel_rfl) (by kernel_rfl) (by kernel_rfl) (fun _ _ _ h=>h) (Or.inl ⟨by rfl,?_⟩) hHeld ?_
       rotate_left
       ·intro w' hSw;have hc:=hSw.1;simp only [cellsAt] at hc;go_simp
        try with_reducible rfl
       (try simp only [Act.put,List.setIfInBounds_toArray,List.set_cons_zero,List.set_cons_succ,List.getElem_toArray,List.getElem_cons_succ,List.getElem_cons_zero])
       refine wpAnyH_take (i:=13) (oi:=_) (v:=?_) rfl (by kernel_rfl) (by kernel_rfl) (by kernel_rfl) (fun _ _ _ h=>h) (Or.inl ⟨by rfl,?_⟩) hHeld ?_
       rotate_left
       ·intro w' hSw;have hc:=hSw.1;simp only [cellsAt] at hc;go_simp
        try with_reducible rfl
       (try simp only [Act.put,List.setIfInBounds_toArray,List.set_cons_zero,List.set_cons_succ,List.getElem_toArray,List.getElem_cons_succ,List.getElem_cons_zero])
       refine wpAnyH_ready (rs:=[14]) (by kernel_rfl) (by simp) ?_
       refine AllReadyH.cons (o:=_) rfl (fun K hK=>?_) AllReadyH.nil
       have hPrev:=hHeld;obtain ⟨kg,hge,hne⟩:=hHeld.box;have hHeld2:=hHeld.call ((Below.refl _ _).alloc (Nat.le_refl _) (.cells #[.int .u32 0] 22));go_simp
       refine hK.out _ _ hHeld2 (fun hHeld=>?_)
       clear hK K hHeld2
       (try simp only [Act.put,List.setIfInBounds_toArray,List.set_cons_zero,List.set_cons_succ,List.getElem_toArray,List.getElem_cons_succ,List.getElem_cons_zero])
       refine wpAnyH_ready (rs:=[15]) (by kernel_rfl) (by simp) ?_
       refine AllReadyH.cons (o:=_) rfl (fun K hK=>?_) AllReadyH.nil
       go_simp
       obtain ⟨hHeld2,kg⟩:=hPrev.boxv (.int .u32 (cntT (d.T a)+cntT (d.T e)));refine hK.out _ _ hHeld2 (fun hHeld=>?_)
       clear hK K hHeld2
       (try simp only [Act.put,List.setIfInBounds_toArray,List.set_cons_zero,List.set_cons_succ,List.getElem_toArray,List.getElem_cons_succ,List.getElem_cons_zero])
       refine wpAnyH_done (by kernel_rfl) ?_ _
       have c9:=kg.cell 0;have HB:=Lib.hid hHeld;clear hHeld hX kg;go_wp2_with fail;go_meet
       exact ⟨_,rfl,⟨⟨HB.out.1.1,HB.out.1.2.1,HB.out.1.2.2.1,c9,trivial⟩,HB.out.2⟩⟩
      ·have hPrev:=hHeld;obtain ⟨kg,hge,hne⟩:=hHeld.box;have hHeld2:=hHeld.call ((Below.refl _ _).alloc (Nat.le_refl _) (.cells #[.int .u32 0] 22));go_simp
       refine hK.out _ _ hHeld2 (fun hHeld=>?_)
       clear hK K hHeld2
       (try simp only [Act.put,List.setIfInBounds_toArray,List.set_cons_zero,List.set_cons_succ,List.getElem_toArray,List.getElem_cons_succ,List.getElem_cons_zero])
       refine wpAnyH_ready (rs:=[11]) (by kernel_rfl) (by simp) ?_
       refine AllReadyH.cons (o:=_) rfl (fun K hK=>?_) AllReadyH.nil
       go_simp
       go_at_call 77
       refine (hco _ _ hHeld.2).mono ?_;rintro e W3 ⟨rfl,hb9⟩
       (try go_wp2_with fail)
       have hHeld2:=hHeld.call hb9;have kg:=kg.step hb9;refine hK.out _ _ hHeld2 (fun hHeld=>?_)
       clear hK K hHeld2
       (try simp only [Act.put,List.setIfInBounds_toArray,List.set_cons_zero,List.set_cons_succ,List.getElem_toArray,List.getElem_cons_succ,List.getElem_cons_zero])
       refine wpAnyH_take (i:=12) (oi:=_) (v:=?_) rfl (by kernel_rfl) (by kernel_rfl) (by kernel_rfl) (fun _ _ _ h=>h) (Or.inl ⟨by rfl,?_⟩) hHeld ?_
       rotate_left
       ·intro w' hSw;have hc:=hSw.1;simp only [cellsAt] at hc;go_simp
        try with_reducible rfl
       (try simp only [Act.put,List.setIfInBounds_toArray,List.set_cons_zero,List.set_cons_succ,List.getElem_toArray,List.getElem_cons_succ,List.getElem_cons_zero])
       refine wpAnyH_take (i:=13) (oi:=_) (v:=?_) rfl (by kernel_rfl) (by kernel_rfl) (by kernel_rfl) (fun _ _ _ h=>h) (Or.inl ⟨by rfl,?_⟩) hHeld ?_
       rotate_left
       ·intro w' hSw;have hc:=hSw.1;simp only [cellsAt] at hc;go_simp
        try with_reducible rfl
       (try simp only [Act.put,List.setIfInBounds_toArray,List.set_cons_zero,List.set_cons_succ,List.getElem_toArray,List.getElem_cons_succ,List.getElem_cons_zero])
       refine wpAnyH_ready (rs:=[15]) (by kernel_rfl) (by simp) ?_
       refine AllReadyH.cons (o:=_) rfl (fun K hK=>?_) AllReadyH.nil
       have p0:=kg.cell 0;simp at p0;have fz:=kg.frozen;go_simp
       have hHeld2:=hHeld.set_new hge (.int .u32 (cntT (d.T a)+cntT (d.T e))) hne;have kg:=kg.set_ 0 (.int .u32 (cntT (d.T a)+cntT (d.T e)));refine hK.out _ _ hHeld2 (fun hHeld=>?_)
       clear hK K hHeld2
       (try simp only [Act.put,List.setIfInBounds_toArray,List.set_cons_zero,List.set_cons_succ,List.getElem_toArray,List.getElem_cons_succ,List.getElem_cons_zero])
       refine wpAnyH_done (by kernel_rfl) ?_ _
       have c9:=kg.cell 0;have HB:=Lib.hid hHeld;clear hHeld hX kg;go_wp2_with fail;go_meet
       exact ⟨_,rfl,⟨⟨HB.out.1.1,HB.out.1.2.1,HB.out.1.2.2.1,c9,trivial⟩,HB.out.2⟩⟩
     ·have hPrev:=hHeld;obtain ⟨kg,hge,hne⟩:=hHeld.box;replace kg:Blk (wr.drew.alloc (.cells #[.int .u32 0] 22)) wr.heap.size 22 #[.int .u32 0]:=kg
      replace hge:w.heap.size≤wr.heap.size:=hge
      have hHeld2:=hHeld.call ((Below.refl _ _).alloc (Nat.le_refl _) (.cells #[.int .u32 0] 22));go_simp
      refine hK.out _ _ hHeld2 (fun hHeld=>?_)
      clear hK K hHeld2
      (try simp only [Act.put,List.setIfInBounds_toArray,List.set_cons_zero,List.set_cons_succ,List.getElem_toArray,List.getElem_cons_succ,List.getElem_cons_zero])
      refine wpAnyH_ready (rs:=[5]) (by kernel_rfl) (by simp) ?_
      refine AllReadyH.cons (o:=_) rfl (fun K hK=>?_) AllReadyH.nil
      go_simp
      go_at_call 77
      refine (hco _ _ hHeld.2).mono ?_;rintro e W4 ⟨rfl,hb9⟩
      (try go_wp2_with fail)
      have hHeld2:=hHeld.call hb9;have kg:=kg.step hb9;refine hK.out _ _ hHeld2 (fun hHeld=>?_)
      clear hK K hHeld2
      (try simp only [Act.put,List.setIfInBounds_toArray,List.set_cons_zero,List.set_cons_succ,List.getElem_toArray,List.getElem_cons_succ,List.getElem_cons_zero])
      refine wpAnyH_ready (rs:=[11]) (by kernel_rfl) (by simp) ?_
      refine AllReadyH.cons (o:=_) rfl (fun K hK=>?_) AllReadyH.nil
      go_simp
      go_at_call 77
      refine (hco _ _ hHeld.2).mono ?_;rintro e W5 ⟨rfl,hb9⟩
      (try go_wp2_with fail)
      have hHeld2:=hHeld.call hb9;have kg:=kg.step hb9;refine hK.out _ _ hHeld2 (fun hHeld=>?_)
      clear hK K hHeld2
      (try simp only [Act.put,List.setIfInBounds_toArray,List.set_cons_zero,List.set_cons_succ,List.getElem_toArray,List.getElem_cons_succ,List.getElem_cons_zero])
      refine wpAnyH_take (i:=12) (oi:=_) (v:=?_) rfl (by kernel_rfl) (by kernel_rfl) (by kernel_rfl) (fun _ _ _ h=>h) (Or.inl ⟨by rfl,?_⟩) hHeld ?_
      rotate_left
      ·intro w' hSw;have hc:=hSw.1;simp only [cellsAt] at hc;go_simp
       try with_reducible rfl
      (try simp only [Act.put,List.setIfInBounds_toArray,List.set_cons_zero,List.set_cons_succ,List.getElem_toArray,List.getElem_cons_succ,List.getElem_cons_zero])
      refine wpAnyH_take (i:=13) (oi:=_) (v:=?_) rfl (by kernel_rfl) (by kernel_rfl) (by kernel_rfl) (fun _ _ _ h=>h) (Or.inl ⟨by rfl,?_⟩) hHeld ?_
      rotate_left
      ·intro w' hSw;have hc:=hSw.1;simp only [cellsAt] at hc;go_simp
       try with_reducible rfl
      (try simp only [Act.put,List.setIfInBounds_toArray,List.set_cons_zero,List.set_cons_succ,List.getElem_toArray,List.getElem_cons_succ,List.getElem_cons_zero])
      refine wpAnyH_ready (rs:=[15]) (by kernel_rfl) (by simp) ?_
      refine AllReadyH.cons (o:=_) rfl (fun K hK=>?_) AllReadyH.nil
      have p0:=kg.cell 0;simp at p0;have fz:=kg.frozen;go_simp
      have hHeld2:=hHeld.set_new hge (.int .u32 (cntT (d.T a)+cntT (d.T e))) hne;have kg:=kg.set_ 0 (.int .u32 (cntT (d.T a)+cntT (d.T e)));refine hK.out _ _ hHeld2 (fun hHeld=>?_)
      clear hK K hHeld2
      (try simp only [Act.put,List.setIfInBounds_toArray,List.set_cons_zero,List.set_cons_succ,List.getElem_toArray,List.getElem_cons_succ,List.getElem_cons_zero])
      refine wpAnyH_done (by kernel_rfl) ?_ _
      have c9:=kg.cell 0;have HB:=Lib.hid hHeld;clear hHeld hX kg;go_wp2_with fail;go_meet
      exact ⟨_,rfl,⟨⟨HB.out.1.1,HB.out.1.2.1,HB.out.1.2.2.1,c9,trivial⟩,HB.out.2⟩⟩
    obtain ⟨gb,rfl,hX⟩:=hcut;obtain ⟨S,hS⟩:∃ S,S=cntT (d.T a)+cntT (d.T e):=⟨_,rfl⟩;rw [← hS] at hX;have hg:=HG.out;rw [← hS] at hg;obtain ⟨g1,hg1⟩:∃ vv,(((m:Nat):Int)==cntT (d.T ty))=vv:=⟨_,rfl⟩;rw [hg1] at hg;obtain ⟨g2,hg2⟩:∃ vv,(al2.any fun a=>decide (S≤a.2.1))=vv:=⟨_,rfl⟩
    have hg3:((nums al2).all fun y=>decide (y<S))=!g2:=by
     rw [← hg2,nums_all,← not_any_not];congr 2
     funext x
     rw [← decide_not];simp only [Int.not_lt]
    rw [hg3] at hg;have hct:=fun (w':World) (hb:Cx w [(⟨d.gc,0,none⟩,.pointer (some ⟨d.gt,0,none⟩)),(⟨w.heap.size,1,none⟩,.int .u32 ty),(⟨w.heap.size,3,none⟩,.slice (some ⟨ab,ao,none⟩) n c),(⟨gb,0,none⟩,.int .u32 S)] w')=>containsFunc_any 122 #[.pointer (some ⟨gb,0,none⟩)] q2 m (c-2) al2 (fun a=>decide (S≤a.2.1)) w' ((HR.out.below hb.2).more hb.2.size) (by omega) (fun _ _=>by kernel_rfl) (fun k hk w'' hb''=>shuffleIn_ck gb S _ w'' ((hb''.cell (p:=⟨gb,0,none⟩) (World.block_lt_of_cell? w' _ hb.1.2.2.2.1)).trans hb.1.2.2.2.1))
    rw [hg2] at hct;have HG2:=Lib.hid hg;have hc:=hX.1;simp only [cellsAt] at hc;clear hg hg3 hg2 HG hS;go_wp2_with fail;clear hc;refine wp_region_cx (by kernel_rfl) (by kernel_rfl) hX ?_
    repeat' first | go_big_quiet_skip | (go_big_quiet_want;apply Exists.intro;refine ⟨fun w' hw'=>?_,?_⟩;(have hc:=hw'.1;simp only [cellsAt] at hc;go_simp;first | done | with_reducible rfl | (go_at_call 77;exact (hco _ _ hw'.2).mono fun e w2 h2=>⟨h2.1,hw'.call h2.2⟩) | (go_at_call 115;exact (hct _ hw').mono fun e w2 h2=>⟨h2.1,hw'.call h2.2⟩));go_big_quiet_on;(try simp only [Act.put,List.setIfInBounds_toArray,List.set_cons_zero,List.set_cons_succ])) | cases g1
    all_goals
     refine wpQuiet_nil ?_;intro w9 hw9;have HB:=Lib.hid hw9.2;clear hw9 hX;go_wp2_with fail;go_ret
     exact ⟨by rw [HV2.out,← HG2.out];rfl,HB.out⟩
end
end Go.Proofs.YtdebjkiilnhgpaaGreatDoor
