/- Walks: the checker's load. -/
import Derived.Test.YtdebjkiilnhgpaaGreatDoorCVB
import Derived.Test.YtdebjkiilnhgpaaGreatDoorCVC
set_option maxRecDepth 100000
set_option maxHeartbeats 4000000
namespace Go.Proofs.YtdebjkiilnhgpaaGreatDoor
section
open Go.RowKit
theorem load_ck (d:CkD) (b:Int) (x:InstA) (w:World) (h:CkS d b w) (hx:InstOk w w.heap.size x) (hn:1≤x.1.2.2.2.length) :
  Calls Tryz.prog 93 #[.pointer (some ⟨d.gc,0,none⟩),.agg (instC x)] w (BoolIs ((toT d.T (ofT d.g.M (ixn (nums x.1.2.2.2) 0))).1 != 0&&(toT d.T (ofT d.g.M (ixn (nums x.1.2.2.2) 0))).1==x.1.2.1) w):=by
 obtain ⟨⟨op,ty,res,al⟩,A,n,c⟩:=x;have hlen:=hx.len;have hr:=hx.reads;have hl:=hr.args_len;dsimp only at hn hlen hr hl ⊢;unfold instC;dsimp only;obtain ⟨c0,c1,c2,c3,c4⟩:=h.cell;obtain ⟨ab,ao,rfl,hab,hac⟩:=hr.args (by omega)
 obtain ⟨f0,a0,g0⟩:=hac 0 (by omega)
 simp only [Nat.zero_mul,Nat.add_zero] at a0 f0 g0;have i0:(0:Int)<(n:Nat):=by omega
 have j0:0<n:=by omega
 rw [show ixn (nums al) 0=(ag al 0).2.1 from nums_getD (by omega)]
 generalize (ag al 0).2.1=n0 at *;clear hac;have hof:=fun (u:Int) (w':World) (hb:Below w.heap.size w w')=>of_ck d b u w' (h.step hb)
 have hto:=fun (u:Int) (w':World) (hb:Below w.heap.size w w')=>to_ck d b u w' (h.step hb)
 have kB:=Blk.new w 42 #[.int .u16 op,.int .u32 ty,.int .u32 res,.slice (some ⟨ab,ao,none⟩) n c];obtain ⟨z0,z1,z2,z3⟩:=four_ kB;have hX:Cx w [(⟨w.heap.size,1,none⟩,.int .u32 ty),(⟨w.heap.size,3,none⟩,.slice (some ⟨ab,ao,none⟩) n c),(⟨ab,ao+1,none⟩,.int .u32 n0)] (w.alloc (.cells #[.int .u16 op,.int .u32 ty,.int .u32 res,.slice (some ⟨ab,ao,none⟩) n c] 42)):=⟨⟨z1,z3,cell_alloc_c _ a0,trivial⟩,(Below.refl w.heap.size w).alloc (Nat.le_refl _) _⟩;obtain ⟨b1,hb1⟩:∃ vv,((toT d.T (ofT d.g.M n0)).1 != 0)=vv:=⟨_,rfl⟩;rw [hb1];obtain ⟨b2,hb2⟩:∃ vv,((toT d.T (ofT d.g.M n0)).1==ty)=vv:=⟨_,rfl⟩;rw [hb2];have hc:=hX.1;simp only [cellsAt] at hc;clear h hx hr kB z0 z1 z2 z3 c0 c1 c2 c3 c4 hab a0 f0 g0;cases b1 with
 | false =>
  go_enter Tryz.func93,Tryz.ntmps93;go_wp2_with (first | (go_at_call 26;refine (hof _ _ hX.2).mono ?_;rintro e W ⟨rfl,hb⟩;replace hX:=hX.call hb;clear hb;clear hc;have hc:=hX.1;simp only [cellsAt] at hc) | (go_at_call 120;refine (hto _ _ hX.2).mono ?_;rintro e W ⟨rfl,hb⟩;replace hX:=hX.call hb;clear hb;clear hc;have hc:=hX.1;simp only [cellsAt] at hc))
  go_ret
  exact ⟨rfl,hX.2⟩
 | true =>
  go_enter Tryz.func93,Tryz.ntmps93;go_wp2_with (first | (go_at_call 26;refine (hof _ _ hX.2).mono ?_;rintro e W ⟨rfl,hb⟩;replace hX:=hX.call hb;clear hb;clear hc;have hc:=hX.1;simp only [cellsAt] at hc) | (go_at_call 120;refine (hto _ _ hX.2).mono ?_;rintro e W ⟨rfl,hb⟩;replace hX:=hX.call hb;clear hb;clear hc;have hc:=hX.1;simp only [cellsAt] at hc))
  go_ret
  exact ⟨rfl,hX.2⟩
end
section
open Go.RowKit
theorem store_ck (d:CkD) (b:Int) (x:InstA) (w:World) (h:CkS d b w) (hx:InstOk w w.heap.size x) (hn:2≤x.1.2.2.2.length) :
  Calls Tryz.prog 94 #[.pointer (some ⟨d.gc,0,none⟩),.agg (instC x)] w (BoolIs ((toT d.T (ofT d.g.M (ixn (nums x.1.2.2.2) 0))).1 != 0&&(toT d.T (ofT d.g.M (ixn (nums x.1.2.2.2) 0))).2 != 1&&(toT d.T (ofT d.g.M (ixn (nums x.1.2.2.2) 0))).1==ofT d.g.M (ixn (nums x.1.2.2.2) 1)) w):=by
 obtain ⟨⟨op,ty,res,al⟩,A,n,c⟩:=x;have hlen:=hx.len;have hr:=hx.reads;have hl:=hr.args_len;dsimp only at hn hlen hr hl ⊢;unfold instC;dsimp only;obtain ⟨c0,c1,c2,c3,c4⟩:=h.cell;obtain ⟨ab,ao,rfl,hab,hac⟩:=hr.args (by omega)
 obtain ⟨f0,a0,g0⟩:=hac 0 (by omega)
 obtain ⟨f1,a1,g1⟩:=hac 1 (by omega)
 simp only [Nat.zero_mul,Nat.add_zero] at a0 f0 g0;have f1:w.cell? ⟨ab,ao+3,none⟩=some (.int .u8 (ag al 1).1):=f1;have a1:w.cell? ⟨ab,ao+4,none⟩=some (.int .u32 (ag al 1).2.1):=a1;have g1:w.cell? ⟨ab,ao+5,none⟩=some (.string (ag al 1).2.2):=g1;have i0:(0:Int)<(n:Nat):=by omega
 have j0:0<n:=by omega
 have i1:(1:Int)<(n:Nat):=by omega
 have j1:1<n:=by omega
 rw [show ixn (nums al) 0=(ag al 0).2.1 from nums_getD (by omega),show ixn (nums al) 1=(ag al 1).2.1 from nums_getD (by omega)]
 generalize (ag al 0).2.1=n0 at *;generalize (ag al 1).2.1=n1 at *;clear hac;have hof:=fun (u:Int) (w':World) (hb:Below w.heap.size w w')=>of_ck d b u w' (h.step hb)
 have hto:=fun (u:Int) (w':World) (hb:Below w.heap.size w w')=>to_ck d b u w' (h.step hb)
 have kB:=Blk.new w 42 #[.int .u16 op,.int .u32 ty,.int .u32 res,.slice (some ⟨ab,ao,none⟩) n c];obtain ⟨z0,z1,z2,z3⟩:=four_ kB;have hX:Cx w [(⟨w.heap.size,1,none⟩,.int .u32 ty),(⟨w.heap.size,3,none⟩,.slice (some ⟨ab,ao,none⟩) n c),(⟨ab,ao+1,none⟩,.int .u32 n0),(⟨ab,ao+4,none⟩,.int .u32 n1)] (w.alloc (.cells #[.int .u16 op,.int .u32 ty,.int .u32 res,.slice (some ⟨ab,ao,none⟩) n c] 42)):=⟨⟨z1,z3,cell_alloc_c _ a0,cell_alloc_c _ a1,trivial⟩,(Below.refl w.heap.size w).alloc (Nat.le_refl _) _⟩;obtain ⟨b1,hb1⟩:∃ vv,((toT d.T (ofT d.g.M n0)).1 != 0)=vv:=⟨_,rfl⟩;rw [hb1];obtain ⟨b2,hb2⟩:∃ vv,((toT d.T (ofT d.g.M n0)).2 != 1)=vv:=⟨_,rfl⟩;rw [hb2];obtain ⟨b3,hb3⟩:∃ vv,((toT d.T (ofT d.g.M n0)).1==ofT d.g.M n1)=vv:=⟨_,rfl⟩;rw [hb3];have hc:=hX.1;simp only [cellsAt] at hc;clear h hx hr kB z0 z1 z2 z3 c0 c1 c2 c3 c4 hab a0 f0 g0 a1 f1 g1;cases b1 with
 | false =>
  go_enter Tryz.func94,Tryz.ntmps94;go_wp2_with (first | (go_at_call 26;refine (hof _ _ hX.2).mono ?_;rintro e W ⟨rfl,hb⟩;replace hX:=hX.call hb;clear hb;clear hc;have hc:=hX.1;simp only [cellsAt] at hc) | (go_at_call 120;refine (hto _ _ hX.2).mono ?_;rintro e W ⟨rfl,hb⟩;replace hX:=hX.call hb;clear hb;clear hc;have hc:=hX.1;simp only [cellsAt] at hc))
  go_ret
  exact ⟨rfl,hX.2⟩
 | true =>
  cases b2 with
  | false =>
   go_enter Tryz.func94,Tryz.ntmps94;go_wp2_with (first | (go_at_call 26;refine (hof _ _ hX.2).mono ?_;rintro e W ⟨rfl,hb⟩;replace hX:=hX.call hb;clear hb;clear hc;have hc:=hX.1;simp only [cellsAt] at hc) | (go_at_call 120;refine (hto _ _ hX.2).mono ?_;rintro e W ⟨rfl,hb⟩;replace hX:=hX.call hb;clear hb;clear hc;have hc:=hX.1;simp only [cellsAt] at hc))
   go_ret
   exact ⟨rfl,hX.2⟩
  | true =>
   go_enter Tryz.func94,Tryz.ntmps94;go_wp2_with (first | (go_at_call 26;refine (hof _ _ hX.2).mono ?_;rintro e W ⟨rfl,hb⟩;replace hX:=hX.call hb;clear hb;clear hc;have hc:=hX.1;simp only [cellsAt] at hc) | (go_at_call 120;refine (hto _ _ hX.2).mono ?_;rintro e W ⟨rfl,hb⟩;replace hX:=hX.call hb;clear hb;clear hc;have hc:=hX.1;simp only [cellsAt] at hc))
   go_ret
   exact ⟨rfl,hX.2⟩
end
section
open Go.RowKit
theorem arithmetic_ck (d:CkD) (b:Int) (x:InstA) (w:World) (h:CkS d b w) (hx:InstOk w w.heap.size x) (hn:0≤x.1.2.2.2.length) :
  Calls Tryz.prog 66 #[.pointer (some ⟨d.gc,0,none⟩),.agg (instC x)] w (BoolIs (leafK d.T x.1.2.1==3&&alkL d.g x.1.2.1 (nums x.1.2.2.2)) w):=by
 obtain ⟨⟨op,ty,res,al⟩,A,n,c⟩:=x;have hlen:=hx.len;have hr:=hx.reads;have hl:=hr.args_len;dsimp only at hn hlen hr hl ⊢;unfold instC;dsimp only;obtain ⟨c0,c1,c2,c3,c4⟩:=h.cell;have hin:=fun (u:Int) (w':World) (hb:Below w.heap.size w w')=>isNumbers_ck d b u w' (h.step hb)
 have hal:=fun (u:Int) (w':World) (hb:Below w.heap.size w w')=>alike_ck d b u A n c al w' (h.step hb) ((hr.below hb).more hb.size) (by omega)
 have kB:=Blk.new w 42 #[.int .u16 op,.int .u32 ty,.int .u32 res,.slice A n c];obtain ⟨z0,z1,z2,z3⟩:=four_ kB;have hX:Cx w [(⟨w.heap.size,1,none⟩,.int .u32 ty),(⟨w.heap.size,3,none⟩,.slice A n c)] (w.alloc (.cells #[.int .u16 op,.int .u32 ty,.int .u32 res,.slice A n c] 42)):=⟨⟨z1,z3,trivial⟩,(Below.refl w.heap.size w).alloc (Nat.le_refl _) _⟩;obtain ⟨b1,hb1⟩:∃ vv,(leafK d.T ty==3)=vv:=⟨_,rfl⟩;rw [hb1];obtain ⟨b2,hb2⟩:∃ vv,(alkL d.g ty (nums al))=vv:=⟨_,rfl⟩;rw [hb2];have hc:=hX.1;simp only [cellsAt] at hc;clear h hx hr kB z0 z1 z2 z3 c0 c1 c2 c3 c4;cases b1 with
 | false =>
  go_enter Tryz.func66,Tryz.ntmps66;go_wp2_with (first | (go_at_call 86;refine (hin _ _ hX.2).mono ?_;rintro e W ⟨rfl,hb⟩;replace hX:=hX.call hb;clear hb;clear hc;have hc:=hX.1;simp only [cellsAt] at hc) | (go_at_call 87;refine (hal _ _ hX.2).mono ?_;rintro e W ⟨rfl,hb⟩;replace hX:=hX.call hb;clear hb;clear hc;have hc:=hX.1;simp only [cellsAt] at hc))
  go_ret
  exact ⟨rfl,hX.2⟩
 | true =>
  go_enter Tryz.func66,Tryz.ntmps66;go_wp2_with (first | (go_at_call 86;refine (hin _ _ hX.2).mono ?_;rintro e W ⟨rfl,hb⟩;replace hX:=hX.call hb;clear hb;clear hc;have hc:=hX.1;simp only [cellsAt] at hc) | (go_at_call 87;refine (hal _ _ hX.2).mono ?_;rintro e W ⟨rfl,hb⟩;replace hX:=hX.call hb;clear hb;clear hc;have hc:=hX.1;simp only [cellsAt] at hc))
  go_ret
  exact ⟨rfl,hX.2⟩
end
section
open Go.RowKit
theorem logic_ck (d:CkD) (b:Int) (x:InstA) (w:World) (h:CkS d b w) (hx:InstOk w w.heap.size x) (hn:0≤x.1.2.2.2.length) :
  Calls Tryz.prog 62 #[.pointer (some ⟨d.gc,0,none⟩),.agg (instC x)] w (BoolIs (leafK d.T x.1.2.1==2&&alkL d.g x.1.2.1 (nums x.1.2.2.2)) w):=by
 obtain ⟨⟨op,ty,res,al⟩,A,n,c⟩:=x;have hlen:=hx.len;have hr:=hx.reads;have hl:=hr.args_len;dsimp only at hn hlen hr hl ⊢;unfold instC;dsimp only;obtain ⟨c0,c1,c2,c3,c4⟩:=h.cell;have hit:=fun (u:Int) (w':World) (hb:Below w.heap.size w w')=>isTruths_ck d b u w' (h.step hb)
 have hal:=fun (u:Int) (w':World) (hb:Below w.heap.size w w')=>alike_ck d b u A n c al w' (h.step hb) ((hr.below hb).more hb.size) (by omega)
 have kB:=Blk.new w 42 #[.int .u16 op,.int .u32 ty,.int .u32 res,.slice A n c];obtain ⟨z0,z1,z2,z3⟩:=four_ kB;have hX:Cx w [(⟨w.heap.size,1,none⟩,.int .u32 ty),(⟨w.heap.size,3,none⟩,.slice A n c)] (w.alloc (.cells #[.int .u16 op,.int .u32 ty,.int .u32 res,.slice A n c] 42)):=⟨⟨z1,z3,trivial⟩,(Below.refl w.heap.size w).alloc (Nat.le_refl _) _⟩;obtain ⟨b1,hb1⟩:∃ vv,(leafK d.T ty==2)=vv:=⟨_,rfl⟩;rw [hb1];obtain ⟨b2,hb2⟩:∃ vv,(alkL d.g ty (nums al))=vv:=⟨_,rfl⟩;rw [hb2];have hc:=hX.1;simp only [cellsAt] at hc;clear h hx hr kB z0 z1 z2 z3 c0 c1 c2 c3 c4;cases b1 with
 | false =>
  go_enter Tryz.func62,Tryz.ntmps62;go_wp2_with (first | (go_at_call 88;refine (hit _ _ hX.2).mono ?_;rintro e W ⟨rfl,hb⟩;replace hX:=hX.call hb;clear hb;clear hc;have hc:=hX.1;simp only [cellsAt] at hc) | (go_at_call 87;refine (hal _ _ hX.2).mono ?_;rintro e W ⟨rfl,hb⟩;replace hX:=hX.call hb;clear hb;clear hc;have hc:=hX.1;simp only [cellsAt] at hc))
  go_ret
  exact ⟨rfl,hX.2⟩
 | true =>
  go_enter Tryz.func62,Tryz.ntmps62;go_wp2_with (first | (go_at_call 88;refine (hit _ _ hX.2).mono ?_;rintro e W ⟨rfl,hb⟩;replace hX:=hX.call hb;clear hb;clear hc;have hc:=hX.1;simp only [cellsAt] at hc) | (go_at_call 87;refine (hal _ _ hX.2).mono ?_;rintro e W ⟨rfl,hb⟩;replace hX:=hX.call hb;clear hb;clear hc;have hc:=hX.1;simp only [cellsAt] at hc))
  go_ret
  exact ⟨rfl,hX.2⟩
end
section
open Go.RowKit
theorem pair_ck (d:CkD) (b:Int) (x:InstA) (w:World) (h:CkS d b w) (hx:InstOk w w.heap.size x) (hn:0≤x.1.2.2.2.length) :
  Calls Tryz.prog 60 #[.pointer (some ⟨d.gc,0,none⟩),.agg (instC x)] w (BoolIs ((d.T x.1.2.1).kind==6&&cntT (d.T x.1.2.1)==2&&prt d.T x.1.2.1 1==prt d.T x.1.2.1 0&&leafK d.T (prt d.T x.1.2.1 0)==3&&alkL d.g (prt d.T x.1.2.1 0) (nums x.1.2.2.2)) w):=by
 obtain ⟨⟨op,ty,res,al⟩,A,n,c⟩:=x;have hlen:=hx.len;have hr:=hx.reads;have hl:=hr.args_len;dsimp only at hn hlen hr hl ⊢;unfold instC;dsimp only;obtain ⟨c0,c1,c2,c3,c4⟩:=h.cell;have hpa:=fun (u k:Int) (w':World) (hb:Below w.heap.size w w')=>part_ck d b u k w' (h.step hb)
 have hki:=fun (u:Int) (w':World) (hb:Below w.heap.size w w')=>kindM_any _ _ _ u w' (h.step hb).tab.tab
 have hco:=fun (u:Int) (w':World) (hb:Below w.heap.size w w')=>countM_any _ _ _ u w' (h.step hb).tab.tab ((h.step hb).tab.mild u)
 have hin:=fun (u:Int) (w':World) (hb:Below w.heap.size w w')=>isNumbers_ck d b u w' (h.step hb)
 have hal:=fun (u:Int) (w':World) (hb:Below w.heap.size w w')=>alike_ck d b u A n c al w' (h.step hb) ((hr.below hb).more hb.size) (by omega)
 have kB:=Blk.new w 42 #[.int .u16 op,.int .u32 ty,.int .u32 res,.slice A n c];obtain ⟨z0,z1,z2,z3⟩:=four_ kB;have hX:Cx w [(⟨d.gc,0,none⟩,.pointer (some ⟨d.gt,0,none⟩)),(⟨w.heap.size,1,none⟩,.int .u32 ty),(⟨w.heap.size,3,none⟩,.slice A n c)] (w.alloc (.cells #[.int .u16 op,.int .u32 ty,.int .u32 res,.slice A n c] 42)):=⟨⟨cell_alloc_c _ c0,z1,z3,trivial⟩,(Below.refl w.heap.size w).alloc (Nat.le_refl _) _⟩;obtain ⟨b1,hb1⟩:∃ vv,((d.T ty).kind==6)=vv:=⟨_,rfl⟩;rw [hb1];obtain ⟨b2,hb2⟩:∃ vv,(cntT (d.T ty)==2)=vv:=⟨_,rfl⟩;rw [hb2];obtain ⟨b3,hb3⟩:∃ vv,(prt d.T ty 1==prt d.T ty 0)=vv:=⟨_,rfl⟩;rw [hb3];obtain ⟨b4,hb4⟩:∃ vv,(leafK d.T (prt d.T ty 0)==3)=vv:=⟨_,rfl⟩;rw [hb4];obtain ⟨b5,hb5⟩:∃ vv,(alkL d.g (prt d.T ty 0) (nums al))=vv:=⟨_,rfl⟩;rw [hb5];have hc:=hX.1;simp only [cellsAt] at hc;clear h hx hr kB z0 z1 z2 z3 c0 c1 c2 c3 c4;go_enter Tryz.func60,Tryz.ntmps60;go_wp2_with (first | (go_at_call 85;refine (hpa _ _ _ hX.2).mono ?_;rintro e W ⟨rfl,hb⟩;replace hX:=hX.call hb;clear hb;clear hc;have hc:=hX.1;simp only [cellsAt] at hc))
 clear hc;refine wp_region_cx (by kernel_rfl) (by kernel_rfl) hX ?_
 repeat' first | go_big_quiet_skip | (go_big_quiet_want;apply Exists.intro;refine ⟨fun w' hw'=>?_,?_⟩;(have hc:=hw'.1;simp only [cellsAt] at hc;go_simp;first | done | with_reducible rfl | (go_at_call 85;exact (hpa _ _ _ hw'.2).mono fun e w2 h2=>⟨h2.1,hw'.call h2.2⟩) | (go_at_call 30;exact (hki _ _ hw'.2).mono fun e w2 h2=>⟨h2.1,hw'.call h2.2⟩) | (go_at_call 77;exact (hco _ _ hw'.2).mono fun e w2 h2=>⟨h2.1,hw'.call h2.2⟩) | (go_at_call 86;exact (hin _ _ hw'.2).mono fun e w2 h2=>⟨h2.1,hw'.call h2.2⟩) | (go_at_call 87;exact (hal _ _ hw'.2).mono fun e w2 h2=>⟨h2.1,hw'.call h2.2⟩));go_big_quiet_on;(try simp only [Act.put,List.setIfInBounds_toArray,List.set_cons_zero,List.set_cons_succ])) | cases b1 | cases b2 | cases b3 | cases b4
 all_goals
  refine wpQuiet_nil ?_;intro w9 hw9;clear hX;have hX:=hw9;clear hw9;have hc:=hX.1;simp only [cellsAt] at hc;clear hc;go_wp2_with fail;go_ret
  exact ⟨rfl,hX.2⟩
end
section
open Go.RowKit
theorem all_ck (d:CkD) (b:Int) (x:InstA) (w:World) (h:CkS d b w) (hx:InstOk w w.heap.size x) (hn:1≤x.1.2.2.2.length) :
  Calls Tryz.prog 61 #[.pointer (some ⟨d.gc,0,none⟩),.agg (instC x)] w (BoolIs ((d.T x.1.2.1).kind==2&&(d.T (ofT d.g.M (ixn (nums x.1.2.2.2) 0))).kind==4&&leafK d.T (ofT d.g.M (ixn (nums x.1.2.2.2) 0))==2) w):=by
 obtain ⟨⟨op,ty,res,al⟩,A,n,c⟩:=x;have hlen:=hx.len;have hr:=hx.reads;have hl:=hr.args_len;dsimp only at hn hlen hr hl ⊢;unfold instC;dsimp only;obtain ⟨c0,c1,c2,c3,c4⟩:=h.cell;obtain ⟨ab,ao,rfl,hab,hac⟩:=hr.args (by omega)
 obtain ⟨f0,a0,g0⟩:=hac 0 (by omega)
 simp only [Nat.zero_mul,Nat.add_zero] at a0 f0 g0;have i0:(0:Int)<(n:Nat):=by omega
 have j0:0<n:=by omega
 rw [show ixn (nums al) 0=(ag al 0).2.1 from nums_getD (by omega)]
 generalize (ag al 0).2.1=n0 at *;clear hac;have hof:=fun (u:Int) (w':World) (hb:Below w.heap.size w w')=>of_ck d b u w' (h.step hb)
 have hki:=fun (u:Int) (w':World) (hb:Below w.heap.size w w')=>kindM_any _ _ _ u w' (h.step hb).tab.tab
 have hit:=fun (u:Int) (w':World) (hb:Below w.heap.size w w')=>isTruths_ck d b u w' (h.step hb)
 have kB:=Blk.new w 42 #[.int .u16 op,.int .u32 ty,.int .u32 res,.slice (some ⟨ab,ao,none⟩) n c];obtain ⟨z0,z1,z2,z3⟩:=four_ kB;have hX:Cx w [(⟨d.gc,0,none⟩,.pointer (some ⟨d.gt,0,none⟩)),(⟨w.heap.size,1,none⟩,.int .u32 ty),(⟨w.heap.size,3,none⟩,.slice (some ⟨ab,ao,none⟩) n c),(⟨ab,ao+1,none⟩,.int .u32 n0)] (w.alloc (.cells #[.int .u16 op,.int .u32 ty,.int .u32 res,.slice (some ⟨ab,ao,none⟩) n c] 42)):=⟨⟨cell_alloc_c _ c0,z1,z3,cell_alloc_c _ a0,trivial⟩,(Below.refl w.heap.size w).alloc (Nat.le_refl _) _⟩;obtain ⟨b1,hb1⟩:∃ vv,((d.T ty).kind==2)=vv:=⟨_,rfl⟩;rw [hb1];obtain ⟨b2,hb2⟩:∃ vv,((d.T (ofT d.g.M n0)).kind==4)=vv:=⟨_,rfl⟩;rw [hb2];obtain ⟨b3,hb3⟩:∃ vv,(leafK d.T (ofT d.g.M n0)==2)=vv:=⟨_,rfl⟩;rw [hb3];have hc:=hX.1;simp only [cellsAt] at hc;clear h hx hr kB z0 z1 z2 z3 c0 c1 c2 c3 c4 hab a0 f0 g0;go_enter Tryz.func61,Tryz.ntmps61;go_wp2_with (first | (go_at_call 26;refine (hof _ _ hX.2).mono ?_;rintro e W ⟨rfl,hb⟩;replace hX:=hX.call hb;clear hb;clear hc;have hc:=hX.1;simp only [cellsAt] at hc))
 clear hc;refine wp_region_cx (by kernel_rfl) (by kernel_rfl) hX ?_
 repeat' first | go_big_quiet_skip | (go_big_quiet_want;apply Exists.intro;refine ⟨fun w' hw'=>?_,?_⟩;(have hc:=hw'.1;simp only [cellsAt] at hc;go_simp;first | done | with_reducible rfl | (go_at_call 30;exact (hki _ _ hw'.2).mono fun e w2 h2=>⟨h2.1,hw'.call h2.2⟩) | (go_at_call 88;exact (hit _ _ hw'.2).mono fun e w2 h2=>⟨h2.1,hw'.call h2.2⟩));go_big_quiet_on;(try simp only [Act.put,List.setIfInBounds_toArray,List.set_cons_zero,List.set_cons_succ])) | cases b1 | cases b2
 all_goals
  refine wpQuiet_nil ?_;intro w9 hw9;clear hX;have hX:=hw9;clear hw9;have hc:=hX.1;simp only [cellsAt] at hc;clear hc;go_wp2_with fail;go_ret
  exact ⟨rfl,hX.2⟩
end
section
open Go.RowKit
theorem choice_ck (d:CkD) (b:Int) (x:InstA) (w:World) (h:CkS d b w) (hx:InstOk w w.heap.size x) (hn:3≤x.1.2.2.2.length) :
  Calls Tryz.prog 63 #[.pointer (some ⟨d.gc,0,none⟩),.agg (instC x)] w (BoolIs ((leafK d.T x.1.2.1==2||leafK d.T x.1.2.1==3)&&ofT d.g.M (ixn (nums x.1.2.2.2) 1)==x.1.2.1&&ofT d.g.M (ixn (nums x.1.2.2.2) 2)==x.1.2.1&&leafK d.T (ofT d.g.M (ixn (nums x.1.2.2.2) 0))==2&&wideB d.T (ofT d.g.M (ixn (nums x.1.2.2.2) 0)) x.1.2.1) w):=by
 obtain ⟨⟨op,ty,res,al⟩,A,n,c⟩:=x;have hlen:=hx.len;have hr:=hx.reads;have hl:=hr.args_len;dsimp only at hn hlen hr hl ⊢;unfold instC;dsimp only;obtain ⟨c0,c1,c2,c3,c4⟩:=h.cell;obtain ⟨ab,ao,rfl,hab,hac⟩:=hr.args (by omega)
 obtain ⟨f0,a0,g0⟩:=hac 0 (by omega)
 obtain ⟨f1,a1,g1⟩:=hac 1 (by omega)
 obtain ⟨f2,a2,g2⟩:=hac 2 (by omega)
 simp only [Nat.zero_mul,Nat.add_zero] at a0 f0 g0;have f1:w.cell? ⟨ab,ao+3,none⟩=some (.int .u8 (ag al 1).1):=f1;have a1:w.cell? ⟨ab,ao+4,none⟩=some (.int .u32 (ag al 1).2.1):=a1;have g1:w.cell? ⟨ab,ao+5,none⟩=some (.string (ag al 1).2.2):=g1;have f2:w.cell? ⟨ab,ao+6,none⟩=some (.int .u8 (ag al 2).1):=f2;have a2:w.cell? ⟨ab,ao+7,none⟩=some (.int .u32 (ag al 2).2.1):=a2;have g2:w.cell? ⟨ab,ao+8,none⟩=some (.string (ag al 2).2.2):=g2;have i0:(0:Int)<(n:Nat):=by omega
 have j0:0<n:=by omega
 have i1:(1:Int)<(n:Nat):=by omega
 have j1:1<n:=by omega
 have i2:(2:Int)<(n:Nat):=by omega
 have j2:2<n:=by omega
 rw [show ixn (nums al) 0=(ag al 0).2.1 from nums_getD (by omega),show ixn (nums al) 1=(ag al 1).2.1 from nums_getD (by omega),show ixn (nums al) 2=(ag al 2).2.1 from nums_getD (by omega)]
 generalize (ag al 0).2.1=n0 at *;generalize (ag al 1).2.1=n1 at *;generalize (ag al 2).2.1=n2 at *;clear hac;have hof:=fun (u:Int) (w':World) (hb:Below w.heap.size w w')=>of_ck d b u w' (h.step hb)
 have hit:=fun (u:Int) (w':World) (hb:Below w.heap.size w w')=>isTruths_ck d b u w' (h.step hb)
 have hin:=fun (u:Int) (w':World) (hb:Below w.heap.size w w')=>isNumbers_ck d b u w' (h.step hb)
 have hwi:=fun (u v:Int) (w':World) (hb:Below w.heap.size w w')=>wide_ck d b u v w' (h.step hb)
 have kB:=Blk.new w 42 #[.int .u16 op,.int .u32 ty,.int .u32 res,.slice (some ⟨ab,ao,none⟩) n c];obtain ⟨z0,z1,z2,z3⟩:=four_ kB;have hX:Cx w [(⟨w.heap.size,1,none⟩,.int .u32 ty),(⟨w.heap.size,3,none⟩,.slice (some ⟨ab,ao,none⟩) n c),(⟨ab,ao+1,none⟩,.int .u32 n0),(⟨ab,ao+4,none⟩,.int .u32 n1),(⟨ab,ao+7,none⟩,.int .u32 n2)] (w.alloc (.cells #[.int .u16 op,.int .u32 ty,.int .u32 res,.slice (some ⟨ab,ao,none⟩) n c] 42)):=⟨⟨z1,z3,cell_alloc_c _ a0,cell_alloc_c _ a1,cell_alloc_c _ a2,trivial⟩,(Below.refl w.heap.size w).alloc (Nat.le_refl _) _⟩;obtain ⟨b1,hb1⟩:∃ vv,(leafK d.T ty==2)=vv:=⟨_,rfl⟩;rw [hb1];obtain ⟨b2,hb2⟩:∃ vv,(leafK d.T ty==3)=vv:=⟨_,rfl⟩;rw [hb2];obtain ⟨b3,hb3⟩:∃ vv,(ofT d.g.M n1==ty)=vv:=⟨_,rfl⟩;rw [hb3];obtain ⟨b4,hb4⟩:∃ vv,(ofT d.g.M n2==ty)=vv:=⟨_,rfl⟩;rw [hb4];obtain ⟨b5,hb5⟩:∃ vv,(leafK d.T (ofT d.g.M n0)==2)=vv:=⟨_,rfl⟩;rw [hb5];obtain ⟨b6,hb6⟩:∃ vv,(wideB d.T (ofT d.g.M n0) ty)=vv:=⟨_,rfl⟩;rw [hb6];have hc:=hX.1;simp only [cellsAt] at hc;clear h hx hr kB z0 z1 z2 z3 c0 c1 c2 c3 c4 hab a0 f0 g0 a1 f1 g1 a2 f2 g2;go_enter Tryz.func63,Tryz.ntmps63;go_wp2_with (first | (go_at_call 26;refine (hof _ _ hX.2).mono ?_;rintro e W ⟨rfl,hb⟩;replace hX:=hX.call hb;clear hb;clear hc;have hc:=hX.1;simp only [cellsAt] at hc))
 clear hc;refine wp_region_cx (by kernel_rfl) (by kernel_rfl) hX ?_
 repeat' first | go_big_quiet_skip | (go_big_quiet_want;apply Exists.intro;refine ⟨fun w' hw'=>?_,?_⟩;(have hc:=hw'.1;simp only [cellsAt] at hc;go_simp;first | done | with_reducible rfl | (go_at_call 26;exact (hof _ _ hw'.2).mono fun e w2 h2=>⟨h2.1,hw'.call h2.2⟩) | (go_at_call 88;exact (hit _ _ hw'.2).mono fun e w2 h2=>⟨h2.1,hw'.call h2.2⟩) | (go_at_call 86;exact (hin _ _ hw'.2).mono fun e w2 h2=>⟨h2.1,hw'.call h2.2⟩) | (go_at_call 89;exact (hwi _ _ _ hw'.2).mono fun e w2 h2=>⟨h2.1,hw'.call h2.2⟩));go_big_quiet_on;(try simp only [Act.put,List.setIfInBounds_toArray,List.set_cons_zero,List.set_cons_succ])) | cases b1 | cases b2 | cases b3 | cases b4 | cases b5
 all_goals
  refine wpQuiet_nil ?_;intro w9 hw9;clear hX;have hX:=hw9;clear hw9;have hc:=hX.1;simp only [cellsAt] at hc;clear hc;go_wp2_with fail;go_ret
  exact ⟨rfl,hX.2⟩
end
section
open Go.RowKit
theorem conditional_ck (d:CkD) (b:Int) (x:InstA) (w:World) (h:CkS d b w) (hx:InstOk w w.heap.size x) (hn:1≤x.1.2.2.2.length) :
  Calls Tryz.prog 68 #[.pointer (some ⟨d.gc,0,none⟩),.agg (instC x)] w (BoolIs ((d.T (ofT d.g.M (ixn (nums x.1.2.2.2) 0))).kind==2) w):=by
 obtain ⟨⟨op,ty,res,al⟩,A,n,c⟩:=x;have hlen:=hx.len;have hr:=hx.reads;have hl:=hr.args_len;dsimp only at hn hlen hr hl ⊢;unfold instC;dsimp only;obtain ⟨c0,c1,c2,c3,c4⟩:=h.cell;obtain ⟨ab,ao,rfl,hab,hac⟩:=hr.args (by omega)
 obtain ⟨f0,a0,g0⟩:=hac 0 (by omega)
 simp only [Nat.zero_mul,Nat.add_zero] at a0 f0 g0;have i0:(0:Int)<(n:Nat):=by omega
 have j0:0<n:=by omega
 rw [show ixn (nums al) 0=(ag al 0).2.1 from nums_getD (by omega)]
 generalize (ag al 0).2.1=n0 at *;clear hac;have hof:=fun (u:Int) (w':World) (hb:Below w.heap.size w w')=>of_ck d b u w' (h.step hb)
 have hki:=fun (u:Int) (w':World) (hb:Below w.heap.size w w')=>kindM_any _ _ _ u w' (h.step hb).tab.tab
 have kB:=Blk.new w 42 #[.int .u16 op,.int .u32 ty,.int .u32 res,.slice (some ⟨ab,ao,none⟩) n c];obtain ⟨z0,z1,z2,z3⟩:=four_ kB;have hX:Cx w [(⟨d.gc,0,none⟩,.pointer (some ⟨d.gt,0,none⟩)),(⟨w.heap.size,1,none⟩,.int .u32 ty),(⟨w.heap.size,3,none⟩,.slice (some ⟨ab,ao,none⟩) n c),(⟨ab,ao+1,none⟩,.int .u32 n0)] (w.alloc (.cells #[.int .u16 op,.int .u32 ty,.int .u32 res,.slice (some ⟨ab,ao,none⟩) n c] 42)):=⟨⟨cell_alloc_c _ c0,z1,z3,cell_alloc_c _ a0,trivial⟩,(Below.refl w.heap.size w).alloc (Nat.le_refl _) _⟩;obtain ⟨b1,hb1⟩:∃ vv,((d.T (ofT d.g.M n0)).kind==2)=vv:=⟨_,rfl⟩;rw [hb1];have hc:=hX.1;simp only [cellsAt] at hc;clear h hx hr kB z0 z1 z2 z3 c0 c1 c2 c3 c4 hab a0 f0 g0;go_enter Tryz.func68,Tryz.ntmps68;go_wp2_with fail;clear hc;refine wp_region_cx (by kernel_rfl) (by kernel_rfl) hX ?_
 repeat' first | go_big_quiet_skip | (go_big_quiet_want;apply Exists.intro;refine ⟨fun w' hw'=>?_,?_⟩;(have hc:=hw'.1;simp only [cellsAt] at hc;go_simp;first | done | with_reducible rfl | (go_at_call 26;exact (hof _ _ hw'.2).mono fun e w2 h2=>⟨h2.1,hw'.call h2.2⟩) | (go_at_call 30;exact (hki _ _ hw'.2).mono fun e w2 h2=>⟨h2.1,hw'.call h2.2⟩));go_big_quiet_on;(try simp only [Act.put,List.setIfInBounds_toArray,List.set_cons_zero,List.set_cons_succ]))
 all_goals
  refine wpQuiet_nil ?_;intro w9 hw9;clear hX;have hX:=hw9;clear hw9;have hc:=hX.1;simp only [cellsAt] at hc;clear hc;go_wp2_with fail;go_ret
  exact ⟨rfl,hX.2⟩
end
section
open Go.RowKit
theorem leaves_ck (d:CkD) (b:Int) (x:InstA) (w:World) (h:CkS d b w) (hx:InstOk w w.heap.size x) (hn:0≤x.1.2.2.2.length) :
  Calls Tryz.prog 70 #[.pointer (some ⟨d.gc,0,none⟩),.agg (instC x)] w (BoolIs ((d.T b).kind==1) w):=by
 obtain ⟨⟨op,ty,res,al⟩,A,n,c⟩:=x;have hlen:=hx.len;have hr:=hx.reads;have hl:=hr.args_len;dsimp only at hn hlen hr hl ⊢;unfold instC;dsimp only;obtain ⟨c0,c1,c2,c3,c4⟩:=h.cell;have hki:=fun (u:Int) (w':World) (hb:Below w.heap.size w w')=>kindM_any _ _ _ u w' (h.step hb).tab.tab
 have kB:=Blk.new w 42 #[.int .u16 op,.int .u32 ty,.int .u32 res,.slice A n c];obtain ⟨z0,z1,z2,z3⟩:=four_ kB;have hX:Cx w [(⟨d.gc,0,none⟩,.pointer (some ⟨d.gt,0,none⟩)),(⟨d.gc,4,none⟩,.int .u32 b),(⟨w.heap.size,1,none⟩,.int .u32 ty),(⟨w.heap.size,3,none⟩,.slice A n c)] (w.alloc (.cells #[.int .u16 op,.int .u32 ty,.int .u32 res,.slice A n c] 42)):=⟨⟨cell_alloc_c _ c0,cell_alloc_c _ c4,z1,z3,trivial⟩,(Below.refl w.heap.size w).alloc (Nat.le_refl _) _⟩;obtain ⟨b1,hb1⟩:∃ vv,((d.T b).kind==1)=vv:=⟨_,rfl⟩;rw [hb1];have hc:=hX.1;simp only [cellsAt] at hc;clear h hx hr kB z0 z1 z2 z3 c0 c1 c2 c3 c4;go_enter Tryz.func70,Tryz.ntmps70;go_wp2_with fail;clear hc;refine wp_region_cx (by kernel_rfl) (by kernel_rfl) hX ?_
 repeat' first | go_big_quiet_skip | (go_big_quiet_want;apply Exists.intro;refine ⟨fun w' hw'=>?_,?_⟩;(have hc:=hw'.1;simp only [cellsAt] at hc;go_simp;first | done | with_reducible rfl | (go_at_call 30;exact (hki _ _ hw'.2).mono fun e w2 h2=>⟨h2.1,hw'.call h2.2⟩));go_big_quiet_on;(try simp only [Act.put,List.setIfInBounds_toArray,List.set_cons_zero,List.set_cons_succ]))
 all_goals
  refine wpQuiet_nil ?_;intro w9 hw9;clear hX;have hX:=hw9;clear hw9;have hc:=hX.1;simp only [cellsAt] at hc;clear hc;go_wp2_with fail;go_ret
  exact ⟨rfl,hX.2⟩
end
section
open Go.RowKit
theorem gives_ck (d:CkD) (b:Int) (x:InstA) (w:World) (h:CkS d b w) (hx:InstOk w w.heap.size x) (hn:1≤x.1.2.2.2.length) :
  Calls Tryz.prog 71 #[.pointer (some ⟨d.gc,0,none⟩),.agg (instC x)] w (BoolIs (decide (0<(d.T b).size)&&ofT d.g.M (ixn (nums x.1.2.2.2) 0)==b) w):=by
 obtain ⟨⟨op,ty,res,al⟩,A,n,c⟩:=x;have hlen:=hx.len;have hr:=hx.reads;have hl:=hr.args_len;dsimp only at hn hlen hr hl ⊢;unfold instC;dsimp only;obtain ⟨c0,c1,c2,c3,c4⟩:=h.cell;obtain ⟨ab,ao,rfl,hab,hac⟩:=hr.args (by omega)
 obtain ⟨f0,a0,g0⟩:=hac 0 (by omega)
 simp only [Nat.zero_mul,Nat.add_zero] at a0 f0 g0;have i0:(0:Int)<(n:Nat):=by omega
 have j0:0<n:=by omega
 rw [show ixn (nums al) 0=(ag al 0).2.1 from nums_getD (by omega)]
 generalize (ag al 0).2.1=n0 at *;clear hac;have hpl:=fun (u:Int) (w':World) (hb:Below w.heap.size w w')=>plainM_any _ _ _ u w' (h.step hb).tab.tab
 have hof:=fun (u:Int) (w':World) (hb:Below w.heap.size w w')=>of_ck d b u w' (h.step hb)
 have kB:=Blk.new w 42 #[.int .u16 op,.int .u32 ty,.int .u32 res,.slice (some ⟨ab,ao,none⟩) n c];obtain ⟨z0,z1,z2,z3⟩:=four_ kB;have hX:Cx w [(⟨d.gc,0,none⟩,.pointer (some ⟨d.gt,0,none⟩)),(⟨d.gc,4,none⟩,.int .u32 b),(⟨w.heap.size,1,none⟩,.int .u32 ty),(⟨w.heap.size,3,none⟩,.slice (some ⟨ab,ao,none⟩) n c),(⟨ab,ao+1,none⟩,.int .u32 n0)] (w.alloc (.cells #[.int .u16 op,.int .u32 ty,.int .u32 res,.slice (some ⟨ab,ao,none⟩) n c] 42)):=⟨⟨cell_alloc_c _ c0,cell_alloc_c _ c4,z1,z3,cell_alloc_c _ a0,trivial⟩,(Below.refl w.heap.size w).alloc (Nat.le_refl _) _⟩;obtain ⟨b1,hb1⟩:∃ vv,(decide (0<(d.T b).size))=vv:=⟨_,rfl⟩;rw [hb1];obtain ⟨b2,hb2⟩:∃ vv,(ofT d.g.M n0==b)=vv:=⟨_,rfl⟩;rw [hb2];have hc:=hX.1;simp only [cellsAt] at hc;clear h hx hr kB z0 z1 z2 z3 c0 c1 c2 c3 c4 hab a0 f0 g0;go_enter Tryz.func71,Tryz.ntmps71;go_wp2_with fail;clear hc;refine wp_region_cx (by kernel_rfl) (by kernel_rfl) hX ?_
 repeat' first | go_big_quiet_skip | (go_big_quiet_want;apply Exists.intro;refine ⟨fun w' hw'=>?_,?_⟩;(have hc:=hw'.1;simp only [cellsAt] at hc;go_simp;first | done | with_reducible rfl | (go_at_call 75;exact (hpl _ _ hw'.2).mono fun e w2 h2=>⟨h2.1,hw'.call h2.2⟩) | (go_at_call 26;exact (hof _ _ hw'.2).mono fun e w2 h2=>⟨h2.1,hw'.call h2.2⟩));go_big_quiet_on;(try simp only [Act.put,List.setIfInBounds_toArray,List.set_cons_zero,List.set_cons_succ])) | cases b1
 all_goals
  refine wpQuiet_nil ?_;intro w9 hw9;clear hX;have hX:=hw9;clear hw9;have hc:=hX.1;simp only [cellsAt] at hc;clear hc;go_wp2_with fail;go_ret
  exact ⟨rfl,hX.2⟩
end
section
open Go.RowKit
theorem copied_ck (d:CkD) (b:Int) (x:InstA) (w:World) (h:CkS d b w) (hx:InstOk w w.heap.size x) (hn:1≤x.1.2.2.2.length) :
  Calls Tryz.prog 102 #[.pointer (some ⟨d.gc,0,none⟩),.agg (instC x)] w (BoolIs (decide (0<(d.T x.1.2.1).size)&&ofT d.g.M (ixn (nums x.1.2.2.2) 0)==x.1.2.1) w):=by
 obtain ⟨⟨op,ty,res,al⟩,A,n,c⟩:=x;have hlen:=hx.len;have hr:=hx.reads;have hl:=hr.args_len;dsimp only at hn hlen hr hl ⊢;unfold instC;dsimp only;obtain ⟨c0,c1,c2,c3,c4⟩:=h.cell;obtain ⟨ab,ao,rfl,hab,hac⟩:=hr.args (by omega)
 obtain ⟨f0,a0,g0⟩:=hac 0 (by omega)
 simp only [Nat.zero_mul,Nat.add_zero] at a0 f0 g0;have i0:(0:Int)<(n:Nat):=by omega
 have j0:0<n:=by omega
 rw [show ixn (nums al) 0=(ag al 0).2.1 from nums_getD (by omega)]
 generalize (ag al 0).2.1=n0 at *;clear hac;have hpl:=fun (u:Int) (w':World) (hb:Below w.heap.size w w')=>plainM_any _ _ _ u w' (h.step hb).tab.tab
 have hof:=fun (u:Int) (w':World) (hb:Below w.heap.size w w')=>of_ck d b u w' (h.step hb)
 have kB:=Blk.new w 42 #[.int .u16 op,.int .u32 ty,.int .u32 res,.slice (some ⟨ab,ao,none⟩) n c];obtain ⟨z0,z1,z2,z3⟩:=four_ kB;have hX:Cx w [(⟨d.gc,0,none⟩,.pointer (some ⟨d.gt,0,none⟩)),(⟨w.heap.size,1,none⟩,.int .u32 ty),(⟨w.heap.size,3,none⟩,.slice (some ⟨ab,ao,none⟩) n c),(⟨ab,ao+1,none⟩,.int .u32 n0)] (w.alloc (.cells #[.int .u16 op,.int .u32 ty,.int .u32 res,.slice (some ⟨ab,ao,none⟩) n c] 42)):=⟨⟨cell_alloc_c _ c0,z1,z3,cell_alloc_c _ a0,trivial⟩,(Below.refl w.heap.size w).alloc (Nat.le_refl _) _⟩;obtain ⟨b1,hb1⟩:∃ vv,(decide (0<(d.T ty).size))=vv:=⟨_,rfl⟩;rw [hb1];obtain ⟨b2,hb2⟩:∃ vv,(ofT d.g.M n0==ty)=vv:=⟨_,rfl⟩;rw [hb2];have hc:=hX.1;simp only [cellsAt] at hc;clear h hx hr kB z0 z1 z2 z3 c0 c1 c2 c3 c4 hab a0 f0 g0;go_enter Tryz.func102,Tryz.ntmps102;go_wp2_with fail;clear hc;refine wp_region_cx (by kernel_rfl) (by kernel_rfl) hX ?_
 repeat' first | go_big_quiet_skip | (go_big_quiet_want;apply Exists.intro;refine ⟨fun w' hw'=>?_,?_⟩;(have hc:=hw'.1;simp only [cellsAt] at hc;go_simp;first | done | with_reducible rfl | (go_at_call 75;exact (hpl _ _ hw'.2).mono fun e w2 h2=>⟨h2.1,hw'.call h2.2⟩) | (go_at_call 26;exact (hof _ _ hw'.2).mono fun e w2 h2=>⟨h2.1,hw'.call h2.2⟩));go_big_quiet_on;(try simp only [Act.put,List.setIfInBounds_toArray,List.set_cons_zero,List.set_cons_succ])) | cases b1
 all_goals
  refine wpQuiet_nil ?_;intro w9 hw9;clear hX;have hX:=hw9;clear hw9;have hc:=hX.1;simp only [cellsAt] at hc;clear hc;go_wp2_with fail;go_ret
  exact ⟨rfl,hX.2⟩
end
section
open Go.RowKit
theorem compare_ck (d:CkD) (b:Int) (x:InstA) (w:World) (h:CkS d b w) (hx:InstOk w w.heap.size x) (hn:2≤x.1.2.2.2.length) :
  Calls Tryz.prog 64 #[.pointer (some ⟨d.gc,0,none⟩),.agg (instC x)] w (BoolIs (leafK d.T x.1.2.1==2&&leafK d.T (ofT d.g.M (ixn (nums x.1.2.2.2) 0))==3&&wideB d.T (ofT d.g.M (ixn (nums x.1.2.2.2) 0)) x.1.2.1&&alkL d.g (ofT d.g.M (ixn (nums x.1.2.2.2) 0)) [ixn (nums x.1.2.2.2) 1]) w):=by
 obtain ⟨⟨op,ty,res,al⟩,A,n,c⟩:=x;have hlen:=hx.len;have hr:=hx.reads;have hl:=hr.args_len;dsimp only at hn hlen hr hl ⊢;unfold instC;dsimp only;obtain ⟨c0,c1,c2,c3,c4⟩:=h.cell;obtain ⟨ab,ao,rfl,hab,hac⟩:=hr.args (by omega)
 obtain ⟨f0,a0,g0⟩:=hac 0 (by omega)
 obtain ⟨f1,a1,g1⟩:=hac 1 (by omega)
 simp only [Nat.zero_mul,Nat.add_zero] at a0 f0 g0;have f1:w.cell? ⟨ab,ao+3,none⟩=some (.int .u8 (ag al 1).1):=f1;have a1:w.cell? ⟨ab,ao+4,none⟩=some (.int .u32 (ag al 1).2.1):=a1;have g1:w.cell? ⟨ab,ao+5,none⟩=some (.string (ag al 1).2.2):=g1;have i0:(0:Int)<(n:Nat):=by omega
 have j0:0<n:=by omega
 have i1:(1:Int)<(n:Nat):=by omega
 have j1:1<n:=by omega
 rw [show ixn (nums al) 0=(ag al 0).2.1 from nums_getD (by omega),show ixn (nums al) 1=(ag al 1).2.1 from nums_getD (by omega)]
 obtain ⟨y0,hy0⟩:∃ y,ag al 0=y:=⟨_,rfl⟩;rw [hy0] at f0 a0 g0 ⊢;obtain ⟨m0,n0,t0⟩:=y0;dsimp only at f0 a0 g0 ⊢;obtain ⟨y1,hy1⟩:∃ y,ag al 1=y:=⟨_,rfl⟩;rw [hy1] at f1 a1 g1 ⊢;obtain ⟨m1,n1,t1⟩:=y1;dsimp only at f1 a1 g1 ⊢;clear hac;have hof:=fun (u:Int) (w':World) (hb:Below w.heap.size w w')=>of_ck d b u w' (h.step hb)
 have hit:=fun (u:Int) (w':World) (hb:Below w.heap.size w w')=>isTruths_ck d b u w' (h.step hb)
 have hin:=fun (u:Int) (w':World) (hb:Below w.heap.size w w')=>isNumbers_ck d b u w' (h.step hb)
 have hwi:=fun (u v:Int) (w':World) (hb:Below w.heap.size w w')=>wide_ck d b u v w' (h.step hb)
 have hal1:=fun (u:Int) (w':World) (hb:Below w.heap.size w w')=>alike_ck d b u (some ⟨w'.heap.size,0,none⟩) 1 1 [(m1,n1,t1)] (w'.alloc (.cells #[.int .u8 m1,.int .u32 n1,.string t1] 44)) (h.step (hb.alloc hb.size _)) (by have:=Reads.litN w' #[.int .u8 m1,.int .u32 n1,.string t1] 44 3 1 3 rfl rfl (by omega);rw [World.size_alloc];exact this) (by decide)
 simp only [nums,List.map_cons,List.map_nil] at hal1;have kB:=Blk.new w 42 #[.int .u16 op,.int .u32 ty,.int .u32 res,.slice (some ⟨ab,ao,none⟩) n c];obtain ⟨z0,z1,z2,z3⟩:=four_ kB;have hX:Cx w [(⟨w.heap.size,1,none⟩,.int .u32 ty),(⟨w.heap.size,3,none⟩,.slice (some ⟨ab,ao,none⟩) n c),(⟨ab,ao+1,none⟩,.int .u32 n0),(⟨ab,ao+3,none⟩,.int .u8 m1),(⟨ab,ao+4,none⟩,.int .u32 n1),(⟨ab,ao+5,none⟩,.string t1)] (w.alloc (.cells #[.int .u16 op,.int .u32 ty,.int .u32 res,.slice (some ⟨ab,ao,none⟩) n c] 42)):=⟨⟨z1,z3,cell_alloc_c _ a0,cell_alloc_c _ f1,cell_alloc_c _ a1,cell_alloc_c _ g1,trivial⟩,(Below.refl w.heap.size w).alloc (Nat.le_refl _) _⟩;obtain ⟨b1,hb1⟩:∃ vv,(leafK d.T ty==2)=vv:=⟨_,rfl⟩;rw [hb1];obtain ⟨b2,hb2⟩:∃ vv,(leafK d.T (ofT d.g.M n0)==3)=vv:=⟨_,rfl⟩;rw [hb2];obtain ⟨b3,hb3⟩:∃ vv,(wideB d.T (ofT d.g.M n0) ty)=vv:=⟨_,rfl⟩;rw [hb3];obtain ⟨b4,hb4⟩:∃ vv,(alkL d.g (ofT d.g.M n0) [n1])=vv:=⟨_,rfl⟩;rw [hb4];have hc:=hX.1;simp only [cellsAt] at hc;clear kB z0 z1 z2 z3 c0 c1 c2 c3 c4 hab a0 f0 g0 a1 f1 g1;cases b1 with
 | false =>
  go_enter Tryz.func64,Tryz.ntmps64;go_wp2_with (first | (go_at_call 26;refine (hof _ _ hX.2).mono ?_;rintro e W ⟨rfl,hb⟩;replace hX:=hX.call hb;clear hb;clear hc;have hc:=hX.1;simp only [cellsAt] at hc) | (go_at_call 88;refine (hit _ _ hX.2).mono ?_;rintro e W ⟨rfl,hb⟩;replace hX:=hX.call hb;clear hb;clear hc;have hc:=hX.1;simp only [cellsAt] at hc) | (go_at_call 86;refine (hin _ _ hX.2).mono ?_;rintro e W ⟨rfl,hb⟩;replace hX:=hX.call hb;clear hb;clear hc;have hc:=hX.1;simp only [cellsAt] at hc) | (go_at_call 89;refine (hwi _ _ _ hX.2).mono ?_;rintro e W ⟨rfl,hb⟩;replace hX:=hX.call hb;clear hb;clear hc;have hc:=hX.1;simp only [cellsAt] at hc) | (go_at_call 87;have hX9:=hX.call ((Below.refl _ _).alloc (Nat.le_refl _) (.cells #[.int .u8 m1,.int .u32 n1,.string t1] 44));refine (hal1 _ _ hX.2).mono ?_;rintro e W ⟨rfl,hb⟩;replace hX:=hX9.call hb;clear hX9 hb;clear hc;have hc:=hX.1;simp only [cellsAt] at hc))
  go_ret
  exact ⟨rfl,hX.2⟩
 | true =>
  cases b2 with
  | false =>
   go_enter Tryz.func64,Tryz.ntmps64;go_wp2_with (first | (go_at_call 26;refine (hof _ _ hX.2).mono ?_;rintro e W ⟨rfl,hb⟩;replace hX:=hX.call hb;clear hb;clear hc;have hc:=hX.1;simp only [cellsAt] at hc) | (go_at_call 88;refine (hit _ _ hX.2).mono ?_;rintro e W ⟨rfl,hb⟩;replace hX:=hX.call hb;clear hb;clear hc;have hc:=hX.1;simp only [cellsAt] at hc) | (go_at_call 86;refine (hin _ _ hX.2).mono ?_;rintro e W ⟨rfl,hb⟩;replace hX:=hX.call hb;clear hb;clear hc;have hc:=hX.1;simp only [cellsAt] at hc) | (go_at_call 89;refine (hwi _ _ _ hX.2).mono ?_;rintro e W ⟨rfl,hb⟩;replace hX:=hX.call hb;clear hb;clear hc;have hc:=hX.1;simp only [cellsAt] at hc) | (go_at_call 87;have hX9:=hX.call ((Below.refl _ _).alloc (Nat.le_refl _) (.cells #[.int .u8 m1,.int .u32 n1,.string t1] 44));refine (hal1 _ _ hX.2).mono ?_;rintro e W ⟨rfl,hb⟩;replace hX:=hX9.call hb;clear hX9 hb;clear hc;have hc:=hX.1;simp only [cellsAt] at hc))
   go_ret
   exact ⟨rfl,hX.2⟩
  | true =>
   cases b3 with
   | false =>
    go_enter Tryz.func64,Tryz.ntmps64;go_wp2_with (first | (go_at_call 26;refine (hof _ _ hX.2).mono ?_;rintro e W ⟨rfl,hb⟩;replace hX:=hX.call hb;clear hb;clear hc;have hc:=hX.1;simp only [cellsAt] at hc) | (go_at_call 88;refine (hit _ _ hX.2).mono ?_;rintro e W ⟨rfl,hb⟩;replace hX:=hX.call hb;clear hb;clear hc;have hc:=hX.1;simp only [cellsAt] at hc) | (go_at_call 86;refine (hin _ _ hX.2).mono ?_;rintro e W ⟨rfl,hb⟩;replace hX:=hX.call hb;clear hb;clear hc;have hc:=hX.1;simp only [cellsAt] at hc) | (go_at_call 89;refine (hwi _ _ _ hX.2).mono ?_;rintro e W ⟨rfl,hb⟩;replace hX:=hX.call hb;clear hb;clear hc;have hc:=hX.1;simp only [cellsAt] at hc) | (go_at_call 87;have hX9:=hX.call ((Below.refl _ _).alloc (Nat.le_refl _) (.cells #[.int .u8 m1,.int .u32 n1,.string t1] 44));refine (hal1 _ _ hX.2).mono ?_;rintro e W ⟨rfl,hb⟩;replace hX:=hX9.call hb;clear hX9 hb;clear hc;have hc:=hX.1;simp only [cellsAt] at hc))
    go_ret
    exact ⟨rfl,hX.2⟩
   | true =>
    go_enter Tryz.func64,Tryz.ntmps64;go_wp2_with (first | (go_at_call 26;refine (hof _ _ hX.2).mono ?_;rintro e W ⟨rfl,hb⟩;replace hX:=hX.call hb;clear hb;clear hc;have hc:=hX.1;simp only [cellsAt] at hc) | (go_at_call 88;refine (hit _ _ hX.2).mono ?_;rintro e W ⟨rfl,hb⟩;replace hX:=hX.call hb;clear hb;clear hc;have hc:=hX.1;simp only [cellsAt] at hc) | (go_at_call 86;refine (hin _ _ hX.2).mono ?_;rintro e W ⟨rfl,hb⟩;replace hX:=hX.call hb;clear hb;clear hc;have hc:=hX.1;simp only [cellsAt] at hc) | (go_at_call 89;refine (hwi _ _ _ hX.2).mono ?_;rintro e W ⟨rfl,hb⟩;replace hX:=hX.call hb;clear hb;clear hc;have hc:=hX.1;simp only [cellsAt] at hc) | (go_at_call 87;have hX9:=hX.call ((Below.refl _ _).alloc (Nat.le_refl _) (.cells #[.int .u8 m1,.int .u32 n1,.string t1] 44));refine (hal1 _ _ hX.2).mono ?_;rintro e W ⟨rfl,hb⟩;replace hX:=hX9.call hb;clear hX9 hb;clear hc;have hc:=hX.1;simp only [cellsAt] at hc))
    go_ret
    exact ⟨rfl,hX.2⟩
end
section
open Go.RowKit
theorem among_ck (d:CkD) (b:Int) (x:InstA) (w:World) (h:CkS d b w) (hx:InstOk w w.heap.size x) (hn:1≤x.1.2.2.2.length) :
  Calls Tryz.prog 69 #[.pointer (some ⟨d.gc,0,none⟩),.agg (instC x)] w (BoolIs (numL d.g [ixn (nums x.1.2.2.2) 0]) w):=by
 obtain ⟨⟨op,ty,res,al⟩,A,n,c⟩:=x;have hlen:=hx.len;have hr:=hx.reads;have hl:=hr.args_len;dsimp only at hn hlen hr hl ⊢;unfold instC;dsimp only;obtain ⟨c0,c1,c2,c3,c4⟩:=h.cell;obtain ⟨ab,ao,rfl,hab,hac⟩:=hr.args (by omega)
 obtain ⟨f0,a0,g0⟩:=hac 0 (by omega)
 simp only [Nat.zero_mul,Nat.add_zero] at a0 f0 g0;have i0:(0:Int)<(n:Nat):=by omega
 have j0:0<n:=by omega
 rw [show ixn (nums al) 0=(ag al 0).2.1 from nums_getD (by omega)]
 obtain ⟨y0,hy0⟩:∃ y,ag al 0=y:=⟨_,rfl⟩;rw [hy0] at f0 a0 g0 ⊢;obtain ⟨m0,n0,t0⟩:=y0;dsimp only at f0 a0 g0 ⊢;clear hac;have hnu1:=fun (w':World) (hb:Below w.heap.size w w')=>numbers_ck d b (some ⟨w'.heap.size,0,none⟩) 1 1 [(m0,n0,t0)] (w'.alloc (.cells #[.int .u8 m0,.int .u32 n0,.string t0] 44)) (h.step (hb.alloc hb.size _)) (by have:=Reads.litN w' #[.int .u8 m0,.int .u32 n0,.string t0] 44 3 1 3 rfl rfl (by omega);rw [World.size_alloc];exact this) (by decide)
 simp only [nums,List.map_cons,List.map_nil] at hnu1;have kB:=Blk.new w 42 #[.int .u16 op,.int .u32 ty,.int .u32 res,.slice (some ⟨ab,ao,none⟩) n c];obtain ⟨z0,z1,z2,z3⟩:=four_ kB;have hX:Cx w [(⟨w.heap.size,1,none⟩,.int .u32 ty),(⟨w.heap.size,3,none⟩,.slice (some ⟨ab,ao,none⟩) n c),(⟨ab,ao,none⟩,.int .u8 m0),(⟨ab,ao+1,none⟩,.int .u32 n0),(⟨ab,ao+2,none⟩,.string t0)] (w.alloc (.cells #[.int .u16 op,.int .u32 ty,.int .u32 res,.slice (some ⟨ab,ao,none⟩) n c] 42)):=⟨⟨z1,z3,cell_alloc_c _ f0,cell_alloc_c _ a0,cell_alloc_c _ g0,trivial⟩,(Below.refl w.heap.size w).alloc (Nat.le_refl _) _⟩;obtain ⟨b1,hb1⟩:∃ vv,(numL d.g [n0])=vv:=⟨_,rfl⟩;rw [hb1];have hc:=hX.1;simp only [cellsAt] at hc;clear kB z0 z1 z2 z3 c0 c1 c2 c3 c4 hab a0 f0 g0;have hnu2:=hnu1 _ hX.2;rw [World.size_alloc] at hnu2;go_enter Tryz.func69,Tryz.ntmps69;go_wp2_with (go_at_call 90;have hX9:=hX.call ((Below.refl _ _).alloc (Nat.le_refl _) (.cells #[.int .u8 m0,.int .u32 n0,.string t0] 44));refine hnu2.mono ?_;rintro e W ⟨rfl,hb⟩;replace hX:=hX9.call hb)
 go_ret
 exact ⟨rfl,hX.2⟩
end
end Go.Proofs.YtdebjkiilnhgpaaGreatDoor
