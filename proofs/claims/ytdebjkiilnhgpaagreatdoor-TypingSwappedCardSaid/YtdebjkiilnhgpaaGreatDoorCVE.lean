/- Walks: the checker's extract. -/
import Derived.Test.YtdebjkiilnhgpaaGreatDoorCVC
set_option maxRecDepth 100000
set_option maxHeartbeats 4000000
namespace Go.Proofs.YtdebjkiilnhgpaaGreatDoor
section
open Go.RowKit
theorem extract_ck (d:CkD) (b:Int) (x:InstA) (w:World) (h:CkS d b w) (hx:InstOk w w.heap.size x) (hn:1≤x.1.2.2.2.length) (hu:∀ a∈x.1.2.2.2,0≤a.2.1∧a.2.1<4294967296) (hcap:x.2.2.1≤x.2.2.2) :
  Calls Tryz.prog 100 #[.pointer (some ⟨d.gc,0,none⟩),.agg (instC x)] w (BoolIs (pathT d.T (ofT d.g.M (ixn (nums x.1.2.2.2) 0)) ((nums x.1.2.2.2).drop 1) != 0&&pathT d.T (ofT d.g.M (ixn (nums x.1.2.2.2) 0)) ((nums x.1.2.2.2).drop 1)==x.1.2.1) w):=by
 obtain ⟨⟨op,ty,res,al⟩,A,n,c⟩:=x;have hlen:=hx.len;have hr:=hx.reads;have hl:=hr.args_len;dsimp only at hn hlen hr hl hu hcap ⊢;unfold instC;dsimp only;obtain ⟨c0,c1,c2,c3,c4⟩:=h.cell;obtain ⟨ab,ao,rfl,hab,hac⟩:=hr.args (by omega)
 obtain ⟨f0,a0,g0⟩:=hac 0 (by omega)
 simp only [Nat.zero_mul,Nat.add_zero] at a0 f0 g0;have i0:(0:Int)<(n:Nat):=by omega
 have j0:0<n:=by omega
 rw [show ixn (nums al) 0=(ag al 0).2.1 from nums_getD (by omega)]
 rw [← nums_dropL];have l1:(1:Int)≤(n:Nat):=by omega
 obtain ⟨q1,hq1⟩:∃ vv,(if c=1 then some ⟨ab,ao,none⟩ else some ⟨ab,ao+3,none⟩:Option Addr)=vv:=⟨_,rfl⟩
 obtain ⟨al1,hal1⟩:∃ vv,al.drop 1=vv:=⟨_,rfl⟩;rw [hal1];generalize (ag al 0).2.1=n0 at *;clear hac;have hof:=fun (u:Int) (w':World) (hb:Below w.heap.size w w')=>of_ck d b u w' (h.step hb)
 have hpc:=fun (u:Int) (w':World) (hb:Below w.heap.size w w')=>path_ck d b u q1 (n-1) (c-1) al1 w' (h.step hb) (by rw [← hq1,← hal1];exact ((hr.args_from (k:=1) (by omega) hcap).below hb).more hb.size) (by omega) (fun a ha=>hu a (by rw [← hal1] at ha;exact List.mem_of_mem_drop ha))
 have kB:=Blk.new w 42 #[.int .u16 op,.int .u32 ty,.int .u32 res,.slice (some ⟨ab,ao,none⟩) n c];obtain ⟨z0,z1,z2,z3⟩:=four_ kB;have hX:Cx w [(⟨w.heap.size,1,none⟩,.int .u32 ty),(⟨w.heap.size,3,none⟩,.slice (some ⟨ab,ao,none⟩) n c),(⟨ab,ao+1,none⟩,.int .u32 n0)] (w.alloc (.cells #[.int .u16 op,.int .u32 ty,.int .u32 res,.slice (some ⟨ab,ao,none⟩) n c] 42)):=⟨⟨z1,z3,cell_alloc_c _ a0,trivial⟩,(Below.refl w.heap.size w).alloc (Nat.le_refl _) _⟩;obtain ⟨b1,hb1⟩:∃ vv,(pathT d.T (ofT d.g.M n0) (nums al1) != 0)=vv:=⟨_,rfl⟩;rw [hb1];obtain ⟨b2,hb2⟩:∃ vv,(pathT d.T (ofT d.g.M n0) (nums al1)==ty)=vv:=⟨_,rfl⟩;rw [hb2];have hc:=hX.1;simp only [cellsAt] at hc;clear kB z0 z1 z2 z3 c0 c1 c2 c3 c4 hab a0 f0 g0;cases b1 with
 | false =>
  go_enter Tryz.func100,Tryz.ntmps100;go_wp2_with fail;clear hc;refine wp_region_cx (by kernel_rfl) (by kernel_rfl) hX ?_
  repeat' first | go_big_quiet_skip | (go_big_quiet_want;apply Exists.intro;refine ⟨fun w' hw'=>?_,?_⟩;(have hc:=hw'.1;simp only [cellsAt] at hc;go_simp;first | done | with_reducible rfl | (go_at_call 26;exact (hof _ _ hw'.2).mono fun e w2 h2=>⟨h2.1,hw'.call h2.2⟩) | (go_at_call 123;exact (hpc _ _ hw'.2).mono fun e w2 h2=>⟨h2.1,hw'.call h2.2⟩));go_big_quiet_on;(try simp only [Act.put,List.setIfInBounds_toArray,List.set_cons_zero,List.set_cons_succ]))
  all_goals
   refine wpQuiet_nil ?_;intro w9 hw9;clear hX;have hX:=hw9;clear hw9;have hc:=hX.1;simp only [cellsAt] at hc;go_wp2_with fail;go_ret
   exact ⟨rfl,hX.2⟩
 | true =>
  go_enter Tryz.func100,Tryz.ntmps100;go_wp2_with fail;clear hc;refine wp_region_cx (by kernel_rfl) (by kernel_rfl) hX ?_
  repeat' first | go_big_quiet_skip | (go_big_quiet_want;apply Exists.intro;refine ⟨fun w' hw'=>?_,?_⟩;(have hc:=hw'.1;simp only [cellsAt] at hc;go_simp;first | done | with_reducible rfl | (go_at_call 26;exact (hof _ _ hw'.2).mono fun e w2 h2=>⟨h2.1,hw'.call h2.2⟩) | (go_at_call 123;exact (hpc _ _ hw'.2).mono fun e w2 h2=>⟨h2.1,hw'.call h2.2⟩));go_big_quiet_on;(try simp only [Act.put,List.setIfInBounds_toArray,List.set_cons_zero,List.set_cons_succ]))
  all_goals
   refine wpQuiet_nil ?_;intro w9 hw9;clear hX;have hX:=hw9;clear hw9;have hc:=hX.1;simp only [cellsAt] at hc;go_wp2_with fail;go_ret
   exact ⟨rfl,hX.2⟩
end
section
open Go.RowKit
theorem insert_ck (d:CkD) (b:Int) (x:InstA) (w:World) (h:CkS d b w) (hx:InstOk w w.heap.size x) (hn:2≤x.1.2.2.2.length) (hu:∀ a∈x.1.2.2.2,0≤a.2.1∧a.2.1<4294967296) (hcap:x.2.2.1≤x.2.2.2) :
  Calls Tryz.prog 101 #[.pointer (some ⟨d.gc,0,none⟩),.agg (instC x)] w (BoolIs (pathT d.T x.1.2.1 ((nums x.1.2.2.2).drop 2) != 0&&ofT d.g.M (ixn (nums x.1.2.2.2) 1)==x.1.2.1&&ofT d.g.M (ixn (nums x.1.2.2.2) 0)==pathT d.T x.1.2.1 ((nums x.1.2.2.2).drop 2)) w):=by
 obtain ⟨⟨op,ty,res,al⟩,A,n,c⟩:=x;have hlen:=hx.len;have hr:=hx.reads;have hl:=hr.args_len;dsimp only at hn hlen hr hl hu hcap ⊢;unfold instC;dsimp only;obtain ⟨c0,c1,c2,c3,c4⟩:=h.cell;obtain ⟨ab,ao,rfl,hab,hac⟩:=hr.args (by omega)
 obtain ⟨f0,a0,g0⟩:=hac 0 (by omega)
 obtain ⟨f1,a1,g1⟩:=hac 1 (by omega)
 simp only [Nat.zero_mul,Nat.add_zero] at a0 f0 g0;have f1:w.cell? ⟨ab,ao+3,none⟩=some (.int .u8 (ag al 1).1):=f1;have a1:w.cell? ⟨ab,ao+4,none⟩=some (.int .u32 (ag al 1).2.1):=a1;have g1:w.cell? ⟨ab,ao+5,none⟩=some (.string (ag al 1).2.2):=g1;have i0:(0:Int)<(n:Nat):=by omega
 have j0:0<n:=by omega
 have i1:(1:Int)<(n:Nat):=by omega
 have j1:1<n:=by omega
 rw [show ixn (nums al) 0=(ag al 0).2.1 from nums_getD (by omega),show ixn (nums al) 1=(ag al 1).2.1 from nums_getD (by omega)]
 rw [← nums_dropL];have l2:(2:Int)≤(n:Nat):=by omega
 obtain ⟨q2,hq2⟩:∃ vv,(if c=2 then some ⟨ab,ao,none⟩ else some ⟨ab,ao+6,none⟩:Option Addr)=vv:=⟨_,rfl⟩
 obtain ⟨al2,hal2⟩:∃ vv,al.drop 2=vv:=⟨_,rfl⟩;rw [hal2];generalize (ag al 0).2.1=n0 at *;generalize (ag al 1).2.1=n1 at *;clear hac;have hof:=fun (u:Int) (w':World) (hb:Below w.heap.size w w')=>of_ck d b u w' (h.step hb)
 have hpc:=fun (u:Int) (w':World) (hb:Below w.heap.size w w')=>path_ck d b u q2 (n-2) (c-2) al2 w' (h.step hb) (by rw [← hq2,← hal2];exact ((hr.args_from (k:=2) (by omega) hcap).below hb).more hb.size) (by omega) (fun a ha=>hu a (by rw [← hal2] at ha;exact List.mem_of_mem_drop ha))
 have kB:=Blk.new w 42 #[.int .u16 op,.int .u32 ty,.int .u32 res,.slice (some ⟨ab,ao,none⟩) n c];obtain ⟨z0,z1,z2,z3⟩:=four_ kB;have hX:Cx w [(⟨w.heap.size,1,none⟩,.int .u32 ty),(⟨w.heap.size,3,none⟩,.slice (some ⟨ab,ao,none⟩) n c),(⟨ab,ao+1,none⟩,.int .u32 n0),(⟨ab,ao+4,none⟩,.int .u32 n1)] (w.alloc (.cells #[.int .u16 op,.int .u32 ty,.int .u32 res,.slice (some ⟨ab,ao,none⟩) n c] 42)):=⟨⟨z1,z3,cell_alloc_c _ a0,cell_alloc_c _ a1,trivial⟩,(Below.refl w.heap.size w).alloc (Nat.le_refl _) _⟩;obtain ⟨b1,hb1⟩:∃ vv,(pathT d.T ty (nums al2) != 0)=vv:=⟨_,rfl⟩;rw [hb1];obtain ⟨b2,hb2⟩:∃ vv,(ofT d.g.M n1==ty)=vv:=⟨_,rfl⟩;rw [hb2];obtain ⟨b3,hb3⟩:∃ vv,(ofT d.g.M n0==pathT d.T ty (nums al2))=vv:=⟨_,rfl⟩;rw [hb3];have hc:=hX.1;simp only [cellsAt] at hc;clear kB z0 z1 z2 z3 c0 c1 c2 c3 c4 hab a0 f0 g0 a1 f1 g1;go_enter Tryz.func101,Tryz.ntmps101;go_wp2_with fail;clear hc;refine wp_region_cx (by kernel_rfl) (by kernel_rfl) hX ?_
 repeat' first | go_big_quiet_skip | (go_big_quiet_want;apply Exists.intro;refine ⟨fun w' hw'=>?_,?_⟩;(have hc:=hw'.1;simp only [cellsAt] at hc;go_simp;first | done | with_reducible rfl | (go_at_call 123;exact (hpc _ _ hw'.2).mono fun e w2 h2=>⟨h2.1,hw'.call h2.2⟩));go_big_quiet_on;(try simp only [Act.put,List.setIfInBounds_toArray,List.set_cons_zero,List.set_cons_succ]))
 all_goals
  refine wpQuiet_nil ?_;intro w9 hw9;clear hX;have hX:=hw9;clear hw9;have hc:=hX.1;simp only [cellsAt] at hc;go_wp2_with fail;clear hc;refine wp_region_cx (by kernel_rfl) (by kernel_rfl) hX ?_
  repeat' first | go_big_quiet_skip | (go_big_quiet_want;apply Exists.intro;refine ⟨fun w' hw'=>?_,?_⟩;(have hc:=hw'.1;simp only [cellsAt] at hc;go_simp;first | done | with_reducible rfl | (go_at_call 26;exact (hof _ _ hw'.2).mono fun e w2 h2=>⟨h2.1,hw'.call h2.2⟩));go_big_quiet_on;(try simp only [Act.put,List.setIfInBounds_toArray,List.set_cons_zero,List.set_cons_succ])) | cases b1 | cases b2
  all_goals
   refine wpQuiet_nil ?_;intro w9 hw9;clear hX;have hX:=hw9;clear hw9;have hc:=hX.1;simp only [cellsAt] at hc;clear hc;go_wp2_with fail;go_ret
   exact ⟨rfl,hX.2⟩
end
section
open Go.RowKit
theorem field_ck (d:CkD) (b:Int) (x:InstA) (w:World) (h:CkS d b w) (hx:InstOk w w.heap.size x) (hn:2≤x.1.2.2.2.length) (hcap:x.2.2.1≤x.2.2.2) :
  Calls Tryz.prog 65 #[.pointer (some ⟨d.gc,0,none⟩),.agg (instC x)] w (BoolIs (leafK d.T x.1.2.1==3&&alkL d.g x.1.2.1 ((nums x.1.2.2.2).take ((nums x.1.2.2.2).length-2))&&numL d.g ((nums x.1.2.2.2).drop ((nums x.1.2.2.2).length-2))) w):=by
 obtain ⟨⟨op,ty,res,al⟩,A,n,c⟩:=x;have hlen:=hx.len;have hr:=hx.reads;have hl:=hr.args_len;dsimp only at hn hlen hr hl hcap ⊢;unfold instC;dsimp only;obtain ⟨c0,c1,c2,c3,c4⟩:=h.cell;obtain ⟨ab,ao,rfl,hab,hac⟩:=hr.args (by omega)
 obtain ⟨f0,a0,g0⟩:=hac 0 (by omega)
 simp only [Nat.zero_mul,Nat.add_zero] at a0 f0 g0;have i0:(0:Int)<(n:Nat):=by omega
 have j0:0<n:=by omega
 rw [nums_len,show al.length-2=n-2 by omega,← nums_takeL,← nums_dropL]
 obtain ⟨m,hm⟩:∃ m,n-2=m:=⟨_,rfl⟩;rw [hm];have hw2:IntKind.i64.wrap (((n:Nat):Int)-2)=((m:Nat):Int):=by rw [IntWalk.i64_in _ (by omega)];omega
 have l1:((m:Nat):Int)≤(n:Nat):=by omega
 have l2:((m:Nat):Int)≤(c:Nat):=by omega
 have e9:(if m*3=0 then (⟨ab,ao,none⟩:Addr) else ⟨ab,ao+m*3,none⟩)=⟨ab,ao+m*3,none⟩:=by
  split
  ·rename_i h9;rw [h9];rfl
  ·rfl
 obtain ⟨qm,hqm⟩:∃ vv,(if c=m then some ⟨ab,ao,none⟩ else some ⟨ab,ao+m*3,none⟩:Option Addr)=vv:=⟨_,rfl⟩
 generalize (ag al 0).2.1=n0 at *;clear hac;have hin:=fun (u:Int) (w':World) (hb:Below w.heap.size w w')=>isNumbers_ck d b u w' (h.step hb)
 have hat:=fun (u:Int) (w':World) (hb:Below w.heap.size w w')=>alike_ck d b u (some ⟨ab,ao,none⟩) m c (al.take m) w' (h.step hb) (((hr.args_to (k:=m) (by omega)).below hb).more hb.size) (by omega)
 have hnf:=fun (w':World) (hb:Below w.heap.size w w')=>numbers_ck d b qm (n-m) (c-m) (al.drop m) w' (h.step hb) (by have h9:=((hr.args_from (k:=m) (by omega) hcap).below hb).more hb.size;simp only [Option.map_some,Addr.add] at h9;rw [e9] at h9;rw [← hqm];exact h9) (by omega)
 have kB:=Blk.new w 42 #[.int .u16 op,.int .u32 ty,.int .u32 res,.slice (some ⟨ab,ao,none⟩) n c];obtain ⟨z0,z1,z2,z3⟩:=four_ kB;have hX:Cx w [(⟨w.heap.size,1,none⟩,.int .u32 ty),(⟨w.heap.size,3,none⟩,.slice (some ⟨ab,ao,none⟩) n c),(⟨ab,ao+1,none⟩,.int .u32 n0)] (w.alloc (.cells #[.int .u16 op,.int .u32 ty,.int .u32 res,.slice (some ⟨ab,ao,none⟩) n c] 42)):=⟨⟨z1,z3,cell_alloc_c _ a0,trivial⟩,(Below.refl w.heap.size w).alloc (Nat.le_refl _) _⟩;obtain ⟨b1,hb1⟩:∃ vv,(leafK d.T ty==3)=vv:=⟨_,rfl⟩;rw [hb1];obtain ⟨b2,hb2⟩:∃ vv,(alkL d.g ty (nums (al.take m)))=vv:=⟨_,rfl⟩;rw [hb2];obtain ⟨b3,hb3⟩:∃ vv,(numL d.g (nums (al.drop m)))=vv:=⟨_,rfl⟩;rw [hb3];have hc:=hX.1;simp only [cellsAt] at hc;clear kB z0 z1 z2 z3 c0 c1 c2 c3 c4 hab a0 f0 g0;go_enter Tryz.func65,Tryz.ntmps65;go_wp2_with fail;clear hc;refine wp_region_cx (by kernel_rfl) (by kernel_rfl) hX ?_
 repeat' first | go_big_quiet_skip | (go_big_quiet_want;apply Exists.intro;refine ⟨fun w' hw'=>?_,?_⟩;(have hc:=hw'.1;simp only [cellsAt] at hc;go_simp;first | done | with_reducible rfl | (go_at_call 86;exact (hin _ _ hw'.2).mono fun e w2 h2=>⟨h2.1,hw'.call h2.2⟩) | (go_at_call 87;exact (hat _ _ hw'.2).mono fun e w2 h2=>⟨h2.1,hw'.call h2.2⟩) | (go_at_call 90;exact (hnf  _ hw'.2).mono fun e w2 h2=>⟨h2.1,hw'.call h2.2⟩));go_big_quiet_on;(try simp only [Act.put,List.setIfInBounds_toArray,List.set_cons_zero,List.set_cons_succ])) | cases b1 | cases b2
 all_goals
  refine wpQuiet_nil ?_;intro w9 hw9;clear hX;have hX:=hw9;clear hw9;have hc:=hX.1;simp only [cellsAt] at hc;clear hc;go_wp2_with fail;go_ret
  exact ⟨rfl,hX.2⟩
end
section
open Go.RowKit
theorem extractDynamic_ck (d:CkD) (b:Int) (x:InstA) (w:World) (h:CkS d b w) (hx:InstOk w w.heap.size x) (hn:2≤x.1.2.2.2.length) :
  Calls Tryz.prog 96 #[.pointer (some ⟨d.gc,0,none⟩),.agg (instC x)] w (BoolIs ((d.T (ofT d.g.M (ixn (nums x.1.2.2.2) 0))).kind==4&&prt d.T (ofT d.g.M (ixn (nums x.1.2.2.2) 0)) 0==x.1.2.1&&numL d.g [ixn (nums x.1.2.2.2) 1]) w):=by
 obtain ⟨⟨op,ty,res,al⟩,A,n,c⟩:=x;have hlen:=hx.len;have hr:=hx.reads;have hl:=hr.args_len;dsimp only at hn hlen hr hl ⊢;unfold instC;dsimp only;obtain ⟨c0,c1,c2,c3,c4⟩:=h.cell;obtain ⟨ab,ao,rfl,hab,hac⟩:=hr.args (by omega)
 obtain ⟨f0,a0,g0⟩:=hac 0 (by omega)
 obtain ⟨f1,a1,g1⟩:=hac 1 (by omega)
 simp only [Nat.zero_mul,Nat.add_zero] at a0 f0 g0;have f1:w.cell? ⟨ab,ao+3,none⟩=some (.int .u8 (ag al 1).1):=f1;have a1:w.cell? ⟨ab,ao+4,none⟩=some (.int .u32 (ag al 1).2.1):=a1;have g1:w.cell? ⟨ab,ao+5,none⟩=some (.string (ag al 1).2.2):=g1;have i0:(0:Int)<(n:Nat):=by omega
 have j0:0<n:=by omega
 have i1:(1:Int)<(n:Nat):=by omega
 have j1:1<n:=by omega
 rw [show ixn (nums al) 0=(ag al 0).2.1 from nums_getD (by omega),show ixn (nums al) 1=(ag al 1).2.1 from nums_getD (by omega)]
 obtain ⟨y0,hy0⟩:∃ y,ag al 0=y:=⟨_,rfl⟩;rw [hy0] at f0 a0 g0 ⊢;obtain ⟨m0,n0,t0⟩:=y0;dsimp only at f0 a0 g0 ⊢;obtain ⟨y1,hy1⟩:∃ y,ag al 1=y:=⟨_,rfl⟩;rw [hy1] at f1 a1 g1 ⊢;obtain ⟨m1,n1,t1⟩:=y1;dsimp only at f1 a1 g1 ⊢;clear hac;have hof:=fun (u:Int) (w':World) (hb:Below w.heap.size w w')=>of_ck d b u w' (h.step hb)
 have hki:=fun (u:Int) (w':World) (hb:Below w.heap.size w w')=>kindM_any _ _ _ u w' (h.step hb).tab.tab
 have hpa:=fun (u k:Int) (w':World) (hb:Below w.heap.size w w')=>part_ck d b u k w' (h.step hb)
 have hnu1:=fun (w':World) (hb:Below w.heap.size w w')=>numbers_ck d b (some ⟨w'.heap.size,0,none⟩) 1 1 [(m1,n1,t1)] (w'.alloc (.cells #[.int .u8 m1,.int .u32 n1,.string t1] 44)) (h.step (hb.alloc hb.size _)) (by have:=Reads.litN w' #[.int .u8 m1,.int .u32 n1,.string t1] 44 3 1 3 rfl rfl (by omega);rw [World.size_alloc];exact this) (by decide)
 simp only [nums,List.map_cons,List.map_nil] at hnu1;have kB:=Blk.new w 42 #[.int .u16 op,.int .u32 ty,.int .u32 res,.slice (some ⟨ab,ao,none⟩) n c];obtain ⟨z0,z1,z2,z3⟩:=four_ kB;have hX:Cx w [(⟨d.gc,0,none⟩,.pointer (some ⟨d.gt,0,none⟩)),(⟨w.heap.size,1,none⟩,.int .u32 ty),(⟨w.heap.size,3,none⟩,.slice (some ⟨ab,ao,none⟩) n c),(⟨ab,ao+1,none⟩,.int .u32 n0),(⟨ab,ao+3,none⟩,.int .u8 m1),(⟨ab,ao+4,none⟩,.int .u32 n1),(⟨ab,ao+5,none⟩,.string t1)] (w.alloc (.cells #[.int .u16 op,.int .u32 ty,.int .u32 res,.slice (some ⟨ab,ao,none⟩) n c] 42)):=⟨⟨cell_alloc_c _ c0,z1,z3,cell_alloc_c _ a0,cell_alloc_c _ f1,cell_alloc_c _ a1,cell_alloc_c _ g1,trivial⟩,(Below.refl w.heap.size w).alloc (Nat.le_refl _) _⟩;obtain ⟨b1,hb1⟩:∃ vv,((d.T (ofT d.g.M n0)).kind==4)=vv:=⟨_,rfl⟩;rw [hb1];obtain ⟨b2,hb2⟩:∃ vv,(prt d.T (ofT d.g.M n0) 0==ty)=vv:=⟨_,rfl⟩;rw [hb2];obtain ⟨b3,hb3⟩:∃ vv,(numL d.g [n1])=vv:=⟨_,rfl⟩;rw [hb3];have hc:=hX.1;simp only [cellsAt] at hc;clear kB z0 z1 z2 z3 c0 c1 c2 c3 c4 hab a0 f0 g0 a1 f1 g1;cases b1 with
 | false =>
  go_enter Tryz.func96,Tryz.ntmps96;go_wp2_with (first | (go_at_call 26;refine (hof _ _ hX.2).mono ?_;rintro e W ⟨rfl,hb⟩;replace hX:=hX.call hb;clear hb;clear hc;have hc:=hX.1;simp only [cellsAt] at hc))
  clear hc;refine wp_region_cx (by kernel_rfl) (by kernel_rfl) hX ?_
  repeat' first | go_big_quiet_skip | (go_big_quiet_want;apply Exists.intro;refine ⟨fun w' hw'=>?_,?_⟩;(have hc:=hw'.1;simp only [cellsAt] at hc;go_simp;first | done | with_reducible rfl | (go_at_call 30;exact (hki _ _ hw'.2).mono fun e w2 h2=>⟨h2.1,hw'.call h2.2⟩) | (go_at_call 85;exact (hpa _ _ _ hw'.2).mono fun e w2 h2=>⟨h2.1,hw'.call h2.2⟩));go_big_quiet_on;(try simp only [Act.put,List.setIfInBounds_toArray,List.set_cons_zero,List.set_cons_succ]))
  all_goals
   refine wpQuiet_nil ?_;intro w9 hw9;clear hX;have hX:=hw9;clear hw9;have hc:=hX.1;simp only [cellsAt] at hc;clear hc;go_wp2_with fail;go_ret
   exact ⟨rfl,hX.2⟩
 | true =>
  cases b2 with
  | false =>
   go_enter Tryz.func96,Tryz.ntmps96;go_wp2_with (first | (go_at_call 26;refine (hof _ _ hX.2).mono ?_;rintro e W ⟨rfl,hb⟩;replace hX:=hX.call hb;clear hb;clear hc;have hc:=hX.1;simp only [cellsAt] at hc))
   clear hc;refine wp_region_cx (by kernel_rfl) (by kernel_rfl) hX ?_
   repeat' first | go_big_quiet_skip | (go_big_quiet_want;apply Exists.intro;refine ⟨fun w' hw'=>?_,?_⟩;(have hc:=hw'.1;simp only [cellsAt] at hc;go_simp;first | done | with_reducible rfl | (go_at_call 30;exact (hki _ _ hw'.2).mono fun e w2 h2=>⟨h2.1,hw'.call h2.2⟩) | (go_at_call 85;exact (hpa _ _ _ hw'.2).mono fun e w2 h2=>⟨h2.1,hw'.call h2.2⟩));go_big_quiet_on;(try simp only [Act.put,List.setIfInBounds_toArray,List.set_cons_zero,List.set_cons_succ]))
   all_goals
    refine wpQuiet_nil ?_;intro w9 hw9;clear hX;have hX:=hw9;clear hw9;have hc:=hX.1;simp only [cellsAt] at hc;clear hc;go_wp2_with fail;go_ret
    exact ⟨rfl,hX.2⟩
  | true =>
   go_enter Tryz.func96,Tryz.ntmps96;go_wp2_with (first | (go_at_call 26;refine (hof _ _ hX.2).mono ?_;rintro e W ⟨rfl,hb⟩;replace hX:=hX.call hb;clear hb;clear hc;have hc:=hX.1;simp only [cellsAt] at hc))
   clear hc;refine wp_region_held_drew (S:=Cx w _) (by kernel_rfl) hX.drew_ (fun hHeld=>?_)
   refine wpAnyH_take (i:=0) (oi:=_) (v:=?_) rfl (by kernel_rfl) (by kernel_rfl) (by kernel_rfl) (fun _ _ _ h=>h) (Or.inl ⟨by rfl,?_⟩) hHeld ?_
   rotate_left
   ·intro w' hSw;have hc:=hSw.1;simp only [cellsAt] at hc;go_simp
    try with_reducible rfl
   (try simp only [Act.put,List.setIfInBounds_toArray,List.set_cons_zero,List.set_cons_succ,List.getElem_toArray,List.getElem_cons_zero])
   refine wpAnyH_take (i:=1) (oi:=_) (v:=?_) rfl (by kernel_rfl) (by kernel_rfl) (by kernel_rfl) (fun _ _ _ h=>h) (Or.inl ⟨by rfl,?_⟩) hHeld ?_
   rotate_left
   ·intro w' hSw;have hc:=hSw.1;simp only [cellsAt] at hc;go_simp
    try with_reducible rfl
   (try simp only [Act.put,List.setIfInBounds_toArray,List.set_cons_zero,List.set_cons_succ,List.getElem_toArray,List.getElem_cons_succ,List.getElem_cons_zero])
   refine wpAnyH_take (i:=2) (oi:=_) (v:=?_) rfl (by kernel_rfl) (by kernel_rfl) (by kernel_rfl) (fun _ _ _ h=>h) (Or.inl ⟨by rfl,?_⟩) hHeld ?_
   rotate_left
   ·intro w' hSw;have hc:=hSw.1;simp only [cellsAt] at hc;go_simp
    try with_reducible rfl
   (try simp only [Act.put,List.setIfInBounds_toArray,List.set_cons_zero,List.set_cons_succ,List.getElem_toArray,List.getElem_cons_succ,List.getElem_cons_zero])
   refine wpAnyH_take (i:=3) (oi:=_) (v:=?_) rfl (by kernel_rfl) (by kernel_rfl) (by kernel_rfl) (fun _ _ _ h=>h) (Or.inl ⟨by rfl,?_⟩) hHeld ?_
   rotate_left
   ·intro w' hSw;have hc:=hSw.1;simp only [cellsAt] at hc;go_simp
    try with_reducible rfl
   (try simp only [Act.put,List.setIfInBounds_toArray,List.set_cons_zero,List.set_cons_succ,List.getElem_toArray,List.getElem_cons_succ,List.getElem_cons_zero])
   refine wpAnyH_take (i:=4) (oi:=_) (v:=?_) rfl (by kernel_rfl) (by kernel_rfl) (by kernel_rfl) (fun _ _ _ h=>h) (Or.inl ⟨by rfl,?_⟩) hHeld ?_
   rotate_left
   ·intro w' hSw;have hc:=hSw.1;simp only [cellsAt] at hc;go_simp
    try with_reducible rfl
   (try simp only [Act.put,List.setIfInBounds_toArray,List.set_cons_zero,List.set_cons_succ,List.getElem_toArray,List.getElem_cons_succ,List.getElem_cons_zero])
   refine wpAnyH_ready (rs:=[5]) (by kernel_rfl) (by simp) ?_
   refine AllReadyH.cons (o:=_) rfl (fun K hK=>?_) AllReadyH.nil
   go_simp
   go_at_call 30
   refine (hki _ _ hHeld.2).mono ?_;rintro e W1 ⟨rfl,hb9⟩
   (try go_wp2_with fail)
   have hHeld2:=hHeld.call hb9;refine hK.out _ _ hHeld2 (fun hHeld=>?_)
   clear hK K hHeld2
   (try simp only [Act.put,List.setIfInBounds_toArray,List.set_cons_zero,List.set_cons_succ,List.getElem_toArray,List.getElem_cons_succ,List.getElem_cons_zero])
   refine wpAnyH_take (i:=6) (oi:=_) (v:=?_) rfl (by kernel_rfl) (by kernel_rfl) (by kernel_rfl) (fun _ _ _ h=>h) (Or.inl ⟨by rfl,?_⟩) hHeld ?_
   rotate_left
   ·intro w' hSw;have hc:=hSw.1;simp only [cellsAt] at hc;go_simp
    try with_reducible rfl
   (try simp only [Act.put,List.setIfInBounds_toArray,List.set_cons_zero,List.set_cons_succ,List.getElem_toArray,List.getElem_cons_succ,List.getElem_cons_zero])
   refine wpAnyH_take (i:=7) (oi:=_) (v:=?_) rfl (by kernel_rfl) (by kernel_rfl) (by kernel_rfl) (fun _ _ _ h=>h) (Or.inl ⟨by rfl,?_⟩) hHeld ?_
   rotate_left
   ·intro w' hSw;have hc:=hSw.1;simp only [cellsAt] at hc;go_simp
    try with_reducible rfl
   (try simp only [Act.put,List.setIfInBounds_toArray,List.set_cons_zero,List.set_cons_succ,List.getElem_toArray,List.getElem_cons_succ,List.getElem_cons_zero])
   refine wpAnyH_take (i:=8) (oi:=_) (v:=?_) rfl (by kernel_rfl) (by kernel_rfl) (by kernel_rfl) (fun _ _ _ h=>h) (Or.inl ⟨by rfl,?_⟩) hHeld ?_
   rotate_left
   ·intro w' hSw;have hc:=hSw.1;simp only [cellsAt] at hc;go_simp
    try with_reducible rfl
   (try simp only [Act.put,List.setIfInBounds_toArray,List.set_cons_zero,List.set_cons_succ,List.getElem_toArray,List.getElem_cons_succ,List.getElem_cons_zero])
   refine wpAnyH_take (i:=9) (oi:=_) (v:=?_) rfl (by kernel_rfl) (by kernel_rfl) (by kernel_rfl) (fun _ _ _ h=>h) (Or.inl ⟨by rfl,?_⟩) hHeld ?_
   rotate_left
   ·intro w' hSw;have hc:=hSw.1;simp only [cellsAt] at hc;go_simp
    try with_reducible rfl
   (try simp only [Act.put,List.setIfInBounds_toArray,List.set_cons_zero,List.set_cons_succ,List.getElem_toArray,List.getElem_cons_succ,List.getElem_cons_zero])
   refine wpAnyH_take (i:=11) (oi:=_) (v:=?_) rfl (by kernel_rfl) (by kernel_rfl) (by kernel_rfl) (fun _ _ _ h=>h) (Or.inl ⟨by rfl,?_⟩) hHeld ?_
   rotate_left
   ·intro w' hSw;have hc:=hSw.1;simp only [cellsAt] at hc;go_simp
    try with_reducible rfl
   (try simp only [Act.put,List.setIfInBounds_toArray,List.set_cons_zero,List.set_cons_succ,List.getElem_toArray,List.getElem_cons_succ,List.getElem_cons_zero])
   refine wpAnyH_take (i:=12) (oi:=_) (v:=?_) rfl (by kernel_rfl) (by kernel_rfl) (by kernel_rfl) (fun _ _ _ h=>h) (Or.inl ⟨by rfl,?_⟩) hHeld ?_
   rotate_left
   ·intro w' hSw;have hc:=hSw.1;simp only [cellsAt] at hc;go_simp
    try with_reducible rfl
   (try simp only [Act.put,List.setIfInBounds_toArray,List.set_cons_zero,List.set_cons_succ,List.getElem_toArray,List.getElem_cons_succ,List.getElem_cons_zero])
   refine wpAnyH_ready (rs:=[10]) (by kernel_rfl) (by simp) ?_
   refine AllReadyH.cons (o:=_) rfl (fun K hK=>?_) AllReadyH.nil
   go_simp
   go_at_call 85
   refine (hpa _ _ _ hHeld.2).mono ?_;rintro e W2 ⟨rfl,hb9⟩
   (try go_wp2_with fail)
   have hHeld2:=hHeld.call hb9;refine hK.out _ _ hHeld2 (fun hHeld=>?_)
   clear hK K hHeld2
   (try simp only [Act.put,List.setIfInBounds_toArray,List.set_cons_zero,List.set_cons_succ,List.getElem_toArray,List.getElem_cons_succ,List.getElem_cons_zero])
   refine wpAnyH_take (i:=13) (oi:=_) (v:=?_) rfl (by kernel_rfl) (by kernel_rfl) (by kernel_rfl) (fun _ _ _ h=>h) (Or.inl ⟨by rfl,?_⟩) hHeld ?_
   rotate_left
   ·intro w' hSw;have hc:=hSw.1;simp only [cellsAt] at hc;go_simp
    try with_reducible rfl
   (try simp only [Act.put,List.setIfInBounds_toArray,List.set_cons_zero,List.set_cons_succ,List.getElem_toArray,List.getElem_cons_succ,List.getElem_cons_zero])
   refine wpAnyH_take (i:=14) (oi:=_) (v:=?_) rfl (by kernel_rfl) (by kernel_rfl) (by kernel_rfl) (fun _ _ _ h=>h) (Or.inl ⟨by rfl,?_⟩) hHeld ?_
   rotate_left
   ·intro w' hSw;have hc:=hSw.1;simp only [cellsAt] at hc;go_simp
    try with_reducible rfl
   (try simp only [Act.put,List.setIfInBounds_toArray,List.set_cons_zero,List.set_cons_succ,List.getElem_toArray,List.getElem_cons_succ,List.getElem_cons_zero])
   refine wpAnyH_take (i:=15) (oi:=_) (v:=?_) rfl (by kernel_rfl) (by kernel_rfl) (by kernel_rfl) (fun _ _ _ h=>h) (Or.inl ⟨by rfl,?_⟩) hHeld ?_
   rotate_left
   ·intro w' hSw;have hc:=hSw.1;simp only [cellsAt] at hc;go_simp
    try with_reducible rfl
   (try simp only [Act.put,List.setIfInBounds_toArray,List.set_cons_zero,List.set_cons_succ,List.getElem_toArray,List.getElem_cons_succ,List.getElem_cons_zero])
   refine wpAnyH_take (i:=16) (oi:=_) (v:=?_) rfl (by kernel_rfl) (by kernel_rfl) (by kernel_rfl) (fun _ _ _ h=>h) (Or.inl ⟨by rfl,?_⟩) hHeld ?_
   rotate_left
   ·intro w' hSw;have hc:=hSw.1;simp only [cellsAt] at hc;go_simp
    try with_reducible rfl
   (try simp only [Act.put,List.setIfInBounds_toArray,List.set_cons_zero,List.set_cons_succ,List.getElem_toArray,List.getElem_cons_succ,List.getElem_cons_zero])
   refine wpAnyH_take (i:=17) (oi:=_) (v:=?_) rfl (by kernel_rfl) (by kernel_rfl) (by kernel_rfl) (fun _ _ _ h=>h) (Or.inl ⟨by rfl,?_⟩) hHeld ?_
   rotate_left
   ·intro w' hSw;have hc:=hSw.1;simp only [cellsAt] at hc;go_simp
    try with_reducible rfl
   (try simp only [Act.put,List.setIfInBounds_toArray,List.set_cons_zero,List.set_cons_succ,List.getElem_toArray,List.getElem_cons_succ,List.getElem_cons_zero])
   refine wpAnyH_take (i:=18) (oi:=_) (v:=?_) rfl (by kernel_rfl) (by kernel_rfl) (by kernel_rfl) (fun _ _ _ h=>h) (Or.inl ⟨by rfl,?_⟩) hHeld ?_
   rotate_left
   ·intro w' hSw;have hc:=hSw.1;simp only [cellsAt] at hc;go_simp
    try with_reducible rfl
   (try simp only [Act.put,List.setIfInBounds_toArray,List.set_cons_zero,List.set_cons_succ,List.getElem_toArray,List.getElem_cons_succ,List.getElem_cons_zero])
   refine wpAnyH_take (i:=19) (oi:=_) (v:=?_) rfl (by kernel_rfl) (by kernel_rfl) (by kernel_rfl) (fun _ _ _ h=>h) (Or.inl ⟨by rfl,?_⟩) hHeld ?_
   rotate_left
   ·intro w' hSw;have hc:=hSw.1;simp only [cellsAt] at hc;go_simp
    try with_reducible rfl
   (try simp only [Act.put,List.setIfInBounds_toArray,List.set_cons_zero,List.set_cons_succ,List.getElem_toArray,List.getElem_cons_succ,List.getElem_cons_zero])
   refine wpAnyH_take (i:=20) (oi:=_) (v:=?_) rfl (by kernel_rfl) (by kernel_rfl) (by kernel_rfl) (fun _ _ _ h=>h) (Or.inl ⟨by rfl,?_⟩) hHeld ?_
   rotate_left
   ·intro w' hSw;have hc:=hSw.1;simp only [cellsAt] at hc;go_simp
    try with_reducible rfl
   (try simp only [Act.put,List.setIfInBounds_toArray,List.set_cons_zero,List.set_cons_succ,List.getElem_toArray,List.getElem_cons_succ,List.getElem_cons_zero])
   refine wpAnyH_ready (rs:=[21]) (by kernel_rfl) (by simp) ?_
   refine AllReadyH.cons (o:=_) rfl (fun K hK=>?_) AllReadyH.nil
   have hPre:=hHeld.2;go_simp
   have hHeld2:=hHeld.call ((Below.refl _ _).alloc (Nat.le_refl _) (.cells #[.int .u8 m1,.int .u32 n1,.string t1] 44));refine hK.out _ _ hHeld2 (fun hHeld=>?_)
   clear hK K hHeld2
   (try simp only [Act.put,List.setIfInBounds_toArray,List.set_cons_zero,List.set_cons_succ,List.getElem_toArray,List.getElem_cons_succ,List.getElem_cons_zero])
   refine wpAnyH_ready (rs:=[22]) (by kernel_rfl) (by simp) ?_
   refine AllReadyH.cons (o:=_) rfl (fun K hK=>?_) AllReadyH.nil
   go_simp
   go_at_call 90
   refine (hnu1  _ hPre).mono ?_;rintro e W4 ⟨rfl,hb9⟩
   (try go_wp2_with fail)
   have hHeld2:=hHeld.call hb9;refine hK.out _ _ hHeld2 (fun hHeld=>?_)
   clear hK K hHeld2
   (try simp only [Act.put,List.setIfInBounds_toArray,List.set_cons_zero,List.set_cons_succ,List.getElem_toArray,List.getElem_cons_succ,List.getElem_cons_zero])
   refine wpAnyH_take (i:=23) (oi:=_) (v:=?_) rfl (by kernel_rfl) (by kernel_rfl) (by kernel_rfl) (fun _ _ _ h=>h) (Or.inl ⟨by rfl,?_⟩) hHeld ?_
   rotate_left
   ·intro w' hSw;have hc:=hSw.1;simp only [cellsAt] at hc;go_simp
    try with_reducible rfl
   (try simp only [Act.put,List.setIfInBounds_toArray,List.set_cons_zero,List.set_cons_succ,List.getElem_toArray,List.getElem_cons_succ,List.getElem_cons_zero])
   refine wpAnyH_take (i:=24) (oi:=_) (v:=?_) rfl (by kernel_rfl) (by kernel_rfl) (by kernel_rfl) (fun _ _ _ h=>h) (Or.inl ⟨by rfl,?_⟩) hHeld ?_
   rotate_left
   ·intro w' hSw;have hc:=hSw.1;simp only [cellsAt] at hc;go_simp
    try with_reducible rfl
   (try simp only [Act.put,List.setIfInBounds_toArray,List.set_cons_zero,List.set_cons_succ,List.getElem_toArray,List.getElem_cons_succ,List.getElem_cons_zero])
   refine wpAnyH_done (by kernel_rfl) ?_ _
   have HB:=Lib.hid hHeld.2;clear hHeld hX;go_wp2_with fail;go_ret
   exact ⟨rfl,HB.out⟩
end
section
open Go.RowKit
theorem insertDynamic_ck (d:CkD) (b:Int) (x:InstA) (w:World) (h:CkS d b w) (hx:InstOk w w.heap.size x) (hn:3≤x.1.2.2.2.length) :
  Calls Tryz.prog 97 #[.pointer (some ⟨d.gc,0,none⟩),.agg (instC x)] w (BoolIs ((d.T x.1.2.1).kind==4&&ofT d.g.M (ixn (nums x.1.2.2.2) 0)==x.1.2.1&&ofT d.g.M (ixn (nums x.1.2.2.2) 1)==prt d.T x.1.2.1 0&&numL d.g [ixn (nums x.1.2.2.2) 2]) w):=by
 obtain ⟨⟨op,ty,res,al⟩,A,n,c⟩:=x;have hlen:=hx.len;have hr:=hx.reads;have hl:=hr.args_len;dsimp only at hn hlen hr hl ⊢;unfold instC;dsimp only;obtain ⟨c0,c1,c2,c3,c4⟩:=h.cell;obtain ⟨ab,ao,rfl,hab,hac⟩:=hr.args (by omega)
 obtain ⟨f0,a0,g0⟩:=hac 0 (by omega)
 obtain ⟨f1,a1,g1⟩:=hac 1 (by omega)
 obtain ⟨f2,a2,g2⟩:=hac 2 (by omega)
 simp only [Nat.zero_mul,Nat.add_zero] at a0 f0 g0;have f1:w.cell? ⟨ab,ao+3,none⟩=some (.int .u8 (ag al 1).1):=f1;have a1:w.cell? ⟨ab,ao+4,none⟩=some (.int .u32 (ag al 1).2.1):=a1;have g1:w.cell? ⟨ab,ao+5,none⟩=some (.string (ag al 1).2.2):=g1;have f2:w.cell? ⟨ab,ao+6,none⟩=some (.int .u8 (ag al 2).1):=f2;have a2:w.cell? ⟨ab,ao+7,none⟩=some (.int .u32 (ag al 2).2.1):=a2;have g2:w.cell? ⟨ab,ao+8,none⟩=some (.string (ag al 2).2.2):=g2;have i0:(0:Int)<(n:Nat):=by omega
 have j0:0<n:=by omega
 have i1:(1:Int)<(n:Nat):=by omega
 have j1:1<n:=by omega
 have i2:(2:Int)<(n:Nat):=by omega
 have j2:2<n:=by omega
 rw [show ixn (nums al) 0=(ag al 0).2.1 from nums_getD (by omega),show ixn (nums al) 1=(ag al 1).2.1 from nums_getD (by omega),show ixn (nums al) 2=(ag al 2).2.1 from nums_getD (by omega)]
 obtain ⟨y0,hy0⟩:∃ y,ag al 0=y:=⟨_,rfl⟩;rw [hy0] at f0 a0 g0 ⊢;obtain ⟨m0,n0,t0⟩:=y0;dsimp only at f0 a0 g0 ⊢;obtain ⟨y1,hy1⟩:∃ y,ag al 1=y:=⟨_,rfl⟩;rw [hy1] at f1 a1 g1 ⊢;obtain ⟨m1,n1,t1⟩:=y1;dsimp only at f1 a1 g1 ⊢;obtain ⟨y2,hy2⟩:∃ y,ag al 2=y:=⟨_,rfl⟩;rw [hy2] at f2 a2 g2 ⊢;obtain ⟨m2,n2,t2⟩:=y2;dsimp only at f2 a2 g2 ⊢;clear hac;have hki:=fun (u:Int) (w':World) (hb:Below w.heap.size w w')=>kindM_any _ _ _ u w' (h.step hb).tab.tab
 have hof:=fun (u:Int) (w':World) (hb:Below w.heap.size w w')=>of_ck d b u w' (h.step hb)
 have hpa:=fun (u k:Int) (w':World) (hb:Below w.heap.size w w')=>part_ck d b u k w' (h.step hb)
 have hnu1:=fun (w':World) (hb:Below w.heap.size w w')=>numbers_ck d b (some ⟨w'.heap.size,0,none⟩) 1 1 [(m2,n2,t2)] (w'.alloc (.cells #[.int .u8 m2,.int .u32 n2,.string t2] 44)) (h.step (hb.alloc hb.size _)) (by have:=Reads.litN w' #[.int .u8 m2,.int .u32 n2,.string t2] 44 3 1 3 rfl rfl (by omega);rw [World.size_alloc];exact this) (by decide)
 simp only [nums,List.map_cons,List.map_nil] at hnu1;have kB:=Blk.new w 42 #[.int .u16 op,.int .u32 ty,.int .u32 res,.slice (some ⟨ab,ao,none⟩) n c];obtain ⟨z0,z1,z2,z3⟩:=four_ kB;have hX:Cx w [(⟨d.gc,0,none⟩,.pointer (some ⟨d.gt,0,none⟩)),(⟨w.heap.size,1,none⟩,.int .u32 ty),(⟨w.heap.size,3,none⟩,.slice (some ⟨ab,ao,none⟩) n c),(⟨ab,ao+1,none⟩,.int .u32 n0),(⟨ab,ao+4,none⟩,.int .u32 n1),(⟨ab,ao+6,none⟩,.int .u8 m2),(⟨ab,ao+7,none⟩,.int .u32 n2),(⟨ab,ao+8,none⟩,.string t2)] (w.alloc (.cells #[.int .u16 op,.int .u32 ty,.int .u32 res,.slice (some ⟨ab,ao,none⟩) n c] 42)):=⟨⟨cell_alloc_c _ c0,z1,z3,cell_alloc_c _ a0,cell_alloc_c _ a1,cell_alloc_c _ f2,cell_alloc_c _ a2,cell_alloc_c _ g2,trivial⟩,(Below.refl w.heap.size w).alloc (Nat.le_refl _) _⟩;obtain ⟨b1,hb1⟩:∃ vv,((d.T ty).kind==4)=vv:=⟨_,rfl⟩;rw [hb1];obtain ⟨b2,hb2⟩:∃ vv,(ofT d.g.M n0==ty)=vv:=⟨_,rfl⟩;rw [hb2];obtain ⟨b3,hb3⟩:∃ vv,(ofT d.g.M n1==prt d.T ty 0)=vv:=⟨_,rfl⟩;rw [hb3];obtain ⟨b4,hb4⟩:∃ vv,(numL d.g [n2])=vv:=⟨_,rfl⟩;rw [hb4];have hc:=hX.1;simp only [cellsAt] at hc;clear kB z0 z1 z2 z3 c0 c1 c2 c3 c4 hab a0 f0 g0 a1 f1 g1 a2 f2 g2;cases b1 with
 | false =>
  go_enter Tryz.func97,Tryz.ntmps97;go_wp2_with fail;clear hc;refine wp_region_cx (by kernel_rfl) (by kernel_rfl) hX ?_
  repeat' first | go_big_quiet_skip | (go_big_quiet_want;apply Exists.intro;refine ⟨fun w' hw'=>?_,?_⟩;(have hc:=hw'.1;simp only [cellsAt] at hc;go_simp;first | done | with_reducible rfl | (go_at_call 30;exact (hki _ _ hw'.2).mono fun e w2 h2=>⟨h2.1,hw'.call h2.2⟩) | (go_at_call 26;exact (hof _ _ hw'.2).mono fun e w2 h2=>⟨h2.1,hw'.call h2.2⟩) | (go_at_call 85;exact (hpa _ _ _ hw'.2).mono fun e w2 h2=>⟨h2.1,hw'.call h2.2⟩));go_big_quiet_on;(try simp only [Act.put,List.setIfInBounds_toArray,List.set_cons_zero,List.set_cons_succ]))
  all_goals
   refine wpQuiet_nil ?_;intro w9 hw9;clear hX;have hX:=hw9;clear hw9;have hc:=hX.1;simp only [cellsAt] at hc;clear hc;go_wp2_with fail;go_ret
   exact ⟨rfl,hX.2⟩
 | true =>
  cases b2 with
  | false =>
   go_enter Tryz.func97,Tryz.ntmps97;go_wp2_with fail;clear hc;refine wp_region_cx (by kernel_rfl) (by kernel_rfl) hX ?_
   repeat' first | go_big_quiet_skip | (go_big_quiet_want;apply Exists.intro;refine ⟨fun w' hw'=>?_,?_⟩;(have hc:=hw'.1;simp only [cellsAt] at hc;go_simp;first | done | with_reducible rfl | (go_at_call 30;exact (hki _ _ hw'.2).mono fun e w2 h2=>⟨h2.1,hw'.call h2.2⟩) | (go_at_call 26;exact (hof _ _ hw'.2).mono fun e w2 h2=>⟨h2.1,hw'.call h2.2⟩) | (go_at_call 85;exact (hpa _ _ _ hw'.2).mono fun e w2 h2=>⟨h2.1,hw'.call h2.2⟩));go_big_quiet_on;(try simp only [Act.put,List.setIfInBounds_toArray,List.set_cons_zero,List.set_cons_succ]))
   all_goals
    refine wpQuiet_nil ?_;intro w9 hw9;clear hX;have hX:=hw9;clear hw9;have hc:=hX.1;simp only [cellsAt] at hc;clear hc;go_wp2_with fail;go_ret
    exact ⟨rfl,hX.2⟩
  | true =>
   cases b3 with
   | false =>
    go_enter Tryz.func97,Tryz.ntmps97;go_wp2_with fail;clear hc;refine wp_region_cx (by kernel_rfl) (by kernel_rfl) hX ?_
    repeat' first | go_big_quiet_skip | (go_big_quiet_want;apply Exists.intro;refine ⟨fun w' hw'=>?_,?_⟩;(have hc:=hw'.1;simp only [cellsAt] at hc;go_simp;first | done | with_reducible rfl | (go_at_call 30;exact (hki _ _ hw'.2).mono fun e w2 h2=>⟨h2.1,hw'.call h2.2⟩) | (go_at_call 26;exact (hof _ _ hw'.2).mono fun e w2 h2=>⟨h2.1,hw'.call h2.2⟩) | (go_at_call 85;exact (hpa _ _ _ hw'.2).mono fun e w2 h2=>⟨h2.1,hw'.call h2.2⟩));go_big_quiet_on;(try simp only [Act.put,List.setIfInBounds_toArray,List.set_cons_zero,List.set_cons_succ]))
    all_goals
     refine wpQuiet_nil ?_;intro w9 hw9;clear hX;have hX:=hw9;clear hw9;have hc:=hX.1;simp only [cellsAt] at hc;clear hc;go_wp2_with fail;go_ret
     exact ⟨rfl,hX.2⟩
   | true =>
    go_enter Tryz.func97,Tryz.ntmps97;go_wp2_with fail;clear hc;refine wp_region_held_drew (S:=Cx w _) (by kernel_rfl) hX.drew_ (fun hHeld=>?_)
    refine wpAnyH_take (i:=0) (oi:=_) (v:=?_) rfl (by kernel_rfl) (by kernel_rfl) (by kernel_rfl) (fun _ _ _ h=>h) (Or.inl ⟨by rfl,?_⟩) hHeld ?_
    rotate_left
    ·intro w' hSw;have hc:=hSw.1;simp only [cellsAt] at hc;go_simp
     try with_reducible rfl
    (try simp only [Act.put,List.setIfInBounds_toArray,List.set_cons_zero,List.set_cons_succ,List.getElem_toArray,List.getElem_cons_zero])
    refine wpAnyH_take (i:=1) (oi:=_) (v:=?_) rfl (by kernel_rfl) (by kernel_rfl) (by kernel_rfl) (fun _ _ _ h=>h) (Or.inl ⟨by rfl,?_⟩) hHeld ?_
    rotate_left
    ·intro w' hSw;have hc:=hSw.1;simp only [cellsAt] at hc;go_simp
     try with_reducible rfl
    (try simp only [Act.put,List.setIfInBounds_toArray,List.set_cons_zero,List.set_cons_succ,List.getElem_toArray,List.getElem_cons_succ,List.getElem_cons_zero])
    refine wpAnyH_take (i:=2) (oi:=_) (v:=?_) rfl (by kernel_rfl) (by kernel_rfl) (by kernel_rfl) (fun _ _ _ h=>h) (Or.inl ⟨by rfl,?_⟩) hHeld ?_
    rotate_left
    ·intro w' hSw;have hc:=hSw.1;simp only [cellsAt] at hc;go_simp
     try with_reducible rfl
    (try simp only [Act.put,List.setIfInBounds_toArray,List.set_cons_zero,List.set_cons_succ,List.getElem_toArray,List.getElem_cons_succ,List.getElem_cons_zero])
    refine wpAnyH_take (i:=3) (oi:=_) (v:=?_) rfl (by kernel_rfl) (by kernel_rfl) (by kernel_rfl) (fun _ _ _ h=>h) (Or.inl ⟨by rfl,?_⟩) hHeld ?_
    rotate_left
    ·intro w' hSw;have hc:=hSw.1;simp only [cellsAt] at hc;go_simp
     try with_reducible rfl
    (try simp only [Act.put,List.setIfInBounds_toArray,List.set_cons_zero,List.set_cons_succ,List.getElem_toArray,List.getElem_cons_succ,List.getElem_cons_zero])
    refine wpAnyH_take (i:=4) (oi:=_) (v:=?_) rfl (by kernel_rfl) (by kernel_rfl) (by kernel_rfl) (fun _ _ _ h=>h) (Or.inl ⟨by rfl,?_⟩) hHeld ?_
    rotate_left
    ·intro w' hSw;have hc:=hSw.1;simp only [cellsAt] at hc;go_simp
     try with_reducible rfl
    (try simp only [Act.put,List.setIfInBounds_toArray,List.set_cons_zero,List.set_cons_succ,List.getElem_toArray,List.getElem_cons_succ,List.getElem_cons_zero])
    refine wpAnyH_take (i:=5) (oi:=_) (v:=?_) rfl (by kernel_rfl) (by kernel_rfl) (by kernel_rfl) (fun _ _ _ h=>h) (Or.inl ⟨by rfl,?_⟩) hHeld ?_
    rotate_left
    ·intro w' hSw;have hc:=hSw.1;simp only [cellsAt] at hc;go_simp
     try with_reducible rfl
    (try simp only [Act.put,List.setIfInBounds_toArray,List.set_cons_zero,List.set_cons_succ,List.getElem_toArray,List.getElem_cons_succ,List.getElem_cons_zero])
    refine wpAnyH_ready (rs:=[6]) (by kernel_rfl) (by simp) ?_
    refine AllReadyH.cons (o:=_) rfl (fun K hK=>?_) AllReadyH.nil
    go_simp
    go_at_call 30
    refine (hki _ _ hHeld.2).mono ?_;rintro e W1 ⟨rfl,hb9⟩
    (try go_wp2_with fail)
    have hHeld2:=hHeld.call hb9;refine hK.out _ _ hHeld2 (fun hHeld=>?_)
    clear hK K hHeld2
    (try simp only [Act.put,List.setIfInBounds_toArray,List.set_cons_zero,List.set_cons_succ,List.getElem_toArray,List.getElem_cons_succ,List.getElem_cons_zero])
    refine wpAnyH_take (i:=7) (oi:=_) (v:=?_) rfl (by kernel_rfl) (by kernel_rfl) (by kernel_rfl) (fun _ _ _ h=>h) (Or.inl ⟨by rfl,?_⟩) hHeld ?_
    rotate_left
    ·intro w' hSw;have hc:=hSw.1;simp only [cellsAt] at hc;go_simp
     try with_reducible rfl
    (try simp only [Act.put,List.setIfInBounds_toArray,List.set_cons_zero,List.set_cons_succ,List.getElem_toArray,List.getElem_cons_succ,List.getElem_cons_zero])
    refine wpAnyH_take (i:=8) (oi:=_) (v:=?_) rfl (by kernel_rfl) (by kernel_rfl) (by kernel_rfl) (fun _ _ _ h=>h) (Or.inl ⟨by rfl,?_⟩) hHeld ?_
    rotate_left
    ·intro w' hSw;have hc:=hSw.1;simp only [cellsAt] at hc;go_simp
     try with_reducible rfl
    (try simp only [Act.put,List.setIfInBounds_toArray,List.set_cons_zero,List.set_cons_succ,List.getElem_toArray,List.getElem_cons_succ,List.getElem_cons_zero])
    refine wpAnyH_take (i:=9) (oi:=_) (v:=?_) rfl (by kernel_rfl) (by kernel_rfl) (by kernel_rfl) (fun _ _ _ h=>h) (Or.inl ⟨by rfl,?_⟩) hHeld ?_
    rotate_left
    ·intro w' hSw;have hc:=hSw.1;simp only [cellsAt] at hc;go_simp
     try with_reducible rfl
    (try simp only [Act.put,List.setIfInBounds_toArray,List.set_cons_zero,List.set_cons_succ,List.getElem_toArray,List.getElem_cons_succ,List.getElem_cons_zero])
    refine wpAnyH_take (i:=10) (oi:=_) (v:=?_) rfl (by kernel_rfl) (by kernel_rfl) (by kernel_rfl) (fun _ _ _ h=>h) (Or.inl ⟨by rfl,?_⟩) hHeld ?_
    rotate_left
    ·intro w' hSw;have hc:=hSw.1;simp only [cellsAt] at hc;go_simp
     try with_reducible rfl
    (try simp only [Act.put,List.setIfInBounds_toArray,List.set_cons_zero,List.set_cons_succ,List.getElem_toArray,List.getElem_cons_succ,List.getElem_cons_zero])
    refine wpAnyH_take (i:=11) (oi:=_) (v:=?_) rfl (by kernel_rfl) (by kernel_rfl) (by kernel_rfl) (fun _ _ _ h=>h) (Or.inl ⟨by rfl,?_⟩) hHeld ?_
    rotate_left
    ·intro w' hSw;have hc:=hSw.1;simp only [cellsAt] at hc;go_simp
     try with_reducible rfl
    (try simp only [Act.put,List.setIfInBounds_toArray,List.set_cons_zero,List.set_cons_succ,List.getElem_toArray,List.getElem_cons_succ,List.getElem_cons_zero])
    refine wpAnyH_take (i:=12) (oi:=_) (v:=?_) rfl (by kernel_rfl) (by kernel_rfl) (by kernel_rfl) (fun _ _ _ h=>h) (Or.inl ⟨by rfl,?_⟩) hHeld ?_
    rotate_left
    ·intro w' hSw;have hc:=hSw.1;simp only [cellsAt] at hc;go_simp
     try with_reducible rfl
    (try simp only [Act.put,List.setIfInBounds_toArray,List.set_cons_zero,List.set_cons_succ,List.getElem_toArray,List.getElem_cons_succ,List.getElem_cons_zero])
    refine wpAnyH_take (i:=13) (oi:=_) (v:=?_) rfl (by kernel_rfl) (by kernel_rfl) (by kernel_rfl) (fun _ _ _ h=>h) (Or.inl ⟨by rfl,?_⟩) hHeld ?_
    rotate_left
    ·intro w' hSw;have hc:=hSw.1;simp only [cellsAt] at hc;go_simp
     try with_reducible rfl
    (try simp only [Act.put,List.setIfInBounds_toArray,List.set_cons_zero,List.set_cons_succ,List.getElem_toArray,List.getElem_cons_succ,List.getElem_cons_zero])
    refine wpAnyH_take (i:=14) (oi:=_) (v:=?_) rfl (by kernel_rfl) (by kernel_rfl) (by kernel_rfl) (fun _ _ _ h=>h) (Or.inl ⟨by rfl,?_⟩) hHeld ?_
    rotate_left
    ·intro w' hSw;have hc:=hSw.1;simp only [cellsAt] at hc;go_simp
     try with_reducible rfl
    (try simp only [Act.put,List.setIfInBounds_toArray,List.set_cons_zero,List.set_cons_succ,List.getElem_toArray,List.getElem_cons_succ,List.getElem_cons_zero])
    refine wpAnyH_take (i:=16) (oi:=_) (v:=?_) rfl (by kernel_rfl) (by kernel_rfl) (by kernel_rfl) (fun _ _ _ h=>h) (Or.inl ⟨by rfl,?_⟩) hHeld ?_
    rotate_left
    ·intro w' hSw;have hc:=hSw.1;simp only [cellsAt] at hc;go_simp
     try with_reducible rfl
    (try simp only [Act.put,List.setIfInBounds_toArray,List.set_cons_zero,List.set_cons_succ,List.getElem_toArray,List.getElem_cons_succ,List.getElem_cons_zero])
    refine wpAnyH_take (i:=17) (oi:=_) (v:=?_) rfl (by kernel_rfl) (by kernel_rfl) (by kernel_rfl) (fun _ _ _ h=>h) (Or.inl ⟨by rfl,?_⟩) hHeld ?_
    rotate_left
    ·intro w' hSw;have hc:=hSw.1;simp only [cellsAt] at hc;go_simp
     try with_reducible rfl
    (try simp only [Act.put,List.setIfInBounds_toArray,List.set_cons_zero,List.set_cons_succ,List.getElem_toArray,List.getElem_cons_succ,List.getElem_cons_zero])
    refine wpAnyH_ready (rs:=[15]) (by kernel_rfl) (by simp) ?_
    refine AllReadyH.cons (o:=_) rfl (fun K hK=>?_) AllReadyH.nil
    go_simp
    go_at_call 26
    refine (hof _ _ hHeld.2).mono ?_;rintro e W2 ⟨rfl,hb9⟩
    (try go_wp2_with fail)
    have hHeld2:=hHeld.call hb9;refine hK.out _ _ hHeld2 (fun hHeld=>?_)
    clear hK K hHeld2
    (try simp only [Act.put,List.setIfInBounds_toArray,List.set_cons_zero,List.set_cons_succ,List.getElem_toArray,List.getElem_cons_succ,List.getElem_cons_zero])
    refine wpAnyH_take (i:=18) (oi:=_) (v:=?_) rfl (by kernel_rfl) (by kernel_rfl) (by kernel_rfl) (fun _ _ _ h=>h) (Or.inl ⟨by rfl,?_⟩) hHeld ?_
    rotate_left
    ·intro w' hSw;have hc:=hSw.1;simp only [cellsAt] at hc;go_simp
     try with_reducible rfl
    (try simp only [Act.put,List.setIfInBounds_toArray,List.set_cons_zero,List.set_cons_succ,List.getElem_toArray,List.getElem_cons_succ,List.getElem_cons_zero])
    refine wpAnyH_take (i:=19) (oi:=_) (v:=?_) rfl (by kernel_rfl) (by kernel_rfl) (by kernel_rfl) (fun _ _ _ h=>h) (Or.inl ⟨by rfl,?_⟩) hHeld ?_
    rotate_left
    ·intro w' hSw;have hc:=hSw.1;simp only [cellsAt] at hc;go_simp
     try with_reducible rfl
    (try simp only [Act.put,List.setIfInBounds_toArray,List.set_cons_zero,List.set_cons_succ,List.getElem_toArray,List.getElem_cons_succ,List.getElem_cons_zero])
    refine wpAnyH_take (i:=20) (oi:=_) (v:=?_) rfl (by kernel_rfl) (by kernel_rfl) (by kernel_rfl) (fun _ _ _ h=>h) (Or.inl ⟨by rfl,?_⟩) hHeld ?_
    rotate_left
    ·intro w' hSw;have hc:=hSw.1;simp only [cellsAt] at hc;go_simp
     try with_reducible rfl
    (try simp only [Act.put,List.setIfInBounds_toArray,List.set_cons_zero,List.set_cons_succ,List.getElem_toArray,List.getElem_cons_succ,List.getElem_cons_zero])
    refine wpAnyH_take (i:=21) (oi:=_) (v:=?_) rfl (by kernel_rfl) (by kernel_rfl) (by kernel_rfl) (fun _ _ _ h=>h) (Or.inl ⟨by rfl,?_⟩) hHeld ?_
    rotate_left
    ·intro w' hSw;have hc:=hSw.1;simp only [cellsAt] at hc;go_simp
     try with_reducible rfl
    (try simp only [Act.put,List.setIfInBounds_toArray,List.set_cons_zero,List.set_cons_succ,List.getElem_toArray,List.getElem_cons_succ,List.getElem_cons_zero])
    refine wpAnyH_take (i:=22) (oi:=_) (v:=?_) rfl (by kernel_rfl) (by kernel_rfl) (by kernel_rfl) (fun _ _ _ h=>h) (Or.inl ⟨by rfl,?_⟩) hHeld ?_
    rotate_left
    ·intro w' hSw;have hc:=hSw.1;simp only [cellsAt] at hc;go_simp
     try with_reducible rfl
    (try simp only [Act.put,List.setIfInBounds_toArray,List.set_cons_zero,List.set_cons_succ,List.getElem_toArray,List.getElem_cons_succ,List.getElem_cons_zero])
    refine wpAnyH_take (i:=23) (oi:=_) (v:=?_) rfl (by kernel_rfl) (by kernel_rfl) (by kernel_rfl) (fun _ _ _ h=>h) (Or.inl ⟨by rfl,?_⟩) hHeld ?_
    rotate_left
    ·intro w' hSw;have hc:=hSw.1;simp only [cellsAt] at hc;go_simp
     try with_reducible rfl
    (try simp only [Act.put,List.setIfInBounds_toArray,List.set_cons_zero,List.set_cons_succ,List.getElem_toArray,List.getElem_cons_succ,List.getElem_cons_zero])
    refine wpAnyH_take (i:=24) (oi:=_) (v:=?_) rfl (by kernel_rfl) (by kernel_rfl) (by kernel_rfl) (fun _ _ _ h=>h) (Or.inl ⟨by rfl,?_⟩) hHeld ?_
    rotate_left
    ·intro w' hSw;have hc:=hSw.1;simp only [cellsAt] at hc;go_simp
     try with_reducible rfl
    (try simp only [Act.put,List.setIfInBounds_toArray,List.set_cons_zero,List.set_cons_succ,List.getElem_toArray,List.getElem_cons_succ,List.getElem_cons_zero])
    refine wpAnyH_take (i:=25) (oi:=_) (v:=?_) rfl (by kernel_rfl) (by kernel_rfl) (by kernel_rfl) (fun _ _ _ h=>h) (Or.inl ⟨by rfl,?_⟩) hHeld ?_
    rotate_left
    ·intro w' hSw;have hc:=hSw.1;simp only [cellsAt] at hc;go_simp
     try with_reducible rfl
    (try simp only [Act.put,List.setIfInBounds_toArray,List.set_cons_zero,List.set_cons_succ,List.getElem_toArray,List.getElem_cons_succ,List.getElem_cons_zero])
    refine wpAnyH_take (i:=26) (oi:=_) (v:=?_) rfl (by kernel_rfl) (by kernel_rfl) (by kernel_rfl) (fun _ _ _ h=>h) (Or.inl ⟨by rfl,?_⟩) hHeld ?_
    rotate_left
    ·intro w' hSw;have hc:=hSw.1;simp only [cellsAt] at hc;go_simp
     try with_reducible rfl
    (try simp only [Act.put,List.setIfInBounds_toArray,List.set_cons_zero,List.set_cons_succ,List.getElem_toArray,List.getElem_cons_succ,List.getElem_cons_zero])
    refine wpAnyH_take (i:=28) (oi:=_) (v:=?_) rfl (by kernel_rfl) (by kernel_rfl) (by kernel_rfl) (fun _ _ _ h=>h) (Or.inl ⟨by rfl,?_⟩) hHeld ?_
    rotate_left
    ·intro w' hSw;have hc:=hSw.1;simp only [cellsAt] at hc;go_simp
     try with_reducible rfl
    (try simp only [Act.put,List.setIfInBounds_toArray,List.set_cons_zero,List.set_cons_succ,List.getElem_toArray,List.getElem_cons_succ,List.getElem_cons_zero])
    refine wpAnyH_take (i:=29) (oi:=_) (v:=?_) rfl (by kernel_rfl) (by kernel_rfl) (by kernel_rfl) (fun _ _ _ h=>h) (Or.inl ⟨by rfl,?_⟩) hHeld ?_
    rotate_left
    ·intro w' hSw;have hc:=hSw.1;simp only [cellsAt] at hc;go_simp
     try with_reducible rfl
    (try simp only [Act.put,List.setIfInBounds_toArray,List.set_cons_zero,List.set_cons_succ,List.getElem_toArray,List.getElem_cons_succ,List.getElem_cons_zero])
    refine wpAnyH_take (i:=30) (oi:=_) (v:=?_) rfl (by kernel_rfl) (by kernel_rfl) (by kernel_rfl) (fun _ _ _ h=>h) (Or.inl ⟨by rfl,?_⟩) hHeld ?_
    rotate_left
    ·intro w' hSw;have hc:=hSw.1;simp only [cellsAt] at hc;go_simp
     try with_reducible rfl
    (try simp only [Act.put,List.setIfInBounds_toArray,List.set_cons_zero,List.set_cons_succ,List.getElem_toArray,List.getElem_cons_succ,List.getElem_cons_zero])
    refine wpAnyH_ready (rs:=[27]) (by kernel_rfl) (by simp) ?_
    refine AllReadyH.cons (o:=_) rfl (fun K hK=>?_) AllReadyH.nil
    go_simp
    go_at_call 26
    refine (hof _ _ hHeld.2).mono ?_;rintro e W3 ⟨rfl,hb9⟩
    (try go_wp2_with fail)
    have hHeld2:=hHeld.call hb9;refine hK.out _ _ hHeld2 (fun hHeld=>?_)
    clear hK K hHeld2
    (try simp only [Act.put,List.setIfInBounds_toArray,List.set_cons_zero,List.set_cons_succ,List.getElem_toArray,List.getElem_cons_succ,List.getElem_cons_zero])
    refine wpAnyH_ready (rs:=[31]) (by kernel_rfl) (by simp) ?_
    refine AllReadyH.cons (o:=_) rfl (fun K hK=>?_) AllReadyH.nil
    go_simp
    go_at_call 85
    refine (hpa _ _ _ hHeld.2).mono ?_;rintro e W4 ⟨rfl,hb9⟩
    (try go_wp2_with fail)
    have hHeld2:=hHeld.call hb9;refine hK.out _ _ hHeld2 (fun hHeld=>?_)
    clear hK K hHeld2
    (try simp only [Act.put,List.setIfInBounds_toArray,List.set_cons_zero,List.set_cons_succ,List.getElem_toArray,List.getElem_cons_succ,List.getElem_cons_zero])
    refine wpAnyH_take (i:=32) (oi:=_) (v:=?_) rfl (by kernel_rfl) (by kernel_rfl) (by kernel_rfl) (fun _ _ _ h=>h) (Or.inl ⟨by rfl,?_⟩) hHeld ?_
    rotate_left
    ·intro w' hSw;have hc:=hSw.1;simp only [cellsAt] at hc;go_simp
     try with_reducible rfl
    (try simp only [Act.put,List.setIfInBounds_toArray,List.set_cons_zero,List.set_cons_succ,List.getElem_toArray,List.getElem_cons_succ,List.getElem_cons_zero])
    refine wpAnyH_take (i:=33) (oi:=_) (v:=?_) rfl (by kernel_rfl) (by kernel_rfl) (by kernel_rfl) (fun _ _ _ h=>h) (Or.inl ⟨by rfl,?_⟩) hHeld ?_
    rotate_left
    ·intro w' hSw;have hc:=hSw.1;simp only [cellsAt] at hc;go_simp
     try with_reducible rfl
    (try simp only [Act.put,List.setIfInBounds_toArray,List.set_cons_zero,List.set_cons_succ,List.getElem_toArray,List.getElem_cons_succ,List.getElem_cons_zero])
    refine wpAnyH_take (i:=34) (oi:=_) (v:=?_) rfl (by kernel_rfl) (by kernel_rfl) (by kernel_rfl) (fun _ _ _ h=>h) (Or.inl ⟨by rfl,?_⟩) hHeld ?_
    rotate_left
    ·intro w' hSw;have hc:=hSw.1;simp only [cellsAt] at hc;go_simp
     try with_reducible rfl
    (try simp only [Act.put,List.setIfInBounds_toArray,List.set_cons_zero,List.set_cons_succ,List.getElem_toArray,List.getElem_cons_succ,List.getElem_cons_zero])
    refine wpAnyH_take (i:=35) (oi:=_) (v:=?_) rfl (by kernel_rfl) (by kernel_rfl) (by kernel_rfl) (fun _ _ _ h=>h) (Or.inl ⟨by rfl,?_⟩) hHeld ?_
    rotate_left
    ·intro w' hSw;have hc:=hSw.1;simp only [cellsAt] at hc;go_simp
     try with_reducible rfl
    (try simp only [Act.put,List.setIfInBounds_toArray,List.set_cons_zero,List.set_cons_succ,List.getElem_toArray,List.getElem_cons_succ,List.getElem_cons_zero])
    refine wpAnyH_take (i:=36) (oi:=_) (v:=?_) rfl (by kernel_rfl) (by kernel_rfl) (by kernel_rfl) (fun _ _ _ h=>h) (Or.inl ⟨by rfl,?_⟩) hHeld ?_
    rotate_left
    ·intro w' hSw;have hc:=hSw.1;simp only [cellsAt] at hc;go_simp
     try with_reducible rfl
    (try simp only [Act.put,List.setIfInBounds_toArray,List.set_cons_zero,List.set_cons_succ,List.getElem_toArray,List.getElem_cons_succ,List.getElem_cons_zero])
    refine wpAnyH_take (i:=37) (oi:=_) (v:=?_) rfl (by kernel_rfl) (by kernel_rfl) (by kernel_rfl) (fun _ _ _ h=>h) (Or.inl ⟨by rfl,?_⟩) hHeld ?_
    rotate_left
    ·intro w' hSw;have hc:=hSw.1;simp only [cellsAt] at hc;go_simp
     try with_reducible rfl
    (try simp only [Act.put,List.setIfInBounds_toArray,List.set_cons_zero,List.set_cons_succ,List.getElem_toArray,List.getElem_cons_succ,List.getElem_cons_zero])
    refine wpAnyH_take (i:=38) (oi:=_) (v:=?_) rfl (by kernel_rfl) (by kernel_rfl) (by kernel_rfl) (fun _ _ _ h=>h) (Or.inl ⟨by rfl,?_⟩) hHeld ?_
    rotate_left
    ·intro w' hSw;have hc:=hSw.1;simp only [cellsAt] at hc;go_simp
     try with_reducible rfl
    (try simp only [Act.put,List.setIfInBounds_toArray,List.set_cons_zero,List.set_cons_succ,List.getElem_toArray,List.getElem_cons_succ,List.getElem_cons_zero])
    refine wpAnyH_take (i:=39) (oi:=_) (v:=?_) rfl (by kernel_rfl) (by kernel_rfl) (by kernel_rfl) (fun _ _ _ h=>h) (Or.inl ⟨by rfl,?_⟩) hHeld ?_
    rotate_left
    ·intro w' hSw;have hc:=hSw.1;simp only [cellsAt] at hc;go_simp
     try with_reducible rfl
    (try simp only [Act.put,List.setIfInBounds_toArray,List.set_cons_zero,List.set_cons_succ,List.getElem_toArray,List.getElem_cons_succ,List.getElem_cons_zero])
    refine wpAnyH_ready (rs:=[40]) (by kernel_rfl) (by simp) ?_
    refine AllReadyH.cons (o:=_) rfl (fun K hK=>?_) AllReadyH.nil
    have hPre:=hHeld.2;go_simp
    have hHeld2:=hHeld.call ((Below.refl _ _).alloc (Nat.le_refl _) (.cells #[.int .u8 m2,.int .u32 n2,.string t2] 44));refine hK.out _ _ hHeld2 (fun hHeld=>?_)
    clear hK K hHeld2
    (try simp only [Act.put,List.setIfInBounds_toArray,List.set_cons_zero,List.set_cons_succ,List.getElem_toArray,List.getElem_cons_succ,List.getElem_cons_zero])
    refine wpAnyH_ready (rs:=[41]) (by kernel_rfl) (by simp) ?_
    refine AllReadyH.cons (o:=_) rfl (fun K hK=>?_) AllReadyH.nil
    go_simp
    go_at_call 90
    refine (hnu1  _ hPre).mono ?_;rintro e W6 ⟨rfl,hb9⟩
    (try go_wp2_with fail)
    have hHeld2:=hHeld.call hb9;refine hK.out _ _ hHeld2 (fun hHeld=>?_)
    clear hK K hHeld2
    (try simp only [Act.put,List.setIfInBounds_toArray,List.set_cons_zero,List.set_cons_succ,List.getElem_toArray,List.getElem_cons_succ,List.getElem_cons_zero])
    refine wpAnyH_take (i:=42) (oi:=_) (v:=?_) rfl (by kernel_rfl) (by kernel_rfl) (by kernel_rfl) (fun _ _ _ h=>h) (Or.inl ⟨by rfl,?_⟩) hHeld ?_
    rotate_left
    ·intro w' hSw;have hc:=hSw.1;simp only [cellsAt] at hc;go_simp
     try with_reducible rfl
    (try simp only [Act.put,List.setIfInBounds_toArray,List.set_cons_zero,List.set_cons_succ,List.getElem_toArray,List.getElem_cons_succ,List.getElem_cons_zero])
    refine wpAnyH_take (i:=43) (oi:=_) (v:=?_) rfl (by kernel_rfl) (by kernel_rfl) (by kernel_rfl) (fun _ _ _ h=>h) (Or.inl ⟨by rfl,?_⟩) hHeld ?_
    rotate_left
    ·intro w' hSw;have hc:=hSw.1;simp only [cellsAt] at hc;go_simp
     try with_reducible rfl
    (try simp only [Act.put,List.setIfInBounds_toArray,List.set_cons_zero,List.set_cons_succ,List.getElem_toArray,List.getElem_cons_succ,List.getElem_cons_zero])
    refine wpAnyH_done (by kernel_rfl) ?_ _
    have HB:=Lib.hid hHeld.2;clear hHeld hX;go_wp2_with fail;go_ret
    exact ⟨rfl,HB.out⟩
end
end Go.Proofs.YtdebjkiilnhgpaaGreatDoor
