/- Walks: the checker's construct. -/
import Derived.Test.YtdebjkiilnhgpaaGreatDoorCVC
import Derived.Laws.CopyOwn
import Derived.Test.YtdebjkiilnhgpaaGreatDoorCVB
import Derived.Test.YtdebjkiilnhgpaaGreatDoorCTS
import Derived.Test.YtdebjkiilnhgpaaGreatDoorCTI
set_option maxRecDepth 100000
set_option maxHeartbeats 4000000
namespace Go.Proofs.YtdebjkiilnhgpaaGreatDoor
section
open Go.RowKit
theorem construct_ck (d:CkD) (b:Int) (x:InstA) (w:World) (h:CkS d b w) (hx:InstOk w w.heap.size x) :
  Calls Tryz.prog 99 #[.pointer (some ⟨d.gc,0,none⟩),.agg (instC x)] w (BoolIs (((d.T x.1.2.1).kind==4||(d.T x.1.2.1).kind==5||(d.T x.1.2.1).kind==6)&&cntT (d.T x.1.2.1)==(nums x.1.2.2.2).length&&consR d.g x.1.2.1 (nums x.1.2.2.2) 0) w):=by
 obtain ⟨⟨op,ty,res,al⟩,A,n,c⟩:=x;have hlen:=hx.len;have hr:=hx.reads;have hl:=hr.args_len;dsimp only at hlen hr hl ⊢;unfold instC;dsimp only;have hki:=fun (u:Int) (w':World) (hb:Below w.heap.size w w')=>kindM_any _ _ _ u w' (h.step hb).tab.tab
 have hco:=fun (u:Int) (w':World) (hb:Below w.heap.size w w')=>countM_any _ _ _ u w' (h.step hb).tab.tab ((h.step hb).tab.mild u)
 have hpa:=fun (u k:Int) (w':World) (hb:Below w.heap.size w w')=>part_ck d b u k w' (h.step hb)
 have hof:=fun (u:Int) (w':World) (hb:Below w.heap.size w w')=>of_ck d b u w' (h.step hb)
 have kB:=Blk.new w 42 #[.int .u16 op,.int .u32 ty,.int .u32 res,.slice A n c];obtain ⟨z0,z1,z2,z3⟩:=four_ kB;have hX:Cx w [(⟨d.gc,0,none⟩,.pointer (some ⟨d.gt,0,none⟩)),(⟨w.heap.size,1,none⟩,.int .u32 ty),(⟨w.heap.size,3,none⟩,.slice A n c)] (w.alloc (.cells #[.int .u16 op,.int .u32 ty,.int .u32 res,.slice A n c] 42)):=⟨⟨cell_alloc_c _ h.cell.1,z1,z3,trivial⟩,(Below.refl w.heap.size w).alloc (Nat.le_refl _) _⟩;rw [nums_len,hl];obtain ⟨v,hv⟩:∃ vv,(((d.T ty).kind==4||(d.T ty).kind==5||(d.T ty).kind==6)&&cntT (d.T ty)==((n:Nat):Int)&&consR d.g ty (nums al) 0)=vv:=⟨_,rfl⟩
 rw [hv];have HR:=Lib.hid hr;have HV:=Lib.hid hv;obtain ⟨ne,hne⟩:∃ vv,(cntT (d.T ty) != ((n:Nat):Int))=vv:=⟨_,rfl⟩;have hc:=hX.1;simp only [cellsAt] at hc;clear kB z0 z1 z2 z3 hv h hx hr
 by_cases hk:(d.T ty).kind=4∨(d.T ty).kind=5∨(d.T ty).kind=6
 ·have HV1:Hid (v=((cntT (d.T ty)==((n:Nat):Int))&&consR d.g ty ((nums al).drop 0) 0)):=Lib.hid (by
   rw [← HV.out];have e:((d.T ty).kind==4||(d.T ty).kind==5||(d.T ty).kind==6)=true:=by
    simp only [Bool.or_eq_true,beq_iff_eq];omega
   rw [e];rfl)
  clear HV
  rcases hk with hk | hk | hk
  all_goals
   go_enter Tryz.func99,Tryz.ntmps99;go_wp2_with fail;clear hc;refine wp_region_cx (by kernel_rfl) (by kernel_rfl) hX ?_
   repeat' first | go_big_quiet_skip | (go_big_quiet_want;apply Exists.intro;refine ⟨fun w' hw'=>?_,?_⟩;(have hc:=hw'.1;simp only [cellsAt] at hc;go_simp;first | done | with_reducible rfl | (go_at_call 30;exact (hki _ _ hw'.2).mono fun e w2 h2=>⟨h2.1,hw'.call h2.2⟩));go_big_quiet_on;(try simp only [Act.put,List.setIfInBounds_toArray,List.set_cons_zero,List.set_cons_succ]))
   all_goals
    refine wpQuiet_nil ?_;intro w9 hw9;clear hX;have hX:=hw9;clear hw9;have hc:=hX.1;simp only [cellsAt] at hc;go_wp2_with fail;clear hc;refine wp_region_cx (by kernel_rfl) (by kernel_rfl) hX ?_
    repeat' first | go_big_quiet_skip | (go_big_quiet_want;apply Exists.intro;refine ⟨fun w' hw'=>?_,?_⟩;(have hc:=hw'.1;simp only [cellsAt] at hc;go_simp;first | done | with_reducible rfl | (go_at_call 77;exact (hco _ _ hw'.2).mono fun e w2 h2=>⟨h2.1,hw'.call h2.2⟩));go_big_quiet_on;(try simp only [Act.put,List.setIfInBounds_toArray,List.set_cons_zero,List.set_cons_succ]))
    all_goals
     refine wpQuiet_nil ?_;intro w9 hw9;clear hX;have hX:=hw9;clear hw9;have hc:=hX.1;simp only [cellsAt] at hc;cases ne with
     | true =>
      have HF:Hid (v=false):=Lib.hid (by rw [HV1.out,show (cntT (d.T ty)==((n:Nat):Int))=false by simpa using hne];rfl)
      go_wp2_with fail;go_ret
      exact ⟨(by rw [HF.out];try rfl),hX.2⟩
     | false =>
      have HF:Hid (v=consR d.g ty ((nums al).drop 0) 0):=Lib.hid (by rw [HV1.out,show (cntT (d.T ty)==((n:Nat):Int))=true by simpa using hne];rfl)
      clear HV1;go_wp2_with fail;go_loopg [32] n (fun q i wr=>∃ (k:Nat),k+q=n∧i=.int .i64 (k:Nat)∧Hid (v=consR d.g ty ((nums al).drop k) k)∧Cx w [(⟨d.gc,0,none⟩,.pointer (some ⟨d.gt,0,none⟩)),(⟨w.heap.size,1,none⟩,.int .u32 ty),(⟨w.heap.size,3,none⟩,.slice A n c)] wr)
      case atStart=>exact ⟨0,by omega,rfl,HF,hX⟩
      case round =>
       obtain ⟨k,hq,rfl,HK,hXr⟩:=hrel;clear hX HF hc
       by_cases hlt:k<n
       ·skip
        obtain ⟨ab,ao,rfl,hab,hac⟩:=HR.out.args (by omega)
        obtain ⟨a0,a1,a2⟩:=hac k hlt;have a0:=(hXr.2.cell (p:=⟨ab,ao+k*3,none⟩) hab).trans a0;have a1:=(hXr.2.cell (p:=⟨ab,ao+k*3+1,none⟩) hab).trans a1;have a2:=(hXr.2.cell (p:=⟨ab,ao+k*3+2,none⟩) hab).trans a2;have hE:=HK.out;rw [nums_drop (by omega)] at hE
        replace hE:v=(ofT d.g.M (ag al k).2.1==prt d.T ty k&&consR d.g ty ((nums al).drop (k+1)) (k+1)):=hE
        have HE:=Lib.hid hE;clear hE hac HK;generalize ag al k=y at a0 a1 a2 HE;obtain ⟨y1,y2,y3⟩:=y;dsimp only at a0 a1 a2 HE;have d1:decide (((k:Nat):Int)<(n:Nat))=true:=by rw [decide_eq_true_eq];omega
        have hi1:((k:Nat):Int)<(n:Nat):=by omega
        have kA:=Blk.new wr 44 #[.int .u8 y1,.int .u32 y2,.string y3];have hX:Cx w [(⟨d.gc,0,none⟩,.pointer (some ⟨d.gt,0,none⟩)),(⟨w.heap.size,1,none⟩,.int .u32 ty),(⟨w.heap.size,3,none⟩,.slice (some ⟨ab,ao,none⟩) n c),(⟨wr.heap.size,1,none⟩,.int .u32 y2)] (wr.alloc (.cells #[.int .u8 y1,.int .u32 y2,.string y3] 44)):=by
         obtain ⟨⟨r0,r1,r2,-⟩,r4⟩:=hXr.call ((Below.refl wr.heap.size wr).alloc (Nat.le_refl _) (.cells #[.int .u8 y1,.int .u32 y2,.string y3] 44));exact ⟨⟨r0,r1,r2,(three_ kA).2.1,trivial⟩,r4⟩
        clear hXr kA;obtain ⟨g,hg⟩:∃ vv,(ofT d.g.M y2 != prt d.T ty k)=vv:=⟨_,rfl⟩;have hc:=hX.1;simp only [cellsAt] at hc;go_wp2_with fail;clear hc;refine wp_region_cx (by kernel_rfl) (by kernel_rfl) hX ?_
        repeat' first | go_big_quiet_skip | (go_big_quiet_want;apply Exists.intro;refine ⟨fun w' hw'=>?_,?_⟩;(have hc:=hw'.1;simp only [cellsAt] at hc;go_simp;first | done | with_reducible rfl | (go_at_call 26;exact (hof _ _ hw'.2).mono fun e w2 h2=>⟨h2.1,hw'.call h2.2⟩) | (go_at_call 85;exact (hpa _ _ _ hw'.2).mono fun e w2 h2=>⟨h2.1,hw'.call h2.2⟩));go_big_quiet_on;(try simp only [Act.put,List.setIfInBounds_toArray,List.set_cons_zero,List.set_cons_succ]))
        all_goals
         refine wpQuiet_nil ?_;intro w9 hw9;clear hX;have hX:=hw9;clear hw9;have hc:=hX.1;simp only [cellsAt] at hc;clear a0 a1 a2;cases g with
         | true =>
          have HV1:Hid (v=false):=Lib.hid (by rw [HE.out,show (ofT d.g.M y2==prt d.T ty k)=false by simpa using hg];rfl)
          go_wp2_with fail;go_ret
          exact ⟨(by rw [HV1.out];try rfl),hX.2⟩
         | false =>
          have HV1:Hid (v=consR d.g ty ((nums al).drop (k+1)) (k+1)):=Lib.hid (by rw [HE.out,show (ofT d.g.M y2==prt d.T ty k)=true by simpa using hg];rfl)
          clear hg;go_wp2_with fail;go_roundg (n-(k+1))
          case measure=>omega
          case rel=>exact ⟨k+1,by omega,by go_num,HV1,⟨⟨hX.1.1,hX.1.2.1,hX.1.2.2.1,trivial⟩,hX.2⟩⟩
       ·obtain rfl:gk=0:=by omega
        obtain rfl:k=n:=by omega
        have d1:decide (((k:Nat):Int)<(k:Nat))=false:=by rw [decide_eq_false_iff_not];omega
        have hv1:v=true:=by rw [HK.out,List.drop_of_length_le (by rw [nums_len];omega)];rfl
        have HV1:=Lib.hid hv1;clear hv1;go_wp2_with fail;go_ret
        exact ⟨(by rw [HV1.out];try rfl),hXr.2⟩
 ·have HF:Hid (v=false):=Lib.hid (by
   rw [← HV.out];have e:((d.T ty).kind==4||(d.T ty).kind==5||(d.T ty).kind==6)=false:=by
    simp only [Bool.or_eq_false_iff,beq_eq_false_iff_ne];omega
   rw [e];rfl)
  have k4:((d.T ty).kind==4)=false:=by rw [beq_eq_false_iff_ne];omega
  have k5:((d.T ty).kind==5)=false:=by rw [beq_eq_false_iff_ne];omega
  have k6:((d.T ty).kind==6)=false:=by rw [beq_eq_false_iff_ne];omega
  clear HV hk;go_enter Tryz.func99,Tryz.ntmps99;go_wp2_with fail;clear hc;refine wp_region_cx (by kernel_rfl) (by kernel_rfl) hX ?_
  repeat' first | go_big_quiet_skip | (go_big_quiet_want;apply Exists.intro;refine ⟨fun w' hw'=>?_,?_⟩;(have hc:=hw'.1;simp only [cellsAt] at hc;go_simp;first | done | with_reducible rfl | (go_at_call 30;exact (hki _ _ hw'.2).mono fun e w2 h2=>⟨h2.1,hw'.call h2.2⟩));go_big_quiet_on;(try simp only [Act.put,List.setIfInBounds_toArray,List.set_cons_zero,List.set_cons_succ]))
  all_goals
   refine wpQuiet_nil ?_;intro w9 hw9;clear hX;have hX:=hw9;clear hw9;have hc:=hX.1;simp only [cellsAt] at hc;go_wp2_with fail;go_ret
   exact ⟨(by rw [HF.out];try rfl),hX.2⟩
end
section
open Go.RowKit
theorem phi_ck (d:CkD) (b:Int) (x:InstA) (w:World) (h:CkS d b w) (hx:InstOk w w.heap.size x) :
  Calls Tryz.prog 67 #[.pointer (some ⟨d.gc,0,none⟩),.agg (instC x)] w (BoolIs (phiR d.g x.1.2.1 (nums x.1.2.2.2) 0&&decide (0<(d.T x.1.2.1).size)) w):=by
 obtain ⟨⟨op,ty,res,al⟩,A,n,c⟩:=x;have hlen:=hx.len;have hr:=hx.reads;have hl:=hr.args_len;dsimp only at hlen hr hl ⊢;unfold instC;dsimp only;have hpl:=fun (u:Int) (w':World) (hb:Below w.heap.size w w')=>plainM_any _ _ _ u w' (h.step hb).tab.tab
 have hof:=fun (u:Int) (w':World) (hb:Below w.heap.size w w')=>of_ck d b u w' (h.step hb)
 have kB:=Blk.new w 42 #[.int .u16 op,.int .u32 ty,.int .u32 res,.slice A n c];obtain ⟨z0,z1,z2,z3⟩:=four_ kB;have hX:Cx w [(⟨d.gc,0,none⟩,.pointer (some ⟨d.gt,0,none⟩)),(⟨w.heap.size,1,none⟩,.int .u32 ty),(⟨w.heap.size,3,none⟩,.slice A n c)] (w.alloc (.cells #[.int .u16 op,.int .u32 ty,.int .u32 res,.slice A n c] 42)):=⟨⟨cell_alloc_c _ h.cell.1,z1,z3,trivial⟩,(Below.refl w.heap.size w).alloc (Nat.le_refl _) _⟩;obtain ⟨p,hp⟩:∃ vv,decide (0<(d.T ty).size)=vv:=⟨_,rfl⟩;rw [hp];obtain ⟨v,hv⟩:∃ vv,(phiR d.g ty (nums al) 0&&p)=vv:=⟨_,rfl⟩;rw [hv];have HR:=Lib.hid hr;have HV:Hid (v=(phiR d.g ty ((nums al).drop 0) 0&&p)):=Lib.hid hv.symm;have hc:=hX.1;simp only [cellsAt] at hc;clear kB z0 z1 z2 z3 hv h hx hr;go_enter Tryz.func67,Tryz.ntmps67;go_wp2_with fail;go_loopg [10] n (fun q i wr=>∃ (k:Nat),k+q=n∧i=.int .i64 (k:Nat)∧Hid (v=(phiR d.g ty ((nums al).drop k) k&&p))∧Cx w [(⟨d.gc,0,none⟩,.pointer (some ⟨d.gt,0,none⟩)),(⟨w.heap.size,1,none⟩,.int .u32 ty),(⟨w.heap.size,3,none⟩,.slice A n c)] wr)
 case atStart=>exact ⟨0,by omega,rfl,HV,hX⟩
 case round =>
  obtain ⟨k,hq,rfl,HK,hXr⟩:=hrel;clear hX HV hc
  by_cases hlt:k<n
  ·skip
   obtain ⟨ab,ao,rfl,hab,hac⟩:=HR.out.args (by omega)
   obtain ⟨a0,a1,a2⟩:=hac k hlt;have a0:=(hXr.2.cell (p:=⟨ab,ao+k*3,none⟩) hab).trans a0;have a1:=(hXr.2.cell (p:=⟨ab,ao+k*3+1,none⟩) hab).trans a1;have a2:=(hXr.2.cell (p:=⟨ab,ao+k*3+2,none⟩) hab).trans a2;have hE:=HK.out;rw [nums_drop (by omega)] at hE
   replace hE:v=(((!(k % 2==0)||ofT d.g.M (ag al k).2.1==ty)&&phiR d.g ty ((nums al).drop (k+1)) (k+1))&&p):=hE
   have HE:=Lib.hid hE;clear hE hac HK;generalize ag al k=y at a0 a1 a2 HE;obtain ⟨y1,y2,y3⟩:=y;dsimp only at a0 a1 a2 HE;have d1:decide (((k:Nat):Int)<(n:Nat))=true:=by rw [decide_eq_true_eq];omega
   have hi1:((k:Nat):Int)<(n:Nat):=by omega
   have kA:=Blk.new wr 44 #[.int .u8 y1,.int .u32 y2,.string y3];have hX:Cx w [(⟨d.gc,0,none⟩,.pointer (some ⟨d.gt,0,none⟩)),(⟨w.heap.size,1,none⟩,.int .u32 ty),(⟨w.heap.size,3,none⟩,.slice (some ⟨ab,ao,none⟩) n c),(⟨wr.heap.size,1,none⟩,.int .u32 y2)] (wr.alloc (.cells #[.int .u8 y1,.int .u32 y2,.string y3] 44)):=by
    obtain ⟨⟨r0,r1,r2,-⟩,r4⟩:=hXr.call ((Below.refl wr.heap.size wr).alloc (Nat.le_refl _) (.cells #[.int .u8 y1,.int .u32 y2,.string y3] 44));exact ⟨⟨r0,r1,r2,(three_ kA).2.1,trivial⟩,r4⟩
   clear hXr kA;obtain ⟨g,hg⟩:∃ vv,(ofT d.g.M y2 != ty)=vv:=⟨_,rfl⟩;have hc:=hX.1;simp only [cellsAt] at hc;have htm:((k:Nat):Int).tmod 2=((k % 2:Nat):Int):=by rw [Int.tmod_eq_emod_of_nonneg (by omega)];omega
   rcases Nat.mod_two_eq_zero_or_one k with e2 | e2
   ·rw [e2] at htm;cases g with
    | true =>
     have HV1:Hid (v=false):=Lib.hid (by rw [HE.out,e2,show (ofT d.g.M y2==ty)=false by simpa using hg];rfl)
     go_wp2_with fail;clear hc;refine wp_region_cx (by kernel_rfl) (by kernel_rfl) hX ?_
     repeat' first | go_big_quiet_skip | (go_big_quiet_want;apply Exists.intro;refine ⟨fun w' hw'=>?_,?_⟩;(have hc:=hw'.1;simp only [cellsAt] at hc;go_simp;first | done | with_reducible rfl | (go_at_call 26;exact (hof _ _ hw'.2).mono fun e w2 h2=>⟨h2.1,hw'.call h2.2⟩));go_big_quiet_on;(try simp only [Act.put,List.setIfInBounds_toArray,List.set_cons_zero,List.set_cons_succ]))
     all_goals
      refine wpQuiet_nil ?_;intro w9 hw9;clear hX;have hX:=hw9;clear hw9;have hc:=hX.1;simp only [cellsAt] at hc;go_wp2_with fail;go_ret
      exact ⟨(by rw [HV1.out];try rfl),hX.2⟩
    | false =>
     have HV1:Hid (v=(phiR d.g ty ((nums al).drop (k+1)) (k+1)&&p)):=Lib.hid (by rw [HE.out,e2,show (ofT d.g.M y2==ty)=true by simpa using hg];rfl)
     go_wp2_with fail;clear hc;refine wp_region_cx (by kernel_rfl) (by kernel_rfl) hX ?_
     repeat' first | go_big_quiet_skip | (go_big_quiet_want;apply Exists.intro;refine ⟨fun w' hw'=>?_,?_⟩;(have hc:=hw'.1;simp only [cellsAt] at hc;go_simp;first | done | with_reducible rfl | (go_at_call 26;exact (hof _ _ hw'.2).mono fun e w2 h2=>⟨h2.1,hw'.call h2.2⟩));go_big_quiet_on;(try simp only [Act.put,List.setIfInBounds_toArray,List.set_cons_zero,List.set_cons_succ]))
     all_goals
      refine wpQuiet_nil ?_;intro w9 hw9;clear hX;have hX:=hw9;clear hw9;have hc:=hX.1;simp only [cellsAt] at hc;clear a0 a1 a2 hg;go_wp2_with fail;go_roundg (n-(k+1))
      case measure=>omega
      case rel=>exact ⟨k+1,by omega,by go_num,HV1,⟨⟨hX.1.1,hX.1.2.1,hX.1.2.2.1,trivial⟩,hX.2⟩⟩
   ·rw [e2] at htm;have HV1:Hid (v=(phiR d.g ty ((nums al).drop (k+1)) (k+1)&&p)):=Lib.hid (by rw [HE.out,e2];rfl)
    go_wp2_with fail;clear hc;refine wp_region_cx (by kernel_rfl) (by kernel_rfl) hX ?_
    repeat' first | go_big_quiet_skip | (go_big_quiet_want;apply Exists.intro;refine ⟨fun w' hw'=>?_,?_⟩;(have hc:=hw'.1;simp only [cellsAt] at hc;go_simp;first | done | with_reducible rfl | (go_at_call 26;exact (hof _ _ hw'.2).mono fun e w2 h2=>⟨h2.1,hw'.call h2.2⟩));go_big_quiet_on;(try simp only [Act.put,List.setIfInBounds_toArray,List.set_cons_zero,List.set_cons_succ]))
    all_goals
     refine wpQuiet_nil ?_;intro w9 hw9;clear hX;have hX:=hw9;clear hw9;have hc:=hX.1;simp only [cellsAt] at hc;clear a0 a1 a2 hg;go_wp2_with fail;go_roundg (n-(k+1))
     case measure=>omega
     case rel=>exact ⟨k+1,by omega,by go_num,HV1,⟨⟨hX.1.1,hX.1.2.1,hX.1.2.2.1,trivial⟩,hX.2⟩⟩
  ·obtain rfl:gk=0:=by omega
   obtain rfl:k=n:=by omega
   have d1:decide (((k:Nat):Int)<(k:Nat))=false:=by rw [decide_eq_false_iff_not];omega
   have hv1:v=p:=by rw [HK.out,List.drop_of_length_le (by rw [nums_len];omega)];rfl
   have HV1:=Lib.hid hv1;have hX:=hXr;have hc:=hX.1;simp only [cellsAt] at hc;clear hv1 hXr HK;go_wp2_with fail;clear hc;refine wp_region_cx (by kernel_rfl) (by kernel_rfl) hX ?_
   repeat' first | go_big_quiet_skip | (go_big_quiet_want;apply Exists.intro;refine ⟨fun w' hw'=>?_,?_⟩;(have hc:=hw'.1;simp only [cellsAt] at hc;go_simp;first | done | with_reducible rfl | (go_at_call 75;exact (hpl _ _ hw'.2).mono fun e w2 h2=>⟨h2.1,hw'.call h2.2⟩));go_big_quiet_on;(try simp only [Act.put,List.setIfInBounds_toArray,List.set_cons_zero,List.set_cons_succ]))
   all_goals
    refine wpQuiet_nil ?_;intro w9 hw9;clear hX;have hX:=hw9;clear hw9;have hc:=hX.1;simp only [cellsAt] at hc;go_wp2_with fail;go_ret
    exact ⟨(by rw [HV1.out];try rfl),hX.2⟩
end
section
open Go.RowKit
theorem own_blk {w:World} {base n size g:Nat} {e:TypeId} {xs:List Value} (h:w.ownsRow base e size (.slice (some ⟨g,0,none⟩) n n) n xs):Blk w g e xs.toArray:=by
 rcases h.2 with ⟨hv,-⟩ | ⟨g',cap,cur,hv,-,hg,-,-,hcs,htake⟩
 ·cases hv
 ·cases hv
  have h1:=h.1;have:cur=xs.toArray:=by
   apply Array.ext'
   rw [List.toList_toArray,← htake,List.take_of_length_le (by rw [Array.length_toList,hcs];exact Nat.le_refl _)]
  rw [← this];exact hg
theorem copiedC_any (A:Option Addr) (n c:Nat) (l:List Int) (w:World) (hn:n≤4096) (hr:Reads w w.heap.size 1 A n (Ints .u32 l)) :
  Calls Tryz.prog 135 #[.slice A n c] w fun e w'=>∃ g m k,e=.returned (.slice (some ⟨g,0,none⟩) m k)∧Below w.heap.size w w':=by
 have hl:=hr.len;have hsz:(Tryz.prog.info? 22).map (·.size)=some 1:=by kernel_rfl
 have HR:=Lib.hid hr;clear hr;go_enter Tryz.func135,Tryz.ntmps135;go_wp2_with (first
  | (at_make;refine mk_full sl32 rfl _ rfl _ _ rfl w.heap.size n rfl rfl rfl rfl (by omega) (by omega) (Nat.le_refl _) ?_;intro w1 hown hgr;have hb1:=(Below.refl w.heap.size w).grown hgr (Nat.le_refl _) (fun _ h=>by cases h);have hbk:w1.heap[w.heap.size]?=some (.cells (List.replicate n (.int .u32 0)).toArray 22 (0,0)):=own_blk hown;have hsrc:0<n→∃ ad,A=some ad∧∀ j v,(Ints .u32 l)[j]?=some v→w1.cell? (ad.add j)=some v:=fun h0=>by { obtain ⟨ad,e,-,hc⟩:=(HR.out.below hb1).2 h0;exact ⟨ad,e,hc⟩ })
  | (with_reducible refine wpList_copy_splice rfl _ _ 71 71 rfl 22 Tryz.underlying71 hsz (some ⟨w.heap.size,0,none⟩) A n n n c rfl rfl w.heap.size 0 (List.replicate n (.int .u32 0)) 22 hbk (Ints .u32 l) (by unfold Ints;rw [List.length_map,hl];exact (Nat.min_self n).symm) (fun hp=>⟨rfl,hsrc (by unfold Ints at hp;rw [List.length_map] at hp;omega)⟩) (by unfold Ints;rw [List.length_map,List.length_replicate];omega) Ints_oneCell w.heap.size w hb1 (Nat.le_refl _) ?_;intro w2 _ hb2;clear hb1 hbk hown hgr))
 go_ret
 exact ⟨_,_,_,rfl,hb2⟩
theorem value_pool (gp gt:Nat) (x:Int) (T:Int→TyI) (C:Int→Option Int) (w:World) (h:PooS w gp gt T C) (hs:∀ t,(T t).size≤4096) :
  Calls Tryz.prog 121 #[.pointer (some ⟨gp,0,none⟩),.int .u32 x] w fun e w'=>∃ g m k,e=.returned (.tuple #[.int .u32 ((C x).getD 0),.slice (some ⟨g,0,none⟩) m k,.bool (C x).isSome])∧Below w.heap.size w w':=by
 obtain ⟨bc,S,vi,vv,vm,hk,hC⟩:=h;have c2:=hk.cell 2;simp at c2;have hlk:=hC.look x;obtain ⟨l,hrd⟩:=hC.reads x;have hn:(S x).2.1≤4096:=by
  cases hc:C x with
  | none=>rw [hC.none_ x hc];exact Nat.zero_le _
  | some t=>have:=(hC.len x t hc).1;have:=hs t;omega
 generalize (C x).isSome=is at *;generalize (C x).getD 0=t at *;generalize S x=s at *;obtain ⟨sA,sn,sc⟩:=s;unfold conV at hlk;dsimp only at hlk hrd hn;have kC:=Blk.new w 110 #[.int .u32 t,.slice sA sn sc];have hbC:=(Below.refl w.heap.size w).alloc (Nat.le_refl _) (.cells #[.int .u32 t,.slice sA sn sc] 110);have hX:Cx w [(⟨w.heap.size,0,none⟩,.int .u32 t),(⟨w.heap.size,1,none⟩,.slice sA sn sc)] (w.alloc (.cells #[.int .u32 t,.slice sA sn sc] 110)):=⟨⟨(two_ kC).1,(two_ kC).2,trivial⟩,hbC⟩;have hcp:=fun (w':World) (hb:Below w.heap.size w w')=>copiedC_any sA sn sc l w' hn ((hrd.below hb).more hb.size)
 clear hC hk hrd kC hbC;go_enter Tryz.func121,Tryz.ntmps121;go_wp2_with fail;refine wp_region_held_drew (S:=Cx w [(⟨w.heap.size,0,none⟩,.int .u32 t),(⟨w.heap.size,1,none⟩,.slice sA sn sc)]) (by kernel_rfl) hX.drew_ (fun hHeld=>?_)
 refine wpAnyH_take (i:=0) (oi:=_) (v:=?_) rfl (by kernel_rfl) (by kernel_rfl) (by kernel_rfl) (fun _ _ _ h=>h) (Or.inl ⟨by rfl,?_⟩) hHeld ?_
 rotate_left
 ·intro w' hSw;have hc:=hSw.1;simp only [cellsAt] at hc;go_simp
  try with_reducible rfl
 (try simp only [Act.put,List.setIfInBounds_toArray,List.set_cons_zero,List.set_cons_succ,List.getElem_toArray,List.getElem_cons_zero])
 refine wpAnyH_take (i:=1) (oi:=_) (v:=?_) rfl (by kernel_rfl) (by kernel_rfl) (by kernel_rfl) (fun _ _ _ h=>h) (Or.inl ⟨by rfl,?_⟩) hHeld ?_
 rotate_left
 ·intro w' hSw;have hc:=hSw.1;simp only [cellsAt] at hc;go_simp
  try with_reducible rfl
 (try simp only [Act.put,List.setIfInBounds_toArray,List.set_cons_zero,List.set_cons_succ,List.getElem_toArray,List.getElem_cons_succ,List.getElem_cons_zero])
 refine wpAnyH_take (i:=2) (oi:=_) (v:=?_) rfl (by kernel_rfl) (by kernel_rfl) (by kernel_rfl) (fun _ _ _ h=>h) (Or.inl ⟨by rfl,?_⟩) hHeld ?_
 rotate_left
 ·intro w' hSw;have hc:=hSw.1;simp only [cellsAt] at hc;go_simp
  try with_reducible rfl
 (try simp only [Act.put,List.setIfInBounds_toArray,List.set_cons_zero,List.set_cons_succ,List.getElem_toArray,List.getElem_cons_succ,List.getElem_cons_zero])
 refine wpAnyH_take (i:=3) (oi:=_) (v:=?_) rfl (by kernel_rfl) (by kernel_rfl) (by kernel_rfl) (fun _ _ _ h=>h) (Or.inl ⟨by rfl,?_⟩) hHeld ?_
 rotate_left
 ·intro w' hSw;have hc:=hSw.1;simp only [cellsAt] at hc;go_simp
  try with_reducible rfl
 (try simp only [Act.put,List.setIfInBounds_toArray,List.set_cons_zero,List.set_cons_succ,List.getElem_toArray,List.getElem_cons_succ,List.getElem_cons_zero])
 refine wpAnyH_take (i:=5) (oi:=_) (v:=?_) rfl (by kernel_rfl) (by kernel_rfl) (by kernel_rfl) (fun _ _ _ h=>h) (Or.inl ⟨by rfl,?_⟩) hHeld ?_
 rotate_left
 ·intro w' hSw;have hc:=hSw.1;simp only [cellsAt] at hc;go_simp
  try with_reducible rfl
 (try simp only [Act.put,List.setIfInBounds_toArray,List.set_cons_zero,List.set_cons_succ,List.getElem_toArray,List.getElem_cons_succ,List.getElem_cons_zero])
 refine wpAnyH_ready (rs:=[4]) (by kernel_rfl) (by simp) ?_
 refine AllReadyH.cons (o:=_) rfl (fun K hK=>?_) AllReadyH.nil
 go_simp
 go_at_call 135
 refine (hcp _ hHeld.2).mono ?_;rintro e w2 ⟨g9,m9,k9,rfl,hb2⟩
 (try go_wp2_with fail)
 have hHeld2:=hHeld.call hb2;refine hK.out _ _ hHeld2 (fun hHeld=>?_)
 clear hK K hHeld2
 (try simp only [Act.put,List.setIfInBounds_toArray,List.set_cons_zero,List.set_cons_succ,List.getElem_toArray,List.getElem_cons_succ,List.getElem_cons_zero])
 refine wpAnyH_take (i:=6) (oi:=_) (v:=?_) rfl (by kernel_rfl) (by kernel_rfl) (by kernel_rfl) (fun _ _ _ h=>h) (Or.inl ⟨by rfl,?_⟩) hHeld ?_
 rotate_left
 ·intro w' hSw;have hc:=hSw.1;simp only [cellsAt] at hc;go_simp
  try with_reducible rfl
 (try simp only [Act.put,List.setIfInBounds_toArray,List.set_cons_zero,List.set_cons_succ,List.getElem_toArray,List.getElem_cons_succ,List.getElem_cons_zero])
 refine wpAnyH_take (i:=7) (oi:=_) (v:=?_) rfl (by kernel_rfl) (by kernel_rfl) (by kernel_rfl) (fun _ _ _ h=>h) (Or.inl ⟨by rfl,?_⟩) hHeld ?_
 rotate_left
 ·intro w' hSw;have hc:=hSw.1;simp only [cellsAt] at hc;go_simp
  try with_reducible rfl
 (try simp only [Act.put,List.setIfInBounds_toArray,List.set_cons_zero,List.set_cons_succ,List.getElem_toArray,List.getElem_cons_succ,List.getElem_cons_zero])
 refine wpAnyH_take (i:=8) (oi:=_) (v:=?_) rfl (by kernel_rfl) (by kernel_rfl) (by kernel_rfl) (fun _ _ _ h=>h) (Or.inl ⟨by rfl,?_⟩) hHeld ?_
 rotate_left
 ·intro w' hSw;have hc:=hSw.1;simp only [cellsAt] at hc;go_simp
  try with_reducible rfl
 (try simp only [Act.put,List.setIfInBounds_toArray,List.set_cons_zero,List.set_cons_succ,List.getElem_toArray,List.getElem_cons_succ,List.getElem_cons_zero])
 refine wpAnyH_done (by kernel_rfl) ?_ _
 have HB:=Lib.hid hHeld.2;clear hHeld hX;go_wp2_with fail;go_ret3
 exact ⟨_,_,_,rfl,HB.out⟩
end
section
open Go.RowKit
theorem variable_ck (d:CkD) (b:Int) (x:InstA) (w:World) (h:CkS d b w) (hx:InstOk w w.heap.size x) (hn:1≤x.1.2.2.2.length) :
  Calls Tryz.prog 92 #[.pointer (some ⟨d.gc,0,none⟩),.agg (instC x)] w (BoolIs ((toT d.T x.1.2.1).1 != 0&&(toT d.T x.1.2.1).2==7&&((nums x.1.2.2.2).length==1||d.g.C (ixn (nums x.1.2.2.2) 1)==some (toT d.T x.1.2.1).1)) w):=by
 obtain ⟨⟨op,ty,res,al⟩,A,n,c⟩:=x;have hlen:=hx.len;have hr:=hx.reads;have hl:=hr.args_len;dsimp only at hn hlen hr hl ⊢;unfold instC;dsimp only;obtain ⟨ab,ao,rfl,hab,hac⟩:=hr.args (by omega)
 have hto:=fun (u:Int) (w':World) (hb:Below w.heap.size w w')=>to_ck d b u w' (h.step hb)
 have hvp:=fun (u:Int) (w':World) (hb:Below w.heap.size w w')=>value_pool d.gp d.gt u d.T d.C w' (h.step hb).pool (fun t=>(h.ty.size t).2.2)
 have kB:=Blk.new w 42 #[.int .u16 op,.int .u32 ty,.int .u32 res,.slice (some ⟨ab,ao,none⟩) n c];obtain ⟨z0,z1,z2,z3⟩:=four_ kB;obtain ⟨c0,c1,c2,c3,c4⟩:=h.cell;have hX:Cx w [(⟨d.gc,1,none⟩,.pointer (some ⟨d.gp,0,none⟩)),(⟨w.heap.size,1,none⟩,.int .u32 ty),(⟨w.heap.size,3,none⟩,.slice (some ⟨ab,ao,none⟩) n c)] (w.alloc (.cells #[.int .u16 op,.int .u32 ty,.int .u32 res,.slice (some ⟨ab,ao,none⟩) n c] 42)):=⟨⟨cell_alloc_c _ c1,z1,z3,trivial⟩,(Below.refl w.heap.size w).alloc (Nat.le_refl _) _⟩;have a1:1<n→w.cell? ⟨ab,ao+4,none⟩=some (.int .u32 (ixn (nums al) 1)):=fun h1=>by
  rw [nums_getD (by omega)]
  exact (hac 1 h1).2.1
 rw [nums_len,hl]
 show Calls _ _ _ _ (BoolIs (_&&_&&(_||d.C _==_)) _)
 generalize ixn (nums al) 1=n1 at *;obtain ⟨v,hv⟩:∃ vv,((toT d.T ty).1 != 0&&(toT d.T ty).2==7&&(n==1||d.C n1==some (toT d.T ty).1))=vv:=⟨_,rfl⟩
 rw [hv];obtain ⟨b1,hb1⟩:∃ vv,((toT d.T ty).1==0)=vv:=⟨_,rfl⟩;obtain ⟨b2,hb2⟩:∃ vv,((toT d.T ty).2 != 7)=vv:=⟨_,rfl⟩;obtain ⟨b3,hb3⟩:∃ vv,(((n:Nat):Int)==1)=vv:=⟨_,rfl⟩;have hE:v=(!b1&&!b2&&(b3||d.C n1==some (toT d.T ty).1)):=by
  rw [← hv,← hb1,← hb2,← hb3];have e3:(((n:Nat):Int)==1)=(n==1):=by
   by_cases h1:n=1
   ·rw [h1];rfl
   ·rw [beq_eq_false_iff_ne.2 h1,beq_eq_false_iff_ne];omega
  rw [e3];simp only [bne,Bool.not_not]
 have HE:=Lib.hid hE;have HA1:=Lib.hid a1;have HN:=Lib.hid (And.intro hn hl);have hc:=hX.1;simp only [cellsAt] at hc;clear h hx hr hac kB z0 z1 z2 z3 c0 c1 c2 c3 c4 a1 hE hv hn hl;cases b1 with
 | true =>
  have HF:Hid (v=false):=Lib.hid (by rw [HE.out];rfl)
  go_enter Tryz.func92,Tryz.ntmps92;go_wp2_with (first | (go_at_call 120;refine (hto _ _ hX.2).mono ?_;rintro e W ⟨rfl,hb⟩;replace hX:=hX.call hb;clear hb;clear hc;have hc:=hX.1;simp only [cellsAt] at hc))
  go_ret
  exact ⟨(by rw [HF.out];try rfl),hX.2⟩
 | false =>
  cases b2 with
  | true =>
   have HF:Hid (v=false):=Lib.hid (by rw [HE.out];rfl)
   go_enter Tryz.func92,Tryz.ntmps92;go_wp2_with (first | (go_at_call 120;refine (hto _ _ hX.2).mono ?_;rintro e W ⟨rfl,hb⟩;replace hX:=hX.call hb;clear hb;clear hc;have hc:=hX.1;simp only [cellsAt] at hc))
   go_ret
   exact ⟨(by rw [HF.out];try rfl),hX.2⟩
  | false =>
   cases b3 with
   | true =>
    have HF:Hid (v=true):=Lib.hid (by rw [HE.out];rfl)
    go_enter Tryz.func92,Tryz.ntmps92;go_wp2_with (first | (go_at_call 120;refine (hto _ _ hX.2).mono ?_;rintro e W ⟨rfl,hb⟩;replace hX:=hX.call hb;clear hb;clear hc;have hc:=hX.1;simp only [cellsAt] at hc))
    go_ret
    exact ⟨(by rw [HF.out];try rfl),hX.2⟩
   | false =>
    have HF:Hid (v=(d.C n1==some (toT d.T ty).1)):=Lib.hid (by rw [HE.out];rfl)
    have h1n:1<n:=by
     have h1:=HN.out;have h2:((n:Nat):Int)≠1:=by simpa using hb3
     omega
    have hi1:(1:Int)<(n:Nat):=by omega
    have hvp1:=hvp n1;clear HE hvp;go_enter Tryz.func92,Tryz.ntmps92;go_wp2_with (first | (go_at_call 120;refine (hto _ _ hX.2).mono ?_;rintro e W ⟨rfl,hb⟩;replace hX:=hX.call hb;clear hb;clear hc;have hc:=hX.1;simp only [cellsAt] at hc))
    have hX4:Cx w [(⟨d.gc,1,none⟩,.pointer (some ⟨d.gp,0,none⟩)),(⟨w.heap.size,3,none⟩,.slice (some ⟨ab,ao,none⟩) n c),(⟨ab,ao+4,none⟩,.int .u32 n1)] _:=⟨⟨hX.1.1,hX.1.2.2.1,(hX.2.cell (p:=⟨ab,ao+4,none⟩) hab).trans (HA1.out h1n),trivial⟩,hX.2⟩;clear hc hX;refine wp_region_held_drew (S:=Cx w [(⟨d.gc,1,none⟩,.pointer (some ⟨d.gp,0,none⟩)),(⟨w.heap.size,3,none⟩,.slice (some ⟨ab,ao,none⟩) n c),(⟨ab,ao+4,none⟩,.int .u32 n1)]) (by kernel_rfl) hX4.drew_ (fun hHeld=>?_)
    refine wpAnyH_take (i:=0) (oi:=_) (v:=?_) rfl (by kernel_rfl) (by kernel_rfl) (by kernel_rfl) (fun _ _ _ h=>h) (Or.inl ⟨by rfl,?_⟩) hHeld ?_
    rotate_left
    ·intro w' hSw;have hc:=hSw.1;simp only [cellsAt] at hc;go_simp
     try with_reducible rfl
    (try simp only [Act.put,List.setIfInBounds_toArray,List.set_cons_zero,List.set_cons_succ,List.getElem_toArray,List.getElem_cons_zero])
    refine wpAnyH_take (i:=1) (oi:=_) (v:=?_) rfl (by kernel_rfl) (by kernel_rfl) (by kernel_rfl) (fun _ _ _ h=>h) (Or.inl ⟨by rfl,?_⟩) hHeld ?_
    rotate_left
    ·intro w' hSw;have hc:=hSw.1;simp only [cellsAt] at hc;go_simp
     try with_reducible rfl
    (try simp only [Act.put,List.setIfInBounds_toArray,List.set_cons_zero,List.set_cons_succ,List.getElem_toArray,List.getElem_cons_succ,List.getElem_cons_zero])
    refine wpAnyH_take (i:=2) (oi:=_) (v:=?_) rfl (by kernel_rfl) (by kernel_rfl) (by kernel_rfl) (fun _ _ _ h=>h) (Or.inl ⟨by rfl,?_⟩) hHeld ?_
    rotate_left
    ·intro w' hSw;have hc:=hSw.1;simp only [cellsAt] at hc;go_simp
     try with_reducible rfl
    (try simp only [Act.put,List.setIfInBounds_toArray,List.set_cons_zero,List.set_cons_succ,List.getElem_toArray,List.getElem_cons_succ,List.getElem_cons_zero])
    refine wpAnyH_take (i:=3) (oi:=_) (v:=?_) rfl (by kernel_rfl) (by kernel_rfl) (by kernel_rfl) (fun _ _ _ h=>h) (Or.inl ⟨by rfl,?_⟩) hHeld ?_
    rotate_left
    ·intro w' hSw;have hc:=hSw.1;simp only [cellsAt] at hc;go_simp
     try with_reducible rfl
    (try simp only [Act.put,List.setIfInBounds_toArray,List.set_cons_zero,List.set_cons_succ,List.getElem_toArray,List.getElem_cons_succ,List.getElem_cons_zero])
    refine wpAnyH_take (i:=4) (oi:=_) (v:=?_) rfl (by kernel_rfl) (by kernel_rfl) (by kernel_rfl) (fun _ _ _ h=>h) (Or.inl ⟨by rfl,?_⟩) hHeld ?_
    rotate_left
    ·intro w' hSw;have hc:=hSw.1;simp only [cellsAt] at hc;go_simp
     try with_reducible rfl
    (try simp only [Act.put,List.setIfInBounds_toArray,List.set_cons_zero,List.set_cons_succ,List.getElem_toArray,List.getElem_cons_succ,List.getElem_cons_zero])
    refine wpAnyH_take (i:=5) (oi:=_) (v:=?_) rfl (by kernel_rfl) (by kernel_rfl) (by kernel_rfl) (fun _ _ _ h=>h) (Or.inl ⟨by rfl,?_⟩) hHeld ?_
    rotate_left
    ·intro w' hSw;have hc:=hSw.1;simp only [cellsAt] at hc;go_simp
     try with_reducible rfl
    (try simp only [Act.put,List.setIfInBounds_toArray,List.set_cons_zero,List.set_cons_succ,List.getElem_toArray,List.getElem_cons_succ,List.getElem_cons_zero])
    refine wpAnyH_take (i:=6) (oi:=_) (v:=?_) rfl (by kernel_rfl) (by kernel_rfl) (by kernel_rfl) (fun _ _ _ h=>h) (Or.inl ⟨by rfl,?_⟩) hHeld ?_
    rotate_left
    ·intro w' hSw;have hc:=hSw.1;simp only [cellsAt] at hc;go_simp
     try with_reducible rfl
    (try simp only [Act.put,List.setIfInBounds_toArray,List.set_cons_zero,List.set_cons_succ,List.getElem_toArray,List.getElem_cons_succ,List.getElem_cons_zero])
    refine wpAnyH_take (i:=7) (oi:=_) (v:=?_) rfl (by kernel_rfl) (by kernel_rfl) (by kernel_rfl) (fun _ _ _ h=>h) (Or.inl ⟨by rfl,?_⟩) hHeld ?_
    rotate_left
    ·intro w' hSw;have hc:=hSw.1;simp only [cellsAt] at hc;go_simp
     try with_reducible rfl
    (try simp only [Act.put,List.setIfInBounds_toArray,List.set_cons_zero,List.set_cons_succ,List.getElem_toArray,List.getElem_cons_succ,List.getElem_cons_zero])
    refine wpAnyH_take (i:=8) (oi:=_) (v:=?_) rfl (by kernel_rfl) (by kernel_rfl) (by kernel_rfl) (fun _ _ _ h=>h) (Or.inl ⟨by rfl,?_⟩) hHeld ?_
    rotate_left
    ·intro w' hSw;have hc:=hSw.1;simp only [cellsAt] at hc;go_simp
     try with_reducible rfl
    (try simp only [Act.put,List.setIfInBounds_toArray,List.set_cons_zero,List.set_cons_succ,List.getElem_toArray,List.getElem_cons_succ,List.getElem_cons_zero])
    refine wpAnyH_ready (rs:=[9]) (by kernel_rfl) (by simp) ?_
    refine AllReadyH.cons (o:=_) rfl (fun K hK=>?_) AllReadyH.nil
    go_simp
    go_at_call 121
    refine (hvp1 _ hHeld.2).mono ?_;rintro e w2 ⟨g9,m9,k9,rfl,hb9⟩
    (try go_wp2_with fail)
    have hHeld2:=hHeld.call hb9;refine hK.out _ _ hHeld2 (fun hHeld=>?_)
    clear hK K hHeld2
    (try simp only [Act.put,List.setIfInBounds_toArray,List.set_cons_zero,List.set_cons_succ,List.getElem_toArray,List.getElem_cons_succ,List.getElem_cons_zero])
    refine wpAnyH_take (i:=10) (oi:=_) (v:=?_) rfl (by kernel_rfl) (by kernel_rfl) (by kernel_rfl) (fun _ _ _ h=>h) (Or.inl ⟨by rfl,?_⟩) hHeld ?_
    rotate_left
    ·intro w' hSw;have hc:=hSw.1;simp only [cellsAt] at hc;go_simp
     try with_reducible rfl
    (try simp only [Act.put,List.setIfInBounds_toArray,List.set_cons_zero,List.set_cons_succ,List.getElem_toArray,List.getElem_cons_succ,List.getElem_cons_zero])
    refine wpAnyH_take (i:=11) (oi:=_) (v:=?_) rfl (by kernel_rfl) (by kernel_rfl) (by kernel_rfl) (fun _ _ _ h=>h) (Or.inl ⟨by rfl,?_⟩) hHeld ?_
    rotate_left
    ·intro w' hSw;have hc:=hSw.1;simp only [cellsAt] at hc;go_simp
     try with_reducible rfl
    (try simp only [Act.put,List.setIfInBounds_toArray,List.set_cons_zero,List.set_cons_succ,List.getElem_toArray,List.getElem_cons_succ,List.getElem_cons_zero])
    refine wpAnyH_take (i:=12) (oi:=_) (v:=?_) rfl (by kernel_rfl) (by kernel_rfl) (by kernel_rfl) (fun _ _ _ h=>h) (Or.inl ⟨by rfl,?_⟩) hHeld ?_
    rotate_left
    ·intro w' hSw;have hc:=hSw.1;simp only [cellsAt] at hc;go_simp
     try with_reducible rfl
    (try simp only [Act.put,List.setIfInBounds_toArray,List.set_cons_zero,List.set_cons_succ,List.getElem_toArray,List.getElem_cons_succ,List.getElem_cons_zero])
    refine wpAnyH_take (i:=13) (oi:=_) (v:=?_) rfl (by kernel_rfl) (by kernel_rfl) (by kernel_rfl) (fun _ _ _ h=>h) (Or.inl ⟨by rfl,?_⟩) hHeld ?_
    rotate_left
    ·intro w' hSw;have hc:=hSw.1;simp only [cellsAt] at hc;go_simp
     try with_reducible rfl
    (try simp only [Act.put,List.setIfInBounds_toArray,List.set_cons_zero,List.set_cons_succ,List.getElem_toArray,List.getElem_cons_succ,List.getElem_cons_zero])
    refine wpAnyH_take (i:=14) (oi:=_) (v:=?_) rfl (by kernel_rfl) (by kernel_rfl) (by kernel_rfl) (fun _ _ _ h=>h) (Or.inl ⟨by rfl,?_⟩) hHeld ?_
    rotate_left
    ·intro w' hSw;have hc:=hSw.1;simp only [cellsAt] at hc;go_simp
     try with_reducible rfl
    (try simp only [Act.put,List.setIfInBounds_toArray,List.set_cons_zero,List.set_cons_succ,List.getElem_toArray,List.getElem_cons_succ,List.getElem_cons_zero])
    refine wpAnyH_take (i:=15) (oi:=_) (v:=?_) rfl (by kernel_rfl) (by kernel_rfl) (by kernel_rfl) (fun _ _ _ h=>h) (Or.inl ⟨by rfl,?_⟩) hHeld ?_
    rotate_left
    ·intro w' hSw;have hc:=hSw.1;simp only [cellsAt] at hc;go_simp
     try with_reducible rfl
    (try simp only [Act.put,List.setIfInBounds_toArray,List.set_cons_zero,List.set_cons_succ,List.getElem_toArray,List.getElem_cons_succ,List.getElem_cons_zero])
    refine wpAnyH_take (i:=16) (oi:=_) (v:=?_) rfl (by kernel_rfl) (by kernel_rfl) (by kernel_rfl) (fun _ _ _ h=>h) (Or.inl ⟨by rfl,?_⟩) hHeld ?_
    rotate_left
    ·intro w' hSw;have hc:=hSw.1;simp only [cellsAt] at hc;go_simp
     try with_reducible rfl
    (try simp only [Act.put,List.setIfInBounds_toArray,List.set_cons_zero,List.set_cons_succ,List.getElem_toArray,List.getElem_cons_succ,List.getElem_cons_zero])
    refine wpAnyH_done (by kernel_rfl) ?_ _
    have HB:=Lib.hid hHeld.2;clear hHeld hX4 hvp1;cases hC:d.C n1 with
    | none =>
     have HG:Hid (v=false):=Lib.hid (by rw [HF.out,hC];rfl)
     go_wp2_with fail;go_ret
     exact ⟨(by rw [HG.out];try rfl),HB.out⟩
    | some t =>
     have HG:Hid (v=(t==(toT d.T ty).1)):=Lib.hid (by rw [HF.out,hC];rfl)
     go_wp2_with fail;go_ret
     exact ⟨(by rw [HG.out];try rfl),HB.out⟩
end
section
open Go.RowKit
def memF (gc:Nat) (op:Int):Value :=
 if op=57 then .func (.func 91) #[.pointer (some ⟨gc,0,none⟩)] #[] else
 if op=59 then .func (.func 92) #[.pointer (some ⟨gc,0,none⟩)] #[] else
 if op=61 then .func (.func 93) #[.pointer (some ⟨gc,0,none⟩)] #[] else
 if op=62 then .func (.func 94) #[.pointer (some ⟨gc,0,none⟩)] #[] else
 if op=65 then .func (.func 95) #[.pointer (some ⟨gc,0,none⟩)] #[] else
 if op=77 then .func (.func 96) #[.pointer (some ⟨gc,0,none⟩)] #[] else
 if op=78 then .func (.func 97) #[.pointer (some ⟨gc,0,none⟩)] #[] else
 if op=79 then .func (.func 98) #[.pointer (some ⟨gc,0,none⟩)] #[] else
 if op=80 then .func (.func 99) #[.pointer (some ⟨gc,0,none⟩)] #[] else
 if op=81 then .func (.func 100) #[.pointer (some ⟨gc,0,none⟩)] #[] else
 if op=82 then .func (.func 101) #[.pointer (some ⟨gc,0,none⟩)] #[] else
 if op=83 then .func (.func 102) #[.pointer (some ⟨gc,0,none⟩)] #[] else
 .nilFunc
theorem memory_ck (gc:Nat) (op:Int) (w:World):Calls Tryz.prog 72 #[.pointer (some ⟨gc,0,none⟩),.int .u16 op] w (Ret (memF gc op) w):=by
 by_cases h57:op=57
 ·subst h57;rw [show memF gc 57=.func (.func 91) #[.pointer (some ⟨gc,0,none⟩)] #[] from rfl]
  go_enter Tryz.func72,Tryz.ntmps72;go_wp2_with fail;go_ret
  exact ⟨rfl,Below.refl _ _⟩
 have e57:(op==57)=false:=by simpa using h57
 by_cases h59:op=59
 ·subst h59;rw [show memF gc 59=.func (.func 92) #[.pointer (some ⟨gc,0,none⟩)] #[] from rfl]
  go_enter Tryz.func72,Tryz.ntmps72;go_wp2_with fail;go_ret
  exact ⟨rfl,Below.refl _ _⟩
 have e59:(op==59)=false:=by simpa using h59
 by_cases h61:op=61
 ·subst h61;rw [show memF gc 61=.func (.func 93) #[.pointer (some ⟨gc,0,none⟩)] #[] from rfl]
  go_enter Tryz.func72,Tryz.ntmps72;go_wp2_with fail;go_ret
  exact ⟨rfl,Below.refl _ _⟩
 have e61:(op==61)=false:=by simpa using h61
 by_cases h62:op=62
 ·subst h62;rw [show memF gc 62=.func (.func 94) #[.pointer (some ⟨gc,0,none⟩)] #[] from rfl]
  go_enter Tryz.func72,Tryz.ntmps72;go_wp2_with fail;go_ret
  exact ⟨rfl,Below.refl _ _⟩
 have e62:(op==62)=false:=by simpa using h62
 by_cases h65:op=65
 ·subst h65;rw [show memF gc 65=.func (.func 95) #[.pointer (some ⟨gc,0,none⟩)] #[] from rfl]
  go_enter Tryz.func72,Tryz.ntmps72;go_wp2_with fail;go_ret
  exact ⟨rfl,Below.refl _ _⟩
 have e65:(op==65)=false:=by simpa using h65
 by_cases h77:op=77
 ·subst h77;rw [show memF gc 77=.func (.func 96) #[.pointer (some ⟨gc,0,none⟩)] #[] from rfl]
  go_enter Tryz.func72,Tryz.ntmps72;go_wp2_with fail;go_ret
  exact ⟨rfl,Below.refl _ _⟩
 have e77:(op==77)=false:=by simpa using h77
 by_cases h78:op=78
 ·subst h78;rw [show memF gc 78=.func (.func 97) #[.pointer (some ⟨gc,0,none⟩)] #[] from rfl]
  go_enter Tryz.func72,Tryz.ntmps72;go_wp2_with fail;go_ret
  exact ⟨rfl,Below.refl _ _⟩
 have e78:(op==78)=false:=by simpa using h78
 by_cases h79:op=79
 ·subst h79;rw [show memF gc 79=.func (.func 98) #[.pointer (some ⟨gc,0,none⟩)] #[] from rfl]
  go_enter Tryz.func72,Tryz.ntmps72;go_wp2_with fail;go_ret
  exact ⟨rfl,Below.refl _ _⟩
 have e79:(op==79)=false:=by simpa using h79
 by_cases h80:op=80
 ·subst h80;rw [show memF gc 80=.func (.func 99) #[.pointer (some ⟨gc,0,none⟩)] #[] from rfl]
  go_enter Tryz.func72,Tryz.ntmps72;go_wp2_with fail;go_ret
  exact ⟨rfl,Below.refl _ _⟩
 have e80:(op==80)=false:=by simpa using h80
 by_cases h81:op=81
 ·subst h81;rw [show memF gc 81=.func (.func 100) #[.pointer (some ⟨gc,0,none⟩)] #[] from rfl]
  go_enter Tryz.func72,Tryz.ntmps72;go_wp2_with fail;go_ret
  exact ⟨rfl,Below.refl _ _⟩
 have e81:(op==81)=false:=by simpa using h81
 by_cases h82:op=82
 ·subst h82;rw [show memF gc 82=.func (.func 101) #[.pointer (some ⟨gc,0,none⟩)] #[] from rfl]
  go_enter Tryz.func72,Tryz.ntmps72;go_wp2_with fail;go_ret
  exact ⟨rfl,Below.refl _ _⟩
 have e82:(op==82)=false:=by simpa using h82
 by_cases h83:op=83
 ·subst h83;rw [show memF gc 83=.func (.func 102) #[.pointer (some ⟨gc,0,none⟩)] #[] from rfl]
  go_enter Tryz.func72,Tryz.ntmps72;go_wp2_with fail;go_ret
  exact ⟨rfl,Below.refl _ _⟩
 have e83:(op==83)=false:=by simpa using h83
 rw [show memF gc op=.nilFunc from by unfold memF;rw [if_neg h57,if_neg h59,if_neg h61,if_neg h62,if_neg h65,if_neg h77,if_neg h78,if_neg h79,if_neg h80,if_neg h81,if_neg h82,if_neg h83]]
 clear h57 h59 h61 h62 h65 h77 h78 h79 h80 h81 h82 h83;go_enter Tryz.func72,Tryz.ntmps72;go_wp2_with fail;go_ret
 exact ⟨rfl,Below.refl _ _⟩
def askF (gc:Nat) (op:Int):Value :=
 if 149≤op∧op≤152 then .func (.func 60) #[.pointer (some ⟨gc,0,none⟩)] #[] else
 if op=154∨op=155 then .func (.func 61) #[.pointer (some ⟨gc,0,none⟩)] #[] else
 if 164≤op∧op≤168 then .func (.func 62) #[.pointer (some ⟨gc,0,none⟩)] #[] else
 if op=169 then .func (.func 63) #[.pointer (some ⟨gc,0,none⟩)] #[] else
 if 170≤op∧op≤179 then .func (.func 64) #[.pointer (some ⟨gc,0,none⟩)] #[] else
 if 201≤op∧op≤203 then .func (.func 65) #[.pointer (some ⟨gc,0,none⟩)] #[] else
 if 124≤op∧op≤205 then .func (.func 66) #[.pointer (some ⟨gc,0,none⟩)] #[] else
 if op=245 then .func (.func 67) #[.pointer (some ⟨gc,0,none⟩)] #[] else
 if op=250 then .func (.func 68) #[.pointer (some ⟨gc,0,none⟩)] #[] else
 if op=251 then .func (.func 69) #[.pointer (some ⟨gc,0,none⟩)] #[] else
 if op=253 then .func (.func 70) #[.pointer (some ⟨gc,0,none⟩)] #[] else
 if op=254 then .func (.func 71) #[.pointer (some ⟨gc,0,none⟩)] #[] else
 memF gc op
theorem asks_ck (gc:Nat) (op:Int) (w:World):Calls Tryz.prog 38 #[.pointer (some ⟨gc,0,none⟩),.int .u16 op] w (Ret (askF gc op) w):=by
 have hm:=memory_ck gc op w
 by_cases h123:op≤123
 ·skip
  rw [show askF gc op=memF gc op from by unfold askF;rw [if_neg (by omega),if_neg (by omega),if_neg (by omega),if_neg (by omega),if_neg (by omega),if_neg (by omega),if_neg (by omega),if_neg (by omega),if_neg (by omega),if_neg (by omega),if_neg (by omega),if_neg (by omega)]]
  have g149:decide ((149:Int)≤op)=false:=by rw [decide_eq_false_iff_not];omega
  have g164:decide ((164:Int)≤op)=false:=by rw [decide_eq_false_iff_not];omega
  have g170:decide ((170:Int)≤op)=false:=by rw [decide_eq_false_iff_not];omega
  have g201:decide ((201:Int)≤op)=false:=by rw [decide_eq_false_iff_not];omega
  have g124:decide ((124:Int)≤op)=false:=by rw [decide_eq_false_iff_not];omega
  have l152:decide (op≤(152:Int))=true:=by rw [decide_eq_true_eq];omega
  have l168:decide (op≤(168:Int))=true:=by rw [decide_eq_true_eq];omega
  have l179:decide (op≤(179:Int))=true:=by rw [decide_eq_true_eq];omega
  have l203:decide (op≤(203:Int))=true:=by rw [decide_eq_true_eq];omega
  have l205:decide (op≤(205:Int))=true:=by rw [decide_eq_true_eq];omega
  have e154:(op==154)=false:=by rw [beq_eq_false_iff_ne,ne_eq];omega
  have e155:(op==155)=false:=by rw [beq_eq_false_iff_ne,ne_eq];omega
  have e169:(op==169)=false:=by rw [beq_eq_false_iff_ne,ne_eq];omega
  have e245:(op==245)=false:=by rw [beq_eq_false_iff_ne,ne_eq];omega
  have e250:(op==250)=false:=by rw [beq_eq_false_iff_ne,ne_eq];omega
  have e251:(op==251)=false:=by rw [beq_eq_false_iff_ne,ne_eq];omega
  have e253:(op==253)=false:=by rw [beq_eq_false_iff_ne,ne_eq];omega
  have e254:(op==254)=false:=by rw [beq_eq_false_iff_ne,ne_eq];omega
  generalize memF gc op=mv at hm ⊢;go_enter Tryz.func38,Tryz.ntmps38;go_wp2_with (go_at_call 72;refine hm.mono ?_;rintro e W ⟨rfl,hb⟩)
  go_ret
  exact ⟨rfl,hb⟩
 by_cases h148:124≤op∧op≤148
 ·skip
  rw [show askF gc op=.func (.func 66) #[.pointer (some ⟨gc,0,none⟩)] #[] from by unfold askF;rw [if_neg (by omega),if_neg (by omega),if_neg (by omega),if_neg (by omega),if_neg (by omega),if_neg (by omega),if_pos (by omega)]]
  have g149:decide ((149:Int)≤op)=false:=by rw [decide_eq_false_iff_not];omega
  have g164:decide ((164:Int)≤op)=false:=by rw [decide_eq_false_iff_not];omega
  have g170:decide ((170:Int)≤op)=false:=by rw [decide_eq_false_iff_not];omega
  have g201:decide ((201:Int)≤op)=false:=by rw [decide_eq_false_iff_not];omega
  have g124:decide ((124:Int)≤op)=true:=by rw [decide_eq_true_eq];omega
  have l152:decide (op≤(152:Int))=true:=by rw [decide_eq_true_eq];omega
  have l168:decide (op≤(168:Int))=true:=by rw [decide_eq_true_eq];omega
  have l179:decide (op≤(179:Int))=true:=by rw [decide_eq_true_eq];omega
  have l203:decide (op≤(203:Int))=true:=by rw [decide_eq_true_eq];omega
  have l205:decide (op≤(205:Int))=true:=by rw [decide_eq_true_eq];omega
  have e154:(op==154)=false:=by rw [beq_eq_false_iff_ne,ne_eq];omega
  have e155:(op==155)=false:=by rw [beq_eq_false_iff_ne,ne_eq];omega
  have e169:(op==169)=false:=by rw [beq_eq_false_iff_ne,ne_eq];omega
  have e245:(op==245)=false:=by rw [beq_eq_false_iff_ne,ne_eq];omega
  have e250:(op==250)=false:=by rw [beq_eq_false_iff_ne,ne_eq];omega
  have e251:(op==251)=false:=by rw [beq_eq_false_iff_ne,ne_eq];omega
  have e253:(op==253)=false:=by rw [beq_eq_false_iff_ne,ne_eq];omega
  have e254:(op==254)=false:=by rw [beq_eq_false_iff_ne,ne_eq];omega
  go_enter Tryz.func38,Tryz.ntmps38;go_wp2_with fail;go_ret
  exact ⟨rfl,Below.refl _ _⟩
 by_cases h152:149≤op∧op≤152
 ·skip
  rw [show askF gc op=.func (.func 60) #[.pointer (some ⟨gc,0,none⟩)] #[] from by unfold askF;rw [if_pos (by omega)]]
  have g149:decide ((149:Int)≤op)=true:=by rw [decide_eq_true_eq];omega
  have g164:decide ((164:Int)≤op)=false:=by rw [decide_eq_false_iff_not];omega
  have g170:decide ((170:Int)≤op)=false:=by rw [decide_eq_false_iff_not];omega
  have g201:decide ((201:Int)≤op)=false:=by rw [decide_eq_false_iff_not];omega
  have g124:decide ((124:Int)≤op)=true:=by rw [decide_eq_true_eq];omega
  have l152:decide (op≤(152:Int))=true:=by rw [decide_eq_true_eq];omega
  have l168:decide (op≤(168:Int))=true:=by rw [decide_eq_true_eq];omega
  have l179:decide (op≤(179:Int))=true:=by rw [decide_eq_true_eq];omega
  have l203:decide (op≤(203:Int))=true:=by rw [decide_eq_true_eq];omega
  have l205:decide (op≤(205:Int))=true:=by rw [decide_eq_true_eq];omega
  have e154:(op==154)=false:=by rw [beq_eq_false_iff_ne,ne_eq];omega
  have e155:(op==155)=false:=by rw [beq_eq_false_iff_ne,ne_eq];omega
  have e169:(op==169)=false:=by rw [beq_eq_false_iff_ne,ne_eq];omega
  have e245:(op==245)=false:=by rw [beq_eq_false_iff_ne,ne_eq];omega
  have e250:(op==250)=false:=by rw [beq_eq_false_iff_ne,ne_eq];omega
  have e251:(op==251)=false:=by rw [beq_eq_false_iff_ne,ne_eq];omega
  have e253:(op==253)=false:=by rw [beq_eq_false_iff_ne,ne_eq];omega
  have e254:(op==254)=false:=by rw [beq_eq_false_iff_ne,ne_eq];omega
  go_enter Tryz.func38,Tryz.ntmps38;go_wp2_with fail;go_ret
  exact ⟨rfl,Below.refl _ _⟩
 by_cases h153:153≤op∧op≤153
 ·skip
  rw [show askF gc op=.func (.func 66) #[.pointer (some ⟨gc,0,none⟩)] #[] from by unfold askF;rw [if_neg (by omega),if_neg (by omega),if_neg (by omega),if_neg (by omega),if_neg (by omega),if_neg (by omega),if_pos (by omega)]]
  have g149:decide ((149:Int)≤op)=true:=by rw [decide_eq_true_eq];omega
  have g164:decide ((164:Int)≤op)=false:=by rw [decide_eq_false_iff_not];omega
  have g170:decide ((170:Int)≤op)=false:=by rw [decide_eq_false_iff_not];omega
  have g201:decide ((201:Int)≤op)=false:=by rw [decide_eq_false_iff_not];omega
  have g124:decide ((124:Int)≤op)=true:=by rw [decide_eq_true_eq];omega
  have l152:decide (op≤(152:Int))=false:=by rw [decide_eq_false_iff_not];omega
  have l168:decide (op≤(168:Int))=true:=by rw [decide_eq_true_eq];omega
  have l179:decide (op≤(179:Int))=true:=by rw [decide_eq_true_eq];omega
  have l203:decide (op≤(203:Int))=true:=by rw [decide_eq_true_eq];omega
  have l205:decide (op≤(205:Int))=true:=by rw [decide_eq_true_eq];omega
  have e154:(op==154)=false:=by rw [beq_eq_false_iff_ne,ne_eq];omega
  have e155:(op==155)=false:=by rw [beq_eq_false_iff_ne,ne_eq];omega
  have e169:(op==169)=false:=by rw [beq_eq_false_iff_ne,ne_eq];omega
  have e245:(op==245)=false:=by rw [beq_eq_false_iff_ne,ne_eq];omega
  have e250:(op==250)=false:=by rw [beq_eq_false_iff_ne,ne_eq];omega
  have e251:(op==251)=false:=by rw [beq_eq_false_iff_ne,ne_eq];omega
  have e253:(op==253)=false:=by rw [beq_eq_false_iff_ne,ne_eq];omega
  have e254:(op==254)=false:=by rw [beq_eq_false_iff_ne,ne_eq];omega
  go_enter Tryz.func38,Tryz.ntmps38;go_wp2_with fail;go_ret
  exact ⟨rfl,Below.refl _ _⟩
 by_cases h154:154≤op∧op≤154
 ·skip
  rw [show askF gc op=.func (.func 61) #[.pointer (some ⟨gc,0,none⟩)] #[] from by unfold askF;rw [if_neg (by omega),if_pos (by omega)]]
  have g149:decide ((149:Int)≤op)=true:=by rw [decide_eq_true_eq];omega
  have g164:decide ((164:Int)≤op)=false:=by rw [decide_eq_false_iff_not];omega
  have g170:decide ((170:Int)≤op)=false:=by rw [decide_eq_false_iff_not];omega
  have g201:decide ((201:Int)≤op)=false:=by rw [decide_eq_false_iff_not];omega
  have g124:decide ((124:Int)≤op)=true:=by rw [decide_eq_true_eq];omega
  have l152:decide (op≤(152:Int))=false:=by rw [decide_eq_false_iff_not];omega
  have l168:decide (op≤(168:Int))=true:=by rw [decide_eq_true_eq];omega
  have l179:decide (op≤(179:Int))=true:=by rw [decide_eq_true_eq];omega
  have l203:decide (op≤(203:Int))=true:=by rw [decide_eq_true_eq];omega
  have l205:decide (op≤(205:Int))=true:=by rw [decide_eq_true_eq];omega
  have e154:(op==154)=true:=by rw [beq_iff_eq];omega
  have e155:(op==155)=false:=by rw [beq_eq_false_iff_ne,ne_eq];omega
  have e169:(op==169)=false:=by rw [beq_eq_false_iff_ne,ne_eq];omega
  have e245:(op==245)=false:=by rw [beq_eq_false_iff_ne,ne_eq];omega
  have e250:(op==250)=false:=by rw [beq_eq_false_iff_ne,ne_eq];omega
  have e251:(op==251)=false:=by rw [beq_eq_false_iff_ne,ne_eq];omega
  have e253:(op==253)=false:=by rw [beq_eq_false_iff_ne,ne_eq];omega
  have e254:(op==254)=false:=by rw [beq_eq_false_iff_ne,ne_eq];omega
  go_enter Tryz.func38,Tryz.ntmps38;go_wp2_with fail;go_ret
  exact ⟨rfl,Below.refl _ _⟩
 by_cases h155:155≤op∧op≤155
 ·skip
  rw [show askF gc op=.func (.func 61) #[.pointer (some ⟨gc,0,none⟩)] #[] from by unfold askF;rw [if_neg (by omega),if_pos (by omega)]]
  have g149:decide ((149:Int)≤op)=true:=by rw [decide_eq_true_eq];omega
  have g164:decide ((164:Int)≤op)=false:=by rw [decide_eq_false_iff_not];omega
  have g170:decide ((170:Int)≤op)=false:=by rw [decide_eq_false_iff_not];omega
  have g201:decide ((201:Int)≤op)=false:=by rw [decide_eq_false_iff_not];omega
  have g124:decide ((124:Int)≤op)=true:=by rw [decide_eq_true_eq];omega
  have l152:decide (op≤(152:Int))=false:=by rw [decide_eq_false_iff_not];omega
  have l168:decide (op≤(168:Int))=true:=by rw [decide_eq_true_eq];omega
  have l179:decide (op≤(179:Int))=true:=by rw [decide_eq_true_eq];omega
  have l203:decide (op≤(203:Int))=true:=by rw [decide_eq_true_eq];omega
  have l205:decide (op≤(205:Int))=true:=by rw [decide_eq_true_eq];omega
  have e154:(op==154)=false:=by rw [beq_eq_false_iff_ne,ne_eq];omega
  have e155:(op==155)=true:=by rw [beq_iff_eq];omega
  have e169:(op==169)=false:=by rw [beq_eq_false_iff_ne,ne_eq];omega
  have e245:(op==245)=false:=by rw [beq_eq_false_iff_ne,ne_eq];omega
  have e250:(op==250)=false:=by rw [beq_eq_false_iff_ne,ne_eq];omega
  have e251:(op==251)=false:=by rw [beq_eq_false_iff_ne,ne_eq];omega
  have e253:(op==253)=false:=by rw [beq_eq_false_iff_ne,ne_eq];omega
  have e254:(op==254)=false:=by rw [beq_eq_false_iff_ne,ne_eq];omega
  go_enter Tryz.func38,Tryz.ntmps38;go_wp2_with fail;go_ret
  exact ⟨rfl,Below.refl _ _⟩
 by_cases h163:156≤op∧op≤163
 ·skip
  rw [show askF gc op=.func (.func 66) #[.pointer (some ⟨gc,0,none⟩)] #[] from by unfold askF;rw [if_neg (by omega),if_neg (by omega),if_neg (by omega),if_neg (by omega),if_neg (by omega),if_neg (by omega),if_pos (by omega)]]
  have g149:decide ((149:Int)≤op)=true:=by rw [decide_eq_true_eq];omega
  have g164:decide ((164:Int)≤op)=false:=by rw [decide_eq_false_iff_not];omega
  have g170:decide ((170:Int)≤op)=false:=by rw [decide_eq_false_iff_not];omega
  have g201:decide ((201:Int)≤op)=false:=by rw [decide_eq_false_iff_not];omega
  have g124:decide ((124:Int)≤op)=true:=by rw [decide_eq_true_eq];omega
  have l152:decide (op≤(152:Int))=false:=by rw [decide_eq_false_iff_not];omega
  have l168:decide (op≤(168:Int))=true:=by rw [decide_eq_true_eq];omega
  have l179:decide (op≤(179:Int))=true:=by rw [decide_eq_true_eq];omega
  have l203:decide (op≤(203:Int))=true:=by rw [decide_eq_true_eq];omega
  have l205:decide (op≤(205:Int))=true:=by rw [decide_eq_true_eq];omega
  have e154:(op==154)=false:=by rw [beq_eq_false_iff_ne,ne_eq];omega
  have e155:(op==155)=false:=by rw [beq_eq_false_iff_ne,ne_eq];omega
  have e169:(op==169)=false:=by rw [beq_eq_false_iff_ne,ne_eq];omega
  have e245:(op==245)=false:=by rw [beq_eq_false_iff_ne,ne_eq];omega
  have e250:(op==250)=false:=by rw [beq_eq_false_iff_ne,ne_eq];omega
  have e251:(op==251)=false:=by rw [beq_eq_false_iff_ne,ne_eq];omega
  have e253:(op==253)=false:=by rw [beq_eq_false_iff_ne,ne_eq];omega
  have e254:(op==254)=false:=by rw [beq_eq_false_iff_ne,ne_eq];omega
  go_enter Tryz.func38,Tryz.ntmps38;go_wp2_with fail;go_ret
  exact ⟨rfl,Below.refl _ _⟩
 by_cases h168:164≤op∧op≤168
 ·skip
  rw [show askF gc op=.func (.func 62) #[.pointer (some ⟨gc,0,none⟩)] #[] from by unfold askF;rw [if_neg (by omega),if_neg (by omega),if_pos (by omega)]]
  have g149:decide ((149:Int)≤op)=true:=by rw [decide_eq_true_eq];omega
  have g164:decide ((164:Int)≤op)=true:=by rw [decide_eq_true_eq];omega
  have g170:decide ((170:Int)≤op)=false:=by rw [decide_eq_false_iff_not];omega
  have g201:decide ((201:Int)≤op)=false:=by rw [decide_eq_false_iff_not];omega
  have g124:decide ((124:Int)≤op)=true:=by rw [decide_eq_true_eq];omega
  have l152:decide (op≤(152:Int))=false:=by rw [decide_eq_false_iff_not];omega
  have l168:decide (op≤(168:Int))=true:=by rw [decide_eq_true_eq];omega
  have l179:decide (op≤(179:Int))=true:=by rw [decide_eq_true_eq];omega
  have l203:decide (op≤(203:Int))=true:=by rw [decide_eq_true_eq];omega
  have l205:decide (op≤(205:Int))=true:=by rw [decide_eq_true_eq];omega
  have e154:(op==154)=false:=by rw [beq_eq_false_iff_ne,ne_eq];omega
  have e155:(op==155)=false:=by rw [beq_eq_false_iff_ne,ne_eq];omega
  have e169:(op==169)=false:=by rw [beq_eq_false_iff_ne,ne_eq];omega
  have e245:(op==245)=false:=by rw [beq_eq_false_iff_ne,ne_eq];omega
  have e250:(op==250)=false:=by rw [beq_eq_false_iff_ne,ne_eq];omega
  have e251:(op==251)=false:=by rw [beq_eq_false_iff_ne,ne_eq];omega
  have e253:(op==253)=false:=by rw [beq_eq_false_iff_ne,ne_eq];omega
  have e254:(op==254)=false:=by rw [beq_eq_false_iff_ne,ne_eq];omega
  go_enter Tryz.func38,Tryz.ntmps38;go_wp2_with fail;go_ret
  exact ⟨rfl,Below.refl _ _⟩
 by_cases h169:169≤op∧op≤169
 ·skip
  rw [show askF gc op=.func (.func 63) #[.pointer (some ⟨gc,0,none⟩)] #[] from by unfold askF;rw [if_neg (by omega),if_neg (by omega),if_neg (by omega),if_pos (by omega)]]
  have g149:decide ((149:Int)≤op)=true:=by rw [decide_eq_true_eq];omega
  have g164:decide ((164:Int)≤op)=true:=by rw [decide_eq_true_eq];omega
  have g170:decide ((170:Int)≤op)=false:=by rw [decide_eq_false_iff_not];omega
  have g201:decide ((201:Int)≤op)=false:=by rw [decide_eq_false_iff_not];omega
  have g124:decide ((124:Int)≤op)=true:=by rw [decide_eq_true_eq];omega
  have l152:decide (op≤(152:Int))=false:=by rw [decide_eq_false_iff_not];omega
  have l168:decide (op≤(168:Int))=false:=by rw [decide_eq_false_iff_not];omega
  have l179:decide (op≤(179:Int))=true:=by rw [decide_eq_true_eq];omega
  have l203:decide (op≤(203:Int))=true:=by rw [decide_eq_true_eq];omega
  have l205:decide (op≤(205:Int))=true:=by rw [decide_eq_true_eq];omega
  have e154:(op==154)=false:=by rw [beq_eq_false_iff_ne,ne_eq];omega
  have e155:(op==155)=false:=by rw [beq_eq_false_iff_ne,ne_eq];omega
  have e169:(op==169)=true:=by rw [beq_iff_eq];omega
  have e245:(op==245)=false:=by rw [beq_eq_false_iff_ne,ne_eq];omega
  have e250:(op==250)=false:=by rw [beq_eq_false_iff_ne,ne_eq];omega
  have e251:(op==251)=false:=by rw [beq_eq_false_iff_ne,ne_eq];omega
  have e253:(op==253)=false:=by rw [beq_eq_false_iff_ne,ne_eq];omega
  have e254:(op==254)=false:=by rw [beq_eq_false_iff_ne,ne_eq];omega
  go_enter Tryz.func38,Tryz.ntmps38;go_wp2_with fail;go_ret
  exact ⟨rfl,Below.refl _ _⟩
 by_cases h179:170≤op∧op≤179
 ·skip
  rw [show askF gc op=.func (.func 64) #[.pointer (some ⟨gc,0,none⟩)] #[] from by unfold askF;rw [if_neg (by omega),if_neg (by omega),if_neg (by omega),if_neg (by omega),if_pos (by omega)]]
  have g149:decide ((149:Int)≤op)=true:=by rw [decide_eq_true_eq];omega
  have g164:decide ((164:Int)≤op)=true:=by rw [decide_eq_true_eq];omega
  have g170:decide ((170:Int)≤op)=true:=by rw [decide_eq_true_eq];omega
  have g201:decide ((201:Int)≤op)=false:=by rw [decide_eq_false_iff_not];omega
  have g124:decide ((124:Int)≤op)=true:=by rw [decide_eq_true_eq];omega
  have l152:decide (op≤(152:Int))=false:=by rw [decide_eq_false_iff_not];omega
  have l168:decide (op≤(168:Int))=false:=by rw [decide_eq_false_iff_not];omega
  have l179:decide (op≤(179:Int))=true:=by rw [decide_eq_true_eq];omega
  have l203:decide (op≤(203:Int))=true:=by rw [decide_eq_true_eq];omega
  have l205:decide (op≤(205:Int))=true:=by rw [decide_eq_true_eq];omega
  have e154:(op==154)=false:=by rw [beq_eq_false_iff_ne,ne_eq];omega
  have e155:(op==155)=false:=by rw [beq_eq_false_iff_ne,ne_eq];omega
  have e169:(op==169)=false:=by rw [beq_eq_false_iff_ne,ne_eq];omega
  have e245:(op==245)=false:=by rw [beq_eq_false_iff_ne,ne_eq];omega
  have e250:(op==250)=false:=by rw [beq_eq_false_iff_ne,ne_eq];omega
  have e251:(op==251)=false:=by rw [beq_eq_false_iff_ne,ne_eq];omega
  have e253:(op==253)=false:=by rw [beq_eq_false_iff_ne,ne_eq];omega
  have e254:(op==254)=false:=by rw [beq_eq_false_iff_ne,ne_eq];omega
  go_enter Tryz.func38,Tryz.ntmps38;go_wp2_with fail;go_ret
  exact ⟨rfl,Below.refl _ _⟩
 by_cases h200:180≤op∧op≤200
 ·skip
  rw [show askF gc op=.func (.func 66) #[.pointer (some ⟨gc,0,none⟩)] #[] from by unfold askF;rw [if_neg (by omega),if_neg (by omega),if_neg (by omega),if_neg (by omega),if_neg (by omega),if_neg (by omega),if_pos (by omega)]]
  have g149:decide ((149:Int)≤op)=true:=by rw [decide_eq_true_eq];omega
  have g164:decide ((164:Int)≤op)=true:=by rw [decide_eq_true_eq];omega
  have g170:decide ((170:Int)≤op)=true:=by rw [decide_eq_true_eq];omega
  have g201:decide ((201:Int)≤op)=false:=by rw [decide_eq_false_iff_not];omega
  have g124:decide ((124:Int)≤op)=true:=by rw [decide_eq_true_eq];omega
  have l152:decide (op≤(152:Int))=false:=by rw [decide_eq_false_iff_not];omega
  have l168:decide (op≤(168:Int))=false:=by rw [decide_eq_false_iff_not];omega
  have l179:decide (op≤(179:Int))=false:=by rw [decide_eq_false_iff_not];omega
  have l203:decide (op≤(203:Int))=true:=by rw [decide_eq_true_eq];omega
  have l205:decide (op≤(205:Int))=true:=by rw [decide_eq_true_eq];omega
  have e154:(op==154)=false:=by rw [beq_eq_false_iff_ne,ne_eq];omega
  have e155:(op==155)=false:=by rw [beq_eq_false_iff_ne,ne_eq];omega
  have e169:(op==169)=false:=by rw [beq_eq_false_iff_ne,ne_eq];omega
  have e245:(op==245)=false:=by rw [beq_eq_false_iff_ne,ne_eq];omega
  have e250:(op==250)=false:=by rw [beq_eq_false_iff_ne,ne_eq];omega
  have e251:(op==251)=false:=by rw [beq_eq_false_iff_ne,ne_eq];omega
  have e253:(op==253)=false:=by rw [beq_eq_false_iff_ne,ne_eq];omega
  have e254:(op==254)=false:=by rw [beq_eq_false_iff_ne,ne_eq];omega
  go_enter Tryz.func38,Tryz.ntmps38;go_wp2_with fail;go_ret
  exact ⟨rfl,Below.refl _ _⟩
 by_cases h203:201≤op∧op≤203
 ·skip
  rw [show askF gc op=.func (.func 65) #[.pointer (some ⟨gc,0,none⟩)] #[] from by unfold askF;rw [if_neg (by omega),if_neg (by omega),if_neg (by omega),if_neg (by omega),if_neg (by omega),if_pos (by omega)]]
  have g149:decide ((149:Int)≤op)=true:=by rw [decide_eq_true_eq];omega
  have g164:decide ((164:Int)≤op)=true:=by rw [decide_eq_true_eq];omega
  have g170:decide ((170:Int)≤op)=true:=by rw [decide_eq_true_eq];omega
  have g201:decide ((201:Int)≤op)=true:=by rw [decide_eq_true_eq];omega
  have g124:decide ((124:Int)≤op)=true:=by rw [decide_eq_true_eq];omega
  have l152:decide (op≤(152:Int))=false:=by rw [decide_eq_false_iff_not];omega
  have l168:decide (op≤(168:Int))=false:=by rw [decide_eq_false_iff_not];omega
  have l179:decide (op≤(179:Int))=false:=by rw [decide_eq_false_iff_not];omega
  have l203:decide (op≤(203:Int))=true:=by rw [decide_eq_true_eq];omega
  have l205:decide (op≤(205:Int))=true:=by rw [decide_eq_true_eq];omega
  have e154:(op==154)=false:=by rw [beq_eq_false_iff_ne,ne_eq];omega
  have e155:(op==155)=false:=by rw [beq_eq_false_iff_ne,ne_eq];omega
  have e169:(op==169)=false:=by rw [beq_eq_false_iff_ne,ne_eq];omega
  have e245:(op==245)=false:=by rw [beq_eq_false_iff_ne,ne_eq];omega
  have e250:(op==250)=false:=by rw [beq_eq_false_iff_ne,ne_eq];omega
  have e251:(op==251)=false:=by rw [beq_eq_false_iff_ne,ne_eq];omega
  have e253:(op==253)=false:=by rw [beq_eq_false_iff_ne,ne_eq];omega
  have e254:(op==254)=false:=by rw [beq_eq_false_iff_ne,ne_eq];omega
  go_enter Tryz.func38,Tryz.ntmps38;go_wp2_with fail;go_ret
  exact ⟨rfl,Below.refl _ _⟩
 by_cases h205:204≤op∧op≤205
 ·skip
  rw [show askF gc op=.func (.func 66) #[.pointer (some ⟨gc,0,none⟩)] #[] from by unfold askF;rw [if_neg (by omega),if_neg (by omega),if_neg (by omega),if_neg (by omega),if_neg (by omega),if_neg (by omega),if_pos (by omega)]]
  have g149:decide ((149:Int)≤op)=true:=by rw [decide_eq_true_eq];omega
  have g164:decide ((164:Int)≤op)=true:=by rw [decide_eq_true_eq];omega
  have g170:decide ((170:Int)≤op)=true:=by rw [decide_eq_true_eq];omega
  have g201:decide ((201:Int)≤op)=true:=by rw [decide_eq_true_eq];omega
  have g124:decide ((124:Int)≤op)=true:=by rw [decide_eq_true_eq];omega
  have l152:decide (op≤(152:Int))=false:=by rw [decide_eq_false_iff_not];omega
  have l168:decide (op≤(168:Int))=false:=by rw [decide_eq_false_iff_not];omega
  have l179:decide (op≤(179:Int))=false:=by rw [decide_eq_false_iff_not];omega
  have l203:decide (op≤(203:Int))=false:=by rw [decide_eq_false_iff_not];omega
  have l205:decide (op≤(205:Int))=true:=by rw [decide_eq_true_eq];omega
  have e154:(op==154)=false:=by rw [beq_eq_false_iff_ne,ne_eq];omega
  have e155:(op==155)=false:=by rw [beq_eq_false_iff_ne,ne_eq];omega
  have e169:(op==169)=false:=by rw [beq_eq_false_iff_ne,ne_eq];omega
  have e245:(op==245)=false:=by rw [beq_eq_false_iff_ne,ne_eq];omega
  have e250:(op==250)=false:=by rw [beq_eq_false_iff_ne,ne_eq];omega
  have e251:(op==251)=false:=by rw [beq_eq_false_iff_ne,ne_eq];omega
  have e253:(op==253)=false:=by rw [beq_eq_false_iff_ne,ne_eq];omega
  have e254:(op==254)=false:=by rw [beq_eq_false_iff_ne,ne_eq];omega
  go_enter Tryz.func38,Tryz.ntmps38;go_wp2_with fail;go_ret
  exact ⟨rfl,Below.refl _ _⟩
 by_cases h244:206≤op∧op≤244
 ·skip
  rw [show askF gc op=memF gc op from by unfold askF;rw [if_neg (by omega),if_neg (by omega),if_neg (by omega),if_neg (by omega),if_neg (by omega),if_neg (by omega),if_neg (by omega),if_neg (by omega),if_neg (by omega),if_neg (by omega),if_neg (by omega),if_neg (by omega)]]
  have g149:decide ((149:Int)≤op)=true:=by rw [decide_eq_true_eq];omega
  have g164:decide ((164:Int)≤op)=true:=by rw [decide_eq_true_eq];omega
  have g170:decide ((170:Int)≤op)=true:=by rw [decide_eq_true_eq];omega
  have g201:decide ((201:Int)≤op)=true:=by rw [decide_eq_true_eq];omega
  have g124:decide ((124:Int)≤op)=true:=by rw [decide_eq_true_eq];omega
  have l152:decide (op≤(152:Int))=false:=by rw [decide_eq_false_iff_not];omega
  have l168:decide (op≤(168:Int))=false:=by rw [decide_eq_false_iff_not];omega
  have l179:decide (op≤(179:Int))=false:=by rw [decide_eq_false_iff_not];omega
  have l203:decide (op≤(203:Int))=false:=by rw [decide_eq_false_iff_not];omega
  have l205:decide (op≤(205:Int))=false:=by rw [decide_eq_false_iff_not];omega
  have e154:(op==154)=false:=by rw [beq_eq_false_iff_ne,ne_eq];omega
  have e155:(op==155)=false:=by rw [beq_eq_false_iff_ne,ne_eq];omega
  have e169:(op==169)=false:=by rw [beq_eq_false_iff_ne,ne_eq];omega
  have e245:(op==245)=false:=by rw [beq_eq_false_iff_ne,ne_eq];omega
  have e250:(op==250)=false:=by rw [beq_eq_false_iff_ne,ne_eq];omega
  have e251:(op==251)=false:=by rw [beq_eq_false_iff_ne,ne_eq];omega
  have e253:(op==253)=false:=by rw [beq_eq_false_iff_ne,ne_eq];omega
  have e254:(op==254)=false:=by rw [beq_eq_false_iff_ne,ne_eq];omega
  generalize memF gc op=mv at hm ⊢;go_enter Tryz.func38,Tryz.ntmps38;go_wp2_with (go_at_call 72;refine hm.mono ?_;rintro e W ⟨rfl,hb⟩)
  go_ret
  exact ⟨rfl,hb⟩
 by_cases h245:245≤op∧op≤245
 ·skip
  rw [show askF gc op=.func (.func 67) #[.pointer (some ⟨gc,0,none⟩)] #[] from by unfold askF;rw [if_neg (by omega),if_neg (by omega),if_neg (by omega),if_neg (by omega),if_neg (by omega),if_neg (by omega),if_neg (by omega),if_pos (by omega)]]
  have g149:decide ((149:Int)≤op)=true:=by rw [decide_eq_true_eq];omega
  have g164:decide ((164:Int)≤op)=true:=by rw [decide_eq_true_eq];omega
  have g170:decide ((170:Int)≤op)=true:=by rw [decide_eq_true_eq];omega
  have g201:decide ((201:Int)≤op)=true:=by rw [decide_eq_true_eq];omega
  have g124:decide ((124:Int)≤op)=true:=by rw [decide_eq_true_eq];omega
  have l152:decide (op≤(152:Int))=false:=by rw [decide_eq_false_iff_not];omega
  have l168:decide (op≤(168:Int))=false:=by rw [decide_eq_false_iff_not];omega
  have l179:decide (op≤(179:Int))=false:=by rw [decide_eq_false_iff_not];omega
  have l203:decide (op≤(203:Int))=false:=by rw [decide_eq_false_iff_not];omega
  have l205:decide (op≤(205:Int))=false:=by rw [decide_eq_false_iff_not];omega
  have e154:(op==154)=false:=by rw [beq_eq_false_iff_ne,ne_eq];omega
  have e155:(op==155)=false:=by rw [beq_eq_false_iff_ne,ne_eq];omega
  have e169:(op==169)=false:=by rw [beq_eq_false_iff_ne,ne_eq];omega
  have e245:(op==245)=true:=by rw [beq_iff_eq];omega
  have e250:(op==250)=false:=by rw [beq_eq_false_iff_ne,ne_eq];omega
  have e251:(op==251)=false:=by rw [beq_eq_false_iff_ne,ne_eq];omega
  have e253:(op==253)=false:=by rw [beq_eq_false_iff_ne,ne_eq];omega
  have e254:(op==254)=false:=by rw [beq_eq_false_iff_ne,ne_eq];omega
  go_enter Tryz.func38,Tryz.ntmps38;go_wp2_with fail;go_ret
  exact ⟨rfl,Below.refl _ _⟩
 by_cases h249:246≤op∧op≤249
 ·skip
  rw [show askF gc op=memF gc op from by unfold askF;rw [if_neg (by omega),if_neg (by omega),if_neg (by omega),if_neg (by omega),if_neg (by omega),if_neg (by omega),if_neg (by omega),if_neg (by omega),if_neg (by omega),if_neg (by omega),if_neg (by omega),if_neg (by omega)]]
  have g149:decide ((149:Int)≤op)=true:=by rw [decide_eq_true_eq];omega
  have g164:decide ((164:Int)≤op)=true:=by rw [decide_eq_true_eq];omega
  have g170:decide ((170:Int)≤op)=true:=by rw [decide_eq_true_eq];omega
  have g201:decide ((201:Int)≤op)=true:=by rw [decide_eq_true_eq];omega
  have g124:decide ((124:Int)≤op)=true:=by rw [decide_eq_true_eq];omega
  have l152:decide (op≤(152:Int))=false:=by rw [decide_eq_false_iff_not];omega
  have l168:decide (op≤(168:Int))=false:=by rw [decide_eq_false_iff_not];omega
  have l179:decide (op≤(179:Int))=false:=by rw [decide_eq_false_iff_not];omega
  have l203:decide (op≤(203:Int))=false:=by rw [decide_eq_false_iff_not];omega
  have l205:decide (op≤(205:Int))=false:=by rw [decide_eq_false_iff_not];omega
  have e154:(op==154)=false:=by rw [beq_eq_false_iff_ne,ne_eq];omega
  have e155:(op==155)=false:=by rw [beq_eq_false_iff_ne,ne_eq];omega
  have e169:(op==169)=false:=by rw [beq_eq_false_iff_ne,ne_eq];omega
  have e245:(op==245)=false:=by rw [beq_eq_false_iff_ne,ne_eq];omega
  have e250:(op==250)=false:=by rw [beq_eq_false_iff_ne,ne_eq];omega
  have e251:(op==251)=false:=by rw [beq_eq_false_iff_ne,ne_eq];omega
  have e253:(op==253)=false:=by rw [beq_eq_false_iff_ne,ne_eq];omega
  have e254:(op==254)=false:=by rw [beq_eq_false_iff_ne,ne_eq];omega
  generalize memF gc op=mv at hm ⊢;go_enter Tryz.func38,Tryz.ntmps38;go_wp2_with (go_at_call 72;refine hm.mono ?_;rintro e W ⟨rfl,hb⟩)
  go_ret
  exact ⟨rfl,hb⟩
 by_cases h250:250≤op∧op≤250
 ·skip
  rw [show askF gc op=.func (.func 68) #[.pointer (some ⟨gc,0,none⟩)] #[] from by unfold askF;rw [if_neg (by omega),if_neg (by omega),if_neg (by omega),if_neg (by omega),if_neg (by omega),if_neg (by omega),if_neg (by omega),if_neg (by omega),if_pos (by omega)]]
  have g149:decide ((149:Int)≤op)=true:=by rw [decide_eq_true_eq];omega
  have g164:decide ((164:Int)≤op)=true:=by rw [decide_eq_true_eq];omega
  have g170:decide ((170:Int)≤op)=true:=by rw [decide_eq_true_eq];omega
  have g201:decide ((201:Int)≤op)=true:=by rw [decide_eq_true_eq];omega
  have g124:decide ((124:Int)≤op)=true:=by rw [decide_eq_true_eq];omega
  have l152:decide (op≤(152:Int))=false:=by rw [decide_eq_false_iff_not];omega
  have l168:decide (op≤(168:Int))=false:=by rw [decide_eq_false_iff_not];omega
  have l179:decide (op≤(179:Int))=false:=by rw [decide_eq_false_iff_not];omega
  have l203:decide (op≤(203:Int))=false:=by rw [decide_eq_false_iff_not];omega
  have l205:decide (op≤(205:Int))=false:=by rw [decide_eq_false_iff_not];omega
  have e154:(op==154)=false:=by rw [beq_eq_false_iff_ne,ne_eq];omega
  have e155:(op==155)=false:=by rw [beq_eq_false_iff_ne,ne_eq];omega
  have e169:(op==169)=false:=by rw [beq_eq_false_iff_ne,ne_eq];omega
  have e245:(op==245)=false:=by rw [beq_eq_false_iff_ne,ne_eq];omega
  have e250:(op==250)=true:=by rw [beq_iff_eq];omega
  have e251:(op==251)=false:=by rw [beq_eq_false_iff_ne,ne_eq];omega
  have e253:(op==253)=false:=by rw [beq_eq_false_iff_ne,ne_eq];omega
  have e254:(op==254)=false:=by rw [beq_eq_false_iff_ne,ne_eq];omega
  go_enter Tryz.func38,Tryz.ntmps38;go_wp2_with fail;go_ret
  exact ⟨rfl,Below.refl _ _⟩
 by_cases h251:251≤op∧op≤251
 ·skip
  rw [show askF gc op=.func (.func 69) #[.pointer (some ⟨gc,0,none⟩)] #[] from by unfold askF;rw [if_neg (by omega),if_neg (by omega),if_neg (by omega),if_neg (by omega),if_neg (by omega),if_neg (by omega),if_neg (by omega),if_neg (by omega),if_neg (by omega),if_pos (by omega)]]
  have g149:decide ((149:Int)≤op)=true:=by rw [decide_eq_true_eq];omega
  have g164:decide ((164:Int)≤op)=true:=by rw [decide_eq_true_eq];omega
  have g170:decide ((170:Int)≤op)=true:=by rw [decide_eq_true_eq];omega
  have g201:decide ((201:Int)≤op)=true:=by rw [decide_eq_true_eq];omega
  have g124:decide ((124:Int)≤op)=true:=by rw [decide_eq_true_eq];omega
  have l152:decide (op≤(152:Int))=false:=by rw [decide_eq_false_iff_not];omega
  have l168:decide (op≤(168:Int))=false:=by rw [decide_eq_false_iff_not];omega
  have l179:decide (op≤(179:Int))=false:=by rw [decide_eq_false_iff_not];omega
  have l203:decide (op≤(203:Int))=false:=by rw [decide_eq_false_iff_not];omega
  have l205:decide (op≤(205:Int))=false:=by rw [decide_eq_false_iff_not];omega
  have e154:(op==154)=false:=by rw [beq_eq_false_iff_ne,ne_eq];omega
  have e155:(op==155)=false:=by rw [beq_eq_false_iff_ne,ne_eq];omega
  have e169:(op==169)=false:=by rw [beq_eq_false_iff_ne,ne_eq];omega
  have e245:(op==245)=false:=by rw [beq_eq_false_iff_ne,ne_eq];omega
  have e250:(op==250)=false:=by rw [beq_eq_false_iff_ne,ne_eq];omega
  have e251:(op==251)=true:=by rw [beq_iff_eq];omega
  have e253:(op==253)=false:=by rw [beq_eq_false_iff_ne,ne_eq];omega
  have e254:(op==254)=false:=by rw [beq_eq_false_iff_ne,ne_eq];omega
  go_enter Tryz.func38,Tryz.ntmps38;go_wp2_with fail;go_ret
  exact ⟨rfl,Below.refl _ _⟩
 by_cases h252:252≤op∧op≤252
 ·skip
  rw [show askF gc op=memF gc op from by unfold askF;rw [if_neg (by omega),if_neg (by omega),if_neg (by omega),if_neg (by omega),if_neg (by omega),if_neg (by omega),if_neg (by omega),if_neg (by omega),if_neg (by omega),if_neg (by omega),if_neg (by omega),if_neg (by omega)]]
  have g149:decide ((149:Int)≤op)=true:=by rw [decide_eq_true_eq];omega
  have g164:decide ((164:Int)≤op)=true:=by rw [decide_eq_true_eq];omega
  have g170:decide ((170:Int)≤op)=true:=by rw [decide_eq_true_eq];omega
  have g201:decide ((201:Int)≤op)=true:=by rw [decide_eq_true_eq];omega
  have g124:decide ((124:Int)≤op)=true:=by rw [decide_eq_true_eq];omega
  have l152:decide (op≤(152:Int))=false:=by rw [decide_eq_false_iff_not];omega
  have l168:decide (op≤(168:Int))=false:=by rw [decide_eq_false_iff_not];omega
  have l179:decide (op≤(179:Int))=false:=by rw [decide_eq_false_iff_not];omega
  have l203:decide (op≤(203:Int))=false:=by rw [decide_eq_false_iff_not];omega
  have l205:decide (op≤(205:Int))=false:=by rw [decide_eq_false_iff_not];omega
  have e154:(op==154)=false:=by rw [beq_eq_false_iff_ne,ne_eq];omega
  have e155:(op==155)=false:=by rw [beq_eq_false_iff_ne,ne_eq];omega
  have e169:(op==169)=false:=by rw [beq_eq_false_iff_ne,ne_eq];omega
  have e245:(op==245)=false:=by rw [beq_eq_false_iff_ne,ne_eq];omega
  have e250:(op==250)=false:=by rw [beq_eq_false_iff_ne,ne_eq];omega
  have e251:(op==251)=false:=by rw [beq_eq_false_iff_ne,ne_eq];omega
  have e253:(op==253)=false:=by rw [beq_eq_false_iff_ne,ne_eq];omega
  have e254:(op==254)=false:=by rw [beq_eq_false_iff_ne,ne_eq];omega
  generalize memF gc op=mv at hm ⊢;go_enter Tryz.func38,Tryz.ntmps38;go_wp2_with (go_at_call 72;refine hm.mono ?_;rintro e W ⟨rfl,hb⟩)
  go_ret
  exact ⟨rfl,hb⟩
 by_cases h253:253≤op∧op≤253
 ·skip
  rw [show askF gc op=.func (.func 70) #[.pointer (some ⟨gc,0,none⟩)] #[] from by unfold askF;rw [if_neg (by omega),if_neg (by omega),if_neg (by omega),if_neg (by omega),if_neg (by omega),if_neg (by omega),if_neg (by omega),if_neg (by omega),if_neg (by omega),if_neg (by omega),if_pos (by omega)]]
  have g149:decide ((149:Int)≤op)=true:=by rw [decide_eq_true_eq];omega
  have g164:decide ((164:Int)≤op)=true:=by rw [decide_eq_true_eq];omega
  have g170:decide ((170:Int)≤op)=true:=by rw [decide_eq_true_eq];omega
  have g201:decide ((201:Int)≤op)=true:=by rw [decide_eq_true_eq];omega
  have g124:decide ((124:Int)≤op)=true:=by rw [decide_eq_true_eq];omega
  have l152:decide (op≤(152:Int))=false:=by rw [decide_eq_false_iff_not];omega
  have l168:decide (op≤(168:Int))=false:=by rw [decide_eq_false_iff_not];omega
  have l179:decide (op≤(179:Int))=false:=by rw [decide_eq_false_iff_not];omega
  have l203:decide (op≤(203:Int))=false:=by rw [decide_eq_false_iff_not];omega
  have l205:decide (op≤(205:Int))=false:=by rw [decide_eq_false_iff_not];omega
  have e154:(op==154)=false:=by rw [beq_eq_false_iff_ne,ne_eq];omega
  have e155:(op==155)=false:=by rw [beq_eq_false_iff_ne,ne_eq];omega
  have e169:(op==169)=false:=by rw [beq_eq_false_iff_ne,ne_eq];omega
  have e245:(op==245)=false:=by rw [beq_eq_false_iff_ne,ne_eq];omega
  have e250:(op==250)=false:=by rw [beq_eq_false_iff_ne,ne_eq];omega
  have e251:(op==251)=false:=by rw [beq_eq_false_iff_ne,ne_eq];omega
  have e253:(op==253)=true:=by rw [beq_iff_eq];omega
  have e254:(op==254)=false:=by rw [beq_eq_false_iff_ne,ne_eq];omega
  go_enter Tryz.func38,Tryz.ntmps38;go_wp2_with fail;go_ret
  exact ⟨rfl,Below.refl _ _⟩
 by_cases h254:254≤op∧op≤254
 ·skip
  rw [show askF gc op=.func (.func 71) #[.pointer (some ⟨gc,0,none⟩)] #[] from by unfold askF;rw [if_neg (by omega),if_neg (by omega),if_neg (by omega),if_neg (by omega),if_neg (by omega),if_neg (by omega),if_neg (by omega),if_neg (by omega),if_neg (by omega),if_neg (by omega),if_neg (by omega),if_pos (by omega)]]
  have g149:decide ((149:Int)≤op)=true:=by rw [decide_eq_true_eq];omega
  have g164:decide ((164:Int)≤op)=true:=by rw [decide_eq_true_eq];omega
  have g170:decide ((170:Int)≤op)=true:=by rw [decide_eq_true_eq];omega
  have g201:decide ((201:Int)≤op)=true:=by rw [decide_eq_true_eq];omega
  have g124:decide ((124:Int)≤op)=true:=by rw [decide_eq_true_eq];omega
  have l152:decide (op≤(152:Int))=false:=by rw [decide_eq_false_iff_not];omega
  have l168:decide (op≤(168:Int))=false:=by rw [decide_eq_false_iff_not];omega
  have l179:decide (op≤(179:Int))=false:=by rw [decide_eq_false_iff_not];omega
  have l203:decide (op≤(203:Int))=false:=by rw [decide_eq_false_iff_not];omega
  have l205:decide (op≤(205:Int))=false:=by rw [decide_eq_false_iff_not];omega
  have e154:(op==154)=false:=by rw [beq_eq_false_iff_ne,ne_eq];omega
  have e155:(op==155)=false:=by rw [beq_eq_false_iff_ne,ne_eq];omega
  have e169:(op==169)=false:=by rw [beq_eq_false_iff_ne,ne_eq];omega
  have e245:(op==245)=false:=by rw [beq_eq_false_iff_ne,ne_eq];omega
  have e250:(op==250)=false:=by rw [beq_eq_false_iff_ne,ne_eq];omega
  have e251:(op==251)=false:=by rw [beq_eq_false_iff_ne,ne_eq];omega
  have e253:(op==253)=false:=by rw [beq_eq_false_iff_ne,ne_eq];omega
  have e254:(op==254)=true:=by rw [beq_iff_eq];omega
  go_enter Tryz.func38,Tryz.ntmps38;go_wp2_with fail;go_ret
  exact ⟨rfl,Below.refl _ _⟩
 rw [show askF gc op=memF gc op from by unfold askF;rw [if_neg (by omega),if_neg (by omega),if_neg (by omega),if_neg (by omega),if_neg (by omega),if_neg (by omega),if_neg (by omega),if_neg (by omega),if_neg (by omega),if_neg (by omega),if_neg (by omega),if_neg (by omega)]]
 have g149:decide ((149:Int)≤op)=true:=by rw [decide_eq_true_eq];omega
 have g164:decide ((164:Int)≤op)=true:=by rw [decide_eq_true_eq];omega
 have g170:decide ((170:Int)≤op)=true:=by rw [decide_eq_true_eq];omega
 have g201:decide ((201:Int)≤op)=true:=by rw [decide_eq_true_eq];omega
 have g124:decide ((124:Int)≤op)=true:=by rw [decide_eq_true_eq];omega
 have l152:decide (op≤(152:Int))=false:=by rw [decide_eq_false_iff_not];omega
 have l168:decide (op≤(168:Int))=false:=by rw [decide_eq_false_iff_not];omega
 have l179:decide (op≤(179:Int))=false:=by rw [decide_eq_false_iff_not];omega
 have l203:decide (op≤(203:Int))=false:=by rw [decide_eq_false_iff_not];omega
 have l205:decide (op≤(205:Int))=false:=by rw [decide_eq_false_iff_not];omega
 have e154:(op==154)=false:=by rw [beq_eq_false_iff_ne,ne_eq];omega
 have e155:(op==155)=false:=by rw [beq_eq_false_iff_ne,ne_eq];omega
 have e169:(op==169)=false:=by rw [beq_eq_false_iff_ne,ne_eq];omega
 have e245:(op==245)=false:=by rw [beq_eq_false_iff_ne,ne_eq];omega
 have e250:(op==250)=false:=by rw [beq_eq_false_iff_ne,ne_eq];omega
 have e251:(op==251)=false:=by rw [beq_eq_false_iff_ne,ne_eq];omega
 have e253:(op==253)=false:=by rw [beq_eq_false_iff_ne,ne_eq];omega
 have e254:(op==254)=false:=by rw [beq_eq_false_iff_ne,ne_eq];omega
 generalize memF gc op=mv at hm ⊢;go_enter Tryz.func38,Tryz.ntmps38;go_wp2_with (go_at_call 72;refine hm.mono ?_;rintro e W ⟨rfl,hb⟩)
 go_ret
 exact ⟨rfl,hb⟩
end
section
open Go.RowKit
theorem asked_ck (x:InstA) (w:World) (hx:InstOk w w.heap.size x) (hn:x.1.1=59→1≤x.1.2.2.2.length) :
  Calls Tryz.prog 36 #[.agg (instC x)] w (BoolIs (askedB x.1) w):=by
 obtain ⟨⟨op,ty,res,al⟩,A,n,c⟩:=x;have hr:=hx.reads;have hl:=hr.args_len;dsimp only at hn hr hl ⊢;have hb:=(Below.refl w.heap.size w).alloc (Nat.le_refl _) (.cells #[.int .u16 op,.int .u32 ty,.int .u32 res,.slice A n c] 42);have kB:=Blk.new w 42 #[.int .u16 op,.int .u32 ty,.int .u32 res,.slice A n c];obtain ⟨z0,z1,z2,z3⟩:=four_ kB;unfold instC askedB;dsimp only
 by_cases h59:op=59
 ·subst h59;have hn1:=hn rfl;obtain ⟨ab,ao,rfl,hab,hac⟩:=hr.args (by omega)
  have a0:=(hac 0 (by omega)).2.1
  simp only [Nat.zero_mul,Nat.add_zero] at a0;have a0:=(hb.cell (p:=⟨ab,ao+1,none⟩) hab).trans a0;have i0:(0:Int)<(n:Nat):=by omega
  rw [if_pos rfl,show ixn (nums al) 0=(ag al 0).2.1 from nums_getD (by omega)]
  generalize (ag al 0).2.1=n0 at *;clear hac hr hx hl hn hn1 kB;go_enter Tryz.func36,Tryz.ntmps36;go_wp2_with fail;go_ret
  exact ⟨rfl,hb⟩
 ·rw [if_neg h59];have e59:(op==59)=false:=by simpa using h59
  have ho:=of_any op;obtain ⟨op',s0,T,R,s2,s3,m,hV⟩:=ofV_part op;rw [hV] at ho;clear hV;generalize partOf op=p at *;generalize ofB op=ob at *;clear hx hr hl hn kB;go_enter Tryz.func36,Tryz.ntmps36;go_wp2_with (go_at_call 58;refine (ho _).mono ?_;rintro e w2 ⟨rfl,hb3⟩;have hb4:=below_cut hb hb3 (Nat.le_refl _))
  go_ret
  exact ⟨rfl,hb4.alloc hb4.size _⟩
end
end Go.Proofs.YtdebjkiilnhgpaaGreatDoor
