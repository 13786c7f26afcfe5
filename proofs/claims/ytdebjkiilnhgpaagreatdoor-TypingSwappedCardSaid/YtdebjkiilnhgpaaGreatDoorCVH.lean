/- Walks: the checker's call. -/
import Derived.Test.YtdebjkiilnhgpaaGreatDoorCVC
import Derived.Test.YtdebjkiilnhgpaaGreatDoorCVA
import Derived.Test.YtdebjkiilnhgpaaGreatDoorCVF
import Derived.Test.YtdebjkiilnhgpaaGreatDoorCVD
import Derived.Test.YtdebjkiilnhgpaaGreatDoorCVE
import Derived.Test.YtdebjkiilnhgpaaGreatDoorCVG
set_option maxRecDepth 100000
set_option maxHeartbeats 4000000
namespace Go.Proofs.YtdebjkiilnhgpaaGreatDoor
section
open Go.RowKit
theorem call_ck (d:CkD) (b:Int) (x:InstA) (w:World) (h:CkS d b w) (hx:InstOk w w.heap.size x) (hn:1≤x.1.2.2.2.length) (hcap:x.2.2.1≤x.2.2.2) (hM:∀ id,InsT (d.M id)) :
  Calls Tryz.prog 91 #[.pointer (some ⟨d.gc,0,none⟩),.agg (instC x)] w (BoolIs ((d.g.M (ixn (nums x.1.2.2.2) 0)).1==54&&sigB d.T (ixn (nums (d.g.M (ixn (nums x.1.2.2.2) 0)).2.2.2) 1) x.1.2.1 (((nums x.1.2.2.2).drop 1).map (ofT d.g.M))) w):=by
 obtain ⟨⟨op,ty,res,al⟩,A,n,c⟩:=x;have hlen:=hx.len;have hr:=hx.reads;have hl:=hr.args_len;dsimp only at hn hlen hr hl hcap ⊢;unfold instC;dsimp only;obtain ⟨c0,c1,c2,c3,c4⟩:=h.cell;obtain ⟨ab,ao,rfl,hab,hac⟩:=hr.args (by omega)
 obtain ⟨f0,a0,g0⟩:=hac 0 (by omega)
 simp only [Nat.zero_mul,Nat.add_zero] at a0 f0 g0;have i0:(0:Int)<(n:Nat):=by omega
 rw [show ixn (nums al) 0=(ag al 0).2.1 from nums_getD (by omega)]
 generalize (ag al 0).2.1=n0 at *;have l1:(1:Int)≤(n:Nat):=by omega
 obtain ⟨q1,hq1⟩:∃ vv,(if c=1 then some ⟨ab,ao,none⟩ else some ⟨ab,ao+3,none⟩:Option Addr)=vv:=⟨_,rfl⟩
 rw [← nums_dropL];have hr1:Reads w w.heap.size 3 q1 (n-1) (Acells (al.drop 1)):=by rw [← hq1];exact hr.args_from (k:=1) (by omega) hcap
 obtain ⟨al1,hal1⟩:∃ vv,al.drop 1=vv:=⟨_,rfl⟩;rw [hal1] at hr1 ⊢;have hl1:=hr1.args_len;obtain ⟨m,hm⟩:∃ m,n-1=m:=⟨_,rfl⟩;rw [hm] at hr1 hl1;have hm6:m≤6000000000000:=by omega
 have hm1:((n:Nat):Int)-1=(m:Nat):=by omega
 have hof:=fun (u:Int) (w':World) (hb:Below w.heap.size w w')=>of_ck d b u w' (h.step hb)
 obtain ⟨v,hv⟩:∃ v,v=((d.M n0).1.1==54&&sigB d.T (ixn (nums (d.M n0).1.2.2.2) 1) ty ((nums al1).map (ofT d.g.M))):=⟨_,rfl⟩;rw [show ((d.g.M n0).1==54&&sigB d.T (ixn (nums (d.g.M n0).2.2.2) 1) ty ((nums al1).map (ofT d.g.M)))=v from hv.symm]
 have HR:=Lib.hid hr1;have hb:=(Below.refl w.heap.size w).alloc (Nat.le_refl _) (.cells #[.int .u16 op,.int .u32 ty,.int .u32 res,.slice (some ⟨ab,ao,none⟩) n c] 42);have kB:=Blk.new w 42 #[.int .u16 op,.int .u32 ty,.int .u32 res,.slice (some ⟨ab,ao,none⟩) n c];have hs1:(w.alloc (.cells #[.int .u16 op,.int .u32 ty,.int .u32 res,.slice (some ⟨ab,ao,none⟩) n c] 42)).heap.size=w.heap.size+1:=by simp
 have hC1:=h.step hb;have hl0:=hC1.mad.look n0;have hl2:=(hC1.step (Below.refl _ _).drew).mad.look n0;have hlA:=fun o=>(hC1.step ((Below.refl (w.alloc (.cells #[.int .u16 op,.int .u32 ty,.int .u32 res,.slice (some ⟨ab,ao,none⟩) n c] 42)).heap.size _).alloc (Nat.le_refl _) o).drew).mad.look n0
 have hMy:=hM n0;have hMk:=hC1.mad.ok n0;have g3:=cell_alloc_c (.cells #[.int .u16 op,.int .u32 ty,.int .u32 res,.slice (some ⟨ab,ao,none⟩) n c] 42) c3;have g1:=cell_alloc_c (.cells #[.int .u16 op,.int .u32 ty,.int .u32 res,.slice (some ⟨ab,ao,none⟩) n c] 42) a0;obtain ⟨z0,z1,z2,z3⟩:=four_ kB;have p3:=fun o=>cell_alloc_c o g3
 have p1:=fun o=>cell_alloc_c o g1
 have p9:=fun o=>cell_alloc_c o z3
 have HV:=Lib.hid hv;have HC:=Lib.hid h;clear hv;generalize d.M n0=x at *;obtain ⟨⟨xop,xty,xres,xal⟩,xA,xn,xc⟩:=x;unfold instC at hl0 hl2 hlA;dsimp only at hl0 hl2 hlA hMk HV;clear h hx hr hr1 hac hal1 hM c0 c1 c2 c3 c4 f0 a0 g0 hC1 hm;go_enter Tryz.func91,Tryz.ntmps91;go_wp2_with fail;generalize (w.alloc (.cells #[.int .u16 op,.int .u32 ty,.int .u32 res,.slice (some ⟨ab,ao,none⟩) n c] 42))=W at *;have kX:=(Blk.new W 42 #[.int .u16 xop,.int .u32 xty,.int .u32 xres,.slice xA xn xc]).drew;have kBX:=(kB.alloc (.cells #[.int .u16 xop,.int .u32 xty,.int .u32 xres,.slice xA xn xc] 42)).drew;have hb9:=(hb.alloc (by omega) (.cells #[.int .u16 xop,.int .u32 xty,.int .u32 xres,.slice xA xn xc] 42)).drew
 have hsX:((W.alloc (.cells #[.int .u16 xop,.int .u32 xty,.int .u32 xres,.slice xA xn xc] 42)).drew).heap.size=w.heap.size+2:=by
  show (W.alloc _).heap.size=_
  rw [World.size_alloc,hs1]
 have hMr:=hMk.reads.below (((Below.refl W.heap.size W).alloc (Nat.le_refl _) (.cells #[.int .u16 xop,.int .u32 xty,.int .u32 xres,.slice xA xn xc] 42)).drew);dsimp only at hMr;rw [hs1] at kX;go_region
 all_goals
  clear hl0 hl2 hlA p1 p3 p9 g1 g3 z0 z1 z2 z3 kB hb hMk;generalize (W.alloc (.cells #[.int .u16 xop,.int .u32 xty,.int .u32 xres,.slice xA xn xc] 42)).drew=W9 at *
  (try rw [hs1])
  rw [hs1] at hMr;clear hs1;obtain ⟨v0,v1,v2,v3⟩:=four_ kX;obtain ⟨z0,z1,z2,z3⟩:=four_ kBX;have HV0:Hid (v=(xop==54&&sigB d.T (ixn (nums xal) 1) ty ([]++((nums al1).drop 0).map (ofT d.g.M)))):=HV;go_wp2_with fail;go_loopg [6,23] m (fun r t i wr=>∃ (j:Nat) (Ap:Option Addr) (cp:Nat) (xs:List Int),j+r=m∧t=.slice Ap j cp∧i=.int .i64 (j:Nat)∧xs.length=j∧Hid (v=(xop==54&&sigB d.T (ixn (nums xal) 1) ty (xs++((nums al1).drop j).map (ofT d.g.M))))∧wr.ownsRow (w.heap.size+2) 22 1 (.slice Ap j cp) j (Ints .u32 xs)∧Below (w.heap.size+2) W9 wr)
  case atStart=>exact ⟨0,none,0,[],by omega,rfl,rfl,rfl,HV0,World.ownsRow_nil _ _ _ _,Below.refl _ _⟩
  case round =>
   obtain ⟨j,Ap,cp,xs,hjq,rfl,rfl,hxl,HK,ho,hbr⟩:=hrel;have hwr:Below w.heap.size w wr:=hb9.trans (hbr.mono (by omega))
   have hszr:w.heap.size+2≤wr.heap.size:=by have:=hbr.size;omega
   clear HV0 v0 v1 v2 v3 z0 z1 z2 z3
   by_cases hlt:j<m
   ·obtain ⟨qb,qo,rfl,hqb,hac⟩:=HR.out.args (by omega)
    obtain ⟨a0,a1,a2⟩:=hac j hlt;have a0:=(hwr.cell (p:=⟨qb,qo+j*3,none⟩) hqb).trans a0;have a1:=(hwr.cell (p:=⟨qb,qo+j*3+1,none⟩) hqb).trans a1;have a2:=(hwr.cell (p:=⟨qb,qo+j*3+2,none⟩) hqb).trans a2;have hE:=HK.out;rw [nums_drop (by omega),List.map_cons] at hE
    have HE:=Lib.hid hE;clear hE hac HK;generalize ag al1 j=y at *;obtain ⟨y1,y2,y3⟩:=y;dsimp only at a0 a1 a2 HE;have HV1:Hid (v=(xop==54&&sigB d.T (ixn (nums xal) 1) ty ((xs++[ofT d.g.M y2])++((nums al1).drop (j+1)).map (ofT d.g.M)))):=Lib.hid (by rw [HE.out,List.append_assoc];rfl)
    have d1:decide (((j:Nat):Int)<(m:Nat))=true:=by rw [decide_eq_true_eq];omega
    have hi1:((j:Nat):Int)<(m:Nat):=by omega
    obtain ⟨s0,s1,s2⟩:=three_ (Blk.new wr 44 #[.int .u8 y1,.int .u32 y2,.string y3]);have hba:=(Below.refl wr.heap.size wr).alloc (Nat.le_refl _) (.cells #[.int .u8 y1,.int .u32 y2,.string y3] 44);have hby:=hbr.alloc hszr (.cells #[.int .u8 y1,.int .u32 y2,.string y3] 44);have hwy:=below_cut hwr hba (Nat.le_refl _);have hoy:=own_below ho hba;clear HE hba ho hbr hwr;go_wp2_with (first
     | (go_at_call 26;refine (hof _ _ hwy).mono ?_;rintro e w2 ⟨rfl,hb2⟩;have ho2:=own_below hoy hb2;have hB2:=hby.trans (hb2.mono (by rw [World.size_alloc];omega));have hs2:w.heap.size+2≤w2.heap.size:=by { have h9:=hb2.size;rw [World.size_alloc] at h9;omega })
     | (at_builtin;go_loud (refine ap_one sl32 _ rfl _ _ rfl (w.heap.size+2) _ _ _ rfl ho2 _ _ rfl rfl (by omega) (by omega) hs2 ?_;intro v' w3 ho3 hgr3 _;obtain ⟨A3,c3,rfl⟩:=own_shape ho3;have HO:=Lib.hid ho3;have hb3:=(hB2.alloc hs2 (.cells #[.int .u32 _] 22)).grown hgr3 (by rw [World.size_alloc];omega) (fun g e=>(ho2.lt g e).1);clear ho3 hgr3)))
    go_roundg (m-(j+1))
    case measure=>omega
    case rel=>exact ⟨j+1,A3,c3,xs++[ofT d.g.M y2],by omega,rfl,by go_num,by rw [List.length_append,hxl];rfl,HV1,by rw [Ints_append];exact HO.out,hb3⟩
   ·obtain rfl:gk=0:=by omega
    obtain rfl:j=m:=by omega
    have d1:decide (((j:Nat):Int)<(j:Nat))=false:=by rw [decide_eq_false_iff_not];omega
    have HV1:Hid (v=(xop==54&&sigB d.T (ixn (nums xal) 1) ty xs)):=Lib.hid (by rw [HK.out,List.drop_of_length_le (by rw [nums_len];omega),List.map_nil,List.append_nil])
    obtain ⟨v0,v1,v2,v3⟩:=four_ (kX.below hbr (by omega))
    obtain ⟨z0,z1,z2,z3⟩:=four_ (kBX.below hbr (by omega))
    have HB9:=Lib.hid hwr
    by_cases h54:xop=54
    ·subst h54;have hxl2:2≤xal.length:=by
      have:=hMy.least;unfold argN at this;rw [if_neg (by dsimp only;omega),if_pos (by dsimp only;omega)] at this
      exact this
     have hMr9:=hMr.below (hbr.mono (by omega:w.heap.size+1≤w.heap.size+2))
     have hMl:=hMr9.args_len;obtain ⟨xb,xo,rfl,hxb,hxc⟩:=hMr9.args (by omega)
     have x1:wr.cell? ⟨xb,xo+4,none⟩=some (.int .u32 (ag xal 1).2.1):=(hxc 1 (by omega)).2.1
     have hV2:v=sigB d.T (ag xal 1).2.1 ty xs:=by
      rw [HV1.out,show ixn (nums xal) 1=(ag xal 1).2.1 from nums_getD (by omega)]
      rfl
     generalize (ag xal 1).2.1=F at *;have ix1:(1:Int)<(xn:Nat):=by omega
     have jx1:1<xn:=by omega
     have HV2:=Lib.hid hV2;have hsg:=fun (w':World) (hb:Below wr.heap.size wr w')=>signature_ck d b F ty Ap j cp xs w' (HC.out.step (below_cut HB9.out hb (Nat.le_refl _))) (((Reads.of_own ho).below hb).more hb.size) (by omega)
     rw [← HV2.out] at hsg;have hX:Cx wr [(⟨w.heap.size+1,0,none⟩,.int .u16 54),(⟨w.heap.size+1,3,none⟩,.slice (some ⟨xb,xo,none⟩) xn xc),(⟨xb,xo+4,none⟩,.int .u32 F),(⟨w.heap.size,1,none⟩,.int .u32 ty)] wr:=⟨⟨v0,v3,x1,z1,trivial⟩,Below.refl _ _⟩;have hc:=hX.1;simp only [cellsAt] at hc;clear hV2 HV1 hxc x1 hMr9 ho hbr hwr v0 v1 v2 v3 z0 z1 z2 z3 HK;go_wp2_with fail;clear hc;refine wp_region_cx (by kernel_rfl) (by kernel_rfl) hX ?_
     repeat' first | go_big_quiet_skip | (go_big_quiet_want;apply Exists.intro;refine ⟨fun w' hw'=>?_,?_⟩;(have hc:=hw'.1;simp only [cellsAt] at hc;go_simp;first | done | with_reducible rfl | (go_at_call 59;exact (hsg _ hw'.2).mono fun e w2 h2=>⟨h2.1,hw'.call h2.2⟩));go_big_quiet_on;(try simp only [Act.put,List.setIfInBounds_toArray,List.set_cons_zero,List.set_cons_succ]))
     all_goals
      refine wpQuiet_nil ?_;intro w9 hw9;have HB:=Lib.hid hw9.2;clear hw9 hX;go_wp2_with fail;go_ret
      exact ⟨rfl,below_cut HB9.out HB.out (Nat.le_refl _)⟩
    ·have e54:(xop==54)=false:=by simpa using h54
     have HF:Hid (v=false):=Lib.hid (by rw [HV1.out,e54];rfl)
     have hX:Cx wr [(⟨w.heap.size+1,0,none⟩,.int .u16 xop)] wr:=⟨⟨v0,trivial⟩,Below.refl _ _⟩;have hc:=hX.1;simp only [cellsAt] at hc;clear HV1 ho hbr hwr v0 v1 v2 v3 z0 z1 z2 z3 HK;go_wp2_with fail;clear hc;refine wp_region_cx (by kernel_rfl) (by kernel_rfl) hX ?_
     repeat' first | go_big_quiet_skip | (go_big_quiet_want;apply Exists.intro;refine ⟨fun w' hw'=>?_,?_⟩;(have hc:=hw'.1;simp only [cellsAt] at hc;go_simp;first | done | with_reducible rfl);go_big_quiet_on;(try simp only [Act.put,List.setIfInBounds_toArray,List.set_cons_zero,List.set_cons_succ]))
     all_goals
      refine wpQuiet_nil ?_;intro w9 hw9;have HB:=Lib.hid hw9.2;clear hw9 hX;go_wp2_with fail;go_ret
      exact ⟨by rw [HF.out];rfl,below_cut HB9.out HB.out (Nat.le_refl _)⟩
end
section
open Go.RowKit
theorem Icells_drop (k:Nat):∀ l:List InstA,(Icells l).drop (k*4)=Icells (l.drop k):=by
 induction k with
 | zero=>intro l;rw [Nat.zero_mul,List.drop_zero,List.drop_zero]
 | succ k ih =>
  intro l;cases l with
  | nil=>simp [Icells]
  | cons a r =>
   rw [List.drop_succ_cons,← ih r,Nat.succ_mul,Nat.add_comm (k*4) 4]
   show List.drop (4+k*4) (Icells (a :: r))=_
   rw [← List.drop_drop];rfl
theorem parL_cons (x:InstA) (r:List InstA):parL ((x :: r).map (·.1))=if x.1.1=55 then x.1.2.1 :: parL (r.map (·.1)) else []:=rfl
theorem ig_drop {l:List InstA} {j:Nat} (h:j<l.length):l.drop j=ig l j :: l.drop (j+1):=by
 rw [ig_of h];exact List.drop_eq_getElem_cons h
theorem function_ck (d:CkD) (b:Int) (x:InstA) (k:Nat) (w:World) (h:CkS d b w) (hx:InstOk w w.heap.size x) (hn:2≤x.1.2.2.2.length) (hcap:d.n≤d.c) (hk:k<d.ls.length) :
  Calls Tryz.prog 37 #[.pointer (some ⟨d.gc,0,none⟩),.agg (instC x),.int .i64 (k:Nat)] w (BoolIs (sigB d.T (ixn (nums x.1.2.2.2) 1) x.1.2.1 (parL ((d.ls.map (·.1)).drop (k+1)))) w):=by
 obtain ⟨⟨op,ty,res,al⟩,A,n,c⟩:=x;have hlen:=hx.len;have hr:=hx.reads;have hl:=hr.args_len;dsimp only at hn hlen hr hl ⊢;unfold instC;dsimp only;obtain ⟨c0,c1,c2,c3,c4⟩:=h.cell;have hls:d.ls.length=d.n:=h.insts.reads.insts_len;have hdn:=h.insts.len;have hrI:=h.insts.reads;obtain ⟨ab,ao,rfl,hab,hac⟩:=hr.args (by omega)
 obtain ⟨-,a1,-⟩:=hac 1 (by omega)
 have a1:w.cell? ⟨ab,ao+4,none⟩=some (.int .u32 (ag al 1).2.1):=a1;have i1:(1:Int)<(n:Nat):=by omega
 have j1:1<n:=by omega
 rw [show ixn (nums al) 1=(ag al 1).2.1 from nums_getD (by omega)]
 generalize (ag al 1).2.1=n1 at *;obtain ⟨ib,io,hA,hib,-⟩:=hrI.insts (by omega)
 rw [hA] at c2 hrI;obtain ⟨m,hm⟩:∃ m,k+1=m:=⟨_,rfl⟩;have hw1:IntKind.i64.wrap (((k:Nat):Int)+1)=((m:Nat):Int):=by rw [IntWalk.i64_in _ (by omega)];omega
 have l1:((m:Nat):Int)≤(d.n:Nat):=by omega
 have l2:((m:Nat):Int)≤(d.c:Nat):=by omega
 have e9:(if m*4=0 then (⟨ib,io,none⟩:Addr) else ⟨ib,io+m*4,none⟩)=⟨ib,io+m*4,none⟩:=by
  split
  ·rename_i h9;rw [h9];rfl
  ·rfl
 obtain ⟨qm,hqm⟩:∃ vv,(if d.c=m then some ⟨ib,io,none⟩ else some ⟨ib,io+m*4,none⟩:Option Addr)=vv:=⟨_,rfl⟩
 have hr1:Reads w w.heap.size 4 qm (d.n-m) (Icells (d.ls.drop m)):=by
  have h9:=hrI.cut (k:=m) (cap:=d.c) (by omega) hcap
  rw [Icells_drop] at h9;simp only [Option.map_some,Addr.add] at h9;rw [e9] at h9;rw [← hqm];exact h9
 rw [hm,← List.map_drop];obtain ⟨R,hR⟩:∃ R,d.ls.drop m=R:=⟨_,rfl⟩;rw [hR] at hr1 ⊢;obtain ⟨q,hq⟩:∃ q,d.n-m=q:=⟨_,rfl⟩;rw [hq] at hr1;have hq1:((d.n:Nat):Int)-(m:Nat)=(q:Nat):=by omega
 have hqb:q≤7100000000000:=by omega
 have hRl:=hr1.insts_len;obtain ⟨v,hv⟩:∃ v,v=sigB d.T n1 ty (parL (R.map (·.1))):=⟨_,rfl⟩;rw [← hv];have HV:Hid (v=sigB d.T n1 ty ([]++parL ((R.drop 0).map (·.1)))):=Lib.hid hv;have HR:=Lib.hid hr1;have hb:=(Below.refl w.heap.size w).alloc (Nat.le_refl _) (.cells #[.int .u16 op,.int .u32 ty,.int .u32 res,.slice (some ⟨ab,ao,none⟩) n c] 42);have kB:=Blk.new w 42 #[.int .u16 op,.int .u32 ty,.int .u32 res,.slice (some ⟨ab,ao,none⟩) n c];have hC:=h.step hb;have hs1:(w.alloc (.cells #[.int .u16 op,.int .u32 ty,.int .u32 res,.slice (some ⟨ab,ao,none⟩) n c] 42)).heap.size=w.heap.size+1:=by simp
 have g2:=cell_alloc_c (.cells #[.int .u16 op,.int .u32 ty,.int .u32 res,.slice (some ⟨ab,ao,none⟩) n c] 42) c2;have HA1:=Lib.hid a1;have HC:=Lib.hid h;clear h hx hr hac hrI hR hA hib c0 c1 c3 c4 c2 hv hr1 a1 hm hC;go_enter Tryz.func37,Tryz.ntmps37;go_wp2_with fail;clear g2;go_loopg [7,18] q (fun r t i wr=>∃ (j:Nat) (Ap:Option Addr) (cp:Nat) (xs:List Int),j+r=q∧t=.slice Ap j cp∧i=.int .i64 (j:Nat)∧xs.length=j∧Hid (v=sigB d.T n1 ty (xs++parL ((R.drop j).map (·.1))))∧wr.ownsRow (w.heap.size+1) 22 1 (.slice Ap j cp) j (Ints .u32 xs)∧Blk wr w.heap.size 42 #[.int .u16 op,.int .u32 ty,.int .u32 res,.slice (some ⟨ab,ao,none⟩) n c]∧Below w.heap.size w wr∧w.heap.size+1≤wr.heap.size)
 case atStart=>exact ⟨0,none,0,[],by omega,rfl,rfl,rfl,HV,World.ownsRow_nil _ _ _ _,kB,hb,by rw [hs1];exact Nat.le_refl _⟩
 case round =>
  obtain ⟨j,Ap,cp,xs,hjq,rfl,rfl,hxl,HK,ho,kBr,hbr,hsr⟩:=hrel;clear HV kB hb hs1
  by_cases hlt:j<q
  ·obtain ⟨rb,ro,rfl,hrb,hrc⟩:=HR.out.insts (by omega)
   obtain ⟨r0,r1,r2,r3⟩:=hrc j hlt;have r0:=(hbr.cell (p:=⟨rb,ro+j*4,none⟩) hrb).trans r0;have r1:=(hbr.cell (p:=⟨rb,ro+j*4+1,none⟩) hrb).trans r1;have r2:=(hbr.cell (p:=⟨rb,ro+j*4+2,none⟩) hrb).trans r2;have r3:=(hbr.cell (p:=⟨rb,ro+j*4+3,none⟩) hrb).trans r3;have hE:=HK.out;rw [ig_drop (by omega:j<R.length),parL_cons] at hE
   have HE:=Lib.hid hE;clear hE hrc HK;generalize ig R j=y at *;obtain ⟨⟨yop,yty,yres,yal⟩,yA,yn,yc⟩:=y;dsimp only at r0 r1 r2 r3 HE;have d1:decide (((j:Nat):Int)<(q:Nat))=true:=by rw [decide_eq_true_eq];omega
   have hi1:((j:Nat):Int)<(q:Nat):=by omega
   obtain ⟨z0,z1,z2,z3⟩:=four_ (Blk.new wr 42 #[.int .u16 yop,.int .u32 yty,.int .u32 yres,.slice yA yn yc]);have hba:=(Below.refl wr.heap.size wr).alloc (Nat.le_refl _) (.cells #[.int .u16 yop,.int .u32 yty,.int .u32 yres,.slice yA yn yc] 42);have hby:=hbr.alloc hbr.size (.cells #[.int .u16 yop,.int .u32 yty,.int .u32 yres,.slice yA yn yc] 42);have hoy:=own_below ho hba;have kBy:=kBr.alloc (.cells #[.int .u16 yop,.int .u32 yty,.int .u32 yres,.slice yA yn yc] 42);have hsy:w.heap.size+1≤(wr.alloc (.cells #[.int .u16 yop,.int .u32 yty,.int .u32 yres,.slice yA yn yc] 42)).heap.size:=by rw [World.size_alloc];omega
   by_cases h55:yop=55
   ·subst h55;have HV1:Hid (v=sigB d.T n1 ty ((xs++[yty])++parL ((R.drop (j+1)).map (·.1)))):=Lib.hid (by rw [HE.out,if_pos rfl,List.append_assoc];rfl)
    clear HE hba ho kBr hbr;go_wp2_with (at_builtin;go_loud (refine ap_one sl32 _ rfl _ _ rfl (w.heap.size+1) _ _ _ rfl hoy _ _ rfl (by rw [World.size_alloc];rfl) (by omega) (by omega) hsy ?_;intro v' w3 ho3 hgr3 _;obtain ⟨A3,c3,rfl⟩:=own_shape ho3;have HO:=Lib.hid ho3;have k3:=(kBy.alloc (.cells #[.int .u32 yty] 22)).grown hgr3 (Ne.symm (own_ne_low hoy (by omega)));have hb3:=(hby.alloc hby.size (.cells #[.int .u32 yty] 22)).grown hgr3 (by have:=hby.size;rw [World.size_alloc];omega) (fun g e=>by have:=(hoy.lt g e).1;omega);have hs3:w.heap.size+1≤w3.heap.size:=by { have h9:=hgr3.size;rw [World.size_alloc] at h9;omega };clear ho3 hgr3))
    go_roundg (q-(j+1))
    case measure=>omega
    case rel=>exact ⟨j+1,A3,c3,xs++[yty],by omega,rfl,by go_num,by rw [List.length_append,hxl];rfl,HV1,by rw [Ints_append];exact HO.out,k3,hb3,hs3⟩
   ·have e55:(yop != 55)=true:=by simpa using h55
    have HV1:Hid (v=sigB d.T n1 ty xs):=Lib.hid (by rw [HE.out,if_neg h55,List.append_nil])
    clear HE hba ho kBr hbr;go_wp2_with fail;have hA1:=(hby.cell (p:=⟨ab,ao+4,none⟩) hab).trans HA1.out;obtain ⟨x0,x1,x2,x3⟩:=four_ kBy;have hX:Cx (wr.alloc (.cells #[.int .u16 yop,.int .u32 yty,.int .u32 yres,.slice yA yn yc] 42)) [(⟨w.heap.size,1,none⟩,.int .u32 ty),(⟨w.heap.size,3,none⟩,.slice (some ⟨ab,ao,none⟩) n c),(⟨ab,ao+4,none⟩,.int .u32 n1)] (wr.alloc (.cells #[.int .u16 yop,.int .u32 yty,.int .u32 yres,.slice yA yn yc] 42)):=⟨⟨x1,x3,hA1,trivial⟩,Below.refl _ _⟩;have hsg:=fun (w':World) (hb:Below (wr.alloc (.cells #[.int .u16 yop,.int .u32 yty,.int .u32 yres,.slice yA yn yc] 42)).heap.size (wr.alloc (.cells #[.int .u16 yop,.int .u32 yty,.int .u32 yres,.slice yA yn yc] 42)) w')=>signature_ck d b n1 ty Ap j cp xs w' (HC.out.step (below_cut hby hb (Nat.le_refl _))) (((Reads.of_own hoy).below hb).more hb.size) (by omega)
    rw [← HV1.out] at hsg;have HB9:=Lib.hid hby;have hc:=hX.1;simp only [cellsAt] at hc;clear kBy hby hoy x0 x1 x2 x3 hA1;clear hc;refine wp_region_cx (by kernel_rfl) (by kernel_rfl) hX ?_
    repeat' first | go_big_quiet_skip | (go_big_quiet_want;apply Exists.intro;refine ⟨fun w' hw'=>?_,?_⟩;(have hc:=hw'.1;simp only [cellsAt] at hc;go_simp;first | done | with_reducible rfl | (go_at_call 59;exact (hsg _ hw'.2).mono fun e w2 h2=>⟨h2.1,hw'.call h2.2⟩));go_big_quiet_on;(try simp only [Act.put,List.setIfInBounds_toArray,List.set_cons_zero,List.set_cons_succ]))
    all_goals
     refine wpQuiet_nil ?_;intro w9 hw9;have HB:=Lib.hid hw9.2;clear hw9 hX;go_wp2_with fail;go_ret
     exact ⟨rfl,below_cut HB9.out HB.out (Nat.le_refl _)⟩
  ·obtain rfl:gk=0:=by omega
   obtain rfl:j=q:=by omega
   have d1:decide (((j:Nat):Int)<(j:Nat))=false:=by rw [decide_eq_false_iff_not];omega
   have HV1:Hid (v=sigB d.T n1 ty xs):=Lib.hid (by rw [HK.out,List.drop_of_length_le (by omega)];rw [show (List.map (·.1) ([]:List InstA))=[] from rfl,show parL []=[] from rfl,List.append_nil])
   go_wp2_with fail;have hA1:=(hbr.cell (p:=⟨ab,ao+4,none⟩) hab).trans HA1.out;obtain ⟨x0,x1,x2,x3⟩:=four_ kBr;have hX:Cx wr [(⟨w.heap.size,1,none⟩,.int .u32 ty),(⟨w.heap.size,3,none⟩,.slice (some ⟨ab,ao,none⟩) n c),(⟨ab,ao+4,none⟩,.int .u32 n1)] wr:=⟨⟨x1,x3,hA1,trivial⟩,Below.refl _ _⟩;have hsg:=fun (w':World) (hb:Below wr.heap.size wr w')=>signature_ck d b n1 ty Ap j cp xs w' (HC.out.step (below_cut hbr hb (Nat.le_refl _))) (((Reads.of_own ho).below hb).more hb.size) (by omega)
   rw [← HV1.out] at hsg;have HB9:=Lib.hid hbr;have hc:=hX.1;simp only [cellsAt] at hc;clear kBr hbr ho x0 x1 x2 x3 hA1;clear hc;refine wp_region_cx (by kernel_rfl) (by kernel_rfl) hX ?_
   repeat' first | go_big_quiet_skip | (go_big_quiet_want;apply Exists.intro;refine ⟨fun w' hw'=>?_,?_⟩;(have hc:=hw'.1;simp only [cellsAt] at hc;go_simp;first | done | with_reducible rfl | (go_at_call 59;exact (hsg _ hw'.2).mono fun e w2 h2=>⟨h2.1,hw'.call h2.2⟩));go_big_quiet_on;(try simp only [Act.put,List.setIfInBounds_toArray,List.set_cons_zero,List.set_cons_succ]))
   all_goals
    refine wpQuiet_nil ?_;intro w9 hw9;have HB:=Lib.hid hw9.2;clear hw9 hX;go_wp2_with fail;go_ret
    exact ⟨rfl,below_cut HB9.out HB.out (Nat.le_refl _)⟩
end
section
open Go.RowKit
theorem InsT.n1 {x:InstA} (hi:InsT x) (h:x.1.1=43∨x.1.1=57∨x.1.1=59∨x.1.1=61∨x.1.1=65∨x.1.1=81∨x.1.1=83∨x.1.1=154∨x.1.1=155∨x.1.1=250∨x.1.1=251∨x.1.1=254):1≤x.1.2.2.2.length:=by
 have:=hi.least;unfold argN at this;rw [if_pos h] at this;exact this
theorem InsT.n2 {x:InstA} (hi:InsT x) (h:x.1.1=54∨x.1.1=62∨x.1.1=77∨x.1.1=79∨x.1.1=82∨(170≤x.1.1∧x.1.1≤179)∨(201≤x.1.1∧x.1.1≤203)):2≤x.1.2.2.2.length:=by
 have:=hi.least;unfold argN at this;rw [if_neg (by omega),if_pos h] at this
 exact this
theorem InsT.n3 {x:InstA} (hi:InsT x) (h:x.1.1=78∨x.1.1=169):3≤x.1.2.2.2.length:=by
 have:=hi.least;unfold argN at this;rw [if_neg (by omega),if_neg (by omega),if_pos h] at this
 exact this
def Quest (gc:Nat) (x:InstA) (w:World) (f:Value) (v:Bool):Prop:=(f=.nilFunc∧v=true) ∨
 ∃ fid:Nat,f=.func (.func fid) #[.pointer (some ⟨gc,0,none⟩)] #[]∧(∀ args w,(callFunc fid args).run Tryz.prog w=.ok (.enter fid args) w)∧Calls Tryz.prog fid #[.pointer (some ⟨gc,0,none⟩),.agg (instC x)] w (BoolIs v w)
theorem mem_is (d:CkD) (b:Int) (x:InstA) (w:World) (h:CkS d b w) (hx:InstOk w w.heap.size x) (hi:InsT x) (hM:∀ id,InsT (d.M id)) :
  Quest d.gc x w (memF d.gc x.1.1) (memB d.g x.1.1 x.1.2.1 (nums x.1.2.2.2)):=by
 obtain ⟨op,hop⟩:∃ op,op=x.1.1:=⟨_,rfl⟩;rw [← hop];unfold memF memB;dsimp only
 by_cases c:op=57
 ·rw [if_pos c,if_pos c];exact .inr ⟨91,rfl,by intro args w;kernel_rfl,call_ck d b x w h hx (hi.n1 (by omega)) hi.cap hM⟩
 rw [if_neg c,if_neg c];clear c
 by_cases c:op=59
 ·rw [if_pos c,if_pos c];exact .inr ⟨92,rfl,by intro args w;kernel_rfl,variable_ck d b x w h hx (hi.n1 (by omega))⟩
 rw [if_neg c,if_neg c];clear c
 by_cases c:op=61
 ·rw [if_pos c,if_pos c];exact .inr ⟨93,rfl,by intro args w;kernel_rfl,load_ck d b x w h hx (hi.n1 (by omega))⟩
 rw [if_neg c,if_neg c];clear c
 by_cases c:op=62
 ·rw [if_pos c,if_pos c];exact .inr ⟨94,rfl,by intro args w;kernel_rfl,store_ck d b x w h hx (hi.n2 (by omega))⟩
 rw [if_neg c,if_neg c];clear c
 by_cases c:op=65
 ·rw [if_pos c,if_pos c];exact .inr ⟨95,rfl,by intro args w;kernel_rfl,chain_ck d b x w h hx (hi.n1 (by omega)) hi.cap hM⟩
 rw [if_neg c,if_neg c];clear c
 by_cases c:op=77
 ·rw [if_pos c,if_pos c];exact .inr ⟨96,rfl,by intro args w;kernel_rfl,extractDynamic_ck d b x w h hx (hi.n2 (by omega))⟩
 rw [if_neg c,if_neg c];clear c
 by_cases c:op=78
 ·rw [if_pos c,if_pos c];exact .inr ⟨97,rfl,by intro args w;kernel_rfl,insertDynamic_ck d b x w h hx (hi.n3 (by omega))⟩
 rw [if_neg c,if_neg c];clear c
 by_cases c:op=79
 ·rw [if_pos c,if_pos c];exact .inr ⟨98,rfl,by intro args w;kernel_rfl,shuffle_ck d b x w h hx (hi.n2 (by omega)) hi.cap⟩
 rw [if_neg c,if_neg c];clear c
 by_cases c:op=80
 ·rw [if_pos c,if_pos c];exact .inr ⟨99,rfl,by intro args w;kernel_rfl,construct_ck d b x w h hx ⟩
 rw [if_neg c,if_neg c];clear c
 by_cases c:op=81
 ·rw [if_pos c,if_pos c];exact .inr ⟨100,rfl,by intro args w;kernel_rfl,extract_ck d b x w h hx (hi.n1 (by omega)) hi.u hi.cap⟩
 rw [if_neg c,if_neg c];clear c
 by_cases c:op=82
 ·rw [if_pos c,if_pos c];exact .inr ⟨101,rfl,by intro args w;kernel_rfl,insert_ck d b x w h hx (hi.n2 (by omega)) hi.u hi.cap⟩
 rw [if_neg c,if_neg c];clear c
 by_cases c:op=83
 ·rw [if_pos c,if_pos c];exact .inr ⟨102,rfl,by intro args w;kernel_rfl,copied_ck d b x w h hx (hi.n1 (by omega))⟩
 rw [if_neg c,if_neg c];clear c;exact .inl ⟨rfl,rfl⟩
theorem ask_is (d:CkD) (b:Int) (x:InstA) (w:World) (h:CkS d b w) (hx:InstOk w w.heap.size x) (hi:InsT x) (hM:∀ id,InsT (d.M id)) :
  Quest d.gc x w (askF d.gc x.1.1) (askB d.g x.1.1 x.1.2.1 (nums x.1.2.2.2) b):=by
 obtain ⟨op,hop⟩:∃ op,op=x.1.1:=⟨_,rfl⟩;rw [← hop];unfold askF askB;dsimp only;have hm:=mem_is d b x w h hx hi hM;rw [← hop] at hm
 by_cases c:149≤op∧op≤152
 ·rw [if_pos c,if_pos c];exact .inr ⟨60,rfl,by intro args w;kernel_rfl,pair_ck d b x w h hx (Nat.zero_le _)⟩
 rw [if_neg c,if_neg c];clear c
 by_cases c:op=154∨op=155
 ·rw [if_pos c,if_pos c];exact .inr ⟨61,rfl,by intro args w;kernel_rfl,all_ck d b x w h hx (hi.n1 (by omega))⟩
 rw [if_neg c,if_neg c];clear c
 by_cases c:164≤op∧op≤168
 ·rw [if_pos c,if_pos c];exact .inr ⟨62,rfl,by intro args w;kernel_rfl,logic_ck d b x w h hx (Nat.zero_le _)⟩
 rw [if_neg c,if_neg c];clear c
 by_cases c:op=169
 ·rw [if_pos c,if_pos c];exact .inr ⟨63,rfl,by intro args w;kernel_rfl,choice_ck d b x w h hx (hi.n3 (by omega))⟩
 rw [if_neg c,if_neg c];clear c
 by_cases c:170≤op∧op≤179
 ·rw [if_pos c,if_pos c];exact .inr ⟨64,rfl,by intro args w;kernel_rfl,compare_ck d b x w h hx (hi.n2 (by omega))⟩
 rw [if_neg c,if_neg c];clear c
 by_cases c:201≤op∧op≤203
 ·rw [if_pos c,if_pos c];exact .inr ⟨65,rfl,by intro args w;kernel_rfl,field_ck d b x w h hx (hi.n2 (by omega)) hi.cap⟩
 rw [if_neg c,if_neg c];clear c
 by_cases c:124≤op∧op≤205
 ·rw [if_pos c,if_pos c];exact .inr ⟨66,rfl,by intro args w;kernel_rfl,arithmetic_ck d b x w h hx (Nat.zero_le _)⟩
 rw [if_neg c,if_neg c];clear c
 by_cases c:op=245
 ·rw [if_pos c,if_pos c];exact .inr ⟨67,rfl,by intro args w;kernel_rfl,phi_ck d b x w h hx ⟩
 rw [if_neg c,if_neg c];clear c
 by_cases c:op=250
 ·rw [if_pos c,if_pos c];exact .inr ⟨68,rfl,by intro args w;kernel_rfl,conditional_ck d b x w h hx (hi.n1 (by omega))⟩
 rw [if_neg c,if_neg c];clear c
 by_cases c:op=251
 ·rw [if_pos c,if_pos c];exact .inr ⟨69,rfl,by intro args w;kernel_rfl,among_ck d b x w h hx (hi.n1 (by omega))⟩
 rw [if_neg c,if_neg c];clear c
 by_cases c:op=253
 ·rw [if_pos c,if_pos c];exact .inr ⟨70,rfl,by intro args w;kernel_rfl,leaves_ck d b x w h hx (Nat.zero_le _)⟩
 rw [if_neg c,if_neg c];clear c
 by_cases c:op=254
 ·rw [if_pos c,if_pos c];exact .inr ⟨71,rfl,by intro args w;kernel_rfl,gives_ck d b x w h hx (hi.n1 (by omega))⟩
 rw [if_neg c,if_neg c];clear c;exact hm
end
section
open Go.RowKit
theorem nilf_ne (w:World):(binOp .neq 92 .nilFunc .nilFunc).run Tryz.prog w=.ok (.bool false) w:=by kernel_rfl
theorem func_ne (fid:Nat) (v:Value) (w:World):(binOp .neq 92 (.func (.func fid) #[v] #[]) .nilFunc).run Tryz.prog w=.ok (.bool true) w:=by kernel_rfl
theorem fits_ck (d:CkD) (b:Int) (k:Nat) (w:World) (h:CkS d b w) (hT:CkT d) (hk:k<d.ls.length) :
  Calls Tryz.prog 20 #[.pointer (some ⟨d.gc,0,none⟩),.int .i64 (k:Nat)] w (BoolIs (fitT d.g (ig d.ls k).1 ((d.ls.map (·.1)).drop (k+1)) b) w):=by
 have hls:d.ls.length=d.n:=h.insts.reads.insts_len;obtain ⟨ib,io,hA,hib,hcc⟩:=h.insts.reads.insts (by omega)
 obtain ⟨a0,a1,a2,a3⟩:=hcc k (by omega)
 have hmem:=ig_mem (l:=d.ls) (k:=k) hk;have hx:=h.insts.ok _ hmem;have hi:=hT.ls _ hmem;have hcell:=h.cell.2.2.1;rw [hA] at hcell;have i1:((k:Nat):Int)<(d.n:Nat):=by omega
 have hfu:=fun (w':World) (hb:Below w.heap.size w w') (he:(ig d.ls k).1.1=54)=>function_ck d b (ig d.ls k) k w' (h.step hb) ((hx.keep hb).more hb.size) (hi.n2 (by omega)) hT.cap hk
 have hqu:=fun (w':World) (hb:Below w.heap.size w w')=>ask_is d b (ig d.ls k) w' (h.step hb) ((hx.keep hb).more hb.size) hi hT.M
 have has:=fun (w':World) (hb:Below w.heap.size w w')=>asked_ck (ig d.ls k) w' ((hx.keep hb).more hb.size) (fun e=>hi.n1 (by omega))
 have haf:=fun (w':World)=>asks_ck d.gc (ig d.ls k).1.1 w'
 clear hcc hmem hx hi hT;obtain ⟨r,hr⟩:∃ r,(d.ls.map (·.1)).drop (k+1)=r:=⟨_,rfl⟩;rw [hr] at hfu ⊢;have HL:=Lib.hid hls;clear hr hA hib hls;generalize ig d.ls k=x at *;obtain ⟨⟨op,ty,res,al⟩,A,n,c⟩:=x;unfold Quest at hqu;unfold instC at hfu hqu has;dsimp only at *;unfold fitT;have hb:=(Below.refl w.heap.size w).alloc (Nat.le_refl _) (.cells #[.int .u16 op,.int .u32 ty,.int .u32 res,.slice A n c] 42);have kB:=Blk.new w 42 #[.int .u16 op,.int .u32 ty,.int .u32 res,.slice A n c];obtain ⟨z0,z1,z2,z3⟩:=four_ kB;have has1:=has _ hb;clear has;cases ha:askedB (op,ty,res,al) with
 | false =>
  rw [ha] at has1;rw [if_pos rfl];clear hfu hqu haf ha h;go_enter Tryz.func20,Tryz.ntmps20;go_wp2_with (go_at_call 36;refine has1.mono ?_;rintro e w2 ⟨rfl,hb2⟩;have hb3:=below_cut hb hb2 (Nat.le_refl _))
  go_ret
  exact ⟨rfl,hb3⟩
 | true =>
  rw [ha] at has1;rw [if_neg (by decide)]
  by_cases h54:op=54
  ·subst h54;rw [if_pos rfl];have hfu1:=fun w' hb=>hfu w' hb rfl
   rw [show sigB d.g.T (ixn (nums al) 1) ty (parL r)=sigB d.T (ixn (nums al) 1) ty (parL r) from rfl]
   generalize sigB d.T (ixn (nums al) 1) ty (parL r)=v at *;clear hfu hqu haf ha h;go_enter Tryz.func20,Tryz.ntmps20;go_wp2_with (first | (go_at_call 36;refine has1.mono ?_;rintro e w2 ⟨rfl,hb2⟩;have hb3:=below_cut hb hb2 (Nat.le_refl _);obtain ⟨y0,y1,y2,y3⟩:=four_ (kB.step hb2)) | (go_at_call 37;refine (hfu1 _ hb3).mono ?_;rintro e w3 ⟨rfl,hb4⟩;have hb5:=below_cut hb3 hb4 (Nat.le_refl _)))
   go_ret
   exact ⟨rfl,hb5⟩
  ·rw [if_neg h54];have e54:(op==54)=false:=by simpa using h54
   generalize askB d.g op ty (nums al) b=v at *;have hn1:=nilf_ne;have hn2:=func_ne;obtain ⟨f,hf⟩:∃ f,askF d.gc op=f:=⟨_,rfl⟩;rw [hf] at hqu haf;have hq0:=hqu w (Below.refl _ _)
   rcases hq0 with ⟨rfl,rfl⟩ | ⟨fid,rfl,hcf,-⟩
   ·clear hfu hqu ha h hf;go_enter Tryz.func20,Tryz.ntmps20;go_wp2_with (first | (go_at_call 36;refine has1.mono ?_;rintro e w2 ⟨rfl,hb2⟩;have hb3:=below_cut hb hb2 (Nat.le_refl _);obtain ⟨y0,y1,y2,y3⟩:=four_ (kB.step hb2)) | (go_at_call 38;refine (haf _).mono ?_;rintro e w3 ⟨rfl,hb4⟩;have hb5:=below_cut hb3 hb4 (Nat.le_refl _)))
    go_ret
    exact ⟨rfl,hb5⟩
   ·have hqu2:=fun w' hb=>(hqu w' hb).elim (fun h=>absurd h.1 (by simp)) (fun ⟨fid',e,_,hc⟩=>show Calls Tryz.prog fid #[.pointer (some ⟨d.gc,0,none⟩),.agg #[.int .u16 op,.int .u32 ty,.int .u32 res,.slice A n c]] w' (BoolIs v w') by { cases e;exact hc })
    clear hfu hqu ha h hf;go_enter Tryz.func20,Tryz.ntmps20;go_wp2_with (first | (go_at_call 36;refine has1.mono ?_;rintro e w2 ⟨rfl,hb2⟩;have hb3:=below_cut hb hb2 (Nat.le_refl _);have kB2:=kB.step hb2;obtain ⟨y0,y1,y2,y3⟩:=four_ kB2) | (go_at_call 38;refine (haf _).mono ?_;rintro e w3 ⟨rfl,hb4⟩;have hb5:=below_cut hb3 hb4 (Nat.le_refl _);obtain ⟨x0,x1,x2,x3⟩:=four_ (kB2.step hb4)) | (refine (hqu2 _ hb5).mono ?_;rintro e w4 ⟨rfl,hb6⟩;have hb7:=below_cut hb5 hb6 (Nat.le_refl _)))
    go_ret
    exact ⟨rfl,hb7⟩
end
end Go.Proofs.YtdebjkiilnhgpaaGreatDoor
