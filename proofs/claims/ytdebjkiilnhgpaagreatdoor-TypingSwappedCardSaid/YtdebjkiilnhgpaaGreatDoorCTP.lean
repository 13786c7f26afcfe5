/- Walks: array. -/
import Derived.Test.YtdebjkiilnhgpaaGreatDoorCTO
import Derived.Test.YtdebjkiilnhgpaaGreatDoorCTI
import Derived.Lib.MinMax
set_option maxRecDepth 100000
set_option maxHeartbeats 4000000
namespace Go.Proofs.YtdebjkiilnhgpaaGreatDoor
section
open Go.RowKit
def inst0:InstA:=((0,0,0,[]),none,0,0)
theorem zero_inst (w:World):(zeroValue 42).run Tryz.prog w=.ok (.agg (instC inst0)) w:=by kernel_rfl
structure MadM (w:World) (B bd:Nat) (M:Int→InstA):Prop where
 mp:∃ (cnt:Nat) (has:Int→Bool),MapU w bd cnt (fun id=>if has id=true then some (.agg (instC (M id))) else none)∧∀ id,has id=false→M id=inst0
 ok:∀ id,InstOk w B (M id)
 one:∀ id,(M id).1.1=43→0<(M id).1.2.2.2.length
section
variable {w w':World} {B bd:Nat} {M:Int→InstA}
theorem MadM.look (h:MadM w B bd M) (id:Int):(Instr.lookup 59 (.map (some bd)) (.int .u32 id) false).run Tryz.prog w=.ok (.agg (instC (M id))) w:=by
 obtain ⟨cnt,has,hm,h0⟩:=h.mp;have:=hm.look (P:=Tryz.prog) Tryz.underlying59 Tryz.underlying22 (zero_inst w) id false;rw [this];simp only [Bool.false_eq_true,if_false];cases hh:has id with
 | true=>simp
 | false=>rw [h0 id hh];simp
theorem MadM.lt (h:MadM w B bd M):bd<w.heap.size:=by obtain ⟨cnt,has,hm,-⟩:=h.mp;exact hm.lt
theorem MadM.same (h:MadM w B bd M) (hm:w'.heap[bd]?=w.heap[bd]?) (hr:∀ p:Addr,p.block<B→w'.cell? p=w.cell? p):MadM w' B bd M:=by
 obtain ⟨cnt,has,h1,h2⟩:=h.mp;exact ⟨⟨cnt,has,h1.same hm,h2⟩,fun id=>⟨(h.ok id).reads.keep hr,(h.ok id).len,(h.ok id).kinds,(h.ok id).text⟩,h.one⟩
theorem MadM.alloc (h:MadM w B bd M) (hB:B≤w.heap.size) (o:Obj):MadM (w.alloc o) B bd M:=h.same (Below.heap_alloc _ _ _ h.lt) (fun p hp=>World.cell?_alloc_lt w o p (by omega))
end
theorem array_any (gk gt bm bd B:Nat) (T:Int→TyI) (S:Int→SlI) (M:Int→InstA) (part length:Int) (w:World) (hk0:w.cell? ⟨gk,0,none⟩=some (.pointer (some ⟨gt,0,none⟩))) (hk1:w.cell? ⟨gk,1,none⟩=some (.map (some bd)))
  (hg:w.cell? ⟨gt,0,none⟩=some (.map (some bm))) (hT:TabM w B bm T S) (hD:MadM w B bd M) (hB:B≤w.heap.size) (hN:∀ id,0≤firstN (M id).1∧firstN (M id).1<4294967296) :
  Calls Tryz.prog 52 #[.pointer (some ⟨gk,0,none⟩),.int .u32 part,.int .u32 length] w fun e w' =>
   e=.returned (.tuple #[.agg (tyV (arrayT T (fun id=>(M id).1) part length).1 sl0),.int .i64 (arrayT T (fun id=>(M id).1) part length).2])∧Below w.heap.size w w':=by
 obtain ⟨v,hv⟩:∃ v,v=arrayT T (fun id=>(M id).1) part length:=⟨_,rfl⟩
 rw [← hv];replace hv:v=arrayC (T part) T (M length).1 part:=hv
 have a1:=hT.alloc hB (.cells (tyV ty0 sl0) 89);have hl:=a1.look part;have hdp:=hT.depth part;have hsp:=hT.size part;have hgtl:gt<w.heap.size:=World.block_lt_of_cell? w _ hg;have hgkl:gk<w.heap.size:=World.block_lt_of_cell? w _ hk0;have u0:=(World.cell?_alloc_lt w (.cells (tyV ty0 sl0) 89) ⟨gk,0,none⟩ hgkl).trans hk0;have u2:=(World.cell?_alloc_lt w (.cells (tyV ty0 sl0) 89) ⟨gt,0,none⟩ hgtl).trans hg;have hd1:=hD.alloc hB (.cells (tyV ty0 sl0) 89);have hb1:=(Below.refl w.heap.size w).alloc (Nat.le_refl _) (.cells (tyV ty0 sl0) 89);have k1:=Blk.new w 89 (tyV ty0 sl0);have u1:=(hb1.cell (p:=⟨gk,1,none⟩) hgkl).trans hk1;have hs1:(w.alloc (.cells (tyV ty0 sl0) 89)).heap.size=w.heap.size+1:=by simp
 generalize hx:T part=x at *;generalize hsx:S part=s at *;obtain ⟨x1,x2,x3,x4,x5,x6,x7,x8⟩:=x;obtain ⟨sA,sn,sc⟩:=s;dsimp only at *;have HV:=Lib.hid hv;have HX:=Lib.hid hx;clear hv hx hsx
 by_cases h0:x2=0
 ·have d0:(x2==0)=true:=by rw [h0];rfl
  have hv1:v=(ty0,100):=by rw [HV.out];exact if_pos h0
  have HV1:=Lib.hid hv1;have kR:=k1.alloc (.cells (tyV ⟨x1,x2,x3,x4,x5,x6,x7,x8⟩ (sA,sn,sc)) 89);have hb2:=hb1.alloc hb1.size (.cells (tyV ⟨x1,x2,x3,x4,x5,x6,x7,x8⟩ (sA,sn,sc)) 89);clear hv1 h0;unfold tyV ty0 sl0 at hl u0 u1 u2;go_enter Tryz.func52,Tryz.ntmps52;go_wp2_with fail;exact bodyPost_ret (ty_end (y:=ty0) (s:=sl0) rfl _ rfl rfl kR) rfl ⟨by rw [HV1.out],hb2⟩
 ·have d0:(x2==0)=false:=by simpa using h0
  have hv1:=HV.out;have hb2:=hb1.alloc hb1.size (.cells (tyV ⟨x1,x2,x3,x4,x5,x6,x7,x8⟩ (sA,sn,sc)) 89);have hB1:B≤(w.alloc (.cells (tyV ty0 sl0) 89)).heap.size:=by rw [hs1];omega
  have a2:=a1.alloc hB1 (.cells (tyV ⟨x1,x2,x3,x4,x5,x6,x7,x8⟩ (sA,sn,sc)) 89);have hd2:=hd1.alloc hB1 (.cells (tyV ⟨x1,x2,x3,x4,x5,x6,x7,x8⟩ (sA,sn,sc)) 89);have hlm:=hd2.look length;have hs2:((w.alloc (.cells (tyV ty0 sl0) 89)).alloc (.cells (tyV ⟨x1,x2,x3,x4,x5,x6,x7,x8⟩ (sA,sn,sc)) 89)).heap.size=w.heap.size+1+1:=by simp
  have v0:=(World.cell?_alloc_lt (w.alloc (.cells (tyV ty0 sl0) 89)) (.cells (tyV ⟨x1,x2,x3,x4,x5,x6,x7,x8⟩ (sA,sn,sc)) 89) ⟨gk,0,none⟩ (by rw [hs1];simp;omega)).trans u0
  have v1:=(World.cell?_alloc_lt (w.alloc (.cells (tyV ty0 sl0) 89)) (.cells (tyV ⟨x1,x2,x3,x4,x5,x6,x7,x8⟩ (sA,sn,sc)) 89) ⟨gk,1,none⟩ (by rw [hs1];simp;omega)).trans u1
  have v2:=(World.cell?_alloc_lt (w.alloc (.cells (tyV ty0 sl0) 89)) (.cells (tyV ⟨x1,x2,x3,x4,x5,x6,x7,x8⟩ (sA,sn,sc)) 89) ⟨gt,0,none⟩ (by rw [hs1];simp;omega)).trans u2
  have kR2:=k1.alloc (.cells (tyV ⟨x1,x2,x3,x4,x5,x6,x7,x8⟩ (sA,sn,sc)) 89);have kP2:=Blk.new (w.alloc (.cells (tyV ty0 sl0) 89)) 89 (tyV ⟨x1,x2,x3,x4,x5,x6,x7,x8⟩ (sA,sn,sc));rw [hs1] at kP2;have hnc:=hN length;have hone:=hD.one length;have hB2:B≤((w.alloc (.cells (tyV ty0 sl0) 89)).alloc (.cells (tyV ⟨x1,x2,x3,x4,x5,x6,x7,x8⟩ (sA,sn,sc)) 89)).heap.size:=by rw [hs2];omega
  have hokc:=hd2.ok length;clear k1 hb1 hd1 a1 HV;obtain ⟨mc,hmc⟩:∃ mc,mc=M length:=⟨_,rfl⟩;rw [← hmc] at hlm hnc hone hokc hv1;clear hmc;obtain ⟨⟨cop,cty,cres,cal⟩,cA,cn,cc⟩:=mc;unfold instC at hlm;unfold arrayC at hv1;rw [if_neg h0] at hv1;unfold firstN at hv1 hnc;dsimp only at *;have hb3:=hb2.alloc hb2.size (.cells #[.int .u16 cop,.int .u32 cty,.int .u32 cres,.slice cA cn cc] 42);have a3:=a2.alloc hB2 (.cells #[.int .u16 cop,.int .u32 cty,.int .u32 cres,.slice cA cn cc] 42);have kR3:=kR2.alloc (.cells #[.int .u16 cop,.int .u32 cty,.int .u32 cres,.slice cA cn cc] 42);have kP3:=kP2.alloc (.cells #[.int .u16 cop,.int .u32 cty,.int .u32 cres,.slice cA cn cc] 42);have kC3:=Blk.new ((w.alloc (.cells (tyV ty0 sl0) 89)).alloc (.cells (tyV ⟨x1,x2,x3,x4,x5,x6,x7,x8⟩ (sA,sn,sc)) 89)) 42 #[.int .u16 cop,.int .u32 cty,.int .u32 cres,.slice cA cn cc];rw [hs2] at kC3;have w0:=(World.cell?_alloc_lt ((w.alloc (.cells (tyV ty0 sl0) 89)).alloc (.cells (tyV ⟨x1,x2,x3,x4,x5,x6,x7,x8⟩ (sA,sn,sc)) 89)) (.cells #[.int .u16 cop,.int .u32 cty,.int .u32 cres,.slice cA cn cc] 42) ⟨gk,0,none⟩ (by rw [hs2];simp;omega)).trans v0
  have w2':=(World.cell?_alloc_lt ((w.alloc (.cells (tyV ty0 sl0) 89)).alloc (.cells (tyV ⟨x1,x2,x3,x4,x5,x6,x7,x8⟩ (sA,sn,sc)) 89)) (.cells #[.int .u16 cop,.int .u32 cty,.int .u32 cres,.slice cA cn cc] 42) ⟨gt,0,none⟩ (by rw [hs2];simp;omega)).trans v2
  have hrc:=hokc.reads.alloc hB2 (.cells #[.int .u16 cop,.int .u32 cty,.int .u32 cres,.slice cA cn cc] 42);have hlc:=hokc.reads.args_len;have hlt:=fun n=>(show TabM ((((w.alloc (.cells (tyV ty0 sl0) 89)).alloc (.cells (tyV ⟨x1,x2,x3,x4,x5,x6,x7,x8⟩ (sA,sn,sc)) 89)).alloc (.cells #[.int .u16 cop,.int .u32 cty,.int .u32 cres,.slice cA cn cc] 42)).drewN n) B bm T S from a3.same rfl (fun _ _=>rfl)).look cty
  have f1:=field_facts;have f2:=field_kind;dsimp only at hrc hlc;have HVv:=Lib.hid hv1;clear hv1 kR2 kP2 hd2 a2 a3 hb2 hokc h0
  by_cases ho:cop=43
  ·have hl0:=hone ho;have d1:(cop != 43)=false:=by rw [ho];rfl
   obtain ⟨b,off,rfl,hbb,hcc⟩:=hrc.args (by omega)
   obtain ⟨c0,c1,c2⟩:=hcc 0 (by omega)
   simp only [Nat.zero_mul,Nat.add_zero] at c0 c1 c2;have hcn:(0:Int)<(cn:Nat):=by omega
   clear hcc;generalize (ag cal 0).2.1=N at *;generalize hty:T cty=y at *;obtain ⟨y1,y2,y3,y4,y5,y6,y7,y8⟩:=y;dsimp only at HVv hlt
   by_cases h3:y1=3
   ·have d3:(y1 != 3)=false:=by rw [h3];rfl
    by_cases h1:N<1
    ·have d4:decide (N<1)=true:=by simpa using h1
     have hv2:v=(ty0,102):=by rw [HVv.out,if_pos (.inr (.inr (.inl h1)))]
     have HV1:=Lib.hid hv2;clear hv2 ho h3 h1 hty;unfold tyV ty0 sl0 at hl u0 u1 u2 v0 v1 v2 hlm kR3 hb3 kC3 hlt w0 w2' c0 c1 c2 kP3;go_enter Tryz.func52,Tryz.ntmps52;go_wp2_with fail;obtain ⟨g0,g1,g2,g3⟩:=four_ kC3;obtain ⟨p0,p1,p2,p3,p4,p5,p6,p7⟩:=ty8_ kP3;go_quiet (fail)
     go_wp2_with fail;have kq:=kR3.drewN nq;have hq:=below_drewN hb3 nq;exact bodyPost_ret (ty_end (y:=ty0) (s:=sl0) rfl _ rfl rfl (tyV_put kq ty0 sl0)) rfl ⟨by rw [HV1.out],ty_below hq (Nat.le_refl _) ty0 sl0⟩
    ·have d4:decide (N<1)=false:=by simpa using h1
     by_cases h4:4096<N
     ·have d5:decide (4096<N)=true:=by simpa using h4
      have hv2:v=(ty0,102):=by rw [HVv.out,if_pos (.inr (.inr (.inr h4)))]
      have HV1:=Lib.hid hv2;clear hv2 ho h3 h1 h4 hty;unfold tyV ty0 sl0 at hl u0 u1 u2 v0 v1 v2 hlm kR3 hb3 kC3 hlt w0 w2' c0 c1 c2 kP3;go_enter Tryz.func52,Tryz.ntmps52;go_wp2_with fail;obtain ⟨g0,g1,g2,g3⟩:=four_ kC3;obtain ⟨p0,p1,p2,p3,p4,p5,p6,p7⟩:=ty8_ kP3;go_quiet (fail)
      go_wp2_with fail;have kq:=kR3.drewN nq;have hq:=below_drewN hb3 nq;exact bodyPost_ret (ty_end (y:=ty0) (s:=sl0) rfl _ rfl rfl (tyV_put kq ty0 sl0)) rfl ⟨by rw [HV1.out],ty_below hq (Nat.le_refl _) ty0 sl0⟩
     ·have d5:decide (4096<N)=false:=by simpa using h4
      have hv2:=HVv.out;rw [if_neg (by rintro (h | h | h | h);exact h ho;exact h h3;exact h1 h;exact h4 h)] at hv2
      have hw1:IntKind.i64.wrap N=N:=IntWalk.i64_in _ (by omega)
      have hmul:0≤N*x2∧N*x2≤4096*4096:=⟨Int.mul_nonneg (by omega) hsp.1,Int.mul_le_mul (by omega) hsp.2 hsp.1 (by decide)⟩
      have hw2:IntKind.i64.wrap (N*x2)=N*x2:=IntWalk.i64_in _ (by omega)
      have hwh:=fun w=>whole_ty { ty0 with kind:=5,part:=part,times:=N } sl0 (N*x2) x3 w hdp
      have hsl:wholeS { ty0 with kind:=5,part:=part,times:=N } (N*x2) x3 sl0=sl0:=by unfold wholeS;split <;> rfl
      rw [hsl] at hwh;obtain ⟨r,hr⟩:∃ r,r=wholeT { ty0 with kind:=5,part:=part,times:=N } (N*x2) x3:=⟨_,rfl⟩
      rw [← hr] at hwh hv2;have HV1:=Lib.hid hv2;obtain ⟨y,er⟩:=r;dsimp only at hwh;unfold tyV ty0 sl0 at hwh;clear hv2 ho h3 h1 h4 hty hr hsl hmul;unfold tyV ty0 sl0 at hl u0 u1 u2 v0 v1 v2 hlm kR3 hb3 kC3 hlt w0 w2' c0 c1 c2 kP3;go_enter Tryz.func52,Tryz.ntmps52;go_wp2_with fail;obtain ⟨g0,g1,g2,g3⟩:=four_ kC3;obtain ⟨p0,p1,p2,p3,p4,p5,p6,p7⟩:=ty8_ kP3;go_quiet (fail)
      go_wp2_with fail;have kq:=kR3.drewN nq;have hq:=below_drewN hb3 nq;refine (hwh _).mono ?_;rintro e w3 ⟨rfl,hb5⟩;have kR5:=kq.step hb5;have hb6:=below_cut hq hb5 (Nat.le_refl _);obtain ⟨z0,z1,z2,z3,z4,z5,z6,z7⟩:=ty8_ kR5;have fz:=kR5.frozen;go_wp2_with fail;exact bodyPost_ret (ty_end (y:=y) (s:=sl0) rfl _ rfl rfl (tyV_put kR5 y sl0)) rfl ⟨by rw [HV1.out],ty_below hb6 (Nat.le_refl _) y sl0⟩
   ·have d3:(y1 != 3)=true:=by simpa using h3
    have hv2:v=(ty0,102):=by rw [HVv.out,if_pos (.inr (.inl h3))]
    have HV1:=Lib.hid hv2;clear hv2 ho h3 hty;unfold tyV ty0 sl0 at hl u0 u1 u2 v0 v1 v2 hlm kR3 hb3 kC3 hlt w0 w2' c0 c1 c2 kP3;go_enter Tryz.func52,Tryz.ntmps52;go_wp2_with fail;obtain ⟨g0,g1,g2,g3⟩:=four_ kC3;obtain ⟨p0,p1,p2,p3,p4,p5,p6,p7⟩:=ty8_ kP3;go_quiet (fail)
    go_wp2_with fail;have kq:=kR3.drewN nq;have hq:=below_drewN hb3 nq;exact bodyPost_ret (ty_end (y:=ty0) (s:=sl0) rfl _ rfl rfl (tyV_put kq ty0 sl0)) rfl ⟨by rw [HV1.out],ty_below hq (Nat.le_refl _) ty0 sl0⟩
  ·have d1:(cop != 43)=true:=by simpa using ho
   have hv2:v=(ty0,102):=by rw [HVv.out,if_pos (.inl ho)]
   have HV1:=Lib.hid hv2;clear hv2 ho;unfold tyV ty0 sl0 at hl u0 u1 u2 v0 v1 v2 hlm kR3 hb3 kC3 hlt w0 w2' hrc;go_enter Tryz.func52,Tryz.ntmps52;go_wp2_with fail;obtain ⟨g0,g1,g2,g3⟩:=four_ kC3;go_quiet (fail)
   go_wp2_with fail;have kq:=kR3.drewN nq;have hq:=below_drewN hb3 nq;exact bodyPost_ret (ty_end (y:=ty0) (s:=sl0) rfl _ rfl rfl (tyV_put kq ty0 sl0)) rfl ⟨by rw [HV1.out],ty_below hq (Nat.le_refl _) ty0 sl0⟩
end
section
open Go.RowKit
theorem memR_step {T:Int→TyI} {l:List Int} {k:Nat} {s d:Int} (h:k<l.length) (hp:0<(T (ix l k)).size) :
  memR T (l.drop k) s d=memR T (l.drop (k+1)) (s+(T (ix l k)).size) (max d (T (ix l k)).depth):=by
 have e:l.drop k=ix l k :: l.drop (k+1):=by rw [List.drop_eq_getElem_cons h,ix_of h]
 rw [e]
 show (if (T (ix l k)).size≤0 then none else _)=_
 rw [if_neg (by omega)]
theorem memR_bad {T:Int→TyI} {l:List Int} {k:Nat} {s d:Int} (h:k<l.length) (hp:(T (ix l k)).size≤0):memR T (l.drop k) s d=none:=by
 have e:l.drop k=ix l k :: l.drop (k+1):=by rw [List.drop_eq_getElem_cons h,ix_of h]
 rw [e]
 show (if (T (ix l k)).size≤0 then none else _)=_
 rw [if_pos hp]
def outS (e:Int) (s:SlI):SlI:=if e=0 then s else sl0
theorem members_any (gt bm B:Nat) (T:Int→TyI) (S:Int→SlI) (A:Option Addr) (n c:Nat) (l:List Int) (w:World) (hg:w.cell? ⟨gt,0,none⟩=some (.map (some bm))) (hT:TabM w B bm T S) (hB:B≤w.heap.size)
  (hr:Reads w B 1 A n (Ints .u32 l)) :
  Calls Tryz.prog 53 #[.pointer (some ⟨gt,0,none⟩),.slice A n c] w fun e w' =>
   e=.returned (.tuple #[.agg (tyV (membersT T l).1 (outS (membersT T l).2 (A,n,c))),.int .i64 (membersT T l).2])∧Below w.heap.size w w':=by
 have hl:=hr.len;obtain ⟨v,hv⟩:∃ v,v=membersT T l:=⟨_,rfl⟩;rw [← hv];unfold membersT at hv;rw [hl] at hv;have HV:=Lib.hid hv;clear hv;have hgtl:gt<w.heap.size:=World.block_lt_of_cell? w _ hg;have u2:=(World.cell?_alloc_lt w (.cells (tyV ty0 sl0) 89) ⟨gt,0,none⟩ hgtl).trans hg;have a1:=hT.alloc hB (.cells (tyV ty0 sl0) 89);have hb1:=(Below.refl w.heap.size w).alloc (Nat.le_refl _) (.cells (tyV ty0 sl0) 89);have k1:=Blk.new w 89 (tyV ty0 sl0);have r1:=hr.alloc hB (.cells (tyV ty0 sl0) 89);have hgt1:w.heap.size≠gt:=by omega
 clear hg hT hr
 by_cases h1:n<1
 ·have d1:decide (((n:Nat):Int)<1)=true:=by rw [decide_eq_true_eq];omega
  have hv1:v=(ty0,102):=by rw [HV.out,if_pos (.inl h1)]
  have HV1:=Lib.hid hv1;clear hv1 h1;unfold tyV ty0 sl0 at u2;go_enter Tryz.func53,Tryz.ntmps53;go_wp2_with fail;exact bodyPost_ret (ty_end (y:=ty0) (s:=sl0) rfl _ rfl rfl k1) rfl ⟨by rw [HV1.out];rfl,hb1⟩
 ·have d1:decide (((n:Nat):Int)<1)=false:=by rw [decide_eq_false_iff_not];omega
  by_cases h2:256<n
  ·have d2:decide ((256:Int)<((n:Nat):Int))=true:=by rw [decide_eq_true_eq];omega
   have hv1:v=(ty0,102):=by rw [HV.out,if_pos (.inr h2)]
   have HV1:=Lib.hid hv1;clear hv1 h1 h2;unfold tyV ty0 sl0 at u2;go_enter Tryz.func53,Tryz.ntmps53;go_wp2_with fail;exact bodyPost_ret (ty_end (y:=ty0) (s:=sl0) rfl _ rfl rfl k1) rfl ⟨by rw [HV1.out];rfl,hb1⟩
  ·have d2:decide ((256:Int)<((n:Nat):Int))=false:=by rw [decide_eq_false_iff_not];omega
   have hv1:=HV.out;rw [if_neg (by omega)] at hv1
   obtain ⟨m,hm⟩:∃ m,m=memR T l 0 0:=⟨_,rfl⟩;rw [← hm] at hv1;have HV1:=Lib.hid hv1;have HM0:Hid (m=memR T (l.drop 0) 0 0):=Lib.hid hm;clear hv1 hm HV;have hs1:(w.alloc (.cells (tyV ty0 sl0) 89)).heap.size=w.heap.size+1:=by simp
   have fz1:=k1.frozen;obtain ⟨z0,z1,z2,z3,z4,z5,z6,z7⟩:=ty8_ k1;have hlk:=fun id=>a1.look id
   have hB1:B≤(w.alloc (.cells (tyV ty0 sl0) 89)).heap.size:=by rw [hs1];omega
   have hpl:=fun id=>plain_any gt bm B T S id (w.alloc (.cells (tyV ty0 sl0) 89)) u2 a1
   go_enter Tryz.func53,Tryz.ntmps53;go_wp2_with fail;have hW:(w.alloc (.cells #[.int .u8 0,.int .i64 0,.int .i64 0,.bool false,.int .u32 0,.int .u32 0,.int .i64 0,.slice none 0 0] 89))=(w.alloc (.cells (tyV ty0 sl0) 89)):=rfl;rw [hW] at *;generalize (w.alloc (.cells (tyV ty0 sl0) 89))=W at *;clear hW;go_loopg [6,7,21] n (fun q s d i wr=>∃ (k:Nat) (sz dp:Int),k+q=n∧i=.int .i64 (k:Nat)∧s=.int .i64 sz∧d=.int .i64 dp∧Hid (m=memR T (l.drop k) sz dp)∧0≤sz∧sz≤4096*(k:Int)∧0≤dp∧dp≤16∧wr=W)
   case atStart=>exact ⟨0,0,0,by omega,rfl,rfl,rfl,HM0,by omega,by omega,by omega,by omega,rfl⟩
   case round =>
    obtain ⟨k,sz,dp,hq,rfl,rfl,rfl,HK,q1,q2,q3,q4,rfl⟩:=hrel
    by_cases hlt:k<n
    ·obtain ⟨b,off,rfl,hbb,hcc⟩:=r1.ints (by omega)
     have c0:=hcc k hlt;have hp1:=hpl (ix l k);have hl1:=hlk (ix l k);have hst:=@memR_step T l k sz dp (by omega)
     have hbd:=@memR_bad T l k sz dp (by omega)
     have hsp:=a1.size (ix l k);have hdp:=a1.depth (ix l k);generalize T (ix l k)=x at *;generalize S (ix l k)=s at *;generalize ix l k=p at *;obtain ⟨x1,x2,x3,x4,x5,x6,x7,x8⟩:=x;obtain ⟨sA,sn,sc⟩:=s;unfold tyV at hl1;dsimp only at hl1 hp1 hst hbd hsp hdp;clear hcc hlk hpl r1;have f1:=field_facts;have f2:=field_size;have f3:=field_depth
     by_cases hp:0<x2
     ·have hm1:=HK.out;rw [hst hp] at hm1;have HK1:=Lib.hid hm1;have d5:decide (0<x2)=true:=by simpa using hp
      rw [d5] at hp1;have hw1:IntKind.i64.wrap (sz+x2)=sz+x2:=IntWalk.i64_in _ (by omega)
      clear hst hbd hm1 HK HM0 hp;go_wp2_with (go_at_call 54;refine hp1.mono ?_;rintro e w2 ⟨rfl,rfl⟩)
      go_roundg (n-(k+1))
      case measure=>omega
      case rel=>exact ⟨k+1,sz+x2,max dp x3,by omega,by go_num,rfl,rfl,HK1,by omega,by omega,by omega,by omega,rfl⟩
     ·have hm1:=HK.out;rw [hbd (by omega)] at hm1
      rw [hm1] at HV1;have hv1:=HV1.out;dsimp only at hv1;have HV2:=Lib.hid hv1;have d5:decide (0<x2)=false:=by simpa using hp
      rw [d5] at hp1;clear hst hbd hm1 HK HM0 HV1 hv1 hp;go_wp2_with (go_at_call 54;refine hp1.mono ?_;rintro e w2 ⟨rfl,rfl⟩)
      exact bodyPost_ret (ty_end (y:=ty0) (s:=sl0) rfl _ rfl rfl (tyV_put k1 ty0 sl0)) rfl ⟨by rw [HV2.out];rfl,ty_below hb1 (Nat.le_refl _) ty0 sl0⟩
    ·obtain rfl:gk=0:=by omega
     obtain rfl:k=n:=by omega
     have hm1:=HK.out;rw [List.drop_eq_nil_of_le (by omega)] at hm1
     have hm2:m=some (sz,dp):=hm1;rw [hm2] at HV1;have hv1:=HV1.out;dsimp only at hv1;have hwh:=whole_ty { ty0 with kind:=6,parts:=l } (A,k,c) sz dp wr ⟨q3,q4⟩
     have hsl:wholeS { ty0 with kind:=6,parts:=l } sz dp (A,k,c)=outS (wholeT { ty0 with kind:=6,parts:=l } sz dp).2 (A,k,c):=rfl
     rw [hsl] at hwh;obtain ⟨r,hrr⟩:∃ r,r=wholeT { ty0 with kind:=6,parts:=l } sz dp:=⟨_,rfl⟩
     have hv2:v=r:=by rw [hrr];exact hv1
     rw [← hrr] at hwh;obtain ⟨y,er⟩:=r;dsimp only at hwh;unfold tyV ty0 at hwh;have HV2:=Lib.hid hv2;obtain ⟨s,hs⟩:∃ s,s=outS er (A,k,c):=⟨_,rfl⟩;rw [← hs] at hwh;have HS:=Lib.hid hs;clear hv1 hv2 HV1 hm2 hm1 HK HM0 hrr hsl hs;go_wp2_with fail;refine hwh.mono ?_;rintro e w3 ⟨rfl,hb3⟩;have kR3:=k1.step hb3;have hb4:=below_cut hb1 hb3 (Nat.le_refl _);clear z0 z1 z2 z3 z4 z5 z6 z7 fz1;obtain ⟨z0,z1,z2,z3,z4,z5,z6,z7⟩:=ty8_ kR3;have fz:=kR3.frozen;go_wp2_with fail;exact bodyPost_ret (ty_end (y:=y) (s:=s) rfl _ rfl rfl (tyV_put kR3 y s)) rfl ⟨by rw [HV2.out,HS.out],ty_below hb4 (Nat.le_refl _) y s⟩
end
section
open Go.RowKit
theorem funR_step {T:Int→TyI} {l:List Int} {k:Nat} (h:k<l.length) (hp:0<(T (ix l k)).size∨(T (ix l k)).kind=(if k=0 then 1 else 7)) :
  funR T (l.drop k) k=funR T (l.drop (k+1)) (k+1):=by
 have e:l.drop k=ix l k :: l.drop (k+1):=by rw [List.drop_eq_getElem_cons h,ix_of h]
 rw [e]
 show (if (T (ix l k)).size≤0∧(T (ix l k)).kind≠(if k=0 then 1 else 7) then false else _)=_
 rw [if_neg (by rintro ⟨h1,h2⟩;rcases hp with h | h;omega;exact h2 h)]
theorem funR_bad {T:Int→TyI} {l:List Int} {k:Nat} (h:k<l.length) (hp:(T (ix l k)).size≤0) (h2:(T (ix l k)).kind≠(if k=0 then 1 else 7)):funR T (l.drop k) k=false:=by
 have e:l.drop k=ix l k :: l.drop (k+1):=by rw [List.drop_eq_getElem_cons h,ix_of h]
 rw [e]
 show (if (T (ix l k)).size≤0∧(T (ix l k)).kind≠(if k=0 then 1 else 7) then false else _)=_
 rw [if_pos ⟨hp,h2⟩]
theorem function_any (gt bm B:Nat) (T:Int→TyI) (S:Int→SlI) (A:Option Addr) (n c:Nat) (l:List Int) (w:World) (hg:w.cell? ⟨gt,0,none⟩=some (.map (some bm))) (hT:TabM w B bm T S) (hB:B≤w.heap.size)
  (hr:Reads w B 1 A n (Ints .u32 l)) (hn:n≤6000000000000) :
  Calls Tryz.prog 55 #[.pointer (some ⟨gt,0,none⟩),.slice A n c] w fun e w' =>
   e=.returned (.tuple #[.agg (tyV (functionT T l).1 (outS (functionT T l).2 (A,n,c))),.int .i64 (functionT T l).2])∧Below w.heap.size w w':=by
 have hl:=hr.len;obtain ⟨v,hv⟩:∃ v,v=functionT T l:=⟨_,rfl⟩;rw [← hv];unfold functionT at hv;have hgtl:gt<w.heap.size:=World.block_lt_of_cell? w _ hg;have u2:=(World.cell?_alloc_lt w (.cells (tyV ty0 sl0) 89) ⟨gt,0,none⟩ hgtl).trans hg;have a1:=hT.alloc hB (.cells (tyV ty0 sl0) 89);have hb1:=(Below.refl w.heap.size w).alloc (Nat.le_refl _) (.cells (tyV ty0 sl0) 89);have k1:=Blk.new w 89 (tyV ty0 sl0);have r1:=hr.alloc hB (.cells (tyV ty0 sl0) 89);have hgt1:w.heap.size≠gt:=by omega
 clear hg hT hr;obtain ⟨m,hm⟩:∃ m,m=funR T l 0:=⟨_,rfl⟩;rw [← hm] at hv;have HV1:=Lib.hid hv;have HM0:Hid (m=funR T (l.drop 0) 0):=Lib.hid hm;clear hv hm;have hs1:(w.alloc (.cells (tyV ty0 sl0) 89)).heap.size=w.heap.size+1:=by simp
 have fz1:=k1.frozen;obtain ⟨z0,z1,z2,z3,z4,z5,z6,z7⟩:=ty8_ k1;have hlk:=fun id=>a1.look id
 have hB1:B≤(w.alloc (.cells (tyV ty0 sl0) 89)).heap.size:=by rw [hs1];omega
 have hpl:=fun id=>plain_any gt bm B T S id (w.alloc (.cells (tyV ty0 sl0) 89)) u2 a1
 go_enter Tryz.func55,Tryz.ntmps55;go_wp2_with fail;have hW:(w.alloc (.cells #[.int .u8 0,.int .i64 0,.int .i64 0,.bool false,.int .u32 0,.int .u32 0,.int .i64 0,.slice none 0 0] 89))=(w.alloc (.cells (tyV ty0 sl0) 89)):=rfl;rw [hW] at *;generalize (w.alloc (.cells (tyV ty0 sl0) 89))=W at *;clear hW;go_loopg [11] n (fun q i wr=>∃ (k:Nat),k+q=n∧i=.int .i64 (k:Nat)∧Hid (m=funR T (l.drop k) k)∧wr=W)
 case atStart=>exact ⟨0,by omega,rfl,HM0,rfl⟩
 case round =>
  obtain ⟨k,hq,rfl,HK,rfl⟩:=hrel
  by_cases hlt:k<n
  ·obtain ⟨b,off,rfl,hbb,hcc⟩:=r1.ints (by omega)
   have c0:=hcc k hlt;have hp1:=hpl (ix l k);have hl1:=hlk (ix l k);have hst:=@funR_step T l k (by omega)
   have hbd:=@funR_bad T l k (by omega)
   generalize T (ix l k)=x at *;generalize S (ix l k)=s at *;generalize ix l k=p at *;obtain ⟨x1,x2,x3,x4,x5,x6,x7,x8⟩:=x;obtain ⟨sA,sn,sc⟩:=s;unfold tyV at hl1;dsimp only at hl1 hp1 hst hbd;clear hcc hlk hpl r1;have f1:=field_facts;have f2:=field_kind
   by_cases hk0:k=0
   ·have dk:(((k:Nat):Int)==0)=true:=by rw [hk0];rfl
    have e0:(if k=0 then (1:Int) else 7)=1:=if_pos hk0
    rw [e0] at hst hbd;clear e0
    by_cases hp:0<x2
    ·have hm1:=HK.out;rw [hst (.inl hp)] at hm1;have HK1:=Lib.hid hm1;have d5:decide (0<x2)=true:=by simpa using hp
     rw [d5] at hp1;clear hst hbd hm1 HK HM0 hp hk0;go_wp2_with (go_at_call 54;refine hp1.mono ?_;rintro e w2 ⟨rfl,rfl⟩)
     go_roundg (n-(k+1))
     case measure=>omega
     case rel=>exact ⟨k+1,by omega,by go_num,HK1,rfl⟩
    ·have d5:decide (0<x2)=false:=by simpa using hp
     rw [d5] at hp1
     by_cases hx:x1=1
     ·have hm1:=HK.out;rw [hst (.inr hx)] at hm1;have HK1:=Lib.hid hm1;have d6:(x1 != 1)=false:=by rw [hx];rfl
      clear hst hbd hm1 HK HM0 hp hk0 hx;go_wp2_with (go_at_call 54;refine hp1.mono ?_;rintro e w2 ⟨rfl,rfl⟩)
      go_roundg (n-(k+1))
      case measure=>omega
      case rel=>exact ⟨k+1,by omega,by go_num,HK1,rfl⟩
     ·have hm1:=HK.out;rw [hbd (by omega) hx] at hm1
      have hv1:v=(ty0,100):=by rw [HV1.out,hm1];rfl
      have HV2:=Lib.hid hv1;have d6:(x1 != 1)=true:=by simpa using hx
      clear hst hbd hm1 HK HM0 HV1 hv1 hp hk0 hx;go_wp2_with (go_at_call 54;refine hp1.mono ?_;rintro e w2 ⟨rfl,rfl⟩)
      exact bodyPost_ret (ty_end (y:=ty0) (s:=sl0) rfl _ rfl rfl (tyV_put k1 ty0 sl0)) rfl ⟨by rw [HV2.out];rfl,ty_below hb1 (Nat.le_refl _) ty0 sl0⟩
   ·have dk:(((k:Nat):Int)==0)=false:=by rw [beq_eq_false_iff_ne];omega
    have e0:(if k=0 then (1:Int) else 7)=7:=if_neg hk0
    rw [e0] at hst hbd;clear e0
    by_cases hp:0<x2
    ·have hm1:=HK.out;rw [hst (.inl hp)] at hm1;have HK1:=Lib.hid hm1;have d5:decide (0<x2)=true:=by simpa using hp
     rw [d5] at hp1;clear hst hbd hm1 HK HM0 hp hk0;go_wp2_with (go_at_call 54;refine hp1.mono ?_;rintro e w2 ⟨rfl,rfl⟩)
     go_roundg (n-(k+1))
     case measure=>omega
     case rel=>exact ⟨k+1,by omega,by go_num,HK1,rfl⟩
    ·have d5:decide (0<x2)=false:=by simpa using hp
     rw [d5] at hp1
     by_cases hx:x1=7
     ·have hm1:=HK.out;rw [hst (.inr hx)] at hm1;have HK1:=Lib.hid hm1;have d6:(x1 != 7)=false:=by rw [hx];rfl
      clear hst hbd hm1 HK HM0 hp hk0 hx;go_wp2_with (go_at_call 54;refine hp1.mono ?_;rintro e w2 ⟨rfl,rfl⟩)
      go_roundg (n-(k+1))
      case measure=>omega
      case rel=>exact ⟨k+1,by omega,by go_num,HK1,rfl⟩
     ·have hm1:=HK.out;rw [hbd (by omega) hx] at hm1
      have hv1:v=(ty0,100):=by rw [HV1.out,hm1];rfl
      have HV2:=Lib.hid hv1;have d6:(x1 != 7)=true:=by simpa using hx
      clear hst hbd hm1 HK HM0 HV1 hv1 hp hk0 hx;go_wp2_with (go_at_call 54;refine hp1.mono ?_;rintro e w2 ⟨rfl,rfl⟩)
      exact bodyPost_ret (ty_end (y:=ty0) (s:=sl0) rfl _ rfl rfl (tyV_put k1 ty0 sl0)) rfl ⟨by rw [HV2.out];rfl,ty_below hb1 (Nat.le_refl _) ty0 sl0⟩
  ·obtain rfl:gk=0:=by omega
   obtain rfl:k=n:=by omega
   have hm1:=HK.out;rw [List.drop_eq_nil_of_le (by omega)] at hm1
   have hm2:m=true:=hm1;have hv1:v=({ ty0 with kind:=8,parts:=l },0):=by rw [HV1.out,hm2];rfl
   have HV2:=Lib.hid hv1;clear hv1 HV1 hm2 hm1 HK HM0;go_wp2_with fail;exact bodyPost_ret (ty_end (y:={ ty0 with kind:=8,parts:=l }) (s:=(A,k,c)) rfl _ rfl rfl (tyV_put k1 { ty0 with kind:=8,parts:=l } (A,k,c))) rfl ⟨by rw [HV2.out];rfl,ty_below hb1 (Nat.le_refl _) { ty0 with kind:=8,parts:=l } (A,k,c)⟩
end
end Go.Proofs.YtdebjkiilnhgpaaGreatDoor
