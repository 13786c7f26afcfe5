/- Walks: the pool's makers. -/
import Derived.Test.YtdebjkiilnhgpaaGreatDoorCVI
import Derived.Test.YtdebjkiilnhgpaaGreatDoorCTQ
import Derived.Test.YtdebjkiilnhgpaaGreatDoorCUJ
import Derived.Test.YtdebjkiilnhgpaaGreatDoorCUM
import Derived.Test.YtdebjkiilnhgpaaGreatDoorCTM
set_option maxRecDepth 100000
set_option maxHeartbeats 4000000
namespace Go.Proofs.YtdebjkiilnhgpaaGreatDoor
section
open Go.RowKit
def keyH (D:Int→Option Value) (k:Value):Option Value:=match k with
 | .int .u16 i=>D i
 | _=>none
theorem keyH_set [DecidableEq Value] (D:Int→Option Value) (i:Int) (val:Value) (k:Value):keyH (fun x=>if x=i then some val else D x) k=if k=.int .u16 i then some val else keyH D k:=by
 unfold keyH;dsimp only
 split
 ·rename_i j
  by_cases h:j=i
  ·subst h;simp
  ·rw [if_neg h,if_neg];intro e;injection e with _ e
   exact h e
 ·rename_i h
  rw [if_neg (h i)]
theorem mak_put {w:World} {b n:Nat} {D:Int→Option Value} (h:MapIs w (.int .u16) b n (keyH D)) (op:Int) (v:Value) :
  ∃ w' m,(Instr.mapUpdate 74 (.map (some b)) (.int .u16 op) v).run Tryz.prog w=.ok () w'∧MapIs w' (.int .u16) b m (keyH fun x=>if x=op then some v else D x)∧w.grownBy w' (some b):=by
 classical
 obtain ⟨w',h1,h2,h3⟩:=MapIs.put (P:=Tryz.prog) h Tryz.underlying74 Tryz.underlying39 (key:=.int .u16 op) (val:=v) rfl;exact ⟨w',_,h1,h2.ext (keyH_set D op v),h3⟩
theorem poolMakers_any (gp:Nat) (w:World):Calls Tryz.prog 23 #[.pointer (some ⟨gp,0,none⟩)] w fun e w'=>e=.returned (.map (some w.heap.size))∧MakS w' w.heap.size gp∧Below w.heap.size w w':=by
 have m1:MapIs (w.alloc (.map #[] 0)) (.int .u16) w.heap.size 0 (keyH fun _=>none):=(MapIs.made w _).ext fun k=>by
  unfold keyH
  split <;> rfl
 have b1:=(Below.refl w.heap.size w).alloc (Nat.le_refl _) (.map #[] 0);obtain ⟨w2,n2,h2,m2,g2⟩:=mak_put m1 1 (.func (.func 40) #[.pointer (some ⟨gp,0,none⟩)] #[]);obtain ⟨w3,n3,h3,m3,g3⟩:=mak_put m2 46 (.func (.func 40) #[.pointer (some ⟨gp,0,none⟩)] #[]);obtain ⟨w4,n4,h4,m4,g4⟩:=mak_put m3 41 (.func (.func 41) #[.pointer (some ⟨gp,0,none⟩)] #[]);obtain ⟨w5,n5,h5,m5,g5⟩:=mak_put m4 42 (.func (.func 41) #[.pointer (some ⟨gp,0,none⟩)] #[]);obtain ⟨w6,n6,h6,m6,g6⟩:=mak_put m5 43 (.func (.func 42) #[.pointer (some ⟨gp,0,none⟩)] #[]);obtain ⟨w7,n7,h7,m7,g7⟩:=mak_put m6 44 (.func (.func 43) #[.pointer (some ⟨gp,0,none⟩)] #[]);have gr:∀ {x y:World},Below w.heap.size w x→x.grownBy y (some w.heap.size)→Below w.heap.size w y:=fun hb hg=>hb.grown hg hb.size (fun g e=>by cases e;exact Nat.le_refl _)
 have HB:=Lib.hid (gr (gr (gr (gr (gr (gr b1 g2) g3) g4) g5) g6) g7);have HM:Hid (MakS w7 w.heap.size gp):=Lib.hid ⟨n7,m7.ext fun k=>by
  unfold makK keyH
  split
  ·rename_i y
   show makF gp y=_
   unfold makF
   by_cases e1:y=44
   ·subst e1;rfl
   by_cases e2:y=43
   ·subst e2;rfl
   by_cases e3:y=42
   ·subst e3;rfl
   by_cases e4:y=41
   ·subst e4;rfl
   by_cases e5:y=46
   ·subst e5;rfl
   by_cases e6:y=1
   ·subst e6;rfl
   simp [e1,e2,e3,e4,e5,e6]
  ·rename_i h
   split
   ·exact absurd rfl (h _)
   ·rfl⟩
 clear m1 m2 m3 m4 m5 m6 m7 g2 g3 g4 g5 g6 g7 gr b1;have hmm:=@run_makeMap Tryz.prog;go_enter Tryz.func23,Tryz.ntmps23;go_wp2_with fail;go_ret
 exact ⟨rfl,HM.out,HB.out⟩
end
section
open Go.RowKit
theorem PolS.polR {w0 w:World} {q gt bm k:Nat} {T:Int→TyI} {S:Int→SlI} {C:Int→Option Int} {sl:SlI} (h:PolS w0 w q gt bm k T C sl) (hT:TabW w0 (some ⟨gt,0,none⟩) T S) (hty:Typed T):PolR w (q+2) gt T S C:=by
 obtain ⟨SC,Ai,ni,ci,Av,nv,cv,xi,xv,kb,oi,ov,hne,h1,h2,hC,-⟩:=h.pool;exact ⟨kb.cell 0,hT.step h.below,hty,q,SC,kb.cell 2,hC⟩
theorem maker_is {w0 w:World} {q gt bm k:Nat} {T:Int→TyI} {S:Int→SlI} {C:Int→Option Int} {sl:SlI} (h:PolS w0 w q gt bm k T C sl) (hT:TabW w0 (some ⟨gt,0,none⟩) T S) (hty:Typed T) (x:InstA) (hx:InstOk w w.heap.size x) (h43:x.1.1=43→1≤x.1.2.2.2.length) (hc:conB x.1.1=true) :
  ∃ fid:Nat,makF (q+2) x.1.1=some (.func (.func fid) #[.pointer (some ⟨q+2,0,none⟩)] #[])∧(∀ args w,(callFunc fid args).run Tryz.prog w=.ok (.enter fid args) w)∧Calls Tryz.prog fid #[.pointer (some ⟨q+2,0,none⟩),.agg (instC x)] w (WrdIs T x.1.2.1 (conE T C x.1) w):=by
 have hR:=h.polR hT hty;have h59:x.1.1≠59:=fun e=>by rw [e] at hc;cases hc
 unfold conE;rw [if_neg h59]
 by_cases c1:x.1.1=1∨x.1.1=46
 ·rw [if_pos c1];refine ⟨40,?_,by intro args w;kernel_rfl,nothing_any (q+2) gt T S C x w hR hx⟩
  unfold makF
  rcases c1 with c | c <;> rw [c] <;> rfl
 rw [if_neg c1]
 by_cases c2:x.1.1=41∨x.1.1=42
 ·rw [if_pos c2];refine ⟨41,?_,by intro args w;kernel_rfl,truth_any (q+2) gt T S C x w hR hx (.inr rfl)⟩
  unfold makF
  rcases c2 with c | c <;> rw [c] <;> rfl
 rw [if_neg c2]
 by_cases c3:x.1.1=43
 ·rw [if_pos c3];refine ⟨42,?_,by intro args w;kernel_rfl,numberC_any (q+2) gt T S C x w hR hx (.inl (h43 c3))⟩
  unfold makF;rw [c3];rfl
 rw [if_neg c3]
 by_cases c4:x.1.1=44
 ·rw [if_pos c4];refine ⟨43,?_,by intro args w;kernel_rfl,composite_any (q+2) gt T S C x w hR hx⟩
  unfold makF;rw [c4];rfl
 ·exfalso
  unfold conB at hc;simp only [Bool.or_eq_true,beq_iff_eq] at hc;omega
theorem makF_none {gp:Nat} {op:Int} (h:conB op=false):makF gp op=none:=by
 unfold conB at h;simp only [Bool.or_eq_false_iff,beq_eq_false_iff_ne] at h;unfold makF;rw [if_neg (by omega),if_neg (by omega),if_neg (by omega),if_neg (by omega)]
theorem conE_none {T:Int→TyI} {C:Int→Option Int} {i:InstI} (h59:i.1≠59) (h:conB i.1=false):conE T C i=0:=by
 unfold conB at h;simp only [Bool.or_eq_false_iff,beq_eq_false_iff_ne] at h;unfold conE;rw [if_neg h59,if_neg (by omega),if_neg (by omega),if_neg (by omega),if_neg (by omega)]
theorem nilf_nil (w:World):(binOp .eql 108 .nilFunc .nilFunc).run Tryz.prog w=.ok (.bool true) w:=by kernel_rfl
theorem func_nil (fid:Nat) (v:Value) (w:World):(binOp .eql 108 (.func (.func fid) #[v] #[]) .nilFunc).run Tryz.prog w=.ok (.bool false) w:=by kernel_rfl
theorem add_any (w0:World) (q gt bm k:Nat) (T:Int→TyI) (S:Int→SlI) (C:Int→Option Int) (x:InstA) (w:World) (h:PolS w0 w q gt bm k T C sl0) (hT:TabW w0 (some ⟨gt,0,none⟩) T S) (hty:Typed T)
  (hx:InstOk w w.heap.size x) (hk:k≤7100000000000) (hn:x.1.1=59∨x.1.1=43→1≤x.1.2.2.2.length) :
  Calls Tryz.prog 24 #[.pointer (some ⟨q+2,0,none⟩),.agg (instC x),.map (some bm)] w fun e w'=>e=.returned (.int .i64 (conE T C x.1))∧PolS w0 w' q gt bm (k+1) T (conN C x.1) sl0:=by
 obtain ⟨⟨op,ty,res,al⟩,A,n,c⟩:=x;dsimp only at hn;have htp:=h.top;have kI:=Blk.new w 42 #[.int .u16 op,.int .u32 ty,.int .u32 res,.slice A n c];have hbB:=(Below.refl w.heap.size w).alloc (Nat.le_refl _) (.cells #[.int .u16 op,.int .u32 ty,.int .u32 res,.slice A n c] 42);have P1:=h.step hbB;have hx1:=(hx.keep hbB).more (B':=(w.alloc (.cells #[.int .u16 op,.int .u32 ty,.int .u32 res,.slice A n c] 42)).heap.size) hbB.size;have fzI:=kI.frozen;obtain ⟨z0,z1,z2,z3⟩:=four_ kI
 by_cases c59:op=59
 ·subst c59;have hho:=holds_any (q+2) gt T S C ((59,ty,res,al),A,n,c) _ (P1.polR hT hty) hx1 (hn (.inl rfl));have hE:conE T C (59,ty,res,al)=varE T C ty (nums al):=by unfold conE;rw [if_pos rfl]
  have hN:conN C (59,ty,res,al)=C:=rfl;rw [hE,hN];dsimp only at hho;generalize varE T C ty (nums al)=E at hho ⊢;unfold VarIs at hho;unfold instC at hho ⊢;dsimp only at hho ⊢;clear h hx hx1 hbB hE hN hT hty;go_enter Tryz.func24,Tryz.ntmps24;go_wp2_with (go_at_call 44;refine hho.mono ?_;rintro e w2 ⟨va,vt,vA,vn,vc,rfl,hb2⟩;have kI2:=kI.step hb2;have P2:=P1.step hb2;have P3:=P2.step ((Below.refl w2.heap.size w2).alloc (Nat.le_refl _) (.cells #[.int .u32 va,.int .u32 vt,.slice vA vn vc] 112));have kI3:=kI2.alloc (.cells #[.int .u32 va,.int .u32 vt,.slice vA vn vc] 112);have kV3:=Blk.new w2 112 #[.int .u32 va,.int .u32 vt,.slice vA vn vc])
  have hv2:w.heap.size+1≤w2.heap.size:=kI2.lt;clear hho P1 P2 kI2 hb2 kI z0 z1 z2 z3 fzI;generalize w2.alloc (.cells #[.int .u32 va,.int .u32 vt,.slice vA vn vc] 112)=W5 at *;have P5:=P3;have kI:=kI3;have kV:=kV3;clear P3 kI3 kV3;obtain ⟨SC,Ai,ni,ci,Av,nv,cv,xi,xv,kb,oi,ov,hne,h1,h2,hC,hA,hs1,hs2⟩:=P5.pool;have P5a:=(P5.step (Below.refl W5.heap.size W5).drew).step ((Below.refl W5.drew.heap.size W5.drew).alloc (Nat.le_refl _) (.cells #[.int .u32 res] 22));have hb5a:=((Below.refl W5.heap.size W5).drew).alloc (Nat.le_refl _) (.cells #[.int .u32 res] 22);have hC5:=(hC.step (Below.refl W5.heap.size W5).drew).step ((Below.refl W5.drew.heap.size W5.drew).alloc (Nat.le_refl _) (.cells #[.int .u32 res] 22));have hlit:=Reads.litN W5.drew #[.int .u32 res] 22 1 1 1 rfl rfl (by omega)
  have htop:q+3≤W5.heap.size:=P5.top;have kb5:=kb.drew.alloc (.cells #[.int .u32 res] 22);have oi5:=oi.drew.alloc (.cells #[.int .u32 res] 22);have ov5:=ov.drew.alloc (.cells #[.int .u32 res] 22);have kI5:=kI.drew.alloc (.cells #[.int .u32 res] 22);have g1:∀ o,(W5.alloc o).cell? ⟨q+2,3,none⟩=some (.slice Av nv cv):=fun o=>(kb.alloc o).cell 3
  have g3:W5.cell? ⟨q+2,3,none⟩=some (.slice Av nv cv):=kb.cell 3;have fb:=fun o=>(kb.alloc o).frozen 3
  obtain ⟨j0,j1,j2,j3⟩:=four_ kI;have hnI:(Value.slice Av nv cv).ownBlock≠some w.heap.size:=own_blk_ne ov5 kI5 (by decide)
  have kV5:=kV.drew.alloc (.cells #[.int .u32 res] 22);have hnV:(Value.slice Av nv cv).ownBlock≠some w2.heap.size:=own_blk_ne ov5 kV5 (by decide)
  clear kV;have HP:=Lib.hid P5a;have HC5:=Lib.hid hC5;have HA:=Lib.hid hA;have HS1:=Lib.hid hs1;have HS2:=Lib.hid hs2;have HT0:=Lib.hid htop;clear P5 P5a hC hC5 hA hs1 hs2 kb oi ov hb5a kI;go_region_law (first
   | (refine step_ap_any3 sl32 (W5.drew.alloc (.cells #[.int .u32 res] 22)) rfl _ _ rfl (q+3) _ _ _ rfl ov5 _ _ 1 1 [.int .u32 res] rfl hlit (by simp [Value.oneCell']) (by omega) (by omega) (by rw [World.size_alloc];exact Nat.le_succ_of_le htop) ?_;intro A8 c8 w8 ho8 hg8 h38;have kb8:=kb5.grown hg8 (Ne.symm (own_ne_low ov5 (by omega)));have p0:=kb8.cell 3;simp at p0;have p4:=kb8.frozen 3))
  all_goals
   have P9:=HP.out.vrs kb5 oi5 ov5 hne h1 h2 HC5.out HA.out HS1.out HS2.out ho8 hg8 h38;have kI9:=(kI5.grown hg8 (Ne.symm hnI)).far (p:=⟨q+2,3,none⟩) (show w.heap.size≠q+2 by omega) (.slice A8 (nv+1) c8)
   have kV9:=(kV5.grown hg8 (Ne.symm hnV)).far (p:=⟨q+2,3,none⟩) (show w2.heap.size≠q+2 by omega) (.slice A8 (nv+1) c8)
   clear kV5 hnV;clear kb5 oi5 ov5 kI5 hne h1 h2 HC5 HA HS1 HS2 ho8 hg8 h38 kb8 p0 p4 j0 j1 j2 j3 g1 g3 fb hlit hnI HP;generalize w8.setCell ⟨q+2,3,none⟩ (.slice A8 (nv+1) c8)=w9 at P9 kI9 kV9 ⊢;have P9d:=P9.step (Below.refl w9.heap.size w9).drew;obtain ⟨wA,hput,PA,hgA⟩:=P9d.var res (.agg #[.int .u32 va,.int .u32 vt,.slice vA vn vc]);have m4:w9.cell? ⟨q+2,4,none⟩=some (.map (some (q+1))):=by
    obtain ⟨SC,Ai,ni,ci,Av,nv,cv,xi,xv,kb,-⟩:=P9.pool;exact kb.cell 4
   obtain ⟨j0,j1,j2,j3⟩:=four_ kI9;obtain ⟨y0,y1,y2⟩:=three_ kV9;have HF:=Lib.hid PA;clear P9 P9d PA hgA kI9 kV9;go_wp2_with fail;go_region
   all_goals
    go_wp2_with fail;go_ret
    exact ⟨rfl,HF.out⟩
 ·have e59:(op==59)=false:=by simpa using c59
  have hlk:=P1.mak.look op;have hq1:=nilf_nil;have hq2:=func_nil;cases hcb:conB op with
  | false =>
   rw [makF_none hcb] at hlk;have hE:=conE_none (T:=T) (C:=C) (i:=(op,ty,res,al)) c59 hcb;have hN:conN C (op,ty,res,al)=C:=by unfold conN;rw [if_neg (by rw [hcb];decide)]
   rw [hE,hN];have HP:=Lib.hid P1.more;unfold instC;dsimp only [Option.getD_none] at hlk ⊢;clear h hx hx1 hbB hE hN hT hty P1;go_enter Tryz.func24,Tryz.ntmps24;go_wp2_with fail;go_ret
   exact ⟨rfl,HP.out⟩
  | true =>
   obtain ⟨fid,hf,hcf,hcall⟩:=maker_is P1 hT hty ((op,ty,res,al),A,n,c) hx1 (fun e=>hn (.inr e)) hcb
   have hN:conN C (op,ty,res,al)=updT C res (some ty):=by unfold conN;rw [if_pos hcb]
   rw [hN];dsimp only at hf hcall;rw [hf] at hlk;generalize conE T C (op,ty,res,al)=E at hcall ⊢;unfold instC WrdIs at hcall;unfold instC;dsimp only [Option.getD_some] at hlk hcall ⊢;clear h hx hx1 hbB hN hf hT hty;go_enter Tryz.func24,Tryz.ntmps24;go_wp2_with (refine hcall.mono ?_;rintro e w2 ⟨A5,n5,c5,rfl,hb2,hl2,hf2,hr2⟩;have kI2:=kI.step hb2;have P2:=P1.step_new (s:=(A5,n5,c5)) hb2 hf2 hr2)
   have P5:=P2;have hv2:w.heap.size+1≤w2.heap.size:=kI2.lt;clear hcall P1 P2 hb2 kI z0 z1 z2 z3 fzI hf2 hr2 hlk hcf;have kI:=kI2;have HL:=Lib.hid hl2;clear kI2 hl2;obtain ⟨SC,Ai,ni,ci,Av,nv,cv,xi,xv,kb,oi,ov,hne,h1,h2,hC,hA,hs1,hs2⟩:=P5.pool;have P5a:=(P5.step (Below.refl w2.heap.size w2).drew).step ((Below.refl w2.drew.heap.size w2.drew).alloc (Nat.le_refl _) (.cells #[.int .u32 res] 22));have hb5a:=((Below.refl w2.heap.size w2).drew).alloc (Nat.le_refl _) (.cells #[.int .u32 res] 22);have hC5:=(hC.step (Below.refl w2.heap.size w2).drew).step ((Below.refl w2.drew.heap.size w2.drew).alloc (Nat.le_refl _) (.cells #[.int .u32 res] 22));have hlit:=Reads.litN w2.drew #[.int .u32 res] 22 1 1 1 rfl rfl (by omega)
   have htop:q+3≤w2.heap.size:=P5.top;have kb5:=kb.drew.alloc (.cells #[.int .u32 res] 22);have oi5:=oi.drew.alloc (.cells #[.int .u32 res] 22);have ov5:=ov.drew.alloc (.cells #[.int .u32 res] 22);have kI5:=kI.drew.alloc (.cells #[.int .u32 res] 22);have g1:∀ o,(w2.alloc o).cell? ⟨q+2,1,none⟩=some (.slice Ai ni ci):=fun o=>(kb.alloc o).cell 1
   have g3:w2.cell? ⟨q+2,1,none⟩=some (.slice Ai ni ci):=kb.cell 1;have fb:=fun o=>(kb.alloc o).frozen 1
   obtain ⟨j0,j1,j2,j3⟩:=four_ kI;have hnI:(Value.slice Ai ni ci).ownBlock≠some w.heap.size:=own_blk_ne oi5 kI5 (by decide)
   have HP:=Lib.hid P5a;have HC5:=Lib.hid hC5;have HA:=Lib.hid hA;have HS1:=Lib.hid hs1;have HS2:=Lib.hid hs2;have HT0:=Lib.hid htop;clear P5 P5a hC hC5 hA hs1 hs2 kb oi ov hb5a kI;go_region_law (first
    | (refine step_ap_any3 sl32 (w2.drew.alloc (.cells #[.int .u32 res] 22)) rfl _ _ rfl (q+3) _ _ _ rfl oi5 _ _ 1 1 [.int .u32 res] rfl hlit (by simp [Value.oneCell']) (by omega) (by omega) (by rw [World.size_alloc];exact Nat.le_succ_of_le htop) ?_;intro A8 c8 w8 ho8 hg8 h38;have kb8:=kb5.grown hg8 (Ne.symm (own_ne_low oi5 (by omega)));have p0:=kb8.cell 1;simp at p0;have p4:=kb8.frozen 1))
   all_goals
    have P9:=HP.out.ids kb5 oi5 ov5 hne h1 h2 HC5.out HA.out HS1.out HS2.out ho8 hg8 h38;have kI9:=(kI5.grown hg8 (Ne.symm hnI)).far (p:=⟨q+2,1,none⟩) (show w.heap.size≠q+2 by omega) (.slice A8 (ni+1) c8)
    clear kb5 oi5 ov5 kI5 hne h1 h2 HC5 HA HS1 HS2 ho8 hg8 h38 kb8 p0 p4 j0 j1 j2 j3 g1 g3 fb hlit hnI HP;generalize w8.setCell ⟨q+2,1,none⟩ (.slice A8 (ni+1) c8)=w9 at P9 kI9 ⊢;have P9d:=P9.step (Below.refl w9.heap.size w9).drew;obtain ⟨wA,hput,PA,hgA⟩:=P9d.con res ty HL.out;have m4:w9.cell? ⟨q+2,2,none⟩=some (.map (some q)):=by
     obtain ⟨SC,Ai,ni,ci,Av,nv,cv,xi,xv,kb,-⟩:=P9.pool;exact kb.cell 2
    obtain ⟨j0,j1,j2,j3⟩:=four_ kI9;have HF:=Lib.hid PA;unfold conV at hput;dsimp only at hput;clear P9 P9d PA hgA kI9;go_wp2_with fail;go_region
    all_goals
     go_wp2_with fail;go_ret
     exact ⟨rfl,HF.out⟩
end
section
open Go.RowKit
theorem ids_cut {bound:Int} {l:List InstI} (h:(idsM bound l).1=0):(layM bound l).1=0∧(cutR l).1=true:=by
 have h1:(layM bound l).1=0:=by
  by_cases hs:(layM bound l).1=0
  ·exact hs
  ·rw [idsM_lay hs] at h;exact h
 exact ⟨h1,(idsM_ok h1).2⟩
theorem cut7 {l:List InstI} (h:(cutR l).1=true):∃ a b:Nat,(cutR l).2.2 14=(a:Int)∧(cutR l).2.2 15=(b:Int)∧b≤l.length:=by
 have hI0:TopI l 0 0:=⟨Nat.zero_le _,fun j hj=>absurd hj (Nat.not_lt_zero _),fun j hj=>absurd hj (Nat.not_lt_zero _),fun h=>absurd h (by decide),fun _ h=>absurd h (by have:=(partAt_bd l 0).1;omega)⟩
 have hsp:=topR_span l 8 0 0 (fun _=>0) rfl (by decide) hI0
 have hbd:=topR_bd l 8 0 0 (fun _=>0) (Nat.zero_le _)
 unfold cutR at h ⊢;dsimp only at h ⊢;generalize topR l 8 0 0 (fun _=>0)=t at *
 by_cases ht:t.1=false
 ·rw [if_pos ht,ht] at h;cases h
 ·rw [if_neg ht];obtain ⟨a,s1,s2,-,-⟩:=hsp (by simpa using ht)
  exact ⟨a,t.2.1,s1,s2,hbd.2⟩
def ConIs (r:Int × Int × StN × (Int→Option Int)) (w:World) (e:Ending) (w':World):Prop :=
 Below w.heap.size w w'∧((r.1=0∧∃ gp gt S,e=.returned (.tuple #[.pointer (some ⟨gp,0,none⟩),.agg #[.int .i64 0,.int .i64 0]])∧TabW w' (some ⟨gt,0,none⟩) r.2.2.1.T S∧PooS w' gp gt r.2.2.1.T r.2.2.2) ∨
  (r.1≠0∧e=.returned (.tuple #[.pointer none,.agg #[.int .i64 r.1,.int .i64 r.2.1]])))
theorem pol_start {W4 w6:World} {gt k:Nat} {T:Int→TyI} (hT:Typed T)
  (hb:Below (W4.heap.size+3) (((W4.alloc (.map #[] 0)).alloc (.map #[] 0)).alloc (.cells #[.pointer (some ⟨gt,0,none⟩),.slice none 0 0,.map (some W4.heap.size),.slice none 0 0,.map (some (W4.heap.size+1))] 73)) w6)
  (hm:MakS w6 (W4.heap.size+3) (W4.heap.size+2)):PolS W4 w6 W4.heap.size gt (W4.heap.size+3) k T (fun _=>none) sl0:=by
 have hs:(((W4.alloc (.map #[] 0)).alloc (.map #[] 0)).alloc (.cells #[.pointer (some ⟨gt,0,none⟩),.slice none 0 0,.map (some W4.heap.size),.slice none 0 0,.map (some (W4.heap.size+1))] 73)).heap.size=W4.heap.size+3:=by simp
 have hbs:=hb.size;rw [hs] at hbs;have m1:=((((MapU.made W4).alloc (.map #[] 0)).alloc (.cells #[.pointer (some ⟨gt,0,none⟩),.slice none 0 0,.map (some W4.heap.size),.slice none 0 0,.map (some (W4.heap.size+1))] 73))).below hb (by omega)
 have m2:=(((MapU.made (W4.alloc (.map #[] 0))).alloc (.cells #[.pointer (some ⟨gt,0,none⟩),.slice none 0 0,.map (some W4.heap.size),.slice none 0 0,.map (some (W4.heap.size+1))] 73))).below hb (by rw [World.size_alloc];omega)
 rw [World.size_alloc] at m2;have kb:=(Blk.new ((W4.alloc (.map #[] 0)).alloc (.map #[] 0)) 73 #[.pointer (some ⟨gt,0,none⟩),.slice none 0 0,.map (some W4.heap.size),.slice none 0 0,.map (some (W4.heap.size+1))]).below hb (by simp)
 simp only [World.size_alloc] at kb;have h0:Below W4.heap.size W4 (((W4.alloc (.map #[] 0)).alloc (.map #[] 0)).alloc (.cells #[.pointer (some ⟨gt,0,none⟩),.slice none 0 0,.map (some W4.heap.size),.slice none 0 0,.map (some (W4.heap.size+1))] 73)):=(((Below.refl W4.heap.size W4).alloc (Nat.le_refl _) _).alloc (by simp) _).alloc (by simp;omega) _
 refine ⟨⟨fun _=>sl0,none,0,0,none,0,0,[],[],kb,World.ownsRow_nil _ _ _ _,World.ownsRow_nil _ _ _ _,fun g h=>(by cases h),Nat.zero_le _,Nat.zero_le _,⟨⟨0,m1⟩,fun _ _=>rfl,fun _ _ h=>(by cases h),fun _=>⟨[],Reads.none_⟩⟩,fun _=>⟨fun _ _ h=>(by cases h),fun _ _ h=>(by cases h)⟩,fun _ _ h=>(by cases h),fun _ _ h=>(by cases h)⟩,
  ⟨[],Reads.none_⟩,⟨0,_,m2⟩,hm,fun t=>(hT.size t).1,h0.trans (hb.mono (by omega)),Nat.le_refl _,Nat.le_refl _,hbs⟩
theorem PolS.done {w0 w:World} {q gt bm k:Nat} {T:Int→TyI} {C:Int→Option Int} {sl:SlI} (h:PolS w0 w q gt bm k T C sl):PooS w (q+2) gt T C:=by
 obtain ⟨SC,Ai,ni,ci,Av,nv,cv,xi,xv,kb,oi,ov,hne,h1,h2,hC,-⟩:=h.pool;exact ⟨q,SC,_,_,_,kb,hC⟩
theorem two_spot {w:World} {g:Nat} {a b:Int} (k:Blk w g 28 #[.int .i64 a,.int .i64 b]) (x y:Int):(∀ {B n:Nat} {A:Option Addr} {l:List Int},Reads w B 1 A n (Ints .u32 l)→Reads ((w.setCell ⟨g,0,none⟩ (.int .i64 x)).setCell ⟨g,1,none⟩ (.int .i64 y)) B 1 A n (Ints .u32 l)) ∧
  (∀ m,m≠g→((w.setCell ⟨g,0,none⟩ (.int .i64 x)).setCell ⟨g,1,none⟩ (.int .i64 y)).heap[m]?=w.heap[m]?)∧((w.setCell ⟨g,0,none⟩ (.int .i64 x)).setCell ⟨g,1,none⟩ (.int .i64 y)).heap.size=w.heap.size:=by
 obtain ⟨r0,r1⟩:=two_ k;have kr2:Blk (w.setCell ⟨g,0,none⟩ (.int .i64 x)) g 28 #[.int .i64 x,.int .i64 b]:=by simpa using k.set_ 0 (.int .i64 x)
 have r2:=(two_ kr2).2;exact ⟨fun hr=>(hr.far_ r0 ints_no _).far_ r2 ints_no _,fun m hm=>(Below.heap_setCell _ _ _ _ hm).trans (Below.heap_setCell _ _ _ _ hm),by simp⟩
theorem TabW.spot {w:World} {g gt:Nat} {a b:Int} {T:Int→TyI} {S:Int→SlI} (h:TabW w (some ⟨gt,0,none⟩) T S) (k:Blk w g 28 #[.int .i64 a,.int .i64 b]) (x y:Int):TabW ((w.setCell ⟨g,0,none⟩ (.int .i64 x)).setCell ⟨g,1,none⟩ (.int .i64 y)) (some ⟨gt,0,none⟩) T S:=by
 obtain ⟨h1,h2,h3⟩:=two_spot k x y;refine ⟨?_,h.cap,h.mild⟩
 rcases h.tab with ⟨e,-⟩ | ⟨gt',bm,e,hc,hT⟩
 ·cases e
 ·cases e
  obtain ⟨r0,r1⟩:=two_ k;have hne:gt≠g:=fun he=>by rw [he,r0] at hc;cases hc
  refine .inr ⟨gt,bm,rfl,(World.cell?_of_block (h2 gt hne)).trans hc,?_⟩;have hbm:bm≠g:=by
   obtain ⟨cnt,has,hm,-⟩:=hT.mp;exact MapIs.ne_blk hm k
  exact hT.keepB (h2 bm hbm) (fun id=>by rw [h3];exact h1 (hT.reads id))
theorem PooS.spot {w:World} {g gp gt:Nat} {a b:Int} {T:Int→TyI} {C:Int→Option Int} (h:PooS w gp gt T C) (k:Blk w g 28 #[.int .i64 a,.int .i64 b]) (x y:Int):PooS ((w.setCell ⟨g,0,none⟩ (.int .i64 x)).setCell ⟨g,1,none⟩ (.int .i64 y)) gp gt T C:=by
 obtain ⟨h1,h2,h3⟩:=two_spot k x y;obtain ⟨bc,S,vi,vv,vm,kb,hC⟩:=h;have hne:gp≠g:=kb.ne_ k (by decide)
 have hbc:bc≠g:=by
  obtain ⟨cnt,hm⟩:=hC.mp;exact MapIs.ne_blk hm k
 refine ⟨bc,S,vi,vv,vm,(h2 gp hne).trans kb,?_⟩;rw [h3];exact hC.keepB (h2 bc hbc) (fun _ _ hr=>h1 hr)
theorem parts_cs (gen bound:Int) (ls:List InstA) (A:Option Addr) (n c:Nat) (W:World) (hM:ModS W W.heap.size A n ls) (hly:(layM bound (ls.map (·.1))).1=0) {fa fb:Nat} (ha:(cutR (ls.map (·.1))).2.2 14=(fa:Int)) (hb:(cutR (ls.map (·.1))).2.2 15=(fb:Int)) :
  Calls Tryz.prog 22 #[.agg #[.int .u32 gen,.int .u32 bound,.slice A n c]] W fun e w'=>∃ (cs:List Value) (l2:Int),e=.returned (.tuple #[.agg cs.toArray,.agg #[.int .i64 0,.int .i64 l2]])∧Below W.heap.size W w'∧cs.length=20∧cs.toArray.all (·.oneCell')=true∧cs[14]?=some (.int .i64 (fa:Nat))∧cs[15]?=some (.int .i64 (fb:Nat)):=by
 refine (parts_any gen bound ls A n c W hM).mono ?_;rintro e w' ⟨hbl,f,he,hf⟩;have hf:=hf hly;rw [hly] at he;refine ⟨(psA f).toList,(layM bound (ls.map (·.1))).2,by rw [he,Array.toArray_toList],hbl,rfl,all_oneCell_toArray (psA_one f),?_,?_⟩
 ·rw [← ha,← hf];rfl
 ·rw [← hb,← hf];rfl
theorem parts_laid (w2:World) (Z:Array Value) (hZ:Z.size=20) (cs:List Value) (hlc:cs.length=20) (l1 l2:Int) :
  ((w2.alloc (.cells Z 66)).alloc (.cells #[.int .i64 0,.int .i64 0] 28)).there w2.heap.size 0 cs.toArray.size ∧
  Blk (((w2.alloc (.cells Z 66)).alloc (.cells #[.int .i64 0,.int .i64 0] 28)).setCells w2.heap.size 0 cs) (w2.heap.size+1) 28 #[.int .i64 0,.int .i64 0] ∧
  Below w2.heap.size w2 (((((w2.alloc (.cells Z 66)).alloc (.cells #[.int .i64 0,.int .i64 0] 28)).setCells w2.heap.size 0 cs).setCell ⟨w2.heap.size+1,0,none⟩ (.int .i64 l1)).setCell ⟨w2.heap.size+1,1,none⟩ (.int .i64 l2)) ∧
  (((((w2.alloc (.cells Z 66)).alloc (.cells #[.int .i64 0,.int .i64 0] 28)).setCells w2.heap.size 0 cs).setCell ⟨w2.heap.size+1,0,none⟩ (.int .i64 l1)).setCell ⟨w2.heap.size+1,1,none⟩ (.int .i64 l2)).rangeAt w2.heap.size 0 cs:=by
 have kz:=(Blk.new w2 66 Z).alloc (.cells #[.int .i64 0,.int .i64 0] 28);have kS:=Blk.new (w2.alloc (.cells Z 66)) 28 #[.int .i64 0,.int .i64 0];rw [World.size_alloc] at kS;have hbA:=((Below.refl w2.heap.size w2).alloc (Nat.le_refl _) (.cells Z 66)).alloc (by simp) (.cells #[.int .i64 0,.int .i64 0] 28)
 have ht:((w2.alloc (.cells Z 66)).alloc (.cells #[.int .i64 0,.int .i64 0] 28)).there w2.heap.size 0 cs.toArray.size:=by
  rw [show cs.toArray.size=20 from by rw [List.size_toArray];exact hlc]
  rw [← hZ];exact blk_there kz
 have hr3:=World.rangeAt_setCells_same ((w2.alloc (.cells Z 66)).alloc (.cells #[.int .i64 0,.int .i64 0] 28)) w2.heap.size 0 cs (by rw [hlc,← hZ];exact blk_there kz)
 refine ⟨ht,(heap_setCells _ _ (by omega) cs 0 _).trans kS,((below_setCells (b:=w2.heap.size) (Nat.le_refl _) cs 0 _ hbA).setCell (p:=⟨w2.heap.size+1,0,none⟩) (Nat.le_succ _) _).setCell (p:=⟨w2.heap.size+1,1,none⟩) (Nat.le_succ _) _,fun j u hu=>?_⟩
 exact (World.cell?_of_block ((Below.heap_setCell _ _ _ _ (show w2.heap.size≠w2.heap.size+1 by omega)).trans (Below.heap_setCell _ _ _ _ (show w2.heap.size≠w2.heap.size+1 by omega)))).trans (hr3 j u hu)
theorem consts_any (gen bound:Int) (ls:List InstA) (A:Option Addr) (n c:Nat) (w:World) (hM:ModS w w.heap.size A n ls) (hP:Pow w)
  (hu:∀ x∈ls,∀ a∈x.1.2.2.2,0≤a.2.1∧a.2.1<4294967296) (hop:∀ x∈ls,0≤x.1.1∧x.1.1<65536) :
  Calls Tryz.prog 9 #[.agg (modC gen bound A n c)] w (ConIs (conM bound (ls.map (·.1))) w):=by
 have hlen:=hM.length;have hn:=hM.len;have hb0:=((Below.refl w.heap.size w).alloc (Nat.le_refl _) (.cells #[.int .u32 gen,.int .u32 bound,.slice A n c] 25)).alloc (by simp) (.cells #[.int .i64 0,.int .i64 0] 28)
 have k1:=(Blk.new w 25 #[.int .u32 gen,.int .u32 bound,.slice A n c]).alloc (.cells #[.int .i64 0,.int .i64 0] 28);have k3:=Blk.new (w.alloc (.cells #[.int .u32 gen,.int .u32 bound,.slice A n c] 25)) 28 #[.int .i64 0,.int .i64 0];rw [World.size_alloc] at k3;have hs0:((w.alloc (.cells #[.int .u32 gen,.int .u32 bound,.slice A n c] 25)).alloc (.cells #[.int .i64 0,.int .i64 0] 28)).heap.size=w.heap.size+2:=by simp
 have hnew:=new_any gen bound ls A n c _ (hM.step hb0) (hP.step hb0) hu hop;unfold modC at *;obtain ⟨z0,z1,z2⟩:=three_ k1
 by_cases h0:(newM bound (ls.map (·.1))).1=0
 ·have hi:(idsM bound (ls.map (·.1))).1=0:=by
   by_cases h1:(idsM bound (ls.map (·.1))).1=0
   ·exact h1
   ·unfold newM at h0;rw [if_pos h1] at h0;exact absurd h0 h1
  obtain ⟨hly,hcut⟩:=ids_cut hi;obtain ⟨fa,fb,hfa,hfb,hfl⟩:=cut7 hcut;have hsh:=ids_shape hi;have hnew2:Calls Tryz.prog 14 #[.agg #[.int .u32 gen,.int .u32 bound,.slice A n c]] ((w.alloc (.cells #[.int .u32 gen,.int .u32 bound,.slice A n c] 25)).alloc (.cells #[.int .i64 0,.int .i64 0] 28)) fun e w'=>∃ gt S,e=.returned (.tuple #[.pointer (some ⟨gt,0,none⟩),.agg #[.int .i64 0,.int .i64 0]])∧Below ((w.alloc (.cells #[.int .u32 gen,.int .u32 bound,.slice A n c] 25)).alloc (.cells #[.int .i64 0,.int .i64 0] 28)).heap.size ((w.alloc (.cells #[.int .u32 gen,.int .u32 bound,.slice A n c] 25)).alloc (.cells #[.int .i64 0,.int .i64 0] 28)) w'∧Typed (newM bound (ls.map (·.1))).2.2.T∧TabW w' (some ⟨gt,0,none⟩) (newM bound (ls.map (·.1))).2.2.T S:=by
   refine hnew.mono ?_;rintro e w' ⟨hb,⟨-,hw,gt,he,S,hT,-⟩ | ⟨h1,-⟩⟩
   ·exact ⟨gt,S,he,hb,hw.typed,hT⟩
   ·exact absurd h0 h1
  have hparts:=fun (W:World) (hb:Below w.heap.size w W)=>parts_cs gen bound ls A n c W (hM.step hb) hly hfa hfb
  have hv:conM bound (ls.map (·.1))=((conL (newM bound (ls.map (·.1))).2.2.T (fun _=>none) (((ls.map (·.1)).drop fa).take (fb-fa)) fa).1,(conL (newM bound (ls.map (·.1))).2.2.T (fun _=>none) (((ls.map (·.1)).drop fa).take (fb-fa)) fa).2.1,(newM bound (ls.map (·.1))).2.2,(conL (newM bound (ls.map (·.1))).2.2.T (fun _=>none) (((ls.map (·.1)).drop fa).take (fb-fa)) fa).2.2):=by
   unfold conM globs;rw [if_neg (fun h=>h h0),hfa,hfb,Int.toNat_natCast,Int.toNat_natCast]
  rw [hv];generalize (newM bound (ls.map (·.1))).2.2=s at *;obtain ⟨v,hv2⟩:∃ v,conL s.T (fun _=>none) (((ls.map (·.1)).drop fa).take (fb-fa)) fa=v:=⟨_,rfl⟩
  rw [hv2];have HV:=Lib.hid hv2;have HM:=Lib.hid hM;have HU:=Lib.hid hu;have HO:=Lib.hid hop;have HS:=Lib.hid hsh;have HI:=Lib.hid (show (Tryz.prog.info? 66).map (·.size)=some 20 from info134)
  clear hnew hv hv2 hM hP hu hop h0 hi hly hcut hfa hfb hsh;obtain ⟨Z,hZ,hzz⟩:∃ Z:Array Value,Z.size=20∧∀ w,(zeroValue 66).run Tryz.prog w=.ok (.agg Z) w:=⟨#[.int .i64 0,.int .i64 0,.int .i64 0,.int .i64 0,.int .i64 0,.int .i64 0,.int .i64 0,.int .i64 0,.int .i64 0,.int .i64 0,.int .i64 0,.int .i64 0,.int .i64 0,.int .i64 0,.int .i64 0,.int .i64 0,.int .i64 0,.int .i64 0,.int .i64 0,.int .i64 0],rfl,fun w=>by kernel_rfl⟩
  go_enter Tryz.func9,Tryz.ntmps9;go_wp2_with (first
   | (go_at_call 14;refine hnew2.mono ?_;rintro e w2 ⟨gt,S,rfl,hb2,hY,hT2⟩;have hb3:=below_cut hb0 hb2 (Nat.le_refl _);have kS:=Blk.new w2 28 #[.int .i64 0,.int .i64 0];have kR:=(k3.step hb2).alloc (.cells #[.int .i64 0,.int .i64 0] 28);have kM:=(k1.step hb2).alloc (.cells #[.int .i64 0,.int .i64 0] 28);have hT3:=hT2.step ((Below.refl w2.heap.size w2).alloc (Nat.le_refl _) (.cells #[.int .i64 0,.int .i64 0] 28));obtain ⟨x0,x1⟩:=two_ kS;obtain ⟨y0,y1,y2⟩:=three_ kM;have hb4:=hb3.alloc hb3.size (.cells #[.int .i64 0,.int .i64 0] 28))
   | (go_at_call 22;refine (hparts _ hb4).mono ?_;rintro e w4 ⟨cs,l2,rfl,hb5,hlc,hone,hc14,hc15⟩;obtain ⟨ht,kQ,hbW,hrg⟩:=parts_laid w4 Z hZ cs hlc 0 l2;have hi20:(Tryz.prog.info? 66).map (·.size)=some cs.toArray.size:=by { rw [List.size_toArray,hlc];exact HI.out };obtain ⟨u0,u1⟩:=two_ kQ;have uf:=kQ.frozen)
   | (refine wpList_store_mid rfl _ _ _ rfl _ _ cs.toArray rfl rfl ht hi20 hone ?_))
  have hT4:=(hT3.step hb5).step hbW;have kR4:=(kR.step hb5).step hbW;have kM4:=(kM.step hb5).step hbW;have hb6:=below_cut (below_cut hb4 hb5 (Nat.le_refl _)) hbW (Nat.le_refl _);have hp4:w4.heap.size<(((((w4.alloc (.cells Z 66)).alloc (.cells #[.int .i64 0,.int .i64 0] 28)).setCells w4.heap.size 0 cs).setCell ⟨w4.heap.size+1,0,none⟩ (.int .i64 0)).setCell ⟨w4.heap.size+1,1,none⟩ (.int .i64 l2)).heap.size:=World.block_lt_of_cell? _ _ (hrg 0 _ (by rw [List.getElem?_eq_getElem (by omega)]))
  have g14:=hrg 14 _ hc14;have g15:=hrg 15 _ hc15;clear hb2 hb3 hb4 hb5 hbW hrg ht kQ hi20 hone hc14 hc15 u0 u1 uf kS kR kM hT3 hT2 x0 x1 y0 y1 y2 z0 z1 z2 k1 k3 hb0 hs0 hparts hnew2 hlc hzz hZ HI;generalize (((((w4.alloc (.cells Z 66)).alloc (.cells #[.int .i64 0,.int .i64 0] 28)).setCells w4.heap.size 0 cs).setCell ⟨w4.heap.size+1,0,none⟩ (.int .i64 0)).setCell ⟨w4.heap.size+1,1,none⟩ (.int .i64 l2))=W4 at hT4 kR4 kM4 hb6 hp4 g14 g15 ⊢;simp only [Nat.zero_add] at g14 g15;generalize w4.heap.size=pb at hp4 g14 g15 ⊢;have hM4:=HM.out.step hb6;have hst:=fun (w6:World)=>pol_start (W4:=W4) (w6:=w6) (gt:=gt) (k:=fa) hY
  have hQ:=poolMakers_any (W4.heap.size+2) (((W4.alloc (.map #[] 0)).alloc (.map #[] 0)).alloc (.cells #[.pointer (some ⟨gt,0,none⟩),.slice none 0 0,.map (some W4.heap.size),.slice none 0 0,.map (some (W4.heap.size+1))] 73));simp only [World.size_alloc,Nat.add_assoc,Nat.reduceAdd] at hQ;have hmm:=@run_makeMap Tryz.prog;go_simp
  go_wp2_with (go_at_call 23;(try simp only [Nat.add_assoc,Nat.reduceAdd]);refine hQ.mono ?_;rintro e w6 ⟨rfl,hm6,hb7⟩;have PS:=hst w6 hb7 hm6;have q14:=(PS.below.cell (p:=⟨pb,14,none⟩) hp4).trans g14;have q15:=(PS.below.cell (p:=⟨pb,15,none⟩) hp4).trans g15)
  clear hst hQ hmm
  (try simp only [Nat.add_assoc,Nat.reduceAdd])
  go_loopg [10] (fb-fa) (fun p i wr=>∃ (k:Nat) (Ck:Int→Option Int),p=fb-k∧i=.int .i64 (k:Nat)∧Hid (conL s.T Ck (((ls.map (·.1)).drop k).take (fb-k)) k=v)∧PolS W4 wr W4.heap.size gt (W4.heap.size+3) k s.T Ck sl0)
  case atStart=>exact ⟨fa,fun _=>none,rfl,rfl,HV,PS⟩
  case round =>
   obtain ⟨k,Ck,hp,rfl,HK,hN⟩:=hrel;clear PS q14 q15;have q15:=(hN.below.cell (p:=⟨pb,15,none⟩) hp4).trans g15;have kMr:=kM4.step hN.below;have kRr:=kR4.step hN.below;obtain ⟨y0,y1,y2⟩:=three_ kMr
   by_cases hlt:k<fb
   ·obtain ⟨b9,off,rfl,hbb,hcc⟩:=(hM4.step hN.below).reads.insts (by omega)
    obtain ⟨c0,c1,c2,c3⟩:=hcc k (by omega)
    have hli:ls.length=n:=by rw [← hlen,List.length_map]
    have hmem:=ig_mem (l:=ls) (k:=k) (by omega)
    have hio:=((HM.out.step (below_cut hb6 hN.below (Nat.le_refl _))).ok _ hmem);have hgl:(ls.map (·.1))[k]?=some (ig ls k).1:=ig_map (ls:=ls) (k:=k) (by omega)
    have hdr:((ls.map (·.1)).drop k).take (fb-k)=(ig ls k).1 :: ((ls.map (·.1)).drop (k+1)).take (fb-(k+1)):=by
     obtain ⟨hk2,he2⟩:=List.getElem?_eq_some_iff.1 hgl;rw [List.drop_eq_getElem_cons hk2,he2,show fb-k=(fb-(k+1))+1 by omega,List.take_succ_cons]
    have hst:=HK.out;rw [hdr] at hst;replace hst:(if conE s.T Ck (ig ls k).1≠0 then (conE s.T Ck (ig ls k).1,(k:Int),Ck) else conL s.T (conN Ck (ig ls k).1) (((ls.map (·.1)).drop (k+1)).take (fb-(k+1))) (k+1))=v:=hst
    obtain ⟨f,wi⟩:=rawR_ok (HS.out _ (List.mem_map.2 ⟨_,hmem,rfl⟩));have hle:=wi.least;have hadd:=add_any W4 W4.heap.size gt (W4.heap.size+3) k s.T S Ck (ig ls k) wr hN hT4 hY hio (by omega) (fun h=>by
     have h1:1≤argN (ig ls k).1.1:=by rcases h with e | e <;> rw [e] <;> decide
     omega)
    generalize conE s.T Ck (ig ls k).1=E at hst hadd;generalize conN Ck (ig ls k).1=C' at hst hadd;generalize ig ls k=X at *;obtain ⟨⟨op,ty,res,l⟩,A',n',c'⟩:=X;unfold instC at hadd;dsimp only at c0 c1 c2 c3 hadd;have d1:decide (((k:Nat):Int)<(fb:Nat))=true:=by rw [decide_eq_true_eq];omega
    have hi1:((k:Nat):Int)<(n:Nat):=by omega
    have hi2:k<n:=by omega
    have HST:=Lib.hid hst;clear hst hdr hgl hmem hio wi hle hcc HK
    by_cases hE:E=0
    ·have d2:(E != 0)=false:=by simpa using hE
     go_wp2_with (go_at_call 24;refine hadd.mono ?_;rintro e w5 ⟨rfl,P5⟩)
     go_roundg (fb-(k+1))
     case measure=>omega
     case rel=>exact ⟨k+1,C',rfl,by go_num,Lib.hid (by rw [← HST.out,if_neg (fun h=>h hE)]),P5⟩
    ·have d2:(E != 0)=true:=by simpa using hE
     have HE:=Lib.hid hE;have hv1:=HST.out;rw [if_pos hE] at hv1;have HV1:=Lib.hid hv1;clear hv1 HST;go_wp2_with (go_at_call 24;refine hadd.mono ?_;rintro e w5 ⟨rfl,P5⟩;have kR5:=kR4.step P5.below;obtain ⟨r0,r1⟩:=two_ kR5;have fz:=kR5.frozen;have HB:=Lib.hid (below_cut hb6 P5.below (Nat.le_refl _)))
     exact bodyPost_ret (spot_end rfl _ rfl rfl (spot_put kR5 (.int .i64 E) (.int .i64 k))) rfl ⟨(HB.out.setCell (p:=⟨w.heap.size+1,0,none⟩) (Nat.le_succ _) _).setCell (p:=⟨w.heap.size+1,1,none⟩) (Nat.le_succ _) _,.inr ⟨by rw [← HV1.out];exact HE.out,by rw [← HV1.out];rfl⟩⟩
   ·have d1:decide (((k:Nat):Int)<(fb:Nat))=false:=by rw [decide_eq_false_iff_not];omega
    have hv1:=HK.out;rw [show fb-k=0 by omega,List.take_zero] at hv1
    have hv2:v=(0,0,Ck):=hv1.symm;have HV2:=Lib.hid hv2;have HN:=Lib.hid hN;have hsz:=hN.top;obtain ⟨r0,r1⟩:=two_ kRr;have fz:=kRr.frozen;have HB:=Lib.hid (below_cut hb6 hN.below (Nat.le_refl _));have HT:=Lib.hid (hT4.step hN.below);clear hv1 hv2 HK hN;go_wp2_with fail;exact bodyPost_ret (spot_end rfl _ rfl rfl (spot_put kRr (.int .i64 0) (.int .i64 0))) rfl ⟨(HB.out.setCell (p:=⟨w.heap.size+1,0,none⟩) (Nat.le_succ _) _).setCell (p:=⟨w.heap.size+1,1,none⟩) (Nat.le_succ _) _,.inl ⟨by rw [HV2.out],W4.heap.size+2,gt,S,rfl,HT.out.spot kRr 0 0,by rw [HV2.out];exact HN.out.done.spot kRr 0 0⟩⟩
 ·have hnew2:Calls Tryz.prog 14 #[.agg #[.int .u32 gen,.int .u32 bound,.slice A n c]] ((w.alloc (.cells #[.int .u32 gen,.int .u32 bound,.slice A n c] 25)).alloc (.cells #[.int .i64 0,.int .i64 0] 28)) fun e w'=>e=.returned (.tuple #[.pointer none,.agg #[.int .i64 (newM bound (ls.map (·.1))).1,.int .i64 (newM bound (ls.map (·.1))).2.1]])∧Below ((w.alloc (.cells #[.int .u32 gen,.int .u32 bound,.slice A n c] 25)).alloc (.cells #[.int .i64 0,.int .i64 0] 28)).heap.size ((w.alloc (.cells #[.int .u32 gen,.int .u32 bound,.slice A n c] 25)).alloc (.cells #[.int .i64 0,.int .i64 0] 28)) w':=by
   refine hnew.mono ?_;rintro e w' ⟨hb,⟨h1,-⟩ | ⟨-,h1⟩⟩
   ·exact absurd h1 h0
   ·exact ⟨h1,hb⟩
  have hv:conM bound (ls.map (·.1))=((newM bound (ls.map (·.1))).1,(newM bound (ls.map (·.1))).2.1,st0,fun _=>none):=by
   unfold conM;rw [if_pos h0]
  rw [hv];generalize (newM bound (ls.map (·.1))).1=e1 at *;generalize (newM bound (ls.map (·.1))).2.1=e2 at *;have d1:(e1 != 0)=true:=by simpa using h0
  have HZ:=Lib.hid h0;clear hnew hv hM hP hu hop h0;go_enter Tryz.func9,Tryz.ntmps9;go_wp2_with (go_at_call 14;refine hnew2.mono ?_;rintro e w2 ⟨rfl,hb2⟩;have hb3:=below_cut hb0 hb2 (Nat.le_refl _);have kS:=Blk.new w2 28 #[.int .i64 e1,.int .i64 e2];have kR:=(k3.step hb2).alloc (.cells #[.int .i64 e1,.int .i64 e2] 28);obtain ⟨x0,x1⟩:=two_ kS;obtain ⟨r0,r1⟩:=two_ kR;have fz:=kR.frozen;have hb4:=hb3.alloc hb3.size (.cells #[.int .i64 e1,.int .i64 e2] 28))
  clear hnew2 hb2 hb3 hb0 k1 k3 z0 z1 z2;go_region
  all_goals
   go_wp2_with fail;exact bodyPost_ret (spot_end rfl _ rfl rfl (spot_put kR (.int .i64 e1) (.int .i64 e2))) rfl ⟨(hb4.setCell (p:=⟨w.heap.size+1,0,none⟩) (Nat.le_succ _) _).setCell (p:=⟨w.heap.size+1,1,none⟩) (Nat.le_succ _) _ |>.drew,.inr ⟨HZ.out,rfl⟩⟩
end
end Go.Proofs.YtdebjkiilnhgpaaGreatDoor
