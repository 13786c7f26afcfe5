/- Walks: the cutter's block. -/
import Derived.Test.YtdebjkiilnhgpaaGreatDoorCTJ
import Derived.Test.YtdebjkiilnhgpaaGreatDoorCTH
import Derived.Deep.RegionLaw
set_option maxRecDepth 100000
set_option maxHeartbeats 4000000
namespace Go.Proofs.YtdebjkiilnhgpaaGreatDoor
open Go.RowKit
theorem K6.new {w0:World} {g b off n c k:Nat} {op ty res:Int} {Ax:Option Addr} {nx_ cx:Nat} {w':World} (h:K6 w0 g b off n c k op ty res Ax nx_ cx w') {o:Obj}:K6 w0 g b off n c k op ty res Ax nx_ cx (w'.alloc o):=by
 have e:∀ (p:Addr) (v:Value),w'.cell? p=some v→(w'.alloc o).cell? p=some v:=fun p v hv=>(World.cell?_alloc_lt w' o p (World.block_lt_of_cell? w' p hv)).trans hv
 exact ⟨e _ _ h.1,e _ _ h.2.1,e _ _ h.2.2.1,e _ _ h.2.2.2.1,e _ _ h.2.2.2.2.1,e _ _ h.2.2.2.2.2.1,h.is.alloc h.is.size _⟩
abbrev K8 (w0:World) (g b off n c j i:Nat) (o1 o2:Int) (w':World):Prop :=
 w'.cell? ⟨g,0,none⟩=some (.slice (some ⟨b,off,none⟩) n c)∧w'.cell? ⟨g,1,none⟩=some (.int .i64 (j:Nat)) ∧
 w'.cell? ⟨b,off+i*4,none⟩=some (.int .u16 o1)∧w'.cell? ⟨b,off+j*4,none⟩=some (.int .u16 o2)∧Below w0.heap.size w0 w'
theorem K8.is {w0:World} {g b off n c j i:Nat} {o1 o2:Int} {w':World} (h:K8 w0 g b off n c j i o1 o2 w'):Below w0.heap.size w0 w':=h.2.2.2.2
theorem K8.drew_ {w0:World} {g b off n c j i:Nat} {o1 o2:Int} {w':World} (h:K8 w0 g b off n c j i o1 o2 w'):K8 w0 g b off n c j i o1 o2 w'.drew:=⟨h.1,h.2.1,h.2.2.1,h.2.2.2.1,h.is.drew⟩
theorem K8.call {w0:World} {g b off n c j i:Nat} {o1 o2:Int} {w1 w2:World} (hg:g<w0.heap.size) (hb:b<w0.heap.size) (h:K8 w0 g b off n c j i o1 o2 w1) (hq:Below w1.heap.size w1 w2):K8 w0 g b off n c j i o1 o2 w2:=by
 have hs:=h.is.size;have e:∀ (p:Addr),p.block<w0.heap.size→w2.cell? p=w1.cell? p:=fun p hp=>hq.cell (by omega)
 exact ⟨(e _ hg).trans h.1,(e _ hg).trans h.2.1,(e _ hb).trans h.2.2.1,(e _ hb).trans h.2.2.2.1,below_cut h.is hq (Nat.le_refl _)⟩
theorem block_any (ls:List InstA) (A:Option Addr) (n c B g gf k nb:Nat) (ps:Nat→Int) (F:Value) (w:World) (hC:CutS w B g A n c k ps F) (hF:FnS w B gf nb) (hM:ModS w B A n ls) (hk:k<n) (hnb:nb≤k) (hsm:n≤1048576) :
  Calls Tryz.prog 107 #[.pointer (some ⟨g,0,none⟩),.pointer (some ⟨gf,0,none⟩)] w fun e w'=>e=.returned (.bool (blockR (ls.map (·.1)) (decide (nb=0)) k).1) ∧
   CutS w' B g A n c (blockR (ls.map (·.1)) (decide (nb=0)) k).2 ps F∧FnS w' B gf (if (blockR (ls.map (·.1)) (decide (nb=0)) k).1=true then nb+1 else nb)∧Below B w w'∧KeepF gf w w':=by
 have hn:=hM.len;have hlen:=hM.length;have hil:=hM.reads.insts_len;have hlow:=hC.low;have hgl:=hC.lt;obtain ⟨v,hv⟩:∃ v,v=blockR (ls.map (·.1)) (decide (nb=0)) k:=⟨_,rfl⟩;rw [← hv];obtain ⟨m,hm⟩:∃ m,m=(if v.1=true then nb+1 else nb):=⟨_,rfl⟩
 rw [← hm];have HM:=Lib.hid hm;unfold blockR at hv;dsimp only at hv;clear hm;obtain ⟨r1,hr1⟩:∃ r1,r1=rowEnd (ls.map (·.1)) (if decide (nb=0)=true then 5 else 4) (k+1):=⟨_,rfl⟩
 obtain ⟨r2,hr2⟩:∃ r2,r2=rowEnd (ls.map (·.1)) 0 r1:=⟨_,rfl⟩;rw [← hr1,← hr2] at hv;have hb1:=rowEnd_bd (l:=ls.map (·.1)) (kd:=if decide (nb=0)=true then 5 else 4) (k:=k+1) (by omega)
 rw [← hr1] at hb1;have hb2:=rowEnd_bd (l:=ls.map (·.1)) (kd:=0) (k:=r1) hb1.2;rw [← hr2] at hb2;rw [hlen] at hb1 hb2;have HV:=Lib.hid hv;have HR1:=Lib.hid hr1;have HR2:=Lib.hid hr2;clear hv hr1 hr2;obtain ⟨b,off,rfl,hbb,hc⟩:=hM.reads.insts (by omega)
 obtain ⟨c0,c1,c2,c3⟩:=hc k hk;generalize ig ls k=x at *;obtain ⟨⟨op,ty,res,al⟩,Ax,nx_,cx⟩:=x;dsimp only at *;obtain ⟨y0,y1,-,fz⟩:=hC.cells;have hbw:b<w.heap.size:=by omega
 have hS0:K6 w g b off n c k op ty res Ax nx_ cx w:=⟨y0,y1,c0,c1,c2,c3,Below.refl _ _⟩;have hkI:((k:Nat):Int)<(n:Nat):=by omega
 clear hc y0 y1 c0 c1 c2 c3;go_enter Tryz.func107,Tryz.ntmps107;go_wp2_with fail;go_region_held3 (K6 w g b off n c k op ty res Ax nx_ cx) (first | with_reducible exact hS0.drew_ | with_reducible assumption | with_reducible exact hS0.new.drew_ | fail) (fail)
 have hB1:BlkS w (w.alloc (.cells #[.int .u32 res,.int .i64 (k:Nat),.int .i64 0] 180)).drew B g gf w.heap.size (some ⟨b,off,none⟩) n c k ps F nb (.int .u32 res) (.int .i64 (k:Nat)) (.int .i64 0):=by
  have hal:=((Below.refl w.heap.size w).alloc (Nat.le_refl _) (.cells #[.int .u32 res,.int .i64 (k:Nat),.int .i64 0] 180)).drew;refine ⟨hC.step hal,hF.step hal,(Blk.new w 180 #[.int .u32 res,.int .i64 (k:Nat),.int .i64 0]).drew,by omega,fun Ab cb e=>?_,hal.mono (by omega),.of_below hal⟩
  obtain ⟨Ab',cb',xs',e3,-,ho⟩:=hF.blks;have e4:=(hal.cell (p:=⟨gf,3,none⟩) hF.lt).symm.trans e;rw [e3] at e4;injection e4 with e4
  rw [← e4];exact own_ne_high ho (Nat.le_refl _)
 clear hS0;generalize (w.alloc (.cells #[.int .u32 res,.int .i64 (k:Nat),.int .i64 0] 180)).drew=w1 at hB1 ⊢;obtain ⟨bl,hbl⟩:∃ bl,bl=w.heap.size:=⟨_,rfl⟩;rw [← hbl] at hB1 ⊢;have HBL:=Lib.hid hbl;clear hbl;have hB2:BlkS w (w1.setCell ⟨g,1,none⟩ (.int .i64 ((k:Int)+1))) B g gf bl (some ⟨b,off,none⟩) n c (k+1) ps F nb (.int .u32 res) (.int .i64 (k:Nat)) (.int .i64 0):=hB1.atPut (k+1);obtain ⟨y0,y1,-,fz⟩:=hB1.cut.cells;obtain ⟨Ab,cb,xs,e3,-,ho⟩:=hB2.fn.blks;have hrow:=crow_any ls (some ⟨b,off,none⟩) n c B g (k+1) ps F (if decide (nb=0)=true then 5 else 4) _ hB2.cut (hM.keep hB2.below) (by omega) (by split <;> decide)
 rw [← HR1.out] at hrow
 by_cases h0:nb=0
 case' pos =>
  have d0:(((nb:Nat):Int)==0)=true:=by rw [h0];rfl
  rw [if_pos (by simpa using h0)] at hrow
 case' neg =>
  have d0:(((nb:Nat):Int)==0)=false:=by rw [beq_eq_false_iff_ne];omega
  rw [if_neg (by simpa using h0)] at hrow
 all_goals
  clear h0;go_wp2_with fail;refine hrow.mono ?_;rintro en w3 ⟨⟨A3,n3,c3,rfl⟩,hC3,hg3⟩;have hB3:=hB2.only hg3 hC3;clear hrow hC3 hg3 hB2 y0 y1 fz e3 ho hB1;have hrow:=crow_any ls (some ⟨b,off,none⟩) n c B g r1 ps F 0 _ hB3.cut (hM.keep hB3.below) (by omega) (by decide)
  rw [← HR2.out] at hrow;go_wp2_with fail;refine hrow.mono ?_;rintro en w4 ⟨⟨A4,n4,c4,rfl⟩,hC4,hg4⟩;have hB4:=hB3.only hg4 hC4;clear hrow hC4 hg4 hB3;have hnx:=next_any ls (some ⟨b,off,none⟩) n c B g r2 ps F _ hB4.cut (hM.keep hB4.below) (by omega)
  have hnw:=nx_wf (ls.map (·.1)) r2;go_wp2_with fail;refine hnx.mono ?_;rintro en w5 ⟨rfl,hb5⟩;have hB5:=hB4.step hb5;clear hnx hb5 hB4
  by_cases h6:nx (ls.map (·.1)) r2=6
  ·have hv:=HV.out;rw [if_pos h6] at hv;have hkn:=nx_lt (l:=ls.map (·.1)) (k:=r2) (by omega)
   rw [hlen] at hkn;rw [h6];obtain ⟨jM,hjM⟩:∃ jM,jM=r2+1:=⟨_,rfl⟩;have hB6:BlkS w (w5.setCell ⟨g,1,none⟩ (.int .i64 ((r2:Int)+1))) B g gf bl (some ⟨b,off,none⟩) n c (r2+1) ps F nb (.int .u32 res) (.int .i64 (k:Nat)) (.int .i64 0):=hB5.atPut (r2+1);obtain ⟨y0,y1,-,fz⟩:=hB5.cut.cells;clear hnw h6;go_wp2_with fail;clear y0 y1 fz hB5;generalize w5.setCell ⟨g,1,none⟩ (.int .i64 ((r2:Int)+1))=w6 at hB6 ⊢;rw [← hjM] at hv hB6;have hsub:((jM:Nat):Int)-1=((r2:Nat):Int):=by omega
   have HJ:=Lib.hid hjM;have hnx:∀ w',K0 w6 w'→_:=fun w' hd=>next_any ls (some ⟨b,off,none⟩) n c B g jM ps F w' (hB6.cut.step hd) (hM.keep (hB6.below.trans (hd.mono hB6.size))) (by omega)
   have HVm:=Lib.hid hv;clear hv
   by_cases h7:nx (ls.map (·.1)) jM=7
   ·have hkm:=nx_lt (l:=ls.map (·.1)) (k:=jM) (by omega)
    rw [hlen] at hkm;obtain ⟨b',off',hbe,-,hc⟩:=(hM.keep hB6.below).reads.insts (by omega)
    cases hbe
    have c0:=(hc r2 hkn).1;have c1:=(hc jM hkm).1;have ho1:=opAt_at (ig_map (ls:=ls) (k:=r2) (by omega))
    have ho2:=opAt_at (ig_map (ls:=ls) (k:=jM) (by omega))
    rw [← ho1] at c0;rw [← ho2] at c1;rw [h7] at hnx;generalize opAt (ls.map (·.1)) r2=o1 at *;generalize opAt (ls.map (·.1)) jM=o2 at *;have hmay:=fun w=>may_any o1 o2 w
    have hv:=HVm.out;obtain ⟨mb,hmb⟩:∃ mb,mb=mayB o1 o2:=⟨_,rfl⟩;rw [← hmb] at hmay hv;obtain ⟨y0,y1,-,-⟩:=hB6.cut.cells;have hgw:=hB6.cut.lt;have hBw6:=hB6.size;have hbw6:b<w6.heap.size:=by omega
    have hS8:K8 w6 g b off n c jM r2 o1 o2 w6:=⟨y0,y1,c0,c1,Below.refl _ _⟩;have hI1:((r2:Nat):Int)<(n:Nat):=by omega
    have hI2:((jM:Nat):Int)<(n:Nat):=by omega
    have hI3:IntKind.i64.wrap (((jM:Nat):Int)-1)=((r2:Nat):Int):=by rw [hsub];exact IntWalk.i64_in _ (by omega)
    clear hsub;have HV7:=Lib.hid (show v=if mb=true then (true,r2+2) else (false,jM) by rw [hv];simp only [h7,true_and])
    clear hv HVm h7 hmb ho1 ho2 c0 c1 hc y0 y1 hjM
    rcases mb with _ | _
    ·have hv1:v=(false,jM):=HV7.out;have HV1:=Lib.hid hv1;clear hv1;go_region_held3 (K8 w6 g b off n c jM r2 o1 o2) (first | with_reducible exact hS8.drew_ | with_reducible assumption | with_reducible exact K8.call hgw hbw6 (by assumption) hbq | fail) ((first | (go_at_call 105;refine (hnx _ (K8.is (by assumption))).mono ?_;rintro en w' ⟨rfl,hbq⟩) | (go_at_call 128;refine (hmay _).mono ?_;rintro en w' ⟨rfl,rfl⟩)))
     have hB7:=hB6.step (K8.is (by assumption))
     go_wp2_with fail;go_ret
     have hm:m=nb:=by rw [HM.out,HV1.out];rfl
     rw [HV1.out,hm];exact ⟨rfl,hB7.cut,hB7.fn,hB7.below,hB7.keep⟩
    ·have hv1:v=(true,r2+2):=HV7.out;have HV9:=Lib.hid hv1;clear hv1;go_region_held3 (K8 w6 g b off n c jM r2 o1 o2) (first | with_reducible exact hS8.drew_ | with_reducible assumption | with_reducible exact K8.call hgw hbw6 (by assumption) hbq | fail) ((first | (go_at_call 105;refine (hnx _ (K8.is (by assumption))).mono ?_;rintro en w' ⟨rfl,hbq⟩) | (go_at_call 128;refine (hmay _).mono ?_;rintro en w' ⟨rfl,rfl⟩)))
     have hBF:=hB6.step (K8.is (by assumption))
     have HVF:=Lib.hid (show v=(true,jM+1) by rw [HV9.out];have:=HJ.out;simp;omega)
     clear hB6 hnx hmay hS8;obtain ⟨wF,hwF⟩:∃ wF,wF=w':=⟨_,rfl⟩;rw [← hwF] at hBF ⊢;clear hwF;obtain ⟨jF,hjF⟩:∃ jF,jF=jM:=⟨_,rfl⟩;rw [← hjF] at hBF HVF;have hkn:jF<n:=by omega
     have hjb:nb≤jF:=by have:=HJ.out;omega
     clear hjF;have hB6:BlkS w (wF.setCell ⟨g,1,none⟩ (.int .i64 ((jF:Int)+1))) B g gf bl (some ⟨b,off,none⟩) n c (jF+1) ps F nb (.int .u32 res) (.int .i64 (k:Nat)) (.int .i64 0):=hBF.atPut (jF+1);have hB7:=hB6.toPut (.int .i64 ((jF:Int)+1));obtain ⟨y0,y1,-,fz⟩:=hBF.cut.cells;obtain ⟨z0,z1,-,-⟩:=hB6.cut.cells;have q2:=hB6.blk.cell 2;have fq:=hB6.blk.frozen;simp at q2;go_wp2_with fail;clear y0 y1 fz z0 z1 q2 fq hBF hB6;generalize (wF.setCell ⟨g,1,none⟩ (.int .i64 ((jF:Int)+1))).setCell ⟨bl,2,none⟩ (.int .i64 ((jF:Int)+1))=w7 at hB7 ⊢;obtain ⟨hfl,id,at_,en,P,Ab,cb,xs,kf,ho⟩:=hB7.fn;have e3:=kf.cell 3;have e4:=fun o=>(World.cell?_alloc_lt w7 o ⟨gf,3,none⟩ kf.lt).trans e3
     have q0:=hB7.blk.cell 0;have q1:=hB7.blk.cell 1;have q2:=hB7.blk.cell 2;simp at e3 e4 q0 q1 q2;have hlit:=Reads.litN w7.drew #[.int .u32 res,.int .i64 (k:Nat),.int .i64 ((jF:Int)+1)] 180 3 1 3 rfl rfl (by omega)
     have hsz7:=hB7.size;have hne:(Value.slice Ab nb cb).ownBlock≠some gf:=own_blk_ne ho kf (by decide)
     go_region_law (first
      | (refine step_ap_any slBlk (w7.drew.alloc (.cells #[.int .u32 res,.int .i64 (k:Nat),.int .i64 ((jF:Int)+1)] 180)) rfl _ _ rfl B _ _ _ rfl (ho.drew.alloc _) _ _ 1 1 [.int .u32 res,.int .i64 (k:Nat),.int .i64 ((jF:Int)+1)] rfl hlit (by simp [Value.oneCell']) (by omega) (by omega) (by rw [World.size_alloc];exact Nat.le_succ_of_le hsz7) ?_;intro A8 c8 w8 ho8 hg8;have kf8:=(kf.drew.alloc (.cells #[.int .u32 res,.int .i64 (k:Nat),.int .i64 ((jF:Int)+1)] 180)).grown hg8 (Ne.symm hne);have p3:=kf8.cell 3;have p4:=kf8.frozen 3;simp at p3))
     all_goals
      have hC8:=(hB7.cut.drew.alloc (.cells #[.int .u32 res,.int .i64 (k:Nat),.int .i64 ((jF:Int)+1)] 180)).grown hg8 (by obtain ⟨-,cs',hb,-⟩:=hB7.cut;exact Ne.symm (own_blk_ne ho hb (by decide)))
      have hC9:=hC8.far (p:=⟨gf,3,none⟩) (hB7.cut.ne_fn hB7.fn) (.slice A8 (nb+1) c8);have hF9:FnS (w8.setCell ⟨gf,3,none⟩ (.slice A8 (nb+1) c8)) B gf (nb+1):=⟨hfl,id,at_,en,P,A8,c8,_,by simpa using kf8.set_ 3 (.slice A8 (nb+1) c8),own_set_other ho8 (p:=⟨gf,3,none⟩) (own_blk_ne ho8 kf8 (by decide)) _⟩
      have hb9:=(((hB7.below.drew).alloc hsz7 (.cells #[.int .u32 res,.int .i64 (k:Nat),.int .i64 ((jF:Int)+1)] 180)).grown hg8 (by rw [World.size_alloc];exact Nat.le_succ_of_le hsz7) (fun j hj=>(ho.lt j hj).1)).setCell (p:=⟨gf,3,none⟩) hfl (.slice A8 (nb+1) c8)
      have hk9:KeepF gf w (w8.setCell ⟨gf,3,none⟩ (.slice A8 (nb+1) c8)):=hB7.keep.trans (fun j t cs kj h1 _ h3=>((kj.drew.alloc (.cells #[.int .u32 res,.int .i64 (k:Nat),.int .i64 ((jF:Int)+1)] 180)).grown hg8 (Ne.symm (own_blk_ne ho kj (Ne.symm h3)))).far (p:=⟨gf,3,none⟩) h1 _)
      have hm:m=nb+1:=by rw [HM.out,HVF.out];rfl
      have HM1:=Lib.hid hm;clear hm hC8 hg8 ho8 p3 p4 kf8;go_wp2_with fail;go_ret
      rw [HVF.out,HM1.out];exact ⟨rfl,hC9,hF9,hb9,hk9⟩
   ·have hv:=HVm.out;rw [if_neg (fun hh=>h7 hh.1)] at hv
    have HV1:=Lib.hid hv;generalize nx (ls.map (·.1)) jM=z at *;have d7:(z != 7)=true:=by simpa using h7
    have hK0:K0 w6 w6:=Below.refl _ _;clear hv h7 hjM;refine wp_region_held_drew (S:=K0 w6) (by kernel_rfl) hK0.drew_ (fun hHeld=>?_)
    refine wpAnyH_take (i:=0) (oi:=_) (v:=?_) rfl (by kernel_rfl) (by kernel_rfl) (by kernel_rfl) (fun _ _ _ h=>h) (Or.inl ⟨by rfl,?_⟩) hHeld ?_
    rotate_left
    ·intro w' hSw;go_simp
     try with_reducible rfl
    (try simp only [Act.put,List.setIfInBounds_toArray,List.set_cons_zero,List.set_cons_succ,List.getElem_toArray,List.getElem_cons_zero])
    refine wpAnyH_ready (rs:=[1]) (by kernel_rfl) (by simp) ?_
    refine AllReadyH.cons (o:=_) rfl (fun K hK=>?_) AllReadyH.nil
    go_simp
    go_at_call 105
    refine (hnx _ hHeld).mono ?_;rintro en w2 ⟨rfl,hbq⟩
    (try go_wp2_with fail)
    have hHeld2:=K0.call hHeld hbq;refine hK.out _ _ hHeld2 (fun hHeld=>?_)
    clear hK K hHeld2
    (try simp only [Act.put,List.setIfInBounds_toArray,List.set_cons_zero,List.set_cons_succ,List.getElem_toArray,List.getElem_cons_succ,List.getElem_cons_zero])
    refine wpAnyH_take (i:=2) (oi:=_) (v:=?_) rfl (by kernel_rfl) (by kernel_rfl) (by kernel_rfl) (fun _ _ _ h=>h) (Or.inl ⟨by rfl,?_⟩) hHeld ?_
    rotate_left
    ·intro w' hSw;go_simp
     try with_reducible rfl
    (try simp only [Act.put,List.setIfInBounds_toArray,List.set_cons_zero,List.set_cons_succ,List.getElem_toArray,List.getElem_cons_succ,List.getElem_cons_zero])
    refine wpAnyH_take (i:=3) (oi:=_) (v:=?_) rfl (by kernel_rfl) (by kernel_rfl) (by kernel_rfl) (fun _ _ _ h=>h) (Or.inl ⟨by rfl,?_⟩) hHeld ?_
    rotate_left
    ·intro w' hSw;go_simp
     try with_reducible rfl
    (try simp only [Act.put,List.setIfInBounds_toArray,List.set_cons_zero,List.set_cons_succ,List.getElem_toArray,List.getElem_cons_succ,List.getElem_cons_zero])
    refine wpAnyH_take (i:=4) (oi:=_) (v:=undef) rfl (by kernel_rfl) (by kernel_rfl) (by kernel_rfl) (fun _ _ _ h=>h) (Or.inr ⟨by rfl,rfl⟩) hHeld ?_
    (try simp only [Act.put,List.setIfInBounds_toArray,List.set_cons_zero,List.set_cons_succ,List.getElem_toArray,List.getElem_cons_succ,List.getElem_cons_zero])
    refine wpAnyH_take (i:=5) (oi:=_) (v:=undef) rfl (by kernel_rfl) (by kernel_rfl) (by kernel_rfl) (fun _ _ _ h=>h) (Or.inr ⟨by rfl,rfl⟩) hHeld ?_
    (try simp only [Act.put,List.setIfInBounds_toArray,List.set_cons_zero,List.set_cons_succ,List.getElem_toArray,List.getElem_cons_succ,List.getElem_cons_zero])
    refine wpAnyH_take (i:=6) (oi:=_) (v:=undef) rfl (by kernel_rfl) (by kernel_rfl) (by kernel_rfl) (fun _ _ _ h=>h) (Or.inr ⟨by rfl,rfl⟩) hHeld ?_
    (try simp only [Act.put,List.setIfInBounds_toArray,List.set_cons_zero,List.set_cons_succ,List.getElem_toArray,List.getElem_cons_succ,List.getElem_cons_zero])
    refine wpAnyH_take (i:=7) (oi:=_) (v:=undef) rfl (by kernel_rfl) (by kernel_rfl) (by kernel_rfl) (fun _ _ _ h=>h) (Or.inr ⟨by rfl,rfl⟩) hHeld ?_
    (try simp only [Act.put,List.setIfInBounds_toArray,List.set_cons_zero,List.set_cons_succ,List.getElem_toArray,List.getElem_cons_succ,List.getElem_cons_zero])
    refine wpAnyH_take (i:=8) (oi:=_) (v:=undef) rfl (by kernel_rfl) (by kernel_rfl) (by kernel_rfl) (fun _ _ _ h=>h) (Or.inr ⟨by rfl,rfl⟩) hHeld ?_
    (try simp only [Act.put,List.setIfInBounds_toArray,List.set_cons_zero,List.set_cons_succ,List.getElem_toArray,List.getElem_cons_succ,List.getElem_cons_zero])
    refine wpAnyH_take (i:=9) (oi:=_) (v:=undef) rfl (by kernel_rfl) (by kernel_rfl) (by kernel_rfl) (fun _ _ _ h=>h) (Or.inr ⟨by rfl,rfl⟩) hHeld ?_
    (try simp only [Act.put,List.setIfInBounds_toArray,List.set_cons_zero,List.set_cons_succ,List.getElem_toArray,List.getElem_cons_succ,List.getElem_cons_zero])
    refine wpAnyH_take (i:=10) (oi:=_) (v:=undef) rfl (by kernel_rfl) (by kernel_rfl) (by kernel_rfl) (fun _ _ _ h=>h) (Or.inr ⟨by rfl,rfl⟩) hHeld ?_
    (try simp only [Act.put,List.setIfInBounds_toArray,List.set_cons_zero,List.set_cons_succ,List.getElem_toArray,List.getElem_cons_succ,List.getElem_cons_zero])
    refine wpAnyH_take (i:=11) (oi:=_) (v:=undef) rfl (by kernel_rfl) (by kernel_rfl) (by kernel_rfl) (fun _ _ _ h=>h) (Or.inr ⟨by rfl,rfl⟩) hHeld ?_
    (try simp only [Act.put,List.setIfInBounds_toArray,List.set_cons_zero,List.set_cons_succ,List.getElem_toArray,List.getElem_cons_succ,List.getElem_cons_zero])
    refine wpAnyH_take (i:=12) (oi:=_) (v:=undef) rfl (by kernel_rfl) (by kernel_rfl) (by kernel_rfl) (fun _ _ _ h=>h) (Or.inr ⟨by rfl,rfl⟩) hHeld ?_
    (try simp only [Act.put,List.setIfInBounds_toArray,List.set_cons_zero,List.set_cons_succ,List.getElem_toArray,List.getElem_cons_succ,List.getElem_cons_zero])
    refine wpAnyH_take (i:=13) (oi:=_) (v:=undef) rfl (by kernel_rfl) (by kernel_rfl) (by kernel_rfl) (fun _ _ _ h=>h) (Or.inr ⟨by rfl,rfl⟩) hHeld ?_
    (try simp only [Act.put,List.setIfInBounds_toArray,List.set_cons_zero,List.set_cons_succ,List.getElem_toArray,List.getElem_cons_succ,List.getElem_cons_zero])
    refine wpAnyH_take (i:=14) (oi:=_) (v:=undef) rfl (by kernel_rfl) (by kernel_rfl) (by kernel_rfl) (fun _ _ _ h=>h) (Or.inr ⟨by rfl,rfl⟩) hHeld ?_
    (try simp only [Act.put,List.setIfInBounds_toArray,List.set_cons_zero,List.set_cons_succ,List.getElem_toArray,List.getElem_cons_succ,List.getElem_cons_zero])
    refine wpAnyH_take (i:=15) (oi:=_) (v:=undef) rfl (by kernel_rfl) (by kernel_rfl) (by kernel_rfl) (fun _ _ _ h=>h) (Or.inr ⟨by rfl,rfl⟩) hHeld ?_
    (try simp only [Act.put,List.setIfInBounds_toArray,List.set_cons_zero,List.set_cons_succ,List.getElem_toArray,List.getElem_cons_succ,List.getElem_cons_zero])
    refine wpAnyH_take (i:=16) (oi:=_) (v:=undef) rfl (by kernel_rfl) (by kernel_rfl) (by kernel_rfl) (fun _ _ _ h=>h) (Or.inr ⟨by rfl,rfl⟩) hHeld ?_
    (try simp only [Act.put,List.setIfInBounds_toArray,List.set_cons_zero,List.set_cons_succ,List.getElem_toArray,List.getElem_cons_succ,List.getElem_cons_zero])
    refine wpAnyH_take (i:=17) (oi:=_) (v:=undef) rfl (by kernel_rfl) (by kernel_rfl) (by kernel_rfl) (fun _ _ _ h=>h) (Or.inr ⟨by rfl,rfl⟩) hHeld ?_
    (try simp only [Act.put,List.setIfInBounds_toArray,List.set_cons_zero,List.set_cons_succ,List.getElem_toArray,List.getElem_cons_succ,List.getElem_cons_zero])
    refine wpAnyH_take (i:=18) (oi:=_) (v:=undef) rfl (by kernel_rfl) (by kernel_rfl) (by kernel_rfl) (fun _ _ _ h=>h) (Or.inr ⟨by rfl,rfl⟩) hHeld ?_
    (try simp only [Act.put,List.setIfInBounds_toArray,List.set_cons_zero,List.set_cons_succ,List.getElem_toArray,List.getElem_cons_succ,List.getElem_cons_zero])
    refine wpAnyH_take (i:=19) (oi:=_) (v:=undef) rfl (by kernel_rfl) (by kernel_rfl) (by kernel_rfl) (fun _ _ _ h=>h) (Or.inr ⟨by rfl,rfl⟩) hHeld ?_
    (try simp only [Act.put,List.setIfInBounds_toArray,List.set_cons_zero,List.set_cons_succ,List.getElem_toArray,List.getElem_cons_succ,List.getElem_cons_zero])
    refine wpAnyH_take (i:=20) (oi:=_) (v:=undef) rfl (by kernel_rfl) (by kernel_rfl) (by kernel_rfl) (fun _ _ _ h=>h) (Or.inr ⟨by rfl,rfl⟩) hHeld ?_
    (try simp only [Act.put,List.setIfInBounds_toArray,List.set_cons_zero,List.set_cons_succ,List.getElem_toArray,List.getElem_cons_succ,List.getElem_cons_zero])
    refine wpAnyH_take (i:=21) (oi:=_) (v:=undef) rfl (by kernel_rfl) (by kernel_rfl) (by kernel_rfl) (fun _ _ _ h=>h) (Or.inr ⟨by rfl,rfl⟩) hHeld ?_
    (try simp only [Act.put,List.setIfInBounds_toArray,List.set_cons_zero,List.set_cons_succ,List.getElem_toArray,List.getElem_cons_succ,List.getElem_cons_zero])
    refine wpAnyH_take (i:=22) (oi:=_) (v:=undef) rfl (by kernel_rfl) (by kernel_rfl) (by kernel_rfl) (fun _ _ _ h=>h) (Or.inr ⟨by rfl,rfl⟩) hHeld ?_
    (try simp only [Act.put,List.setIfInBounds_toArray,List.set_cons_zero,List.set_cons_succ,List.getElem_toArray,List.getElem_cons_succ,List.getElem_cons_zero])
    refine wpAnyH_take (i:=23) (oi:=_) (v:=undef) rfl (by kernel_rfl) (by kernel_rfl) (by kernel_rfl) (fun _ _ _ h=>h) (Or.inr ⟨by rfl,rfl⟩) hHeld ?_
    (try simp only [Act.put,List.setIfInBounds_toArray,List.set_cons_zero,List.set_cons_succ,List.getElem_toArray,List.getElem_cons_succ,List.getElem_cons_zero])
    refine wpAnyH_take (i:=24) (oi:=_) (v:=undef) rfl (by kernel_rfl) (by kernel_rfl) (by kernel_rfl) (fun _ _ _ h=>h) (Or.inr ⟨by rfl,rfl⟩) hHeld ?_
    (try simp only [Act.put,List.setIfInBounds_toArray,List.set_cons_zero,List.set_cons_succ,List.getElem_toArray,List.getElem_cons_succ,List.getElem_cons_zero])
    refine wpAnyH_take (i:=25) (oi:=_) (v:=undef) rfl (by kernel_rfl) (by kernel_rfl) (by kernel_rfl) (fun _ _ _ h=>h) (Or.inr ⟨by rfl,rfl⟩) hHeld ?_
    (try simp only [Act.put,List.setIfInBounds_toArray,List.set_cons_zero,List.set_cons_succ,List.getElem_toArray,List.getElem_cons_succ,List.getElem_cons_zero])
    refine wpAnyH_take (i:=26) (oi:=_) (v:=undef) rfl (by kernel_rfl) (by kernel_rfl) (by kernel_rfl) (fun _ _ _ h=>h) (Or.inr ⟨by rfl,rfl⟩) hHeld ?_
    (try simp only [Act.put,List.setIfInBounds_toArray,List.set_cons_zero,List.set_cons_succ,List.getElem_toArray,List.getElem_cons_succ,List.getElem_cons_zero])
    refine wpAnyH_take (i:=27) (oi:=_) (v:=undef) rfl (by kernel_rfl) (by kernel_rfl) (by kernel_rfl) (fun _ _ _ h=>h) (Or.inr ⟨by rfl,rfl⟩) hHeld ?_
    (try simp only [Act.put,List.setIfInBounds_toArray,List.set_cons_zero,List.set_cons_succ,List.getElem_toArray,List.getElem_cons_succ,List.getElem_cons_zero])
    refine wpAnyH_take (i:=28) (oi:=_) (v:=undef) rfl (by kernel_rfl) (by kernel_rfl) (by kernel_rfl) (fun _ _ _ h=>h) (Or.inr ⟨by rfl,rfl⟩) hHeld ?_
    (try simp only [Act.put,List.setIfInBounds_toArray,List.set_cons_zero,List.set_cons_succ,List.getElem_toArray,List.getElem_cons_succ,List.getElem_cons_zero])
    refine wpAnyH_take (i:=29) (oi:=_) (v:=?_) rfl (by kernel_rfl) (by kernel_rfl) (by kernel_rfl) (fun _ _ _ h=>h) (Or.inl ⟨by rfl,?_⟩) hHeld ?_
    rotate_left
    ·intro w' hSw;go_simp
     try with_reducible rfl
    (try simp only [Act.put,List.setIfInBounds_toArray,List.set_cons_zero,List.set_cons_succ,List.getElem_toArray,List.getElem_cons_succ,List.getElem_cons_zero])
    refine wpAnyH_done (by kernel_rfl) ?_ _
    have hB7:=hB6.step hHeld;go_wp2_with fail;go_ret
    have hm:m=nb:=by rw [HM.out,HV1.out];rfl
    rw [HV1.out,hm];exact ⟨rfl,hB7.cut,hB7.fn,hB7.below,hB7.keep⟩
  ·by_cases h7:nx (ls.map (·.1)) r2=7
   ·have hv:=HV.out;rw [if_neg h6,if_pos h7] at hv;have HVF:=Lib.hid hv;rw [h7];have hkn:=nx_lt (l:=ls.map (·.1)) (k:=r2) (by omega)
    rw [hlen] at hkn;clear hv h6 h7 hnw;obtain ⟨jF,hjF⟩:∃ jF,jF=r2:=⟨_,rfl⟩;rw [← hjF] at HVF hB5 hkn;have hjb:nb≤jF:=by omega
    clear hjF;have hBF:=hB5;obtain ⟨wF,hwF⟩:∃ wF,wF=w5:=⟨_,rfl⟩;rw [← hwF] at hBF ⊢;clear hwF hB5;have hB6:BlkS w (wF.setCell ⟨g,1,none⟩ (.int .i64 ((jF:Int)+1))) B g gf bl (some ⟨b,off,none⟩) n c (jF+1) ps F nb (.int .u32 res) (.int .i64 (k:Nat)) (.int .i64 0):=hBF.atPut (jF+1);have hB7:=hB6.toPut (.int .i64 ((jF:Int)+1));obtain ⟨y0,y1,-,fz⟩:=hBF.cut.cells;obtain ⟨z0,z1,-,-⟩:=hB6.cut.cells;have q2:=hB6.blk.cell 2;have fq:=hB6.blk.frozen;simp at q2;go_wp2_with fail;clear y0 y1 fz z0 z1 q2 fq hBF hB6;generalize (wF.setCell ⟨g,1,none⟩ (.int .i64 ((jF:Int)+1))).setCell ⟨bl,2,none⟩ (.int .i64 ((jF:Int)+1))=w7 at hB7 ⊢;obtain ⟨hfl,id,at_,en,P,Ab,cb,xs,kf,ho⟩:=hB7.fn;have e3:=kf.cell 3;have e4:=fun o=>(World.cell?_alloc_lt w7 o ⟨gf,3,none⟩ kf.lt).trans e3
    have q0:=hB7.blk.cell 0;have q1:=hB7.blk.cell 1;have q2:=hB7.blk.cell 2;simp at e3 e4 q0 q1 q2;have hlit:=Reads.litN w7.drew #[.int .u32 res,.int .i64 (k:Nat),.int .i64 ((jF:Int)+1)] 180 3 1 3 rfl rfl (by omega)
    have hsz7:=hB7.size;have hne:(Value.slice Ab nb cb).ownBlock≠some gf:=own_blk_ne ho kf (by decide)
    go_region_law (first
     | (refine step_ap_any slBlk (w7.drew.alloc (.cells #[.int .u32 res,.int .i64 (k:Nat),.int .i64 ((jF:Int)+1)] 180)) rfl _ _ rfl B _ _ _ rfl (ho.drew.alloc _) _ _ 1 1 [.int .u32 res,.int .i64 (k:Nat),.int .i64 ((jF:Int)+1)] rfl hlit (by simp [Value.oneCell']) (by omega) (by omega) (by rw [World.size_alloc];exact Nat.le_succ_of_le hsz7) ?_;intro A8 c8 w8 ho8 hg8;have kf8:=(kf.drew.alloc (.cells #[.int .u32 res,.int .i64 (k:Nat),.int .i64 ((jF:Int)+1)] 180)).grown hg8 (Ne.symm hne);have p3:=kf8.cell 3;have p4:=kf8.frozen 3;simp at p3))
    all_goals
     have hC8:=(hB7.cut.drew.alloc (.cells #[.int .u32 res,.int .i64 (k:Nat),.int .i64 ((jF:Int)+1)] 180)).grown hg8 (by obtain ⟨-,cs',hb,-⟩:=hB7.cut;exact Ne.symm (own_blk_ne ho hb (by decide)))
     have hC9:=hC8.far (p:=⟨gf,3,none⟩) (hB7.cut.ne_fn hB7.fn) (.slice A8 (nb+1) c8);have hF9:FnS (w8.setCell ⟨gf,3,none⟩ (.slice A8 (nb+1) c8)) B gf (nb+1):=⟨hfl,id,at_,en,P,A8,c8,_,by simpa using kf8.set_ 3 (.slice A8 (nb+1) c8),own_set_other ho8 (p:=⟨gf,3,none⟩) (own_blk_ne ho8 kf8 (by decide)) _⟩
     have hb9:=(((hB7.below.drew).alloc hsz7 (.cells #[.int .u32 res,.int .i64 (k:Nat),.int .i64 ((jF:Int)+1)] 180)).grown hg8 (by rw [World.size_alloc];exact Nat.le_succ_of_le hsz7) (fun j hj=>(ho.lt j hj).1)).setCell (p:=⟨gf,3,none⟩) hfl (.slice A8 (nb+1) c8)
     have hk9:KeepF gf w (w8.setCell ⟨gf,3,none⟩ (.slice A8 (nb+1) c8)):=hB7.keep.trans (fun j t cs kj h1 _ h3=>((kj.drew.alloc (.cells #[.int .u32 res,.int .i64 (k:Nat),.int .i64 ((jF:Int)+1)] 180)).grown hg8 (Ne.symm (own_blk_ne ho kj (Ne.symm h3)))).far (p:=⟨gf,3,none⟩) h1 _)
     have hm:m=nb+1:=by rw [HM.out,HVF.out];rfl
     have HM1:=Lib.hid hm;clear hm hC8 hg8 ho8 p3 p4 kf8;go_wp2_with fail;go_ret
     rw [HVF.out,HM1.out];exact ⟨rfl,hC9,hF9,hb9,hk9⟩
   ·have hv:=HV.out;rw [if_neg h6,if_neg h7] at hv;have HV1:=Lib.hid hv;generalize nx (ls.map (·.1)) r2=z at *;have d6:(z==6)=false:=by rw [beq_eq_false_iff_ne];exact h6
    have d7:(z==7)=false:=by rw [beq_eq_false_iff_ne];exact h7
    clear hv h6 h7;go_wp2_with fail;go_ret
    have hm:m=nb:=by rw [HM.out,HV1.out];rfl
    rw [HV1.out,hm];exact ⟨rfl,hB5.cut,hB5.fn,hB5.below,hB5.keep⟩
end Go.Proofs.YtdebjkiilnhgpaaGreatDoor
