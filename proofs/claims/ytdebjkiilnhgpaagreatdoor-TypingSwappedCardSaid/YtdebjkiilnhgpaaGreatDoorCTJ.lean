/- Walks: the cutter's top. -/
import Derived.Test.YtdebjkiilnhgpaaGreatDoorCTI
import Derived.Deep.RegionHeld3
set_option maxRecDepth 100000
set_option maxHeartbeats 4000000
namespace Go.Proofs.YtdebjkiilnhgpaaGreatDoor
section
open Go.RowKit
abbrev K6 (w0:World) (g b off n c k:Nat) (op ty res:Int) (Ax:Option Addr) (nx_ cx:Nat) (w':World):Prop :=
 w'.cell? ⟨g,0,none⟩=some (.slice (some ⟨b,off,none⟩) n c)∧w'.cell? ⟨g,1,none⟩=some (.int .i64 (k:Nat)) ∧
 w'.cell? ⟨b,off+k*4,none⟩=some (.int .u16 op)∧w'.cell? ⟨b,off+k*4+1,none⟩=some (.int .u32 ty)∧w'.cell? ⟨b,off+k*4+2,none⟩=some (.int .u32 res) ∧
 w'.cell? ⟨b,off+k*4+3,none⟩=some (.slice Ax nx_ cx)∧Below w0.heap.size w0 w'
theorem K6.is {w0:World} {g b off n c k:Nat} {op ty res:Int} {Ax:Option Addr} {nx_ cx:Nat} {w':World} (h:K6 w0 g b off n c k op ty res Ax nx_ cx w'):Below w0.heap.size w0 w':=h.2.2.2.2.2.2
theorem K6.drew_ {w0:World} {g b off n c k:Nat} {op ty res:Int} {Ax:Option Addr} {nx_ cx:Nat} {w':World} (h:K6 w0 g b off n c k op ty res Ax nx_ cx w'):K6 w0 g b off n c k op ty res Ax nx_ cx w'.drew :=
 ⟨h.1,h.2.1,h.2.2.1,h.2.2.2.1,h.2.2.2.2.1,h.2.2.2.2.2.1,h.is.drew⟩
theorem K6.call {w0:World} {g b off n c k:Nat} {op ty res:Int} {Ax:Option Addr} {nx_ cx:Nat} {w1 w2:World} (hg:g<w0.heap.size) (hb:b<w0.heap.size) (h:K6 w0 g b off n c k op ty res Ax nx_ cx w1) (hq:Below w1.heap.size w1 w2):K6 w0 g b off n c k op ty res Ax nx_ cx w2:=by
 have hs:=h.is.size;have e:∀ (p:Addr),p.block<w0.heap.size→w2.cell? p=w1.cell? p:=fun p hp=>hq.cell (by omega)
 exact ⟨(e _ hg).trans h.1,(e _ hg).trans h.2.1,(e _ hb).trans h.2.2.1,(e _ hb).trans h.2.2.2.1,(e _ hb).trans h.2.2.2.2.1,(e _ hb).trans h.2.2.2.2.2.1,below_cut h.is hq (Nat.le_refl _)⟩
abbrev K0 (w0:World) (w':World):Prop:=Below w0.heap.size w0 w'
theorem K0.drew_ {w0 w':World} (h:K0 w0 w'):K0 w0 w'.drew:=Below.drew h
theorem K0.call {w0 w1 w2:World} (h:K0 w0 w1) (hq:Below w1.heap.size w1 w2):K0 w0 w2:=below_cut h hq (Nat.le_refl _)
theorem top_any (ls:List InstA) (A:Option Addr) (n c B g k:Nat) (ps:Nat→Int) (F:Value) (w:World) (hC:CutS w B g A n c k ps F) (hM:ModS w B A n ls) (hk:k≤n) :
  Calls Tryz.prog 104 #[.pointer (some ⟨g,0,none⟩)] w fun e w'=>e=.returned (.bool (topR (ls.map (·.1)) 8 0 k ps).1)∧CutS w' B g A n c (topR (ls.map (·.1)) 8 0 k ps).2.1 (topR (ls.map (·.1)) 8 0 k ps).2.2 F∧w.grownBy w' (some g):=by
 have hn:=hM.len;have hlen:=hM.length;have hlow:=hC.low;have hgl:=hC.lt;obtain ⟨v,hv⟩:∃ v,v=topR (ls.map (·.1)) 8 0 k ps:=⟨_,rfl⟩;rw [← hv];have HV:=Lib.hid hv;clear hv;go_enter Tryz.func104,Tryz.ntmps104;go_wp2_with fail;go_loopg [5] 8 (fun q i wr=>∃ (p k':Nat) (ps':Nat→Int),p+q=8∧i=.int .u8 (p:Nat)∧k'≤n∧Hid (v=topR (ls.map (·.1)) q p k' ps')∧CutS wr B g A n c k' ps' F∧w.grownBy wr (some g))
 case atStart=>exact ⟨0,k,ps,by omega,rfl,hk,HV,hC,World.grownBy.refl w _⟩
 case round =>
  obtain ⟨p,k',ps',hq,rfl,hk',HK,hC1,hgr⟩:=hrel
  by_cases hlt:p<8
  ·obtain ⟨q,rfl⟩:∃ q,gk=q+1:=⟨gk-1,by omega⟩
   obtain ⟨e,he⟩:∃ e,e=topEnd (ls.map (·.1)) p k':=⟨_,rfl⟩;have hed:=topEnd_bd (l:=ls.map (·.1)) (p:=p) (k:=k') (by omega)
   have hk1:=HK.out;unfold topR at hk1;rw [← he] at hk1 hed;rw [hlen] at hed;unfold topEnd at he;rw [hlen] at he;have HK1:=Lib.hid hk1;have HE:=Lib.hid he;have hG:=Lib.hid hgr;obtain ⟨y0,y1,-,fz⟩:=hC1.cells;have dl:decide (((p:Nat):Int)<8)=true:=by rw [decide_eq_true_eq];omega
   clear hk1 he HK HV hgr;go_wp2_with fail;go_loopg [] (n-k') (fun q' wr2=>∃ (kk:Nat),kk+q'=n∧Hid (e=topTo (ls.map (·.1)) p q' kk)∧CutS wr2 B g A n c kk ps' F∧w.grownBy wr2 (some g))
   case atStart=>exact ⟨k',by omega,HE,hC1,hG.out⟩
   case round =>
    obtain ⟨kk,hq',HE1,hC2,hgr2⟩:=hrel;have hbB:Below B w wr:=(Below.refl B w).grown hgr2 (by omega) (fun j hj=>by cases hj;exact hlow)
    have hM1:=hM.keep hbB;have hszr:=hgr2.size;have hnx:∀ w',K0 wr w'→_:=fun w' hd=>next_any ls A n c B g kk ps' F w' (hC2.step hd) (hM1.keep (hd.mono (by have:=hC2.lt;omega))) (by omega)
    by_cases h9:nx (ls.map (·.1)) kk=9
    ·have hkn0:=nx_lt (l:=ls.map (·.1)) (k:=kk) (by omega)
     rw [hlen] at hkn0;obtain ⟨q',rfl⟩:∃ q',gk=q'+1:=⟨gk-1,by omega⟩
     obtain ⟨b,off,rfl,hbb,hc⟩:=hM1.reads.insts (by omega)
     obtain ⟨c0,c1,c2,c3⟩:=hc kk hkn0;have hpt:=partAt_at (ig_map (ls:=ls) (k:=kk) (by have:=hM1.reads.insts_len;omega))
     have hBw:B≤wr.heap.size:=by have:=hC2.lt;omega
     have hpart:∀ w',K0 wr w'→Calls Tryz.prog 126 #[.agg (instC (ig ls kk))] w' fun e w''=>e=.returned (.int .u8 (partI (ig ls kk).1))∧Below w'.heap.size w' w'' :=
      fun w' hd=>part_any _ _ (((hM1.ok _ (ig_mem (l:=ls) (k:=kk) (by have:=hM1.reads.insts_len;omega))).more hBw).step hd)
     have he1:=HE1.out;unfold topTo at he1;rw [hpt] at he1;generalize ig ls kk=x at *;obtain ⟨⟨op,ty,res,al⟩,Ax,nx_,cx⟩:=x;unfold instC at hpart;dsimp only at *;generalize partI (op,ty,res,al)=pt at *;rw [h9] at hnx;have d9:((9:Int)==9)=true:=rfl;obtain ⟨x0,x1,-,-⟩:=hC2.cells;have hgw:=hC2.lt;have hbw:b<wr.heap.size:=by omega
     have hS0:K6 wr g b off n c kk op ty res Ax nx_ cx wr:=⟨x0,x1,c0,c1,c2,c3,Below.refl _ _⟩;have hkI:((kk:Nat):Int)<(n:Nat):=by omega
     clear hc hpt x0 x1 c0 c1 c2 c3 hM1
     by_cases hpp:pt=(p:Int)
     ·have dpp:(pt==((p:Nat):Int))=true:=by rw [hpp];exact beq_self_eq_true _
      rw [if_pos ⟨h9,hpp⟩] at he1;have hE2:=Lib.hid he1;clear h9 hpp he1 HE1;go_wp2_with fail;go_region_held3 (K6 wr g b off n c kk op ty res Ax nx_ cx) (first | with_reducible exact hS0.drew_ | with_reducible exact K6.call hgw hbw (by assumption) hbq | fail) ((first | (go_at_call 105;refine (hnx _ (K6.is (by assumption))).mono ?_;rintro en w' ⟨rfl,hbq⟩) | (go_at_call 126;refine (hpart _ (K6.is (by assumption))).mono ?_;rintro en w' ⟨rfl,hbq⟩)))
      have hHeld:K0 wr w':=K6.is (by assumption)
      have hC3:=hC2.step hHeld;have hG3:=Lib.hid (only_step hgr2 hHeld);obtain ⟨x0,x1,-,fx⟩:=hC3.cells;have hC5:=hC3.atPut (kk+1);have hG5:=Lib.hid (only_setCell hG3.out (p:=⟨g,1,none⟩) (.inl rfl) (.int .i64 ((kk+1:Nat):Int)));clear hnx hpart
      by_cases hp0:(p:Int)=1
      ·have dp0:(((p:Nat):Int)==1)=true:=by rw [hp0];rfl
       have he2:=hE2.out;rw [if_pos hp0] at he2;have hE3:=Lib.hid he2;clear he2 hE2 hp0;go_wp2_with fail;replace hC3:CutS (w'.setCell ⟨g,1,none⟩ (.int .i64 ((kk:Int)+1))) B g (some ⟨b,off,none⟩) n c (kk+1) ps' F:=hC5
       replace hG3:Hid (w.grownBy (w'.setCell ⟨g,1,none⟩ (.int .i64 ((kk:Int)+1))) (some g)):=hG5
       clear hC5 hG5 x0 x1 fx;generalize w'.setCell ⟨g,1,none⟩ (.int .i64 ((kk:Int)+1))=w2 at hC3 hG3 ⊢;obtain ⟨k1,hk1⟩:∃ k1,k1=kk+1:=⟨_,rfl⟩;rw [← hk1] at hC3 hE3;clear hk1 hq' hkI hkn0 hS0 hC2 dp0;obtain ⟨kk,hkk⟩:∃ k2,k2=k1:=⟨_,rfl⟩;rw [← hkk] at hC3 hE3;clear hkk;obtain ⟨x0,x1,-,fx⟩:=hC3.cells;have p0:=hC3.part_ (j:=2*p) (by omega)
       have p1:=hC3.part_ (j:=2*p+1) (by omega)
       have hC4:=hC3.drew.spanPut p (by omega) (k':Int) (kk:Int)
       have e0:2+2*p=2+p*2:=by omega
       have e1:2+(2*p+1)=2+p*2+1:=by omega
       rw [e0] at p0;rw [e1] at p1;rw [e0,e1] at hC4;clear e0 e1;obtain ⟨z0,z1,-,-⟩:=hC4.cells;have hG4:=only_setCell (only_setCell (only_drew hG3.out) (p:=⟨g,2+p*2,none⟩) (.inl rfl) (.int .i64 (k':Nat))) (p:=⟨g,2+p*2+1,none⟩) (.inl rfl) (.int .i64 (kk:Nat));refine wp_region_tail 11 (by kernel_rfl) (by kernel_rfl) ?_
       simp only [List.take_succ_cons,List.take_zero,List.drop_succ_cons,List.drop_zero]
       repeat (go_big_quiet_step (fail))
       refine wpQuiet_nil ?_;have hkn:kk≤n:=by have:=hE3.out;omega
       by_cases hp1:p=1
       ·have dp:(((p:Nat):Int)==1)=true:=by rw [hp1];rfl
        by_cases hk2:kk=k'
        ·have dk:(((kk:Nat):Int)==((k':Nat):Int))=true:=by rw [hk2];exact beq_self_eq_true _
         have hv1:=HK1.out;rw [hE3.out,if_pos ⟨hp1,hk2⟩] at hv1;have HV1:=Lib.hid hv1;clear hv1 hk2 hp1;go_wp2_with fail;go_ret
         rw [HV1.out];exact ⟨rfl,hC4,hG4⟩
        ·have dk:(((kk:Nat):Int)==((k':Nat):Int))=false:=by rw [beq_eq_false_iff_ne];omega
         have hv1:=HK1.out;rw [hE3.out,if_neg (fun hh=>hk2 hh.2)] at hv1
         have HV1:=Lib.hid hv1;clear hv1 hk2 hp1;go_wp2_with fail;go_roundg q
         case measure=>omega
         case rel=>exact ⟨p+1,kk,_,by omega,rfl,hkn,HV1,hC4,hG4⟩
       ·have dp:(((p:Nat):Int)==1)=false:=by rw [beq_eq_false_iff_ne];omega
        have hv1:=HK1.out;rw [hE3.out,if_neg (fun hh=>hp1 hh.1)] at hv1
        have HV1:=Lib.hid hv1;clear hv1 hp1;go_wp2_with fail;go_roundg q
        case measure=>omega
        case rel=>exact ⟨p+1,kk,_,by omega,rfl,hkn,HV1,hC4,hG4⟩
      ·have dp0:(((p:Nat):Int)==1)=false:=by rw [beq_eq_false_iff_ne];exact hp0
       have he2:=hE2.out;rw [if_neg hp0] at he2;have hE3:=Lib.hid he2;clear he2 hE2 hp0;go_wp2_with fail;go_roundg q'
       case measure=>omega
       case rel=>exact ⟨kk+1,by omega,hE3,hC5,hG5.out⟩
     ·have dpp:(pt==((p:Nat):Int))=false:=by rw [beq_eq_false_iff_ne];exact hpp
      rw [if_neg (fun hh=>hpp hh.2)] at he1
      have hE3:=Lib.hid he1;clear h9 hpp he1 HE1;go_wp2_with fail;go_region_held3 (K6 wr g b off n c kk op ty res Ax nx_ cx) (first | with_reducible exact hS0.drew_ | with_reducible exact K6.call hgw hbw (by assumption) hbq | fail) ((first | (go_at_call 105;refine (hnx _ (K6.is (by assumption))).mono ?_;rintro en w' ⟨rfl,hbq⟩) | (go_at_call 126;refine (hpart _ (K6.is (by assumption))).mono ?_;rintro en w' ⟨rfl,hbq⟩)))
      have hHeld:K0 wr w':=K6.is (by assumption)
      have hC3:=hC2.step hHeld;have hG3:=Lib.hid (only_step hgr2 hHeld);clear hnx hpart;go_wp2_with fail;obtain ⟨w2,hw2⟩:∃ w2,w2=w':=⟨_,rfl⟩;rw [← hw2] at hC3 hG3 ⊢;clear hw2;obtain ⟨x0,x1,-,fx⟩:=hC3.cells;have p0:=hC3.part_ (j:=2*p) (by omega)
      have p1:=hC3.part_ (j:=2*p+1) (by omega)
      have hC4:=hC3.drew.spanPut p (by omega) (k':Int) (kk:Int)
      have e0:2+2*p=2+p*2:=by omega
      have e1:2+(2*p+1)=2+p*2+1:=by omega
      rw [e0] at p0;rw [e1] at p1;rw [e0,e1] at hC4;clear e0 e1;obtain ⟨z0,z1,-,-⟩:=hC4.cells;have hG4:=only_setCell (only_setCell (only_drew hG3.out) (p:=⟨g,2+p*2,none⟩) (.inl rfl) (.int .i64 (k':Nat))) (p:=⟨g,2+p*2+1,none⟩) (.inl rfl) (.int .i64 (kk:Nat));refine wp_region_tail 11 (by kernel_rfl) (by kernel_rfl) ?_
      simp only [List.take_succ_cons,List.take_zero,List.drop_succ_cons,List.drop_zero]
      repeat (go_big_quiet_step (fail))
      refine wpQuiet_nil ?_;have hkn:kk≤n:=by have:=hE3.out;omega
      by_cases hp1:p=1
      ·have dp:(((p:Nat):Int)==1)=true:=by rw [hp1];rfl
       by_cases hk2:kk=k'
       ·have dk:(((kk:Nat):Int)==((k':Nat):Int))=true:=by rw [hk2];exact beq_self_eq_true _
        have hv1:=HK1.out;rw [hE3.out,if_pos ⟨hp1,hk2⟩] at hv1;have HV1:=Lib.hid hv1;clear hv1 hk2 hp1;go_wp2_with fail;go_ret
        rw [HV1.out];exact ⟨rfl,hC4,hG4⟩
       ·have dk:(((kk:Nat):Int)==((k':Nat):Int))=false:=by rw [beq_eq_false_iff_ne];omega
        have hv1:=HK1.out;rw [hE3.out,if_neg (fun hh=>hk2 hh.2)] at hv1
        have HV1:=Lib.hid hv1;clear hv1 hk2 hp1;go_wp2_with fail;go_roundg q
        case measure=>omega
        case rel=>exact ⟨p+1,kk,_,by omega,rfl,hkn,HV1,hC4,hG4⟩
      ·have dp:(((p:Nat):Int)==1)=false:=by rw [beq_eq_false_iff_ne];omega
       have hv1:=HK1.out;rw [hE3.out,if_neg (fun hh=>hp1 hh.1)] at hv1
       have HV1:=Lib.hid hv1;clear hv1 hp1;go_wp2_with fail;go_roundg q
       case measure=>omega
       case rel=>exact ⟨p+1,kk,_,by omega,rfl,hkn,HV1,hC4,hG4⟩
    ·have d9:(nx (ls.map (·.1)) kk==9)=false:=by rw [beq_eq_false_iff_ne];exact h9
     have he1:e=kk:=by
      have he1:=HE1.out;cases gk with
      | zero=>exact he1
      | succ q=>unfold topTo at he1;rw [if_neg (fun hh=>h9 hh.1)] at he1;exact he1
     generalize nx (ls.map (·.1)) kk=z at *;clear h9;go_wp2_with fail;have hK0:K0 wr wr:=Below.refl _ _;refine wp_region_held_drew (S:=K0 wr) (by kernel_rfl) hK0.drew_ (fun hHeld=>?_)
     refine wpAnyH_take (i:=0) (oi:=_) (v:=?_) rfl (by kernel_rfl) (by kernel_rfl) (by kernel_rfl) (fun _ _ _ h=>h) (Or.inl ⟨by rfl,?_⟩) hHeld ?_
     rotate_left
     ·intro w' hSw;go_simp
      try with_reducible rfl
     (try simp only [Act.put,List.setIfInBounds_toArray,List.set_cons_zero,List.set_cons_succ,List.getElem_toArray,List.getElem_cons_zero])
     refine wpAnyH_ready (rs:=[1]) (by kernel_rfl) (by simp) ?_
     refine AllReadyH.cons (o:=_) rfl (fun K hK=>?_) AllReadyH.nil
     go_simp
     go_at_call 105
     refine (hnx _ hHeld).mono ?_;rintro en w2 ⟨rfl,hbq⟩
     (try go_wp2_with fail)
     have hHeld2:=K0.call hHeld hbq;refine hK.out _ _ hHeld2 (fun hHeld=>?_)
     clear hK K hHeld2
     (try simp only [Act.put,List.setIfInBounds_toArray,List.set_cons_zero,List.set_cons_succ,List.getElem_toArray,List.getElem_cons_succ,List.getElem_cons_zero])
     refine wpAnyH_take (i:=2) (oi:=_) (v:=?_) rfl (by kernel_rfl) (by kernel_rfl) (by kernel_rfl) (fun _ _ _ h=>h) (Or.inl ⟨by rfl,?_⟩) hHeld ?_
     rotate_left
     ·intro w' hSw;go_simp
      try with_reducible rfl
     (try simp only [Act.put,List.setIfInBounds_toArray,List.set_cons_zero,List.set_cons_succ,List.getElem_toArray,List.getElem_cons_succ,List.getElem_cons_zero])
     refine wpAnyH_take (i:=3) (oi:=_) (v:=?_) rfl (by kernel_rfl) (by kernel_rfl) (by kernel_rfl) (fun _ _ _ h=>h) (Or.inl ⟨by rfl,?_⟩) hHeld ?_
     rotate_left
     ·intro w' hSw;go_simp
      try with_reducible rfl
     (try simp only [Act.put,List.setIfInBounds_toArray,List.set_cons_zero,List.set_cons_succ,List.getElem_toArray,List.getElem_cons_succ,List.getElem_cons_zero])
     refine wpAnyH_take (i:=4) (oi:=_) (v:=undef) rfl (by kernel_rfl) (by kernel_rfl) (by kernel_rfl) (fun _ _ _ h=>h) (Or.inr ⟨by rfl,rfl⟩) hHeld ?_
     (try simp only [Act.put,List.setIfInBounds_toArray,List.set_cons_zero,List.set_cons_succ,List.getElem_toArray,List.getElem_cons_succ,List.getElem_cons_zero])
     refine wpAnyH_take (i:=5) (oi:=_) (v:=undef) rfl (by kernel_rfl) (by kernel_rfl) (by kernel_rfl) (fun _ _ _ h=>h) (Or.inr ⟨by rfl,rfl⟩) hHeld ?_
     (try simp only [Act.put,List.setIfInBounds_toArray,List.set_cons_zero,List.set_cons_succ,List.getElem_toArray,List.getElem_cons_succ,List.getElem_cons_zero])
     refine wpAnyH_take (i:=6) (oi:=_) (v:=undef) rfl (by kernel_rfl) (by kernel_rfl) (by kernel_rfl) (fun _ _ _ h=>h) (Or.inr ⟨by rfl,rfl⟩) hHeld ?_
     (try simp only [Act.put,List.setIfInBounds_toArray,List.set_cons_zero,List.set_cons_succ,List.getElem_toArray,List.getElem_cons_succ,List.getElem_cons_zero])
     refine wpAnyH_take (i:=7) (oi:=_) (v:=undef) rfl (by kernel_rfl) (by kernel_rfl) (by kernel_rfl) (fun _ _ _ h=>h) (Or.inr ⟨by rfl,rfl⟩) hHeld ?_
     (try simp only [Act.put,List.setIfInBounds_toArray,List.set_cons_zero,List.set_cons_succ,List.getElem_toArray,List.getElem_cons_succ,List.getElem_cons_zero])
     refine wpAnyH_take (i:=8) (oi:=_) (v:=undef) rfl (by kernel_rfl) (by kernel_rfl) (by kernel_rfl) (fun _ _ _ h=>h) (Or.inr ⟨by rfl,rfl⟩) hHeld ?_
     (try simp only [Act.put,List.setIfInBounds_toArray,List.set_cons_zero,List.set_cons_succ,List.getElem_toArray,List.getElem_cons_succ,List.getElem_cons_zero])
     refine wpAnyH_take (i:=9) (oi:=_) (v:=undef) rfl (by kernel_rfl) (by kernel_rfl) (by kernel_rfl) (fun _ _ _ h=>h) (Or.inr ⟨by rfl,rfl⟩) hHeld ?_
     (try simp only [Act.put,List.setIfInBounds_toArray,List.set_cons_zero,List.set_cons_succ,List.getElem_toArray,List.getElem_cons_succ,List.getElem_cons_zero])
     refine wpAnyH_take (i:=10) (oi:=_) (v:=undef) rfl (by kernel_rfl) (by kernel_rfl) (by kernel_rfl) (fun _ _ _ h=>h) (Or.inr ⟨by rfl,rfl⟩) hHeld ?_
     (try simp only [Act.put,List.setIfInBounds_toArray,List.set_cons_zero,List.set_cons_succ,List.getElem_toArray,List.getElem_cons_succ,List.getElem_cons_zero])
     refine wpAnyH_take (i:=11) (oi:=_) (v:=undef) rfl (by kernel_rfl) (by kernel_rfl) (by kernel_rfl) (fun _ _ _ h=>h) (Or.inr ⟨by rfl,rfl⟩) hHeld ?_
     (try simp only [Act.put,List.setIfInBounds_toArray,List.set_cons_zero,List.set_cons_succ,List.getElem_toArray,List.getElem_cons_succ,List.getElem_cons_zero])
     refine wpAnyH_take (i:=12) (oi:=_) (v:=undef) rfl (by kernel_rfl) (by kernel_rfl) (by kernel_rfl) (fun _ _ _ h=>h) (Or.inr ⟨by rfl,rfl⟩) hHeld ?_
     (try simp only [Act.put,List.setIfInBounds_toArray,List.set_cons_zero,List.set_cons_succ,List.getElem_toArray,List.getElem_cons_succ,List.getElem_cons_zero])
     refine wpAnyH_take (i:=13) (oi:=_) (v:=undef) rfl (by kernel_rfl) (by kernel_rfl) (by kernel_rfl) (fun _ _ _ h=>h) (Or.inr ⟨by rfl,rfl⟩) hHeld ?_
     (try simp only [Act.put,List.setIfInBounds_toArray,List.set_cons_zero,List.set_cons_succ,List.getElem_toArray,List.getElem_cons_succ,List.getElem_cons_zero])
     refine wpAnyH_take (i:=14) (oi:=_) (v:=undef) rfl (by kernel_rfl) (by kernel_rfl) (by kernel_rfl) (fun _ _ _ h=>h) (Or.inr ⟨by rfl,rfl⟩) hHeld ?_
     (try simp only [Act.put,List.setIfInBounds_toArray,List.set_cons_zero,List.set_cons_succ,List.getElem_toArray,List.getElem_cons_succ,List.getElem_cons_zero])
     refine wpAnyH_take (i:=15) (oi:=_) (v:=undef) rfl (by kernel_rfl) (by kernel_rfl) (by kernel_rfl) (fun _ _ _ h=>h) (Or.inr ⟨by rfl,rfl⟩) hHeld ?_
     (try simp only [Act.put,List.setIfInBounds_toArray,List.set_cons_zero,List.set_cons_succ,List.getElem_toArray,List.getElem_cons_succ,List.getElem_cons_zero])
     refine wpAnyH_take (i:=16) (oi:=_) (v:=undef) rfl (by kernel_rfl) (by kernel_rfl) (by kernel_rfl) (fun _ _ _ h=>h) (Or.inr ⟨by rfl,rfl⟩) hHeld ?_
     (try simp only [Act.put,List.setIfInBounds_toArray,List.set_cons_zero,List.set_cons_succ,List.getElem_toArray,List.getElem_cons_succ,List.getElem_cons_zero])
     refine wpAnyH_take (i:=17) (oi:=_) (v:=?_) rfl (by kernel_rfl) (by kernel_rfl) (by kernel_rfl) (fun _ _ _ h=>h) (Or.inl ⟨by rfl,?_⟩) hHeld ?_
     rotate_left
     ·intro w' hSw;go_simp
      try with_reducible rfl
     (try simp only [Act.put,List.setIfInBounds_toArray,List.set_cons_zero,List.set_cons_succ,List.getElem_toArray,List.getElem_cons_succ,List.getElem_cons_zero])
     refine wpAnyH_done (by kernel_rfl) ?_ _
     go_wp2_with fail;have hC3:=hC2.step hHeld;have hG3:=Lib.hid (only_step hgr2 hHeld);have hE3:=Lib.hid he1;obtain ⟨x0,x1,-,fx⟩:=hC3.cells;have p0:=hC3.part_ (j:=2*p) (by omega)
     have p1:=hC3.part_ (j:=2*p+1) (by omega)
     have hC4:=hC3.drew.spanPut p (by omega) (k':Int) (kk:Int)
     have e0:2+2*p=2+p*2:=by omega
     have e1:2+(2*p+1)=2+p*2+1:=by omega
     rw [e0] at p0;rw [e1] at p1;rw [e0,e1] at hC4;clear e0 e1;obtain ⟨z0,z1,-,-⟩:=hC4.cells;have hG4:=only_setCell (only_setCell (only_drew hG3.out) (p:=⟨g,2+p*2,none⟩) (.inl rfl) (.int .i64 (k':Nat))) (p:=⟨g,2+p*2+1,none⟩) (.inl rfl) (.int .i64 (kk:Nat));refine wp_region_tail 11 (by kernel_rfl) (by kernel_rfl) ?_
     simp only [List.take_succ_cons,List.take_zero,List.drop_succ_cons,List.drop_zero]
     repeat (go_big_quiet_step (fail))
     refine wpQuiet_nil ?_;have hkn:kk≤n:=by have:=hE3.out;omega
     by_cases hp1:p=1
     ·have dp:(((p:Nat):Int)==1)=true:=by rw [hp1];rfl
      by_cases hk2:kk=k'
      ·have dk:(((kk:Nat):Int)==((k':Nat):Int))=true:=by rw [hk2];exact beq_self_eq_true _
       have hv1:=HK1.out;rw [hE3.out,if_pos ⟨hp1,hk2⟩] at hv1;have HV1:=Lib.hid hv1;clear hv1 hk2 hp1;go_wp2_with fail;go_ret
       rw [HV1.out];exact ⟨rfl,hC4,hG4⟩
      ·have dk:(((kk:Nat):Int)==((k':Nat):Int))=false:=by rw [beq_eq_false_iff_ne];omega
       have hv1:=HK1.out;rw [hE3.out,if_neg (fun hh=>hk2 hh.2)] at hv1
       have HV1:=Lib.hid hv1;clear hv1 hk2 hp1;go_wp2_with fail;go_roundg q
       case measure=>omega
       case rel=>exact ⟨p+1,kk,_,by omega,rfl,hkn,HV1,hC4,hG4⟩
     ·have dp:(((p:Nat):Int)==1)=false:=by rw [beq_eq_false_iff_ne];omega
      have hv1:=HK1.out;rw [hE3.out,if_neg (fun hh=>hp1 hh.1)] at hv1
      have HV1:=Lib.hid hv1;clear hv1 hp1;go_wp2_with fail;go_roundg q
      case measure=>omega
      case rel=>exact ⟨p+1,kk,_,by omega,rfl,hkn,HV1,hC4,hG4⟩
  ·obtain rfl:gk=0:=by omega
   have hv1:v=(true,k',ps'):=HK.out;have HV1:=Lib.hid hv1;have dl:decide (((p:Nat):Int)<8)=false:=by rw [decide_eq_false_iff_not];omega
   clear hv1;go_wp2_with fail;go_ret
   rw [HV1.out];exact ⟨rfl,hC1,hgr⟩
end
section
open Go.RowKit
theorem slBlk:SliceOf Tryz.prog 152 180 (.agg #[.int .u32 0,.int .i64 0,.int .i64 0]) 3 24:=⟨Tryz.underlying152,by kernel_rfl,rfl,by decide⟩
theorem slFun:SliceOf Tryz.prog 105 154 (.agg #[.int .u32 0,.int .i64 0,.slice none 0 0,.slice none 0 0,.int .i64 0]) 5 72:=⟨Tryz.underlying105,by kernel_rfl,rfl,by decide⟩
def FnS (w:World) (B gf nb:Nat):Prop:=B≤gf∧∃ (id at_ en:Int) (P:Option Addr × Nat × Nat) (Ab:Option Addr) (cb:Nat) (xs:List Value),
 Blk w gf 154 #[.int .u32 id,.int .i64 at_,.slice P.1 P.2.1 P.2.2,.slice Ab nb cb,.int .i64 en]∧w.ownsRow B 180 3 (.slice Ab nb cb) nb xs
def KeepF (gf:Nat) (w w':World):Prop:=∀ (j:Nat) (t:TypeId) (cs:Array Value),Blk w j t cs→j≠gf→t≠107→t≠180→Blk w' j t cs
section
variable {w w' w'':World} {B g gf nb:Nat}
theorem KeepF.refl (gf:Nat) (w:World):KeepF gf w w:=fun _ _ _ h _ _ _=>h
theorem KeepF.trans (h:KeepF gf w w') (h':KeepF gf w' w''):KeepF gf w w'':=fun j t cs k h1 h2 h3=>h' j t cs (h j t cs k h1 h2 h3) h1 h2 h3
theorem KeepF.of_below (h:Below w.heap.size w w'):KeepF gf w w':=fun _ _ _ k _ _ _=>k.step h
theorem KeepF.of_only {A:Option Addr} {n c k:Nat} {ps:Nat→Int} {F:Value} (hC:CutS w B g A n c k ps F) (h:w.grownBy w' (some g)):KeepF gf w w':=fun j t cs kj _ h2 _=>by
 obtain ⟨-,cs',hb,-⟩:=hC;exact kj.grown h (fun e=>by injection e with e;exact kj.ne_ hb h2 e)
theorem FnS.lt (h:FnS w B gf nb):gf<w.heap.size:=by obtain ⟨-,_,_,_,_,_,_,_,k,-⟩:=h;exact k.lt
theorem FnS.step (h:FnS w B gf nb) (hb:Below w.heap.size w w'):FnS w' B gf nb:=by
 obtain ⟨hl,id,at_,en,P,Ab,cb,xs,k,ho⟩:=h;exact ⟨hl,id,at_,en,P,Ab,cb,xs,k.step hb,own_below ho hb⟩
theorem FnS.only {A:Option Addr} {n c k:Nat} {ps:Nat→Int} {F:Value} (h:FnS w B gf nb) (hC:CutS w B g A n c k ps F) (hg:w.grownBy w' (some g)):FnS w' B gf nb:=by
 obtain ⟨hl,id,at_,en,P,Ab,cb,xs,k,ho⟩:=h;obtain ⟨-,cs',hb,-⟩:=hC;exact ⟨hl,id,at_,en,P,Ab,cb,xs,k.grown hg (fun e=>by injection e with e;exact k.ne_ hb (by decide) e),ho.kept hg (.inr (own_blk_ne ho hb (by decide)))⟩
theorem FnS.blks (h:FnS w B gf nb):∃ (Ab:Option Addr) (cb:Nat) (xs:List Value),w.cell? ⟨gf,3,none⟩=some (.slice Ab nb cb)∧(∀ i,w.frozen? ⟨gf,i,none⟩=false)∧w.ownsRow B 180 3 (.slice Ab nb cb) nb xs:=by
 obtain ⟨hl,id,at_,en,P,Ab,cb,xs,k,ho⟩:=h;exact ⟨Ab,cb,xs,k.cell 3,k.frozen,ho⟩
theorem CutS.ne_fn {A:Option Addr} {n c k:Nat} {ps:Nat→Int} {F:Value} (hC:CutS w B g A n c k ps F) (h:FnS w B gf nb):g≠gf:=by
 obtain ⟨hl,id,at_,en,P,Ab,cb,xs,k,ho⟩:=h;obtain ⟨-,cs',hb,-⟩:=hC;exact hb.ne_ k (by decide)
end
structure BlkS (w0 w:World) (B g gf bl:Nat) (A:Option Addr) (n c k:Nat) (ps:Nat→Int) (F:Value) (nb:Nat) (x0 x1 x2:Value):Prop where
 cut:CutS w B g A n c k ps F
 fn:FnS w B gf nb
 blk:Blk w bl 180 #[x0,x1,x2]
 low:B≤bl
 sep:∀ (Ab:Option Addr) (cb:Nat),w.cell? ⟨gf,3,none⟩=some (.slice Ab nb cb)→(Value.slice Ab nb cb).ownBlock≠some bl
 below:Below B w0 w
 keep:KeepF gf w0 w
section
variable {w0 w w':World} {B g gf bl:Nat} {A:Option Addr} {n c k:Nat} {ps:Nat→Int} {F:Value} {nb:Nat} {x0 x1 x2:Value}
theorem BlkS.size (h:BlkS w0 w B g gf bl A n c k ps F nb x0 x1 x2):B≤w.heap.size:=by have:=h.cut.lt;have:=h.cut.low;omega
theorem BlkS.step (h:BlkS w0 w B g gf bl A n c k ps F nb x0 x1 x2) (hb:Below w.heap.size w w'):BlkS w0 w' B g gf bl A n c k ps F nb x0 x1 x2 :=
 ⟨h.cut.step hb,h.fn.step hb,h.blk.step hb,h.low,fun Ab cb e=>h.sep Ab cb ((hb.cell h.fn.lt).symm.trans e),h.below.trans (hb.mono h.size),h.keep.trans (.of_below hb)⟩
theorem BlkS.only (h:BlkS w0 w B g gf bl A n c k ps F nb x0 x1 x2) (hg:w.grownBy w' (some g)) {k':Nat} {ps':Nat→Int} {F':Value} (hC:CutS w' B g A n c k' ps' F'):BlkS w0 w' B g gf bl A n c k' ps' F' nb x0 x1 x2:=by
 have hne:=h.cut.ne_fn h.fn;have hk:w'.heap[gf]?=w.heap[gf]?:=hg.block gf h.fn.lt (fun e=>by injection e with e;exact hne e.symm)
 have hcell:w'.cell? ⟨gf,3,none⟩=w.cell? ⟨gf,3,none⟩:=World.cell?_of_block hk;have hnb:bl≠g:=by
  obtain ⟨-,cs',hb,-⟩:=h.cut;exact h.blk.ne_ hb (by decide)
 exact ⟨hC,h.fn.only h.cut hg,h.blk.grown hg (fun e=>by injection e with e;exact hnb e),h.low,fun Ab cb e=>h.sep Ab cb (hcell.symm.trans e),
  h.below.grown hg h.size (fun j hj=>by cases hj;exact h.cut.low),h.keep.trans (.of_only h.cut hg)⟩
theorem BlkS.atPut (h:BlkS w0 w B g gf bl A n c k ps F nb x0 x1 x2) (k':Nat):BlkS w0 (w.setCell ⟨g,1,none⟩ (.int .i64 (k':Nat))) B g gf bl A n c k' ps F nb x0 x1 x2 :=
 h.only (grown_set _ _ _) (h.cut.atPut k')
theorem BlkS.toPut (h:BlkS w0 w B g gf bl A n c k ps F nb x0 x1 x2) (u:Value):BlkS w0 (w.setCell ⟨bl,2,none⟩ u) B g gf bl A n c k ps F nb x0 x1 u:=by
 have hng:g≠bl:=by
  obtain ⟨-,cs',hb,-⟩:=h.cut;exact hb.ne_ h.blk (by decide)
 have hnf:gf≠bl:=by
  obtain ⟨hl,id,at_,en,P,Ab,cb,xs,k,ho⟩:=h.fn;exact k.ne_ h.blk (by decide)
 have hcell:(w.setCell ⟨bl,2,none⟩ u).cell? ⟨gf,3,none⟩=w.cell? ⟨gf,3,none⟩:=World.cell?_of_block (Below.heap_setCell _ _ _ _ hnf);refine ⟨h.cut.far hng u,?_,by simpa using h.blk.set_ 2 u,h.low,fun Ab cb e=>h.sep Ab cb (hcell.symm.trans e),h.below.setCell h.low u,h.keep.trans (fun j t cs kj _ _ h3=>kj.far (p:=⟨bl,2,none⟩) (kj.ne_ h.blk h3) u)⟩
 obtain ⟨Ab',cb',xs',e3,-,-⟩:=h.fn.blks;have hs:=h.sep _ _ e3;obtain ⟨hl,id,at_,en,P,Ab,cb,xs,k,ho⟩:=h.fn;have e4:=k.cell 3;rw [e3] at e4;simp at e4;obtain ⟨rfl,rfl⟩:=e4;exact ⟨hl,id,at_,en,P,_,_,xs,k.far (p:=⟨bl,2,none⟩) hnf u,own_set_other ho (p:=⟨bl,2,none⟩) hs u⟩
end
section
variable {P:Program} {t e:TypeId} {z:Value} {size bytes:Nat}
theorem step_ap_any (S:SliceOf P t e z size bytes) (w:World) {ops:Array Oper} {o:Oper} {a:Act} {K:Act→World→Prop} {Q:Exit→Act→World→Prop} {E:Prop} (hgd:o.guard=none) (s x:Operand)
  (hop:o.op=.call { callee:=.builtin .append,args:=#[s,x],argTypes:=#[t,t] }) (base:Nat) (v:Value) (n:Nat) (xs:List Value) (hs:a.eval s=v) (hown:w.ownsRow base e size v n xs)
  (B:Nat) (A:Option Addr) (m c:Nat) (news:List Value) (hx:a.eval x=.slice A m c) (hr:Reads w B size A m news) (h1:∀ u∈news,u.oneCell'=true)
  (h63:n+m≤9223372036854775807) (hb:(n+m)*bytes≤140737488355328) (hbase:base≤w.heap.size)
  (hK:∀ A' c' w',w'.ownsRow base e size (.slice A' (n+m) c') (n+m) (xs++news)→w.grownBy w' v.ownBlock→K (a.put o.dst (.slice A' (n+m) c')) w') :
  if Region.wanted o (yielded ops a.tmps)=true then Oper.wp P o a w K Q else E:=by
 obtain ⟨i,h2,h3,h4,rfl⟩:=info_parts S.hi;refine step_append_any w hgd s x t hop base e i z size i.bytes S.ht h2 h3 h4 rfl S.hs S.pos v n xs hs hown B A m c news hx hr h1 (by unfold maxLen;omega) hb hbase ?_
 intro v' w' ho hgr _;obtain ⟨A',c',rfl⟩:=own_shape ho;exact hK A' c' w' ho hgr
end
end
end Go.Proofs.YtdebjkiilnhgpaaGreatDoor
