/- Walks: New, of a module whose ids are well. -/
import Derived.Test.YtdebjkiilnhgpaaGreatDoorCTQ
set_option maxRecDepth 100000
set_option maxHeartbeats 4000000
namespace Go.Proofs.YtdebjkiilnhgpaaGreatDoor
open Go.RowKit
theorem start_ (w0 w:World) (q:Nat) (hq:w.heap.size=q+1) (hb:Below w0.heap.size w0 w) (hl:w0.heap.size+2≤q) :
  NewS w0 (((((w.alloc (.map #[] 0)).alloc (.cells #[.map (some (q+1)),.slice none 0 0] 82)).alloc (.map #[] 0)).alloc (.map #[] 0)).alloc (.cells #[.pointer (some ⟨q+2,0,none⟩),.map (some (q+3)),.map (some (q+4))] 85)) q 0 0 st0 sl0:=by
 have m1:=MapU.made w;rw [hq] at m1;have kt:=Blk.new (w.alloc (.map #[] 0)) 82 #[.map (some (q+1)),.slice none 0 0];have m3:=MapU.made ((w.alloc (.map #[] 0)).alloc (.cells #[.map (some (q+1)),.slice none 0 0] 82));have m4:=MapS.made (((w.alloc (.map #[] 0)).alloc (.cells #[.map (some (q+1)),.slice none 0 0] 82)).alloc (.map #[] 0));have km:=Blk.new ((((w.alloc (.map #[] 0)).alloc (.cells #[.map (some (q+1)),.slice none 0 0] 82)).alloc (.map #[] 0)).alloc (.map #[] 0)) 85 #[.pointer (some ⟨q+2,0,none⟩),.map (some (q+3)),.map (some (q+4))];simp only [World.size_alloc,hq] at kt m3 m4 km;refine ⟨⟨fun _=>sl0,none,0,0,((kt.alloc _).alloc _).alloc _,World.ownsRow_nil _ _ _ _,Nat.le_refl _,⟨⟨0,fun _=>false,?_,fun _ _=>⟨rfl,rfl⟩⟩,fun _=>Reads.none_,fun _=>fine0.1,fun _=>fine0.2⟩,fun _ ad _ h=>(by cases h),fun ad _ h=>(by cases h),⟨Nat.le_refl _,fun ad h=>(by cases h)⟩,fun _=>⟨Nat.le_refl _,fun ad h=>(by cases h)⟩⟩,km,
  ⟨fun _=>inst0,⟨⟨0,fun _=>false,?_,fun _ _=>rfl⟩,fun _=>⟨Reads.none_,by decide,fun x hx=>(by cases hx),fun a ha=>(by cases ha)⟩,fun _ h=>(by cases h)⟩,fun _=>rfl⟩,fun _=>⟨Int.le_refl _,(by show (0:Int)<4294967296;decide)⟩,⟨⟨0,fun _=>false,?_,fun _ _=>rfl⟩,fun _=>⟨Int.le_refl _,Int.le_refl _⟩⟩,?_,hl,?_⟩
 ·simpa using (((m1.alloc _).alloc _).alloc _).alloc _
 ·simpa using (m3.alloc _).alloc _
 ·simpa using m4.alloc _
 ·have h1:=hb.alloc hb.size (.map #[] 0);have h2:=h1.alloc h1.size (.cells #[.map (some (q+1)),.slice none 0 0] 82);have h3:=h2.alloc h2.size (.map #[] 0);have h4:=h3.alloc h3.size (.map #[] 0);exact h4.alloc h4.size _
 ·simp only [World.size_alloc,hq];omega
theorem new_ok (gen bound:Int) (ls:List InstA) (A:Option Addr) (n c:Nat) (w:World) (hM:ModS w w.heap.size A n ls) (h0:(idsM bound (ls.map (·.1))).1=0) (hP:Pow w)
  (hu:∀ x∈ls,∀ a∈x.1.2.2.2,0≤a.2.1∧a.2.1<4294967296) (hop:∀ x∈ls,0≤x.1.1∧x.1.1<65536) :
  Calls Tryz.prog 14 #[.agg (modC gen bound A n c)] w (NewIs (newM bound (ls.map (·.1))) w):=by
 have hv:newM bound (ls.map (·.1))=newL st0 (ls.map (·.1)) 0:=if_neg (by rw [h0];decide)
 have hsh:=ids_shape h0;have hn:=hM.len;have hlen:=hM.length;obtain ⟨v,hvv⟩:∃ v,v=newM bound (ls.map (·.1)):=⟨_,rfl⟩;rw [← hvv];rw [hv] at hvv;have HV:=Lib.hid hvv;clear hv hvv;have hb1:=((Below.refl w.heap.size w).alloc (Nat.le_refl _) (.cells (modC gen bound A n c) 25)).alloc (by simp) (.cells #[.int .i64 0,.int .i64 0] 28)
 have hck:=check_any gen bound ls A n c ((w.alloc (.cells (modC gen bound A n c) 25)).alloc (.cells #[.int .i64 0,.int .i64 0] 28)) (hM.step hb1);have kR:=Blk.new (w.alloc (.cells (modC gen bound A n c) 25)) 28 #[.int .i64 0,.int .i64 0];rw [World.size_alloc] at kR;rw [h0] at hck;generalize (idsM bound (ls.map (·.1))).2=r2 at *;have k0:=(Blk.new w 25 (modC gen bound A n c)).alloc (.cells #[.int .i64 0,.int .i64 0] 28);have hsz1:((w.alloc (.cells (modC gen bound A n c) 25)).alloc (.cells #[.int .i64 0,.int .i64 0] 28)).heap.size=w.heap.size+2:=by simp
 unfold modC at *;have j0:=k0.cell 0;have j1:=k0.cell 1;have j2:=k0.cell 2;simp at j0 j1 j2;have hmm:=@run_makeMap Tryz.prog;go_enter Tryz.func14,Tryz.ntmps14;go_wp2_with (go_at_call 27;refine hck.mono ?_;rintro e w2 ⟨rfl,hb2⟩;have hb3:=below_cut hb1 hb2 (Nat.le_refl _);have hb4:=hb3.alloc hb3.size (.cells #[.int .i64 0,.int .i64 r2] 28);have kR2:=kR.step hb2;have kR3:=kR2.alloc (.cells #[.int .i64 0,.int .i64 r2] 28);have hsz2:=hb2.size;have k02:=k0.step hb2;obtain ⟨l0,l1,l2⟩:=three3 ((((((k02.alloc (.cells #[.int .i64 0,.int .i64 r2] 28)).alloc (.map #[] 0)).alloc (.cells #[.map (some (w2.heap.size+1)),.slice none 0 0] 82)).alloc (.map #[] 0)).alloc (.map #[] 0)).alloc (.cells #[.pointer (some ⟨w2.heap.size+1+1,0,none⟩),.map (some (w2.heap.size+1+1+1)),.map (some (w2.heap.size+1+1+1+1))] 85)))
 have hst:=start_ w (w2.alloc (.cells #[.int .i64 0,.int .i64 r2] 28)) w2.heap.size (by simp) hb4 (by omega)
 have kR9:=((((kR3.alloc (.map #[] 0)).alloc (.cells #[.map (some (w2.heap.size+1)),.slice none 0 0] 82)).alloc (.map #[] 0)).alloc (.map #[] 0)).alloc (.cells #[.pointer (some ⟨w2.heap.size+2,0,none⟩),.map (some (w2.heap.size+3)),.map (some (w2.heap.size+4))] 85);have hq:w.heap.size+2≤w2.heap.size:=by omega
 clear l0 l1 l2 k02 hsz2 kR3 kR2 hb4 hb3 hb2 hb1 j0 j1 j2 hck kR k0 hsz1 hmm;simp only [Nat.add_assoc,Nat.reduceAdd] at hst kR9 ⊢;generalize ((((((w2.alloc (Obj.cells #[Value.int IntKind.i64 0,Value.int IntKind.i64 r2] 28)).alloc (Obj.map #[] 0)).alloc (Obj.cells #[Value.map (some (w2.heap.size+1)),Value.slice none 0 0] 82)).alloc (Obj.map #[] 0)).alloc (Obj.map #[] 0)).alloc (Obj.cells #[Value.pointer (some ⟨w2.heap.size+2,0,none⟩),Value.map (some (w2.heap.size+3)),Value.map (some (w2.heap.size+4))] 85))=W at *;generalize w2.heap.size=q at *;have HV0:Hid (v=newL st0 ((ls.map (·.1)).drop 0) 0):=HV;clear HV;go_loopg [27] n (fun p i wr=>∃ (k:Nat) (s:StN),k+p=n∧i=.int .i64 (k:Nat)∧Hid (v=newL s ((ls.map (·.1)).drop k) k)∧NewS w wr q k k s sl0∧Blk wr (w.heap.size+1) 28 #[.int .i64 0,.int .i64 0])
 case atStart=>exact ⟨0,st0,by omega,rfl,HV0,hst,kR9⟩
 case round =>
  obtain ⟨k,s,hp,rfl,HK,hN,kr⟩:=hrel;clear hst kR9 HV0
  by_cases hlt:k<n
  ·obtain ⟨pp,rfl⟩:∃ pp,gk=pp+1:=⟨gk-1,by omega⟩
   have hMr:=hM.keep hN.below;obtain ⟨b,off,rfl,hbb,hcc⟩:=hMr.reads.insts (by omega)
   obtain ⟨c0,c1,c2,c3⟩:=hcc k hlt;have hli:ls.length=n:=by rw [← hlen,List.length_map]
   have hmem:=ig_mem (l:=ls) (k:=k) (by omega)
   have hio:=hMr.ok _ hmem;have hst:=newL_step (s:=s) (ig_map (ls:=ls) (k:=k) (by omega))
   rw [← HK.out] at hst;have hux:=hu _ hmem;have hox:=hop _ hmem;have hsx:=hsh _ (List.mem_map.2 ⟨_,hmem,rfl⟩);generalize ig ls k=X at *;obtain ⟨⟨op,ty,res,l⟩,A',n',c'⟩:=X;dsimp only at *;have hb1:=(Below.refl wr.heap.size wr).alloc (Nat.le_refl _) (.cells #[.int .u16 op,.int .u32 ty,.int .u32 res,.slice A' n' c'] 42);have N1:=hN.step hb1;have kr1:=kr.alloc (.cells #[.int .u16 op,.int .u32 ty,.int .u32 res,.slice A' n' c'] 42);have kI1:=Blk.new wr 42 #[.int .u16 op,.int .u32 ty,.int .u32 res,.slice A' n' c'];obtain ⟨i0,i1,i2,i3⟩:=four_ kI1;have hio1:InstOk (wr.alloc (.cells #[.int .u16 op,.int .u32 ty,.int .u32 res,.slice A' n' c'] 42)) w.heap.size ((op,ty,res,l),A',n',c'):=(hM.ok _ hmem).keep N1.below;have hln:l.length=n':=hio1.reads.args_len;obtain ⟨y,bb,er,hr⟩:∃ y bb er,(y,bb,er)=oneT s.T s.M (op,ty,res,l):=⟨_,_,_,rfl⟩;have hone:Calls Tryz.prog 28 #[.pointer (some ⟨q+5,0,none⟩),.agg #[.int .u16 op,.int .u32 ty,.int .u32 res,.slice A' n' c']] (wr.alloc (.cells #[.int .u16 op,.int .u32 ty,.int .u32 res,.slice A' n' c'] 42)) (OneIs (y,bb,er) (wr.alloc (.cells #[.int .u16 op,.int .u32 ty,.int .u32 res,.slice A' n' c'] 42))):=by
    obtain ⟨S,Ao,mo,co,kt,ho,hmo,hT,hd⟩:=N1.tb;obtain ⟨M,hMd,hMe⟩:=N1.mad;have e:(fun id=>(M id).1)=s.M:=funext hMe
    have h1:=one_any (q+5) (q+2) (q+1) (q+3) s.T S M ((op,ty,res,l),A',n',c') _ (three3 N1.mak).1 (three3 N1.mak).2.1 (two_ kt).1 hT (hMd.more N1.below.size) (fun id=>by rw [hMe];exact N1.fst id) (hio1.more N1.below.size) hux (fun h=>by rw [← hln];exact args_two hsx h)
    rw [e] at h1;rw [hr];exact h1
   have hfine:Fine y:=by
    obtain ⟨S,Ao,mo,co,kt,ho,hmo,hT,hd⟩:=N1.tb;have:=oneT_fine (M:=s.M) (fun id=>⟨hT.size id,hT.depth id⟩) (fun id=>(N1.fst id).1) (op,ty,res,l)
    rw [← hr] at this;exact this
   have hfalse:bb=false→er=0:=by
    have:=oneT_false s.T s.M (op,ty,res,l);rw [← hr] at this;exact this
   have hE:errN s (op,ty,res,l)=if bb=true∧er=0∧(againR s.R (op,ty,res,l)).1=true then 101 else er:=by
    unfold errN;rw [← hr]
   have hX:nextN s (op,ty,res,l)={ T:=if bb=true then updT s.T res y else s.T,M:=updT s.M res (op,ty,res,l),R:=if bb=true∧er=0 then (againR s.R (op,ty,res,l)).2 else s.R,ord:=if bb=true then s.ord++[res] else s.ord }:=by
    unfold nextN;rw [← hr];rfl
   have h43:=args_one hsx;have hf1:0≤firstN (op,ty,res,l)∧firstN (op,ty,res,l)<4294967296:=by
    unfold firstN
    by_cases hl0:0<l.length
    ·exact hux _ (ag_mem hl0)
    ·have:l=[]:=List.eq_nil_of_length_eq_zero (by omega)
     rw [this];exact ⟨Int.le_refl _,(by show (0:Int)<4294967296;decide)⟩
   have HE:=Lib.hid hE;have HX:=Lib.hid hX;have HS:=Lib.hid hst;clear hE hX hst hr HK;have hio0:=hM.ok _ hmem;have hux0:∀ a∈((op,ty,res,l):InstI).2.2.2,0≤a.2.1∧a.2.1<4294967296:=hux;have hox0:0≤((op,ty,res,l):InstI).1∧((op,ty,res,l):InstI).1<65536:=hox;clear hcc hsx hsh hmem hux hox;unfold OneIs tyV at hone;dsimp only at hone;have hlow0:=hN.low;cases bb with
   | false =>
    obtain rfl:er=0:=hfalse rfl;have hE0:errN s (op,ty,res,l)=0:=by rw [HE.out,if_neg (by rintro ⟨h,-⟩;cases h)]
    have HE0:=Lib.hid hE0;clear hE0 HE hfalse;go_wp2_with (go_at_call 28;refine hone.mono ?_;rintro e w3 ⟨sl,rfl,hrd,hlow,hb3⟩;have N3:=(N1.step_new hb3 hlow).step ((Below.refl w3.heap.size w3).alloc (Nat.le_refl _) (.cells (tyV y sl) 89));have kr3:=(kr1.step hb3).alloc (.cells (tyV y sl) 89);have kI3:=(kI1.step hb3).alloc (.cells (tyV y sl) 89);clear hone)
    unfold tyV at N3 kr3 kI3;generalize (w3.alloc (.cells #[.int .u8 y.kind,.int .i64 y.size,.int .i64 y.depth,.bool y.signed,.int .u32 y.cls,.int .u32 y.part,.int .i64 y.times,.slice sl.1 sl.2.1 sl.2.2] 89))=W3 at *;have N4:=N3.step (Below.refl W3.heap.size W3).drew;obtain ⟨w5,hput,N5,hg5⟩:=N4.made_ res ((op,ty,res,l),A',n',c') (hio0.keep N4.below) h43 hf1;have kr5:=kr3.drew.grown hg5 (by simp;omega)
    unfold instC at hput;dsimp only at hput;obtain ⟨m0,m1,m2⟩:=three3 N3.mak;obtain ⟨j0,j1,j2,j3⟩:=four_ kI3;go_region
    all_goals
     go_wp2_with fail;go_roundg (n-(k+1))
     case measure=>omega
     case rel =>
      have hnx:nextN s (op,ty,res,l)={ s with M:=updT s.M res (op,ty,res,l) }:=by rw [HX.out];simp
      refine ⟨k+1,nextN s (op,ty,res,l),by omega,by go_num,Lib.hid ?_,?_,kr5⟩
      ·rw [HS.out,HE0.out,if_neg (by decide)]
      ·rw [hnx];exact (N5.more.moreJ).step_new (Below.refl _ _) (sl0_low _)
   | true =>
    by_cases her:er=0
    ·subst her;clear hfalse;have hPw:=hP;cases hag:(againR s.R (op,ty,res,l)).1 with
     | true =>
      have hE0:errN s (op,ty,res,l)=101:=by rw [HE.out,if_pos ⟨rfl,rfl,hag⟩]
      have HE0:=Lib.hid hE0;have hv1:v=(101,(k:Int),s):=by rw [HS.out,HE0.out,if_pos (by decide)]
      have HV1:=Lib.hid hv1;clear hE0 HE hv1 HS HX;go_wp2_with (first
       | (go_at_call 28;refine hone.mono ?_;rintro e w3 ⟨sl,rfl,hrd,hlow,hb3⟩;have N3:=(N1.step_new hb3 hlow).step ((Below.refl w3.heap.size w3).alloc (Nat.le_refl _) (.cells (tyV y sl) 89));have kr3:=(kr1.step hb3).alloc (.cells (tyV y sl) 89);have kI3:=(kI1.step hb3).alloc (.cells (tyV y sl) 89);unfold tyV at N3 kr3 kI3;obtain ⟨m0,m1,m2⟩:=three3 N3.mak;obtain ⟨j0,j1,j2,j3⟩:=four_ kI3;have hagc:=again_any (q+5) (q+4) k s.R ((op,ty,res,l),A',n',c') _ m2 N3.seen (by omega) (hP.step N3.below) ((hio0.keep N3.below).more N3.below.size) hux0 hox0;rw [hag] at hagc;unfold instC at hagc;dsimp only at hagc;clear hone)
       | (go_at_call 29;refine hagc.mono ?_;rintro e w4 ⟨rfl,hS4,hg4⟩;have kr4:=kr3.grown hg4 (by simp;omega);have N4:=N3.again_ hg4 hS4;have fz4:=kr4.frozen;obtain ⟨z40,z41⟩:=two_ kr4;clear hagc))
      exact bodyPost_ret (spot_end rfl _ rfl rfl (spot_put kr4 (.int .i64 101) (.int .i64 k))) rfl (show NewIs v w _ _ by rw [HV1.out];exact ⟨(N4.below.setCell (p:=⟨w.heap.size+1,0,none⟩) (Nat.le_succ _) _).setCell (p:=⟨w.heap.size+1,1,none⟩) (Nat.le_succ _) _,fun h=>(by cases h),fun _=>rfl⟩)
     | false =>
      have hE0:errN s (op,ty,res,l)=0:=by rw [HE.out,if_neg (by rintro ⟨-,-,h⟩;rw [hag] at h;cases h)]
      have HE0:=Lib.hid hE0;clear hE0 HE;go_wp2_with (first
       | (go_at_call 28;refine hone.mono ?_;rintro e w3 ⟨sl,rfl,hrd,hlow,hb3⟩;have N3:=(N1.step_new hb3 hlow).step ((Below.refl w3.heap.size w3).alloc (Nat.le_refl _) (.cells (tyV y sl) 89));have hrd3:=(hrd.alloc (Nat.le_refl _) (.cells (tyV y sl) 89));have kY3:=Blk.new w3 89 (tyV y sl);have kr3:=(kr1.step hb3).alloc (.cells (tyV y sl) 89);have kI3:=(kI1.step hb3).alloc (.cells (tyV y sl) 89);have hyq:q+6≤w3.heap.size:=(N1.step_new hb3 hlow).top;have hIq:q+6≤wr.heap.size:=hN.top;unfold tyV at N3 kr3 kI3 hrd3 kY3;obtain ⟨m0,m1,m2⟩:=three3 N3.mak;obtain ⟨j0,j1,j2,j3⟩:=four_ kI3;have hagc:=again_any (q+5) (q+4) k s.R ((op,ty,res,l),A',n',c') _ m2 N3.seen (by omega) (hP.step N3.below) ((hio0.keep N3.below).more N3.below.size) hux0 hox0;rw [hag] at hagc;unfold instC at hagc;dsimp only at hagc;clear hone)
       | (go_at_call 29;refine hagc.mono ?_;rintro e w4 ⟨rfl,hS4,hg4⟩;have kr4:=kr3.grown hg4 (by simp;omega);have kI4:=kI3.grown hg4 (by simp;omega);have kY4:=kY3.grown hg4 (by simp;omega);have N4:=N3.again_ hg4 hS4;have hrd4:=hrd3.mapped hg4 N3.seen.row (Nat.le_trans (by simp) hg4.size);clear hagc m0 m1 m2 j0 j1 j2 j3))
      have N4d:=N4.step (Below.refl w4.heap.size w4).drew;obtain ⟨w5,hput,N5,hg5⟩:=N4d.put_ res y (hrd4.keep (fun _ _=>rfl)) hfine
      have kr5:=kr4.drew.grown hg5 (by simp;omega)
      have kI5:=kI4.drew.grown hg5 (by simp;omega)
      unfold tyV at hput;obtain ⟨m0,m1,m2⟩:=three3 N4.mak;obtain ⟨j0,j1,j2,j3⟩:=four_ kI4;obtain ⟨y0,y1,y2,y3,y4,y5,y6,y7⟩:=ty8_ kY4;have t0:w4.cell? ⟨q+2,0,none⟩=some (.map (some (q+1))):=by
       obtain ⟨S,Ao,mo,co,kt,-⟩:=N4.tb;exact (two_ kt).1
      go_region
      all_goals
       clear hput j0 j1 j2 j3 y0 y1 y2 y3 y4 y5 y6 y7 t0 m0 m1 m2;go_wp2_with fail;obtain ⟨S,A,m,c9,kt,ho,hm,hT,hd1,hd2,hd3,hcS⟩:=N5.tb;have ha0:=Below.refl w5.heap.size w5;have N5a:=(N5.step (Below.refl w5.heap.size w5).drew).step ((Below.refl w5.drew.heap.size w5.drew).alloc (Nat.le_refl _) (.cells #[.int .u32 res] 22));have hlit:=Reads.litN w5.drew #[.int .u32 res] 22 1 1 1 rfl rfl (by omega)
       have hq5:q+6≤w5.heap.size:=N5.top;have kt5:=kt.drew.alloc (.cells #[.int .u32 res] 22);have kM5:=N5.mak.drew.alloc (.cells #[.int .u32 res] 22);have kIa:=kI5.drew.alloc (.cells #[.int .u32 res] 22);have kra:=kr5.drew.alloc (.cells #[.int .u32 res] 22);have ho5:=ho.drew.alloc (.cells #[.int .u32 res] 22);have g1:∀ o,(w5.alloc o).cell? ⟨q+2,1,none⟩=some (.slice A m c9):=fun o=>(two_ (kt.alloc o)).2
       have g2:∀ o,(w5.alloc o).cell? ⟨q+5,0,none⟩=some (.pointer (some ⟨q+2,0,none⟩)):=fun o=>(three3 (N5.mak.alloc o)).1
       obtain ⟨j0,j1,j2,j3⟩:=four_ kI5;obtain ⟨t0,t1⟩:=two_ kt;obtain ⟨m0,m1,m2⟩:=three3 N5.mak;have hT5:=(hT.step (Below.refl w5.heap.size w5).drew).step ((Below.refl w5.drew.heap.size w5.drew).alloc (Nat.le_refl _) (.cells #[.int .u32 res] 22));have hnI:(Value.slice A m c9).ownBlock≠some wr.heap.size:=own_blk_ne ho5 kIa (by decide)
       have hio5:=hio0.keep N5a.below;have HN5:=Lib.hid N5a;have HT5:=Lib.hid hT5;have HIO:=Lib.hid hio0;clear N1 N3 N4 N4d N5 kr3 kr4 kr5 kI3 kI4 kI5 kY3 kY4 kr1 kI1 hM hMr hb1 hrd3 hrd4 hrd hlow hb3 hS4 hg4 hg5 hN kr i0 i1 i2 i3 hio1 hio0 hio hux0 hox0 hP hPw N5a hT5 hT ho kt c0 c1 c2 c3 hio5 hu hop ha0;go_region_law (first
        | (refine step_ap_any3 sl32 (w5.drew.alloc (.cells #[.int .u32 res] 22)) rfl _ _ rfl (q+6) _ _ _ rfl ho5 _ _ 1 1 [.int .u32 res] rfl hlit (by simp [Value.oneCell']) (by omega) (by omega) (by rw [World.size_alloc];exact Nat.le_succ_of_le hq5) ?_;intro A8 c8 w8 ho8 hg8 h38;have kt8:=kt5.grown hg8 (Ne.symm (own_ne_low ho5 (by omega)));have kM8:=kM5.grown hg8 (Ne.symm (own_ne_low ho5 (by omega)));obtain ⟨p0,p1⟩:=two_ kt8;have p4:=kt8.frozen 1;obtain ⟨p5,p6,p7⟩:=three3 kM8))
       all_goals
        have N9:=HN5.out.ord_ kt5 ho5 hm HT5.out hd1 ho8 hg8 h38 hcS;have kr9:=(kra.grown hg8 (Ne.symm (own_ne_low ho5 (by omega)))).far (p:=⟨q+2,1,none⟩) (show w.heap.size+1≠q+2 by omega) (.slice A8 (m+1) c8)
        have kI9:=(kIa.grown hg8 (Ne.symm hnI)).far (p:=⟨q+2,1,none⟩) (show wr.heap.size≠q+2 by omega) (.slice A8 (m+1) c8)
        clear kt5 kM5 kIa kra ho5 hm hd1 hd2 hd3 hcS ho8 hg8 h38 kt8 kM8 p0 p1 p4 p5 p6 p7 j0 j1 j2 j3 t0 t1 m0 m1 m2 g1 g2 hlit HN5 HT5;generalize w8.setCell ⟨q+2,1,none⟩ (.slice A8 (m+1) c8)=w9 at *;have N9d:=N9.step (Below.refl w9.heap.size w9).drew;obtain ⟨wA,hput,NA,hgA⟩:=N9d.made_ res ((op,ty,res,l),A',n',c') (HIO.out.keep N9d.below) h43 hf1;have krA:=kr9.drew.grown hgA (by simp;omega)
        unfold instC at hput;dsimp only at hput;obtain ⟨m0,m1,m2⟩:=three3 N9.mak;obtain ⟨j0,j1,j2,j3⟩:=four_ kI9;go_wp2_with fail;go_region
        all_goals
         go_wp2_with fail;go_roundg (n-(k+1))
         case measure=>omega
         case rel =>
          have hnx:nextN s (op,ty,res,l)=⟨updT s.T res y,updT s.M res (op,ty,res,l),(againR s.R (op,ty,res,l)).2,s.ord++[res]⟩:=by rw [HX.out];simp
          refine ⟨k+1,nextN s (op,ty,res,l),by omega,by go_num,Lib.hid ?_,?_,krA⟩
          ·rw [HS.out,HE0.out,if_neg (by decide)]
          ·rw [hnx];exact NA
    ·have hE0:errN s (op,ty,res,l)=er:=by rw [HE.out,if_neg (by rintro ⟨-,h,-⟩;exact her h)]
     have HE0:=Lib.hid hE0;have hv1:v=(er,(k:Int),s):=by rw [HS.out,HE0.out,if_pos her]
     have HV1:=Lib.hid hv1;have d1:(er==0)=false:=by simpa using her
     have d2:(er != 0)=true:=by simpa using her
     clear hE0 HE hv1 HS HX hfalse;go_wp2_with (first
      | (go_at_call 28;refine hone.mono ?_;rintro e w3 ⟨sl,rfl,hrd,hlow,hb3⟩;have N3:=(N1.step_new hb3 hlow).step ((Below.refl w3.heap.size w3).alloc (Nat.le_refl _) (.cells (tyV y sl) 89));have kr3:=(kr1.step hb3).alloc (.cells (tyV y sl) 89);unfold tyV at N3 kr3;have fz3:=kr3.frozen;obtain ⟨z30,z31⟩:=two_ kr3;clear hone))
     exact bodyPost_ret (spot_end rfl _ rfl rfl (spot_put kr3 (.int .i64 er) (.int .i64 k))) rfl (show NewIs v w _ _ by rw [HV1.out];exact ⟨(N3.below.setCell (p:=⟨w.heap.size+1,0,none⟩) (Nat.le_succ _) _).setCell (p:=⟨w.heap.size+1,1,none⟩) (Nat.le_succ _) _,fun h=>absurd h her,fun _=>rfl⟩)
  ·obtain rfl:gk=0:=by omega
   obtain rfl:k=n:=by omega
   have hv1:=HK.out;rw [List.drop_of_length_le (by omega)] at hv1
   have hv2:v=(0,0,s):=hv1;have HV2:=Lib.hid hv2;clear hv1 hv2 HK;obtain ⟨m0,m1,m2⟩:=three3 hN.mak;have fzr:=kr.frozen;obtain ⟨r0,r1⟩:=two_ kr;go_wp2_with fail;exact bodyPost_ret (spot_end rfl _ rfl rfl (spot_put kr (.int .i64 0) (.int .i64 0))) rfl (show NewIs v w _ _ by
    rw [HV2.out];exact ⟨(hN.below.setCell (p:=⟨w.heap.size+1,0,none⟩) (Nat.le_succ _) _).setCell (p:=⟨w.heap.size+1,1,none⟩) (Nat.le_succ _) _,fun _=>⟨q+2,rfl,by omega,hN.table hn kr 0 0⟩,fun h=>absurd rfl h⟩)
end Go.Proofs.YtdebjkiilnhgpaaGreatDoor
