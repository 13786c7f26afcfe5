/- Walks: a checker is begun. -/
import Derived.Deep.DeepCutAuto
import Derived.Deep.RegionLaw
import Derived.Test.YtdebjkiilnhgpaaGreatDoorCVJ
import Derived.Test.YtdebjkiilnhgpaaGreatDoorCVA
import Derived.Test.YtdebjkiilnhgpaaGreatDoorCVC
import Derived.Test.YtdebjkiilnhgpaaGreatDoorCVH
set_option maxRecDepth 100000
set_option maxHeartbeats 4000000
namespace Go.Proofs.YtdebjkiilnhgpaaGreatDoor
section
open Go.RowKit
theorem insT_of {bound:Int} {L:List InstI} {ls:List InstA} (hL:ls.map (·.1)=L) (hc:(conM bound L).1=0) (hu:∀ x∈ls,∀ a∈x.1.2.2.2,0≤a.2.1∧a.2.1<4294967296) (hcap:∀ x∈ls,x.2.2.1≤x.2.2.2):∀ x∈ls,InsT x:=fun x hx=>by
 obtain ⟨-,-,-,-,h5⟩:=conM_ok hc;obtain ⟨f,wi⟩:=rawR_ok (ids_shape h5 x.1 (by rw [← hL];exact List.mem_map.2 ⟨x,hx,rfl⟩))
 exact ⟨wi.least,hcap x hx,hu x hx⟩
structure StaS (w0:World) (d:CkD) (w:World):Prop where
 blk:Blk w d.gc 61 #[.pointer (some ⟨d.gt,0,none⟩),.pointer (some ⟨d.gp,0,none⟩),.slice d.A d.n d.c,.map (some d.bm),.int .u32 0]
 below:Below w0.heap.size w0 w
 low:w0.heap.size≤d.gc
 lowm:w0.heap.size≤d.bm
 ne:d.bm≠d.gc
 tab:TabW w0 (some ⟨d.gt,0,none⟩) d.T d.S
 pool:PooS w0 d.gp d.gt d.T d.C
 mods:ModS w0 w0.heap.size d.A d.n d.ls
 mad:MadM w w0.heap.size d.bm d.M
 ty:Typed d.T
 all:CkT d
section
variable {w0 w w':World} {d:CkD}
theorem StaS.step (h:StaS w0 d w) (hb:Below w.heap.size w w'):StaS w0 d w' :=
 ⟨h.blk.step hb,below_cut h.below hb (Nat.le_refl _),h.low,h.lowm,h.ne,h.tab,h.pool,h.mods,h.mad.same (hb.block _ h.mad.lt) (fun _ hp=>hb.cell (Nat.lt_of_lt_of_le hp h.below.size)),h.ty,h.all⟩
theorem StaS.ck (h:StaS w0 d w):CkS d 0 w:=⟨h.blk,⟨w0,h.below,h.low,h.ne,h.tab,h.pool,h.mods,h.mad⟩,h.ty,fun id e=>by
 have:=(h.all.M id).least;unfold argN at this;rw [if_neg (by omega),if_pos (by omega)] at this
 exact this⟩
theorem StaS.put (h:StaS w0 d w) (x:InstA) (hx:x∈d.ls):∃ w',(Instr.mapUpdate 59 (.map (some d.bm)) (.int .u32 x.1.2.2.1) (.agg (instC x))).run Tryz.prog w=.ok () w' ∧
  StaS w0 ⟨d.gc,d.gt,d.gp,d.A,d.n,d.c,d.bm,d.T,d.S,updT d.M x.1.2.2.1 x,d.C,d.ls⟩ w'∧w.grownBy w' (some d.bm):=by
 have hi:=h.all.ls x hx;obtain ⟨w',h1,h2,h3⟩:=h.mad.put x.1.2.2.1 x ((h.mods.ok x hx).keep h.below) (fun e=>by
  have:=hi.least;unfold argN at this;rw [if_pos (by omega)] at this
  exact this)
 refine ⟨w',h1,⟨h.blk.grown h3 (by simpa using (Ne.symm h.ne)),h.below.grown h3 h.below.size (fun b e=>by cases e;exact h.lowm),h.low,h.lowm,h.ne,h.tab,h.pool,h.mods,h2,h.ty,h.all.cap,h.all.ls,fun id=>?_⟩,h3⟩
 show InsT (updT d.M x.1.2.2.1 x id)
 unfold updT
 split
 ·exact hi
 ·exact h.all.M id
end
theorem types_ck (gp gt:Nat) (T:Int→TyI) (C:Int→Option Int) (w:World) (h:PooS w gp gt T C):Calls Tryz.prog 35 #[.pointer (some ⟨gp,0,none⟩)] w fun e w'=>e=.returned (.pointer (some ⟨gt,0,none⟩))∧w'=w:=by
 obtain ⟨bc,S,vi,vv,vm,k,-⟩:=h;have c0:=k.cell 0;simp at c0;go_enter Tryz.func35,Tryz.ntmps35;go_wp2_with fail;go_ret
 exact ⟨rfl,rfl⟩
def StaIs (bound:Int) (ls:List InstA) (A:Option Addr) (n c:Nat) (w:World) (e:Ending) (w':World):Prop :=
 Below w.heap.size w w'∧(((conM bound (ls.map (·.1))).1=0∧∃ d:CkD,e=.returned (.tuple #[.pointer (some ⟨d.gc,0,none⟩),.agg #[.int .i64 0,.int .i64 0]])∧CkS d 0 w'∧CkT d∧d.ls=ls∧d.A=A∧d.n=n∧d.c=c∧d.g=tgM bound (ls.map (·.1))∧w.heap.size≤d.gc) ∨
  ((conM bound (ls.map (·.1))).1≠0∧e=.returned (.tuple #[.pointer none,.agg #[.int .i64 (conM bound (ls.map (·.1))).1,.int .i64 (conM bound (ls.map (·.1))).2.1]])))
theorem sta_new {W:World} {gp gt n c:Nat} {A:Option Addr} {T:Int→TyI} {S:Int→SlI} {C:Int→Option Int} {ls:List InstA} (hT:TabW W (some ⟨gt,0,none⟩) T S) (hP:PooS W gp gt T C) (hM:ModS W W.heap.size A n ls) (hY:Typed T) (hnc:n≤c) (hI:∀ x∈ls,InsT x) :
  StaS W ⟨W.heap.size+1,gt,gp,A,n,c,W.heap.size,T,S,fun _=>inst0,C,ls⟩ ((W.drew.alloc (.map #[] 0)).alloc (.cells #[.pointer (some ⟨gt,0,none⟩),.pointer (some ⟨gp,0,none⟩),.slice A n c,.map (some W.heap.size),.int .u32 0] 61)):=by
 have hk:=Blk.new (W.drew.alloc (.map #[] 0)) 61 #[.pointer (some ⟨gt,0,none⟩),.pointer (some ⟨gp,0,none⟩),.slice A n c,.map (some W.heap.size),.int .u32 0];rw [World.size_alloc] at hk;have hm:=(MapU.made W.drew).alloc (.cells #[.pointer (some ⟨gt,0,none⟩),.pointer (some ⟨gp,0,none⟩),.slice A n c,.map (some W.heap.size),.int .u32 0] 61);have hb:=((Below.refl W.heap.size W).drew.alloc (Nat.le_refl _) (.map #[] 0)).alloc (by rw [World.size_alloc];exact Nat.le_succ _) (.cells #[.pointer (some ⟨gt,0,none⟩),.pointer (some ⟨gp,0,none⟩),.slice A n c,.map (some W.heap.size),.int .u32 0] 61)
 exact ⟨hk,hb,Nat.le_succ _,Nat.le_refl _,Nat.ne_of_lt (Nat.lt_succ_self _),hT,hP,hM,⟨⟨0,fun _=>false,hm.ext (fun k=>by cases k <;> try rfl),fun _ _=>rfl⟩,fun _=>⟨Reads.none_,Nat.zero_le _,fun x hx=>(by cases hx),fun a ha=>(by cases ha)⟩,fun _ h=>(by cases h)⟩,hY,⟨hnc,hI,fun _=>InsT.zero⟩⟩
theorem below_spot_same {W:World} {g:Nat} {a b:Int} (k:Blk W g 28 #[.int .i64 a,.int .i64 b]):Below W.heap.size W ((W.setCell ⟨g,0,none⟩ (.int .i64 a)).setCell ⟨g,1,none⟩ (.int .i64 b)):=by
 have k2:Blk ((W.setCell ⟨g,0,none⟩ (.int .i64 a)).setCell ⟨g,1,none⟩ (.int .i64 b)) g 28 #[.int .i64 a,.int .i64 b]:=by simpa using (k.set_ 0 (.int .i64 a)).set_ 1 (.int .i64 b)
 refine ⟨rfl,rfl,rfl,by simp,fun j hj=>?_⟩
 by_cases e:j=g
 ·subst e;exact k2.trans k.symm
 ·exact (Below.heap_setCell _ _ _ _ e).trans (Below.heap_setCell _ _ _ _ e)
theorem foldN_take {L:List InstI} {k:Nat} {i:InstI} (h:L[k]?=some i):(L.take (k+1)).foldl makN (fun _=>(0,0,0,[]))=makN ((L.take k).foldl makN fun _=>(0,0,0,[])) i:=by
 obtain ⟨hk,rfl⟩:=List.getElem?_eq_some_iff.1 h;rw [List.take_succ_eq_append_getElem hk,List.foldl_append];rfl
theorem started_any (gen bound:Int) (ls:List InstA) (A:Option Addr) (n c:Nat) (w:World) (hM:ModS w w.heap.size A n ls) (hP:Pow w)
  (hu:∀ x∈ls,∀ a∈x.1.2.2.2,0≤a.2.1∧a.2.1<4294967296) (hop:∀ x∈ls,0≤x.1.1∧x.1.1<65536) (hnc:n≤c) (hcap:∀ x∈ls,x.2.2.1≤x.2.2.2) :
  Calls Tryz.prog 19 #[.agg (modC gen bound A n c)] w (StaIs bound ls A n c w):=by
 have hlen:=hM.length;have hn:=hM.len;have hb0:=((Below.refl w.heap.size w).alloc (Nat.le_refl _) (.cells #[.int .u32 gen,.int .u32 bound,.slice A n c] 25)).alloc (by simp) (.cells #[.int .i64 0,.int .i64 0] 28)
 have k1:=(Blk.new w 25 #[.int .u32 gen,.int .u32 bound,.slice A n c]).alloc (.cells #[.int .i64 0,.int .i64 0] 28);have k3:=Blk.new (w.alloc (.cells #[.int .u32 gen,.int .u32 bound,.slice A n c] 25)) 28 #[.int .i64 0,.int .i64 0];rw [World.size_alloc] at k3;have hcon:=consts_any gen bound ls A n c _ (hM.step hb0) (hP.step hb0) hu hop;unfold modC StaIs at *;obtain ⟨z0,z1,z2⟩:=three_ k1;obtain ⟨L,hL⟩:∃ L,ls.map (·.1)=L:=⟨_,rfl⟩;rw [hL] at hcon hlen ⊢
 by_cases h0:(conM bound L).1=0
 ·have hI:=insT_of hL h0 hu hcap;obtain ⟨-,hs2,hw2,-⟩:=conM_ok h0;have hY:Typed (conM bound L).2.2.1.T:=by rw [hs2];exact hw2.typed
  have hcon2:Calls Tryz.prog 9 #[.agg #[.int .u32 gen,.int .u32 bound,.slice A n c]] ((w.alloc (.cells #[.int .u32 gen,.int .u32 bound,.slice A n c] 25)).alloc (.cells #[.int .i64 0,.int .i64 0] 28)) fun e w'=>∃ gp gt S,e=.returned (.tuple #[.pointer (some ⟨gp,0,none⟩),.agg #[.int .i64 0,.int .i64 0]])∧Below ((w.alloc (.cells #[.int .u32 gen,.int .u32 bound,.slice A n c] 25)).alloc (.cells #[.int .i64 0,.int .i64 0] 28)).heap.size ((w.alloc (.cells #[.int .u32 gen,.int .u32 bound,.slice A n c] 25)).alloc (.cells #[.int .i64 0,.int .i64 0] 28)) w'∧TabW w' (some ⟨gt,0,none⟩) (conM bound L).2.2.1.T S∧PooS w' gp gt (conM bound L).2.2.1.T (conM bound L).2.2.2:=by
   refine hcon.mono ?_;rintro e w' ⟨hb,⟨-,gp,gt,S,h1,h2,h3⟩ | ⟨h1,-⟩⟩
   ·exact ⟨gp,gt,S,h1,hb,h2,h3⟩
   ·exact absurd h0 h1
  have hg:tgM bound L=⟨(conM bound L).2.2.1.T,makL L,(conM bound L).2.2.2⟩:=rfl;rw [hg];have H0:=Lib.hid h0;generalize (conM bound L).2.2.1.T=T at *;generalize (conM bound L).2.2.2=C at *;have HM:=Lib.hid hM;have HI:=Lib.hid hI;have HL:=Lib.hid hL;clear hcon hM hP hu hop h0 hcap hg hs2 hw2 hI hL;go_enter Tryz.func19,Tryz.ntmps19;go_wp2_with (go_at_call 9;refine hcon2.mono ?_;rintro e w2 ⟨gp,gt,S,rfl,hb2,hT2,hP2⟩;have hb3:=below_cut hb0 hb2 (Nat.le_refl _);have kS:=Blk.new w2 28 #[.int .i64 0,.int .i64 0];have kR:=(k3.step hb2).alloc (.cells #[.int .i64 0,.int .i64 0] 28);have kM:=(k1.step hb2).alloc (.cells #[.int .i64 0,.int .i64 0] 28);have hbS:=(Below.refl w2.heap.size w2).alloc (Nat.le_refl _) (.cells #[.int .i64 0,.int .i64 0] 28);have hT3:=hT2.step hbS;have hP3:=hP2.step hbS;obtain ⟨x0,x1⟩:=two_ kS;obtain ⟨y0,y1,y2⟩:=three_ kM;have hb4:=hb3.alloc hb3.size (.cells #[.int .i64 0,.int .i64 0] 28))
  have hbM:=below_cut (Below.refl w.heap.size w) hb4 (Nat.le_refl _);have hM5:=HM.out.step hb4;have kRr:=kR;have kMr:=kM;have hs5:w.heap.size+2≤(w2.alloc (.cells #[.int .i64 0,.int .i64 0] 28)).heap.size:=by
   have h1:=hb2.size;rw [World.size_alloc,World.size_alloc] at h1;rw [World.size_alloc];omega
  clear hb2 hb3 hbS hT2 hP2 x0 x1 y0 y1 y2 z0 z1 z2 k1 k3 hb0 hcon2 kR kM;go_upto_region 4 with fail
  generalize (w2.alloc (.cells #[.int .i64 0,.int .i64 0] 28))=W5 at *;have hSN:=sta_new (A:=A) (c:=c) hT3 hP3 hM5 hY hnc HI.out;have hty1:=types_ck gp gt T C W5.drew (hP3.step (Below.refl W5.heap.size W5).drew);have hty2:=types_ck gp gt T C (W5.drew.alloc (.map #[] 0)) (hP3.step ((Below.refl W5.heap.size W5).drew.alloc (Nat.le_refl _) (.map #[] 0)));have hty3:=types_ck gp gt T C (W5.alloc (.map #[] 0)).drew (hP3.step ((Below.refl W5.heap.size W5).alloc (Nat.le_refl _) (.map #[] 0)).drew);have hmm:=@run_makeMap Tryz.prog;have HS:=Lib.hid hSN;go_cut [6] (fun p wx=>∃ gc bm:Nat,p=.pointer (some ⟨gc,0,none⟩)∧StaS W5 ⟨gc,gt,gp,A,n,c,bm,T,S,fun _=>inst0,C,ls⟩ wx)
  case first =>
   obtain ⟨y0,y1,y2⟩:=three_ kMr;have gy2:=fun o=>cell_alloc_c o y2
   clear hSN;go_region_law (first
    | (go_simp;go_at_call 35;(with_reducible refine hty1.mono ?_);rintro e w' ⟨rfl,rfl⟩)
    | (go_simp;go_at_call 35;(with_reducible refine hty2.mono ?_);rintro e w' ⟨rfl,rfl⟩)
    | (go_simp;go_at_call 35;(with_reducible refine hty3.mono ?_);rintro e w' ⟨rfl,rfl⟩))
   all_goals
    go_wp2_with fail;go_meet
    exact ⟨_,_,rfl,HS.out⟩
  obtain ⟨gc,bm,rfl,hS⟩:=hcut;clear hSN HS hty1 hty2 hty3 hmm;have hMM:Hid (∀ id,((fun _:Int=>inst0) id).1=((L.take 0).foldl makN fun _=>(0,0,0,[])) id):=Lib.hid (fun _=>rfl)
  have hls:ls.length=n:=by rw [← hlen,← HL.out,List.length_map]
  obtain ⟨y0,y1,y2⟩:=three_ (kMr.step hS.below);go_wp2_with fail;clear y0 y1 y2;go_loopg [29] n (fun q i wr=>∃ (k:Nat) (M:Int→InstA),k+q=n∧i=.int .i64 (k:Nat)∧Hid (∀ id,(M id).1=((L.take k).foldl makN fun _=>(0,0,0,[])) id)∧StaS W5 ⟨gc,gt,gp,A,n,c,bm,T,S,M,C,ls⟩ wr)
  case atStart=>exact ⟨0,_,by omega,rfl,hMM,hS⟩
  case round =>
   obtain ⟨k,M,hq,rfl,HK,hSr⟩:=hrel;clear hMM hS
   by_cases hlt:k<n
   ·obtain ⟨ib,io,rfl,hib,hcc⟩:=(hM5.step hSr.below).reads.insts (by omega)
    obtain ⟨c0,c1,c2,c3⟩:=hcc k hlt;have hmem:=ig_mem (l:=ls) (k:=k) (by omega)
    have hLk:L[k]?=some (ig ls k).1:=by rw [← HL.out];exact ig_map (by omega)
    have hfo:=foldN_take hLk;have HF:=Lib.hid hfo;have hSa:=hSr.step ((Below.refl wr.heap.size wr).alloc (Nat.le_refl _) (.cells (instC (ig ls k)) 42));have kI:=Blk.new wr 42 (instC (ig ls k));obtain ⟨wP,hput,hSp,hgP⟩:=(hSa.step (Below.refl _ _).drew).put (ig ls k) hmem;generalize ig ls k=x at *;obtain ⟨⟨op,ty,res,al⟩,A',n',c'⟩:=x;unfold instC at hput hSa kI hgP;dsimp only at c0 c1 c2 c3 hput hSa kI HF hSp hgP;obtain ⟨z0,z1,z2,z3⟩:=four_ kI;have d1:decide (((k:Nat):Int)<(n:Nat))=true:=by rw [decide_eq_true_eq];omega
    have hi1:((k:Nat):Int)<(n:Nat):=by omega
    have g3:=hSa.blk.cell 3;simp at g3;clear hcc hLk hfo hmem
    by_cases hres:res=0
    ·subst hres;have d2:((0:Int) != 0)=false:=rfl;have HK2:Hid (∀ id,(M id).1=((L.take (k+1)).foldl makN fun _=>(0,0,0,[])) id):=Lib.hid (fun id=>by
      rw [HF.out,HK.out];unfold makN;rw [if_neg (fun h=>h rfl)])
     have HS2:=Lib.hid hSa;clear HK hput hSp hSr;go_wp2_with fail;go_roundg (n-(k+1))
     case measure=>omega
     case rel=>exact ⟨k+1,M,by omega,by go_num,HK2,HS2.out⟩
    ·have d2:(res != 0)=true:=by simpa using hres
     have HK2:Hid (∀ id,(updT M res ((op,ty,res,al),A',n',c') id).1=((L.take (k+1)).foldl makN fun _=>(0,0,0,[])) id):=Lib.hid (fun id=>by
      rw [HF.out];unfold makN;rw [if_pos hres]
      show (updT M res _ id).1=updT _ res _ id
      unfold updT
      split
      ·rfl
      ·exact HK.out id)
     have HS2:=Lib.hid hSp;clear HK hSp hSr;go_wp2_with fail;go_region
     all_goals
      go_wp2_with fail;go_roundg (n-(k+1))
      case measure=>omega
      case rel=>exact ⟨k+1,_,by omega,by go_num,HK2,HS2.out⟩
   ·obtain rfl:gk=0:=by omega
    obtain rfl:k=n:=by omega
    have d1:decide (((k:Nat):Int)<(k:Nat))=false:=by rw [decide_eq_false_iff_not];omega
    have kR9:=kRr.step hSr.below;have kS9:=kS.step hSr.below;obtain ⟨r0,r1⟩:=two_ kR9;obtain ⟨x0,x1⟩:=two_ kS9;have fz:=kR9.frozen;have HS2:=Lib.hid hSr;have HB:=Lib.hid (below_cut hb4 hSr.below (Nat.le_refl _));have hMe:(fun id=>(M id).1)=makL L:=by
     funext id
     rw [HK.out id,List.take_of_length_le (by omega)]
     rfl
    have HME:=Lib.hid hMe;clear hSr hMe HK;go_wp2_with fail;go_region
    all_goals
     go_wp2_with fail;have hE:=(below_spot_same kR9).drew;exact bodyPost_ret (spot_end rfl _ rfl rfl (spot_put kR9 (.int .i64 0) (.int .i64 0)).drew) rfl ⟨below_cut HB.out hE (Nat.le_refl _),.inl ⟨H0.out,_,rfl,HS2.out.ck.step hE,HS2.out.all,rfl,rfl,rfl,rfl,by show (⟨T,fun id=>(M id).1,C⟩:Tg)=_;rw [HME.out],Nat.le_trans (by omega) HS2.out.low⟩⟩
 ·have hcon2:Calls Tryz.prog 9 #[.agg #[.int .u32 gen,.int .u32 bound,.slice A n c]] ((w.alloc (.cells #[.int .u32 gen,.int .u32 bound,.slice A n c] 25)).alloc (.cells #[.int .i64 0,.int .i64 0] 28)) fun e w'=>e=.returned (.tuple #[.pointer none,.agg #[.int .i64 (conM bound L).1,.int .i64 (conM bound L).2.1]])∧Below ((w.alloc (.cells #[.int .u32 gen,.int .u32 bound,.slice A n c] 25)).alloc (.cells #[.int .i64 0,.int .i64 0] 28)).heap.size ((w.alloc (.cells #[.int .u32 gen,.int .u32 bound,.slice A n c] 25)).alloc (.cells #[.int .i64 0,.int .i64 0] 28)) w':=by
   refine hcon.mono ?_;rintro e w' ⟨hb,⟨h1,-⟩ | ⟨-,h1⟩⟩
   ·exact absurd h1 h0
   ·exact ⟨h1,hb⟩
  generalize (conM bound L).1=e1 at *;generalize (conM bound L).2.1=e2 at *;have d1:(e1 != 0)=true:=by simpa using h0
  have HZ:=Lib.hid h0;clear hcon hM hP hu hop h0 hcap;go_enter Tryz.func19,Tryz.ntmps19;go_wp2_with (go_at_call 9;refine hcon2.mono ?_;rintro e w2 ⟨rfl,hb2⟩;have hb3:=below_cut hb0 hb2 (Nat.le_refl _);have kS:=Blk.new w2 28 #[.int .i64 e1,.int .i64 e2];have kR:=(k3.step hb2).alloc (.cells #[.int .i64 e1,.int .i64 e2] 28);obtain ⟨x0,x1⟩:=two_ kS;obtain ⟨r0,r1⟩:=two_ kR;have fz:=kR.frozen;have hb4:=hb3.alloc hb3.size (.cells #[.int .i64 e1,.int .i64 e2] 28))
  clear hcon2 hb2 hb3 hb0 k1 k3 z0 z1 z2;go_region
  all_goals
   go_wp2_with fail;exact bodyPost_ret (spot_end rfl _ rfl rfl (spot_put kR (.int .i64 e1) (.int .i64 e2))) rfl ⟨(hb4.setCell (p:=⟨w.heap.size+1,0,none⟩) (Nat.le_succ _) _).setCell (p:=⟨w.heap.size+1,1,none⟩) (Nat.le_succ _) _ |>.drew,.inr ⟨HZ.out,rfl⟩⟩
end
section
open Go.RowKit
structure ModT (w:World) (A:Option Addr) (n c:Nat) (ls:List InstA) (L:List InstI):Prop where
 mod:ModS w w.heap.size A n ls
 map:ls.map (·.1)=L
 cap:n≤c
 caps:∀ x∈ls,x.2.2.1≤x.2.2.2
 u:∀ i∈L,∀ a∈i.2.2.2,0≤a.2.1∧a.2.1<4294967296
 op:∀ i∈L,0≤i.1∧i.1<65536
 pow:Pow w
theorem ModT.step {w w':World} {A:Option Addr} {n c:Nat} {ls:List InstA} {L:List InstI} (h:ModT w A n c ls L) (hb:Below w.heap.size w w'):ModT w' A n c ls L:=⟨h.mod.step hb,h.map,h.cap,h.caps,h.u,h.op,h.pow.step hb⟩
theorem ModT.started {w:World} {A:Option Addr} {n c:Nat} {ls:List InstA} {L:List InstI} (h:ModT w A n c ls L) (gen bound:Int):Calls Tryz.prog 19 #[.agg (modC gen bound A n c)] w fun e w'=>Below w.heap.size w w' ∧
  (((conM bound L).1=0∧∃ d:CkD,e=.returned (.tuple #[.pointer (some ⟨d.gc,0,none⟩),.agg #[.int .i64 0,.int .i64 0]])∧CkS d 0 w'∧CkT d∧d.ls=ls∧d.A=A∧d.n=n∧d.c=c∧d.g=tgM bound L∧w.heap.size≤d.gc) ∨
   ((conM bound L).1≠0∧e=.returned (.tuple #[.pointer none,.agg #[.int .i64 (conM bound L).1,.int .i64 (conM bound L).2.1]]))):=by
 have h1:=started_any gen bound ls A n c w h.mod h.pow (fun x hx=>h.u x.1 (by rw [← h.map];exact List.mem_map.2 ⟨x,hx,rfl⟩)) (fun x hx=>h.op x.1 (by rw [← h.map];exact List.mem_map.2 ⟨x,hx,rfl⟩)) h.cap h.caps
 unfold StaIs at h1;rw [h.map] at h1;exact h1
theorem spot_endK {fn:Func} {p:Tmp} (h:fn.results=#[.cell p 28]) (tmps:Array Value) {W:World} {g:Nat} {a b:Int} (hp:tmps.getD p undef=.pointer (some ⟨g,0,none⟩)) (k:Blk W g 28 #[.int .i64 a,.int .i64 b]) :
  (results fn tmps).run Tryz.prog W=.ok (.agg #[.int .i64 a,.int .i64 b]) W:=by
 have ha:(asAddr (.pointer (some ⟨g,0,none⟩))).run Tryz.prog W=.ok ⟨g,0,none⟩ W:=rfl;obtain ⟨z0,z1⟩:=two_ k;have hl:(loadVar 28 ⟨g,0,none⟩).run Tryz.prog W=.ok (.agg #[.int .i64 a,.int .i64 b]) W:=by go_simp
 rw [results_c1 h,hp,ha];simp only [Result.andThen_ok];exact hl
noncomputable def fitM (bound:Int) (L:List InstI) (at_:Int):Bool × Int × Int:=if (conM bound L).1≠0 then (false,(conM bound L).1,(conM bound L).2.1) else if at_<0∨(L.length:Int)≤at_ then (false,3,0) else (fitAt (tgM bound L) L at_.toNat,0,0)
noncomputable def typM (bound:Int) (L:List InstI) (id:Int):Int × Int × Int:=if (conM bound L).1≠0 then (0,(conM bound L).1,(conM bound L).2.1) else if id=0∨bound≤id then (0,3,0) else if ofT (makL L) id=0 then (0,5,0) else (ofT (makL L) id,0,0)
def SpotIs (r:Int × Int) (w:World) (e:Ending) (w':World):Prop:=e=.returned (.agg #[.int .i64 r.1,.int .i64 r.2])∧Below w.heap.size w w'
def FitIs (r:Bool × Int × Int) (w:World) (e:Ending) (w':World):Prop:=e=.returned (.tuple #[.bool r.1,.agg #[.int .i64 r.2.1,.int .i64 r.2.2]])∧Below w.heap.size w w'
def TypIs (r:Int × Int × Int) (w:World) (e:Ending) (w':World):Prop:=e=.returned (.tuple #[.int .u32 r.1,.agg #[.int .i64 r.2.1,.int .i64 r.2.2]])∧Below w.heap.size w w'
theorem chk_any (gen bound:Int) (A:Option Addr) (n c:Nat) (ls:List InstA) (L:List InstI) (w:World) (hT:ModT w A n c ls L) :
  Calls Tryz.prog 7 #[.agg (modC gen bound A n c)] w (SpotIs (chkM bound L) w):=by
 have hn:=hT.mod.len;have hls:ls.length=n:=hT.mod.reads.insts_len;have hmp:=hT.map;have hb0:=((Below.refl w.heap.size w).alloc (Nat.le_refl _) (.cells #[.int .u32 gen,.int .u32 bound,.slice A n c] 25)).alloc (by simp) (.cells #[.int .i64 0,.int .i64 0] 28)
 have k1:=(Blk.new w 25 #[.int .u32 gen,.int .u32 bound,.slice A n c]).alloc (.cells #[.int .i64 0,.int .i64 0] 28);have k3:=Blk.new (w.alloc (.cells #[.int .u32 gen,.int .u32 bound,.slice A n c] 25)) 28 #[.int .i64 0,.int .i64 0];rw [World.size_alloc] at k3;have hst:=(hT.step hb0).started gen bound;have hsz:((w.alloc (.cells #[.int .u32 gen,.int .u32 bound,.slice A n c] 25)).alloc (.cells #[.int .i64 0,.int .i64 0] 28)).heap.size=w.heap.size+2:=by simp
 rw [hsz] at hst;unfold modC SpotIs at *;obtain ⟨z0,z1,z2⟩:=three_ k1;unfold chkM;clear hT
 by_cases h0:(conM bound L).1=0
 ·rw [if_neg (fun h=>h h0)]
  have hst2:=hst.mono (fun e w' h=>show Below (w.heap.size+2) _ w'∧∃ d:CkD,e=.returned (.tuple #[.pointer (some ⟨d.gc,0,none⟩),.agg #[.int .i64 0,.int .i64 0]])∧CkS d 0 w'∧CkT d∧d.ls=ls∧d.A=A∧d.n=n∧d.c=c∧d.g=tgM bound L∧w.heap.size+2≤d.gc from ⟨h.1,h.2.elim And.right (fun h=>absurd h0 h.1)⟩)
  obtain ⟨v,hv⟩:∃ v,chkL (tgM bound L) L 0 0=v:=⟨_,rfl⟩;rw [hv];have HV:=Lib.hid hv;have HM:=Lib.hid hmp;clear hst h0 hv hmp;go_enter Tryz.func7,Tryz.ntmps7;go_wp2_with (go_at_call 19;refine hst2.mono ?_;rintro e w2 ⟨hb2,d,rfl,hC,hCT,hdl,hdA,hdn,hdc,hdg,hlow⟩;rw [← hsz] at hb2;have hb3:=below_cut hb0 hb2 (Nat.le_refl _);have kS:=Blk.new w2 28 #[.int .i64 0,.int .i64 0];have kR:=(k3.step hb2).alloc (.cells #[.int .i64 0,.int .i64 0] 28);have kM:=(k1.step hb2).alloc (.cells #[.int .i64 0,.int .i64 0] 28);have hbS:=(Below.refl w2.heap.size w2).alloc (Nat.le_refl _) (.cells #[.int .i64 0,.int .i64 0] 28);have hC3:=hC.step hbS;obtain ⟨x0,x1⟩:=two_ kS;obtain ⟨y0,y1,y2⟩:=three_ kM;have hb4:=hb3.alloc hb3.size (.cells #[.int .i64 0,.int .i64 0] 28))
  have HV2:Hid (chkL d.g (L.drop 0) 0 0=v):=Lib.hid (by rw [hdg];exact HV.out)
  clear hb2 hb3 hbS hC x0 x1 y0 y1 y2 z0 z1 z2 k1 k3 hb0 hsz hst2 HV kS;go_loopg [19] n (fun q i wr=>∃ (k:Nat) (b:Int),k+q=n∧i=.int .i64 (k:Nat)∧CkS d b wr∧Hid (chkL d.g (L.drop k) b k=v)∧Blk wr w.heap.size 25 #[.int .u32 gen,.int .u32 bound,.slice A n c]∧Blk wr (w.heap.size+1) 28 #[.int .i64 0,.int .i64 0]∧Below w.heap.size w wr)
  case atStart=>exact ⟨0,0,by omega,rfl,hC3,HV2,kM,kR,hb4⟩
  case round =>
   obtain ⟨k,b,hq,rfl,hCr,HK,kMr,kRr,hbr⟩:=hrel;clear hC3 HV2 kM kR hb4
   by_cases hlt:k<n
   ·have hLk:L[k]?=some (ig ls k).1:=by rw [← HM.out];exact ig_map (by omega)
    have hdr:L.drop k=(ig ls k).1 :: L.drop (k+1):=by
     obtain ⟨hk2,he2⟩:=List.getElem?_eq_some_iff.1 hLk;rw [List.drop_eq_getElem_cons hk2,he2]
    have hE:=HK.out;rw [hdr] at hE;replace hE:(if fitT d.g (ig ls k).1 (L.drop (k+1)) (if (ig ls k).1.1=54 then (ig ls k).1.2.1 else b)=true then chkL d.g (L.drop (k+1)) (if (ig ls k).1.1=54 then (ig ls k).1.2.1 else b) (k+1) else (180,(k:Int)))=v:=hE
    have hfi:=fun b' w' (h:CkS d b' w')=>fits_ck d b' k w' h hCT (by rw [hdl];omega)
    rw [hdl,HM.out] at hfi;have hI:=hCr.insts;rw [hdl,hdA,hdn] at hI;obtain ⟨ib,io,rfl,hib,hcc⟩:=hI.reads.insts (by omega)
    obtain ⟨c0,c1,c2,c3⟩:=hcc k hlt;have HE0:=Lib.hid hE;clear hE hcc hdr hLk hI HK;generalize ig ls k=x at *;obtain ⟨⟨op,ty,res,al⟩,A',n',c'⟩:=x;dsimp only at c0 c1 c2 c3 HE0 hfi;have d1:decide (((k:Nat):Int)<(n:Nat))=true:=by rw [decide_eq_true_eq];omega
    have hi1:((k:Nat):Int)<(n:Nat):=by omega
    obtain ⟨z0,z1,z2,z3⟩:=four_ (Blk.new wr 42 #[.int .u16 op,.int .u32 ty,.int .u32 res,.slice A' n' c']);have hCa:=hCr.step ((Below.refl wr.heap.size wr).alloc (Nat.le_refl _) (.cells #[.int .u16 op,.int .u32 ty,.int .u32 res,.slice A' n' c'] 42));have kMa:=kMr.alloc (.cells #[.int .u16 op,.int .u32 ty,.int .u32 res,.slice A' n' c'] 42);have kRa:=kRr.alloc (.cells #[.int .u16 op,.int .u32 ty,.int .u32 res,.slice A' n' c'] 42);have hba:=hbr.alloc hbr.size (.cells #[.int .u16 op,.int .u32 ty,.int .u32 res,.slice A' n' c'] 42);clear hCr kMr kRr hbr
    by_cases h54:op=54
    ·subst h54;have hE:=HE0.out;rw [if_pos rfl] at hE;have HE:=Lib.hid hE;have hCb:=hCa.back ty;have kMb:=kMa.far (p:=⟨d.gc,4,none⟩) (show w.heap.size≠d.gc by omega) (.int .u32 ty)
     have kRb:=kRa.far (p:=⟨d.gc,4,none⟩) (show w.heap.size+1≠d.gc by omega) (.int .u32 ty)
     have hbb:=hba.setCell (p:=⟨d.gc,4,none⟩) (show w.heap.size≤d.gc by omega) (.int .u32 ty)
     have s4:=hCa.cell.2.2.2.2;have fz4:=hCa.blk.frozen 4;clear hE HE0;have hfi1:=hfi ty _ hCb;cases hft:fitT d.g (54,ty,res,al) (L.drop (k+1)) ty with
     | true =>
      rw [hft] at hfi1;have HK1:Hid (chkL d.g (L.drop (k+1)) ty (k+1)=v):=Lib.hid (by rw [← HE.out,if_pos hft])
      clear hfi hft HE;go_wp2_with (go_at_call 20;refine hfi1.mono ?_;rintro e w5 ⟨rfl,hb5⟩;have hC5:=hCb.step hb5;have kM5:=kMb.step hb5;have kR5:=kRb.step hb5;have hB5:=below_cut hbb hb5 (Nat.le_refl _))
      go_roundg (n-(k+1))
      case measure=>omega
      case rel=>exact ⟨k+1,ty,by omega,by go_num,hC5,HK1,kM5,kR5,hB5⟩
     | false =>
      rw [hft] at hfi1;have HV1:Hid (((180:Int),((k:Nat):Int))=v):=Lib.hid (by rw [← HE.out,if_neg (by rw [hft];decide)])
      clear hfi hft HE;go_wp2_with (go_at_call 20;refine hfi1.mono ?_;rintro e w5 ⟨rfl,hb5⟩;have kR5:=kRb.step hb5;have hB5:=below_cut hbb hb5 (Nat.le_refl _);obtain ⟨r0,r1⟩:=two_ kR5;have fz:=kR5.frozen;have HB:=Lib.hid hB5;clear hB5)
      exact bodyPost_ret (spot_endK rfl _ rfl (spot_put kR5 (.int .i64 180) (.int .i64 (k:Nat)))) rfl ⟨by rw [← HV1.out],(HB.out.setCell (p:=⟨w.heap.size+1,0,none⟩) (Nat.le_succ _) _).setCell (p:=⟨w.heap.size+1,1,none⟩) (Nat.le_succ _) _⟩
    ·have e54:(op==54)=false:=by simpa using h54
     have hE:=HE0.out;rw [if_neg h54] at hE;have HE:=Lib.hid hE;clear hE HE0;have hfi1:=hfi b _ hCa;cases hft:fitT d.g (op,ty,res,al) (L.drop (k+1)) b with
     | true =>
      rw [hft] at hfi1;have HK1:Hid (chkL d.g (L.drop (k+1)) b (k+1)=v):=Lib.hid (by rw [← HE.out,if_pos hft])
      clear hfi hft HE;go_wp2_with (go_at_call 20;refine hfi1.mono ?_;rintro e w5 ⟨rfl,hb5⟩;have hC5:=hCa.step hb5;have kM5:=kMa.step hb5;have kR5:=kRa.step hb5;have hB5:=below_cut hba hb5 (Nat.le_refl _))
      go_roundg (n-(k+1))
      case measure=>omega
      case rel=>exact ⟨k+1,b,by omega,by go_num,hC5,HK1,kM5,kR5,hB5⟩
     | false =>
      rw [hft] at hfi1;have HV1:Hid (((180:Int),((k:Nat):Int))=v):=Lib.hid (by rw [← HE.out,if_neg (by rw [hft];decide)])
      clear hfi hft HE;go_wp2_with (go_at_call 20;refine hfi1.mono ?_;rintro e w5 ⟨rfl,hb5⟩;have kR5:=kRa.step hb5;have hB5:=below_cut hba hb5 (Nat.le_refl _);obtain ⟨r0,r1⟩:=two_ kR5;have fz:=kR5.frozen;have HB:=Lib.hid hB5;clear hB5)
      exact bodyPost_ret (spot_endK rfl _ rfl (spot_put kR5 (.int .i64 180) (.int .i64 (k:Nat)))) rfl ⟨by rw [← HV1.out],(HB.out.setCell (p:=⟨w.heap.size+1,0,none⟩) (Nat.le_succ _) _).setCell (p:=⟨w.heap.size+1,1,none⟩) (Nat.le_succ _) _⟩
   ·obtain rfl:gk=0:=by omega
    obtain rfl:k=n:=by omega
    have d1:decide (((k:Nat):Int)<(k:Nat))=false:=by rw [decide_eq_false_iff_not];omega
    have hlL:L.length=k:=by rw [← HM.out,List.length_map];exact hls
    have HV1:Hid (((0:Int),(0:Int))=v):=Lib.hid (by rw [← HK.out,List.drop_of_length_le (by omega)];rfl)
    obtain ⟨r0,r1⟩:=two_ kRr;have fz:=kRr.frozen;have HB:=Lib.hid hbr;clear HK hbr;go_wp2_with fail;exact bodyPost_ret (spot_endK rfl _ rfl (spot_put kRr (.int .i64 0) (.int .i64 0))) rfl ⟨by rw [← HV1.out],(HB.out.setCell (p:=⟨w.heap.size+1,0,none⟩) (Nat.le_succ _) _).setCell (p:=⟨w.heap.size+1,1,none⟩) (Nat.le_succ _) _⟩
 ·rw [if_pos h0];have hst2:=hst.mono (fun e w' h=>show Below (w.heap.size+2) _ w'∧e=.returned (.tuple #[.pointer none,.agg #[.int .i64 (conM bound L).1,.int .i64 (conM bound L).2.1]]) from ⟨h.1,h.2.elim (fun h=>absurd h.1 h0) And.right⟩)
  generalize (conM bound L).1=e1 at *;generalize (conM bound L).2.1=e2 at *;have d1:(e1 != 0)=true:=by simpa using h0
  clear hst h0 hmp;go_enter Tryz.func7,Tryz.ntmps7;go_wp2_with (go_at_call 19;refine hst2.mono ?_;rintro e w2 ⟨hb2,rfl⟩;rw [← hsz] at hb2;have hb3:=below_cut hb0 hb2 (Nat.le_refl _);have kS:=Blk.new w2 28 #[.int .i64 e1,.int .i64 e2];have kR:=(k3.step hb2).alloc (.cells #[.int .i64 e1,.int .i64 e2] 28);obtain ⟨x0,x1⟩:=two_ kS;obtain ⟨r0,r1⟩:=two_ kR;have fz:=kR.frozen;have hb4:=hb3.alloc hb3.size (.cells #[.int .i64 e1,.int .i64 e2] 28))
  exact bodyPost_ret (spot_endK rfl _ rfl (spot_put kR (.int .i64 e1) (.int .i64 e2))) rfl ⟨rfl,(hb4.setCell (p:=⟨w.heap.size+1,0,none⟩) (Nat.le_succ _) _).setCell (p:=⟨w.heap.size+1,1,none⟩) (Nat.le_succ _) _⟩
end
section
open Go.RowKit
theorem cks_to {d:CkD} {b b2:Int} {w:World} (h:CkS d b w) (e:b2=b):CkS d b2 w:=by rw [e];exact h
theorem fitM_any (gen bound:Int) (A:Option Addr) (n c:Nat) (ls:List InstA) (L:List InstI) (at_:Int) (w:World) (hT:ModT w A n c ls L) :
  Calls Tryz.prog 11 #[.agg (modC gen bound A n c),.int .i64 at_] w (FitIs (fitM bound L at_) w):=by
 have hn:=hT.mod.len;have hls:ls.length=n:=hT.mod.reads.insts_len;have hmp:=hT.map;have hnc:=hT.cap;have hb0:=((Below.refl w.heap.size w).alloc (Nat.le_refl _) (.cells #[.int .u32 gen,.int .u32 bound,.slice A n c] 25)).alloc (by simp) (.cells #[.int .i64 0,.int .i64 0] 28)
 have k1:=(Blk.new w 25 #[.int .u32 gen,.int .u32 bound,.slice A n c]).alloc (.cells #[.int .i64 0,.int .i64 0] 28);have k3:=Blk.new (w.alloc (.cells #[.int .u32 gen,.int .u32 bound,.slice A n c] 25)) 28 #[.int .i64 0,.int .i64 0];rw [World.size_alloc] at k3;have hst:=(hT.step hb0).started gen bound;have hsz:((w.alloc (.cells #[.int .u32 gen,.int .u32 bound,.slice A n c] 25)).alloc (.cells #[.int .i64 0,.int .i64 0] 28)).heap.size=w.heap.size+2:=by simp
 rw [hsz] at hst;unfold modC FitIs at *;obtain ⟨z0,z1,z2⟩:=three_ k1;unfold fitM;clear hT;have hlL:L.length=n:=by rw [← hmp,List.length_map];exact hls
 rw [hlL]
 by_cases h0:(conM bound L).1=0
 ·rw [if_neg (fun h=>h h0)]
  have hst2:=hst.mono (fun e w' h=>show Below (w.heap.size+2) _ w'∧∃ d:CkD,e=.returned (.tuple #[.pointer (some ⟨d.gc,0,none⟩),.agg #[.int .i64 0,.int .i64 0]])∧CkS d 0 w'∧CkT d∧d.ls=ls∧d.A=A∧d.n=n∧d.c=c∧d.g=tgM bound L∧w.heap.size+2≤d.gc from ⟨h.1,h.2.elim And.right (fun h=>absurd h0 h.1)⟩)
  have HM:=Lib.hid hmp;clear hst h0 hmp
  by_cases hneg:at_<0
  ·rw [if_pos (.inl hneg)];have dn:decide (at_<0)=true:=by simpa using hneg
   go_enter Tryz.func11,Tryz.ntmps11;go_wp2_with (go_at_call 19;refine hst2.mono ?_;rintro e w2 ⟨hb2,d,rfl,hC,hCT,hdl,hdA,hdn,hdc,hdg,hlow⟩;rw [← hsz] at hb2;have hb3:=below_cut hb0 hb2 (Nat.le_refl _);have kS:=Blk.new w2 28 #[.int .i64 0,.int .i64 0];have kR:=(k3.step hb2).alloc (.cells #[.int .i64 0,.int .i64 0] 28);have kM:=(k1.step hb2).alloc (.cells #[.int .i64 0,.int .i64 0] 28);have hbS:=(Below.refl w2.heap.size w2).alloc (Nat.le_refl _) (.cells #[.int .i64 0,.int .i64 0] 28);have hC3:=hC.step hbS;obtain ⟨x0,x1⟩:=two_ kS;obtain ⟨y0,y1,y2⟩:=three_ kM;obtain ⟨r0,r1⟩:=two_ kR;have fz:=kR.frozen;have hb4:=hb3.alloc hb3.size (.cells #[.int .i64 0,.int .i64 0] 28))
   exact bodyPost_ret (spot_end rfl _ rfl rfl (spot_put kR (.int .i64 3) (.int .i64 0))) rfl ⟨rfl,(hb4.setCell (p:=⟨w.heap.size+1,0,none⟩) (Nat.le_succ _) _).setCell (p:=⟨w.heap.size+1,1,none⟩) (Nat.le_succ _) _⟩
  ·have dn:decide (at_<0)=false:=by simpa using hneg
   by_cases hbig:((n:Nat):Int)≤at_
   ·rw [if_pos (.inr hbig)];have db:decide (at_≥((n:Nat):Int))=true:=by simpa using hbig
    go_enter Tryz.func11,Tryz.ntmps11;go_wp2_with (go_at_call 19;refine hst2.mono ?_;rintro e w2 ⟨hb2,d,rfl,hC,hCT,hdl,hdA,hdn,hdc,hdg,hlow⟩;rw [← hsz] at hb2;have hb3:=below_cut hb0 hb2 (Nat.le_refl _);have kS:=Blk.new w2 28 #[.int .i64 0,.int .i64 0];have kR:=(k3.step hb2).alloc (.cells #[.int .i64 0,.int .i64 0] 28);have kM:=(k1.step hb2).alloc (.cells #[.int .i64 0,.int .i64 0] 28);have hbS:=(Below.refl w2.heap.size w2).alloc (Nat.le_refl _) (.cells #[.int .i64 0,.int .i64 0] 28);have hC3:=hC.step hbS;obtain ⟨x0,x1⟩:=two_ kS;obtain ⟨y0,y1,y2⟩:=three_ kM;obtain ⟨r0,r1⟩:=two_ kR;have fz:=kR.frozen;have hb4:=hb3.alloc hb3.size (.cells #[.int .i64 0,.int .i64 0] 28))
    exact bodyPost_ret (spot_end rfl _ rfl rfl (spot_put kR (.int .i64 3) (.int .i64 0))) rfl ⟨rfl,(hb4.setCell (p:=⟨w.heap.size+1,0,none⟩) (Nat.le_succ _) _).setCell (p:=⟨w.heap.size+1,1,none⟩) (Nat.le_succ _) _⟩
   ·rw [if_neg (by omega)]
    obtain ⟨k,rfl⟩:∃ k:Nat,at_=k:=⟨at_.toNat,by omega⟩
    have db:decide (((k:Nat):Int)≥((n:Nat):Int))=false:=by simpa using hbig
    have db2:decide (n≤k)=false:=by rw [decide_eq_false_iff_not];omega
    have hkn:k<n:=by omega
    have l0:(0:Int)≤(k:Nat):=by omega
    have l1:((k:Nat):Int)≤(n:Nat):=by omega
    have l2:((k:Nat):Int)≤(c:Nat):=by omega
    rw [Int.toNat_natCast];obtain ⟨v,hv⟩:∃ v,fitAt (tgM bound L) L k=v:=⟨_,rfl⟩;rw [hv];have HV:=Lib.hid hv;have hLk:L[k]?=some (ig ls k).1:=by rw [← HM.out];exact ig_map (by omega)
    rw [fitAt_at hLk] at hv;have HV:=Lib.hid hv;clear hv hneg hbig;go_enter Tryz.func11,Tryz.ntmps11;go_wp2_with (go_at_call 19;refine hst2.mono ?_;rintro e w2 ⟨hb2,d,rfl,hC,hCT,hdl,hdA,hdn,hdc,hdg,hlow⟩;rw [← hsz] at hb2;have hb3:=below_cut hb0 hb2 (Nat.le_refl _);have kS:=Blk.new w2 28 #[.int .i64 0,.int .i64 0];have kR:=(k3.step hb2).alloc (.cells #[.int .i64 0,.int .i64 0] 28);have kM:=(k1.step hb2).alloc (.cells #[.int .i64 0,.int .i64 0] 28);have hbS:=(Below.refl w2.heap.size w2).alloc (Nat.le_refl _) (.cells #[.int .i64 0,.int .i64 0] 28);have hC3:=hC.step hbS;obtain ⟨x0,x1⟩:=two_ kS;obtain ⟨y0,y1,y2⟩:=three_ kM;obtain ⟨r0,r1⟩:=two_ kR;have fz:=kR.frozen;have hb4:=hb3.alloc hb3.size (.cells #[.int .i64 0,.int .i64 0] 28);obtain ⟨ib,io,rfl,hib,-⟩:=(show ModS _ _ A n ls by { have hI:=hC3.insts;rw [hdl,hdA,hdn] at hI;exact hI }).reads.insts (by omega))
    have hfi:=fun w' (h:CkS d (backL (L.take k)) w')=>fits_ck d (backL (L.take k)) k w' h hCT (by rw [hdl];omega)
    rw [hdl,HM.out,hdg,HV.out] at hfi;clear hb2 hb3 hbS hC x0 x1 y0 y1 y2 z0 z1 z2 k1 k3 hb0 hsz hst2 HV kS r0 r1 fz;go_loopg [36] k (fun q i wr=>∃ (j:Nat),j+q=k∧i=.int .i64 (j:Nat)∧CkS d (backL (L.take j)) wr∧Blk wr w.heap.size 25 #[.int .u32 gen,.int .u32 bound,.slice (some ⟨ib,io,none⟩) n c]∧Blk wr (w.heap.size+1) 28 #[.int .i64 0,.int .i64 0]∧Below w.heap.size w wr)
    case atStart=>exact ⟨0,by omega,rfl,hC3,kM,kR,hb4⟩
    case round =>
     obtain ⟨j,hq,rfl,hCr,kMr,kRr,hbr⟩:=hrel;clear hC3 kM kR hb4
     by_cases hlt:j<k
     ·have hLj:L[j]?=some (ig ls j).1:=by rw [← HM.out];exact ig_map (by omega)
      have hbk:=backL_step hLj;have hI:=hCr.insts;rw [hdl,hdA,hdn] at hI;obtain ⟨jb,jo,eA,hjb,hcc⟩:=hI.reads.insts (by omega)
      cases eA
      obtain ⟨c0,c1,c2,c3⟩:=hcc j (by omega)
      have HB:=Lib.hid hbk;clear hbk hcc hLj hI;generalize ig ls j=x at *;obtain ⟨⟨op,ty,res,al⟩,A',n',c'⟩:=x;dsimp only at c0 c1 c2 c3 HB;have d1:decide (((j:Nat):Int)<(k:Nat))=true:=by rw [decide_eq_true_eq];omega
      have hi1:((j:Nat):Int)<(k:Nat):=by omega
      obtain ⟨z0,z1,z2,z3⟩:=four_ (Blk.new wr 42 #[.int .u16 op,.int .u32 ty,.int .u32 res,.slice A' n' c']);have hCa:=hCr.step ((Below.refl wr.heap.size wr).alloc (Nat.le_refl _) (.cells #[.int .u16 op,.int .u32 ty,.int .u32 res,.slice A' n' c'] 42));have kMa:=kMr.alloc (.cells #[.int .u16 op,.int .u32 ty,.int .u32 res,.slice A' n' c'] 42);have kRa:=kRr.alloc (.cells #[.int .u16 op,.int .u32 ty,.int .u32 res,.slice A' n' c'] 42);have hba:=hbr.alloc hbr.size (.cells #[.int .u16 op,.int .u32 ty,.int .u32 res,.slice A' n' c'] 42);clear hCr kMr kRr hbr
      by_cases h54:op=54
      ·subst h54;have hC1:=cks_to (hCa.back ty) (show backL (L.take (j+1))=ty by rw [HB.out,if_pos rfl])
       have kMb:=kMa.far (p:=⟨d.gc,4,none⟩) (show w.heap.size≠d.gc by omega) (.int .u32 ty)
       have kRb:=kRa.far (p:=⟨d.gc,4,none⟩) (show w.heap.size+1≠d.gc by omega) (.int .u32 ty)
       have hbb:=hba.setCell (p:=⟨d.gc,4,none⟩) (show w.heap.size≤d.gc by omega) (.int .u32 ty)
       have s4:=hCa.cell.2.2.2.2;have fz4:=hCa.blk.frozen 4;go_wp2_with fail;go_roundg (k-(j+1))
       case measure=>omega
       case rel=>exact ⟨j+1,by omega,by go_num,hC1,kMb,kRb,hbb⟩
      ·have e54:(op==54)=false:=by simpa using h54
       have hC1:=cks_to hCa (show backL (L.take (j+1))=backL (L.take j) by rw [HB.out,if_neg h54])
       go_wp2_with fail;go_roundg (k-(j+1))
       case measure=>omega
       case rel=>exact ⟨j+1,by omega,by go_num,hC1,kMa,kRa,hba⟩
     ·obtain rfl:gk=0:=by omega
      obtain rfl:j=k:=by omega
      have d1:decide (((j:Nat):Int)<(j:Nat))=false:=by rw [decide_eq_false_iff_not];omega
      have hfi1:=hfi wr hCr;clear hfi;go_wp2_with (go_at_call 20;refine hfi1.mono ?_;rintro e w5 ⟨rfl,hb5⟩;have kR5:=kRr.step hb5;have hB5:=below_cut hbr hb5 (Nat.le_refl _);obtain ⟨r0,r1⟩:=two_ kR5;have fz:=kR5.frozen;have HB:=Lib.hid hB5;clear hB5)
      exact bodyPost_ret (spot_end rfl _ rfl rfl (spot_put kR5 (.int .i64 0) (.int .i64 0))) rfl ⟨rfl,(HB.out.setCell (p:=⟨w.heap.size+1,0,none⟩) (Nat.le_succ _) _).setCell (p:=⟨w.heap.size+1,1,none⟩) (Nat.le_succ _) _⟩
 ·rw [if_pos h0];have hst2:=hst.mono (fun e w' h=>show Below (w.heap.size+2) _ w'∧e=.returned (.tuple #[.pointer none,.agg #[.int .i64 (conM bound L).1,.int .i64 (conM bound L).2.1]]) from ⟨h.1,h.2.elim (fun h=>absurd h.1 h0) And.right⟩)
  generalize (conM bound L).1=e1 at *;generalize (conM bound L).2.1=e2 at *;have d1:(e1 != 0)=true:=by simpa using h0
  clear hst h0 hmp;go_enter Tryz.func11,Tryz.ntmps11;go_wp2_with (go_at_call 19;refine hst2.mono ?_;rintro e w2 ⟨hb2,rfl⟩;rw [← hsz] at hb2;have hb3:=below_cut hb0 hb2 (Nat.le_refl _);have kS:=Blk.new w2 28 #[.int .i64 e1,.int .i64 e2];have kR:=(k3.step hb2).alloc (.cells #[.int .i64 e1,.int .i64 e2] 28);obtain ⟨x0,x1⟩:=two_ kS;obtain ⟨r0,r1⟩:=two_ kR;have fz:=kR.frozen;have hb4:=hb3.alloc hb3.size (.cells #[.int .i64 e1,.int .i64 e2] 28))
  clear hst2 hb2 hb3 hb0 k1 k3 z0 z1 z2;go_region
  all_goals
   go_wp2_with fail;exact bodyPost_ret (spot_end rfl _ rfl rfl (spot_put kR (.int .i64 e1) (.int .i64 e2))) rfl ⟨rfl,(hb4.setCell (p:=⟨w.heap.size+1,0,none⟩) (Nat.le_succ _) _).setCell (p:=⟨w.heap.size+1,1,none⟩) (Nat.le_succ _) _ |>.drew⟩
theorem typM_any (gen bound:Int) (A:Option Addr) (n c:Nat) (ls:List InstA) (L:List InstI) (id:Int) (w:World) (hT:ModT w A n c ls L) :
  Calls Tryz.prog 13 #[.agg (modC gen bound A n c),.int .u32 id] w (TypIs (typM bound L id) w):=by
 have hn:=hT.mod.len;have hls:ls.length=n:=hT.mod.reads.insts_len;have hmp:=hT.map;have hnc:=hT.cap;have hb0:=((Below.refl w.heap.size w).alloc (Nat.le_refl _) (.cells #[.int .u32 gen,.int .u32 bound,.slice A n c] 25)).alloc (by simp) (.cells #[.int .i64 0,.int .i64 0] 28)
 have k1:=(Blk.new w 25 #[.int .u32 gen,.int .u32 bound,.slice A n c]).alloc (.cells #[.int .i64 0,.int .i64 0] 28);have k3:=Blk.new (w.alloc (.cells #[.int .u32 gen,.int .u32 bound,.slice A n c] 25)) 28 #[.int .i64 0,.int .i64 0];rw [World.size_alloc] at k3;have hst:=(hT.step hb0).started gen bound;have hsz:((w.alloc (.cells #[.int .u32 gen,.int .u32 bound,.slice A n c] 25)).alloc (.cells #[.int .i64 0,.int .i64 0] 28)).heap.size=w.heap.size+2:=by simp
 rw [hsz] at hst;unfold modC TypIs at *;obtain ⟨z0,z1,z2⟩:=three_ k1;unfold typM;clear hT
 by_cases h0:(conM bound L).1=0
 ·rw [if_neg (fun h=>h h0)]
  have hst2:=hst.mono (fun e w' h=>show Below (w.heap.size+2) _ w'∧∃ d:CkD,e=.returned (.tuple #[.pointer (some ⟨d.gc,0,none⟩),.agg #[.int .i64 0,.int .i64 0]])∧CkS d 0 w'∧CkT d∧d.ls=ls∧d.A=A∧d.n=n∧d.c=c∧d.g=tgM bound L∧w.heap.size+2≤d.gc from ⟨h.1,h.2.elim And.right (fun h=>absurd h0 h.1)⟩)
  have HM:=Lib.hid hmp;clear hst h0 hmp;have hofM:(tgM bound L).M=makL L:=rfl
  by_cases hz:id=0
  ·subst hz;rw [if_pos (.inl rfl)];go_enter Tryz.func13,Tryz.ntmps13;go_wp2_with (go_at_call 19;refine hst2.mono ?_;rintro e w2 ⟨hb2,d,rfl,hC,hCT,hdl,hdA,hdn,hdc,hdg,hlow⟩;rw [← hsz] at hb2;have hb3:=below_cut hb0 hb2 (Nat.le_refl _);have kS:=Blk.new w2 28 #[.int .i64 0,.int .i64 0];have kR:=(k3.step hb2).alloc (.cells #[.int .i64 0,.int .i64 0] 28);have kM:=(k1.step hb2).alloc (.cells #[.int .i64 0,.int .i64 0] 28);have hbS:=(Below.refl w2.heap.size w2).alloc (Nat.le_refl _) (.cells #[.int .i64 0,.int .i64 0] 28);have hC3:=hC.step hbS;obtain ⟨x0,x1⟩:=two_ kS;obtain ⟨y0,y1,y2⟩:=three_ kM;obtain ⟨r0,r1⟩:=two_ kR;have fz:=kR.frozen;have hb4:=hb3.alloc hb3.size (.cells #[.int .i64 0,.int .i64 0] 28))
   exact bodyPost_ret (spot_end rfl _ rfl rfl (spot_put kR (.int .i64 3) (.int .i64 0))) rfl ⟨rfl,(hb4.setCell (p:=⟨w.heap.size+1,0,none⟩) (Nat.le_succ _) _).setCell (p:=⟨w.heap.size+1,1,none⟩) (Nat.le_succ _) _⟩
  ·have dz:(id==0)=false:=by simpa using hz
   by_cases hbig:bound≤id
   ·rw [if_pos (.inr hbig)];have db:decide (id≥bound)=true:=by simpa using hbig
    go_enter Tryz.func13,Tryz.ntmps13;go_wp2_with (go_at_call 19;refine hst2.mono ?_;rintro e w2 ⟨hb2,d,rfl,hC,hCT,hdl,hdA,hdn,hdc,hdg,hlow⟩;rw [← hsz] at hb2;have hb3:=below_cut hb0 hb2 (Nat.le_refl _);have kS:=Blk.new w2 28 #[.int .i64 0,.int .i64 0];have kR:=(k3.step hb2).alloc (.cells #[.int .i64 0,.int .i64 0] 28);have kM:=(k1.step hb2).alloc (.cells #[.int .i64 0,.int .i64 0] 28);have hbS:=(Below.refl w2.heap.size w2).alloc (Nat.le_refl _) (.cells #[.int .i64 0,.int .i64 0] 28);have hC3:=hC.step hbS;obtain ⟨x0,x1⟩:=two_ kS;obtain ⟨y0,y1,y2⟩:=three_ kM;obtain ⟨r0,r1⟩:=two_ kR;have fz:=kR.frozen;have hb4:=hb3.alloc hb3.size (.cells #[.int .i64 0,.int .i64 0] 28))
    exact bodyPost_ret (spot_end rfl _ rfl rfl (spot_put kR (.int .i64 3) (.int .i64 0))) rfl ⟨rfl,(hb4.setCell (p:=⟨w.heap.size+1,0,none⟩) (Nat.le_succ _) _).setCell (p:=⟨w.heap.size+1,1,none⟩) (Nat.le_succ _) _⟩
   ·rw [if_neg (by omega)]
    have db:decide (id≥bound)=false:=by simpa using hbig
    obtain ⟨v,hv⟩:∃ v,ofT (makL L) id=v:=⟨_,rfl⟩;rw [hv];have HV:=Lib.hid hv;clear hv;have hof:=fun (d:CkD) (hdg:d.g=tgM bound L) (w':World) (h:CkS d 0 w')=>show Calls Tryz.prog 26 #[.pointer (some ⟨d.gc,0,none⟩),.int .u32 id] w' (Ret (.int .u32 v) w') by { have h9:=of_ck d 0 id w' h;rw [hdg,hofM,HV.out] at h9;exact h9 }
    by_cases hv0:v=0
    ·subst hv0;rw [if_pos rfl];go_enter Tryz.func13,Tryz.ntmps13;go_wp2_with (first | (go_at_call 19;refine hst2.mono ?_;rintro e w2 ⟨hb2,d,rfl,hC,hCT,hdl,hdA,hdn,hdc,hdg,hlow⟩;rw [← hsz] at hb2;have hb3:=below_cut hb0 hb2 (Nat.le_refl _);have kS:=Blk.new w2 28 #[.int .i64 0,.int .i64 0];have kR:=(k3.step hb2).alloc (.cells #[.int .i64 0,.int .i64 0] 28);have kM:=(k1.step hb2).alloc (.cells #[.int .i64 0,.int .i64 0] 28);have hbS:=(Below.refl w2.heap.size w2).alloc (Nat.le_refl _) (.cells #[.int .i64 0,.int .i64 0] 28);have hC3:=hC.step hbS;obtain ⟨x0,x1⟩:=two_ kS;obtain ⟨y0,y1,y2⟩:=three_ kM;obtain ⟨r0,r1⟩:=two_ kR;have fz:=kR.frozen;have hb4:=hb3.alloc hb3.size (.cells #[.int .i64 0,.int .i64 0] 28)) | (go_at_call 26;refine (hof d hdg _ hC3).mono ?_;rintro e w5 ⟨rfl,hb5⟩;have kR5:=kR.step hb5;obtain ⟨r0,r1⟩:=two_ kR5;have fz:=kR5.frozen;have hb6:=below_cut hb4 hb5 (Nat.le_refl _)))
     exact bodyPost_ret (spot_end rfl _ rfl rfl (spot_put kR5 (.int .i64 5) (.int .i64 0))) rfl ⟨rfl,(hb6.setCell (p:=⟨w.heap.size+1,0,none⟩) (Nat.le_succ _) _).setCell (p:=⟨w.heap.size+1,1,none⟩) (Nat.le_succ _) _⟩
    ·rw [if_neg hv0];have dv:(v==0)=false:=by simpa using hv0
     clear hv0;go_enter Tryz.func13,Tryz.ntmps13;go_wp2_with (go_at_call 19;refine hst2.mono ?_;rintro e w2 ⟨hb2,d,rfl,hC,hCT,hdl,hdA,hdn,hdc,hdg,hlow⟩;rw [← hsz] at hb2;have hb3:=below_cut hb0 hb2 (Nat.le_refl _);have kS:=Blk.new w2 28 #[.int .i64 0,.int .i64 0];have kR:=(k3.step hb2).alloc (.cells #[.int .i64 0,.int .i64 0] 28);have kM:=(k1.step hb2).alloc (.cells #[.int .i64 0,.int .i64 0] 28);have hbS:=(Below.refl w2.heap.size w2).alloc (Nat.le_refl _) (.cells #[.int .i64 0,.int .i64 0] 28);have hC3:=hC.step hbS;obtain ⟨x0,x1⟩:=two_ kS;obtain ⟨y0,y1,y2⟩:=three_ kM;obtain ⟨r0,r1⟩:=two_ kR;have fz:=kR.frozen;have hb4:=hb3.alloc hb3.size (.cells #[.int .i64 0,.int .i64 0] 28))
     refine (hof d hdg _ hC3).mono ?_;rintro e w5 ⟨rfl,hb5⟩;have hC5:=hC3.step hb5;have kR5:=kR.step hb5;have hb6:=below_cut hb4 hb5 (Nat.le_refl _);clear r0 r1 fz;go_wp2_with fail;refine (hof d hdg _ hC5).mono ?_;rintro e w6 ⟨rfl,hb7⟩;have kR6:=kR5.step hb7;have hb8:=below_cut hb6 hb7 (Nat.le_refl _);obtain ⟨r0,r1⟩:=two_ kR6;have fz:=kR6.frozen;go_wp2_with fail;exact bodyPost_ret (spot_end rfl _ rfl rfl (spot_put kR6 (.int .i64 0) (.int .i64 0))) rfl ⟨rfl,(hb8.setCell (p:=⟨w.heap.size+1,0,none⟩) (Nat.le_succ _) _).setCell (p:=⟨w.heap.size+1,1,none⟩) (Nat.le_succ _) _⟩
 ·rw [if_pos h0];have hst2:=hst.mono (fun e w' h=>show Below (w.heap.size+2) _ w'∧e=.returned (.tuple #[.pointer none,.agg #[.int .i64 (conM bound L).1,.int .i64 (conM bound L).2.1]]) from ⟨h.1,h.2.elim (fun h=>absurd h.1 h0) And.right⟩)
  generalize (conM bound L).1=e1 at *;generalize (conM bound L).2.1=e2 at *;have d1:(e1 != 0)=true:=by simpa using h0
  clear hst h0 hmp;go_enter Tryz.func13,Tryz.ntmps13;go_wp2_with (go_at_call 19;refine hst2.mono ?_;rintro e w2 ⟨hb2,rfl⟩;rw [← hsz] at hb2;have hb3:=below_cut hb0 hb2 (Nat.le_refl _);have kS:=Blk.new w2 28 #[.int .i64 e1,.int .i64 e2];have kR:=(k3.step hb2).alloc (.cells #[.int .i64 e1,.int .i64 e2] 28);obtain ⟨x0,x1⟩:=two_ kS;obtain ⟨r0,r1⟩:=two_ kR;have fz:=kR.frozen;have hb4:=hb3.alloc hb3.size (.cells #[.int .i64 e1,.int .i64 e2] 28))
  clear hst2 hb2 hb3 hb0 k1 k3 z0 z1 z2;go_region
  all_goals
   go_wp2_with fail;exact bodyPost_ret (spot_end rfl _ rfl rfl (spot_put kR (.int .i64 e1) (.int .i64 e2))) rfl ⟨rfl,(hb4.setCell (p:=⟨w.heap.size+1,0,none⟩) (Nat.le_succ _) _).setCell (p:=⟨w.heap.size+1,1,none⟩) (Nat.le_succ _) _ |>.drew⟩
end
end Go.Proofs.YtdebjkiilnhgpaaGreatDoor
