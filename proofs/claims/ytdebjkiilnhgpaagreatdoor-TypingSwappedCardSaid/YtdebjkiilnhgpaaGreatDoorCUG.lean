/- Walks: one. -/
import Derived.Test.YtdebjkiilnhgpaaGreatDoorCTP
set_option maxRecDepth 100000
set_option maxHeartbeats 4000000
namespace Go.Proofs.YtdebjkiilnhgpaaGreatDoor
open Go.RowKit
theorem MadM.step {w w':World} {bd:Nat} {M:Int→InstA} (h:MadM w w.heap.size bd M) (hb:Below w.heap.size w w'):MadM w' w'.heap.size bd M:=by
 have h1:=h.same (hb.block bd h.lt) (fun p hp=>hb.cell hp)
 exact ⟨h1.mp,fun id=>⟨(h1.ok id).reads.more hb.size,(h1.ok id).len,(h1.ok id).kinds,(h1.ok id).text⟩,h1.one⟩
theorem results_ctt1 {fn:Func} {p q r:Tmp} {ty:TypeId} (h:fn.results=#[.cell p ty,.tmp q,.tmp r]) (tmps:Array Value) (P:Program) (w:World) :
  (results fn tmps).run P w=((asAddr (tmps.getD p undef)).run P w).andThen fun ad w₁=>((loadVar ty ad).run P w₁).andThen fun v w₂=>.ok (.tuple #[v,tmps.getD q undef,tmps.getD r undef]) w₂:=by
 simp only [results,h];simp [Sem.run_bind,Result.andThen]
theorem ty_end3 {fn:Func} {p q r:Tmp} (h:fn.results=#[.cell p 89,.tmp q,.tmp r]) (tmps:Array Value) {W:World} {g:Nat} {y:TyI} {s:SlI} {b:Bool} {e:Int} (hp:tmps.getD p undef=.pointer (some ⟨g,0,none⟩)) (hq:tmps.getD q undef=.bool b) (hr:tmps.getD r undef=.int .i64 e) (k:Blk W g 89 (tyV y s)) :
  (results fn tmps).run Tryz.prog W=.ok (.tuple #[.agg (tyV y s),.bool b,.int .i64 e]) W:=by
 have ha:(asAddr (.pointer (some ⟨g,0,none⟩))).run Tryz.prog W=.ok ⟨g,0,none⟩ W:=rfl;rw [results_ctt1 h,hp,ha];simp only [Result.andThen_ok];rw [load_ty k,hq,hr];simp only [Result.andThen_ok]
theorem ty8a {w:World} {g:Nat} {y:TyI} {s:SlI} (h:Blk w g 89 (tyV y s)):(∀ o,(w.alloc o).cell? ⟨g,0,none⟩=some (.int .u8 y.kind))∧(∀ o,(w.alloc o).cell? ⟨g,1,none⟩=some (.int .i64 y.size))∧(∀ o,(w.alloc o).cell? ⟨g,2,none⟩=some (.int .i64 y.depth)) ∧
  (∀ o,(w.alloc o).cell? ⟨g,3,none⟩=some (.bool y.signed))∧(∀ o,(w.alloc o).cell? ⟨g,4,none⟩=some (.int .u32 y.cls))∧(∀ o,(w.alloc o).cell? ⟨g,5,none⟩=some (.int .u32 y.part))∧(∀ o,(w.alloc o).cell? ⟨g,6,none⟩=some (.int .i64 y.times))∧(∀ o,(w.alloc o).cell? ⟨g,7,none⟩=some (.slice s.1 s.2.1 s.2.2))∧(∀ o i,(w.alloc o).frozen? ⟨g,i,none⟩=false) :=
 ⟨fun o=>(h.alloc o).cell 0,fun o=>(h.alloc o).cell 1,fun o=>(h.alloc o).cell 2,fun o=>(h.alloc o).cell 3,fun o=>(h.alloc o).cell 4,fun o=>(h.alloc o).cell 5,fun o=>(h.alloc o).cell 6,fun o=>(h.alloc o).cell 7,fun o=>(h.alloc o).frozen⟩
abbrev put8 (W:World) (g:Nat) (y:TyI) (s:SlI):World :=
 ((((((((W.setCell ⟨g,0,none⟩ (.int .u8 y.kind)).setCell ⟨g,1,none⟩ (.int .i64 y.size)).setCell ⟨g,2,none⟩ (.int .i64 y.depth)).setCell ⟨g,3,none⟩ (.bool y.signed)).setCell ⟨g,4,none⟩ (.int .u32 y.cls)).setCell ⟨g,5,none⟩ (.int .u32 y.part)).setCell ⟨g,6,none⟩ (.int .i64 y.times)).setCell ⟨g,7,none⟩ (.slice s.1 s.2.1 s.2.2))
theorem own_typut {W:World} {base n size g:Nat} {e:TypeId} {v:Value} {xs:List Value} (h:W.ownsRow base e size v n xs) (hg:v.ownBlock≠some g) (y:TyI) (s:SlI):(put8 W g y s).ownsRow base e size v n xs :=
 own_set_other (p:=⟨g,7,none⟩) (own_set_other (p:=⟨g,6,none⟩) (own_set_other (p:=⟨g,5,none⟩) (own_set_other (p:=⟨g,4,none⟩) (own_set_other (p:=⟨g,3,none⟩) (own_set_other (p:=⟨g,2,none⟩) (own_set_other (p:=⟨g,1,none⟩) (own_set_other (p:=⟨g,0,none⟩) h hg _) hg _) hg _) hg _) hg _) hg _) hg _) hg _
theorem blk_typut {W:World} {g g':Nat} {t:TypeId} {cs:Array Value} (h:Blk W g' t cs) (hg:g'≠g) (y:TyI) (s:SlI):Blk (put8 W g y s) g' t cs :=
 ((((((((h.far (p:=⟨g,0,none⟩) hg _).far (p:=⟨g,1,none⟩) hg _).far (p:=⟨g,2,none⟩) hg _).far (p:=⟨g,3,none⟩) hg _).far (p:=⟨g,4,none⟩) hg _).far (p:=⟨g,5,none⟩) hg _).far (p:=⟨g,6,none⟩) hg _).far (p:=⟨g,7,none⟩) hg _)
theorem vectorT_parts (T:Int→TyI) (p n:Int):(vectorT T p n).1.parts=[]:=by
 unfold vectorT wholeT
 repeat' split
 all_goals rfl
theorem arrayT_parts (T:Int→TyI) (M:Int→InstI) (p n:Int):(arrayT T M p n).1.parts=[]:=by
 unfold arrayT arrayC wholeT
 repeat' split
 all_goals rfl
theorem membersT_parts (T:Int→TyI) (l:List Int):(membersT T l).1.parts=if (membersT T l).2=0 then l else []:=by
 unfold membersT wholeT
 repeat' split
 all_goals first | rfl | simp_all
theorem functionT_parts (T:Int→TyI) (l:List Int):(functionT T l).1.parts=if (functionT T l).2=0 then l else []:=by
 unfold functionT
 split <;> rfl
theorem outS_reads {w:World} {B n c:Nat} {A:Option Addr} {l:List Int} (h:Reads w B 1 A n (Ints .u32 l)) (e:Int):Reads w B 1 (outS e (A,n,c)).1 (outS e (A,n,c)).2.1 (Ints .u32 (if e=0 then l else [])):=by
 unfold outS
 by_cases h0:e=0
 ·rw [if_pos h0,if_pos h0];exact h
 ·rw [if_neg h0,if_neg h0];exact Reads.none_
theorem nums_take {l:List ArgI} {k:Nat} (h:k<l.length):nums (l.take (k+1))=nums (l.take k)++[(ag l k).2.1]:=by
 rw [ag_of h,List.take_succ_eq_append_getElem h];unfold nums;rw [List.map_append];rfl
theorem nums_len (l:List ArgI):(nums l).length=l.length:=by unfold nums;rw [List.length_map]
theorem nums_ix {l:List ArgI} {k:Nat} (h:k<l.length):ix (nums l) k=(ag l k).2.1:=by
 rw [ix_of (by rw [nums_len];exact h),ag_of h]
 unfold nums;rw [List.getElem_map]
theorem own_low {w:World} {base size n c m:Nat} {e:TypeId} {A:Option Addr} {xs:List Value} (h:w.ownsRow base e size (.slice A n c) m xs) (ad:Addr) (ha:A=some ad):base≤ad.block:=by
 rcases h.2 with ⟨hv,_⟩ | ⟨g,cap,cur,hv,hb,_⟩
 ·cases hv;cases ha
 ·cases hv;cases ha;exact hb
def LowS (B:Nat) (s:SlI):Prop:=(∀ ad,s.1=some ad→B≤ad.block)∧s.2.1≤s.2.2
theorem sl0_low (B:Nat):LowS B sl0:=⟨fun ad h=>(by cases h),Nat.le_refl _⟩
theorem outS_low {B n c:Nat} {A:Option Addr} (h:∀ ad,A=some ad→B≤ad.block) (hc:n≤c) (e:Int):LowS B (outS e (A,n,c)):=by
 unfold outS
 split
 ·exact ⟨h,hc⟩
 ·exact sl0_low B
def OneIs (r:TyI × Bool × Int) (w:World) (e:Ending) (w':World):Prop:=∃ s:SlI,
 e=.returned (.tuple #[.agg (tyV r.1 s),.bool r.2.1,.int .i64 r.2.2])∧Reads w' w'.heap.size 1 s.1 s.2.1 (Ints .u32 r.1.parts)∧LowS w.heap.size s∧Below w.heap.size w w'
theorem one_any (gm gt bm bd:Nat) (T:Int→TyI) (S:Int→SlI) (M:Int→InstA) (x:InstA) (w:World) (hk0:w.cell? ⟨gm,0,none⟩=some (.pointer (some ⟨gt,0,none⟩))) (hk1:w.cell? ⟨gm,1,none⟩=some (.map (some bd)))
  (hg:w.cell? ⟨gt,0,none⟩=some (.map (some bm))) (hT:TabM w w.heap.size bm T S) (hD:MadM w w.heap.size bd M) (hN:∀ id,0≤firstN (M id).1∧firstN (M id).1<4294967296) (hx:InstOk w w.heap.size x)
  (hu:∀ a∈x.1.2.2.2,0≤a.2.1∧a.2.1<4294967296) (ha:x.1.1=21∨x.1.1=23∨x.1.1=28∨x.1.1=32→2≤x.2.2.1) :
  Calls Tryz.prog 28 #[.pointer (some ⟨gm,0,none⟩),.agg (instC x)] w (OneIs (oneT T (fun id=>(M id).1) x.1) w):=by
 obtain ⟨⟨op,ty,res,l⟩,A,n,c⟩:=x;obtain ⟨hr,hn,-,-⟩:=hx;have hl:=hr.args_len;dsimp only at *;unfold instC;dsimp only;have hb:=((Below.refl w.heap.size w).alloc (Nat.le_refl _) (.cells #[.int .u16 op,.int .u32 ty,.int .u32 res,.slice A n c] 42)).alloc (by simp) (.cells (tyV ty0 sl0) 89)
 have k1:=(Blk.new w 42 #[.int .u16 op,.int .u32 ty,.int .u32 res,.slice A n c]).alloc (.cells (tyV ty0 sl0) 89);have kR:=Blk.new (w.alloc (.cells #[.int .u16 op,.int .u32 ty,.int .u32 res,.slice A n c] 42)) 89 (tyV ty0 sl0);rw [World.size_alloc] at kR;have hsz:((w.alloc (.cells #[.int .u16 op,.int .u32 ty,.int .u32 res,.slice A n c] 42)).alloc (.cells (tyV ty0 sl0) 89)).heap.size=w.heap.size+2:=by simp
 obtain ⟨v,hv⟩:∃ v,v=oneT T (fun id=>(M id).1) (op,ty,res,l):=⟨_,rfl⟩
 rw [← hv];unfold oneT at hv;dsimp only at hv;unfold ixn at hv;have HV:=Lib.hid hv;clear hv;obtain ⟨k10,k11,k12,k13⟩:=four_ k1;go_enter Tryz.func28,Tryz.ntmps28;go_wp2_with fail;have hW:((w.alloc (.cells #[.int .u16 op,.int .u32 ty,.int .u32 res,.slice A n c] 42)).alloc (.cells #[.int .u8 0,.int .i64 0,.int .i64 0,.bool false,.int .u32 0,.int .u32 0,.int .i64 0,.slice none 0 0] 89))=((w.alloc (.cells #[.int .u16 op,.int .u32 ty,.int .u32 res,.slice A n c] 42)).alloc (.cells (tyV ty0 sl0) 89)):=rfl;rw [hW] at *;clear hW k10 k11 k12 k13;generalize ((w.alloc (.cells #[.int .u16 op,.int .u32 ty,.int .u32 res,.slice A n c] 42)).alloc (.cells (tyV ty0 sl0) 89))=W at *;go_loopg [7,15] n (fun q u i wr=>∃ k:Nat,k+q=n∧i=.int .i64 (k:Nat)∧wr.ownsRow (w.heap.size+2) 22 1 u k (Ints .u32 (nums (l.take k)))∧Blk wr w.heap.size 42 #[.int .u16 op,.int .u32 ty,.int .u32 res,.slice A n c]∧Blk wr (w.heap.size+1) 89 (tyV ty0 sl0)∧Below w.heap.size w wr∧w.heap.size+2≤wr.heap.size)
 case atStart=>exact ⟨0,by omega,rfl,World.ownsRow_nil _ _ _ _,k1,kR,hb,by omega⟩
 case round =>
  obtain ⟨k,hq,rfl,ho,kr,kR1,hbr,hsz2⟩:=hrel;clear k1 kR hb hsz
  by_cases hlt:k<n
  ·obtain ⟨b,off,rfl,hb2,hc⟩:=(hr.below hbr).args (by omega)
   obtain ⟨c0,c1,c2⟩:=hc k hlt;have hkt:=nums_take (l:=l) (k:=k) (by omega)
   generalize ag l k=x at *;obtain ⟨x1,x2,x3⟩:=x;dsimp only at c0 c1 c2 hkt;obtain ⟨A2,cc,rfl⟩:=own_shape ho;clear hc;have k7:=Blk.new wr 44 #[.int .u8 x1,.int .u32 x2,.string x3];have kr2:=kr.alloc (.cells #[.int .u8 x1,.int .u32 x2,.string x3] 44);have kR2:=kR1.alloc (.cells #[.int .u8 x1,.int .u32 x2,.string x3] 44);have ho2:=ho.alloc (.cells #[.int .u8 x1,.int .u32 x2,.string x3] 44);have hb3:=hbr.alloc hbr.size (.cells #[.int .u8 x1,.int .u32 x2,.string x3] 44);have hsz3:w.heap.size+2≤(wr.alloc (.cells #[.int .u8 x1,.int .u32 x2,.string x3] 44)).heap.size:=by simp;omega
   have HK:=Lib.hid hkt;clear ho kr kR1 hbr hkt;go_wp2_with (at_builtin;refine ap_one sl32 _ rfl _ _ rfl (w.heap.size+2) _ _ _ rfl ho2 _ _ rfl (by rw [World.size_alloc];rfl) (by omega) (by omega) hsz3 ?_;intro v' w3 ho3 hgr3 _)
   have kr3:=(kr2.alloc (.cells #[.int .u32 x2] 22)).grown hgr3 (fun e=>by have:=(ho2.lt _ e.symm).1;omega)
   have kR3:=(kR2.alloc (.cells #[.int .u32 x2] 22)).grown hgr3 (fun e=>by have:=(ho2.lt _ e.symm).1;omega)
   have hb4:=(hb3.alloc hb3.size (.cells #[.int .u32 x2] 22)).grown hgr3 (by simp;omega) (fun j hj=>Nat.le_trans (Nat.le_add_right _ _) (ho2.lt j hj).1)
   have hsz4:w.heap.size+2≤w3.heap.size:=by have:=hgr3.size;simp at this;omega
   go_roundg (n-(k+1))
   case measure=>omega
   case rel=>exact ⟨k+1,by omega,by go_num,by rw [HK.out,Ints_append];exact ho3,kr3,kR3,hb4,hsz4⟩
  ·obtain rfl:gk=0:=by omega
   obtain rfl:k=n:=by omega
   have ht:l.take k=l:=by rw [← hl];exact List.take_length
   rw [ht] at ho;clear ht;obtain ⟨A2,cc,rfl⟩:=own_shape ho;have hsx:(wr.alloc (.cells (tyV ty0 sl0) 89)).heap.size=wr.heap.size+1:=by simp
   have kX:=Blk.new wr 89 (tyV ty0 sl0);have krx:=kr.alloc (.cells (tyV ty0 sl0) 89);have kRx:=kR1.alloc (.cells (tyV ty0 sl0) 89);have hox:=ho.alloc (.cells (tyV ty0 sl0) 89);have hbx:=hbr.alloc hbr.size (.cells (tyV ty0 sl0) 89);have u0:=(hbx.cell (p:=⟨gm,0,none⟩) (World.block_lt_of_cell? w _ hk0)).trans hk0;have u1:=(hbx.cell (p:=⟨gm,1,none⟩) (World.block_lt_of_cell? w _ hk1)).trans hk1;have u2:=(hbx.cell (p:=⟨gt,0,none⟩) (World.block_lt_of_cell? w _ hg)).trans hg;have hTx:=hT.step hbx;have hDx:=hD.step hbx;have hrx:=Reads.of_own hox;have hgx:w.heap.size+2≤wr.heap.size:=hsz2;clear hr kr hT hD hk0 hk1 hg;have hlen2:=nums_len l
   by_cases h19:op=19
   ·subst h19;have hv:v=({ ty0 with kind:=1 },true,0):=by rw [HV.out,if_pos rfl]
    have HV1:=Lib.hid hv;clear hv HV hTx hDx hrx;obtain ⟨r0,r1,r2,r3,r4,r5,r6,r7,fR⟩:=ty8a kR1;obtain ⟨x0,x1,x2,x3,x4,x5,x6,x7⟩:=ty8_ kX;obtain ⟨k10,k11,k12,k13⟩:=four_ krx;have fX:=kX.frozen;have nRX:w.heap.size+1≠wr.heap.size:=by omega
    have nXR:wr.heap.size≠w.heap.size+1:=by omega
    have nIX:w.heap.size≠wr.heap.size:=by omega
    unfold tyV ty0 sl0 at x0 x1 x2 x3 x4 x5 x6 x7 k10 k11 k12 k13 fX u0 u1 u2;go_wp2_with fail;exact bodyPost_ret (ty_end3 (y:={ ty0 with kind:=1 }) (s:=sl0) rfl _ rfl rfl rfl (tyV_put (kR1.alloc _) { ty0 with kind:=1 } sl0)) rfl (show OneIs v w _ _ from ⟨sl0,by rw [HV1.out],by rw [HV1.out];exact Reads.none_,sl0_low _,ty_below (hbr.alloc hbr.size _) (Nat.le_succ _) { ty0 with kind:=1 } sl0⟩)
   ·skip
    by_cases h20:op=20
    ·subst h20;have hv:v=({ ty0 with kind:=2,size:=1,depth:=1 },true,0):=by rw [HV.out,if_neg (by decide),if_pos rfl]
     have HV1:=Lib.hid hv;clear hv HV hTx hDx hrx;obtain ⟨r0,r1,r2,r3,r4,r5,r6,r7,fR⟩:=ty8a kR1;obtain ⟨x0,x1,x2,x3,x4,x5,x6,x7⟩:=ty8_ kX;obtain ⟨k10,k11,k12,k13⟩:=four_ krx;have fX:=kX.frozen;have nRX:w.heap.size+1≠wr.heap.size:=by omega
     have nXR:wr.heap.size≠w.heap.size+1:=by omega
     have nIX:w.heap.size≠wr.heap.size:=by omega
     unfold tyV ty0 sl0 at x0 x1 x2 x3 x4 x5 x6 x7 k10 k11 k12 k13 fX u0 u1 u2;go_wp2_with fail;exact bodyPost_ret (ty_end3 (y:={ ty0 with kind:=2,size:=1,depth:=1 }) (s:=sl0) rfl _ rfl rfl rfl (tyV_put (kR1.alloc _) { ty0 with kind:=2,size:=1,depth:=1 } sl0)) rfl (show OneIs v w _ _ from ⟨sl0,by rw [HV1.out],by rw [HV1.out];exact Reads.none_,sl0_low _,ty_below (hbr.alloc hbr.size _) (Nat.le_succ _) { ty0 with kind:=2,size:=1,depth:=1 } sl0⟩)
    ·skip
     by_cases h21:op=21
     ·subst h21;have h2k:2≤k:=ha (by simp)
      obtain ⟨b,off,rfl,hbb,hcc⟩:=hrx.ints (by omega)
      have c0:=hcc 0 (by omega)
      have c1:=hcc 1 (by omega)
      unfold ix at c0 c1;simp only [Nat.add_zero] at c0;clear hcc;have ge0:(0:Int)<(k:Nat):=by omega
      have ge1:(1:Int)<(k:Nat):=by omega
      have hn0:0≤(nums l).getD 0 0∧(nums l).getD 0 0<4294967296:=by have:=nums_ix (l:=l) (k:=0) (by omega);unfold ix at this;rw [this];exact hu _ (ag_mem (by omega))
      have hn1:0≤(nums l).getD 1 0∧(nums l).getD 1 0<4294967296:=by have:=nums_ix (l:=l) (k:=1) (by omega);unfold ix at this;rw [this];exact hu _ (ag_mem (by omega))
      generalize (nums l).getD 0 0=N0 at *;generalize (nums l).getD 1 0=N1 at *;have hva:v=({ ty0 with kind:=3,size:=1,depth:=1,signed:=N1==1 },true,if N0≠32∨1<N1 then 102 else 0):=by rw [HV.out,if_neg (by decide),if_neg (by decide),if_pos rfl]
      have HVa:=Lib.hid hva;clear hva HV hTx hDx hrx
      by_cases hA:N0=32
      ·have d1:(N0 != 32)=false:=by rw [hA];rfl
       by_cases hB:1<N1
       ·have d2:decide (1<N1)=true:=by simpa using hB
        have hv1:v=({ ty0 with kind:=3,size:=1,depth:=1,signed:=N1==1 },true,102):=by rw [HVa.out,if_pos (.inr hB)]
        have HV1:=Lib.hid hv1;clear hv1 HVa hA hB;obtain ⟨r0,r1,r2,r3,r4,r5,r6,r7,fR⟩:=ty8a kR1;obtain ⟨x0,x1,x2,x3,x4,x5,x6,x7⟩:=ty8_ kX;obtain ⟨k10,k11,k12,k13⟩:=four_ krx;have fX:=kX.frozen;have nRX:w.heap.size+1≠wr.heap.size:=by omega
        have nXR:wr.heap.size≠w.heap.size+1:=by omega
        have nIX:w.heap.size≠wr.heap.size:=by omega
        unfold tyV ty0 sl0 at x0 x1 x2 x3 x4 x5 x6 x7 k10 k11 k12 k13 fX u0 u1 u2 c0 c1;go_wp2_with fail;exact bodyPost_ret (ty_end3 (y:={ ty0 with kind:=3,size:=1,depth:=1,signed:=N1==1 }) (s:=sl0) rfl _ rfl rfl rfl (tyV_put (kR1.alloc _) { ty0 with kind:=3,size:=1,depth:=1,signed:=N1==1 } sl0)) rfl (show OneIs v w _ _ from ⟨sl0,by rw [HV1.out],by rw [HV1.out];exact Reads.none_,sl0_low _,ty_below (hbr.alloc hbr.size _) (Nat.le_succ _) { ty0 with kind:=3,size:=1,depth:=1,signed:=N1==1 } sl0⟩)
       ·have d2:decide (1<N1)=false:=by simpa using hB
        have hv1:v=({ ty0 with kind:=3,size:=1,depth:=1,signed:=N1==1 },true,0):=by rw [HVa.out,if_neg (by rintro (h | h);exact h hA;exact hB h)]
        have HV1:=Lib.hid hv1;clear hv1 HVa hA hB;obtain ⟨r0,r1,r2,r3,r4,r5,r6,r7,fR⟩:=ty8a kR1;obtain ⟨x0,x1,x2,x3,x4,x5,x6,x7⟩:=ty8_ kX;obtain ⟨k10,k11,k12,k13⟩:=four_ krx;have fX:=kX.frozen;have nRX:w.heap.size+1≠wr.heap.size:=by omega
        have nXR:wr.heap.size≠w.heap.size+1:=by omega
        have nIX:w.heap.size≠wr.heap.size:=by omega
        unfold tyV ty0 sl0 at x0 x1 x2 x3 x4 x5 x6 x7 k10 k11 k12 k13 fX u0 u1 u2 c0 c1;go_wp2_with fail;exact bodyPost_ret (ty_end3 (y:={ ty0 with kind:=3,size:=1,depth:=1,signed:=N1==1 }) (s:=sl0) rfl _ rfl rfl rfl (tyV_put (kR1.alloc _) { ty0 with kind:=3,size:=1,depth:=1,signed:=N1==1 } sl0)) rfl (show OneIs v w _ _ from ⟨sl0,by rw [HV1.out],by rw [HV1.out];exact Reads.none_,sl0_low _,ty_below (hbr.alloc hbr.size _) (Nat.le_succ _) { ty0 with kind:=3,size:=1,depth:=1,signed:=N1==1 } sl0⟩)
      ·have d1:(N0 != 32)=true:=by simpa using hA
       have hv1:v=({ ty0 with kind:=3,size:=1,depth:=1,signed:=N1==1 },true,102):=by rw [HVa.out,if_pos (.inl hA)]
       have HV1:=Lib.hid hv1;clear hv1 HVa hA;obtain ⟨r0,r1,r2,r3,r4,r5,r6,r7,fR⟩:=ty8a kR1;obtain ⟨x0,x1,x2,x3,x4,x5,x6,x7⟩:=ty8_ kX;obtain ⟨k10,k11,k12,k13⟩:=four_ krx;have fX:=kX.frozen;have nRX:w.heap.size+1≠wr.heap.size:=by omega
       have nXR:wr.heap.size≠w.heap.size+1:=by omega
       have nIX:w.heap.size≠wr.heap.size:=by omega
       unfold tyV ty0 sl0 at x0 x1 x2 x3 x4 x5 x6 x7 k10 k11 k12 k13 fX u0 u1 u2 c0 c1;go_wp2_with fail;exact bodyPost_ret (ty_end3 (y:={ ty0 with kind:=3,size:=1,depth:=1,signed:=N1==1 }) (s:=sl0) rfl _ rfl rfl rfl (tyV_put (kR1.alloc _) { ty0 with kind:=3,size:=1,depth:=1,signed:=N1==1 } sl0)) rfl (show OneIs v w _ _ from ⟨sl0,by rw [HV1.out],by rw [HV1.out];exact Reads.none_,sl0_low _,ty_below (hbr.alloc hbr.size _) (Nat.le_succ _) { ty0 with kind:=3,size:=1,depth:=1,signed:=N1==1 } sl0⟩)
     ·skip
      by_cases h23:op=23
      ·subst h23;have h2k:2≤k:=ha (by simp)
       obtain ⟨b,off,rfl,hbb,hcc⟩:=hrx.ints (by omega)
       have c0:=hcc 0 (by omega)
       have c1:=hcc 1 (by omega)
       unfold ix at c0 c1;simp only [Nat.add_zero] at c0;clear hcc;have ge0:(0:Int)<(k:Nat):=by omega
       have ge1:(1:Int)<(k:Nat):=by omega
       have hn0:0≤(nums l).getD 0 0∧(nums l).getD 0 0<4294967296:=by have:=nums_ix (l:=l) (k:=0) (by omega);unfold ix at this;rw [this];exact hu _ (ag_mem (by omega))
       have hn1:0≤(nums l).getD 1 0∧(nums l).getD 1 0<4294967296:=by have:=nums_ix (l:=l) (k:=1) (by omega);unfold ix at this;rw [this];exact hu _ (ag_mem (by omega))
       generalize (nums l).getD 0 0=N0 at *;generalize (nums l).getD 1 0=N1 at *;have hv:v=((vectorT T N0 N1).1,true,(vectorT T N0 N1).2):=by rw [HV.out,if_neg (by decide),if_neg (by decide),if_neg (by decide),if_pos rfl]
       have hc:=vector_any gt bm _ T S N0 N1 (wr.alloc (.cells (tyV ty0 sl0) 89)).drew u2 (hTx.same rfl (fun _ _=>rfl)) (Nat.le_refl _) hn1
       have hp:=vectorT_parts T N0 N1;obtain ⟨r,hr⟩:∃ r,r=vectorT T N0 N1:=⟨_,rfl⟩;rw [← hr] at hc hv hp;obtain ⟨y,er⟩:=r;dsimp only at hc hv hp;have HV1:=Lib.hid hv;have HP:=Lib.hid hp;clear hr hv hp HV hTx hDx hrx;have nRX:w.heap.size+1≠wr.heap.size:=by omega
       have nXR:wr.heap.size≠w.heap.size+1:=by omega
       have nIX:w.heap.size≠wr.heap.size:=by omega
       obtain ⟨k10,k11,k12,k13⟩:=four_ krx;unfold tyV sl0 at hc;unfold ty0 at hc;unfold tyV ty0 sl0 at k10 k11 k12 k13 u0 u1 u2 c0 c1;go_wp2_with fail;go_region_with (go_at_call 51;refine hc.mono ?_;rintro e w3 ⟨rfl,hb3⟩;have kX3:=kX.drew.step hb3;have kR3:=kRx.drew.step hb3;have hbw:=below_cut hbx.drew hb3 (Nat.le_refl _);have hbw2:=hbw.size;have ho3:=own_below hox.drew hb3;obtain ⟨z0,z1,z2,z3,z4,z5,z6,z7⟩:=ty8_ kX3;have fz:=kX3.frozen;obtain ⟨q0,q1,q2,q3,q4,q5,q6,q7⟩:=ty8_ kR3;have fq:=kR3.frozen)
       all_goals
        go_wp2_with fail;exact bodyPost_ret (ty_end3 (y:=y) (s:=sl0) rfl _ rfl rfl rfl (tyV_put (blk_typut kR3 nRX y sl0) y sl0)) rfl (show OneIs v w _ _ from ⟨sl0,by rw [HV1.out],by rw [HV1.out];show Reads _ _ _ _ _ (Ints .u32 y.parts);rw [HP.out];exact Reads.none_,sl0_low _,ty_below (ty_below hbw (by omega) y sl0) (Nat.le_succ _) y sl0⟩)
      ·skip
       by_cases h28:op=28
       ·subst h28;have h2k:2≤k:=ha (by simp)
        obtain ⟨b,off,rfl,hbb,hcc⟩:=hrx.ints (by omega)
        have c0:=hcc 0 (by omega)
        have c1:=hcc 1 (by omega)
        unfold ix at c0 c1;simp only [Nat.add_zero] at c0;clear hcc;have ge0:(0:Int)<(k:Nat):=by omega
        have ge1:(1:Int)<(k:Nat):=by omega
        have hn0:0≤(nums l).getD 0 0∧(nums l).getD 0 0<4294967296:=by have:=nums_ix (l:=l) (k:=0) (by omega);unfold ix at this;rw [this];exact hu _ (ag_mem (by omega))
        have hn1:0≤(nums l).getD 1 0∧(nums l).getD 1 0<4294967296:=by have:=nums_ix (l:=l) (k:=1) (by omega);unfold ix at this;rw [this];exact hu _ (ag_mem (by omega))
        generalize (nums l).getD 0 0=N0 at *;generalize (nums l).getD 1 0=N1 at *;have hv:v=((arrayT T (fun id=>(M id).1) N0 N1).1,true,(arrayT T (fun id=>(M id).1) N0 N1).2):=by rw [HV.out,if_neg (by decide),if_neg (by decide),if_neg (by decide),if_neg (by decide),if_pos rfl]
        have hc:=array_any gm gt bm bd _ T S M N0 N1 (wr.alloc (.cells (tyV ty0 sl0) 89)).drew u0 u1 u2 (hTx.same rfl (fun _ _=>rfl)) (hDx.same rfl (fun _ _=>rfl)) (Nat.le_refl _) hN
        have hp:=arrayT_parts T (fun id=>(M id).1) N0 N1
        obtain ⟨r,hr⟩:∃ r,r=arrayT T (fun id=>(M id).1) N0 N1:=⟨_,rfl⟩
        rw [← hr] at hc hv hp;obtain ⟨y,er⟩:=r;dsimp only at hc hv hp;have HV1:=Lib.hid hv;have HP:=Lib.hid hp;clear hr hv hp HV hTx hDx hrx;have nRX:w.heap.size+1≠wr.heap.size:=by omega
        have nXR:wr.heap.size≠w.heap.size+1:=by omega
        have nIX:w.heap.size≠wr.heap.size:=by omega
        obtain ⟨k10,k11,k12,k13⟩:=four_ krx;unfold tyV sl0 at hc;unfold ty0 at hc;unfold tyV ty0 sl0 at k10 k11 k12 k13 u0 u1 u2 c0 c1;go_wp2_with fail;go_region_with (go_at_call 52;refine hc.mono ?_;rintro e w3 ⟨rfl,hb3⟩;have kX3:=kX.drew.step hb3;have kR3:=kRx.drew.step hb3;have hbw:=below_cut hbx.drew hb3 (Nat.le_refl _);have hbw2:=hbw.size;have ho3:=own_below hox.drew hb3;obtain ⟨z0,z1,z2,z3,z4,z5,z6,z7⟩:=ty8_ kX3;have fz:=kX3.frozen;obtain ⟨q0,q1,q2,q3,q4,q5,q6,q7⟩:=ty8_ kR3;have fq:=kR3.frozen)
        all_goals
         go_wp2_with fail;exact bodyPost_ret (ty_end3 (y:=y) (s:=sl0) rfl _ rfl rfl rfl (tyV_put (blk_typut kR3 nRX y sl0) y sl0)) rfl (show OneIs v w _ _ from ⟨sl0,by rw [HV1.out],by rw [HV1.out];show Reads _ _ _ _ _ (Ints .u32 y.parts);rw [HP.out];exact Reads.none_,sl0_low _,ty_below (ty_below hbw (by omega) y sl0) (Nat.le_succ _) y sl0⟩)
       ·skip
        by_cases h30:op=30
        ·subst h30;have hv:v=((membersT T (nums l)).1,true,(membersT T (nums l)).2):=by rw [HV.out,if_neg (by decide),if_neg (by decide),if_neg (by decide),if_neg (by decide),if_neg (by decide),if_pos rfl]
         have hc:=members_any gt bm _ T S A2 k cc (nums l) (wr.alloc (.cells (tyV ty0 sl0) 89)) u2 hTx (Nat.le_refl _) hrx;have hp:=membersT_parts T (nums l);obtain ⟨r,hr⟩:∃ r,r=membersT T (nums l):=⟨_,rfl⟩;rw [← hr] at hc hv hp;obtain ⟨y,er⟩:=r;dsimp only at hc hv hp;have HV1:=Lib.hid hv;have HP:=Lib.hid hp;obtain ⟨s,hs⟩:∃ s,s=outS er (A2,k,cc):=⟨_,rfl⟩;rw [← hs] at hc;have HS:=Lib.hid hs;clear hs hr hv hp HV hTx hDx hrx;have nRX:w.heap.size+1≠wr.heap.size:=by omega
         have nXR:wr.heap.size≠w.heap.size+1:=by omega
         have nIX:w.heap.size≠wr.heap.size:=by omega
         obtain ⟨k10,k11,k12,k13⟩:=four_ krx;unfold tyV at hc;unfold ty0 sl0 at hc;unfold tyV ty0 sl0 at k10 k11 k12 k13 u0 u1 u2;go_wp2_with (go_at_call 53;refine hc.mono ?_;rintro e w3 ⟨rfl,hb3⟩;have kX3:=kX.step hb3;have kR3:=kRx.step hb3;have hbw:=below_cut hbx hb3 (Nat.le_refl _);have hbw2:=hbw.size;have ho3:=own_below hox hb3;obtain ⟨z0,z1,z2,z3,z4,z5,z6,z7⟩:=ty8_ kX3;have fz:=kX3.frozen;obtain ⟨q0,q1,q2,q3,q4,q5,q6,q7⟩:=ty8_ kR3;have fq:=kR3.frozen)
         exact bodyPost_ret (ty_end3 (y:=y) (s:=s) rfl _ rfl rfl rfl (tyV_put (blk_typut kR3 nRX y s) y s)) rfl (show OneIs v w _ _ from ⟨s,by rw [HV1.out],by rw [HV1.out,HS.out];show Reads _ _ _ _ _ (Ints .u32 y.parts);rw [HP.out];exact outS_reads (Reads.of_own (own_typut (own_typut ho3 (own_ne_high ho (Nat.le_refl _)) y _) (own_ne_low ho3 (by omega)) y _)) er,by rw [HS.out];exact outS_low (fun ad h=>Nat.le_trans (Nat.le_add_right _ 2) (own_low hox ad h)) (own_cap hox) er,ty_below (ty_below hbw (by omega) y s) (Nat.le_succ _) y s⟩)
        ·skip
         by_cases h32:op=32
         ·subst h32;have h2k:2≤k:=ha (by simp)
          obtain ⟨b,off,rfl,hbb,hcc⟩:=hrx.ints (by omega)
          have c0:=hcc 0 (by omega)
          have c1:=hcc 1 (by omega)
          unfold ix at c0 c1;simp only [Nat.add_zero] at c0;clear hcc;have ge0:(0:Int)<(k:Nat):=by omega
          have ge1:(1:Int)<(k:Nat):=by omega
          have ge2:(1:Int)≤(k:Nat):=by omega
          have hkc:=own_cap hox;have ncc:¬ cc=1:=by omega
          have ge3:((k:Nat):Int)≤(cc:Nat):=by omega
          obtain ⟨N0,hN0⟩:∃ N0,N0=(nums l).getD 0 0:=⟨_,rfl⟩;obtain ⟨N1,hN1⟩:∃ N1,N1=(nums l).getD 1 0:=⟨_,rfl⟩;rw [← hN0] at c0;rw [← hN1] at c1;have hva:v=({ ty0 with kind:=7,cls:=N0,parts:=(nums l).drop 1 },true,if (T N1).size≤0 then 100 else 0):=by rw [HV.out,hN0,hN1];exact (by rw [if_neg (by decide),if_neg (by decide),if_neg (by decide),if_neg (by decide),if_neg (by decide),if_neg (by decide),if_pos rfl])
          have HVa:=Lib.hid hva;have hp:=fun n=>plain_any gt bm _ T S N1 ((wr.alloc (.cells (tyV ty0 sl0) 89)).drewN n) u2 (hTx.same rfl (fun _ _=>rfl))
          clear hva HV hTx hDx hN0 hN1
          by_cases hz:0<(T N1).size
          ·have d1:decide (0<(T N1).size)=true:=by simpa using hz
           have hv1:v=({ ty0 with kind:=7,cls:=N0,parts:=(nums l).drop 1 },true,0):=by rw [HVa.out,if_neg (by omega)]
           have HV1:=Lib.hid hv1;rw [d1] at hp;clear hv1 HVa hz;obtain ⟨r0,r1,r2,r3,r4,r5,r6,r7,fR⟩:=ty8a kR1;obtain ⟨x0,x1,x2,x3,x4,x5,x6,x7⟩:=ty8_ kX;obtain ⟨k10,k11,k12,k13⟩:=four_ krx;have fX:=kX.frozen;have nRX:w.heap.size+1≠wr.heap.size:=by omega
           have nXR:wr.heap.size≠w.heap.size+1:=by omega
           have nIX:w.heap.size≠wr.heap.size:=by omega
           unfold tyV ty0 sl0 at x0 x1 x2 x3 x4 x5 x6 x7 k10 k11 k12 k13 fX u0 u1 u2 c0 c1;unfold tyV ty0 sl0 at hp;go_wp2_with fail;go_quiet ((go_at_call 54;exact Calls.quiet_of_same ((hp _).mono (fun _ _ h=>⟨h.1,h.2.symm⟩))))
           go_wp2_with fail;refine wp_region_tail 7 (by kernel_rfl) (by kernel_rfl) ?_
           simp only [List.take_succ_cons,List.take_zero,List.drop_succ_cons,List.drop_zero]
           repeat (go_big_quiet_step (fail))
           refine wpQuiet_nil ?_;go_wp2_with fail;have hfo:=own_typut (own_typut (own_drewN hox (nq+1)) (own_ne_high ho (Nat.le_refl _)) { ty0 with kind:=7,cls:=N0,parts:=(nums l).drop 1 } ((some ⟨b,off+1,none⟩,k-1,cc-1):SlI)) (own_ne_low hox (by omega:w.heap.size+1<w.heap.size+2)) { ty0 with kind:=7,cls:=N0,parts:=(nums l).drop 1 } ((some ⟨b,off+1,none⟩,k-1,cc-1):SlI)
           have hrd:=(Reads.of_own hfo).from_ (p:=1) (by omega) hkc
           rw [if_neg ncc,Option.map_some,add_plain] at hrd;exact bodyPost_ret (ty_end3 (y:={ ty0 with kind:=7,cls:=N0,parts:=(nums l).drop 1 }) (s:=((some ⟨b,off+1,none⟩,k-1,cc-1):SlI)) rfl _ rfl rfl rfl (tyV_put (blk_typut (kRx.drewN (nq+1)) nRX { ty0 with kind:=7,cls:=N0,parts:=(nums l).drop 1 } ((some ⟨b,off+1,none⟩,k-1,cc-1):SlI)) { ty0 with kind:=7,cls:=N0,parts:=(nums l).drop 1 } ((some ⟨b,off+1,none⟩,k-1,cc-1):SlI))) rfl (show OneIs v w _ _ from ⟨((some ⟨b,off+1,none⟩,k-1,cc-1):SlI),by rw [HV1.out],by rw [HV1.out];exact hrd,⟨(by intro ad h;cases h;exact Nat.le_trans (Nat.le_add_right _ 2) (own_low hox ⟨b,off,none⟩ rfl)),(Nat.sub_le_sub_right (own_cap hox) 1:k-1≤cc-1)⟩,ty_below (ty_below (below_drewN hbx (nq+1)) (by omega) { ty0 with kind:=7,cls:=N0,parts:=(nums l).drop 1 } ((some ⟨b,off+1,none⟩,k-1,cc-1):SlI)) (Nat.le_succ _) { ty0 with kind:=7,cls:=N0,parts:=(nums l).drop 1 } ((some ⟨b,off+1,none⟩,k-1,cc-1):SlI)⟩)
          ·have d1:decide (0<(T N1).size)=false:=by simpa using hz
           have hv1:v=({ ty0 with kind:=7,cls:=N0,parts:=(nums l).drop 1 },true,100):=by rw [HVa.out,if_pos (by omega)]
           have HV1:=Lib.hid hv1;rw [d1] at hp;clear hv1 HVa hz;obtain ⟨r0,r1,r2,r3,r4,r5,r6,r7,fR⟩:=ty8a kR1;obtain ⟨x0,x1,x2,x3,x4,x5,x6,x7⟩:=ty8_ kX;obtain ⟨k10,k11,k12,k13⟩:=four_ krx;have fX:=kX.frozen;have nRX:w.heap.size+1≠wr.heap.size:=by omega
           have nXR:wr.heap.size≠w.heap.size+1:=by omega
           have nIX:w.heap.size≠wr.heap.size:=by omega
           unfold tyV ty0 sl0 at x0 x1 x2 x3 x4 x5 x6 x7 k10 k11 k12 k13 fX u0 u1 u2 c0 c1;unfold tyV ty0 sl0 at hp;go_wp2_with fail;go_quiet ((go_at_call 54;exact Calls.quiet_of_same ((hp _).mono (fun _ _ h=>⟨h.1,h.2.symm⟩))))
           go_wp2_with fail;refine wp_region_tail 7 (by kernel_rfl) (by kernel_rfl) ?_
           simp only [List.take_succ_cons,List.take_zero,List.drop_succ_cons,List.drop_zero]
           repeat (go_big_quiet_step (fail))
           refine wpQuiet_nil ?_;go_wp2_with fail;have hfo:=own_typut (own_typut (own_drewN hox (nq+1)) (own_ne_high ho (Nat.le_refl _)) { ty0 with kind:=7,cls:=N0,parts:=(nums l).drop 1 } ((some ⟨b,off+1,none⟩,k-1,cc-1):SlI)) (own_ne_low hox (by omega:w.heap.size+1<w.heap.size+2)) { ty0 with kind:=7,cls:=N0,parts:=(nums l).drop 1 } ((some ⟨b,off+1,none⟩,k-1,cc-1):SlI)
           have hrd:=(Reads.of_own hfo).from_ (p:=1) (by omega) hkc
           rw [if_neg ncc,Option.map_some,add_plain] at hrd;exact bodyPost_ret (ty_end3 (y:={ ty0 with kind:=7,cls:=N0,parts:=(nums l).drop 1 }) (s:=((some ⟨b,off+1,none⟩,k-1,cc-1):SlI)) rfl _ rfl rfl rfl (tyV_put (blk_typut (kRx.drewN (nq+1)) nRX { ty0 with kind:=7,cls:=N0,parts:=(nums l).drop 1 } ((some ⟨b,off+1,none⟩,k-1,cc-1):SlI)) { ty0 with kind:=7,cls:=N0,parts:=(nums l).drop 1 } ((some ⟨b,off+1,none⟩,k-1,cc-1):SlI))) rfl (show OneIs v w _ _ from ⟨((some ⟨b,off+1,none⟩,k-1,cc-1):SlI),by rw [HV1.out],by rw [HV1.out];exact hrd,⟨(by intro ad h;cases h;exact Nat.le_trans (Nat.le_add_right _ 2) (own_low hox ⟨b,off,none⟩ rfl)),(Nat.sub_le_sub_right (own_cap hox) 1:k-1≤cc-1)⟩,ty_below (ty_below (below_drewN hbx (nq+1)) (by omega) { ty0 with kind:=7,cls:=N0,parts:=(nums l).drop 1 } ((some ⟨b,off+1,none⟩,k-1,cc-1):SlI)) (Nat.le_succ _) { ty0 with kind:=7,cls:=N0,parts:=(nums l).drop 1 } ((some ⟨b,off+1,none⟩,k-1,cc-1):SlI)⟩)
         ·skip
          by_cases h33:op=33
          ·subst h33;have hv:v=((functionT T (nums l)).1,true,(functionT T (nums l)).2):=by rw [HV.out,if_neg (by decide),if_neg (by decide),if_neg (by decide),if_neg (by decide),if_neg (by decide),if_neg (by decide),if_neg (by decide),if_pos rfl]
           have hc:=function_any gt bm _ T S A2 k cc (nums l) (wr.alloc (.cells (tyV ty0 sl0) 89)) u2 hTx (Nat.le_refl _) hrx hn;have hp:=functionT_parts T (nums l);obtain ⟨r,hr⟩:∃ r,r=functionT T (nums l):=⟨_,rfl⟩;rw [← hr] at hc hv hp;obtain ⟨y,er⟩:=r;dsimp only at hc hv hp;have HV1:=Lib.hid hv;have HP:=Lib.hid hp;obtain ⟨s,hs⟩:∃ s,s=outS er (A2,k,cc):=⟨_,rfl⟩;rw [← hs] at hc;have HS:=Lib.hid hs;clear hs hr hv hp HV hTx hDx hrx;have nRX:w.heap.size+1≠wr.heap.size:=by omega
           have nXR:wr.heap.size≠w.heap.size+1:=by omega
           have nIX:w.heap.size≠wr.heap.size:=by omega
           obtain ⟨k10,k11,k12,k13⟩:=four_ krx;unfold tyV at hc;unfold ty0 sl0 at hc;unfold tyV ty0 sl0 at k10 k11 k12 k13 u0 u1 u2;go_wp2_with (go_at_call 55;refine hc.mono ?_;rintro e w3 ⟨rfl,hb3⟩;have kX3:=kX.step hb3;have kR3:=kRx.step hb3;have hbw:=below_cut hbx hb3 (Nat.le_refl _);have hbw2:=hbw.size;have ho3:=own_below hox hb3;obtain ⟨z0,z1,z2,z3,z4,z5,z6,z7⟩:=ty8_ kX3;have fz:=kX3.frozen;obtain ⟨q0,q1,q2,q3,q4,q5,q6,q7⟩:=ty8_ kR3;have fq:=kR3.frozen)
           exact bodyPost_ret (ty_end3 (y:=y) (s:=s) rfl _ rfl rfl rfl (tyV_put (blk_typut kR3 nRX y s) y s)) rfl (show OneIs v w _ _ from ⟨s,by rw [HV1.out],by rw [HV1.out,HS.out];show Reads _ _ _ _ _ (Ints .u32 y.parts);rw [HP.out];exact outS_reads (Reads.of_own (own_typut (own_typut ho3 (own_ne_high ho (Nat.le_refl _)) y _) (own_ne_low ho3 (by omega)) y _)) er,by rw [HS.out];exact outS_low (fun ad h=>Nat.le_trans (Nat.le_add_right _ 2) (own_low hox ad h)) (own_cap hox) er,ty_below (ty_below hbw (by omega) y s) (Nat.le_succ _) y s⟩)
          ·skip
           have d1:(op==19)=false:=by simpa using h19
           have d2:(op==20)=false:=by simpa using h20
           have d3:(op==21)=false:=by simpa using h21
           have d4:(op==23)=false:=by simpa using h23
           have d5:(op==28)=false:=by simpa using h28
           have d6:(op==30)=false:=by simpa using h30
           have d7:(op==32)=false:=by simpa using h32
           have d8:(op==33)=false:=by simpa using h33
           have hv1:v=(ty0,false,0):=by rw [HV.out,if_neg h19,if_neg h20,if_neg h21,if_neg h23,if_neg h28,if_neg h30,if_neg h32,if_neg h33]
           have HV1:=Lib.hid hv1;clear hv1 HV hTx hDx hrx h19 h20 h21 h23 h28 h30 h32 h33;obtain ⟨r0,r1,r2,r3,r4,r5,r6,r7,fR⟩:=ty8a kR1;obtain ⟨x0,x1,x2,x3,x4,x5,x6,x7⟩:=ty8_ kX;obtain ⟨k10,k11,k12,k13⟩:=four_ krx;have fX:=kX.frozen;have nRX:w.heap.size+1≠wr.heap.size:=by omega
           have nXR:wr.heap.size≠w.heap.size+1:=by omega
           have nIX:w.heap.size≠wr.heap.size:=by omega
           unfold tyV ty0 sl0 at x0 x1 x2 x3 x4 x5 x6 x7 k10 k11 k12 k13 fX u0 u1 u2;go_wp2_with fail;exact bodyPost_ret (ty_end3 (y:=ty0) (s:=sl0) rfl _ rfl rfl rfl (tyV_put (kR1.alloc _) ty0 sl0)) rfl (show OneIs v w _ _ from ⟨sl0,by rw [HV1.out],by rw [HV1.out];exact Reads.none_,sl0_low _,ty_below (hbr.alloc hbr.size _) (Nat.le_succ _) ty0 sl0⟩)
end Go.Proofs.YtdebjkiilnhgpaaGreatDoor
