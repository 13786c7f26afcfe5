/- Walks: what makes a constant's words. -/
import Derived.Deep.RegionHeld3
import Derived.Deep.RegionLaw
import Derived.Test.YtdebjkiilnhgpaaGreatDoorCVB
import Derived.Test.YtdebjkiilnhgpaaGreatDoorCVA
set_option maxRecDepth 100000
set_option maxHeartbeats 4000000
namespace Go.Proofs.YtdebjkiilnhgpaaGreatDoor
section
open Go.RowKit
structure PolR (w:World) (gp gt:Nat) (T:Int→TyI) (S:Int→SlI) (C:Int→Option Int):Prop where
 c0:w.cell? ⟨gp,0,none⟩=some (.pointer (some ⟨gt,0,none⟩))
 tab:TabW w (some ⟨gt,0,none⟩) T S
 ty:Typed T
 con:∃ bc SC,w.cell? ⟨gp,2,none⟩=some (.map (some bc))∧ConM w w.heap.size bc T C SC
theorem PolR.step {w w':World} {gp gt:Nat} {T:Int→TyI} {S:Int→SlI} {C:Int→Option Int} (h:PolR w gp gt T S C) (hb:Below w.heap.size w w'):PolR w' gp gt T S C:=by
 obtain ⟨bc,SC,h1,h2⟩:=h.con;exact ⟨(hb.cell (World.block_lt_of_cell? w _ h.c0)).trans h.c0,h.tab.step hb,h.ty,bc,SC,(hb.cell (World.block_lt_of_cell? w _ h1)).trans h1,h2.step hb⟩
theorem kinds_any (gp gt:Nat) (T:Int→TyI) (S:Int→SlI) (ty:Int) (A:Option Addr) (n c:Nat) (l:List Int) (w:World) (c0:w.cell? ⟨gp,0,none⟩=some (.pointer (some ⟨gt,0,none⟩))) (hT:TabW w (some ⟨gt,0,none⟩) T S) (hr:Reads w w.heap.size 1 A n (Ints .u8 l)) (hn:n≤100) :
  Calls Tryz.prog 76 #[.pointer (some ⟨gp,0,none⟩),.int .u32 ty,.slice A n c] w (BoolIs (l.any fun y=>(T ty).kind==y) w):=by
 have hk:=kindM_any _ _ _ ty w hT.tab;have hc:=fun w' (hb:Below w.heap.size w w')=>contains8_any A n c l (T ty).kind w' ((hr.below hb).more hb.size) (by omega)
 clear hT hr;generalize (T ty).kind=k at *;generalize (l.any fun y=>k==y)=v at *
 go_enter Tryz.func76,Tryz.ntmps76;go_wp2_with fail;refine hk.mono ?_;rintro e w1 ⟨rfl,hb⟩;have hc1:=hc w1 hb;unfold BoolIs at hc1;clear hk hc c0;go_wp2_with fail;refine hc1.mono ?_;rintro e w2 ⟨rfl,hb2⟩;clear hc1;go_wp2_with fail;go_ret
 exact ⟨rfl,below_cut hb hb2 (Nat.le_refl _)⟩
def WrdIs (T:Int→TyI) (ty E:Int) (w:World) (e:Ending) (w':World):Prop:=∃ A n c,e=.returned (.tuple #[.slice A n c,.int .i64 E])∧Below w.heap.size w w'∧((n:Int)≤(T ty).size∧n≤c)∧(∀ ad,A=some ad→0<n→w.heap.size≤ad.block)∧∃ l,Reads w' w'.heap.size 1 A n (Ints .u32 l)
theorem WrdIs.none {T:Int→TyI} {ty E:Int} {w w':World} (h0:0≤(T ty).size) (hb:Below w.heap.size w w'):WrdIs T ty E w (.returned (.tuple #[.slice none 0 0,.int .i64 E])) w':=⟨Option.none,0,0,rfl,hb,⟨h0,Nat.le_refl _⟩,fun _ h=>(by cases h),[],Reads.none_⟩
theorem WrdIs.one {T:Int→TyI} {ty E x:Int} {w w':World} (h1:1≤(T ty).size) (hb:Below w.heap.size w w'):WrdIs T ty E w (.returned (.tuple #[.slice (some ⟨w'.heap.size,0,Option.none⟩) 1 1,.int .i64 E])) (w'.alloc (.cells #[.int .u32 x] 22)):=by
 refine ⟨_,1,1,rfl,hb.alloc hb.size _,⟨h1,Nat.le_refl _⟩,fun ad e _=>by cases e;exact hb.size,[x],?_⟩
 have h:=Reads.litN w' #[.int .u32 x] 22 1 1 1 rfl rfl (by omega)
 rw [World.size_alloc];exact h
theorem reads8_one (w:World) (x:Int):Reads (w.alloc (.cells #[.int .u8 x] 5)) (w.alloc (.cells #[.int .u8 x] 5)).heap.size 1 (some ⟨w.heap.size,0,none⟩) 1 (Ints .u8 [x]):=by
 have h:=Reads.litN w #[.int .u8 x] 5 1 1 1 rfl rfl (by omega)
 rw [World.size_alloc];exact h
theorem truth_any (gp gt:Nat) (T:Int→TyI) (S:Int→SlI) (C:Int→Option Int) (x:InstA) (w:World) (h:PolR w gp gt T S C) (hx:InstOk w w.heap.size x) (hn:1≤x.1.2.2.2.length∨2=2) :
  Calls Tryz.prog 41 #[.pointer (some ⟨gp,0,none⟩),.agg (instC x)] w (WrdIs T x.1.2.1 (if (T x.1.2.1).kind=2 then 0 else 100) w):=by
 obtain ⟨⟨op,ty,res,al⟩,A,n,c⟩:=x;have hr:=hx.reads;have hl:=hr.args_len;dsimp only at hn hr hl ⊢;have hsz:=h.ty.size ty;unfold instC;dsimp only;have hb1:=(Below.refl w.heap.size w).alloc (Nat.le_refl _) (.cells #[.int .u16 op,.int .u32 ty,.int .u32 res,.slice A n c] 42);have k1:=Blk.new w 42 #[.int .u16 op,.int .u32 ty,.int .u32 res,.slice A n c];have hb2:=hb1.alloc hb1.size (.cells #[.int .u8 2] 5);have k2:=k1.alloc (.cells #[.int .u8 2] 5);have hk:=kinds_any gp gt T S ty (some ⟨w.heap.size+1,0,none⟩) 1 1 [2] ((w.alloc (.cells #[.int .u16 op,.int .u32 ty,.int .u32 res,.slice A n c] 42)).alloc (.cells #[.int .u8 2] 5)) (h.step hb2).c0 (h.step hb2).tab (by
  have:=reads8_one (w.alloc (.cells #[.int .u16 op,.int .u32 ty,.int .u32 res,.slice A n c] 42)) 2;rw [World.size_alloc w] at this;exact this) (by decide)
 simp only [List.any_cons,List.any_nil,Bool.or_false] at hk;have hE:∀ v:Bool,((T ty).kind==2)=v→(if (T ty).kind=2 then (0:Int) else 100)=if v=true then 0 else 100:=fun v hv=>by
  rw [← hv]
  by_cases h7:(T ty).kind=2 <;> simp [h7]
 have hs1:(T ty).kind=2→1≤(T ty).size:=fun hk=>by have:=hsz.2.1.2 (by omega);omega
 obtain ⟨v,hv⟩:∃ v,((T ty).kind==2)=v:=⟨_,rfl⟩;rw [hE v hv];rw [hv] at hk;have HS:=Lib.hid (And.intro hsz.1 (show v=true→1≤(T ty).size from fun h=>hs1 (by rw [← hv] at h;simpa using h)))
 obtain ⟨z0,z1,z2,z3⟩:=four_ k1;clear h hE hs1 hsz hv;have HX:=Lib.hid hx;clear hx;cases v with
 | false =>
  go_enter Tryz.func41,Tryz.ntmps41;go_wp2_with fail;refine hk.mono ?_;rintro e w1 ⟨rfl,hb⟩;clear hk;go_wp2_with fail;go_ret2
  exact WrdIs.none HS.out.1 (below_cut hb2 hb (Nat.le_refl _))
 | true =>
  obtain ⟨y0,y1,y2,y3⟩:=four_ k2;have kw:∀ w1,Below _ _ w1→w1.cell? ⟨w.heap.size,0,none⟩=some (.int .u16 op):=fun w1 hb=>(hb.cell (World.block_lt_of_cell? _ _ y0)).trans y0
  have KW:=Lib.hid kw;clear kw y0 y1 y2 y3 k1 k2;cases h41:(op==41) with
  | true =>
   go_enter Tryz.func41,Tryz.ntmps41;go_wp2_with fail;refine hk.mono ?_;rintro e w1 ⟨rfl,hb⟩;have y0:=KW.out w1 hb;clear hk;go_wp2_with fail;go_ret2
   exact WrdIs.one (HS.out.2 (by simp)) (below_cut hb2 hb (Nat.le_refl _))
  | false =>
   go_enter Tryz.func41,Tryz.ntmps41;go_wp2_with fail;refine hk.mono ?_;rintro e w1 ⟨rfl,hb⟩;have y0:=KW.out w1 hb;clear hk;go_wp2_with fail;go_ret2
   exact WrdIs.one (HS.out.2 (by simp)) (below_cut hb2 hb (Nat.le_refl _))
theorem numberC_any (gp gt:Nat) (T:Int→TyI) (S:Int→SlI) (C:Int→Option Int) (x:InstA) (w:World) (h:PolR w gp gt T S C) (hx:InstOk w w.heap.size x) (hn:1≤x.1.2.2.2.length∨3=2) :
  Calls Tryz.prog 42 #[.pointer (some ⟨gp,0,none⟩),.agg (instC x)] w (WrdIs T x.1.2.1 (if (T x.1.2.1).kind=3 then 0 else 100) w):=by
 obtain ⟨⟨op,ty,res,al⟩,A,n,c⟩:=x;have hr:=hx.reads;have hl:=hr.args_len;dsimp only at hn hr hl ⊢;have hsz:=h.ty.size ty;unfold instC;dsimp only;have hb1:=(Below.refl w.heap.size w).alloc (Nat.le_refl _) (.cells #[.int .u16 op,.int .u32 ty,.int .u32 res,.slice A n c] 42);have k1:=Blk.new w 42 #[.int .u16 op,.int .u32 ty,.int .u32 res,.slice A n c];have hb2:=hb1.alloc hb1.size (.cells #[.int .u8 3] 5);have k2:=k1.alloc (.cells #[.int .u8 3] 5);have hk:=kinds_any gp gt T S ty (some ⟨w.heap.size+1,0,none⟩) 1 1 [3] ((w.alloc (.cells #[.int .u16 op,.int .u32 ty,.int .u32 res,.slice A n c] 42)).alloc (.cells #[.int .u8 3] 5)) (h.step hb2).c0 (h.step hb2).tab (by
  have:=reads8_one (w.alloc (.cells #[.int .u16 op,.int .u32 ty,.int .u32 res,.slice A n c] 42)) 3;rw [World.size_alloc w] at this;exact this) (by decide)
 simp only [List.any_cons,List.any_nil,Bool.or_false] at hk;have hE:∀ v:Bool,((T ty).kind==3)=v→(if (T ty).kind=3 then (0:Int) else 100)=if v=true then 0 else 100:=fun v hv=>by
  rw [← hv]
  by_cases h7:(T ty).kind=3 <;> simp [h7]
 have hs1:(T ty).kind=3→1≤(T ty).size:=fun hk=>by have:=hsz.2.1.2 (by omega);omega
 obtain ⟨v,hv⟩:∃ v,((T ty).kind==3)=v:=⟨_,rfl⟩;rw [hE v hv];rw [hv] at hk;have HS:=Lib.hid (And.intro hsz.1 (show v=true→1≤(T ty).size from fun h=>hs1 (by rw [← hv] at h;simpa using h)))
 obtain ⟨z0,z1,z2,z3⟩:=four_ k1;clear h hE hs1 hsz hv;have HX:=Lib.hid hx;clear hx;cases v with
 | false =>
  go_enter Tryz.func42,Tryz.ntmps42;go_wp2_with fail;refine hk.mono ?_;rintro e w1 ⟨rfl,hb⟩;clear hk;go_wp2_with fail;go_ret2
  exact WrdIs.none HS.out.1 (below_cut hb2 hb (Nat.le_refl _))
 | true =>
  have hn1:1≤al.length:=hn.elim id fun h=>absurd h (by decide)
  obtain ⟨ab,ao,rfl,hab,hac⟩:=hr.args (by omega)
  have a0:=(hac 0 (by omega)).2.1
  simp only [Nat.zero_mul,Nat.add_zero] at a0;generalize (ag al 0).2.1=n0 at *;have ki:(0:Int)<(n:Nat):=by omega
  clear hac hr hl hn hn1;obtain ⟨y0,y1,y2,y3⟩:=four_ k2;have kw:∀ w1,Below _ _ w1→w1.cell? ⟨w.heap.size,3,none⟩=some (.slice (some ⟨ab,ao,none⟩) n c):=fun w1 hb=>(hb.cell (World.block_lt_of_cell? _ _ y3)).trans y3
  have kv:∀ w1,Below _ _ w1→w1.cell? ⟨ab,ao+1,none⟩=some (.int .u32 n0):=fun w1 hb=>((below_cut hb2 hb (Nat.le_refl _)).cell (p:=⟨ab,ao+1,none⟩) hab).trans a0
  have KW:=Lib.hid kw;have KV:=Lib.hid kv;clear kw kv y0 y1 y2 y3 k1 k2 a0;go_enter Tryz.func42,Tryz.ntmps42;go_wp2_with fail;refine hk.mono ?_;rintro e w1 ⟨rfl,hb⟩;have y0:=KW.out w1 hb;have y1:=KV.out w1 hb;clear hk;go_wp2_with fail;go_ret2
  exact WrdIs.one (HS.out.2 (by simp)) (below_cut hb2 hb (Nat.le_refl _))
end
section
open Go.RowKit
def HelIs (T:Int→TyI) (ty E:Int) (w:World) (e:Ending) (w':World):Prop:=∃ A n c,e=.returned (.tuple #[.slice A n c,.int .i64 E])∧Below w.heap.size w w'∧(E=0→(n:Int)≤(T ty).size)∧n≤c∧∃ l,Reads w' w'.heap.size 1 A n (Ints .u32 l)
theorem HelIs.none {T:Int→TyI} {ty E:Int} {w w':World} (h0:E≠0) (hb:Below w.heap.size w w'):HelIs T ty E w (.returned (.tuple #[.slice none 0 0,.int .i64 E])) w':=⟨Option.none,0,0,rfl,hb,fun h=>absurd h h0,Nat.le_refl _,[],Reads.none_⟩
theorem ofc_any (gp gt:Nat) (T:Int→TyI) (S:Int→SlI) (C:Int→Option Int) (id ty:Int) (w:World) (h:PolR w gp gt T S C) :
  Calls Tryz.prog 78 #[.pointer (some ⟨gp,0,none⟩),.int .u32 id,.int .u32 ty] w (HelIs T ty (heldE C id ty) w):=by
 obtain ⟨bc,SC,h2,hC⟩:=h.con;have hl:=hC.look id;have hlen:=hC.len id;have hrd:=hC.reads id;have hno:=hC.none_ id;have hE:heldE C id ty=match C id with
  | none=>110
  | some t=>if t=ty then 0 else 111:=rfl
 generalize heldE C id ty=E at *;generalize SC id=s at *;obtain ⟨sA,sn,sc⟩:=s;dsimp only at hlen hrd;clear h hC;cases hc:C id with
 | none =>
  rw [hc] at hl hE;have hs:=hno hc;cases hs
  have HE:Hid (E=110):=Lib.hid hE;have hb:=(Below.refl w.heap.size w).alloc (Nat.le_refl _) (.cells (conV 0 sl0) 110);unfold conV sl0 at *;clear hE hno hlen hrd hc;simp only [Option.getD_none,Option.isSome_none] at hl;go_enter Tryz.func78,Tryz.ntmps78;go_wp2_with fail;go_ret2
  rw [HE.out];exact HelIs.none (by decide) hb
 | some t =>
  rw [hc] at hl hE;obtain ⟨hl1,hl2⟩:=hlen t hc;have HE:=Lib.hid hE;have HL:=Lib.hid (And.intro hl1 hl2);have HR:=Lib.hid hrd;have hb:=(Below.refl w.heap.size w).alloc (Nat.le_refl _) (.cells (conV t (sA,sn,sc)) 110);have k1:=Blk.new w 110 (conV t (sA,sn,sc));unfold conV at *;dsimp only at hl hb k1;clear hE hno hlen hrd hc hl1 hl2;simp only [Option.getD_some,Option.isSome_some] at hl;obtain ⟨z0,z1⟩:=two_ k1
  by_cases ht:t=ty
  ·have HE1:Hid (E=0):=Lib.hid (by rw [HE.out];exact if_pos ht)
   subst ht;have e1:(t != t)=false:=by simp
   clear HE;go_enter Tryz.func78,Tryz.ntmps78;go_wp2_with fail;go_ret2
   rw [HE1.out];obtain ⟨l,hl⟩:=HR.out;exact ⟨sA,sn,sc,rfl,hb,fun _=>HL.out.1,HL.out.2,l,(hl.below hb).more hb.size⟩
  ·have HE1:Hid (E=111):=Lib.hid (by rw [HE.out];exact if_neg ht)
   have e1:(t != ty)=true:=by simpa using ht
   clear HE ht;go_enter Tryz.func78,Tryz.ntmps78;go_wp2_with fail;go_ret2
   rw [HE1.out];exact HelIs.none (by decide) hb
theorem op_mk {P:Program} {t e:TypeId} {z:Value} {bytes:Nat} (S:SliceOf P t e z 1 bytes) (hz1:z.cells=#[z]) (w:World) {o:Oper} {a:Act} {K:Act→World→Prop} {Q:Exit→Act→World→Prop}
  (l c:Operand) (hop:o.op=.makeSlice t l c) (base n:Nat) (hl:a.eval l=.int .i64 (n:Nat)) (hc:a.eval c=.int .i64 (n:Nat)) (hb:bytes*n≤281474976710656) (h63:n≤9223372036854775807) (h4:base≤w.heap.size)
  (hK:∀ w':World,w'.ownsRow base e 1 (.slice (some ⟨w.heap.size,0,none⟩) n n) n (List.replicate n z)→w.grownBy w' none→K (a.put o.dst (.slice (some ⟨w.heap.size,0,none⟩) n n)) w'):o.wp P a w K Q:=by
 obtain ⟨i,h1,h2,h3,rfl⟩:=info_parts S.hi;obtain ⟨w',hrun,r1,r2⟩:=run_make_full (P:=P) w base t e i z 1 S.ht h1 h2 h3 .i64 .i64 n hb (by unfold maxLen;omega) h4
 rw [hz1,Nat.mul_one,toList_madeCells_one] at r1;unfold Oper.wp;simp [execOp,hop,hl,hc,hrun,Result.andThen]
 exact hK w' r1 r2
theorem grown_none {w w':World} (h:w.grownBy w' none):Below w.heap.size w w':=(Below.refl _ _).grown h (Nat.le_refl _) (fun _ e=>by cases e)
theorem zeros_read {w:World} {B n:Nat} {A:Option Addr} {c:Nat} (h:w.ownsRow B 22 1 (.slice A n c) n (List.replicate n (.int .u32 0))):∃ l,Reads w w.heap.size 1 A n (Ints .u32 l):=⟨List.replicate n 0,by
 have:=Reads.of_own h;unfold Ints;rwa [List.map_replicate]⟩
theorem nothing_any (gp gt:Nat) (T:Int→TyI) (S:Int→SlI) (C:Int→Option Int) (x:InstA) (w:World) (h:PolR w gp gt T S C) (hx:InstOk w w.heap.size x) :
  Calls Tryz.prog 40 #[.pointer (some ⟨gp,0,none⟩),.agg (instC x)] w (WrdIs T x.1.2.1 (if 0<(T x.1.2.1).size then 0 else 100) w):=by
 obtain ⟨⟨op,ty,res,al⟩,A,n,c⟩:=x;have hr:=hx.reads;have hlen:=hx.len;have hl:=hr.args_len;dsimp only at hr hl hlen ⊢;have hsz:=h.ty.size ty;unfold instC;dsimp only;have kB:=Blk.new w 42 #[.int .u16 op,.int .u32 ty,.int .u32 res,.slice A n c];obtain ⟨z0,z1,z2,z3⟩:=four_ kB;have c0:=h.c0;have hX:Cx w [(⟨gp,0,none⟩,.pointer (some ⟨gt,0,none⟩)),(⟨w.heap.size,1,none⟩,.int .u32 ty),(⟨w.heap.size,3,none⟩,.slice A n c)] (w.alloc (.cells #[.int .u16 op,.int .u32 ty,.int .u32 res,.slice A n c] 42)):=⟨⟨cell_alloc_c _ c0,z1,z3,trivial⟩,(Below.refl w.heap.size w).alloc (Nat.le_refl _) _⟩;have hpl:=fun (w':World) (hb:Below w.heap.size w w')=>plainM_any _ _ _ ty w' (h.step hb).tab.tab
 have hsi:=fun (w':World) (hb:Below w.heap.size w w')=>sizeM_any _ _ _ ty w' (h.step hb).tab.tab
 obtain ⟨v,hv⟩:∃ v,decide (0<(T ty).size)=v:=⟨_,rfl⟩;rw [hv] at hpl;have hE:(if 0<(T ty).size then (0:Int) else 100)=if v=true then 0 else 100:=by
  rw [← hv]
  by_cases h7:0<(T ty).size <;> simp [h7]
 rw [hE];obtain ⟨E,hE2⟩:∃ E:Int,(if v=true then 0 else 100)=E:=⟨_,rfl⟩
 rw [hE2];have HE:=Lib.hid hE2;clear hE2;obtain ⟨z,hz⟩:∃ z:Nat,(T ty).size=(z:Int):=⟨(T ty).size.toNat,by omega⟩
 rw [hz] at hsi hsz;have HZ:=Lib.hid hz;have HS:=Lib.hid hsz;clear h hx hr hl hlen kB z0 z1 z2 z3 c0 hE hv hz hsz;go_enter Tryz.func40,Tryz.ntmps40;go_wp2_with fail;refine wp_region_cx (by kernel_rfl) (by kernel_rfl) hX ?_
 repeat' first | (refine BigFrame.wpQuiet_want (by rfl) (fun K hK=>?_);apply Exists.intro;refine ⟨fun w' hw'=>?_,hK _ ?_⟩;(have hc:=hw'.1;simp only [cellsAt] at hc;go_simp;first | done | with_reducible rfl | (go_at_call 75;exact (hpl _ hw'.2).mono fun e w2 h2=>⟨h2.1,hw'.call h2.2⟩));clear hK K;(try simp only [Act.put,List.setIfInBounds_toArray,List.set_cons_zero,List.set_cons_succ])) | (refine BigFrame.wpQuiet_skip (by rfl) ?_;(try simp only [Act.put,List.setIfInBounds_toArray,List.set_cons_zero,List.set_cons_succ]))
 refine wpQuiet_nil ?_;intro w1 hX1;clear hpl hX;cases v with
 | false =>
  go_wp2_with fail;go_ret2
  rw [← HE.out];exact WrdIs.none (by rw [HZ.out];exact HS.out.1) hX1.2
 | true =>
  have hs1:=hX1.2.size;go_wp2_with fail;refine wp_region_held_drew (S:=Cx w [(⟨gp,0,none⟩,.pointer (some ⟨gt,0,none⟩)),(⟨w.heap.size,1,none⟩,.int .u32 ty),(⟨w.heap.size,3,none⟩,.slice A n c)]) (by kernel_rfl) hX1.drew_ (fun hHeld=>?_)
  refine wpAnyH_take (i:=0) (oi:=_) (v:=?_) rfl (by kernel_rfl) (by kernel_rfl) (by kernel_rfl) (fun _ _ _ h=>h) (Or.inl ⟨by rfl,?_⟩) hHeld ?_
  rotate_left
  ·intro w' hSw;have hc:=hSw.1;simp only [cellsAt] at hc;go_simp
   try with_reducible rfl
  (try simp only [Act.put,List.setIfInBounds_toArray,List.set_cons_zero,List.set_cons_succ,List.getElem_toArray,List.getElem_cons_zero])
  refine wpAnyH_take (i:=1) (oi:=_) (v:=?_) rfl (by kernel_rfl) (by kernel_rfl) (by kernel_rfl) (fun _ _ _ h=>h) (Or.inl ⟨by rfl,?_⟩) hHeld ?_
  rotate_left
  ·intro w' hSw;have hc:=hSw.1;simp only [cellsAt] at hc;go_simp
   try with_reducible rfl
  (try simp only [Act.put,List.setIfInBounds_toArray,List.set_cons_zero,List.set_cons_succ,List.getElem_toArray,List.getElem_cons_succ,List.getElem_cons_zero])
  refine wpAnyH_take (i:=2) (oi:=_) (v:=?_) rfl (by kernel_rfl) (by kernel_rfl) (by kernel_rfl) (fun _ _ _ h=>h) (Or.inl ⟨by rfl,?_⟩) hHeld ?_
  rotate_left
  ·intro w' hSw;have hc:=hSw.1;simp only [cellsAt] at hc;go_simp
   try with_reducible rfl
  (try simp only [Act.put,List.setIfInBounds_toArray,List.set_cons_zero,List.set_cons_succ,List.getElem_toArray,List.getElem_cons_succ,List.getElem_cons_zero])
  refine wpAnyH_take (i:=3) (oi:=_) (v:=?_) rfl (by kernel_rfl) (by kernel_rfl) (by kernel_rfl) (fun _ _ _ h=>h) (Or.inl ⟨by rfl,?_⟩) hHeld ?_
  rotate_left
  ·intro w' hSw;have hc:=hSw.1;simp only [cellsAt] at hc;go_simp
   try with_reducible rfl
  (try simp only [Act.put,List.setIfInBounds_toArray,List.set_cons_zero,List.set_cons_succ,List.getElem_toArray,List.getElem_cons_succ,List.getElem_cons_zero])
  refine wpAnyH_take (i:=4) (oi:=_) (v:=?_) rfl (by kernel_rfl) (by kernel_rfl) (by kernel_rfl) (fun _ _ _ h=>h) (Or.inl ⟨by rfl,?_⟩) hHeld ?_
  rotate_left
  ·intro w' hSw;have hc:=hSw.1;simp only [cellsAt] at hc;go_simp
   try with_reducible rfl
  (try simp only [Act.put,List.setIfInBounds_toArray,List.set_cons_zero,List.set_cons_succ,List.getElem_toArray,List.getElem_cons_succ,List.getElem_cons_zero])
  refine wpAnyH_take (i:=5) (oi:=_) (v:=?_) rfl (by kernel_rfl) (by kernel_rfl) (by kernel_rfl) (fun _ _ _ h=>h) (Or.inl ⟨by rfl,?_⟩) hHeld ?_
  rotate_left
  ·intro w' hSw;have hc:=hSw.1;simp only [cellsAt] at hc;go_simp
   try with_reducible rfl
  (try simp only [Act.put,List.setIfInBounds_toArray,List.set_cons_zero,List.set_cons_succ,List.getElem_toArray,List.getElem_cons_succ,List.getElem_cons_zero])
  refine wpAnyH_ready (rs:=[6]) (by kernel_rfl) (by simp) ?_
  refine AllReadyH.cons (o:=_) rfl (fun K hK=>?_) AllReadyH.nil
  go_simp
  go_at_call 16
  refine (hsi _ hHeld.2).mono ?_;rintro e w2 ⟨rfl,hb2⟩
  (try go_wp2_with fail)
  have hHeld2:=hHeld.call hb2;refine hK.out _ _ hHeld2 (fun hHeld=>?_)
  clear hK K hHeld2
  (try simp only [Act.put,List.setIfInBounds_toArray,List.set_cons_zero,List.set_cons_succ,List.getElem_toArray,List.getElem_cons_succ,List.getElem_cons_zero])
  refine wpAnyH_ready (rs:=[7]) (by kernel_rfl) (by simp) ?_
  refine AllReadyH.cons (o:=_) rfl (fun K hK=>?_) AllReadyH.nil
  rw [if_pos (by rfl)]
  refine op_mk sl32 rfl _ _ _ rfl w.heap.size z rfl rfl (by have:=HS.out.2.2;omega) (by have:=HS.out.2.2;omega) hHeld.2.size ?_
  intro w3 hown hgr;have hHeld2:=hHeld.call (grown_none hgr);refine hK.out _ _ hHeld2 (fun hHeld=>?_)
  clear hK K hHeld2
  (try simp only [Act.put,List.setIfInBounds_toArray,List.set_cons_zero,List.set_cons_succ,List.getElem_toArray,List.getElem_cons_succ,List.getElem_cons_zero])
  refine wpAnyH_take (i:=8) (oi:=_) (v:=?_) rfl (by kernel_rfl) (by kernel_rfl) (by kernel_rfl) (fun _ _ _ h=>h) (Or.inl ⟨by rfl,?_⟩) hHeld ?_
  rotate_left
  ·intro w' hSw;have hc:=hSw.1;simp only [cellsAt] at hc;go_simp
   try with_reducible rfl
  (try simp only [Act.put,List.setIfInBounds_toArray,List.set_cons_zero,List.set_cons_succ,List.getElem_toArray,List.getElem_cons_succ,List.getElem_cons_zero])
  refine wpAnyH_take (i:=9) (oi:=_) (v:=?_) rfl (by kernel_rfl) (by kernel_rfl) (by kernel_rfl) (fun _ _ _ h=>h) (Or.inl ⟨by rfl,?_⟩) hHeld ?_
  rotate_left
  ·intro w' hSw;have hc:=hSw.1;simp only [cellsAt] at hc;go_simp
   try with_reducible rfl
  (try simp only [Act.put,List.setIfInBounds_toArray,List.set_cons_zero,List.set_cons_succ,List.getElem_toArray,List.getElem_cons_succ,List.getElem_cons_zero])
  refine wpAnyH_done (by kernel_rfl) ?_ _
  have HO:=Lib.hid hown;have HH:=Lib.hid hHeld;clear hown hgr hHeld hX1;go_wp2_with fail;go_ret2
  rw [← HE.out];exact ⟨_,z,z,rfl,HH.out.2,⟨by rw [HZ.out];omega,Nat.le_refl _⟩,fun ad e hn=>(by cases e;have:=(HO.out.lt _ rfl).1;exact this),zeros_read HO.out⟩
theorem composite_any (gp gt:Nat) (T:Int→TyI) (S:Int→SlI) (C:Int→Option Int) (x:InstA) (w:World) (h:PolR w gp gt T S C) (hx:InstOk w w.heap.size x) :
  Calls Tryz.prog 43 #[.pointer (some ⟨gp,0,none⟩),.agg (instC x)] w (WrdIs T x.1.2.1 (if (T x.1.2.1).kind≠4∧(T x.1.2.1).kind≠5∧(T x.1.2.1).kind≠6 then 100 else if (x.1.2.2.2.length:Int)≠cntT (T x.1.2.1) then 111 else compE T C x.1.2.1 (nums x.1.2.2.2) 0) w):=by
 obtain ⟨⟨op,ty,res,al⟩,A,n,c⟩:=x;have hr:=hx.reads;have hlen:=hx.len;have hl:=hr.args_len;dsimp only at hr hl hlen ⊢;have hsz:=h.ty.size ty;unfold instC;dsimp only;have kB:=Blk.new w 42 #[.int .u16 op,.int .u32 ty,.int .u32 res,.slice A n c];obtain ⟨z0,z1,z2,z3⟩:=four_ kB;have c0:=h.c0;have hX:Cx w [(⟨gp,0,none⟩,.pointer (some ⟨gt,0,none⟩)),(⟨w.heap.size,1,none⟩,.int .u32 ty),(⟨w.heap.size,3,none⟩,.slice A n c)] (w.alloc (.cells #[.int .u16 op,.int .u32 ty,.int .u32 res,.slice A n c] 42)):=⟨⟨cell_alloc_c _ c0,z1,z3,trivial⟩,(Below.refl w.heap.size w).alloc (Nat.le_refl _) _⟩;have hb2:=hX.2.alloc hX.2.size (.cells #[.int .u8 4,.int .u8 5,.int .u8 6] 5);have hX2:=hX.call ((Below.refl _ _).alloc (Nat.le_refl _) (.cells #[.int .u8 4,.int .u8 5,.int .u8 6] 5));have hk:=kinds_any gp gt T S ty (some ⟨w.heap.size+1,0,none⟩) 3 3 [4,5,6] ((w.alloc (.cells #[.int .u16 op,.int .u32 ty,.int .u32 res,.slice A n c] 42)).alloc (.cells #[.int .u8 4,.int .u8 5,.int .u8 6] 5)) (h.step hb2).c0 (h.step hb2).tab (by
  have:=Reads.litN (w.alloc (.cells #[.int .u16 op,.int .u32 ty,.int .u32 res,.slice A n c] 42)) #[.int .u8 4,.int .u8 5,.int .u8 6] 5 1 3 3 rfl rfl (by omega)
  rw [World.size_alloc w] at this;rw [World.size_alloc];rw [World.size_alloc];exact this) (by decide)
 obtain ⟨v,hv⟩:∃ v,([4,5,6].any fun y=>(T ty).kind==y)=v:=⟨_,rfl⟩
 rw [hv] at hk;have hkv:(v=true→(T ty).kind=4∨(T ty).kind=5∨(T ty).kind=6)∧(v=false→(T ty).kind≠4∧(T ty).kind≠5∧(T ty).kind≠6):=by
  rw [← hv];simp only [List.any_cons,List.any_nil,Bool.or_false,Bool.or_eq_true,beq_iff_eq,Bool.or_eq_false_iff,beq_eq_false_iff_ne];exact ⟨fun h=>h,fun h=>h⟩
 obtain ⟨E,hE⟩:∃ E,(if (T ty).kind≠4∧(T ty).kind≠5∧(T ty).kind≠6 then 100 else if (al.length:Int)≠cntT (T ty) then 111 else compE T C ty (nums al) 0)=E:=⟨_,rfl⟩
 rw [hE];have hco:=fun (w':World) (hb:Below w.heap.size w w')=>countM_any _ _ _ ty w' (h.step hb).tab.tab ((h.step hb).tab.mild ty)
 have hpt:=fun (k:Int) (w':World) (hb:Below w.heap.size w w')=>partM_any _ _ _ ty k w' (h.step hb).tab.tab ((h.step hb).tab.mild ty)
 have hof:=fun (id t:Int) (w':World) (hb:Below w.heap.size w w')=>ofc_any gp gt T S C id t w' (h.step hb)
 have HE:=Lib.hid hE;have HK:=Lib.hid hkv;have HY:=Lib.hid h.ty;have HS:=Lib.hid hsz;have HR:=Lib.hid hr;have HGP:=Lib.hid (World.block_lt_of_cell? w _ h.c0);have HLT:Hid (∀ w',Cx w [(⟨gp,0,none⟩,.pointer (some ⟨gt,0,none⟩)),(⟨w.heap.size,1,none⟩,.int .u32 ty),(⟨w.heap.size,3,none⟩,.slice A n c)] w'→w.heap.size+1≤w'.heap.size):=Lib.hid (fun w' hw=>World.block_lt_of_cell? w' _ hw.1.2.1)
 clear h hx hr kB c0 hv hkv hsz hE hX z0 z2 z3;go_enter Tryz.func43,Tryz.ntmps43;go_wp2_with fail;refine hk.mono ?_;rintro e w1 ⟨rfl,hb1⟩;have hX1:=hX2.call hb1;clear hk hX2 hb1 hb2 z1;cases v with
 | false =>
  go_wp2_with fail;go_ret2
  rw [← HE.out,if_pos (HK.out.2 (by simp))]
  exact WrdIs.none HS.out.1 hX1.2
 | true =>
  have hk6:=HK.out.1 (by simp)
  have HC:=Lib.hid (comp_sum HY.out hk6);have HE1:Hid (E=if (al.length:Int)≠cntT (T ty) then 111 else compE T C ty (nums al) 0):=Lib.hid (by rw [← HE.out,if_neg (by omega)])
  obtain ⟨ne,hne⟩:∃ v,(((n:Nat):Int) != cntT (T ty))=v:=⟨_,rfl⟩;clear HE HK hk6;go_wp2_with fail;refine wp_region_cx (by kernel_rfl) (by kernel_rfl) hX1 ?_
  repeat' first | (refine BigFrame.wpQuiet_want (by rfl) (fun K hK=>?_);apply Exists.intro;refine ⟨fun w' hw'=>?_,hK _ ?_⟩;(have hc:=hw'.1;simp only [cellsAt] at hc;go_simp;first | done | with_reducible rfl | (go_at_call 77;exact (hco _ hw'.2).mono fun e w2 h2=>⟨h2.1,hw'.call h2.2⟩));clear hK K;(try simp only [Act.put,List.setIfInBounds_toArray,List.set_cons_zero,List.set_cons_succ])) | (refine BigFrame.wpQuiet_skip (by rfl) ?_;(try simp only [Act.put,List.setIfInBounds_toArray,List.set_cons_zero,List.set_cons_succ]))
  refine wpQuiet_nil ?_;intro w2 hX2;clear hco hX1;cases ne with
  | true =>
   have hne2:((n:Nat):Int)≠cntT (T ty):=by simpa using hne
   clear hne;go_wp2_with fail;go_ret2
   rw [HE1.out,if_pos (by rw [hl];exact hne2)]
   exact WrdIs.none HS.out.1 hX2.2
  | false =>
   have hcn:((n:Nat):Int)=cntT (T ty):=by simpa using hne
   have HE2:Hid (E=compE T C ty ((nums al).drop 0) 0):=Lib.hid (by rw [HE1.out,if_neg (by rw [hl];exact fun h=>h hcn)];rfl)
   have HN:=Lib.hid hcn;obtain ⟨-,q1,q3,-⟩:=hX2.1;clear hne HE1 hcn;go_wp2_with fail;go_loopg [6,33] n (fun q s i wr=>∃ (k:Nat) (A9:Option Addr) (m c9:Nat) (xs:List Int),k+q=n∧i=.int .i64 (k:Nat)∧s=.slice A9 m c9∧wr.ownsRow (w.heap.size+1) 22 1 (.slice A9 m c9) m (Ints .u32 xs)∧(m:Int)≤sumP T (T ty) k∧Hid (E=compE T C ty ((nums al).drop k) k)∧Cx w [(⟨gp,0,none⟩,.pointer (some ⟨gt,0,none⟩)),(⟨w.heap.size,1,none⟩,.int .u32 ty),(⟨w.heap.size,3,none⟩,.slice A n c)] wr)
   case atStart=>exact ⟨0,none,0,0,[],by omega,rfl,rfl,World.ownsRow_nil _ _ _ _,by show (0:Int)≤0;decide,HE2,hX2⟩
   case round =>
    obtain ⟨k,A9,m,c9,xs,hq,rfl,rfl,ho,hm,HEk,hXr⟩:=hrel;clear HE2 hX2 q1 q3
    by_cases hlt:k<n
    ·obtain ⟨ab,ao,rfl,hab,hac⟩:=HR.out.args (by omega)
     obtain ⟨a0,a1,a2⟩:=hac k hlt;have a0:=(hXr.2.cell (p:=⟨ab,ao+k*3,none⟩) hab).trans a0;have a1:=(hXr.2.cell (p:=⟨ab,ao+k*3+1,none⟩) hab).trans a1;have a2:=(hXr.2.cell (p:=⟨ab,ao+k*3+2,none⟩) hab).trans a2;have hdr:(nums al).drop k=(ag al k).2.1 :: (nums al).drop (k+1):=by
      have hk2:k<(nums al).length:=by rw [nums_len];omega
      rw [List.drop_eq_getElem_cons hk2,← nums_getD (show k<al.length by omega)]
      congr 1
      unfold ixn;rw [List.getD_eq_getElem?_getD,List.getElem?_eq_getElem hk2];rfl
     have hE:=HEk.out;rw [hdr] at hE;replace hE:E=if heldE C (ag al k).2.1 (prt T ty k)≠0 then heldE C (ag al k).2.1 (prt T ty k) else compE T C ty ((nums al).drop (k+1)) (k+1):=hE
     have HEn:=Lib.hid hE;have hsk:sumP T (T ty) (k+1)=sumP T (T ty) k+(T (prt T ty k)).size:=rfl;have hs1:=(HC.out.2.2 (k+1) (by have:=HN.out;omega)).2
     have hsp:=HY.out.size (prt T ty k);generalize ag al k=y at *;obtain ⟨y1,y2,y3⟩:=y;dsimp only at a0 a1 a2 HEn;have d1:decide (((k:Nat):Int)<(n:Nat))=true:=by rw [decide_eq_true_eq];omega
     have hi1:((k:Nat):Int)<(n:Nat):=by omega
     have kA:=Blk.new wr 44 #[.int .u8 y1,.int .u32 y2,.string y3];have hbA:=(Below.refl wr.heap.size wr).alloc (Nat.le_refl _) (.cells #[.int .u8 y1,.int .u32 y2,.string y3] 44);have hXA:Cx w [(⟨gp,0,none⟩,.pointer (some ⟨gt,0,none⟩)),(⟨w.heap.size,1,none⟩,.int .u32 ty),(⟨w.heap.size,3,none⟩,.slice (some ⟨ab,ao,none⟩) n c),(⟨wr.heap.size,1,none⟩,.int .u32 y2)] (wr.alloc (.cells #[.int .u8 y1,.int .u32 y2,.string y3] 44)):=by
      obtain ⟨⟨r0,r1,r3,-⟩,r4⟩:=hXr.call hbA;exact ⟨⟨r0,r1,r3,(three_ kA).2.1,trivial⟩,r4⟩
     have hoA:=own_below ho hbA;have hpk:=hpt k;unfold prt at HEn hsp hsk;generalize partT (T ty) k=pr at *;obtain ⟨p1,p2⟩:=pr;dsimp only at hpk HEn hsp hsk;clear hac hE hdr HEk ho hXr;go_wp2_with fail;refine wp_region_cx (by kernel_rfl) (by kernel_rfl) hXA.here ?_
     repeat' first | (refine BigFrame.wpQuiet_want (by rfl) (fun K hK=>?_);apply Exists.intro;refine ⟨fun w' hw'=>?_,hK _ ?_⟩;(have hc:=hw'.1;simp only [cellsAt] at hc;go_simp;first | done | with_reducible rfl | (go_at_call 31;exact (hpk _ (below_cut hXA.2 hw'.2 (Nat.le_refl _))).mono fun e w2 h2=>⟨h2.1,hw'.call h2.2⟩));clear hK K;(try simp only [Act.put,List.setIfInBounds_toArray,List.set_cons_zero,List.set_cons_succ])) | (refine BigFrame.wpQuiet_skip (by rfl) ?_;(try simp only [Act.put,List.setIfInBounds_toArray,List.set_cons_zero,List.set_cons_succ]))
     refine wpQuiet_nil ?_;intro w4 hW4;have hX4:=hXA.call hW4.2;have ho4:=own_below hoA hW4.2;have hofk:=hof y2 p1 w4 hX4.2;obtain ⟨-,-,-,r5,-⟩:=hX4.1;unfold HelIs at hofk;generalize heldE C y2 p1=E1 at *;clear hXA hW4 hoA hpk kA hbA a0 a1 a2;go_wp2_with fail;refine hofk.mono ?_;rintro e w5 ⟨A5,n5,c5,rfl,hb5,hl5,hn5,l5,hr5⟩;have hX5:Cx w [(⟨gp,0,none⟩,.pointer (some ⟨gt,0,none⟩)),(⟨w.heap.size,1,none⟩,.int .u32 ty),(⟨w.heap.size,3,none⟩,.slice (some ⟨ab,ao,none⟩) n c)] w5:=by
      obtain ⟨⟨t0,t1,t3,-⟩,t4⟩:=hX4.call hb5;exact ⟨⟨t0,t1,t3,trivial⟩,t4⟩
     have ho5:=own_below ho4 hb5;clear hofk hX4 ho4 hb5 r5
     by_cases he:E1=0
     ·subst he;have hl6:=hl5 rfl;have hb6:w.heap.size+1≤w5.heap.size:=HLT.out _ hX5;have d3:((0:Int) != 0)=false:=rfl;go_wp2_with (at_builtin;refine ap_any sl32 w5 rfl _ _ rfl (w.heap.size+1) _ _ _ rfl ho5 _ _ _ _ _ rfl hr5 Ints_oneCell (by omega) (by omega) hb6 ?_;intro A6 c6 w6 ho6 hg6 _)
      have hX6:=hX5.low ((Below.refl (w.heap.size+1) w5).grown hg6 hb6 (fun g e=>(ho5.lt g e).1)) (by omega) (by intro x hx;simp only [List.mem_cons,List.not_mem_nil,or_false] at hx;rcases hx with rfl | rfl | rfl <;> dsimp only <;> have:=HGP.out <;> omega)
      go_roundg (n-(k+1))
      case measure=>omega
      case rel=>exact ⟨k+1,A6,m+n5,c6,xs++l5,by omega,by go_num,rfl,by rw [Ints_append];exact ho6,by rw [hsk];omega,Lib.hid (by rw [HEn.out,if_neg (by decide)]),hX6⟩
     ·have d3:(E1 != 0)=true:=by simpa using he
      have HF:Hid (E=E1):=Lib.hid (by rw [HEn.out,if_pos he])
      go_wp2_with fail;go_ret2
      rw [HF.out];exact WrdIs.none HS.out.1 hX5.2
    ·obtain rfl:gk=0:=by omega
     obtain rfl:k=n:=by omega
     have d1:decide (((k:Nat):Int)<(k:Nat))=false:=by rw [decide_eq_false_iff_not];omega
     have HF:Hid (E=0):=Lib.hid (by rw [HEk.out,List.drop_of_length_le (by rw [nums_len];omega)];rfl)
     go_wp2_with fail;go_ret2
     rw [HF.out];have h1:=HC.out.1;have h2:=HN.out;rw [← h2] at h1;exact ⟨A9,m,c9,rfl,hXr.2,⟨by rw [h1];exact hm,own_cap ho⟩,fun ad e hn=>(by subst e;rcases ho.2 with ⟨hv,hz⟩ | ⟨g,cap,cur,hv,hbg,-⟩ <;> cases hv;exact Nat.le_of_succ_le hbg),xs,Reads.of_own ho⟩
end
section
open Go.RowKit
theorem Cx.put {w w2:World} {l:List (Addr × Value)} (h:Cx w l w2) (h0:cellsAt w l) {p:Addr} (hp:w.heap.size≤p.block) (v:Value):Cx w l (w2.setCell p v):=by
 refine ⟨?_,h.2.setCell hp v⟩;have h1:=h.1;clear h
 induction l with
 | nil=>trivial
 | cons x r ih =>
  have hlt:=World.block_lt_of_cell? w _ h0.1;exact ⟨(World.cell?_setCell_other w2 p x.1 v (fun e=>by subst e;omega)).trans h1.1,ih h0.2 h1.2⟩
theorem Cx.put2 {w w2:World} {l:List (Addr × Value)} (h:Cx w l w2) {p:Addr} (hl:∀ x∈l,x.1≠p) (hp:w.heap.size≤p.block) (v:Value):Cx w l (w2.setCell p v):=by
 refine ⟨?_,h.2.setCell hp v⟩;have h1:=h.1;clear h
 induction l with
 | nil=>trivial
 | cons x r ih=>exact ⟨(World.cell?_setCell_other w2 p x.1 v (hl x List.mem_cons_self).symm).trans h1.1,ih (fun y hy=>hl y (List.mem_cons_of_mem _ hy)) h1.2⟩
def VarIs (E:Int) (w:World) (e:Ending) (w':World):Prop:=∃ a t A n c,e=.returned (.tuple #[.agg #[.int .u32 a,.int .u32 t,.slice A n c],.int .i64 E])∧Below w.heap.size w w'
theorem var_end {fn:Func} {p q:Tmp} (h:fn.results=#[.cell p 112,.tmp q]) (tmps:Array Value) {W:World} {g:Nat} {a t E:Int} {A:Option Addr} {n c:Nat} (hp:tmps.getD p undef=.pointer (some ⟨g,0,none⟩)) (hq:tmps.getD q undef=.int .i64 E) (k:Blk W g 112 #[.int .u32 a,.int .u32 t,.slice A n c]) :
  (results fn tmps).run Tryz.prog W=.ok (.tuple #[.agg #[.int .u32 a,.int .u32 t,.slice A n c],.int .i64 E]) W:=by
 have ha:(asAddr (.pointer (some ⟨g,0,none⟩))).run Tryz.prog W=.ok ⟨g,0,none⟩ W:=rfl;obtain ⟨z0,z1,z2⟩:=three_ k;have hl:(loadVar 112 ⟨g,0,none⟩).run Tryz.prog W=.ok (.agg #[.int .u32 a,.int .u32 t,.slice A n c]) W:=by go_simp
 rw [results_ct1 h,hp,ha];simp only [Result.andThen_ok];rw [hl,hq];simp only [Result.andThen_ok]
theorem var_put {W:World} {g:Nat} {x0 x1 x2:Value} (k:Blk W g 112 #[x0,x1,x2]) (y0 y1 y2:Value):Blk (((W.setCell ⟨g,0,none⟩ y0).setCell ⟨g,1,none⟩ y1).setCell ⟨g,2,none⟩ y2) g 112 #[y0,y1,y2]:=by
 simpa using ((k.set_ 0 y0).set_ 1 y1).set_ 2 y2
theorem var_below {w W:World} {B g:Nat} (hb:Below B w W) (hg:B≤g) (y0 y1 y2:Value):Below B w (((W.setCell ⟨g,0,none⟩ y0).setCell ⟨g,1,none⟩ y1).setCell ⟨g,2,none⟩ y2):=((hb.setCell (p:=⟨g,0,none⟩) hg _).setCell (p:=⟨g,1,none⟩) hg _).setCell (p:=⟨g,2,none⟩) hg _
theorem holds_any (gp gt:Nat) (T:Int→TyI) (S:Int→SlI) (C:Int→Option Int) (x:InstA) (w:World) (h:PolR w gp gt T S C) (hx:InstOk w w.heap.size x) (hn:1≤x.1.2.2.2.length) :
  Calls Tryz.prog 44 #[.pointer (some ⟨gp,0,none⟩),.agg (instC x)] w (VarIs (varE T C x.1.2.1 (nums x.1.2.2.2)) w):=by
 obtain ⟨⟨op,ty,res,al⟩,A,n,c⟩:=x;have hr:=hx.reads;have hlen:=hx.len;have hl:=hr.args_len;dsimp only at hr hl hlen hn ⊢;have hsz:=h.ty.size;unfold instC;dsimp only;obtain ⟨E,hE⟩:∃ E,varE T C ty (nums al)=E:=⟨_,rfl⟩;rw [hE];unfold varE at hE;rw [nums_len] at hE;obtain ⟨ab,ao,rfl,hab,hac⟩:=hr.args (by omega)
 have a0:=(hac 0 (by omega)).2.1
 have e0:ixn (nums al) 0=(ag al 0).2.1:=nums_getD (by omega)
 simp only [Nat.zero_mul,Nat.add_zero] at a0;rw [e0] at hE;have a1:1<n→w.cell? ⟨ab,ao+4,none⟩=some (.int .u32 (ixn (nums al) 1)):=fun h1=>by
  rw [nums_getD (by omega)]
  exact (hac 1 h1).2.1
 generalize ixn (nums al) 1=n1 at *;generalize (ag al 0).2.1=n0 at *;have kB:=(Blk.new w 42 #[.int .u16 op,.int .u32 ty,.int .u32 res,.slice (some ⟨ab,ao,none⟩) n c]).alloc (.cells #[.int .u32 0,.int .u32 0,.slice none 0 0] 112);have kR:=Blk.new (w.alloc (.cells #[.int .u16 op,.int .u32 ty,.int .u32 res,.slice (some ⟨ab,ao,none⟩) n c] 42)) 112 #[.int .u32 0,.int .u32 0,.slice none 0 0];rw [World.size_alloc] at kR;obtain ⟨z0,z1,z2,z3⟩:=four_ kB;have hb0:=((Below.refl w.heap.size w).alloc (Nat.le_refl _) (.cells #[.int .u16 op,.int .u32 ty,.int .u32 res,.slice (some ⟨ab,ao,none⟩) n c] 42)).alloc (by simp) (.cells #[.int .u32 0,.int .u32 0,.slice none 0 0] 112)
 have hX:Cx w [(⟨gp,0,none⟩,.pointer (some ⟨gt,0,none⟩)),(⟨w.heap.size,1,none⟩,.int .u32 ty),(⟨w.heap.size,3,none⟩,.slice (some ⟨ab,ao,none⟩) n c)] ((w.alloc (.cells #[.int .u16 op,.int .u32 ty,.int .u32 res,.slice (some ⟨ab,ao,none⟩) n c] 42)).alloc (.cells #[.int .u32 0,.int .u32 0,.slice none 0 0] 112)):=⟨⟨(hb0.cell (World.block_lt_of_cell? w _ h.c0)).trans h.c0,z1,z3,trivial⟩,hb0⟩;have hcl:=fun (w':World) (hb:Below w.heap.size w w')=>classM_any _ _ _ ty w' (h.step hb).tab.tab
 have hpt:=fun (w':World) (hb:Below w.heap.size w w')=>partM_any _ _ _ ty 0 w' (h.step hb).tab.tab ((h.step hb).tab.mild ty)
 have hsi:=fun (u:Int) (w':World) (hb:Below w.heap.size w w')=>sizeM_any _ _ _ u w' (h.step hb).tab.tab
 have hof:=fun (id t:Int) (w':World) (hb:Below w.heap.size w w')=>ofc_any gp gt T S C id t w' (h.step hb)
 have ha0:=fun (w':World) (hb:Below w.heap.size w w')=>(hb.cell (p:=⟨ab,ao+1,none⟩) hab).trans a0
 have ha1:=fun (h1:1<n) (w':World) (hb:Below w.heap.size w w')=>(hb.cell (p:=⟨ab,ao+4,none⟩) hab).trans (a1 h1)
 have HA0:=Lib.hid ha0;have HA1:=Lib.hid ha1;have HE:=Lib.hid hE;have HS:=Lib.hid hsz;have HL:=Lib.hid (And.intro hn hl);obtain ⟨pk,hpk⟩:∃ v,((T ty).kind==7)=v:=⟨_,rfl⟩;rw [hpk] at hcl;unfold prt at hE HE;have HPK:=Lib.hid (show (pk=true→(T ty).kind=7)∧(pk=false→(T ty).kind≠7) by rw [← hpk];simp)
 obtain ⟨cl,hcl2⟩:∃ v,(T ty).cls=v:=⟨_,rfl⟩;rw [hcl2] at hcl hE HE;obtain ⟨pt,hpt2⟩:∃ v,partT (T ty) 0=v:=⟨_,rfl⟩;rw [hpt2] at hpt hE HE;obtain ⟨p1,p2⟩:=pt;dsimp only at hpt hE HE;clear h hx hr kB z0 z1 z2 z3 a0 a1 e0 hac hsz hE hpk hcl2 hpt2 ha0 ha1 hb0;go_enter Tryz.func44,Tryz.ntmps44;go_wp2_with fail;refine wp_region_cx (by kernel_rfl) (by kernel_rfl) hX.here ?_
 repeat' first | go_big_quiet_skip | (go_big_quiet_want;apply Exists.intro;refine ⟨fun w' hw'=>?_,?_⟩;(have hc:=hw'.1;simp only [cellsAt] at hc;go_simp;first | done | with_reducible rfl | (go_at_call 79;exact (hcl _ (below_cut hX.2 hw'.2 (Nat.le_refl _))).mono fun e w2 h2=>⟨h2.1,hw'.call h2.2⟩));go_big_quiet_on;(try simp only [Act.put,List.setIfInBounds_toArray,List.set_cons_zero,List.set_cons_succ]))
 refine wpQuiet_nil ?_;intro w1 hW1;have hX1:=hX.call hW1.2;have kR1:=kR.step hW1.2;clear hX hW1 kR hcl;cases pk with
 | false =>
  have HF:Hid (E=100):=Lib.hid (by rw [← HE.out];exact if_pos (HPK.out.2 (by simp)))
  obtain ⟨r0,r1,r2⟩:=three_ kR1;have fz:=kR1.frozen;go_wp2_with fail;exact bodyPost_ret (var_end rfl _ rfl rfl (var_put kR1 (.int .u32 0) (.int .u32 0) (.slice none 0 0))) rfl ⟨0,0,none,0,0,by rw [HF.out],var_below hX1.2 (Nat.le_succ _) _ _ _⟩
 | true =>
  have HE1:Hid (E=if cl≠n0∨(1<al.length∧cl=1) then 112 else if al.length=1 then 0 else heldE C n1 p1):=Lib.hid (by rw [← HE.out,if_neg (fun h=>h (HPK.out.1 (by simp)))])
  clear HE HPK;have a0:=HA0.out w1 hX1.2;obtain ⟨-,-,q3,-⟩:=hX1.1;have hi0:(0:Int)<(n:Nat):=by have:=HL.out;omega
  have kV:=Blk.new w1 112 #[.int .u32 n0,.int .u32 0,.slice none 0 0];have hbV:=(Below.refl w1.heap.size w1).alloc (Nat.le_refl _) (.cells #[.int .u32 n0,.int .u32 0,.slice none 0 0] 112);have hXV:=hX1.here.call hbV;go_wp2_with fail;clear a0 q3 HA0;refine wp_region_held_drew (S:=Cx w1 [(⟨gp,0,none⟩,.pointer (some ⟨gt,0,none⟩)),(⟨w.heap.size,1,none⟩,.int .u32 ty),(⟨w.heap.size,3,none⟩,.slice (some ⟨ab,ao,none⟩) n c)]) (by kernel_rfl) hXV.drew_ (fun hHeld=>?_)
  refine wpAnyH_take (i:=0) (oi:=_) (v:=?_) rfl (by kernel_rfl) (by kernel_rfl) (by kernel_rfl) (fun _ _ _ h=>h) (Or.inl ⟨by rfl,?_⟩) hHeld ?_
  rotate_left
  ·intro w' hSw;have hc:=hSw.1;simp only [cellsAt] at hc;go_simp
   try with_reducible rfl
  (try simp only [Act.put,List.setIfInBounds_toArray,List.set_cons_zero,List.set_cons_succ,List.getElem_toArray,List.getElem_cons_zero])
  refine wpAnyH_take (i:=1) (oi:=_) (v:=?_) rfl (by kernel_rfl) (by kernel_rfl) (by kernel_rfl) (fun _ _ _ h=>h) (Or.inl ⟨by rfl,?_⟩) hHeld ?_
  rotate_left
  ·intro w' hSw;have hc:=hSw.1;simp only [cellsAt] at hc;go_simp
   try with_reducible rfl
  (try simp only [Act.put,List.setIfInBounds_toArray,List.set_cons_zero,List.set_cons_succ,List.getElem_toArray,List.getElem_cons_succ,List.getElem_cons_zero])
  refine wpAnyH_take (i:=2) (oi:=_) (v:=?_) rfl (by kernel_rfl) (by kernel_rfl) (by kernel_rfl) (fun _ _ _ h=>h) (Or.inl ⟨by rfl,?_⟩) hHeld ?_
  rotate_left
  ·intro w' hSw;have hc:=hSw.1;simp only [cellsAt] at hc;go_simp
   try with_reducible rfl
  (try simp only [Act.put,List.setIfInBounds_toArray,List.set_cons_zero,List.set_cons_succ,List.getElem_toArray,List.getElem_cons_succ,List.getElem_cons_zero])
  refine wpAnyH_take (i:=3) (oi:=_) (v:=?_) rfl (by kernel_rfl) (by kernel_rfl) (by kernel_rfl) (fun _ _ _ h=>h) (Or.inl ⟨by rfl,?_⟩) hHeld ?_
  rotate_left
  ·intro w' hSw;have hc:=hSw.1;simp only [cellsAt] at hc;go_simp
   try with_reducible rfl
  (try simp only [Act.put,List.setIfInBounds_toArray,List.set_cons_zero,List.set_cons_succ,List.getElem_toArray,List.getElem_cons_succ,List.getElem_cons_zero])
  refine wpAnyH_take (i:=4) (oi:=_) (v:=?_) rfl (by kernel_rfl) (by kernel_rfl) (by kernel_rfl) (fun _ _ _ h=>h) (Or.inl ⟨by rfl,?_⟩) hHeld ?_
  rotate_left
  ·intro w' hSw;have hc:=hSw.1;simp only [cellsAt] at hc;go_simp
   try with_reducible rfl
  (try simp only [Act.put,List.setIfInBounds_toArray,List.set_cons_zero,List.set_cons_succ,List.getElem_toArray,List.getElem_cons_succ,List.getElem_cons_zero])
  refine wpAnyH_take (i:=5) (oi:=_) (v:=?_) rfl (by kernel_rfl) (by kernel_rfl) (by kernel_rfl) (fun _ _ _ h=>h) (Or.inl ⟨by rfl,?_⟩) hHeld ?_
  rotate_left
  ·intro w' hSw;have hc:=hSw.1;simp only [cellsAt] at hc;go_simp
   try with_reducible rfl
  (try simp only [Act.put,List.setIfInBounds_toArray,List.set_cons_zero,List.set_cons_succ,List.getElem_toArray,List.getElem_cons_succ,List.getElem_cons_zero])
  refine wpAnyH_ready (rs:=[6]) (by kernel_rfl) (by simp) ?_
  refine AllReadyH.cons (o:=_) rfl (fun K hK=>?_) AllReadyH.nil
  go_simp
  go_at_call 31
  refine (hpt _ (below_cut hX1.2 hHeld.2 (Nat.le_refl _))).mono ?_;rintro e w2 ⟨rfl,hb2⟩
  (try go_wp2_with fail)
  have hHeld2:=hHeld.call hb2;refine hK.out _ _ hHeld2 (fun hHeld=>?_)
  clear hK K hHeld2
  (try simp only [Act.put,List.setIfInBounds_toArray,List.set_cons_zero,List.set_cons_succ,List.getElem_toArray,List.getElem_cons_succ,List.getElem_cons_zero])
  refine wpAnyH_take (i:=7) (oi:=_) (v:=?_) rfl (by kernel_rfl) (by kernel_rfl) (by kernel_rfl) (fun _ _ _ h=>h) (Or.inl ⟨by rfl,?_⟩) hHeld ?_
  rotate_left
  ·intro w' hSw;have hc:=hSw.1;simp only [cellsAt] at hc;go_simp
   try with_reducible rfl
  (try simp only [Act.put,List.setIfInBounds_toArray,List.set_cons_zero,List.set_cons_succ,List.getElem_toArray,List.getElem_cons_succ,List.getElem_cons_zero])
  refine wpAnyH_take (i:=8) (oi:=_) (v:=?_) rfl (by kernel_rfl) (by kernel_rfl) (by kernel_rfl) (fun _ _ _ h=>h) (Or.inl ⟨by rfl,?_⟩) hHeld ?_
  rotate_left
  ·intro w' hSw;have hc:=hSw.1;simp only [cellsAt] at hc;go_simp
   try with_reducible rfl
  (try simp only [Act.put,List.setIfInBounds_toArray,List.set_cons_zero,List.set_cons_succ,List.getElem_toArray,List.getElem_cons_succ,List.getElem_cons_zero])
  refine wpAnyH_take (i:=9) (oi:=_) (v:=?_) rfl (by kernel_rfl) (by kernel_rfl) (by kernel_rfl) (fun _ _ _ h=>h) (Or.inl ⟨by rfl,?_⟩) hHeld ?_
  rotate_left
  ·intro w' hSw;have hc:=hSw.1;simp only [cellsAt] at hc;go_simp
   try with_reducible rfl
  (try simp only [Act.put,List.setIfInBounds_toArray,List.set_cons_zero,List.set_cons_succ,List.getElem_toArray,List.getElem_cons_succ,List.getElem_cons_zero])
  refine wpAnyH_take (i:=10) (oi:=_) (v:=?_) rfl (by kernel_rfl) (by kernel_rfl) (by kernel_rfl) (fun _ _ _ h=>h) (Or.inl ⟨by rfl,?_⟩) hHeld ?_
  rotate_left
  ·intro w' hSw;have hc:=hSw.1;simp only [cellsAt] at hc;go_simp
   try with_reducible rfl
  (try simp only [Act.put,List.setIfInBounds_toArray,List.set_cons_zero,List.set_cons_succ,List.getElem_toArray,List.getElem_cons_succ,List.getElem_cons_zero])
  refine wpAnyH_take (i:=11) (oi:=_) (v:=?_) rfl (by kernel_rfl) (by kernel_rfl) (by kernel_rfl) (fun _ _ _ h=>h) (Or.inl ⟨by rfl,?_⟩) hHeld ?_
  rotate_left
  ·intro w' hSw;have hc:=hSw.1;simp only [cellsAt] at hc;go_simp
   try with_reducible rfl
  (try simp only [Act.put,List.setIfInBounds_toArray,List.set_cons_zero,List.set_cons_succ,List.getElem_toArray,List.getElem_cons_succ,List.getElem_cons_zero])
  refine wpAnyH_ready (rs:=[12]) (by kernel_rfl) (by simp) ?_
  refine AllReadyH.cons (o:=_) rfl (fun K hK=>?_) AllReadyH.nil
  have kV2:=kV.drew.step hb2;obtain ⟨y0,y1,y2⟩:=three_ kV2;have fz:=kV2.frozen 1;go_simp
  have hHeld2:=Cx.put (w:=w1) hHeld hX1.1 (p:=⟨w1.heap.size,1,none⟩) (Nat.le_refl _) (.int .u32 p1);refine hK.out _ _ hHeld2 (fun hHeld=>?_)
  clear hK K hHeld2
  (try simp only [Act.put,List.setIfInBounds_toArray,List.set_cons_zero,List.set_cons_succ,List.getElem_toArray,List.getElem_cons_succ,List.getElem_cons_zero])
  refine wpAnyH_done (by kernel_rfl) ?_ _
  have kV3:Blk (w2.setCell ⟨w1.heap.size,1,none⟩ (.int .u32 p1)) w1.heap.size 112 #[.int .u32 n0,.int .u32 p1,.slice none 0 0]:=by simpa using kV2.set_ 1 (.int .u32 p1)
  have kR3:=kR1.step hHeld.2;have hX3:=hX1.call hHeld.2;have hWV:=hHeld.2;have hX1s:=hX1.2.size;have HX1:=Lib.hid hX1;have hr1:w.heap.size+1<w1.heap.size:=World.block_lt_of_cell? _ _ (three_ kR1).1;clear kV hbV hXV hHeld kV2 y0 y1 y2 fz hb2 hX1;generalize w2.setCell ⟨w1.heap.size,1,none⟩ (.int .u32 p1)=W at kV3 kR3 hX3 hWV ⊢;obtain ⟨y0,y1,y2⟩:=three_ kV3;obtain ⟨r0,r1,r2⟩:=three_ kR3;have fz:=kR3.frozen;have fv:=kV3.frozen;obtain ⟨q0,-,q3,-⟩:=hX3.1;dsimp only at q0 q3;obtain ⟨b1,hb1⟩:∃ v,(cl != n0)=v:=⟨_,rfl⟩;obtain ⟨b2,hb2⟩:∃ v,decide ((1:Int)<(n:Nat))=v:=⟨_,rfl⟩;obtain ⟨b3,hb3⟩:∃ v,(cl==1)=v:=⟨_,rfl⟩;obtain ⟨b4,hb4⟩:∃ v,(((n:Nat):Int)==1)=v:=⟨_,rfl⟩;have hE2:E=if b1=true∨(b2=true∧b3=true) then 112 else if b4=true then 0 else heldE C n1 p1:=by
   rw [HE1.out,← hb1,← hb2,← hb3,← hb4,hl];have e1:((cl != n0)=true)=(cl≠n0):=by simp
   have e2:(decide ((1:Int)<(n:Nat))=true)=(1<n):=by rw [decide_eq_true_eq];exact propext (by omega)
   have e3:((cl==1)=true)=(cl=1):=by simp
   have e4:((((n:Nat):Int)==1)=true)=(n=1):=by rw [beq_iff_eq];exact propext (by omega)
   simp only [e1,e2,e3,e4]
  have hN:(b2=true→1<n∧b4=false)∧(b2=false→b4=true):=by
   rw [← hb2,← hb4,decide_eq_true_eq,decide_eq_false_iff_not,beq_iff_eq,beq_eq_false_iff_ne];omega
  have HE2:=Lib.hid hE2;have HN:=Lib.hid hN;clear hE2 hN HE1 hn hl hlen hab;cases b1 with
  | true =>
   have HF:Hid (E=112):=Lib.hid (by rw [HE2.out,if_pos (.inl rfl)])
   clear HE2;go_wp2_with fail;exact bodyPost_ret (var_end rfl _ rfl rfl (var_put kR3 (.int .u32 0) (.int .u32 0) (.slice none 0 0))) rfl ⟨0,0,none,0,0,by rw [HF.out],var_below hX3.2 (Nat.le_succ _) _ _ _⟩
  | false =>
   cases b2 with
   | false =>
    have h4:=HN.out.2 rfl;have HF:Hid (E=0):=Lib.hid (by rw [HE2.out,h4];rfl)
    rw [h4] at hb4;clear HE2 h4;have hz0:=(HS.out p1).1;obtain ⟨z,hz⟩:∃ z:Nat,(T p1).size=(z:Int):=⟨(T p1).size.toNat,by omega⟩
    have HZ:=Lib.hid (And.intro hz (HS.out p1));have hsz:=hsi p1;rw [hz] at hsz;have HX:=Lib.hid hX3;have HK:=Lib.hid kR1;clear hz0 hz HA1 hof hX3 kR1 hsi;go_wp2_with fail;have hX4:Cx w1 [(⟨gp,0,none⟩,.pointer (some ⟨gt,0,none⟩)),(⟨w1.heap.size,1,none⟩,.int .u32 p1)] W:=⟨⟨q0,y1,trivial⟩,hWV⟩;have HV:=Lib.hid kV3;clear r0 r1 r2 y0 y1 y2 fz fv q0 q3 kR3 kV3;refine wp_region_held_drew (S:=Cx w1 [(⟨gp,0,none⟩,.pointer (some ⟨gt,0,none⟩)),(⟨w1.heap.size,1,none⟩,.int .u32 p1)]) (by kernel_rfl) hX4.drew_ (fun hHeld=>?_)
    refine wpAnyH_take (i:=0) (oi:=_) (v:=?_) rfl (by kernel_rfl) (by kernel_rfl) (by kernel_rfl) (fun _ _ _ h=>h) (Or.inl ⟨by rfl,?_⟩) hHeld ?_
    rotate_left
    ·intro w' hSw;have hc:=hSw.1;simp only [cellsAt] at hc;go_simp
     try with_reducible rfl
    (try simp only [Act.put,List.setIfInBounds_toArray,List.set_cons_zero,List.set_cons_succ,List.getElem_toArray,List.getElem_cons_zero])
    refine wpAnyH_take (i:=1) (oi:=_) (v:=?_) rfl (by kernel_rfl) (by kernel_rfl) (by kernel_rfl) (fun _ _ _ h=>h) (Or.inl ⟨by rfl,?_⟩) hHeld ?_
    rotate_left
    ·intro w' hSw;have hc:=hSw.1;simp only [cellsAt] at hc;go_simp
     try with_reducible rfl
    (try simp only [Act.put,List.setIfInBounds_toArray,List.set_cons_zero,List.set_cons_succ,List.getElem_toArray,List.getElem_cons_succ,List.getElem_cons_zero])
    refine wpAnyH_take (i:=2) (oi:=_) (v:=?_) rfl (by kernel_rfl) (by kernel_rfl) (by kernel_rfl) (fun _ _ _ h=>h) (Or.inl ⟨by rfl,?_⟩) hHeld ?_
    rotate_left
    ·intro w' hSw;have hc:=hSw.1;simp only [cellsAt] at hc;go_simp
     try with_reducible rfl
    (try simp only [Act.put,List.setIfInBounds_toArray,List.set_cons_zero,List.set_cons_succ,List.getElem_toArray,List.getElem_cons_succ,List.getElem_cons_zero])
    refine wpAnyH_take (i:=3) (oi:=_) (v:=?_) rfl (by kernel_rfl) (by kernel_rfl) (by kernel_rfl) (fun _ _ _ h=>h) (Or.inl ⟨by rfl,?_⟩) hHeld ?_
    rotate_left
    ·intro w' hSw;have hc:=hSw.1;simp only [cellsAt] at hc;go_simp
     try with_reducible rfl
    (try simp only [Act.put,List.setIfInBounds_toArray,List.set_cons_zero,List.set_cons_succ,List.getElem_toArray,List.getElem_cons_succ,List.getElem_cons_zero])
    refine wpAnyH_take (i:=4) (oi:=_) (v:=?_) rfl (by kernel_rfl) (by kernel_rfl) (by kernel_rfl) (fun _ _ _ h=>h) (Or.inl ⟨by rfl,?_⟩) hHeld ?_
    rotate_left
    ·intro w' hSw;have hc:=hSw.1;simp only [cellsAt] at hc;go_simp
     try with_reducible rfl
    (try simp only [Act.put,List.setIfInBounds_toArray,List.set_cons_zero,List.set_cons_succ,List.getElem_toArray,List.getElem_cons_succ,List.getElem_cons_zero])
    refine wpAnyH_take (i:=5) (oi:=_) (v:=?_) rfl (by kernel_rfl) (by kernel_rfl) (by kernel_rfl) (fun _ _ _ h=>h) (Or.inl ⟨by rfl,?_⟩) hHeld ?_
    rotate_left
    ·intro w' hSw;have hc:=hSw.1;simp only [cellsAt] at hc;go_simp
     try with_reducible rfl
    (try simp only [Act.put,List.setIfInBounds_toArray,List.set_cons_zero,List.set_cons_succ,List.getElem_toArray,List.getElem_cons_succ,List.getElem_cons_zero])
    refine wpAnyH_take (i:=6) (oi:=_) (v:=?_) rfl (by kernel_rfl) (by kernel_rfl) (by kernel_rfl) (fun _ _ _ h=>h) (Or.inl ⟨by rfl,?_⟩) hHeld ?_
    rotate_left
    ·intro w' hSw;have hc:=hSw.1;simp only [cellsAt] at hc;go_simp
     try with_reducible rfl
    (try simp only [Act.put,List.setIfInBounds_toArray,List.set_cons_zero,List.set_cons_succ,List.getElem_toArray,List.getElem_cons_succ,List.getElem_cons_zero])
    refine wpAnyH_ready (rs:=[7]) (by kernel_rfl) (by simp) ?_
    refine AllReadyH.cons (o:=_) rfl (fun K hK=>?_) AllReadyH.nil
    go_simp
    go_at_call 16
    refine (hsz _ (below_cut HX1.out.2 hHeld.2 (Nat.le_refl _))).mono ?_;rintro e w4 ⟨rfl,hb5⟩
    (try go_wp2_with fail)
    have hHeld2:=hHeld.call hb5;refine hK.out _ _ hHeld2 (fun hHeld=>?_)
    clear hK K hHeld2
    (try simp only [Act.put,List.setIfInBounds_toArray,List.set_cons_zero,List.set_cons_succ,List.getElem_toArray,List.getElem_cons_succ,List.getElem_cons_zero])
    refine wpAnyH_ready (rs:=[8]) (by kernel_rfl) (by simp) ?_
    refine AllReadyH.cons (o:=_) rfl (fun K hK=>?_) AllReadyH.nil
    have hs1:=hHeld.2.size;rw [if_pos (by rfl)]
    refine op_mk sl32 rfl _ _ _ rfl w1.heap.size z rfl rfl (by have:=HZ.out.2.2.2;have:=HZ.out.1;omega) (by have:=HZ.out.2.2.2;have:=HZ.out.1;omega) hs1 ?_
    intro w5 hown hgr;have hHeld2:=hHeld.call (grown_none hgr);refine hK.out _ _ hHeld2 (fun hHeld=>?_)
    clear hK K hHeld2
    (try simp only [Act.put,List.setIfInBounds_toArray,List.set_cons_zero,List.set_cons_succ,List.getElem_toArray,List.getElem_cons_succ,List.getElem_cons_zero])
    refine wpAnyH_take (i:=9) (oi:=_) (v:=?_) rfl (by kernel_rfl) (by kernel_rfl) (by kernel_rfl) (fun _ _ _ h=>h) (Or.inl ⟨by rfl,?_⟩) hHeld ?_
    rotate_left
    ·intro w' hSw;have hc:=hSw.1;simp only [cellsAt] at hc;go_simp
     try with_reducible rfl
    (try simp only [Act.put,List.setIfInBounds_toArray,List.set_cons_zero,List.set_cons_succ,List.getElem_toArray,List.getElem_cons_succ,List.getElem_cons_zero])
    refine wpAnyH_take (i:=10) (oi:=_) (v:=?_) rfl (by kernel_rfl) (by kernel_rfl) (by kernel_rfl) (fun _ _ _ h=>h) (Or.inl ⟨by rfl,?_⟩) hHeld ?_
    rotate_left
    ·intro w' hSw;have hc:=hSw.1;simp only [cellsAt] at hc;go_simp
     try with_reducible rfl
    (try simp only [Act.put,List.setIfInBounds_toArray,List.set_cons_zero,List.set_cons_succ,List.getElem_toArray,List.getElem_cons_succ,List.getElem_cons_zero])
    refine wpAnyH_ready (rs:=[11]) (by kernel_rfl) (by simp) ?_
    refine AllReadyH.cons (o:=_) rfl (fun K hK=>?_) AllReadyH.nil
    have kV5:=(HV.out.drew.step hb5).step (grown_none hgr);obtain ⟨y0,y1,y2⟩:=three_ kV5;have fz:=kV5.frozen 2;go_simp
    have hHeld2:=Cx.put2 hHeld (p:=⟨w1.heap.size,2,none⟩) (by intro x hx;simp only [List.mem_cons,List.not_mem_nil,or_false] at hx;rcases hx with rfl | rfl <;> simp) (Nat.le_refl _) (.slice (some ⟨w4.heap.size,0,none⟩) z z)
    refine hK.out _ _ hHeld2 (fun hHeld=>?_)
    clear hK K hHeld2
    (try simp only [Act.put,List.setIfInBounds_toArray,List.set_cons_zero,List.set_cons_succ,List.getElem_toArray,List.getElem_cons_succ,List.getElem_cons_zero])
    refine wpAnyH_done (by kernel_rfl) ?_ _
    have kV9:Blk (w5.setCell ⟨w1.heap.size,2,none⟩ (.slice (some ⟨w4.heap.size,0,none⟩) z z)) w1.heap.size 112 #[.int .u32 n0,.int .u32 p1,.slice (some ⟨w4.heap.size,0,none⟩) z z]:=by simpa using kV5.set_ 2 (.slice (some ⟨w4.heap.size,0,none⟩) z z)
    have kR9:=HK.out.step hHeld.2;have hW9:=below_cut HX1.out.2 hHeld.2 (Nat.le_refl _);have hvr:w.heap.size+1≠w1.heap.size:=by omega
    clear hHeld kV5 hX4 hown;generalize w5.setCell ⟨w1.heap.size,2,none⟩ (.slice (some ⟨w4.heap.size,0,none⟩) z z)=W9 at kV9 kR9 hW9 ⊢;obtain ⟨y0,y1,y2⟩:=three_ kV9;obtain ⟨r0,r1,r2⟩:=three_ kR9;have fz:=kR9.frozen;go_wp2_with fail;exact bodyPost_ret (var_end rfl _ rfl rfl (var_put kR9 (.int .u32 n0) (.int .u32 p1) (.slice (some ⟨w4.heap.size,0,none⟩) z z))) rfl ⟨n0,p1,some ⟨w4.heap.size,0,none⟩,z,z,by rw [HF.out],var_below hW9 (Nat.le_succ _) _ _ _⟩
   | true =>
    have h4:=(HN.out.1 rfl).2;have h1n:=(HN.out.1 rfl).1;rw [h4] at hb4;cases b3 with
    | true =>
     have HF:Hid (E=112):=Lib.hid (by rw [HE2.out,if_pos (.inr ⟨rfl,rfl⟩)])
     clear HE2 h4;go_wp2_with fail;exact bodyPost_ret (var_end rfl _ rfl rfl (var_put kR3 (.int .u32 0) (.int .u32 0) (.slice none 0 0))) rfl ⟨0,0,none,0,0,by rw [HF.out],var_below hX3.2 (Nat.le_succ _) _ _ _⟩
    | false =>
     have HF:Hid (E=heldE C n1 p1):=Lib.hid (by rw [HE2.out,h4];rfl)
     clear HE2 h4;have a1:=HA1.out h1n W hX3.2;have hi1:(1:Int)<(n:Nat):=by omega
     have hof1:=hof n1 p1;unfold HelIs at hof1;generalize heldE C n1 p1=E1 at hof1 HF;have HX:=Lib.hid hX3;clear hof hsi HA1;go_wp2_with fail;have hX4:Cx W [(⟨w.heap.size,3,none⟩,.slice (some ⟨ab,ao,none⟩) n c),(⟨ab,ao+4,none⟩,.int .u32 n1),(⟨w1.heap.size,1,none⟩,.int .u32 p1)] W:=⟨⟨q3,a1,y1,trivial⟩,Below.refl _ _⟩;have HV:=Lib.hid kV3;have HR:=Lib.hid kR3;clear r0 r1 r2 y0 y1 y2 fz fv q0 q3 kR3 kV3 a1 hX3;refine wp_region_held_drew (S:=Cx W [(⟨w.heap.size,3,none⟩,.slice (some ⟨ab,ao,none⟩) n c),(⟨ab,ao+4,none⟩,.int .u32 n1),(⟨w1.heap.size,1,none⟩,.int .u32 p1)]) (by kernel_rfl) hX4.drew_ (fun hHeld=>?_)
     refine wpAnyH_take (i:=0) (oi:=_) (v:=?_) rfl (by kernel_rfl) (by kernel_rfl) (by kernel_rfl) (fun _ _ _ h=>h) (Or.inl ⟨by rfl,?_⟩) hHeld ?_
     rotate_left
     ·intro w' hSw;have hc:=hSw.1;simp only [cellsAt] at hc;go_simp
      try with_reducible rfl
     (try simp only [Act.put,List.setIfInBounds_toArray,List.set_cons_zero,List.set_cons_succ,List.getElem_toArray,List.getElem_cons_zero])
     refine wpAnyH_take (i:=1) (oi:=_) (v:=?_) rfl (by kernel_rfl) (by kernel_rfl) (by kernel_rfl) (fun _ _ _ h=>h) (Or.inl ⟨by rfl,?_⟩) hHeld ?_
     rotate_left
     ·intro w' hSw;have hc:=hSw.1;simp only [cellsAt] at hc;go_simp
      try with_reducible rfl
     (try simp only [Act.put,List.setIfInBounds_toArray,List.set_cons_zero,List.set_cons_succ,List.getElem_toArray,List.getElem_cons_succ,List.getElem_cons_zero])
     refine wpAnyH_take (i:=2) (oi:=_) (v:=?_) rfl (by kernel_rfl) (by kernel_rfl) (by kernel_rfl) (fun _ _ _ h=>h) (Or.inl ⟨by rfl,?_⟩) hHeld ?_
     rotate_left
     ·intro w' hSw;have hc:=hSw.1;simp only [cellsAt] at hc;go_simp
      try with_reducible rfl
     (try simp only [Act.put,List.setIfInBounds_toArray,List.set_cons_zero,List.set_cons_succ,List.getElem_toArray,List.getElem_cons_succ,List.getElem_cons_zero])
     refine wpAnyH_take (i:=3) (oi:=_) (v:=?_) rfl (by kernel_rfl) (by kernel_rfl) (by kernel_rfl) (fun _ _ _ h=>h) (Or.inl ⟨by rfl,?_⟩) hHeld ?_
     rotate_left
     ·intro w' hSw;have hc:=hSw.1;simp only [cellsAt] at hc;go_simp
      try with_reducible rfl
     (try simp only [Act.put,List.setIfInBounds_toArray,List.set_cons_zero,List.set_cons_succ,List.getElem_toArray,List.getElem_cons_succ,List.getElem_cons_zero])
     refine wpAnyH_take (i:=4) (oi:=_) (v:=?_) rfl (by kernel_rfl) (by kernel_rfl) (by kernel_rfl) (fun _ _ _ h=>h) (Or.inl ⟨by rfl,?_⟩) hHeld ?_
     rotate_left
     ·intro w' hSw;have hc:=hSw.1;simp only [cellsAt] at hc;go_simp
      try with_reducible rfl
     (try simp only [Act.put,List.setIfInBounds_toArray,List.set_cons_zero,List.set_cons_succ,List.getElem_toArray,List.getElem_cons_succ,List.getElem_cons_zero])
     refine wpAnyH_take (i:=5) (oi:=_) (v:=?_) rfl (by kernel_rfl) (by kernel_rfl) (by kernel_rfl) (fun _ _ _ h=>h) (Or.inl ⟨by rfl,?_⟩) hHeld ?_
     rotate_left
     ·intro w' hSw;have hc:=hSw.1;simp only [cellsAt] at hc;go_simp
      try with_reducible rfl
     (try simp only [Act.put,List.setIfInBounds_toArray,List.set_cons_zero,List.set_cons_succ,List.getElem_toArray,List.getElem_cons_succ,List.getElem_cons_zero])
     refine wpAnyH_take (i:=6) (oi:=_) (v:=?_) rfl (by kernel_rfl) (by kernel_rfl) (by kernel_rfl) (fun _ _ _ h=>h) (Or.inl ⟨by rfl,?_⟩) hHeld ?_
     rotate_left
     ·intro w' hSw;have hc:=hSw.1;simp only [cellsAt] at hc;go_simp
      try with_reducible rfl
     (try simp only [Act.put,List.setIfInBounds_toArray,List.set_cons_zero,List.set_cons_succ,List.getElem_toArray,List.getElem_cons_succ,List.getElem_cons_zero])
     refine wpAnyH_take (i:=7) (oi:=_) (v:=?_) rfl (by kernel_rfl) (by kernel_rfl) (by kernel_rfl) (fun _ _ _ h=>h) (Or.inl ⟨by rfl,?_⟩) hHeld ?_
     rotate_left
     ·intro w' hSw;have hc:=hSw.1;simp only [cellsAt] at hc;go_simp
      try with_reducible rfl
     (try simp only [Act.put,List.setIfInBounds_toArray,List.set_cons_zero,List.set_cons_succ,List.getElem_toArray,List.getElem_cons_succ,List.getElem_cons_zero])
     refine wpAnyH_take (i:=8) (oi:=_) (v:=?_) rfl (by kernel_rfl) (by kernel_rfl) (by kernel_rfl) (fun _ _ _ h=>h) (Or.inl ⟨by rfl,?_⟩) hHeld ?_
     rotate_left
     ·intro w' hSw;have hc:=hSw.1;simp only [cellsAt] at hc;go_simp
      try with_reducible rfl
     (try simp only [Act.put,List.setIfInBounds_toArray,List.set_cons_zero,List.set_cons_succ,List.getElem_toArray,List.getElem_cons_succ,List.getElem_cons_zero])
     refine wpAnyH_ready (rs:=[9]) (by kernel_rfl) (by simp) ?_
     refine AllReadyH.cons (o:=_) rfl (fun K hK=>?_) AllReadyH.nil
     go_simp
     go_at_call 78
     refine (hof1 _ (below_cut HX.out.2 hHeld.2 (Nat.le_refl _))).mono ?_;rintro e w4 ⟨A5,n5,c5,rfl,hb5,-⟩
     (try go_wp2_with fail)
     have hHeld2:=hHeld.call hb5;refine hK.out _ _ hHeld2 (fun hHeld=>?_)
     clear hK K hHeld2
     (try simp only [Act.put,List.setIfInBounds_toArray,List.set_cons_zero,List.set_cons_succ,List.getElem_toArray,List.getElem_cons_succ,List.getElem_cons_zero])
     refine wpAnyH_take (i:=10) (oi:=_) (v:=?_) rfl (by kernel_rfl) (by kernel_rfl) (by kernel_rfl) (fun _ _ _ h=>h) (Or.inl ⟨by rfl,?_⟩) hHeld ?_
     rotate_left
     ·intro w' hSw;have hc:=hSw.1;simp only [cellsAt] at hc;go_simp
      try with_reducible rfl
     (try simp only [Act.put,List.setIfInBounds_toArray,List.set_cons_zero,List.set_cons_succ,List.getElem_toArray,List.getElem_cons_succ,List.getElem_cons_zero])
     refine wpAnyH_take (i:=11) (oi:=_) (v:=?_) rfl (by kernel_rfl) (by kernel_rfl) (by kernel_rfl) (fun _ _ _ h=>h) (Or.inl ⟨by rfl,?_⟩) hHeld ?_
     rotate_left
     ·intro w' hSw;have hc:=hSw.1;simp only [cellsAt] at hc;go_simp
      try with_reducible rfl
     (try simp only [Act.put,List.setIfInBounds_toArray,List.set_cons_zero,List.set_cons_succ,List.getElem_toArray,List.getElem_cons_succ,List.getElem_cons_zero])
     refine wpAnyH_take (i:=12) (oi:=_) (v:=?_) rfl (by kernel_rfl) (by kernel_rfl) (by kernel_rfl) (fun _ _ _ h=>h) (Or.inl ⟨by rfl,?_⟩) hHeld ?_
     rotate_left
     ·intro w' hSw;have hc:=hSw.1;simp only [cellsAt] at hc;go_simp
      try with_reducible rfl
     (try simp only [Act.put,List.setIfInBounds_toArray,List.set_cons_zero,List.set_cons_succ,List.getElem_toArray,List.getElem_cons_succ,List.getElem_cons_zero])
     refine wpAnyH_take (i:=13) (oi:=_) (v:=?_) rfl (by kernel_rfl) (by kernel_rfl) (by kernel_rfl) (fun _ _ _ h=>h) (Or.inl ⟨by rfl,?_⟩) hHeld ?_
     rotate_left
     ·intro w' hSw;have hc:=hSw.1;simp only [cellsAt] at hc;go_simp
      try with_reducible rfl
     (try simp only [Act.put,List.setIfInBounds_toArray,List.set_cons_zero,List.set_cons_succ,List.getElem_toArray,List.getElem_cons_succ,List.getElem_cons_zero])
     refine wpAnyH_take (i:=14) (oi:=_) (v:=?_) rfl (by kernel_rfl) (by kernel_rfl) (by kernel_rfl) (fun _ _ _ h=>h) (Or.inl ⟨by rfl,?_⟩) hHeld ?_
     rotate_left
     ·intro w' hSw;have hc:=hSw.1;simp only [cellsAt] at hc;go_simp
      try with_reducible rfl
     (try simp only [Act.put,List.setIfInBounds_toArray,List.set_cons_zero,List.set_cons_succ,List.getElem_toArray,List.getElem_cons_succ,List.getElem_cons_zero])
     refine wpAnyH_done (by kernel_rfl) ?_ _
     have kV4:=HV.out.step hHeld.2;have kR4:=HR.out.step hHeld.2;have hW4:=below_cut HX.out.2 hHeld.2 (Nat.le_refl _);have hs1:=hX1s;have kR9:=kR4.far (p:=⟨w1.heap.size,2,none⟩) (show w.heap.size+1≠w1.heap.size by omega) (.slice A5 n5 c5)
     have hW9:=hW4.setCell (p:=⟨w1.heap.size,2,none⟩) (show w.heap.size≤w1.heap.size by omega) (.slice A5 n5 c5)
     have kV9:Blk (w4.setCell ⟨w1.heap.size,2,none⟩ (.slice A5 n5 c5)) w1.heap.size 112 #[.int .u32 n0,.int .u32 p1,.slice A5 n5 c5]:=by simpa using kV4.set_ 2 (.slice A5 n5 c5)
     have fv:=kV4.frozen 2;obtain ⟨v0,v1,v2⟩:=three_ kV4;obtain ⟨y0,y1,y2⟩:=three_ kV9;obtain ⟨r0,r1,r2⟩:=three_ kR9;have fz:=kR9.frozen;go_wp2_with fail;exact bodyPost_ret (var_end rfl _ rfl rfl (var_put kR9 (.int .u32 n0) (.int .u32 p1) (.slice A5 n5 c5))) rfl ⟨n0,p1,A5,n5,c5,by rw [HF.out],var_below hW9 (Nat.le_succ _) _ _ _⟩
end
end Go.Proofs.YtdebjkiilnhgpaaGreatDoor
