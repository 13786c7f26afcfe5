/- Words: a table of types as a map; walks: plain, whole. -/
import Derived.Test.YtdebjkiilnhgpaaGreatDoorCTH
import Derived.Test.YtdebjkiilnhgpaaGreatDoorCTI
import Derived.Test.YtdebjkiilnhgpaaGreatDoorCTN
import Derived.BigQuiet
set_option maxRecDepth 100000
set_option maxHeartbeats 4000000
namespace Go.Proofs.YtdebjkiilnhgpaaGreatDoor
section
open Go.RowKit
abbrev SlI:=Option Addr × Nat × Nat
def sl0:SlI:=(none,0,0)
def tyV (x:TyI) (s:SlI):Array Value:=#[.int .u8 x.kind,.int .i64 x.size,.int .i64 x.depth,.bool x.signed,.int .u32 x.cls,.int .u32 x.part,.int .i64 x.times,.slice s.1 s.2.1 s.2.2]
theorem zero_ty (w:World):(zeroValue 89).run Tryz.prog w=.ok (.agg (tyV ty0 sl0)) w:=by kernel_rfl
structure TabM (w:World) (B bm:Nat) (T:Int→TyI) (S:Int→SlI):Prop where
 mp:∃ (cnt:Nat) (has:Int→Bool),MapU w bm cnt (fun id=>if has id=true then some (.agg (tyV (T id) (S id))) else none)∧∀ id,has id=false→T id=ty0∧S id=sl0
 reads:∀ id,Reads w B 1 (S id).1 (S id).2.1 (Ints .u32 (T id).parts)
 size:∀ id,0≤(T id).size∧(T id).size≤4096
 depth:∀ id,0≤(T id).depth∧(T id).depth≤16
section
variable {w w':World} {B bm:Nat} {T:Int→TyI} {S:Int→SlI}
theorem TabM.look (h:TabM w B bm T S) (id:Int):(Instr.lookup 80 (.map (some bm)) (.int .u32 id) false).run Tryz.prog w=.ok (.agg (tyV (T id) (S id))) w:=by
 obtain ⟨cnt,has,hm,h0⟩:=h.mp;have:=hm.look (P:=Tryz.prog) Tryz.underlying80 Tryz.underlying22 (zero_ty w) id false;rw [this];simp only [Bool.false_eq_true,if_false];cases hh:has id with
 | true=>simp
 | false =>
  obtain ⟨h1,h2⟩:=h0 id hh;simp [h1,h2]
theorem TabM.lt (h:TabM w B bm T S):bm<w.heap.size:=by obtain ⟨cnt,has,hm,-⟩:=h.mp;exact hm.lt
theorem TabM.same (h:TabM w B bm T S) (hm:w'.heap[bm]?=w.heap[bm]?) (hr:∀ p:Addr,p.block<B→w'.cell? p=w.cell? p):TabM w' B bm T S:=by
 obtain ⟨cnt,has,h1,h2⟩:=h.mp;exact ⟨⟨cnt,has,h1.same hm,h2⟩,fun id=>(h.reads id).keep hr,h.size,h.depth⟩
theorem TabM.alloc (h:TabM w B bm T S) (hB:B≤w.heap.size) (o:Obj):TabM (w.alloc o) B bm T S:=h.same (Below.heap_alloc _ _ _ h.lt) (fun p hp=>World.cell?_alloc_lt w o p (by omega))
theorem TabM.step (h:TabM w w.heap.size bm T S) (hb:Below w.heap.size w w'):TabM w' w'.heap.size bm T S:=by
 have h1:=h.same (hb.block bm h.lt) (fun p hp=>hb.cell hp)
 exact ⟨h1.mp,fun id=>(h1.reads id).more hb.size,h1.size,h1.depth⟩
end
theorem field_facts (a b c d e f g h:Value) (w:World):(Instr.field 89 (.agg #[a,b,c,d,e,f,g,h]) 0).run Tryz.prog w=.ok (.agg #[a,b,c]) w:=by kernel_rfl
theorem field_kind (a b c:Value) (w:World):(Instr.field 87 (.agg #[a,b,c]) 0).run Tryz.prog w=.ok a w:=by kernel_rfl
theorem field_size (a b c:Value) (w:World):(Instr.field 87 (.agg #[a,b,c]) 1).run Tryz.prog w=.ok b w:=by kernel_rfl
theorem field_depth (a b c:Value) (w:World):(Instr.field 87 (.agg #[a,b,c]) 2).run Tryz.prog w=.ok c w:=by kernel_rfl
theorem plain_any (gt bm B:Nat) (T:Int→TyI) (S:Int→SlI) (id:Int) (w:World) (hg:w.cell? ⟨gt,0,none⟩=some (.map (some bm))) (hT:TabM w B bm T S) :
  Calls Tryz.prog 54 #[.pointer (some ⟨gt,0,none⟩),.int .u32 id] w fun e w'=>e=.returned (.bool (decide (0<(T id).size)))∧w=w':=by
 have hl:=hT.look id;unfold tyV at hl;clear hT;generalize T id=x at *;obtain ⟨x1,x2,x3,x4,x5,x6,x7,x8⟩:=x;dsimp only at *;have f1:=field_facts;have f2:=field_size;go_enter Tryz.func54,Tryz.ntmps54;go_wp2
 go_ret
 exact ⟨rfl,rfl⟩
def wholeS (x:TyI) (size depth:Int) (s:SlI):SlI:=if (wholeT x size depth).2=0 then s else sl0
theorem ty8_ {w:World} {g:Nat} {t:TypeId} {x0 x1 x2 x3 x4 x5 x6 x7:Value} (h:Blk w g t #[x0,x1,x2,x3,x4,x5,x6,x7]):w.cell? ⟨g,0,none⟩=some x0∧w.cell? ⟨g,1,none⟩=some x1∧w.cell? ⟨g,2,none⟩=some x2∧w.cell? ⟨g,3,none⟩=some x3∧w.cell? ⟨g,4,none⟩=some x4∧w.cell? ⟨g,5,none⟩=some x5∧w.cell? ⟨g,6,none⟩=some x6∧w.cell? ⟨g,7,none⟩=some x7 :=
 ⟨h.cell 0,h.cell 1,h.cell 2,h.cell 3,h.cell 4,h.cell 5,h.cell 6,h.cell 7⟩
theorem load_ty {W:World} {g:Nat} {y:TyI} {s:SlI} (k:Blk W g 89 (tyV y s)):(loadVar 89 ⟨g,0,none⟩).run Tryz.prog W=.ok (.agg (tyV y s)) W:=by
 obtain ⟨z0,z1,z2,z3,z4,z5,z6,z7⟩:=ty8_ k;unfold tyV;go_simp
theorem ty_end {fn:Func} {p q:Tmp} (h:fn.results=#[.cell p 89,.tmp q]) (tmps:Array Value) {W:World} {g:Nat} {y:TyI} {s:SlI} {e:Int} (hp:tmps.getD p undef=.pointer (some ⟨g,0,none⟩)) (hq:tmps.getD q undef=.int .i64 e) (k:Blk W g 89 (tyV y s)) :
  (results fn tmps).run Tryz.prog W=.ok (.tuple #[.agg (tyV y s),.int .i64 e]) W:=by
 have ha:(asAddr (.pointer (some ⟨g,0,none⟩))).run Tryz.prog W=.ok ⟨g,0,none⟩ W:=rfl;rw [results_ct1 h,hp,ha];simp only [Result.andThen_ok];rw [load_ty k,hq];simp only [Result.andThen_ok]
theorem tyV_put {W:World} {g:Nat} {x0 x1 x2 x3 x4 x5 x6 x7:Value} (k:Blk W g 89 #[x0,x1,x2,x3,x4,x5,x6,x7]) (y:TyI) (s:SlI) :
  Blk ((((((((W.setCell ⟨g,0,none⟩ (.int .u8 y.kind)).setCell ⟨g,1,none⟩ (.int .i64 y.size)).setCell ⟨g,2,none⟩ (.int .i64 y.depth)).setCell ⟨g,3,none⟩ (.bool y.signed)).setCell ⟨g,4,none⟩ (.int .u32 y.cls)).setCell ⟨g,5,none⟩ (.int .u32 y.part)).setCell ⟨g,6,none⟩ (.int .i64 y.times)).setCell ⟨g,7,none⟩ (.slice s.1 s.2.1 s.2.2)) g 89 (tyV y s):=by
 unfold tyV;simpa using (((((((k.set_ 0 (.int .u8 y.kind)).set_ 1 (.int .i64 y.size)).set_ 2 (.int .i64 y.depth)).set_ 3 (.bool y.signed)).set_ 4 (.int .u32 y.cls)).set_ 5 (.int .u32 y.part)).set_ 6 (.int .i64 y.times)).set_ 7 (.slice s.1 s.2.1 s.2.2)
theorem ty_below {w W:World} {B g:Nat} (hb:Below B w W) (hg:B≤g) (y:TyI) (s:SlI) :
  Below B w ((((((((W.setCell ⟨g,0,none⟩ (.int .u8 y.kind)).setCell ⟨g,1,none⟩ (.int .i64 y.size)).setCell ⟨g,2,none⟩ (.int .i64 y.depth)).setCell ⟨g,3,none⟩ (.bool y.signed)).setCell ⟨g,4,none⟩ (.int .u32 y.cls)).setCell ⟨g,5,none⟩ (.int .u32 y.part)).setCell ⟨g,6,none⟩ (.int .i64 y.times)).setCell ⟨g,7,none⟩ (.slice s.1 s.2.1 s.2.2)) :=
 (((((((hb.setCell (p:=⟨g,0,none⟩) hg _).setCell (p:=⟨g,1,none⟩) hg _).setCell (p:=⟨g,2,none⟩) hg _).setCell (p:=⟨g,3,none⟩) hg _).setCell (p:=⟨g,4,none⟩) hg _).setCell (p:=⟨g,5,none⟩) hg _).setCell (p:=⟨g,6,none⟩) hg _).setCell (p:=⟨g,7,none⟩) hg _
theorem whole_ty (x:TyI) (s:SlI) (size depth:Int) (w:World) (hd:0≤depth∧depth≤16) :
  Calls Tryz.prog 81 #[.agg (tyV x s),.int .i64 size,.int .i64 depth] w fun e w'=>e=.returned (.tuple #[.agg (tyV (wholeT x size depth).1 (wholeS x size depth s)),.int .i64 (wholeT x size depth).2])∧Below w.heap.size w w':=by
 obtain ⟨v,hv⟩:∃ v,v=tyV (wholeT x size depth).1 (wholeS x size depth s):=⟨_,rfl⟩;obtain ⟨er,her⟩:∃ er,er=(wholeT x size depth).2:=⟨_,rfl⟩;rw [← hv,← her];have HV:=Lib.hid hv;have HE:=Lib.hid her;clear hv her;obtain ⟨x1,x2,x3,x4,x5,x6,x7,x8⟩:=x;obtain ⟨A,n,c⟩:=s;unfold tyV;dsimp only;have hb:=((Below.refl w.heap.size w).alloc (Nat.le_refl _) (.cells #[.int .u8 x1,.int .i64 size,.int .i64 (depth+1),.bool x4,.int .u32 x5,.int .u32 x6,.int .i64 x7,.slice A n c] 89));have hw1:IntKind.i64.wrap (depth+1)=depth+1:=IntWalk.i64_in _ (by omega)
 have hb2:=hb.alloc hb.size (.cells (tyV ty0 sl0) 89);have kR:=Blk.new (w.alloc (.cells #[.int .u8 x1,.int .i64 size,.int .i64 (depth+1),.bool x4,.int .u32 x5,.int .u32 x6,.int .i64 x7,.slice A n c] 89)) 89 (tyV ty0 sl0);rw [World.size_alloc] at kR;have hb3:=hb.alloc hb.size (.cells (tyV ⟨x1,size,depth+1,x4,x5,x6,x7,x8⟩ (A,n,c)) 89);have kS:=Blk.new (w.alloc (.cells #[.int .u8 x1,.int .i64 size,.int .i64 (depth+1),.bool x4,.int .u32 x5,.int .u32 x6,.int .i64 x7,.slice A n c] 89)) 89 (tyV ⟨x1,size,depth+1,x4,x5,x6,x7,x8⟩ (A,n,c));rw [World.size_alloc] at kS
 by_cases h1:(4096:Int)<size
 ·have d1:decide ((4096:Int)<size)=true:=by simpa using h1
  have hv:v=tyV ty0 sl0:=by rw [HV.out];unfold wholeS wholeT;rw [if_pos h1];rfl
  have he:er=102:=by rw [HE.out];unfold wholeT;rw [if_pos h1]
  have HV1:=Lib.hid hv;have HE1:=Lib.hid he;clear hv he h1 HV HE;go_enter Tryz.func81,Tryz.ntmps81;go_wp2_with fail;exact bodyPost_ret (ty_end rfl _ rfl rfl kR) rfl ⟨by rw [HV1.out,HE1.out],hb2⟩
 ·have d1:decide ((4096:Int)<size)=false:=by simpa using h1
  by_cases h2:(16:Int)<depth+1
  ·have d2:decide ((16:Int)<depth+1)=true:=by simpa using h2
   have hv:v=tyV ty0 sl0:=by rw [HV.out];unfold wholeS wholeT;rw [if_neg h1,if_pos h2];rfl
   have he:er=4:=by rw [HE.out];unfold wholeT;rw [if_neg h1,if_pos h2]
   have HV1:=Lib.hid hv;have HE1:=Lib.hid he;clear hv he h1 h2 HV HE;go_enter Tryz.func81,Tryz.ntmps81;go_wp2_with fail;exact bodyPost_ret (ty_end rfl _ rfl rfl kR) rfl ⟨by rw [HV1.out,HE1.out],hb2⟩
  ·have d2:decide ((16:Int)<depth+1)=false:=by simpa using h2
   have hv:v=tyV ⟨x1,size,depth+1,x4,x5,x6,x7,x8⟩ (A,n,c):=by rw [HV.out];unfold wholeS wholeT;rw [if_neg h1,if_neg h2];rfl
   have he:er=0:=by rw [HE.out];unfold wholeT;rw [if_neg h1,if_neg h2]
   have HV1:=Lib.hid hv;have HE1:=Lib.hid he;clear hv he h1 h2 HV HE;go_enter Tryz.func81,Tryz.ntmps81;go_wp2_with fail;exact bodyPost_ret (ty_end rfl _ rfl rfl kS) rfl ⟨by rw [HV1.out,HE1.out],hb3⟩
end
section
open Go.RowKit
def TabP (w:World) (p:Option Addr) (T:Int→TyI) (S:Int→SlI):Prop :=
 (p=none∧∀ id,T id=ty0∧S id=sl0)∨∃ gt bm,p=some ⟨gt,0,none⟩∧w.cell? ⟨gt,0,none⟩=some (.map (some bm))∧TabM w w.heap.size bm T S
section
variable {w w':World} {p:Option Addr} {T:Int→TyI} {S:Int→SlI}
theorem TabP.step (h:TabP w p T S) (hb:Below w.heap.size w w'):TabP w' p T S:=by
 rcases h with h | ⟨gt,bm,h1,h2,h3⟩
 ·exact .inl h
 ·exact .inr ⟨gt,bm,h1,(hb.cell (p:=⟨gt,0,none⟩) (World.block_lt_of_cell? w _ h2)).trans h2,h3.step hb⟩
theorem TabP.reads (h:TabP w p T S) (id:Int):Reads w w.heap.size 1 (S id).1 (S id).2.1 (Ints .u32 (T id).parts):=by
 rcases h with ⟨-,h⟩ | ⟨gt,bm,-,-,h⟩
 ·obtain ⟨h1,h2⟩:=h id;rw [h1,h2];exact Reads.none_
 ·exact h.reads id
theorem TabP.size (h:TabP w p T S) (id:Int):0≤(T id).size∧(T id).size≤4096:=by
 rcases h with ⟨-,h⟩ | ⟨gt,bm,-,-,h⟩
 ·rw [(h id).1];exact ⟨Int.le_refl _,by decide⟩
 ·exact h.size id
theorem TabP.nil (w:World):TabP w none (fun _=>ty0) (fun _=>sl0):=.inl ⟨rfl,fun _=>⟨rfl,rfl⟩⟩
end
theorem results_c1 {fn:Func} {p:Tmp} {ty:TypeId} (h:fn.results=#[.cell p ty]) (tmps:Array Value) (P:Program) (w:World) :
  (results fn tmps).run P w=((asAddr (tmps.getD p undef)).run P w).andThen fun ad w₁=>((loadVar ty ad).run P w₁):=by
 simp only [results,h];simp [Sem.run_bind,Result.andThen]
theorem ty_end1 {fn:Func} {p:Tmp} (h:fn.results=#[.cell p 89]) (tmps:Array Value) {W:World} {g:Nat} {y:TyI} {s:SlI} (hp:tmps.getD p undef=.pointer (some ⟨g,0,none⟩)) (k:Blk W g 89 (tyV y s)) :
  (results fn tmps).run Tryz.prog W=.ok (.agg (tyV y s)) W:=by
 have ha:(asAddr (.pointer (some ⟨g,0,none⟩))).run Tryz.prog W=.ok ⟨g,0,none⟩ W:=rfl;rw [results_c1 h,hp,ha];simp only [Result.andThen_ok];exact load_ty k
theorem at_any (p:Option Addr) (T:Int→TyI) (S:Int→SlI) (id:Int) (w:World) (h:TabP w p T S) :
  Calls Tryz.prog 32 #[.pointer p,.int .u32 id] w fun e w'=>e=.returned (.agg (tyV (T id) (S id)))∧Below w.heap.size w w':=by
 have hb:=(Below.refl w.heap.size w).alloc (Nat.le_refl _) (.cells (tyV ty0 sl0) 89);have kR:=Blk.new w 89 (tyV ty0 sl0)
 rcases h with ⟨rfl,h0⟩ | ⟨gt,bm,rfl,hg,hT⟩
 ·obtain ⟨h1,h2⟩:=h0 id;rw [h1,h2];clear h0 h1 h2;go_enter Tryz.func32,Tryz.ntmps32;go_wp2_with fail;exact bodyPost_ret (ty_end1 rfl _ rfl kR) rfl ⟨rfl,hb⟩
 ·have hl:=(hT.alloc (Nat.le_refl _) (.cells (tyV ty0 sl0) 89)).look id;have u2:=(hb.cell (p:=⟨gt,0,none⟩) (World.block_lt_of_cell? w _ hg)).trans hg;obtain ⟨z0,z1,z2,z3,z4,z5,z6,z7⟩:=ty8_ kR;have fz:=kR.frozen;have hngt:w.heap.size≠gt:=by have:=World.block_lt_of_cell? w _ hg;simp only at this;omega
  generalize T id=x at *;generalize S id=s at *;obtain ⟨x1,x2,x3,x4,x5,x6,x7,x8⟩:=x;obtain ⟨sA,sn,sc⟩:=s;clear hT hg;unfold tyV at hl ⊢;dsimp only at *;unfold ty0 sl0 at hl;unfold tyV ty0 sl0 at u2 z0 z1 z2 z3 z4 z5 z6 z7 fz;go_enter Tryz.func32,Tryz.ntmps32;go_wp2_with fail;exact bodyPost_ret (ty_end1 (y:=⟨x1,x2,x3,x4,x5,x6,x7,x8⟩) (s:=(sA,sn,sc)) rfl _ rfl (Blk.new w 89 (tyV ⟨x1,x2,x3,x4,x5,x6,x7,x8⟩ (sA,sn,sc)))) rfl ⟨rfl,(Below.refl w.heap.size w).alloc (Nat.le_refl _) _⟩
theorem kindM_any (p:Option Addr) (T:Int→TyI) (S:Int→SlI) (id:Int) (w:World) (h:TabP w p T S) :
  Calls Tryz.prog 30 #[.pointer p,.int .u32 id] w fun e w'=>e=.returned (.int .u8 (T id).kind)∧Below w.heap.size w w':=by
 have hat:=at_any p T S id w h;generalize T id=x at *;generalize S id=s at *;obtain ⟨x1,x2,x3,x4,x5,x6,x7,x8⟩:=x;obtain ⟨sA,sn,sc⟩:=s;unfold tyV at hat;dsimp only at *;have f1:=field_facts;have f2:=field_kind;go_enter Tryz.func30,Tryz.ntmps30;go_wp2_with (go_at_call 32;refine hat.mono ?_;rintro e w2 ⟨rfl,hb2⟩)
 go_ret
 exact ⟨rfl,hb2⟩
theorem sizeM_any (p:Option Addr) (T:Int→TyI) (S:Int→SlI) (id:Int) (w:World) (h:TabP w p T S) :
  Calls Tryz.prog 16 #[.pointer p,.int .u32 id] w fun e w'=>e=.returned (.int .i64 (T id).size)∧Below w.heap.size w w':=by
 have hat:=at_any p T S id w h;generalize T id=x at *;generalize S id=s at *;obtain ⟨x1,x2,x3,x4,x5,x6,x7,x8⟩:=x;obtain ⟨sA,sn,sc⟩:=s;unfold tyV at hat;dsimp only at *;have f1:=field_facts;have f2:=field_size;go_enter Tryz.func16,Tryz.ntmps16;go_wp2_with (go_at_call 32;refine hat.mono ?_;rintro e w2 ⟨rfl,hb2⟩)
 go_ret
 exact ⟨rfl,hb2⟩
theorem plainM_any (p:Option Addr) (T:Int→TyI) (S:Int→SlI) (id:Int) (w:World) (h:TabP w p T S) :
  Calls Tryz.prog 75 #[.pointer p,.int .u32 id] w fun e w'=>e=.returned (.bool (decide (0<(T id).size)))∧Below w.heap.size w w':=by
 have hat:=at_any p T S id w h;generalize T id=x at *;generalize S id=s at *;obtain ⟨x1,x2,x3,x4,x5,x6,x7,x8⟩:=x;obtain ⟨sA,sn,sc⟩:=s;unfold tyV at hat;dsimp only at *;have f1:=field_facts;have f2:=field_size;go_enter Tryz.func75,Tryz.ntmps75;go_wp2_with (go_at_call 32;refine hat.mono ?_;rintro e w2 ⟨rfl,hb2⟩)
 go_ret
 exact ⟨rfl,hb2⟩
def cntT (x:TyI):Int:=x.times+x.parts.length
structure Mild (x:TyI):Prop where
 lo:0≤x.times
 hi:x.times≤4096
 len:x.parts.length≤7100000000000
theorem countM_any (p:Option Addr) (T:Int→TyI) (S:Int→SlI) (id:Int) (w:World) (h:TabP w p T S) (hm:Mild (T id)) :
  Calls Tryz.prog 77 #[.pointer p,.int .u32 id] w fun e w'=>e=.returned (.int .i64 (cntT (T id)))∧Below w.heap.size w w':=by
 have hat:=at_any p T S id w h;have hl:=(h.reads id).len;have hw:IntKind.i64.wrap ((T id).times+(((S id).2.1:Nat):Int))=cntT (T id):=by
  unfold cntT;rw [hl];exact IntWalk.i64_in _ (by have:=hm.lo;have:=hm.hi;have:=hm.len;omega)
 clear hm hl;generalize cntT (T id)=v at *;generalize T id=x at *;generalize S id=s at *;obtain ⟨x1,x2,x3,x4,x5,x6,x7,x8⟩:=x;obtain ⟨sA,sn,sc⟩:=s;unfold tyV at hat;dsimp only at *;go_enter Tryz.func77,Tryz.ntmps77;go_wp2_with (go_at_call 32;refine hat.mono ?_;rintro e w2 ⟨rfl,hb2⟩;have kx:=Blk.new w2 89 (tyV ⟨x1,x2,x3,x4,x5,x6,x7,x8⟩ (sA,sn,sc));obtain ⟨z0,z1,z2,z3,z4,z5,z6,z7⟩:=ty8_ kx)
 go_ret
 exact ⟨rfl,hb2.alloc hb2.size _⟩
theorem classM_any (p:Option Addr) (T:Int→TyI) (S:Int→SlI) (id:Int) (w:World) (h:TabP w p T S) :
  Calls Tryz.prog 79 #[.pointer p,.int .u32 id] w fun e w'=>e=.returned (.tuple #[.int .u32 (T id).cls,.bool ((T id).kind==7)])∧Below w.heap.size w w':=by
 have hat:=at_any p T S id w h;generalize T id=x at *;generalize S id=s at *;obtain ⟨x1,x2,x3,x4,x5,x6,x7,x8⟩:=x;obtain ⟨sA,sn,sc⟩:=s;unfold tyV at hat;dsimp only at *;go_enter Tryz.func79,Tryz.ntmps79;go_wp2_with (go_at_call 32;refine hat.mono ?_;rintro e w2 ⟨rfl,hb2⟩;have kx:=Blk.new w2 89 (tyV ⟨x1,x2,x3,x4,x5,x6,x7,x8⟩ (sA,sn,sc));obtain ⟨z0,z1,z2,z3,z4,z5,z6,z7⟩:=ty8_ kx)
 go_quiet (fail)
 go_wp2_with fail;go_ret2
 exact ⟨rfl,below_drewN (hb2.alloc hb2.size _) _⟩
def partT (x:TyI) (k:Int):Int × Bool:=if k<0∨cntT x≤k then (0,false) else if 0<x.times then (x.part,true) else (ix x.parts k.toNat,true)
theorem partM_any (p:Option Addr) (T:Int→TyI) (S:Int→SlI) (id k:Int) (w:World) (h:TabP w p T S) (hm:Mild (T id)) :
  Calls Tryz.prog 31 #[.pointer p,.int .u32 id,.int .i64 k] w fun e w'=>e=.returned (.tuple #[.int .u32 (partT (T id) k).1,.bool (partT (T id) k).2])∧Below w.heap.size w w':=by
 have hat:=at_any p T S id w h;have hr:=h.reads id;have hl:=hr.len;obtain ⟨v,hv⟩:∃ v,v=partT (T id) k:=⟨_,rfl⟩;rw [← hv];unfold partT at hv;have hw:IntKind.i64.wrap ((T id).times+(((S id).2.1:Nat):Int))=cntT (T id):=by
  unfold cntT;rw [hl];exact IntWalk.i64_in _ (by have:=hm.lo;have:=hm.hi;have:=hm.len;omega)
 have hc:cntT (T id)=(T id).times+(((S id).2.1:Nat):Int):=by unfold cntT;rw [hl]
 have hlo:=hm.lo;clear hm hl h;generalize cntT (T id)=c at *;generalize T id=x at *;generalize S id=s at *;obtain ⟨x1,x2,x3,x4,x5,x6,x7,x8⟩:=x;obtain ⟨sA,sn,sc⟩:=s;unfold tyV at hat;dsimp only at *
 by_cases h1:k<0
 ·have d1:decide (k<0)=true:=by simpa using h1
  rw [if_pos (.inl h1)] at hv;subst hv;clear hc h1;go_enter Tryz.func31,Tryz.ntmps31;go_wp2_with (go_at_call 32;refine hat.mono ?_;rintro e w2 ⟨rfl,hb2⟩;have kx:=Blk.new w2 89 (tyV ⟨x1,x2,x3,x4,x5,x6,x7,x8⟩ (sA,sn,sc));obtain ⟨z0,z1,z2,z3,z4,z5,z6,z7⟩:=ty8_ kx)
  go_ret2
  exact ⟨rfl,hb2.alloc hb2.size _⟩
 ·have d1:decide (k<0)=false:=by simpa using h1
  by_cases h2:c≤k
  ·have d2:decide (c≤k)=true:=by simpa using h2
   rw [if_pos (.inr h2)] at hv;subst hv;clear hc h1 h2;go_enter Tryz.func31,Tryz.ntmps31;go_wp2_with (go_at_call 32;refine hat.mono ?_;rintro e w2 ⟨rfl,hb2⟩;have kx:=Blk.new w2 89 (tyV ⟨x1,x2,x3,x4,x5,x6,x7,x8⟩ (sA,sn,sc));obtain ⟨z0,z1,z2,z3,z4,z5,z6,z7⟩:=ty8_ kx)
   go_ret2
   exact ⟨rfl,hb2.alloc hb2.size _⟩
  ·have d2:decide (c≤k)=false:=by simpa using h2
   rw [if_neg (by rintro (h | h);exact h1 h;exact h2 h)] at hv
   by_cases h3:0<x7
   ·have d3:decide (0<x7)=true:=by simpa using h3
    rw [if_pos h3] at hv;subst hv;clear hc h1 h2 h3;go_enter Tryz.func31,Tryz.ntmps31;go_wp2_with (go_at_call 32;refine hat.mono ?_;rintro e w2 ⟨rfl,hb2⟩;have kx:=Blk.new w2 89 (tyV ⟨x1,x2,x3,x4,x5,x6,x7,x8⟩ (sA,sn,sc));obtain ⟨z0,z1,z2,z3,z4,z5,z6,z7⟩:=ty8_ kx)
    go_ret2
    exact ⟨rfl,hb2.alloc hb2.size _⟩
   ·have d3:decide (0<x7)=false:=by simpa using h3
    rw [if_neg h3] at hv;obtain ⟨j,rfl⟩:∃ j:Nat,k=j:=⟨k.toNat,by omega⟩
    have hjn:j<sn:=by omega
    have hjn2:((j:Nat):Int)<(sn:Nat):=by omega
    obtain ⟨b,off,rfl,hbb,hcc⟩:=hr.ints (by omega)
    have c0:=hcc j hjn;have e:((j:Nat):Int).toNat=j:=rfl;rw [e] at hv;generalize ix x8 j=pj at *;subst hv;clear hcc hr hc h1 h2 h3 e;go_enter Tryz.func31,Tryz.ntmps31;go_wp2_with (go_at_call 32;refine hat.mono ?_;rintro e w2 ⟨rfl,hb2⟩;have kx:=Blk.new w2 89 (tyV ⟨x1,x2,x3,x4,x5,x6,x7,x8⟩ (some ⟨b,off,none⟩,sn,sc));obtain ⟨z0,z1,z2,z3,z4,z5,z6,z7⟩:=ty8_ kx;have c2:=((hb2.alloc hb2.size (.cells (tyV ⟨x1,x2,x3,x4,x5,x6,x7,x8⟩ (some ⟨b,off,none⟩,sn,sc)) 89)).cell (p:=⟨b,off+j,none⟩) hbb).trans c0;unfold tyV at c2;dsimp only at c2)
    go_ret2
    exact ⟨rfl,hb2.alloc hb2.size _⟩
end
section
open Go.RowKit
structure TabW (w:World) (p:Option Addr) (T:Int→TyI) (S:Int→SlI):Prop where
 tab:TabP w p T S
 cap:∀ id,(S id).2.1≤(S id).2.2
 mild:∀ id,Mild (T id)
theorem TabW.step {w w':World} {p:Option Addr} {T:Int→TyI} {S:Int→SlI} (h:TabW w p T S) (hb:Below w.heap.size w w'):TabW w' p T S:=⟨h.tab.step hb,h.cap,h.mild⟩
theorem TabW.nil (w:World):TabW w none (fun _=>ty0) (fun _=>sl0):=⟨TabP.nil w,fun _=>Nat.le_refl _,fun _=>⟨Int.le_refl _,by decide,by decide⟩⟩
def sumN (T:Int→TyI) (l:List Int) (k:Nat):Int:=((l.take k).map fun p=>(T p).size).sum
theorem sumN_step {T:Int→TyI} {l:List Int} {k:Nat} (h:k<l.length):sumN T l (k+1)=sumN T l k+(T (ix l k)).size:=by
 unfold sumN;rw [List.take_succ_eq_append_getElem h,List.map_append,List.sum_append,ix_of h];simp
def offT (T:Int→TyI) (x:TyI) (k:Int):Int × Bool:=if (partT x k).2=false∨x.size=0 then (0,false) else if 0<x.times then (k*(T x.part).size,true) else (sumN T x.parts k.toNat,true)
end
section
open Go.RowKit
theorem vector_any (gt bm B:Nat) (T:Int→TyI) (S:Int→SlI) (part n:Int) (w:World) (hg:w.cell? ⟨gt,0,none⟩=some (.map (some bm))) (hT:TabM w B bm T S) (hB:B≤w.heap.size) (hn:0≤n∧n<4294967296) :
  Calls Tryz.prog 51 #[.pointer (some ⟨gt,0,none⟩),.int .u32 part,.int .u32 n] w fun e w'=>e=.returned (.tuple #[.agg (tyV (vectorT T part n).1 sl0),.int .i64 (vectorT T part n).2])∧Below w.heap.size w w':=by
 obtain ⟨v,hv⟩:∃ v,v=vectorT T part n:=⟨_,rfl⟩;rw [← hv];unfold vectorT at hv;have hwn:IntKind.i64.wrap n=n:=IntWalk.i64_in _ (by omega)
 have hl:=(hT.alloc hB (.cells (tyV ty0 sl0) 89)).look part;have hdp:=hT.depth part;have hgt:gt<w.heap.size:=World.block_lt_of_cell? w _ hg;have hg1:=(World.cell?_alloc_lt w (.cells (tyV ty0 sl0) 89) ⟨gt,0,none⟩ hgt).trans hg;generalize T part=x at *;generalize S part=s at *;obtain ⟨x1,x2,x3,x4,x5,x6,x7,x8⟩:=x;obtain ⟨sA,sn,sc⟩:=s;dsimp only at *;have hb:=((Below.refl w.heap.size w).alloc (Nat.le_refl _) (.cells (tyV ty0 sl0) 89)).alloc (by simp) (.cells (tyV ⟨x1,x2,x3,x4,x5,x6,x7,x8⟩ (sA,sn,sc)) 89)
 have kR:=(Blk.new w 89 (tyV ty0 sl0)).alloc (.cells (tyV ⟨x1,x2,x3,x4,x5,x6,x7,x8⟩ (sA,sn,sc)) 89);have kP:=Blk.new (w.alloc (.cells (tyV ty0 sl0) 89)) 89 (tyV ⟨x1,x2,x3,x4,x5,x6,x7,x8⟩ (sA,sn,sc));rw [World.size_alloc] at kP;have sz2:((w.alloc (.cells (tyV ty0 sl0) 89)).alloc (.cells (tyV ⟨x1,x2,x3,x4,x5,x6,x7,x8⟩ (sA,sn,sc)) 89)).heap.size=w.heap.size+1+1:=by simp
 have hwh:=whole_ty { ty0 with kind:=4,part:=part,times:=n } sl0 n x3 ((w.alloc (.cells (tyV ty0 sl0) 89)).alloc (.cells (tyV ⟨x1,x2,x3,x4,x5,x6,x7,x8⟩ (sA,sn,sc)) 89)) hdp
 have hsl:wholeS { ty0 with kind:=4,part:=part,times:=n } n x3 sl0=sl0:=by unfold wholeS;split <;> rfl
 rw [hsl] at hwh;obtain ⟨r,hr⟩:∃ r,r=wholeT { ty0 with kind:=4,part:=part,times:=n } n x3:=⟨_,rfl⟩
 rw [← hr] at hwh hv;have HV:=Lib.hid hv;obtain ⟨y,er⟩:=r;dsimp only at hwh;clear hv hr hsl hT hg
 by_cases hk:x1≠2∧x1≠3
 ·have d1:(x1 != 2)=true:=by simpa using hk.1
  have d2:(x1 != 3)=true:=by simpa using hk.2
  have hv1:v=(ty0,100):=by rw [HV.out,if_pos hk]
  have HV1:=Lib.hid hv1;clear hv1 hk hwh;unfold tyV ty0 sl0 at hl hg1;go_enter Tryz.func51,Tryz.ntmps51;go_wp2_with fail;exact bodyPost_ret (ty_end (y:=ty0) (s:=sl0) rfl _ rfl rfl kR) rfl ⟨by rw [HV1.out],hb⟩
 ·have hk2:x1=2∨x1=3:=by
   by_cases h2:x1=2
   ·exact .inl h2
   ·exact .inr (Decidable.byContradiction fun h3=>hk ⟨h2,h3⟩)
  by_cases hs:n<2∨4<n
  ·have hv1:v=(ty0,102):=by rw [HV.out,if_neg hk,if_pos hs]
   have HV1:=Lib.hid hv1;clear hv1 hk hwh
   rcases hk2 with rfl | rfl <;> rcases hs with hs | hs
   ·have d3:decide (n<2)=true:=by simpa using hs
    clear hs;unfold tyV ty0 sl0 at hl hg1;go_enter Tryz.func51,Tryz.ntmps51;go_wp2_with fail;exact bodyPost_ret (ty_end (y:=ty0) (s:=sl0) rfl _ rfl rfl kR) rfl ⟨by rw [HV1.out],hb⟩
   ·have d3:decide (n<2)=false:=by rw [decide_eq_false_iff_not];omega
    have d4:decide (4<n)=true:=by simpa using hs
    clear hs;unfold tyV ty0 sl0 at hl hg1;go_enter Tryz.func51,Tryz.ntmps51;go_wp2_with fail;exact bodyPost_ret (ty_end (y:=ty0) (s:=sl0) rfl _ rfl rfl kR) rfl ⟨by rw [HV1.out],hb⟩
   ·have d3:decide (n<2)=true:=by simpa using hs
    clear hs;unfold tyV ty0 sl0 at hl hg1;go_enter Tryz.func51,Tryz.ntmps51;go_wp2_with fail;exact bodyPost_ret (ty_end (y:=ty0) (s:=sl0) rfl _ rfl rfl kR) rfl ⟨by rw [HV1.out],hb⟩
   ·have d3:decide (n<2)=false:=by rw [decide_eq_false_iff_not];omega
    have d4:decide (4<n)=true:=by simpa using hs
    clear hs;unfold tyV ty0 sl0 at hl hg1;go_enter Tryz.func51,Tryz.ntmps51;go_wp2_with fail;exact bodyPost_ret (ty_end (y:=ty0) (s:=sl0) rfl _ rfl rfl kR) rfl ⟨by rw [HV1.out],hb⟩
  ·have hv1:v=(y,er):=by rw [HV.out,if_neg hk,if_neg hs]
   have HV1:=Lib.hid hv1;have d3:decide (n<2)=false:=by rw [decide_eq_false_iff_not];omega
   have d4:decide (4<n)=false:=by rw [decide_eq_false_iff_not];omega
   clear hv1 hk hs
   rcases hk2 with rfl | rfl
   ·skip
    unfold tyV ty0 sl0 at hl hg1 hwh;go_enter Tryz.func51,Tryz.ntmps51;go_wp2_with fail;refine hwh.mono ?_;rintro e w3 ⟨rfl,hb3⟩;have kR3:=kR.step hb3;have hb4:=below_cut hb hb3 (Nat.le_refl _);obtain ⟨z0,z1,z2,z3,z4,z5,z6,z7⟩:=ty8_ kR3;have fz:=kR3.frozen;go_wp2_with fail;exact bodyPost_ret (ty_end (y:=y) (s:=sl0) rfl _ rfl rfl (tyV_put kR3 y sl0)) rfl ⟨by rw [HV1.out],ty_below hb4 (Nat.le_refl _) y sl0⟩
   ·skip
    unfold tyV ty0 sl0 at hl hg1 hwh;go_enter Tryz.func51,Tryz.ntmps51;go_wp2_with fail;refine hwh.mono ?_;rintro e w3 ⟨rfl,hb3⟩;have kR3:=kR.step hb3;have hb4:=below_cut hb hb3 (Nat.le_refl _);obtain ⟨z0,z1,z2,z3,z4,z5,z6,z7⟩:=ty8_ kR3;have fz:=kR3.frozen;go_wp2_with fail;exact bodyPost_ret (ty_end (y:=y) (s:=sl0) rfl _ rfl rfl (tyV_put kR3 y sl0)) rfl ⟨by rw [HV1.out],ty_below hb4 (Nat.le_refl _) y sl0⟩
end
end Go.Proofs.YtdebjkiilnhgpaaGreatDoor
