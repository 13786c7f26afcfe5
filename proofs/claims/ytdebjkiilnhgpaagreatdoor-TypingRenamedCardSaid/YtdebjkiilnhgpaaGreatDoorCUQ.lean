/- Walks: ids.Renumber. -/
import Derived.Test.YtdebjkiilnhgpaaGreatDoorCUP
import Derived.Test.YtdebjkiilnhgpaaGreatDoorCTM
set_option maxRecDepth 100000
set_option maxHeartbeats 4000000
namespace Go.Proofs.YtdebjkiilnhgpaaGreatDoor
open Go.RowKit
theorem MapIs.size_ {w:World} {d:TypeDesc} {b n:Nat} {D:Value→Option Value} (h:MapIs w d b n D):∃ es clock,w.heap[b]?=some (.map es clock)∧es.size=n:=by
 obtain ⟨es,clock,hb,h1,-⟩:=h;exact ⟨es,clock,hb,h1⟩
theorem MapIs.len_ {P:Program} {w:World} {d:TypeDesc} {b n:Nat} {D:Value→Option Value} {t kt et:TypeId} (h:MapIs w d b n D) (hm:P.underlying t=some (.map kt et)) (ty:TypeId) :
  (Builtin.len_ #[t] ty #[.map (some b)]).run P w=.ok (.int .i64 (n:Nat)) w:=by
 obtain ⟨es,clock,hb,h1⟩:=h.size_;simp [Builtin.len_,run_underlying hm,MapKept.run_getObj_map hb,Result.andThen,goInt,h1]
theorem zero_u32 (w:World):(zeroValue 22).run Tryz.prog w=.ok (.int .u32 0) w:=by go_simp
def toD (l:List InstI) (k:Nat):Int→Option Value:=fun x=>(toN l k x).map fun v=>.int .u32 v
theorem toD_get (l:List InstI) (k:Nat) (x:Int):(toD l k x).getD (.int .u32 0)=.int .u32 ((toN l k x).getD 0):=by
 unfold toD;cases toN l k x <;> rfl
theorem cntN_bd (l:List InstI):∀ k,1≤cntN l k∧cntN l k≤k+1
 | 0=>⟨Nat.le_refl _,Nat.le_refl _⟩
 | k+1=>by
  have:=cntN_bd l k;unfold cntN
  split <;> omega
theorem toD_start (l:List InstI):setU (fun _=>none) 0 (.int .u32 0)=toD l 0:=by
 funext x
 unfold setU toD toN
 split <;> rfl
theorem toD_step {l:List InstI} {k:Nat} {i:InstI} (h:l[k]?=some i) (h0:i.2.2.1≠0):setU (toD l k) i.2.2.1 (.int .u32 (cntN l k:Nat))=toD l (k+1)∧cntN l (k+1)=cntN l k+1:=by
 have hr:=resAt_at h;have h1:resAt l k≠0:=by rw [hr];exact h0
 refine ⟨?_,by show (if resAt l k≠0 then _ else _)=_;rw [if_pos h1]⟩
 funext x
 unfold toD
 show _=((if resAt l k≠0 then setO (toN l k) (resAt l k) (cntN l k:Int) else toN l k) x).map _
 rw [if_pos h1,hr];unfold setU setO
 split <;> rfl
theorem toD_same {l:List InstI} {k:Nat} {i:InstI} (h:l[k]?=some i) (h0:i.2.2.1=0):toD l (k+1)=toD l k∧cntN l (k+1)=cntN l k:=by
 have hr:=resAt_at h;have h1:¬ resAt l k≠0:=fun hc=>hc (by rw [hr];exact h0)
 refine ⟨?_,by show (if resAt l k≠0 then _ else _)=_;rw [if_neg h1]⟩
 funext x
 unfold toD
 show ((if resAt l k≠0 then setO (toN l k) (resAt l k) (cntN l k:Int) else toN l k) x).map _=_
 rw [if_neg h1]
theorem rnd_any (g mb cnt:Nat) (D:Int→Option Value) (x y:Int) (w:World) (hc:w.cell? ⟨g,0,none⟩=some (.map (some mb))) (hm:MapU w mb cnt D) (hv:(D x).getD (.int .u32 0)=.int .u32 y) :
  Calls Tryz.prog 34 #[.int .u32 x,.pointer (some ⟨g,0,none⟩)] w fun e w'=>e=.returned (.int .u32 y)∧w=w':=by
 have hlk:=MapU.look (P:=Tryz.prog) hm Tryz.underlying97 Tryz.underlying22 (zero_u32 w) x false;rw [hv] at hlk;simp only [Bool.false_eq_true,if_false] at hlk;go_enter Tryz.func34,Tryz.ntmps34;go_wp2_with fail;go_ret
 exact ⟨rfl,rfl⟩
structure RnI (w:World) (gen bound:Int) (A:Option Addr) (n c:Nat) (L:List InstI) (mb gp k:Nat) (W:World):Prop where
 k1:Blk W w.heap.size 25 #[.int .u32 gen,.int .u32 bound,.slice A n c]
 k2:Blk W (w.heap.size+1) 25 #[.int .u32 0,.int .u32 0,.slice none 0 0]
 k3:Blk W (w.heap.size+2) 28 #[.int .i64 0,.int .i64 0]
 kp:Blk W gp 97 #[.map (some mb)]
 map:MapU W mb (cntN L k) (toD L k)
 lowm:w.heap.size+2<mb
 lowp:w.heap.size+2<gp
 below:Below w.heap.size w W
theorem RnI.step {w W W2:World} {gen bound:Int} {A:Option Addr} {n c:Nat} {L:List InstI} {mb gp k:Nat} (h:RnI w gen bound A n c L mb gp k W) (hb:Below W.heap.size W W2):RnI w gen bound A n c L mb gp k W2 :=
 ⟨h.k1.step hb,h.k2.step hb,h.k3.step hb,h.kp.step hb,h.map.step hb,h.lowm,h.lowp,below_cut h.below hb (Nat.le_refl _)⟩
theorem results_cc {fn:Func} {p q:Tmp} {t1 t2:TypeId} (h:fn.results=#[.cell p t1,.cell q t2]) (tmps:Array Value) (P:Program) (w:World) :
  (results fn tmps).run P w=((asAddr (tmps.getD p undef)).run P w).andThen fun ad w₁=>((loadVar t1 ad).run P w₁).andThen fun v w₂=>((asAddr (tmps.getD q undef)).run P w₂).andThen fun ad2 w₃=>((loadVar t2 ad2).run P w₃).andThen fun v2 w₄=>.ok (.tuple #[v,v2]) w₄:=by
 simp only [results,h];simp [Sem.run_bind,Result.andThen]
theorem renum_end {fn:Func} {p q:Tmp} (h:fn.results=#[.cell p 25,.cell q 28]) (tmps:Array Value) {W:World} {g g2:Nat} {gen bound a b:Int} {A:Option Addr} {n c:Nat} (hp:tmps.getD p undef=.pointer (some ⟨g,0,none⟩)) (hq:tmps.getD q undef=.pointer (some ⟨g2,0,none⟩))
  (k1:Blk W g 25 #[.int .u32 gen,.int .u32 bound,.slice A n c]) (k2:Blk W g2 28 #[.int .i64 a,.int .i64 b]) :
  (results fn tmps).run Tryz.prog W=.ok (.tuple #[.agg #[.int .u32 gen,.int .u32 bound,.slice A n c],.agg #[.int .i64 a,.int .i64 b]]) W:=by
 have ha:(asAddr (.pointer (some ⟨g,0,none⟩))).run Tryz.prog W=.ok ⟨g,0,none⟩ W:=rfl;have hb:(asAddr (.pointer (some ⟨g2,0,none⟩))).run Tryz.prog W=.ok ⟨g2,0,none⟩ W:=rfl;obtain ⟨z0,z1,z2⟩:=three_ k1;obtain ⟨v0,v1⟩:=two_ k2;have hl:(loadVar 25 ⟨g,0,none⟩).run Tryz.prog W=.ok (.agg #[.int .u32 gen,.int .u32 bound,.slice A n c]) W:=by go_simp
 have hl2:(loadVar 28 ⟨g2,0,none⟩).run Tryz.prog W=.ok (.agg #[.int .i64 a,.int .i64 b]) W:=by go_simp
 rw [results_cc h,hp,ha];simp only [Result.andThen_ok];rw [hl];simp only [Result.andThen_ok];rw [hq,hb];simp only [Result.andThen_ok];rw [hl2];simp only [Result.andThen_ok]
def RenumIs (gen:Int) (n:Nat) (L:List InstI) (w:World) (e:Ending) (w':World):Prop:=∃ A' c' ls',e=.returned (.tuple #[.agg (modC gen (cntN L n:Nat) A' n c'),.agg #[.int .i64 0,.int .i64 0]])∧ls'.map (·.1)=L.map (renI (toF L))∧ModS w' w'.heap.size A' n ls'∧Below w.heap.size w w'∧n≤c'∧∀ x∈ls',x.2.2.1≤x.2.2.2
theorem renumber_any (gen bound:Int) (A:Option Addr) (n c:Nat) (ls:List InstA) (w:World) (hM:ModS w w.heap.size A n ls) (hn:n≤2000000) (ha:∀ x∈ls,x.1.2.2.2.length≤65535) (hi:(idsM bound (ls.map (·.1))).1=0) :
  Calls Tryz.prog 17 #[.agg (modC gen bound A n c)] w (RenumIs gen n (ls.map (·.1)) w):=by
 have hL:=hM.length;have ho:=ids_once hi;obtain ⟨L,hL0⟩:∃ L,L=ls.map (·.1):=⟨_,rfl⟩;rw [← hL0] at hL hi ho ⊢;have hb:=(((Below.refl w.heap.size w).alloc (Nat.le_refl _) (.cells (modC gen bound A n c) 25)).alloc (by simp) (.cells #[.int .u32 0,.int .u32 0,.slice none 0 0] 25)).alloc (by simp;omega) (.cells #[.int .i64 0,.int .i64 0] 28)
 have k1:=((Blk.new w 25 (modC gen bound A n c)).alloc (.cells #[.int .u32 0,.int .u32 0,.slice none 0 0] 25)).alloc (.cells #[.int .i64 0,.int .i64 0] 28);have k2:=(Blk.new (w.alloc (.cells (modC gen bound A n c) 25)) 25 #[.int .u32 0,.int .u32 0,.slice none 0 0]).alloc (.cells #[.int .i64 0,.int .i64 0] 28);have k3:=Blk.new ((w.alloc (.cells (modC gen bound A n c) 25)).alloc (.cells #[.int .u32 0,.int .u32 0,.slice none 0 0] 25)) 28 #[.int .i64 0,.int .i64 0];simp only [World.size_alloc] at k2 k3;have hsz:(((w.alloc (.cells (modC gen bound A n c) 25)).alloc (.cells #[.int .u32 0,.int .u32 0,.slice none 0 0] 25)).alloc (.cells #[.int .i64 0,.int .i64 0] 28)).heap.size=w.heap.size+3:=by simp
 have hck:=check_any gen bound ls A n c _ (hM.step hb);rw [← hL0,hi] at hck;have HL0:=Lib.hid hL0;clear hL0;generalize (idsM bound L).2=sp at *;unfold modC at *;have HM:=Lib.hid hM;clear hM;go_enter Tryz.func17,Tryz.ntmps17;go_upto_region 1 with fail
 generalize (((w.alloc (.cells #[.int .u32 gen,.int .u32 bound,.slice A n c] 25)).alloc (.cells #[.int .u32 0,.int .u32 0,.slice none 0 0] 25)).alloc (.cells #[.int .i64 0,.int .i64 0] 28))=W at *;obtain ⟨q0,q1,q2⟩:=three_ k1;go_wp2_with fail;refine hck.mono ?_;rintro e w2 ⟨rfl,hb2⟩;have hs2:=hb2.size;have hb3:=(below_cut hb hb2 (by omega)).alloc (by omega) (.cells #[.int .i64 0,.int .i64 sp] 28)
 have k1b:=(k1.step hb2).alloc (.cells #[.int .i64 0,.int .i64 sp] 28);have k2b:=(k2.step hb2).alloc (.cells #[.int .i64 0,.int .i64 sp] 28);have k3b:=(k3.step hb2).alloc (.cells #[.int .i64 0,.int .i64 sp] 28);have kS:=Blk.new w2 28 #[.int .i64 0,.int .i64 sp];have hs3:(w2.alloc (.cells #[.int .i64 0,.int .i64 sp] 28)).heap.size=w2.heap.size+1:=by simp
 clear q0 q1 q2 k1 k2 k3 hb hck;go_upto_region 2 with fail
 generalize (w2.alloc (.cells #[.int .i64 0,.int .i64 sp] 28))=W3 at *;obtain ⟨z0,z1⟩:=two_ kS;have hmm:=@run_makeMap Tryz.prog;have hm3:=MapU.made W3;rw [hs3] at hm3;obtain ⟨W4,hrun,hm4,hg4⟩:=hm3.put Tryz.underlying97 Tryz.underlying22 0 (.int .u32 0);have hb4:=(hb3.alloc hb3.size (.map #[] 0)).grown hg4 (by have:=hb3.size;simp;omega) (fun j hj=>by cases hj;have:=hb3.size;omega)
 have hne:∀ {q:Nat},q<W3.heap.size→some q≠some (w2.heap.size+1):=fun hq e=>by injection e;omega
 have k1c:=(k1b.alloc (.map #[] 0)).grown hg4 (hne k1b.lt);have k2c:=(k2b.alloc (.map #[] 0)).grown hg4 (hne k2b.lt);have k3c:=(k3b.alloc (.map #[] 0)).grown hg4 (hne k3b.lt);simp only [Option.isSome_none,Bool.false_eq_true,if_false,Nat.zero_add] at hm4;rw [toD_start L] at hm4;have hs4:=hg4.size;rw [World.size_alloc] at hs4;have hI:RnI w gen bound A n c L (w2.heap.size+1) W4.heap.size 0 (W4.alloc (.cells #[.map (some (w2.heap.size+1))] 97)) :=
  ⟨k1c.alloc _,k2c.alloc _,k3c.alloc _,Blk.new W4 97 #[.map (some (w2.heap.size+1))],hm4.alloc _,by omega,by omega,hb4.alloc hb4.size _⟩
 have h43:w2.heap.size+1<W4.heap.size:=by omega
 clear k1b k2b k3b kS k1c k2c k3c hm4 hg4 hb3 hb4;go_upto_region 5 with fail
 generalize (W4.alloc (.cells #[.map (some (w2.heap.size+1))] 97))=W5 at *;generalize w2.heap.size+1=mb at *;generalize W4.heap.size=gp at *;obtain ⟨q0,q1,q2⟩:=three_ hI.k1;have q5:=hI.kp.cell 0;go_wp2_with fail;clear z0 z1 q0 q1 q2 q5 hrun hmm hne hs4 hs3 h43 hs2 hsz;go_loopg [20] n (fun q i wr=>∃ k:Nat,k+q=n∧i=.int .i64 (k:Nat)∧RnI w gen bound A n c L mb gp k wr)
 case atStart=>exact ⟨0,by omega,rfl,hI⟩
 case round =>
  clear hI;obtain ⟨k,hq,rfl,hI⟩:=hrel;have hls:ls.length=n:=HM.out.reads.insts_len;have hmb:=hI.map.lt;have hlm:=hI.lowm;have hlp:=hI.lowp
  by_cases hlt:k<n
  ·have d1:decide (((k:Nat):Int)<(n:Nat))=true:=by rw [decide_eq_true_eq];omega
   have hlt2:((k:Nat):Int)<(n:Nat):=by omega
   obtain ⟨b,off,rfl,hbb,hcc⟩:=(HM.out.keep hI.below).reads.insts (by omega)
   obtain ⟨c0,c1,c2,c3⟩:=hcc k hlt;have hLk:L[k]?=some (ig ls k).1:=by rw [HL0.out];exact ig_map (by omega)
   have hres:=resAt_at hLk;have hsame:=toD_same hLk;have hstep:=toD_step hLk;have hnone:resAt L k≠0→(toD L k (resAt L k)).isSome=false:=fun h=>by unfold toD;rw [toN_none ho (toN_ok ho k) h];rfl
   rw [hres] at hnone;have hcb:=cntN_bd L k;generalize ig ls k=X at *;obtain ⟨⟨op,ty,res,al⟩,Ax,nx,cx⟩:=X;dsimp only at c0 c1 c2 c3 hsame hstep hnone;have hbI:=(Below.refl wr.heap.size wr).alloc (Nat.le_refl _) (.cells #[.int .u16 op,.int .u32 ty,.int .u32 res,.slice Ax nx cx] 42);have kI:=Blk.new wr 42 #[.int .u16 op,.int .u32 ty,.int .u32 res,.slice Ax nx cx];have hI6:=hI.step hbI;have hs6:(wr.alloc (.cells #[.int .u16 op,.int .u32 ty,.int .u32 res,.slice Ax nx cx] 42)).heap.size=wr.heap.size+1:=by simp
   clear hcc hLk hres hI;have HSA:=Lib.hid hsame;have HST:=Lib.hid hstep;have HNO:=Lib.hid hnone;clear hsame hstep hnone;go_upto_region 8 with fail
   generalize (wr.alloc (.cells #[.int .u16 op,.int .u32 ty,.int .u32 res,.slice Ax nx cx] 42))=W6 at *;obtain ⟨y0,y1,y2,y3⟩:=four_ kI;have m5:=hI6.kp.cell 0;simp at m5;clear c0 c1 c2 c3 hs6
   by_cases h0:res=0
   ·have dr:(res != 0)=false:=by rw [h0];rfl
    obtain ⟨e1,e2⟩:=HSA.out h0;have HN:=Lib.hid (show RnI w gen bound (some ⟨b,off,none⟩) n c L mb gp (k+1) W6 from ⟨hI6.k1,hI6.k2,hI6.k3,hI6.kp,by rw [e1,e2];exact hI6.map,hI6.lowm,hI6.lowp,hI6.below⟩)
    clear e1 e2 h0 hI6;go_wp2_with fail;go_roundg (n-(k+1))
    case measure=>omega
    case rel=>exact ⟨k+1,by omega,by go_num,HN.out⟩
   ·have dr:(res != 0)=true:=by simpa using h0
    obtain ⟨e1,e2⟩:=HST.out h0;obtain ⟨W7,hrun,hm7,hg7⟩:=hI6.map.put Tryz.underlying97 Tryz.underlying22 res (.int .u32 (cntN L k:Nat));rw [HNO.out h0] at hm7;simp only [Bool.false_eq_true,if_false] at hm7;rw [e1,← e2] at hm7;have hlen:=hI6.map.len_ (P:=Tryz.prog) Tryz.underlying97 3;obtain ⟨es,ck,hes,hez⟩:=hI6.map.size_;have hwr:IntKind.u32.wrap ((cntN L k:Nat):Int)=(cntN L k:Nat):=IntWalk.u32_in _ (by omega)
    have hwr2:((cntN L k:Nat):Int) % 4294967296=(cntN L k:Nat):=by omega
    have hne:∀ {q:Nat} {t:TypeId} {cs:Array Value},Blk W6 q t cs→some q≠some mb:=fun hq e=>by
     injection e with e
     subst e;exact hI6.map.ne_blk hq rfl
    have HN:=Lib.hid (show RnI w gen bound (some ⟨b,off,none⟩) n c L mb gp (k+1) W7 from ⟨hI6.k1.grown hg7 (hne hI6.k1),hI6.k2.grown hg7 (hne hI6.k2),hI6.k3.grown hg7 (hne hI6.k3),hI6.kp.grown hg7 (hne hI6.kp),hm7,hI6.lowm,hI6.lowp,hI6.below.grown hg7 hI6.below.size (fun j hj=>by cases hj;omega)⟩)
    clear e1 e2 h0 hI6 hne hm7 hg7;go_wp2_with fail;go_roundg (n-(k+1))
    case measure=>omega
    case rel=>exact ⟨k+1,by omega,by go_num,HN.out⟩
  ·have d1:decide (((k:Nat):Int)<(n:Nat))=false:=by rw [decide_eq_false_iff_not];omega
   obtain rfl:k=n:=by omega
   have m5:=hI.kp.cell 0;simp at m5;have hgp:=hI.kp.lt;have hto:∀ (x:Int) (w':World),Below wr.heap.size wr w'→Calls Tryz.prog 34 #[.int .u32 x,.pointer (some ⟨gp,0,none⟩)] w' fun e w''=>e=.returned (.int .u32 (toF L x))∧w'=w'':=fun x w' h =>
    rnd_any gp mb (cntN L k) (toD L k) x (toF L x) w' ((h.cell (p:=⟨gp,0,none⟩) hgp).trans m5) (hI.map.step h) (by rw [toD_get];unfold toF;rw [hL])
   have hT:=turned_any (toF L) gp gen bound A k c ls wr (HM.out.step hI.below) hn ha hto;rw [← HL0.out] at hT;unfold modC at hT;obtain ⟨q0,q1,q2⟩:=three_ hI.k1;clear hto;go_wp2_with fail;refine hT.mono ?_;rintro e w5 ⟨A',c',ls',rfl,hmap,hO,hb5⟩;have hI5:=hI.step hb5;have hs5:=hb5.size;have hgp2:=hI5.kp.lt;have hlw:w.heap.size+2<wr.heap.size:=by omega
   have kX:Blk (((w5.setCell ⟨w.heap.size,0,none⟩ (.int .u32 gen)).setCell ⟨w.heap.size,1,none⟩ (.int .u32 bound)).setCell ⟨w.heap.size,2,none⟩ (.slice A' k c')) w.heap.size 25 #[.int .u32 gen,.int .u32 bound,.slice A' k c']:=by simpa using ((hI5.k1.set_ 0 (.int .u32 gen)).set_ 1 (.int .u32 bound)).set_ 2 (.slice A' k c')
   have hfar:∀ {q:Nat} {t:TypeId} {cs:Array Value},Blk w5 q t cs→q≠w.heap.size→Blk (((w5.setCell ⟨w.heap.size,0,none⟩ (.int .u32 gen)).setCell ⟨w.heap.size,1,none⟩ (.int .u32 bound)).setCell ⟨w.heap.size,2,none⟩ (.slice A' k c')) q t cs:=fun hq hne =>
    ((hq.far (p:=⟨w.heap.size,0,none⟩) hne _).far (p:=⟨w.heap.size,1,none⟩) hne _).far (p:=⟨w.heap.size,2,none⟩) hne _
   have kY:=hfar hI5.k2 (by omega)
   have kZ:=hfar hI5.k3 (by omega)
   have kP:=hfar hI5.kp (by omega)
   have hmX:=((hI5.map.far (p:=⟨w.heap.size,0,none⟩) (by show mb≠w.heap.size;omega) (.int .u32 gen)).far (p:=⟨w.heap.size,1,none⟩) (by show mb≠w.heap.size;omega) (.int .u32 bound)).far (p:=⟨w.heap.size,2,none⟩) (by show mb≠w.heap.size;omega) (.slice A' k c')
   have hOX:=((hO.set_ (p:=⟨w.heap.size,0,none⟩) (by show w.heap.size<_;omega) (.int .u32 gen)).set_ (p:=⟨w.heap.size,1,none⟩) (by show w.heap.size<_;omega) (.int .u32 bound)).set_ (p:=⟨w.heap.size,2,none⟩) (by show w.heap.size<_;omega) (.slice A' k c')
   have hbX:=((hI5.below.setCell (p:=⟨w.heap.size,0,none⟩) (Nat.le_refl _) (.int .u32 gen)).setCell (p:=⟨w.heap.size,1,none⟩) (Nat.le_refl _) (.int .u32 bound)).setCell (p:=⟨w.heap.size,2,none⟩) (Nat.le_refl _) (.slice A' k c');have f1:=hI5.k1.frozen;obtain ⟨v0,v1,v2⟩:=three_ hI5.k1;clear hfar hT hI hO hI5 q0 q1 q2 m5;unfold modC;go_upto_region 12 with fail
   generalize ((w5.setCell ⟨w.heap.size,0,none⟩ (.int .u32 gen)).setCell ⟨w.heap.size,1,none⟩ (.int .u32 bound)).setCell ⟨w.heap.size,2,none⟩ (.slice A' k c')=W8 at *;clear f1 v0 v1 v2;have m5:=kP.cell 0;simp at m5;have hlen:=hmX.len_ (P:=Tryz.prog) Tryz.underlying97 3;obtain ⟨es,ck,hes,hez⟩:=hmX.size_;have hcb:=cntN_bd L k;have hwr:IntKind.u32.wrap ((cntN L k:Nat):Int)=(cntN L k:Nat):=IntWalk.u32_in _ (by omega)
   have hwr2:((cntN L k:Nat):Int) % 4294967296=(cntN L k:Nat):=by omega
   have f1:=kX.frozen;obtain ⟨v0,v1,v2⟩:=three_ kX;have kX2:Blk (W8.setCell ⟨w.heap.size,1,none⟩ (.int .u32 (cntN L k:Nat))) w.heap.size 25 #[.int .u32 gen,.int .u32 (cntN L k:Nat),.slice A' k c']:=by simpa using kX.set_ 1 (.int .u32 (cntN L k:Nat))
   have kY2:=kY.far (p:=⟨w.heap.size,1,none⟩) (by show w.heap.size+1≠w.heap.size;omega) (.int .u32 (cntN L k:Nat))
   have kZ2:=kZ.far (p:=⟨w.heap.size,1,none⟩) (by show w.heap.size+2≠w.heap.size;omega) (.int .u32 (cntN L k:Nat))
   have hO2:=hOX.set_ (p:=⟨w.heap.size,1,none⟩) (by show w.heap.size<_;omega) (.int .u32 (cntN L k:Nat))
   have hb2':=hbX.setCell (p:=⟨w.heap.size,1,none⟩) (Nat.le_refl _) (.int .u32 (cntN L k:Nat));clear kX kY kZ kP hmX hOX hbX;go_upto_region 13 with fail
   generalize W8.setCell ⟨w.heap.size,1,none⟩ (.int .u32 (cntN L k:Nat))=W9 at *;clear f1 v0 v1 v2 m5 hlen hes hez hwr hwr2;generalize hcnt:cntN L k=cnt at *;obtain ⟨v0,v1,v2⟩:=three_ kX2;obtain ⟨y0,y1,y2⟩:=three_ kY2;obtain ⟨x0,x1⟩:=two_ kZ2;have fY:=kY2.frozen;have fZ:=kZ2.frozen;have e3:∀ (a b c':Value),Blk (((W9.setCell ⟨w.heap.size+1,0,none⟩ a).setCell ⟨w.heap.size+1,1,none⟩ b).setCell ⟨w.heap.size+1,2,none⟩ c') (w.heap.size+1) 25 #[a,b,c']:=fun a b c'=>by simpa using ((kY2.set_ 0 a).set_ 1 b).set_ 2 c'
   have kY3:=((e3 (.int .u32 gen) (.int .u32 (cnt:Nat)) (.slice A' k c')).far (p:=⟨w.heap.size+2,0,none⟩) (by show w.heap.size+1≠w.heap.size+2;omega) (.int .i64 0)).far (p:=⟨w.heap.size+2,1,none⟩) (by show w.heap.size+1≠w.heap.size+2;omega) (.int .i64 0)
   have kZ3:Blk (((((W9.setCell ⟨w.heap.size+1,0,none⟩ (.int .u32 gen)).setCell ⟨w.heap.size+1,1,none⟩ (.int .u32 (cnt:Nat))).setCell ⟨w.heap.size+1,2,none⟩ (.slice A' k c')).setCell ⟨w.heap.size+2,0,none⟩ (.int .i64 0)).setCell ⟨w.heap.size+2,1,none⟩ (.int .i64 0)) (w.heap.size+2) 28 #[.int .i64 0,.int .i64 0]:=by
    simpa using ((((kZ2.far (p:=⟨w.heap.size+1,0,none⟩) (by show w.heap.size+2≠w.heap.size+1;omega) (.int .u32 gen)).far (p:=⟨w.heap.size+1,1,none⟩) (by show w.heap.size+2≠w.heap.size+1;omega) (.int .u32 (cnt:Nat))).far (p:=⟨w.heap.size+1,2,none⟩) (by show w.heap.size+2≠w.heap.size+1;omega) (.slice A' k c')).set_ 0 (.int .i64 0)).set_ 1 (.int .i64 0)
   have hO3:=((((hO2.set_ (p:=⟨w.heap.size+1,0,none⟩) (by show w.heap.size+1<_;omega) (.int .u32 gen)).set_ (p:=⟨w.heap.size+1,1,none⟩) (by show w.heap.size+1<_;omega) (.int .u32 (cnt:Nat))).set_ (p:=⟨w.heap.size+1,2,none⟩) (by show w.heap.size+1<_;omega) (.slice A' k c')).set_ (p:=⟨w.heap.size+2,0,none⟩) (by show w.heap.size+2<_;omega) (.int .i64 0)).set_ (p:=⟨w.heap.size+2,1,none⟩) (by show w.heap.size+2<_;omega) (.int .i64 0)
   have hb3':=((((hb2'.setCell (p:=⟨w.heap.size+1,0,none⟩) (Nat.le_add_right _ _) (.int .u32 gen)).setCell (p:=⟨w.heap.size+1,1,none⟩) (Nat.le_add_right _ _) (.int .u32 (cnt:Nat))).setCell (p:=⟨w.heap.size+1,2,none⟩) (Nat.le_add_right _ _) (.slice A' k c')).setCell (p:=⟨w.heap.size+2,0,none⟩) (Nat.le_add_right _ _) (.int .i64 0)).setCell (p:=⟨w.heap.size+2,1,none⟩) (Nat.le_add_right _ _) (.int .i64 0);have HF:=Lib.hid (⟨hmap,hO3.mod,hb3',own_cap hO3.own,fun x hx=>own_cap (hO3.args x hx).2⟩:_∧_∧_∧_∧∀ x∈ls',x.2.2.1≤x.2.2.2)
   clear hmap hO2 hO3 hb2' hb3' kX2 kY2 kZ2 e3;go_wp2_with fail;exact bodyPost_ret (renum_end rfl _ rfl rfl kY3 kZ3) rfl ⟨A',c',ls',by rw [hcnt];rfl,HF.out.1,HF.out.2.1,HF.out.2.2.1,HF.out.2.2.2⟩
end Go.Proofs.YtdebjkiilnhgpaaGreatDoor
