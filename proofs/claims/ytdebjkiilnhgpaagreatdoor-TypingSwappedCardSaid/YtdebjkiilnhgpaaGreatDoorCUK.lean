/- Walks: an instruction, a module in new memory. -/
import Derived.Test.YtdebjkiilnhgpaaGreatDoorCTS
set_option maxRecDepth 100000
set_option maxHeartbeats 4000000
namespace Go.Proofs.YtdebjkiilnhgpaaGreatDoor
open Go.RowKit Go.WideShapes
theorem slArg:SliceOf Tryz.prog 40 44 (.agg #[.int .u8 0,.int .u32 0,.string ⟨#[]⟩]) 3 24:=⟨Tryz.underlying40,by kernel_rfl,rfl,by decide⟩
def noA:ArgI:=(0,0,⟨#[]⟩)
def noI:InstA:=((0,0,0,[]),none,0,0)
section
variable {P:Program} {t e:TypeId} {z:Value} {size bytes:Nat}
theorem mk_wides (S:SliceOf P t e z size bytes) (w:World) {ops:Array Oper} {rest:List Oper} {o:Oper} {a:Act} {Q:Exit→Act→World→Prop} (hg:o.guard=none)
  (l c:Operand) (hop:o.op=.makeSlice t l c) (base n:Nat) {kl kc:IntKind} {L C:Int} (hl:a.eval l=.int kl L) (hc:a.eval c=.int kc C) (hL:L=n) (hC:C=n)
  (hb:bytes*n≤281474976710656) (h63:n≤9223372036854775807) (h4:base≤w.heap.size)
  (hK:∀ w':World,w'.ownsRow base e size (.slice (some ⟨w.heap.size,0,none⟩) n n) n (madeCells z.cells (n*size)).toList→w.grownBy w' none →
   wpList P ops Q rest (a.put o.dst (.slice (some ⟨w.heap.size,0,none⟩) n n)) w'):wpList P ops Q (o :: rest) a w:=by
 obtain ⟨i,h1,h2,h3,rfl⟩:=info_parts S.hi;exact wpList_make_full w hg l c t hop base e i z size S.ht h1 h2 h3 kl kc L C n hl hc hL hC hb (by unfold maxLen;omega) h4 hK
end
theorem Acells_set:∀ {l:List ArgI} {k:Nat} {x:ArgI},k<l.length→Acells (l.set k x)=(((Acells l).set (k*3) (.int .u8 x.1)).set (k*3+1) (.int .u32 x.2.1)).set (k*3+2) (.string x.2.2)
 | y :: r,0,x,_=>rfl
 | y :: r,k+1,x,h=>by
  have h1:=Acells_set (l:=r) (k:=k) (x:=x) (by simpa using h)
  have e:(k+1)*3=k*3+3:=by omega
  rw [e,List.set_cons_succ,Acells,h1];rfl
theorem Acells_made:∀ n:Nat,Acells (List.replicate n noA)=(madeCells #[.int .u8 0,.int .u32 0,.string ⟨#[]⟩] (n*3)).toList:=by
 intro n;refine List.ext_getElem? fun i=>?_
 rcases Nat.lt_or_ge i (n*3) with h | h
 ·obtain ⟨k,r,hr,rfl⟩:∃ k r,r<3∧i=k*3+r:=⟨i / 3,i % 3,Nat.mod_lt _ (by omega),by omega⟩
  have hk:k<(List.replicate n noA).length:=by simp;omega
  obtain ⟨h0,h1,h2⟩:=Acells_at hk;have e:ag (List.replicate n noA) k=noA:=by rw [ag_of hk];simp
  rw [e] at h0 h1 h2;have h3:(k*3+r) % 3=r:=by omega
  match r,hr with
  | 0,_=>rw [Nat.add_zero] at *;rw [h0];simp [madeCells,h,noA]
  | 1,_=>rw [h1];simp [madeCells,h,h3,noA]
  | 2,_=>rw [h2];simp [madeCells,h,h3,noA]
 ·rw [List.getElem?_eq_none (by rw [Acells_length];simpa using h),List.getElem?_eq_none (by simpa [madeCells] using h)]
theorem Icells_set:∀ {l:List InstA} {k:Nat} {x:InstA},k<l.length→Icells (l.set k x)=((((Icells l).set (k*4) (.int .u16 x.1.1)).set (k*4+1) (.int .u32 x.1.2.1)).set (k*4+2) (.int .u32 x.1.2.2.1)).set (k*4+3) (.slice x.2.1 x.2.2.1 x.2.2.2)
 | y :: r,0,x,_=>rfl
 | y :: r,k+1,x,h=>by
  have h1:=Icells_set (l:=r) (k:=k) (x:=x) (by simpa using h)
  have e:(k+1)*4=k*4+4:=by omega
  rw [e,List.set_cons_succ,Icells,h1];rfl
theorem Icells_made:∀ n:Nat,Icells (List.replicate n noI)=(madeCells #[.int .u16 0,.int .u32 0,.int .u32 0,.slice none 0 0] (n*4)).toList:=by
 intro n;refine List.ext_getElem? fun i=>?_
 rcases Nat.lt_or_ge i (n*4) with h | h
 ·obtain ⟨k,r,hr,rfl⟩:∃ k r,r<4∧i=k*4+r:=⟨i / 4,i % 4,Nat.mod_lt _ (by omega),by omega⟩
  have hk:k<(List.replicate n noI).length:=by simp;omega
  obtain ⟨h0,h1,h2,h5⟩:=Icells_at hk;have e:ig (List.replicate n noI) k=noI:=by rw [ig_of hk];simp
  rw [e] at h0 h1 h2 h5;have h3:(k*4+r) % 4=r:=by omega
  match r,hr with
  | 0,_=>rw [Nat.add_zero] at *;rw [h0];simp [madeCells,h,noI]
  | 1,_=>rw [h1];simp [madeCells,h,h3,noI]
  | 2,_=>rw [h2];simp [madeCells,h,h3,noI]
  | 3,_=>rw [h5];simp [madeCells,h,h3,noI]
 ·rw [List.getElem?_eq_none (by rw [Icells_length];simpa using h),List.getElem?_eq_none (by simpa [madeCells] using h)]
theorem ag_set_same {l:List ArgI} {k:Nat} {x:ArgI} (h:k<l.length):ag (l.set k x) k=x:=by simp [ag,List.getD,h]
theorem ag_set_other {l:List ArgI} {k j:Nat} {x:ArgI} (h:k≠j):ag (l.set k x) j=ag l j:=by simp [ag,List.getD,List.getElem?_set_ne h]
theorem ig_set_same {l:List InstA} {k:Nat} {x:InstA} (h:k<l.length):ig (l.set k x) k=x:=by simp [ig,List.getD,h]
theorem ig_set_other {l:List InstA} {k j:Nat} {x:InstA} (h:k≠j):ig (l.set k x) j=ig l j:=by simp [ig,List.getD,List.getElem?_set_ne h]
theorem ag_all {l l':List ArgI} {n:Nat} (h1:l.length=n) (h2:l'.length=n) (h:∀ j,j<n→ag l' j=ag l j):l'=l:=by
 refine List.ext_getElem (by omega) fun j hj hj'=>?_
 have:=h j (by omega)
 rwa [ag_of hj',ag_of hj] at this
theorem own_cell {w:World} {base g n c i:Nat} {e:TypeId} {size:Nat} {xs:List Value} {u:Value} (h:w.ownsRow base e size (.slice (some ⟨g,0,none⟩) n c) n xs) (h0:xs[i]?=some u):w.cell? ⟨g,i,none⟩=some u∧w.frozen? ⟨g,i,none⟩=false:=by
 have hi:=(List.getElem?_eq_some_iff.1 h0).1;exact ⟨(h.cellAt _ (by have:=h.1;omega)).trans h0,h.frozenAt _⟩
theorem inst_end {fn:Func} {p:Tmp} (h:fn.results=#[.cell p 42]) (tmps:Array Value) {W:World} {g:Nat} {a b c:Int} {v:Value} (hp:tmps.getD p undef=.pointer (some ⟨g,0,none⟩)) (kb:Blk W g 42 #[.int .u16 a,.int .u32 b,.int .u32 c,v]) :
  (results fn tmps).run Tryz.prog W=.ok (.agg #[.int .u16 a,.int .u32 b,.int .u32 c,v]) W:=by
 have ha:(asAddr (.pointer (some ⟨g,0,none⟩))).run Tryz.prog W=.ok ⟨g,0,none⟩ W:=rfl;obtain ⟨z0,z1,z2,z3⟩:=four_ kb;have hl:(loadVar 42 ⟨g,0,none⟩).run Tryz.prog W=.ok (.agg #[.int .u16 a,.int .u32 b,.int .u32 c,v]) W:=by go_simp
 rw [results_c1k h,hp,ha];simp only [Result.andThen_ok];exact hl
def InstIs (i:InstI) (n:Nat) (w:World) (e:Ending) (w':World):Prop:=∃ g,e=.returned (.agg #[.int .u16 i.1,.int .u32 i.2.1,.int .u32 i.2.2.1,.slice (some ⟨g,0,none⟩) n n]) ∧
 w'.ownsRow w.heap.size 44 3 (.slice (some ⟨g,0,none⟩) n n) n (Acells i.2.2.2)∧Below w.heap.size w w'
theorem copyInst_any (x:InstA) (w:World) (h:InstOk w w.heap.size x):Calls Tryz.prog 21 #[.agg (instC x)] w (InstIs x.1 x.2.2.1 w):=by
 obtain ⟨⟨op,ty,res,l⟩,A,n,c⟩:=x;obtain ⟨hr,hn,-,-⟩:=h;have hl:=hr.args_len;dsimp only at *;unfold instC;dsimp only;have hb:=((Below.refl w.heap.size w).alloc (Nat.le_refl _) (.cells #[.int .u16 op,.int .u32 ty,.int .u32 res,.slice A n c] 42)).alloc (by simp) (.cells #[.int .u16 0,.int .u32 0,.int .u32 0,.slice none 0 0] 42)
 have k1:=(Blk.new w 42 #[.int .u16 op,.int .u32 ty,.int .u32 res,.slice A n c]).alloc (.cells #[.int .u16 0,.int .u32 0,.int .u32 0,.slice none 0 0] 42);have k2:=Blk.new (w.alloc (.cells #[.int .u16 op,.int .u32 ty,.int .u32 res,.slice A n c] 42)) 42 #[.int .u16 0,.int .u32 0,.int .u32 0,.slice none 0 0];rw [World.size_alloc] at k2;have hsz:((w.alloc (.cells #[.int .u16 op,.int .u32 ty,.int .u32 res,.slice A n c] 42)).alloc (.cells #[.int .u16 0,.int .u32 0,.int .u32 0,.slice none 0 0] 42)).heap.size=w.heap.size+1+1:=by simp
 go_enter Tryz.func21,Tryz.ntmps21;go_upto_region 1 with fail
 generalize ((w.alloc (.cells #[.int .u16 op,.int .u32 ty,.int .u32 res,.slice A n c] 42)).alloc (.cells #[.int .u16 0,.int .u32 0,.int .u32 0,.slice none 0 0] 42))=W at *;obtain ⟨q0,q1,q2,q3⟩:=four_ k1;go_wp2_with (at_make;refine mk_wides slArg W rfl _ _ rfl w.heap.size n rfl rfl rfl rfl (by omega) (by omega) (by omega) ?_;intro w1 hown hgr)
 have k1w:=k1.grown hgr (by simp)
 have k2w:=k2.grown hgr (by simp)
 have hbw:=hb.grown hgr (by omega) (fun j hj=>by cases hj)
 clear q0 q1 q2 q3 k1 k2 hb;have HL:=Lib.hid hl;clear hl;go_loopg [4] n (fun q i wr=>∃ (k:Nat) (l':List ArgI),k+q=n∧i=.int .i64 (k:Nat)∧l'.length=n∧Hid (∀ j,j<k→ag l' j=ag l j)∧wr.ownsRow w.heap.size 44 3 (.slice (some ⟨w.heap.size+1+1,0,none⟩) n n) n (Acells l')∧Blk wr w.heap.size 42 #[.int .u16 op,.int .u32 ty,.int .u32 res,.slice A n c]∧Blk wr (w.heap.size+1) 42 #[.int .u16 0,.int .u32 0,.int .u32 0,.slice none 0 0]∧Below w.heap.size w wr)
 case atStart=>exact ⟨0,List.replicate n noA,by omega,rfl,by simp,Lib.hid (fun j hj=>absurd hj (Nat.not_lt_zero j)),by rw [Acells_made,← hsz];exact hown,k1w,k2w,hbw⟩
 case round =>
  obtain ⟨k,l',hq,rfl,hl',HA,ho,kr1,kr2,hbr⟩:=hrel;clear hown hgr k1w k2w hbw;obtain ⟨q0,q1,q2,q3⟩:=four_ kr1
  by_cases hlt:k<n
  ·obtain ⟨b,off,rfl,hb2,hc⟩:=(hr.below hbr).args (by omega)
   obtain ⟨c0,c1,c2⟩:=hc k hlt;have hs1:=own_cell ho (Acells_at (l:=l') (k:=k) (by omega)).1
   have ho1:=(ho.stored (k*3) (.int .u8 (ag l k).1)).1;have hx1:((Acells l').set (k*3) (.int .u8 (ag l k).1))[k*3+1]?=some (.int .u32 (ag l' k).2.1):=by rw [List.getElem?_set_ne (by omega)];exact (Acells_at (by omega)).2.1
   have hs2:=own_cell ho1 hx1;have ho2:=(ho1.stored (k*3+1) (.int .u32 (ag l k).2.1)).1;have hx2:(((Acells l').set (k*3) (.int .u8 (ag l k).1)).set (k*3+1) (.int .u32 (ag l k).2.1))[k*3+2]?=some (.string (ag l' k).2.2):=by rw [List.getElem?_set_ne (by omega),List.getElem?_set_ne (by omega)];exact (Acells_at (by omega)).2.2
   have hs3:=own_cell ho2 hx2;have ho3:=(ho2.stored (k*3+2) (.string (ag l k).2.2)).1;rw [← Acells_set (x:=ag l k) (by omega)] at ho3
   have kr1':=((kr1.far (p:=⟨w.heap.size+1+1,k*3,none⟩) (by show w.heap.size≠w.heap.size+1+1;omega) (.int .u8 (ag l k).1)).far (p:=⟨w.heap.size+1+1,k*3+1,none⟩) (by show w.heap.size≠w.heap.size+1+1;omega) (.int .u32 (ag l k).2.1)).far (p:=⟨w.heap.size+1+1,k*3+2,none⟩) (by show w.heap.size≠w.heap.size+1+1;omega) (.string (ag l k).2.2)
   have kr2':=((kr2.far (p:=⟨w.heap.size+1+1,k*3,none⟩) (by show w.heap.size+1≠w.heap.size+1+1;omega) (.int .u8 (ag l k).1)).far (p:=⟨w.heap.size+1+1,k*3+1,none⟩) (by show w.heap.size+1≠w.heap.size+1+1;omega) (.int .u32 (ag l k).2.1)).far (p:=⟨w.heap.size+1+1,k*3+2,none⟩) (by show w.heap.size+1≠w.heap.size+1+1;omega) (.string (ag l k).2.2)
   have hb3:=((hbr.setCell (p:=⟨w.heap.size+1+1,k*3,none⟩) (by show w.heap.size≤w.heap.size+1+1;omega) (.int .u8 (ag l k).1)).setCell (p:=⟨w.heap.size+1+1,k*3+1,none⟩) (by show w.heap.size≤w.heap.size+1+1;omega) (.int .u32 (ag l k).2.1)).setCell (p:=⟨w.heap.size+1+1,k*3+2,none⟩) (by show w.heap.size≤w.heap.size+1+1;omega) (.string (ag l k).2.2)
   have HA2:Hid (∀ j,j<k+1→ag (l'.set k (ag l k)) j=ag l j):=Lib.hid (fun j hj=>by
    rcases Nat.lt_succ_iff_lt_or_eq.1 hj with h | rfl
    ·rw [ag_set_other (by omega)];exact HA.out j h
    ·rw [ag_set_same (by omega)])
   have hll:(l'.set k (ag l k)).length=n:=by rw [List.length_set];exact hl'
   generalize l'.set k (ag l k)=l2 at *;generalize ag l k=x at *;generalize ag l' k=x' at *;obtain ⟨x1,x2,x3⟩:=x;obtain ⟨y1,y2,y3⟩:=x';dsimp only at c0 c1 c2 hs1 hs2 hs3 ho3 kr1' kr2' hb3;obtain ⟨s1,f1⟩:=hs1;obtain ⟨s2,f2⟩:=hs2;obtain ⟨s3,f3⟩:=hs3;have HO:=Lib.hid ho3;have HLL:=Lib.hid hll;clear hc ho ho1 ho2 ho3 hx1 hx2 hll hl' HA;go_wp2_with fail;go_roundg (n-(k+1))
   case measure=>omega
   case rel=>exact ⟨k+1,l2,by omega,by go_num,HLL.out,HA2,HO.out,kr1',kr2',hb3⟩
  ·obtain rfl:gk=0:=by omega
   obtain rfl:k=n:=by omega
   have he:=ag_all HL.out hl' HA.out;subst he;have ho1:=own_set_other (p:=⟨w.heap.size,3,none⟩) ho (by simp [Value.ownBlock];omega) (.slice (some ⟨w.heap.size+1+1,0,none⟩) k k)
   have f1:=kr1.frozen 3;have kr3:Blk (wr.setCell ⟨w.heap.size,3,none⟩ (.slice (some ⟨w.heap.size+1+1,0,none⟩) k k)) w.heap.size 42 #[.int .u16 op,.int .u32 ty,.int .u32 res,.slice (some ⟨w.heap.size+1+1,0,none⟩) k k]:=by simpa using kr1.set_ 3 (.slice (some ⟨w.heap.size+1+1,0,none⟩) k k)
   have kr4:=kr2.far (p:=⟨w.heap.size,3,none⟩) (by show w.heap.size+1≠w.heap.size;omega) (.slice (some ⟨w.heap.size+1+1,0,none⟩) k k)
   obtain ⟨p0,p1,p2,p3⟩:=four_ kr3;obtain ⟨r0,r1,r2,r3⟩:=four_ kr4;have fr:=kr4.frozen;have HO:=Lib.hid ho1;clear ho ho1;have HB:=Lib.hid (hbr.setCell (p:=⟨w.heap.size,3,none⟩) (Nat.le_refl _) (.slice (some ⟨w.heap.size+1+1,0,none⟩) k k));go_wp2_with fail;have ne1:(Value.slice (some ⟨w.heap.size+1+1,0,none⟩) k k).ownBlock≠some (w.heap.size+1):=by simp [Value.ownBlock]
   exact bodyPost_ret (inst_end rfl _ rfl (by simpa using (((kr4.set_ 0 (.int .u16 op)).set_ 1 (.int .u32 ty)).set_ 2 (.int .u32 res)).set_ 3 (.slice (some ⟨w.heap.size+1+1,0,none⟩) k k))) rfl
    (show InstIs (op,ty,res,l') k w _ _ from ⟨w.heap.size+1+1,rfl,own_set_other (p:=⟨w.heap.size+1,3,none⟩) (own_set_other (p:=⟨w.heap.size+1,2,none⟩) (own_set_other (p:=⟨w.heap.size+1,1,none⟩) (own_set_other (p:=⟨w.heap.size+1,0,none⟩) HO.out ne1 _) ne1 _) ne1 _) ne1 _,
     (((HB.out.setCell (p:=⟨w.heap.size+1,0,none⟩) (Nat.le_succ _) _).setCell (p:=⟨w.heap.size+1,1,none⟩) (Nat.le_succ _) _).setCell (p:=⟨w.heap.size+1,2,none⟩) (Nat.le_succ _) _).setCell (p:=⟨w.heap.size+1,3,none⟩) (Nat.le_succ _) _⟩)
theorem own_apart {W:World} {base base' size size' n n':Nat} {e e':TypeId} {v v':Value} {xs xs':List Value} (h:W.ownsRow base e size v n xs) (h':W.ownsRow base' e' size' v' n' xs') (hne:e≠e') (k:Nat) (hk:v.ownBlock=some k):v'.ownBlock≠some k:=by
 rcases h.2 with ⟨rfl,_⟩ | ⟨g,cap,cur,rfl,_,hh,_⟩
 ·cases hk
 ·have e1:g=k:=by simpa [Value.ownBlock] using hk
  subst e1;exact own_blk_ne h' (t:=e) (cs:=cur) hh (fun e2=>hne e2.symm)
def ArgO (W:World) (B:Nat) (x:InstA):Prop:=∃ g,x.2=(some ⟨g,0,none⟩,x.2.2.1,x.2.2.1)∧W.ownsRow B 44 3 (.slice (some ⟨g,0,none⟩) x.2.2.1 x.2.2.1) x.2.2.1 (Acells x.1.2.2.2)
theorem ArgO.ok {W:World} {B:Nat} {x:InstA} (h:ArgO W B x) (h1:Under 256 (kinds x.1.2.2.2)) (h2:∀ a∈x.1.2.2.2,a.2.2.size≤140737488351232) (hn:x.2.2.1≤6000000000000):InstOk W W.heap.size x:=by
 obtain ⟨g,e,ho⟩:=h;refine ⟨?_,hn,h1,h2⟩;have e1:x.2.1=some ⟨g,0,none⟩:=by rw [e]
 rw [e1];exact Reads.of_own ho
def OwnM (B:Nat) (W:World) (g n:Nat) (l:List InstA):Prop:=W.ownsRow B 42 4 (.slice (some ⟨g,0,none⟩) n n) n (Icells l)∧∀ x∈l,ArgO W B x
def ModIsO (gen bound:Int) (L:List InstI) (w:World) (e:Ending) (w':World):Prop:=∃ (g:Nat) (l:List InstA),e=.returned (.agg (modC gen bound (some ⟨g,0,none⟩) L.length L.length))∧ModS w' w'.heap.size (some ⟨g,0,none⟩) L.length l∧l.map (·.1)=L∧Below w.heap.size w w'∧OwnM w.heap.size w' g L.length l
theorem ModIsO.is {gen bound:Int} {L:List InstI} {w w':World} {e:Ending} (h:ModIsO gen bound L w e w'):ModIs gen bound L w e w':=by
 obtain ⟨g,l,h1,h2,h3,h4,-⟩:=h;exact ⟨_,_,l,h1,h2,h3,h4⟩
theorem copyModule_own (gen bound:Int) (A:Option Addr) (n c:Nat) (ls:List InstA) (w:World) (hM:ModS w w.heap.size A n ls) (hn:n≤3600000000000) :
  Calls Tryz.prog 8 #[.agg (modC gen bound A n c)] w (ModIsO gen bound (ls.map (·.1)) w):=by
 have hL:=hM.length;obtain ⟨L,hL0⟩:∃ L,L=ls.map (·.1):=⟨_,rfl⟩;rw [← hL0];have HL0:=Lib.hid hL0;clear hL0;unfold modC;have hb:=((Below.refl w.heap.size w).alloc (Nat.le_refl _) (.cells #[.int .u32 gen,.int .u32 bound,.slice A n c] 25)).alloc (by simp) (.cells #[.int .u32 0,.int .u32 0,.slice none 0 0] 25)
 have k1:=(Blk.new w 25 #[.int .u32 gen,.int .u32 bound,.slice A n c]).alloc (.cells #[.int .u32 0,.int .u32 0,.slice none 0 0] 25);have k2:=Blk.new (w.alloc (.cells #[.int .u32 gen,.int .u32 bound,.slice A n c] 25)) 25 #[.int .u32 0,.int .u32 0,.slice none 0 0];rw [World.size_alloc] at k2;have hsz:((w.alloc (.cells #[.int .u32 gen,.int .u32 bound,.slice A n c] 25)).alloc (.cells #[.int .u32 0,.int .u32 0,.slice none 0 0] 25)).heap.size=w.heap.size+1+1:=by simp
 go_enter Tryz.func8,Tryz.ntmps8;go_upto_region 1 with fail
 generalize ((w.alloc (.cells #[.int .u32 gen,.int .u32 bound,.slice A n c] 25)).alloc (.cells #[.int .u32 0,.int .u32 0,.slice none 0 0] 25))=W at *;obtain ⟨q0,q1,q2⟩:=three_ k1;go_wp2_with (at_make;refine mk_wides slInst W rfl _ _ rfl w.heap.size n rfl rfl rfl rfl (by omega) (by omega) (by omega) ?_;intro w1 hown hgr)
 have k1w:=k1.grown hgr (by simp)
 have k2w:=k2.grown hgr (by simp)
 have hbw:=hb.grown hgr (by omega) (fun j hj=>by cases hj)
 have hszw:=hgr.size;rw [hsz] at hszw;clear q0 q1 q2 k1 k2 hb;have HL:=Lib.hid hL;clear hL;go_loopg [4] n (fun q i wr=>∃ (k:Nat) (l':List InstA),k+q=n∧i=.int .i64 (k:Nat)∧l'.length=n∧Hid (∀ j,j<k→(ig l' j).1=(ig ls j).1∧(ig l' j).2.2.1=(ig ls j).2.2.1∧ArgO wr w.heap.size (ig l' j))∧wr.ownsRow w.heap.size 42 4 (.slice (some ⟨w.heap.size+1+1,0,none⟩) n n) n (Icells l')∧Blk wr w.heap.size 25 #[.int .u32 gen,.int .u32 bound,.slice A n c]∧Blk wr (w.heap.size+1) 25 #[.int .u32 0,.int .u32 0,.slice none 0 0]∧Below w.heap.size w wr∧w.heap.size+1+1<wr.heap.size)
 case atStart=>exact ⟨0,List.replicate n noI,by omega,rfl,by simp,Lib.hid (fun j hj=>absurd hj (Nat.not_lt_zero j)),by rw [Icells_made,← hsz];exact hown,k1w,k2w,hbw,by
  have:=(hown.lt W.heap.size (by simp [Value.ownBlock])).2
  omega⟩
 case round =>
  obtain ⟨k,l',hq,rfl,hl',HA,ho,kr1,kr2,hbr,hwr⟩:=hrel;clear hown hgr k1w k2w hbw;obtain ⟨q0,q1,q2⟩:=three_ kr1
  by_cases hlt:k<n
  ·have hMr:=hM.keep hbr;obtain ⟨b,off,rfl,hbb,hcc⟩:=hMr.reads.insts (by omega)
   obtain ⟨c0,c1,c2,c3⟩:=hcc k hlt;have hls:ls.length=n:=by have:=HL.out;rwa [List.length_map] at this
   have hio:=(hMr.ok _ (ig_mem (l:=ls) (k:=k) (by omega))).more hbr.size
   have hci:=copyInst_any (ig ls k) wr hio;unfold InstIs instC at hci;have hlen:=(hMr.ok _ (ig_mem (l:=ls) (k:=k) (by omega))).len
   generalize hX:ig ls k=X at *;obtain ⟨⟨op,ty,res,l⟩,A',n',c'⟩:=X;dsimp only at c0 c1 c2 c3 hci hlen;have HX:=Lib.hid hX;have HM:=Lib.hid hMr;clear hcc hX hio hMr hM hls;go_wp2_with fail;refine hci.mono ?_;rintro e w2 ⟨g,rfl,hga,hb2⟩;have hb3:=below_cut hbr hb2 (Nat.le_refl _);have ho2:=own_below ho hb2;have kr1b:=kr1.step hb2;have kr2b:=kr2.step hb2;have hs2:=hb2.size;have HA1:Hid (∀ j,j<k→(ig l' j).1=(ig ls j).1∧(ig l' j).2.2.1=(ig ls j).2.2.1∧ArgO w2 w.heap.size (ig l' j)):=Lib.hid (fun j hj=>by
    obtain ⟨h1,h2,g',h3,h4⟩:=HA.out j hj;exact ⟨h1,h2,g',h3,own_below h4 hb2⟩)
   have hg9:=own_base hga (show w.heap.size≤wr.heap.size by omega)
   obtain ⟨y0,y1,y2,y3⟩:=Icells_at (l:=l') (k:=k) (by omega)
   have hs1:=own_cell ho2 y0;have ho3:=(ho2.stored (k*4) (.int .u16 op)).1;have hx1:((Icells l').set (k*4) (.int .u16 op))[k*4+1]?=some (.int .u32 (ig l' k).1.2.1):=by rw [List.getElem?_set_ne (by omega)];exact y1
   have hs3:=own_cell ho3 hx1;have ho4:=(ho3.stored (k*4+1) (.int .u32 ty)).1;have hx2:(((Icells l').set (k*4) (.int .u16 op)).set (k*4+1) (.int .u32 ty))[k*4+2]?=some (.int .u32 (ig l' k).1.2.2.1):=by rw [List.getElem?_set_ne (by omega),List.getElem?_set_ne (by omega)];exact y2
   have hs4:=own_cell ho4 hx2;have ho5:=(ho4.stored (k*4+2) (.int .u32 res)).1;have hx3:((((Icells l').set (k*4) (.int .u16 op)).set (k*4+1) (.int .u32 ty)).set (k*4+2) (.int .u32 res))[k*4+3]?=some (.slice (ig l' k).2.1 (ig l' k).2.2.1 (ig l' k).2.2.2):=by rw [List.getElem?_set_ne (by omega),List.getElem?_set_ne (by omega),List.getElem?_set_ne (by omega)];exact y3
   have hs5:=own_cell ho5 hx3;have ho6:=(ho5.stored (k*4+3) (.slice (some ⟨g,0,none⟩) n' n')).1;have e6:=Icells_set (l:=l') (k:=k) (x:=((op,ty,res,l),some ⟨g,0,none⟩,n',n')) (by omega)
   dsimp only at e6;rw [← e6] at ho6;have hne:∀ {y:InstA},ArgO w2 w.heap.size y→ArgO ((((w2.setCell ⟨w.heap.size+1+1,k*4,none⟩ (.int .u16 op)).setCell ⟨w.heap.size+1+1,k*4+1,none⟩ (.int .u32 ty)).setCell ⟨w.heap.size+1+1,k*4+2,none⟩ (.int .u32 res)).setCell ⟨w.heap.size+1+1,k*4+3,none⟩ (.slice (some ⟨g,0,none⟩) n' n')) w.heap.size y:=fun {y} hy=>by
    obtain ⟨g',h1,h2⟩:=hy;have hn2:=own_apart ho2 h2 (by decide) (w.heap.size+1+1) (by simp [Value.ownBlock])
    exact ⟨g',h1,own_set_other (p:=⟨w.heap.size+1+1,k*4+3,none⟩) (own_set_other (p:=⟨w.heap.size+1+1,k*4+2,none⟩) (own_set_other (p:=⟨w.heap.size+1+1,k*4+1,none⟩) (own_set_other (p:=⟨w.heap.size+1+1,k*4,none⟩) h2 hn2 _) hn2 _) hn2 _) hn2 _⟩
   have hnew:ArgO w2 w.heap.size ((op,ty,res,l),some ⟨g,0,none⟩,n',n'):=⟨g,rfl,hg9⟩;have HA2:Hid (∀ j,j<k+1→(ig (l'.set k ((op,ty,res,l),some ⟨g,0,none⟩,n',n')) j).1=(ig ls j).1∧(ig (l'.set k ((op,ty,res,l),some ⟨g,0,none⟩,n',n')) j).2.2.1=(ig ls j).2.2.1∧ArgO ((((w2.setCell ⟨w.heap.size+1+1,k*4,none⟩ (.int .u16 op)).setCell ⟨w.heap.size+1+1,k*4+1,none⟩ (.int .u32 ty)).setCell ⟨w.heap.size+1+1,k*4+2,none⟩ (.int .u32 res)).setCell ⟨w.heap.size+1+1,k*4+3,none⟩ (.slice (some ⟨g,0,none⟩) n' n')) w.heap.size (ig (l'.set k ((op,ty,res,l),some ⟨g,0,none⟩,n',n')) j)):=Lib.hid (fun j hj=>by
    rcases Nat.lt_succ_iff_lt_or_eq.1 hj with h | rfl
    ·rw [ig_set_other (by omega)]
     obtain ⟨h1,h2,h3⟩:=HA1.out j h;exact ⟨h1,h2,hne h3⟩
    ·rw [ig_set_same (by omega),HX.out]
     exact ⟨rfl,rfl,hne hnew⟩)
   have hfar:∀ {q:Nat} {t:TypeId} {cs:Array Value},Blk w2 q t cs→q≠w.heap.size+1+1→Blk ((((w2.setCell ⟨w.heap.size+1+1,k*4,none⟩ (.int .u16 op)).setCell ⟨w.heap.size+1+1,k*4+1,none⟩ (.int .u32 ty)).setCell ⟨w.heap.size+1+1,k*4+2,none⟩ (.int .u32 res)).setCell ⟨w.heap.size+1+1,k*4+3,none⟩ (.slice (some ⟨g,0,none⟩) n' n')) q t cs:=fun hq hne =>
    (((hq.far (p:=⟨w.heap.size+1+1,k*4,none⟩) hne _).far (p:=⟨w.heap.size+1+1,k*4+1,none⟩) hne _).far (p:=⟨w.heap.size+1+1,k*4+2,none⟩) hne _).far (p:=⟨w.heap.size+1+1,k*4+3,none⟩) hne _
   have kr1c:=hfar kr1b (by omega)
   have kr2c:=hfar kr2b (by omega)
   have hb4:=(((hb3.setCell (p:=⟨w.heap.size+1+1,k*4,none⟩) (by show w.heap.size≤w.heap.size+1+1;omega) (.int .u16 op)).setCell (p:=⟨w.heap.size+1+1,k*4+1,none⟩) (by show w.heap.size≤w.heap.size+1+1;omega) (.int .u32 ty)).setCell (p:=⟨w.heap.size+1+1,k*4+2,none⟩) (by show w.heap.size≤w.heap.size+1+1;omega) (.int .u32 res)).setCell (p:=⟨w.heap.size+1+1,k*4+3,none⟩) (by show w.heap.size≤w.heap.size+1+1;omega) (.slice (some ⟨g,0,none⟩) n' n')
   have hll:(l'.set k ((op,ty,res,l),some ⟨g,0,none⟩,n',n')).length=n:=by rw [List.length_set];exact hl'
   generalize l'.set k ((op,ty,res,l),some ⟨g,0,none⟩,n',n')=l2 at *;generalize ig l' k=x' at *;obtain ⟨⟨o1,o2,o3,o4⟩,o5,o6,o7⟩:=x';dsimp only at hs1 hs3 hs4 hs5;obtain ⟨s1,f1⟩:=hs1;obtain ⟨s2,f2⟩:=hs3;obtain ⟨s3,f3⟩:=hs4;obtain ⟨s4,f4⟩:=hs5;have HO:=Lib.hid ho6;have HLL:=Lib.hid hll;clear q0 q1 q2 c0 c1 c2 c3 ho ho2 ho3 ho4 ho5 ho6 hx1 hx2 hx3 y0 y1 y2 y3 e6 hll hl' HA HA1 hci hga hg9 hnew hne hfar kr1b kr2b;obtain ⟨q0,q1,q2⟩:=three_ kr1c;go_wp2_with fail;go_roundg (n-(k+1))
   case measure=>omega
   case rel=>exact ⟨k+1,l2,by omega,by go_num,HLL.out,HA2,HO.out,kr1c,kr2c,hb4,by simp;omega⟩
  ·obtain rfl:gk=0:=by omega
   obtain rfl:k=n:=by omega
   have hls:ls.length=k:=by have:=HL.out;rwa [List.length_map] at this
   have hmap:l'.map (·.1)=ls.map (·.1):=by
    refine List.ext_getElem (by simp;omega) fun j hj hj'=>?_
    rw [List.length_map] at hj;have:=(HA.out j (by omega)).1
    rw [ig_of hj,ig_of (by omega)] at this
    simpa using this
   have hLL:=HL0.out;rw [← hLL] at hmap;have hlen2:L.length=k:=by rw [hLL,List.length_map];exact hls
   have HA3:Hid (∀ x∈l',ArgO wr w.heap.size x∧Under 256 (kinds x.1.2.2.2)∧(∀ a∈x.1.2.2.2,a.2.2.size≤140737488351232)∧x.2.2.1≤6000000000000):=Lib.hid (fun x hx=>by
    obtain ⟨j,hj,rfl⟩:=List.getElem_of_mem hx;obtain ⟨h1,h2,h3⟩:=HA.out j (by omega)
    rw [ig_of hj] at h1 h2 h3;have hio:=hM.ok _ (ig_mem (l:=ls) (k:=j) (by omega))
    exact ⟨h3,by rw [h1];exact hio.kinds,by rw [h1];exact hio.text,by rw [h2];exact hio.len⟩)
   have ho1:=own_set_other (p:=⟨w.heap.size,2,none⟩) ho (by simp [Value.ownBlock];omega) (.slice (some ⟨w.heap.size+1+1,0,none⟩) k k)
   have fz1:=kr1.frozen 2;have kr3:Blk (wr.setCell ⟨w.heap.size,2,none⟩ (.slice (some ⟨w.heap.size+1+1,0,none⟩) k k)) w.heap.size 25 #[.int .u32 gen,.int .u32 bound,.slice (some ⟨w.heap.size+1+1,0,none⟩) k k]:=by simpa using kr1.set_ 2 (.slice (some ⟨w.heap.size+1+1,0,none⟩) k k)
   have kr4:=kr2.far (p:=⟨w.heap.size,2,none⟩) (by show w.heap.size+1≠w.heap.size;omega) (.slice (some ⟨w.heap.size+1+1,0,none⟩) k k)
   have hne:∀ {y:InstA},ArgO wr w.heap.size y→ArgO ((((wr.setCell ⟨w.heap.size,2,none⟩ (.slice (some ⟨w.heap.size+1+1,0,none⟩) k k)).setCell ⟨w.heap.size+1,0,none⟩ (.int .u32 gen)).setCell ⟨w.heap.size+1,1,none⟩ (.int .u32 bound)).setCell ⟨w.heap.size+1,2,none⟩ (.slice (some ⟨w.heap.size+1+1,0,none⟩) k k)) w.heap.size y:=fun {y} hy=>by
    obtain ⟨g',h1,h2⟩:=hy;have hn1:=own_blk_ne h2 kr1 (by decide)
    have hn2:=own_blk_ne h2 kr2 (by decide)
    exact ⟨g',h1,own_set_other (p:=⟨w.heap.size+1,2,none⟩) (own_set_other (p:=⟨w.heap.size+1,1,none⟩) (own_set_other (p:=⟨w.heap.size+1,0,none⟩) (own_set_other (p:=⟨w.heap.size,2,none⟩) h2 hn1 _) hn2 _) hn2 _) hn2 _⟩
   have ne1:(Value.slice (some ⟨w.heap.size+1+1,0,none⟩) k k).ownBlock≠some (w.heap.size+1):=by simp [Value.ownBlock]
   have HF:Hid (ModIsO gen bound L w (.returned (.agg (modC gen bound (some ⟨w.heap.size+1+1,0,none⟩) k k))) ((((wr.setCell ⟨w.heap.size,2,none⟩ (.slice (some ⟨w.heap.size+1+1,0,none⟩) k k)).setCell ⟨w.heap.size+1,0,none⟩ (.int .u32 gen)).setCell ⟨w.heap.size+1,1,none⟩ (.int .u32 bound)).setCell ⟨w.heap.size+1,2,none⟩ (.slice (some ⟨w.heap.size+1+1,0,none⟩) k k))):=Lib.hid (by
    have hO:OwnM w.heap.size ((((wr.setCell ⟨w.heap.size,2,none⟩ (.slice (some ⟨w.heap.size+1+1,0,none⟩) k k)).setCell ⟨w.heap.size+1,0,none⟩ (.int .u32 gen)).setCell ⟨w.heap.size+1,1,none⟩ (.int .u32 bound)).setCell ⟨w.heap.size+1,2,none⟩ (.slice (some ⟨w.heap.size+1+1,0,none⟩) k k)) (w.heap.size+1+1) k l':=⟨own_set_other (p:=⟨w.heap.size+1,2,none⟩) (own_set_other (p:=⟨w.heap.size+1,1,none⟩) (own_set_other (p:=⟨w.heap.size+1,0,none⟩) ho1 ne1 _) ne1 _) ne1 _,fun x hx=>hne (HA3.out x hx).1⟩
    refine ⟨w.heap.size+1+1,l',by rw [hlen2],?_,hmap,(((hbr.setCell (p:=⟨w.heap.size,2,none⟩) (Nat.le_refl _) _).setCell (p:=⟨w.heap.size+1,0,none⟩) (Nat.le_succ _) _).setCell (p:=⟨w.heap.size+1,1,none⟩) (Nat.le_succ _) _).setCell (p:=⟨w.heap.size+1,2,none⟩) (Nat.le_succ _) _,by rw [hlen2];exact hO⟩
    rw [hlen2];refine ⟨by omega,Reads.of_own (own_set_other (p:=⟨w.heap.size+1,2,none⟩) (own_set_other (p:=⟨w.heap.size+1,1,none⟩) (own_set_other (p:=⟨w.heap.size+1,0,none⟩) ho1 ne1 _) ne1 _) ne1 _),fun x hx=>?_⟩
    obtain ⟨h1,h2,h3,h4⟩:=HA3.out x hx;exact (hne h1).ok h2 h3 h4)
   obtain ⟨p0,p1,p2⟩:=three_ kr3;obtain ⟨r0,r1,r2⟩:=three_ kr4;have fr:=kr4.frozen;clear ho ho1 hne HA HA3 hM hlen2 hmap hLL hls HL;go_wp2_with fail;exact bodyPost_ret (mod_end rfl _ rfl (by simpa using ((kr4.set_ 0 (.int .u32 gen)).set_ 1 (.int .u32 bound)).set_ 2 (.slice (some ⟨w.heap.size+1+1,0,none⟩) k k))) rfl HF.out
end Go.Proofs.YtdebjkiilnhgpaaGreatDoor
