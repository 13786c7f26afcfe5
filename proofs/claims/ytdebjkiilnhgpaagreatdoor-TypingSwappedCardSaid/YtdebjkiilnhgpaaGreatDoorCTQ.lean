/- Walks: again. -/
import Derived.Test.YtdebjkiilnhgpaaGreatDoorCUG
import Derived.Test.YtdebjkiilnhgpaaGreatDoorCTN
import Derived.Test.YtdebjkiilnhgpaaGreatDoorCUL
import Derived.Lib.ItoaLen
import Derived.Lib.AppendIntMem
import Derived.Test.YtdebjkiilnhgpaaGreatDoorCTJ
import Derived.Test.YtdebjkiilnhgpaaGreatDoorCTM
set_option maxRecDepth 100000
set_option maxHeartbeats 4000000
namespace Go.Proofs.YtdebjkiilnhgpaaGreatDoor
section
open Go.RowKit
def Pow (w : World) : Prop := Lib.TabIs Tryz.prog w "internal/strconv.uint64pow10" .u64 Lib.pow10Tab
theorem Pow.grown {w w':World} {row:Option Nat} (h:Pow w) (hg:w.grownBy w' row) (hr:∀ r,row=some r→∃ o:Obj,w.heap[r]?=some o∧o.isCells=false):Pow w':=by
 unfold Pow Lib.TabIs World.var? at *;cases hn : Tryz.prog.globalNamed "internal/strconv.uint64pow10" with
 | none=>rw [hn] at h;cases h
 | some g =>
  rw [hn] at h;simp only [Option.bind_some] at h ⊢;have hlt:g<w.heap.size:=by
   rcases Nat.lt_or_ge g w.heap.size with h1 | h1
   ·exact h1
   ·rw [Array.getElem?_eq_none h1] at h;cases h
  have hb:w'.heap[g]?=w.heap[g]?:=by
   refine hg.block g hlt ?_;intro e;obtain ⟨o,ho,hc⟩:=hr g e.symm;rw [ho] at h;cases o with
   | cells cs t f=>cases hc
   | _=>cases h
  rw [hb];exact h
theorem Pow.step {w w':World} (h:Pow w) (hb:Below w.heap.size w w'):Pow w':=h.grown (row:=none) ⟨hb.os,hb.tape,hb.output,hb.size,fun i hi _=>hb.block i hi⟩ (fun r e=>by cases e)
theorem grown_same_row {a w w':World} {row:Option Nat} (h:a.grownBy w row) (hg:w.grownBy w' row):a.grownBy w' row :=
 ⟨hg.os.trans h.os,hg.tape.trans h.tape,hg.output.trans h.output,Nat.le_trans h.size hg.size,fun i hi hne=>(hg.block i (Nat.lt_of_lt_of_le hi h.size) hne).trans (h.block i hi hne)⟩
theorem itoa_any (n:Int) (w:World) (h:Pow w) (h0:0≤n∧n<4294967296):Calls Tryz.prog 56 #[.int .i64 n] w fun e w'=>e=.returned (.string ⟨(Lib.itoa n).toArray⟩)∧Below w.heap.size w w':=by
 refine (Tryz.strconv_Itoa n (by omega) (by omega) w h).mono ?_
 rintro e w' ⟨rfl,k,os,rfl⟩;exact ⟨rfl,Lib.below_grow _ _ (Nat.le_refl _) _ _⟩
structure SeenM (w:World) (bs m:Nat) (R:ByteArray→Int):Prop where
 mp:∃ (cnt:Nat) (has:ByteArray→Bool),MapS w bs cnt (fun s=>if has s=true then some (.int .i64 (R s)) else none)∧∀ s,has s=false→R s=0
 top:∀ s,0≤R s∧R s≤(m:Int)
theorem zero_i64 (w:World):(zeroValue 3).run Tryz.prog w=.ok (.int .i64 0) w:=by kernel_rfl
section
variable {w w':World} {bs m:Nat} {R:ByteArray→Int}
theorem SeenM.lt (h:SeenM w bs m R):bs<w.heap.size:=by obtain ⟨cnt,has,hm,-⟩:=h.mp;exact hm.lt
theorem SeenM.same (h:SeenM w bs m R) (hm:w'.heap[bs]?=w.heap[bs]?):SeenM w' bs m R:=by
 obtain ⟨cnt,has,h1,h2⟩:=h.mp;exact ⟨⟨cnt,has,h1.same hm,h2⟩,h.top⟩
theorem SeenM.more (h:SeenM w bs m R):SeenM w bs (m+1) R:=⟨h.mp,fun s=>⟨(h.top s).1,by have:=(h.top s).2;omega⟩⟩
theorem SeenM.look (h:SeenM w bs m R) (s:ByteArray):(Instr.lookup 83 (.map (some bs)) (.string s) false).run Tryz.prog w=.ok (.int .i64 (R s)) w:=by
 obtain ⟨cnt,has,hm,h0⟩:=h.mp;have:=hm.look (P:=Tryz.prog) Tryz.underlying83 Tryz.underlying9 (zero_i64 w) s false;rw [this];simp only [Bool.false_eq_true,if_false];cases hh:has s with
 | true=>simp
 | false=>rw [h0 s hh];simp
theorem SeenM.row (h:SeenM w bs m R):∀ r,some bs=some r→∃ o:Obj,w.heap[r]?=some o∧o.isCells=false:=by
 obtain ⟨cnt,has,⟨es,clock,hb,-⟩,-⟩:=h.mp;rintro r e;cases e
 exact ⟨_,hb,rfl⟩
theorem SeenM.put (h:SeenM w bs m R) (s:ByteArray):∃ w',(Instr.mapUpdate 83 (.map (some bs)) (.string s) (.int .i64 (R s+1))).run Tryz.prog w=.ok () w'∧SeenM w' bs (m+1) (bump R s)∧w.grownBy w' (some bs):=by
 obtain ⟨cnt,has,hm,h0⟩:=h.mp;obtain ⟨w',h1,h2,h3⟩:=MapS.put (P:=Tryz.prog) hm Tryz.underlying83 Tryz.underlying9 s (.int .i64 (R s+1));refine ⟨w',h1,⟨⟨_,fun x=>decide (x=s)||has x,h2.ext ?_,?_⟩,?_⟩,h3⟩
 ·intro k;unfold keyS setS bump;cases k <;> try rfl
  rename_i x
  by_cases hx:x=s
  ·subst hx;simp
  ·simp [hx]
 ·intro x hx;simp at hx;unfold bump;rw [if_neg hx.1];exact h0 x hx.2
 ·intro x;have:=h.top x;unfold bump
  split <;> omega
end
theorem again_any (gm bs m:Nat) (R:ByteArray→Int) (x:InstA) (w:World) (hk2:w.cell? ⟨gm,2,none⟩=some (.map (some bs))) (hS:SeenM w bs m R) (hm:m≤9000000000000) (hP:Pow w) (hx:InstOk w w.heap.size x)
  (hu:∀ a∈x.1.2.2.2,0≤a.2.1∧a.2.1<4294967296) (hop:0≤x.1.1∧x.1.1<65536) :
  Calls Tryz.prog 29 #[.pointer (some ⟨gm,0,none⟩),.agg (instC x)] w fun e w' =>
   e=.returned (.bool (againR R x.1).1)∧SeenM w' bs (m+1) (againR R x.1).2∧w.grownBy w' (some bs):=by
 obtain ⟨⟨op,ty,res,l⟩,A,n,c⟩:=x;obtain ⟨hr,hn,-,-⟩:=hx;have hl:=hr.args_len;dsimp only at *;unfold instC;dsimp only;have hb:=(Below.refl w.heap.size w).alloc (Nat.le_refl _) (.cells #[.int .u16 op,.int .u32 ty,.int .u32 res,.slice A n c] 42);have k1:=Blk.new w 42 #[.int .u16 op,.int .u32 ty,.int .u32 res,.slice A n c];obtain ⟨k10,k11,k12,k13⟩:=four_ k1;obtain ⟨v,hv⟩:∃ v,v=againR R (op,ty,res,l):=⟨_,rfl⟩;rw [← hv];unfold againR at hv;dsimp only at hv;have HV:=Lib.hid hv;clear hv
 by_cases h28:op=28
 ·subst h28;have hv1:v=(false,R):=by rw [HV.out,if_pos (.inl rfl)]
  have HV1:=Lib.hid hv1;clear hv1 HV;go_enter Tryz.func29,Tryz.ntmps29;go_wp2_with fail;go_ret
  refine ⟨by rw [HV1.out];rfl,by rw [HV1.out];exact (hS.same (hb.block bs hS.lt)).more,only_of_below hb _⟩
 by_cases h30:op=30
 ·subst h30;have hv1:v=(false,R):=by rw [HV.out,if_pos (.inr rfl)]
  have HV1:=Lib.hid hv1;clear hv1 HV;go_enter Tryz.func29,Tryz.ntmps29;go_wp2_with fail;go_ret
  refine ⟨by rw [HV1.out];rfl,by rw [HV1.out];exact (hS.same (hb.block bs hS.lt)).more,only_of_below hb _⟩
 have d1:(op==28)=false:=by simpa using h28
 have d2:(op==30)=false:=by simpa using h30
 have hv1:v=(decide (0<R (keyB (op,ty,res,l))),bump R (keyB (op,ty,res,l))):=by rw [HV.out,if_neg (by rintro (h | h);exact h28 h;exact h30 h)]
 have HV1:=Lib.hid hv1;have hw1:IntKind.i64.wrap op=op:=IntWalk.i64_in _ (by omega)
 have hit:=itoa_any op (w.alloc (.cells #[.int .u16 op,.int .u32 ty,.int .u32 res,.slice A n c] 42)) (hP.step hb) (by omega)
 obtain ⟨key0,hkey0⟩:∃ s:ByteArray,s=⟨(Lib.itoa op).toArray⟩:=⟨_,rfl⟩;rw [← hkey0] at hit;have hks:key0=⟨(keyL op (nums (l.take 0))).toArray⟩:=by rw [hkey0];unfold keyL;simp [nums]
 have HKS:=Lib.hid hks;clear hv1 HV h28 h30 hkey0 hks;go_enter Tryz.func29,Tryz.ntmps29;go_wp2_with (go_at_call 56;refine hit.mono ?_;rintro e w2 ⟨rfl,hb2⟩;have hb3:=below_cut hb hb2 (Nat.le_refl _);have k2:=k1.step hb2;obtain ⟨z0,z1,z2,z3⟩:=four_ k2;clear hit)
 clear z0 z1 z2 z3 k10 k11 k12 k13 k1 k2 hb hb2 hw1;go_loopg [5,23] n (fun q u i wr=>∃ (k:Nat) (s:ByteArray),k+q=n∧i=.int .i64 (k:Nat)∧u=.string s∧Hid (s=⟨(keyL op (nums (l.take k))).toArray⟩)∧Below w.heap.size w wr)
 case atStart=>exact ⟨0,key0,by omega,rfl,rfl,HKS,hb3⟩
 case round =>
  obtain ⟨k,s,hq,rfl,rfl,HK,hbr⟩:=hrel
  by_cases hlt:k<n
  ·obtain ⟨b,off,rfl,hb2,hc⟩:=(hr.below hbr).args (by omega)
   obtain ⟨c0,c1,c2⟩:=hc k hlt;have hkt:=nums_take (l:=l) (k:=k) (by omega)
   have hux:=hu _ (ag_mem (l:=l) (k:=k) (by omega))
   generalize ag l k=x at *;obtain ⟨x1,x2,x3⟩:=x;dsimp only at c0 c1 c2 hkt hux;clear hc;have k7:=Blk.new wr 44 #[.int .u8 x1,.int .u32 x2,.string x3];have hb4:=hbr.alloc hbr.size (.cells #[.int .u8 x1,.int .u32 x2,.string x3] 44);have hw1:IntKind.i64.wrap x2=x2:=IntWalk.i64_in _ (by omega)
   have hit:=itoa_any x2 (wr.alloc (.cells #[.int .u8 x1,.int .u32 x2,.string x3] 44)) (hP.step hb4) hux;have HKT:=Lib.hid hkt;have hil:=Lib.itoa_length_le x2 (by omega) (by omega)
   have hsl:s.size≤21+22*n:=by
    have hlk:=keyL_len op (nums (l.take k)) hop (fun y hy=>by
     obtain ⟨a,ha,rfl⟩:=List.mem_map.1 hy;exact hu a (List.mem_of_mem_take ha))
    rw [nums_len,List.length_take] at hlk;rw [HK.out]
    show (keyL op (nums (l.take k))).toArray.size≤_
    rw [List.size_toArray];omega
   have hs1:¬ 9223372036854775807<s.size+(1+(Lib.itoa x2).length):=by omega
   have hs0:¬ 9223372036854775807<1+(Lib.itoa x2).length:=by omega
   clear hkt;go_wp2_with (go_at_call 56;refine hit.mono ?_;rintro e w2 ⟨rfl,hb5⟩;have hb6:=below_cut hb4 hb5 (Nat.le_refl _);clear hit)
   go_roundg (n-(k+1))
   case measure=>omega
   case rel =>
    refine ⟨k+1,_,by omega,by go_num,rfl,Lib.hid ?_,hb6⟩
    rw [HKT.out,keyL_step,HK.out];apply ByteArray.ext
    simp
  ·obtain rfl:gk=0:=by omega
   obtain rfl:k=n:=by omega
   have ht:l.take k=l:=by rw [← hl];exact List.take_length
   have hs:s=keyB (op,ty,res,l):=by rw [HK.out,ht];rfl
   rw [← hs] at HV1;have hSr:=hS.same (hbr.block bs hS.lt);have hk2r:=(hbr.cell (p:=⟨gm,2,none⟩) (World.block_lt_of_cell? w _ hk2)).trans hk2;obtain ⟨w3,hput,hS3,hg3⟩:=hSr.put s;have hlk:=hSr.look s;have hk23:=cell_kept hk2r hg3 hSr.row;have hlk3:=hS3.look s;have hbs:bump R s s=R s+1:=by unfold bump;rw [if_pos rfl]
   rw [hbs] at hlk3;have htop:=hS.top s;have hwr:IntKind.i64.wrap (R s+1)=R s+1:=IntWalk.i64_in _ (by omega)
   have hd:decide (1<R s+1)=decide (0<R s):=by rw [decide_eq_decide];omega
   have hG:=Lib.hid (grown_same_row (only_of_below hbr (some bs)) hg3);clear hs ht hbs htop HK;go_wp2_with fail;go_ret
   exact ⟨by rw [HV1.out];rfl,by rw [HV1.out];exact hS3,hG.out⟩
end
section
open Go.RowKit
theorem wholeT_bd (x:TyI) (size depth:Int) (h0:0≤size) (h1:0≤depth):(0≤(wholeT x size depth).1.size∧(wholeT x size depth).1.size≤4096)∧(0≤(wholeT x size depth).1.depth∧(wholeT x size depth).1.depth≤16):=by
 unfold wholeT
 split
 ·exact ⟨⟨Int.le_refl _,by decide⟩,⟨Int.le_refl _,by decide⟩⟩
 ·split
  ·exact ⟨⟨Int.le_refl _,by decide⟩,⟨Int.le_refl _,by decide⟩⟩
  ·show (0≤size∧size≤4096)∧(0≤depth+1∧depth+1≤16)
   omega
abbrev Fine (x:TyI):Prop:=(0≤x.size∧x.size≤4096)∧(0≤x.depth∧x.depth≤16)
theorem fine0:Fine ty0:=⟨⟨Int.le_refl _,by decide⟩,⟨Int.le_refl _,by decide⟩⟩
theorem memR_bd {T:Int→TyI} (hs:∀ id,0≤(T id).size) (hd:∀ id,0≤(T id).depth):∀ {l:List Int} {s d a b:Int},0≤s→0≤d→memR T l s d=some (a,b)→0≤a∧0≤b
 | [],s,d,a,b,h0,h1,h=>by
  have h2:some (s,d)=some (a,b):=h;cases h2
  exact ⟨h0,h1⟩
 | p :: r,s,d,a,b,h0,h1,h=>by
  unfold memR at h
  split at h
  ·cases h
  ·have:=hs p;have:=hd p;exact memR_bd hs hd (by omega) (by omega) h
theorem oneT_fine {T:Int→TyI} {M:Int→InstI} (hT:∀ id,Fine (T id)) (hM:∀ id,0≤firstN (M id)) (i:InstI):Fine (oneT T M i).1:=by
 unfold oneT;dsimp only
 split
 ·exact fine0
 split
 ·exact ⟨⟨by decide,by decide⟩,⟨by decide,by decide⟩⟩
 split
 ·exact ⟨⟨by show (0:Int)≤1;decide,by show (1:Int)≤4096;decide⟩,⟨by show (0:Int)≤1;decide,by show (1:Int)≤16;decide⟩⟩
 split
 ·unfold vectorT
  split
  ·exact fine0
  ·split
   ·exact fine0
   ·rename_i h
    exact wholeT_bd _ _ _ (by omega) (hT _).2.1
 split
 ·unfold arrayT arrayC
  split
  ·exact fine0
  ·split
   ·exact fine0
   ·exact wholeT_bd _ _ _ (Int.mul_nonneg (hM _) (hT _).1.1) (hT _).2.1
 split
 ·unfold membersT
  split
  ·exact fine0
  ·cases hm:memR T (nums i.2.2.2) 0 0 with
   | none=>exact fine0
   | some p =>
    obtain ⟨a,b⟩:=p;have:=memR_bd (fun id=>(hT id).1.1) (fun id=>(hT id).2.1) (Int.le_refl _) (Int.le_refl _) hm
    exact wholeT_bd _ _ _ this.1 this.2
 split
 ·exact fine0
 split
 ·unfold functionT
  split
  ·exact fine0
  ·exact fine0
 ·exact fine0
theorem Reads.mapped {w w':World} {B B' size n:Nat} {A:Option Addr} {xs:List Value} {row:Option Nat} (h:Reads w B size A n xs) (hg:w.grownBy w' row) (hrow:∀ r,row=some r→∃ o:Obj,w.heap[r]?=some o∧o.isCells=false) (hB:B≤B'):Reads w' B' size A n xs:=by
 refine ⟨h.1,fun hn=>?_⟩
 obtain ⟨ad,rfl,hb,hc⟩:=h.2 hn;exact ⟨ad,rfl,by omega,fun j u hj=>cell_kept (hc j u hj) hg hrow⟩
theorem Reads.far_ {w:World} {B size n:Nat} {A:Option Addr} {xs:List Value} {p:Addr} {v:Value} (h:Reads w B size A n xs) (hp:w.cell? p=some v) (hv:v ∉ xs) (u:Value):Reads (w.setCell p u) B size A n xs:=by
 refine ⟨h.1,fun hn=>?_⟩
 obtain ⟨ad,rfl,hb,hc⟩:=h.2 hn;refine ⟨ad,rfl,hb,fun j y hj=>?_⟩
 have h1:=hc j y hj;refine (World.cell?_setCell_other w p (ad.add j) u ?_).trans h1;intro e;have e':ad.add j=p∨p=ad.add j:=by first | exact .inl e | exact .inr e
 have e2:w.cell? p=some y:=by rcases e' with e | e <;> rw [← h1,e]
 rw [hp] at e2;cases e2
 exact hv (List.mem_of_getElem? hj)
theorem Reads.grown_far {w w':World} {B B' size n:Nat} {A:Option Addr} {xs:List Value} {row:Option Nat} (h:Reads w B size A n xs) (hg:w.grownBy w' row) (hne:∀ ad g,A=some ad→0<n→row=some g→ad.block≠g) (hB:B≤w.heap.size) (hB':B≤B'):Reads w' B' size A n xs:=by
 refine ⟨h.1,fun hn=>?_⟩
 obtain ⟨ad,rfl,hb,hc⟩:=h.2 hn;refine ⟨ad,rfl,by omega,fun j u hj=>(World.cell?_of_block (hg.block (ad.add j).block (by rw [block_of_add];omega) ?_)).trans (hc j u hj)⟩
 intro e;rw [block_of_add] at e;exact hne ad _ rfl hn e.symm rfl
theorem TabM.row {w:World} {B bm:Nat} {T:Int→TyI} {S:Int→SlI} (h:TabM w B bm T S):∀ r,some bm=some r→∃ o:Obj,w.heap[r]?=some o∧o.isCells=false:=by
 obtain ⟨cnt,has,⟨es,clock,hb,-⟩,-⟩:=h.mp;rintro r e;cases e
 exact ⟨_,hb,rfl⟩
theorem MadM.row {w:World} {B bm:Nat} {M:Int→InstA} (h:MadM w B bm M):∀ r,some bm=some r→∃ o:Obj,w.heap[r]?=some o∧o.isCells=false:=by
 obtain ⟨cnt,has,⟨es,clock,hb,-⟩,-⟩:=h.mp;rintro r e;cases e
 exact ⟨_,hb,rfl⟩
theorem MadM.more {w:World} {B B' bm:Nat} {M:Int→InstA} (h:MadM w B bm M) (hB:B≤B'):MadM w B' bm M:=⟨h.mp,fun id=>(h.ok id).more hB,h.one⟩
theorem TabM.keepB {w w':World} {bm:Nat} {T:Int→TyI} {S:Int→SlI} (h:TabM w w.heap.size bm T S) (hm:w'.heap[bm]?=w.heap[bm]?) (hr:∀ id,Reads w' w'.heap.size 1 (S id).1 (S id).2.1 (Ints .u32 (T id).parts)):TabM w' w'.heap.size bm T S:=by
 obtain ⟨cnt,has,h1,h2⟩:=h.mp;exact ⟨⟨cnt,has,h1.same hm,h2⟩,hr,h.size,h.depth⟩
theorem TabM.put {w:World} {bm:Nat} {T:Int→TyI} {S:Int→SlI} (h:TabM w w.heap.size bm T S) (id:Int) (x:TyI) (s:SlI) (hr:Reads w w.heap.size 1 s.1 s.2.1 (Ints .u32 x.parts)) (hx:Fine x) :
  ∃ w',(Instr.mapUpdate 80 (.map (some bm)) (.int .u32 id) (.agg (tyV x s))).run Tryz.prog w=.ok () w'∧TabM w' w'.heap.size bm (updT T id x) (updT S id s)∧w.grownBy w' (some bm):=by
 obtain ⟨cnt,has,hm,h0⟩:=h.mp;obtain ⟨w',h1,h2,h3⟩:=MapU.put (P:=Tryz.prog) hm Tryz.underlying80 Tryz.underlying22 id (.agg (tyV x s));refine ⟨w',h1,⟨⟨_,fun y=>decide (y=id)||has y,h2.ext ?_,?_⟩,?_,?_,?_⟩,h3⟩
 ·intro k;unfold keyU setU updT;cases k <;> try rfl
  rename_i kd y
  cases kd <;> try rfl
  by_cases hy:y=id
  ·subst hy;simp
  ·simp [hy]
 ·intro y hy;simp at hy;unfold updT;rw [if_neg hy.1,if_neg hy.1];exact h0 y hy.2
 ·intro y;unfold updT
  by_cases hy:y=id
  ·rw [if_pos hy,if_pos hy];exact hr.mapped h3 h.row h3.size
  ·rw [if_neg hy,if_neg hy];exact (h.reads y).mapped h3 h.row h3.size
 ·intro y;unfold updT
  split
  ·exact hx.1
  ·exact h.size y
 ·intro y;unfold updT
  split
  ·exact hx.2
  ·exact h.depth y
theorem MadM.put {w:World} {B bm:Nat} {M:Int→InstA} (h:MadM w B bm M) (id:Int) (x:InstA) (hx:InstOk w B x) (h1:x.1.1=43→0<x.1.2.2.2.length) :
  ∃ w',(Instr.mapUpdate 59 (.map (some bm)) (.int .u32 id) (.agg (instC x))).run Tryz.prog w=.ok () w'∧MadM w' B bm (updT M id x)∧w.grownBy w' (some bm):=by
 obtain ⟨cnt,has,hm,h0⟩:=h.mp;obtain ⟨w',h1',h2,h3⟩:=MapU.put (P:=Tryz.prog) hm Tryz.underlying59 Tryz.underlying22 id (.agg (instC x));refine ⟨w',h1',⟨⟨_,fun y=>decide (y=id)||has y,h2.ext ?_,?_⟩,?_,?_⟩,h3⟩
 ·intro k;unfold keyU setU updT;cases k <;> try rfl
  rename_i kd y
  cases kd <;> try rfl
  by_cases hy:y=id
  ·subst hy;simp
  ·simp [hy]
 ·intro y hy;simp at hy;unfold updT;rw [if_neg hy.1];exact h0 y hy.2
 ·intro y;unfold updT;have hk:∀ z:InstA,InstOk w B z→InstOk w' B z:=fun z hz=>⟨hz.reads.mapped h3 h.row (Nat.le_refl _),hz.len,hz.kinds,hz.text⟩
  split
  ·exact hk _ hx
  ·exact hk _ (h.ok y)
 ·intro y;unfold updT
  split
  ·exact h1
  ·exact h.one y
structure NewS (w0 w:World) (q k j:Nat) (s:StN) (sl:SlI):Prop where
 tb:∃ (S:Int→SlI) (A:Option Addr) (m c:Nat),Blk w (q+2) 82 #[.map (some (q+1)),.slice A m c]∧w.ownsRow (q+6) 22 1 (.slice A m c) m (Ints .u32 s.ord)∧m≤k∧TabM w w.heap.size (q+1) s.T S ∧
  (∀ id ad g,(S id).1=some ad→0<(S id).2.1→(Value.slice A m c).ownBlock=some g→ad.block≠g)∧(∀ ad g,sl.1=some ad→(Value.slice A m c).ownBlock=some g→ad.block≠g)∧(sl.2.1≤sl.2.2∧∀ ad,sl.1=some ad→w0.heap.size≤ad.block)∧∀ id,(S id).2.1≤(S id).2.2∧∀ ad,(S id).1=some ad→w0.heap.size≤ad.block
 mak:Blk w (q+5) 85 #[.pointer (some ⟨q+2,0,none⟩),.map (some (q+3)),.map (some (q+4))]
 mad:∃ M:Int→InstA,MadM w w0.heap.size (q+3) M∧∀ id,(M id).1=s.M id
 fst:∀ id,0≤firstN (s.M id)∧firstN (s.M id)<4294967296
 seen:SeenM w (q+4) j s.R
 below:Below w0.heap.size w0 w
 low:w0.heap.size+2≤q
 top:q+6≤w.heap.size
section
variable {w0 w w':World} {q k j:Nat} {s:StN} {sl:SlI}
theorem NewS.step (h:NewS w0 w q k j s sl) (hb:Below w.heap.size w w'):NewS w0 w' q k j s sl:=by
 have ht:=h.top;obtain ⟨S,A,m,c,kt,ho,hm,hT,hd⟩:=h.tb;obtain ⟨M,hM,hMe⟩:=h.mad;refine ⟨⟨S,A,m,c,kt.step hb,own_below ho hb,hm,hT.step hb,hd⟩,h.mak.step hb,⟨M,hM.same (hb.block _ (by omega)) (fun p hp=>hb.cell (by have:=h.low;omega)),hMe⟩,h.fst,h.seen.same (hb.block _ (by omega)),below_cut h.below hb (Nat.le_refl _),h.low,Nat.le_trans ht hb.size⟩
theorem NewS.step_new (h:NewS w0 w q k j s sl) (hb:Below w.heap.size w w') {sl':SlI} (hl:LowS w.heap.size sl'):NewS w0 w' q k j s sl':=by
 have h1:=h.step hb;obtain ⟨S,A,m,c,kt,ho,hm,hT,hd,-,-,hcS⟩:=h.tb;refine ⟨⟨S,A,m,c,kt.step hb,own_below ho hb,hm,hT.step hb,hd,?_,⟨hl.2,fun ad ha=>Nat.le_trans h.below.size (hl.1 ad ha)⟩,hcS⟩,h1.mak,h1.mad,h1.fst,h1.seen,h1.below,h1.low,h1.top⟩
 intro ad g ha hg e;have:=hl.1 ad ha;have:=(ho.lt g hg).2;omega
theorem NewS.more (h:NewS w0 w q k j s sl):NewS w0 w q (k+1) j s sl:=by
 obtain ⟨S,A,m,c,kt,ho,hm,hT,hd⟩:=h.tb;exact ⟨⟨S,A,m,c,kt,ho,by omega,hT,hd⟩,h.mak,h.mad,h.fst,h.seen,h.below,h.low,h.top⟩
theorem NewS.moreJ (h:NewS w0 w q k j s sl):NewS w0 w q k (j+1) s sl:=⟨h.tb,h.mak,h.mad,h.fst,h.seen.more,h.below,h.low,h.top⟩
theorem NewS.again_ {R':ByteArray→Int} {j':Nat} (h:NewS w0 w q k j s sl) (hg:w.grownBy w' (some (q+4))) (hS:SeenM w' (q+4) j' R'):NewS w0 w' q k j' { s with R:=R' } sl:=by
 have ht:=h.top;have hl:=h.low;obtain ⟨S,A,m,c,kt,ho,hm,hT,hd⟩:=h.tb;obtain ⟨M,hM,hMe⟩:=h.mad;have hrow:=h.seen.row;refine ⟨⟨S,A,m,c,kt.grown hg (by simp),ho.kept hg (.inr (own_ne_low ho (by omega))),hm,hT.keepB (hg.block _ (by omega) (by simp)) (fun id=>(hT.reads id).mapped hg hrow hg.size),hd⟩,h.mak.grown hg (by simp),
  ⟨M,⟨?_,fun id=>⟨(hM.ok id).reads.mapped hg hrow (Nat.le_refl _),(hM.ok id).len,(hM.ok id).kinds,(hM.ok id).text⟩,hM.one⟩,hMe⟩,h.fst,hS,h.below.grown hg (by omega) (fun b hb=>by cases hb;omega),h.low,Nat.le_trans ht hg.size⟩
 obtain ⟨cnt,has,h1,h2⟩:=hM.mp;exact ⟨cnt,has,h1.same (hg.block _ (by omega) (by simp)),h2⟩
theorem NewS.put_ (h:NewS w0 w q k j s sl) (id:Int) (x:TyI) (hr:Reads w w.heap.size 1 sl.1 sl.2.1 (Ints .u32 x.parts)) (hx:Fine x) :
  ∃ w',(Instr.mapUpdate 80 (.map (some (q+1))) (.int .u32 id) (.agg (tyV x sl))).run Tryz.prog w=.ok () w'∧NewS w0 w' q k j { s with T:=updT s.T id x } sl∧w.grownBy w' (some (q+1)):=by
 have ht:=h.top;have hl:=h.low;obtain ⟨S,A,m,c,kt,ho,hm,hT,hd,hd2,hsl,hcS⟩:=h.tb;obtain ⟨M,hM,hMe⟩:=h.mad;have hrow:=hT.row;obtain ⟨w',h1,hT',hg⟩:=hT.put id x sl hr hx;refine ⟨w',h1,⟨⟨updT S id sl,A,m,c,kt.grown hg (by simp),ho.kept hg (.inr (own_ne_low ho (by omega))),hm,hT',?_,hd2,hsl,?_⟩,h.mak.grown hg (by simp),
  ⟨M,⟨?_,fun id=>⟨(hM.ok id).reads.mapped hg hrow (Nat.le_refl _),(hM.ok id).len,(hM.ok id).kinds,(hM.ok id).text⟩,hM.one⟩,hMe⟩,h.fst,h.seen.same (hg.block _ (by omega) (by simp)),h.below.grown hg (by omega) (fun b hb=>by cases hb;omega),h.low,Nat.le_trans ht hg.size⟩,hg⟩
 ·intro y ad g;unfold updT
  split
  ·exact fun ha _ hg=>hd2 ad g ha hg
  ·exact hd y ad g
 ·intro y;unfold updT
  split
  ·exact hsl
  ·exact hcS y
 ·obtain ⟨cnt,has,h1,h2⟩:=hM.mp;exact ⟨cnt,has,h1.same (hg.block _ (by omega) (by simp)),h2⟩
theorem NewS.made_ (h:NewS w0 w q k j s sl) (id:Int) (x:InstA) (hx:InstOk w w0.heap.size x) (h43:x.1.1=43→0<x.1.2.2.2.length) (hf:0≤firstN x.1∧firstN x.1<4294967296) :
  ∃ w',(Instr.mapUpdate 59 (.map (some (q+3))) (.int .u32 id) (.agg (instC x))).run Tryz.prog w=.ok () w'∧NewS w0 w' q k j { s with M:=updT s.M id x.1 } sl∧w.grownBy w' (some (q+3)):=by
 have ht:=h.top;have hl:=h.low;obtain ⟨S,A,m,c,kt,ho,hm,hT,hd⟩:=h.tb;obtain ⟨M,hM,hMe⟩:=h.mad;have hrow:=hM.row;obtain ⟨w',h1,hM',hg⟩:=hM.put id x hx h43;refine ⟨w',h1,⟨⟨S,A,m,c,kt.grown hg (by simp),ho.kept hg (.inr (own_ne_low ho (by omega))),hm,hT.keepB (hg.block _ (by omega) (by simp)) (fun id=>(hT.reads id).mapped hg hrow hg.size),hd⟩,h.mak.grown hg (by simp),
  ⟨updT M id x,hM',fun y=>?_⟩,fun y=>?_,h.seen.same (hg.block _ (by omega) (by simp)),h.below.grown hg (by omega) (fun b hb=>by cases hb;omega),h.low,Nat.le_trans ht hg.size⟩,hg⟩
 ·show (updT M id x y).1=updT s.M id x.1 y
  unfold updT
  by_cases hy:y=id
  ·rw [if_pos hy,if_pos hy]
  ·rw [if_neg hy,if_neg hy];exact hMe y
 ·show 0≤firstN (updT s.M id x.1 y)∧firstN (updT s.M id x.1 y)<4294967296
  unfold updT
  split
  ·exact hf
  ·exact h.fst y
theorem NewS.ord_ {S:Int→SlI} {A A8:Option Addr} {m c c8:Nat} {w8:World} {id:Int} (h:NewS w0 w q k j s sl) (kt:Blk w (q+2) 82 #[.map (some (q+1)),.slice A m c]) (ho:w.ownsRow (q+6) 22 1 (.slice A m c) m (Ints .u32 s.ord))
  (hm:m≤k) (hT:TabM w w.heap.size (q+1) s.T S) (hd:∀ id ad g,(S id).1=some ad→0<(S id).2.1→(Value.slice A m c).ownBlock=some g→ad.block≠g)
  (ho8:w8.ownsRow (q+6) 22 1 (.slice A8 (m+1) c8) (m+1) (Ints .u32 s.ord++[.int .u32 id])) (hg:w.grownBy w8 (Value.slice A m c).ownBlock)
  (h3:(Value.slice A8 (m+1) c8).ownBlock=(Value.slice A m c).ownBlock∨(Value.slice A8 (m+1) c8).ownBlock=some w.heap.size) (hcS:∀ id,(S id).2.1≤(S id).2.2∧∀ ad,(S id).1=some ad→w0.heap.size≤ad.block) :
  NewS w0 (w8.setCell ⟨q+2,1,none⟩ (.slice A8 (m+1) c8)) q (k+1) j { s with ord:=s.ord++[id] } sl0:=by
 have ht:=h.top;have hl:=h.low;obtain ⟨M,hM,hMe⟩:=h.mad;have hnl:∀ g,g<q+6→some g≠(Value.slice A m c).ownBlock:=fun g hg=>Ne.symm (own_ne_low ho hg)
 have kt8:=kt.grown hg (hnl _ (by omega))
 have hb8:∀ g,g<q+6→w8.heap[g]?=w.heap[g]?:=fun g hlt=>hg.block g (by omega) (hnl g hlt)
 have hb9:∀ g,g<q+6→g≠q+2→(w8.setCell ⟨q+2,1,none⟩ (.slice A8 (m+1) c8)).heap[g]?=w.heap[g]?:=fun g hlt hne=>(Below.heap_setCell w8 _ _ g (by simpa using hne)).trans (hb8 g hlt)
 have hs9:(w8.setCell ⟨q+2,1,none⟩ (.slice A8 (m+1) c8)).heap.size=w8.heap.size:=by simp
 have c1:=kt8.cell 1;simp at c1;have hbel:=(h.below.grown hg (by omega) (fun g e=>by have:=(ho.lt g e).1;omega)).setCell (p:=⟨q+2,1,none⟩) (show w0.heap.size≤q+2 by omega) (.slice A8 (m+1) c8)
 refine ⟨⟨S,A8,m+1,c8,by simpa using kt8.set_ 1 (.slice A8 (m+1) c8),?_,by omega,?_,?_,fun ad g ha=>(by cases ha),⟨Nat.le_refl _,fun ad ha=>by cases ha⟩,hcS⟩,?_,⟨M,hM.same (hb9 _ (by omega) (by omega)) (fun p hp=>?_),hMe⟩,h.fst,h.seen.same (hb9 _ (by omega) (by omega)),hbel,h.low,?_⟩
 ·have:=own_set_other ho8 (p:=⟨q+2,1,none⟩) (own_ne_low ho8 (by show q+2<q+6;omega)) (.slice A8 (m+1) c8)
  rw [Ints_append];exact this
 ·refine hT.keepB (hb9 _ (by omega) (by omega)) (fun y=>?_)
  try rw [hs9]
  exact ((hT.reads y).grown_far hg (fun ad g ha hn hg=>hd y ad g ha hn hg) (Nat.le_refl _) hg.size).far_ c1 (by unfold Ints;simp) _
 ·intro y ad g ha hn hg
  rcases h3 with e | e
  ·exact hd y ad g ha hn (e ▸ hg)
  ·rw [e] at hg;cases hg
   obtain ⟨ad',e',hb,-⟩:=(hT.reads y).2 hn;rw [ha] at e';cases e'
   omega
 ·have:=h.mak;unfold Blk at this ⊢;rw [hb9 _ (by omega) (by omega)]
  exact this
 ·have h1:=hbel.cell hp;have h2:=h.below.cell hp;rw [h1,h2]
 ·rw [hs9];exact Nat.le_trans ht hg.size
end
end
section
open Go.RowKit
theorem results_tc1 {fn:Func} {p u:Tmp} {ty:TypeId} (h:fn.results=#[.tmp u,.cell p ty]) (tmps:Array Value) (P:Program) (w:World) :
  (results fn tmps).run P w=((asAddr (tmps.getD p undef)).run P w).andThen fun ad w₁=>((loadVar ty ad).run P w₁).andThen fun v w₂=>.ok (.tuple #[tmps.getD u undef,v]) w₂:=by
 simp only [results,h];simp [Sem.run_bind,Result.andThen]
theorem spot_end {fn:Func} {p q:Tmp} (h:fn.results=#[.tmp q,.cell p 28]) (tmps:Array Value) {W:World} {g:Nat} {v:Value} {a b:Int} (hp:tmps.getD p undef=.pointer (some ⟨g,0,none⟩)) (hq:tmps.getD q undef=v) (k:Blk W g 28 #[.int .i64 a,.int .i64 b]) :
  (results fn tmps).run Tryz.prog W=.ok (.tuple #[v,.agg #[.int .i64 a,.int .i64 b]]) W:=by
 have ha:(asAddr (.pointer (some ⟨g,0,none⟩))).run Tryz.prog W=.ok ⟨g,0,none⟩ W:=rfl;obtain ⟨z0,z1⟩:=two_ k;have hl:(loadVar 28 ⟨g,0,none⟩).run Tryz.prog W=.ok (.agg #[.int .i64 a,.int .i64 b]) W:=by go_simp
 rw [results_tc1 h,hp,ha];simp only [Result.andThen_ok];rw [hl,hq];simp only [Result.andThen_ok]
theorem three3 {w:World} {g:Nat} {t:TypeId} {x0 x1 x2:Value} (h:Blk w g t #[x0,x1,x2]):w.cell? ⟨g,0,none⟩=some x0∧w.cell? ⟨g,1,none⟩=some x1∧w.cell? ⟨g,2,none⟩=some x2:=⟨h.cell 0,h.cell 1,h.cell 2⟩
theorem oneT_false (T:Int→TyI) (M:Int→InstI) (i:InstI) (h:(oneT T M i).2.1=false):(oneT T M i).2.2=0:=by
 unfold oneT at *;dsimp only at *
 repeat' split at h
 all_goals first
  | (cases h;done)
  | ((repeat' split);all_goals first | rfl | (exfalso;simp_all;done))
section
variable {P:Program} {t e:TypeId} {z:Value} {size bytes:Nat}
theorem step_ap_any3 (S:SliceOf P t e z size bytes) (w:World) {ops:Array Oper} {o:Oper} {a:Act} {K:Act→World→Prop} {Q:Exit→Act→World→Prop} {E:Prop} (hgd:o.guard=none) (s x:Operand)
  (hop:o.op=.call { callee:=.builtin .append,args:=#[s,x],argTypes:=#[t,t] }) (base:Nat) (v:Value) (n:Nat) (xs:List Value) (hs:a.eval s=v) (hown:w.ownsRow base e size v n xs)
  (B:Nat) (A:Option Addr) (m c:Nat) (news:List Value) (hx:a.eval x=.slice A m c) (hr:Reads w B size A m news) (h1:∀ u∈news,u.oneCell'=true)
  (h63:n+m≤9223372036854775807) (hb:(n+m)*bytes≤140737488355328) (hbase:base≤w.heap.size)
  (hK:∀ A' c' w',w'.ownsRow base e size (.slice A' (n+m) c') (n+m) (xs++news)→w.grownBy w' v.ownBlock→((Value.slice A' (n+m) c').ownBlock=v.ownBlock∨(Value.slice A' (n+m) c').ownBlock=some w.heap.size)→K (a.put o.dst (.slice A' (n+m) c')) w') :
  if Region.wanted o (yielded ops a.tmps)=true then Oper.wp P o a w K Q else E:=by
 obtain ⟨i,h2,h3,h4,rfl⟩:=info_parts S.hi;refine step_append_any w hgd s x t hop base e i z size i.bytes S.ht h2 h3 h4 rfl S.hs S.pos v n xs hs hown B A m c news hx hr h1 (by unfold maxLen;omega) hb hbase ?_
 intro v' w' ho hgr h3;obtain ⟨A',c',rfl⟩:=own_shape ho;exact hK A' c' w' ho hgr h3
end
def TableS (B:Nat) (w:World) (gt:Nat) (s:StN):Prop:=∃ (bm:Nat) (S:Int→SlI) (A:Option Addr) (m c:Nat),Blk w gt 82 #[.map (some bm),.slice A m c]∧TabM w w.heap.size bm s.T S∧Reads w w.heap.size 1 A m (Ints .u32 s.ord)∧m≤7100000000000∧(∀ id,(S id).2.1≤(S id).2.2∧∀ ad,(S id).1=some ad→B≤ad.block)∧B≤bm∧∀ ad,A=some ad→B≤ad.block
def NewIs (r:Int × Int × StN) (w:World) (e:Ending) (w':World):Prop :=
 Below w.heap.size w w'∧(r.1=0→∃ gt,e=.returned (.tuple #[.pointer (some ⟨gt,0,none⟩),.agg #[.int .i64 0,.int .i64 0]])∧w.heap.size≤gt∧TableS w.heap.size w' gt r.2.2) ∧
  (r.1≠0→e=.returned (.tuple #[.pointer none,.agg #[.int .i64 r.1,.int .i64 r.2.1]]))
theorem new_bad (gen bound:Int) (ls:List InstA) (A:Option Addr) (n c:Nat) (w:World) (hM:ModS w w.heap.size A n ls) (h0:(idsM bound (ls.map (·.1))).1≠0) :
  Calls Tryz.prog 14 #[.agg (modC gen bound A n c)] w (NewIs (newM bound (ls.map (·.1))) w):=by
 have hv:newM bound (ls.map (·.1))=((idsM bound (ls.map (·.1))).1,(idsM bound (ls.map (·.1))).2,st0):=if_pos h0;rw [hv];clear hv;have hb1:=((Below.refl w.heap.size w).alloc (Nat.le_refl _) (.cells (modC gen bound A n c) 25)).alloc (by simp) (.cells #[.int .i64 0,.int .i64 0] 28)
 have hck:=check_any gen bound ls A n c ((w.alloc (.cells (modC gen bound A n c) 25)).alloc (.cells #[.int .i64 0,.int .i64 0] 28)) (hM.step hb1);have kR:=Blk.new (w.alloc (.cells (modC gen bound A n c) 25)) 28 #[.int .i64 0,.int .i64 0];rw [World.size_alloc] at kR;generalize idsM bound (ls.map (·.1))=r at *;obtain ⟨r1,r2⟩:=r;dsimp only at *;have d0:(r1 != 0)=true:=by simpa using h0
 have k0:=(Blk.new w 25 (modC gen bound A n c)).alloc (.cells #[.int .i64 0,.int .i64 0] 28);unfold modC at *;have j0:=k0.cell 0;have j1:=k0.cell 1;have j2:=k0.cell 2;simp at j0 j1 j2;go_enter Tryz.func14,Tryz.ntmps14;go_wp2_with (go_at_call 27;refine hck.mono ?_;rintro e w2 ⟨rfl,hb2⟩;have hb3:=below_cut hb1 hb2 (Nat.le_refl _);have hb4:=hb3.alloc hb3.size (.cells #[.int .i64 r1,.int .i64 r2] 28);have kR2:=kR.step hb2;have kR3:=kR2.alloc (.cells #[.int .i64 r1,.int .i64 r2] 28);have kS:=Blk.new w2 28 #[.int .i64 r1,.int .i64 r2])
 obtain ⟨z0,z1⟩:=two_ kR3;obtain ⟨s0,s1⟩:=two_ kS;have fz:=kR3.frozen;clear hck kR kR2 hb1 hb2 hb3 k0 j0 j1 j2;go_region
 all_goals
  go_wp2_with fail;exact bodyPost_ret (spot_end rfl _ rfl rfl ((spot_put kR3 (.int .i64 r1) (.int .i64 r2)).drew)) rfl ⟨((hb4.setCell (p:=⟨w.heap.size+1,0,none⟩) (Nat.le_succ _) _).setCell (p:=⟨w.heap.size+1,1,none⟩) (Nat.le_succ _) _).drew,fun h=>absurd h h0,fun _=>rfl⟩
theorem ints_no {p:Int} {l:List Int}:(Value.int .i64 p) ∉ Ints .u32 l:=by
 unfold Ints;simp
theorem NewS.table {w0 w:World} {q k j:Nat} {s:StN} {sl:SlI} (h:NewS w0 w q k j s sl) (hk:k≤7100000000000) {a b:Int} (kr:Blk w (w0.heap.size+1) 28 #[.int .i64 a,.int .i64 b]) (x y:Int) :
  TableS w0.heap.size ((w.setCell ⟨w0.heap.size+1,0,none⟩ (.int .i64 x)).setCell ⟨w0.heap.size+1,1,none⟩ (.int .i64 y)) (q+2) s:=by
 have hl:=h.low;obtain ⟨S,A,m,c,kt,ho,hm,hT,-,-,-,hcS⟩:=h.tb;obtain ⟨r0,r1⟩:=two_ kr;have kr2:Blk (w.setCell ⟨w0.heap.size+1,0,none⟩ (.int .i64 x)) (w0.heap.size+1) 28 #[.int .i64 x,.int .i64 b]:=by simpa using kr.set_ 0 (.int .i64 x)
 have r2:=(two_ kr2).2;have hk2:∀ {B n:Nat} {A:Option Addr} {l:List Int},Reads w B 1 A n (Ints .u32 l)→Reads ((w.setCell ⟨w0.heap.size+1,0,none⟩ (.int .i64 x)).setCell ⟨w0.heap.size+1,1,none⟩ (.int .i64 y)) B 1 A n (Ints .u32 l) :=
  fun hr=>(hr.far_ r0 ints_no _).far_ r2 ints_no _
 have hsz:((w.setCell ⟨w0.heap.size+1,0,none⟩ (.int .i64 x)).setCell ⟨w0.heap.size+1,1,none⟩ (.int .i64 y)).heap.size=w.heap.size:=by simp
 refine ⟨q+1,S,A,m,c,(kt.far (p:=⟨w0.heap.size+1,0,none⟩) (show q+2≠w0.heap.size+1 by omega) _).far (p:=⟨w0.heap.size+1,1,none⟩) (show q+2≠w0.heap.size+1 by omega) _,?_,?_,by omega,hcS,by omega,fun ad ha=>by
  rcases ho.2 with ⟨h9,_⟩ | ⟨g,cap,cur,h9,_⟩
  ·cases h9;cases ha
  ·cases h9
   cases ha
   have:=(ho.lt g (by simp [Value.ownBlock])).1
   show w0.heap.size≤g
   omega⟩
 ·refine hT.keepB ((Below.heap_setCell _ _ _ _ (show q+1≠w0.heap.size+1 by omega)).trans (Below.heap_setCell _ _ _ _ (show q+1≠w0.heap.size+1 by omega))) (fun id=>?_)
  rw [hsz];exact hk2 (hT.reads id)
 ·rw [hsz];exact hk2 (Reads.of_own ho)
end
end Go.Proofs.YtdebjkiilnhgpaaGreatDoor
