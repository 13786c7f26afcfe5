/- Walks: the grammar's rows. -/
import Derived.Test.YtdebjkiilnhgpaaGreatDoorRows
import Derived.Test.YtdebjkiilnhgpaaGreatDoorCTB
import Derived.Test.YtdebjkiilnhgpaaGreatDoorCTA
import Derived.Deep.LoopGhost
import Derived.Deep.RegionHeld3
import Derived.BigRegion
set_option maxRecDepth 100000
set_option maxHeartbeats 4000000
namespace Go.Proofs.YtdebjkiilnhgpaaGreatDoor
section
open Go.RowKit
theorem first_any (op:Int) (w:World) :
  Calls Tryz.prog 111 #[.int .u16 op] w fun e w'=>e=.returned (.string (pickT firstT op))∧w=w':=by
 obtain ⟨v,hv⟩:∃ v,v=pickT firstT op:=⟨_,rfl⟩;rw [← hv];have HV:=Lib.hid hv;clear hv;go_enter Tryz.func111,Tryz.ntmps111;go_wp2
 all_goals
  go_ret
  refine ⟨?_,rfl⟩;rw [HV.out];unfold firstT;simp only [pickT, *,if_true,Bool.false_eq_true,if_false];rfl
theorem second_any (op:Int) (w:World) :
  Calls Tryz.prog 112 #[.int .u16 op] w fun e w'=>e=.returned (.string (pickT secondT op))∧w=w':=by
 obtain ⟨v,hv⟩:∃ v,v=pickT secondT op:=⟨_,rfl⟩;rw [← hv];have HV:=Lib.hid hv;clear hv;go_enter Tryz.func112,Tryz.ntmps112;go_wp2
 all_goals
  go_ret
  refine ⟨?_,rfl⟩;rw [HV.out];unfold secondT;simp only [pickT, *,if_true,Bool.false_eq_true,if_false];rfl
theorem third_any (op:Int) (w:World) :
  Calls Tryz.prog 113 #[.int .u16 op] w fun e w'=>e=.returned (.string (pickT thirdT op))∧w=w':=by
 obtain ⟨v,hv⟩:∃ v,v=pickT thirdT op:=⟨_,rfl⟩;rw [← hv];have HV:=Lib.hid hv;clear hv;go_enter Tryz.func113,Tryz.ntmps113;go_wp2
 all_goals
  go_ret
  refine ⟨?_,rfl⟩;rw [HV.out];unfold thirdT;simp only [pickT, *,if_true,Bool.false_eq_true,if_false];rfl
theorem names_any (op:Int) (w:World) :
  Calls Tryz.prog 157 #[.int .u8 op] w fun e w'=>e=.returned (.string (pickT namesT op))∧w=w':=by
 obtain ⟨v,hv⟩:∃ v,v=pickT namesT op:=⟨_,rfl⟩;rw [← hv];have HV:=Lib.hid hv;clear hv;go_enter Tryz.func157,Tryz.ntmps157;go_wp2
 all_goals
  go_ret
  refine ⟨?_,rfl⟩;rw [HV.out];unfold namesT;simp only [pickT, *,if_true,Bool.false_eq_true,if_false];rfl
theorem row_any (op:Int) (w:World) :
  Calls Tryz.prog 83 #[.int .u16 op] w fun e w'=>e=.returned (.string (rowT op))∧w=w':=by
 unfold rowT
 by_cases h1:op≤71
 ·have d1:decide (op≤71)=true:=by simpa using h1
  rw [if_pos h1];go_enter Tryz.func83,Tryz.ntmps83;go_wp2_with (go_at_call 111;refine (first_any _ _).mono ?_;rintro e w' ⟨rfl,rfl⟩)
  go_ret
  exact ⟨rfl,rfl⟩
 have d1:decide (op≤71)=false:=by simpa using h1
 rw [if_neg h1]
 by_cases h2:op≤171
 ·have d2:decide (op≤171)=true:=by simpa using h2
  rw [if_pos h2];go_enter Tryz.func83,Tryz.ntmps83;go_wp2_with (go_at_call 112;refine (second_any _ _).mono ?_;rintro e w' ⟨rfl,rfl⟩)
  go_ret
  exact ⟨rfl,rfl⟩
 have d2:decide (op≤171)=false:=by simpa using h2
 rw [if_neg h2];go_enter Tryz.func83,Tryz.ntmps83;go_wp2_with (go_at_call 113;refine (third_any _ _).mono ?_;rintro e w' ⟨rfl,rfl⟩)
 go_ret
 exact ⟨rfl,rfl⟩
end
section
open Go.RowKit
theorem ba_snoc (s:ByteArray) (k:Nat) (h:k<s.size):s.data.toList.take (k+1)=s.data.toList.take k++[s[k]]:=by
 rw [List.take_succ_eq_append_getElem (by simpa using h)];rfl
theorem ba_all (s:ByteArray):s.data.toList.take s.size=s.data.toList:=List.take_of_length_le (by simp)
theorem stepF_no {a:Nat} {F:Nat→List UInt8} {c:UInt8} (h:¬ c=32):stepF (a,F) c=(a,fun j=>if j=a then F a++[c] else F j):=by
 unfold stepF;rw [if_neg h];congr 1
 funext j
 by_cases e:j=a
 ·subst e;rfl
 ·rw [if_neg e,if_neg e]
def six6 (F:Nat→List UInt8):Array Value:=#[.string (bs (F 0)),.string (bs (F 1)),.string (bs (F 2)),.string (bs (F 3)),.string (bs (F 4)),.string (bs (F 5))]
theorem six6_at (F:Nat→List UInt8) (j:Nat) (h:j≤5):(six6 F)[j]?=some (.string (bs (F j))):=by
 match j,h with
 | 0,_=>rfl
 | 1,_=>rfl
 | 2,_=>rfl
 | 3,_=>rfl
 | 4,_=>rfl
 | 5,_=>rfl
theorem six6_set (F:Nat→List UInt8) (j:Nat) (h:j≤5) (v:List UInt8):(six6 F).setIfInBounds j (.string (bs v))=six6 (fun i=>if i=j then v else F i):=by
 match j,h with
 | 0,_=>rfl
 | 1,_=>rfl
 | 2,_=>rfl
 | 3,_=>rfl
 | 4,_=>rfl
 | 5,_=>rfl
structure FldS (w:World) (s:ByteArray) (F:Nat→List UInt8) (pos:Nat) (W:World):Prop where
 k2:Blk W w.heap.size 141 #[.string ⟨#[]⟩,.string ⟨#[]⟩,.string ⟨#[]⟩,.string ⟨#[]⟩,.string ⟨#[]⟩,.string ⟨#[]⟩]
 k3:Blk W (w.heap.size+1) 141 (six6 F)
 it:IterAt W (w.heap.size+1+1) s pos
 below:Below w.heap.size w W
theorem blk_putIter {W:World} {b g:Nat} {t:TypeId} {cs:Array Value} {s:ByteArray} {pos:Nat} (h:Blk W b t cs) (hg:IterAt W g s pos) (o:Obj):Blk (W.putObj g o) b t cs:=by
 have hne:=hg.not_cells h;unfold Blk at *;rw [World.putObj_heap_other hne];exact h
theorem FldS.next {w W:World} {s:ByteArray} {F:Nat→List UInt8} {pos:Nat} (h:FldS w s F pos W) (pos':Nat):FldS w s F pos' (W.putObj (w.heap.size+1+1) (.stringIter s pos')) :=
 ⟨blk_putIter h.k2 h.it _,blk_putIter h.k3 h.it _,h.it.put pos',below_putIter _ h.below (by omega)⟩
theorem FldS.put {w W:World} {s:ByteArray} {F:Nat→List UInt8} {pos:Nat} (h:FldS w s F pos W) {j:Nat} (hj:j≤5) (v:List UInt8):FldS w s (fun i=>if i=j then v else F i) pos (W.setCell ⟨w.heap.size+1,j,none⟩ (.string (bs v))):=by
 refine ⟨h.k2.far (p:=⟨w.heap.size+1,j,none⟩) (show w.heap.size≠w.heap.size+1 by omega) _,?_,h.it.setCell (p:=⟨w.heap.size+1,j,none⟩) (show w.heap.size+1+1≠w.heap.size+1 by omega) _,h.below.setCell (p:=⟨w.heap.size+1,j,none⟩) (show w.heap.size≤w.heap.size+1 by omega) _⟩
 rw [← six6_set F j hj v];exact h.k3.set_ j _
theorem fields_any (s:ByteArray) (w:World) (ha:∀ c∈s.data.toList,c.toNat<128) (hf:(fdS s.data.toList).1≤5) (hz:s.size≤1000) :
  Calls Tryz.prog 84 #[.string s] w fun e w'=>e=.returned (.agg (six6 (fdS s.data.toList).2))∧Below w.heap.size w w':=by
 go_enter Tryz.func84,Tryz.ntmps84;have h0:FldS w s (fdS []).2 0 (((w.alloc (.cells #[.string ⟨#[]⟩,.string ⟨#[]⟩,.string ⟨#[]⟩,.string ⟨#[]⟩,.string ⟨#[]⟩,.string ⟨#[]⟩] 141)).alloc (.cells #[.string ⟨#[]⟩,.string ⟨#[]⟩,.string ⟨#[]⟩,.string ⟨#[]⟩,.string ⟨#[]⟩,.string ⟨#[]⟩] 141)).iter s 0):=by
  have k3:=Blk.new (w.alloc (.cells #[.string ⟨#[]⟩,.string ⟨#[]⟩,.string ⟨#[]⟩,.string ⟨#[]⟩,.string ⟨#[]⟩,.string ⟨#[]⟩] 141)) 141 #[.string ⟨#[]⟩,.string ⟨#[]⟩,.string ⟨#[]⟩,.string ⟨#[]⟩,.string ⟨#[]⟩,.string ⟨#[]⟩];have it:=IterAt.new ((w.alloc (.cells #[.string ⟨#[]⟩,.string ⟨#[]⟩,.string ⟨#[]⟩,.string ⟨#[]⟩,.string ⟨#[]⟩,.string ⟨#[]⟩] 141)).alloc (.cells #[.string ⟨#[]⟩,.string ⟨#[]⟩,.string ⟨#[]⟩,.string ⟨#[]⟩,.string ⟨#[]⟩,.string ⟨#[]⟩] 141)) s 0;simp only [World.size_alloc] at k3 it;exact ⟨((Blk.new w _ _).alloc _).alloc _,k3.alloc _,it,(((Below.refl _ _).alloc (Nat.le_refl _) _).alloc (by simp) _).alloc (by simp;omega) _⟩
 go_wp2_with fail;generalize ((w.alloc (.cells #[.string ⟨#[]⟩,.string ⟨#[]⟩,.string ⟨#[]⟩,.string ⟨#[]⟩,.string ⟨#[]⟩,.string ⟨#[]⟩] 141)).alloc (.cells #[.string ⟨#[]⟩,.string ⟨#[]⟩,.string ⟨#[]⟩,.string ⟨#[]⟩,.string ⟨#[]⟩,.string ⟨#[]⟩] 141)).iter s 0=w1 at *;have HA:=Lib.hid ha;clear ha;go_loopg [4] s.size (fun q i wr=>∃ pos:Nat,pos+q=s.size∧i=.int .i64 (fdS (s.data.toList.take pos)).1∧FldS w s (fdS (s.data.toList.take pos)).2 pos wr)
 case atStart=>exact ⟨0,by omega,rfl,h0⟩
 case round =>
  obtain ⟨pos,hq,rfl,hS⟩:=hrel
  by_cases hp:pos<s.size
  ·have hc:=HA.out s[pos] (by show s.data[pos]'hp∈s.data.toList;rw [Array.mem_toList_iff];exact Array.getElem_mem _)
   have hsn:=fdS_snoc (s.data.toList.take pos) s[pos];rw [← ba_snoc s pos hp] at hsn;have hle:=fdS_take s.data.toList (pos+1);have hle0:=fdS_take s.data.toList pos;have hln:=fdS_len (s.data.toList.take pos) (fdS (s.data.toList.take pos)).1;have htl:(s.data.toList.take pos).length≤pos:=List.length_take_le _ _;have hnx:=fun ty=>run_next_at (P:=Tryz.prog) hS.it ty hp hc
   have hS2:=hS.next (pos+1);have henc:=encode_ascii s[pos] hc;obtain ⟨q,rfl⟩:∃ q,gk=q+1:=⟨gk-1,by omega⟩
   have Hsn:=Lib.hid hsn;clear hsn hS;obtain ⟨st2,hst2⟩:∃ st2,fdS (s.data.toList.take (pos+1))=st2:=⟨_,rfl⟩;rw [hst2] at Hsn hle;have HT:=Lib.hid hst2;clear hst2;generalize fdS (s.data.toList.take pos)=st at *;obtain ⟨a,F⟩:=st;simp only at hle0 hln hS2;generalize (s.data.toList.take pos).length=lt at *
   by_cases h32:s[pos]=32
   ·have e1:((s[pos].toNat:Int)==32)=true:=by rw [h32];rfl
    have Hst:Hid (st2=(a+1,F)):=Lib.hid (by rw [Hsn.out];unfold stepF;rw [if_pos h32])
    clear henc;generalize s[pos]=c at *;go_wp2_with fail;go_roundg q
    case measure=>omega
    case rel=>exact ⟨pos+1,by omega,by rw [HT.out,Hst.out];go_num,by rw [HT.out,Hst.out];exact hS2⟩
   ·have e1:((s[pos].toNat:Int)==32)=false:=by
     rw [beq_eq_false_iff_ne];intro e;exact h32 (UInt8.toNat_inj.1 (by show s[pos].toNat=32;omega))
    have Hst:Hid (st2=(a,fun j=>if j=a then F a++[s[pos]] else F j)):=Lib.hid (by rw [Hsn.out];exact stepF_no h32)
    have ha5:a≤5:=by omega
    have c0:=(hS2.k3.cell a).trans (six6_at F a ha5);have f0:=hS2.k3.frozen a;have hput:=hS2.put ha5 (F a++[s[pos]]);have hadd:∀ w,(Op.stringOp .add (bs (F a)) ⟨#[s[pos]]⟩).run Tryz.prog w=.ok (.string (bs (F a++[s[pos]]))) w:=fun w=>by
     rw [run_string_add_sum]
     ·rw [show (⟨#[s[pos]]⟩:ByteArray)=bs [s[pos]] from rfl,bs_append]
     ·rw [bs_size]
      show _+1≤_
      omega
    have hlt6:(a:Int)<6:=by omega
    generalize s[pos]=c at *;clear hS2;go_wp2_with fail;go_roundg q
    case measure=>omega
    case rel=>exact ⟨pos+1,by omega,by rw [HT.out,Hst.out],by rw [HT.out,Hst.out];exact hput⟩
  ·obtain rfl:gk=0:=by omega
   obtain rfl:pos=s.size:=by omega
   have hnx:=fun ty=>run_next_done (P:=Tryz.prog) hS.it ty hp
   rw [ba_all s] at hS ⊢;obtain ⟨st,hst⟩:∃ st,fdS s.data.toList=st:=⟨_,rfl⟩;rw [hst] at hS hf ⊢;obtain ⟨a,F⟩:=st;have HST:=Lib.hid hst;simp only at hS;clear hst;obtain ⟨k2,k3,it,hb⟩:=hS;have z0:=k3.cell 0;have z1:=k3.cell 1;have z2:=k3.cell 2;have z3:=k3.cell 3;have z4:=k3.cell 4;have z5:=k3.cell 5;simp [six6] at z0 z1 z2 z3 z4 z5
   have y:=k2.cell;have y0:=y 0;have y1:=y 1;have y2:=y 2;have y3:=y 3;have y4:=y 4;have y5:=y 5;simp at y0 y1 y2 y3 y4 y5;have f2:=k2.frozen;clear y;go_wp2_with fail;have kr:=(((((k2.set_ 0 (.string (bs (F 0)))).set_ 1 (.string (bs (F 1)))).set_ 2 (.string (bs (F 2)))).set_ 3 (.string (bs (F 3)))).set_ 4 (.string (bs (F 4)))).set_ 5 (.string (bs (F 5)));have hb9:=(((((hb.setCell (p:=⟨w.heap.size,0,none⟩) (Nat.le_refl _) (.string (bs (F 0)))).setCell (p:=⟨w.heap.size,1,none⟩) (Nat.le_refl _) (.string (bs (F 1)))).setCell (p:=⟨w.heap.size,2,none⟩) (Nat.le_refl _) (.string (bs (F 2)))).setCell (p:=⟨w.heap.size,3,none⟩) (Nat.le_refl _) (.string (bs (F 3)))).setCell (p:=⟨w.heap.size,4,none⟩) (Nat.le_refl _) (.string (bs (F 4)))).setCell (p:=⟨w.heap.size,5,none⟩) (Nat.le_refl _) (.string (bs (F 5)));have kr':Blk ((((((wr.setCell ⟨w.heap.size,0,none⟩ (.string (bs (F 0)))).setCell ⟨w.heap.size,1,none⟩ (.string (bs (F 1)))).setCell ⟨w.heap.size,2,none⟩ (.string (bs (F 2)))).setCell ⟨w.heap.size,3,none⟩ (.string (bs (F 3)))).setCell ⟨w.heap.size,4,none⟩ (.string (bs (F 4)))).setCell ⟨w.heap.size,5,none⟩ (.string (bs (F 5)))) w.heap.size 141 (six6 F):=by simpa [six6] using kr
   have x0:=(kr'.cell 0).trans (six6_at F 0 (by omega))
   have x1:=(kr'.cell 1).trans (six6_at F 1 (by omega))
   have x2:=(kr'.cell 2).trans (six6_at F 2 (by omega))
   have x3:=(kr'.cell 3).trans (six6_at F 3 (by omega))
   have x4:=(kr'.cell 4).trans (six6_at F 4 (by omega))
   have x5:=(kr'.cell 5).trans (six6_at F 5 (by omega))
   clear kr kr' y0 y1 y2 y3 y4 y5 z0 z1 z2 z3 z4 z5 k2 k3;generalize (((((wr.setCell ⟨w.heap.size,0,none⟩ (.string (bs (F 0)))).setCell ⟨w.heap.size,1,none⟩ (.string (bs (F 1)))).setCell ⟨w.heap.size,2,none⟩ (.string (bs (F 2)))).setCell ⟨w.heap.size,3,none⟩ (.string (bs (F 3)))).setCell ⟨w.heap.size,4,none⟩ (.string (bs (F 4)))).setCell ⟨w.heap.size,5,none⟩ (.string (bs (F 5)))=wz at *;exact bodyPost_ret (v:=.agg (six6 F)) (by simp [results,Tryz.results84,go_sem,six6,x0,x1,x2,x3,x4,x5]) rfl ⟨by rw [HST.out],hb9⟩
end
section
open Go.RowKit
def formV (op:Int) (f:FormI):Array Value:=#[.int .u16 op,.string (bs f.name),.bool f.ty,.bool f.res,.string (bs f.fixed),.string (bs f.rest),.int .i64 f.most,.int .u8 f.part]
def form0:Array Value:=#[.int .u16 0,.string ⟨#[]⟩,.bool false,.bool false,.string ⟨#[]⟩,.string ⟨#[]⟩,.int .i64 0,.int .u8 0]
theorem fdS_mem (l:List UInt8) (h:∀ c∈l,c.toNat<128):∀ j,∀ c∈(fdS l).2 j,c.toNat<128:=by
 have k:∀ (l:List UInt8) (st:FSt),(∀ c∈l,c.toNat<128)→(∀ j,∀ c∈st.2 j,c.toNat<128)→∀ j,∀ c∈(l.foldl stepF st).2 j,c.toNat<128:=by
  intro l
  induction l with
  | nil=>intro st _ h;exact h
  | cons d l ih =>
   intro st h1 h2;refine ih _ (fun c hc=>h1 c (by simp [hc])) (fun j c hc=>?_)
   unfold stepF at hc
   split at hc
   ·exact h2 j c hc
   ·simp only at hc
    split at hc
    ·rcases List.mem_append.1 hc with hc | hc
     ·exact h2 j c hc
     ·rw [List.mem_singleton] at hc;rw [hc];exact h1 d (by simp)
    ·exact h2 j c hc
 exact k l _ h (fun j c hc=>by simp at hc)
theorem six_ {w:World} {g:Nat} {x0 x1 x2 x3 x4 x5:Value} (h:∀ i,w.cell? ⟨g,i,none⟩=#[x0,x1,x2,x3,x4,x5][i]?):w.cell? ⟨g,0,none⟩=some x0∧w.cell? ⟨g,1,none⟩=some x1∧w.cell? ⟨g,2,none⟩=some x2∧w.cell? ⟨g,3,none⟩=some x3∧w.cell? ⟨g,4,none⟩=some x4∧w.cell? ⟨g,5,none⟩=some x5 :=
 ⟨h 0,h 1,h 2,h 3,h 4,h 5⟩
theorem Blk.step {w w':World} {g:Nat} {t:TypeId} {cs:Array Value} (h:Blk w g t cs) (hb:Below w.heap.size w w'):Blk w' g t cs:=h.below hb h.lt
theorem cell_new {W:World} {a:Addr} {v:Value} (o:Obj) (h:W.cell? a=some v):(W.alloc o).cell? a=some v:=by
 have hl:a.block<W.heap.size:=by
  rcases Nat.lt_or_ge a.block W.heap.size with h' | h'
  ·exact h'
  ·unfold World.cell? at h;rw [Array.getElem?_eq_none h'] at h;cases h
 exact (World.cell?_alloc_lt W o a hl).trans h
abbrev S6 (w1:World) (g:Nat) (s0 s1 s2 s3 s4 s5:ByteArray) (w':World):Prop :=
 w'.cell? ⟨g,0,none⟩=some (.string s0)∧w'.cell? ⟨g,1,none⟩=some (.string s1)∧w'.cell? ⟨g,2,none⟩=some (.string s2)∧w'.cell? ⟨g,3,none⟩=some (.string s3)∧w'.cell? ⟨g,4,none⟩=some (.string s4)∧w'.cell? ⟨g,5,none⟩=some (.string s5)∧Below w1.heap.size w1 w'
section
variable {w1 w2:World} {g:Nat} {s0 s1 s2 s3 s4 s5:ByteArray}
theorem S6.drew_ (h:S6 w1 g s0 s1 s2 s3 s4 s5 w2):S6 w1 g s0 s1 s2 s3 s4 s5 w2.drew:=by
 obtain ⟨h0,h1,h2,h3,h4,h5,h9⟩:=h;exact ⟨h0,h1,h2,h3,h4,h5,h9.drew⟩
theorem S6.new (h:S6 w1 g s0 s1 s2 s3 s4 s5 w2) {o:Obj}:S6 w1 g s0 s1 s2 s3 s4 s5 (w2.alloc o):=by
 obtain ⟨h0,h1,h2,h3,h4,h5,h9⟩:=h;exact ⟨cell_new _ h0,cell_new _ h1,cell_new _ h2,cell_new _ h3,cell_new _ h4,cell_new _ h5,h9.alloc h9.size _⟩
theorem S6.is (h:S6 w1 g s0 s1 s2 s3 s4 s5 w2):Below w1.heap.size w1 w2:=h.2.2.2.2.2.2
end
theorem beq_empty (s:ByteArray) (h:s.size=0):s=⟨#[]⟩:=by
 obtain ⟨d⟩:=s;have h2:d.size=0:=h;rw [Array.eq_empty_of_size_eq_zero h2]
theorem ne_isEmpty {s:ByteArray} (h:s.size≠0):s.toList.isEmpty=false:=by
 rw [ByteArray.toList_eq];obtain ⟨⟨l⟩⟩:=s;cases l with
 | nil=>exact absurd rfl h
 | cons c l=>rfl
theorem of_none (op:Int) (w:World) (h:formOf op=none) :
  Calls Tryz.prog 58 #[.int .u16 op] w fun e w'=>e=.returned (.tuple #[.agg form0,.bool false])∧Below w.heap.size w w':=by
 have hz:rowT op=⟨#[]⟩:=by
  unfold formOf at h
  split at h
  ·exact beq_empty _ (by assumption)
  ·cases h
 have hr:=row_any op;rw [hz] at hr;clear hz h;go_enter Tryz.func58,Tryz.ntmps58;go_wp2_with (go_at_call 83;refine (hr _).mono ?_;rintro e w' ⟨rfl,rfl⟩)
 exact bodyPost_ret (v:=.tuple #[.agg form0,.bool false]) (by simp [results,Tryz.results58,go_sem,form0]) rfl ⟨rfl,(Below.refl _ _).alloc (Nat.le_refl _) _⟩
theorem u8_84 (c:UInt8):((c.toNat:Int)==84)=(c==84):=by
 rw [Bool.eq_iff_iff,beq_iff_eq,beq_iff_eq,← UInt8.toNat_inj]
 show _ ↔ c.toNat=84
 omega
theorem u8_82 (c:UInt8):((c.toNat:Int)==82)=(c==82):=by
 rw [Bool.eq_iff_iff,beq_iff_eq,beq_iff_eq,← UInt8.toNat_inj]
 show _ ↔ c.toNat=82
 omega
theorem form_put {w W:World} (k:Blk W w.heap.size 129 form0) (hb:Below w.heap.size w W) (op:Int) (s0 s2 s3:ByteArray) (T R:Bool) (m part:Int) :
  Blk ((((((((W.setCell ⟨w.heap.size,0,none⟩ (.int .u16 op)).setCell ⟨w.heap.size,1,none⟩ (.string s0)).setCell ⟨w.heap.size,2,none⟩ (.bool T)).setCell ⟨w.heap.size,3,none⟩ (.bool R)).setCell ⟨w.heap.size,4,none⟩ (.string s2)).setCell ⟨w.heap.size,5,none⟩ (.string s3)).setCell ⟨w.heap.size,6,none⟩ (.int .i64 m)).setCell ⟨w.heap.size,7,none⟩ (.int .u8 part)) w.heap.size 129 #[.int .u16 op,.string s0,.bool T,.bool R,.string s2,.string s3,.int .i64 m,.int .u8 part] ∧
  Below w.heap.size w ((((((((W.setCell ⟨w.heap.size,0,none⟩ (.int .u16 op)).setCell ⟨w.heap.size,1,none⟩ (.string s0)).setCell ⟨w.heap.size,2,none⟩ (.bool T)).setCell ⟨w.heap.size,3,none⟩ (.bool R)).setCell ⟨w.heap.size,4,none⟩ (.string s2)).setCell ⟨w.heap.size,5,none⟩ (.string s3)).setCell ⟨w.heap.size,6,none⟩ (.int .i64 m)).setCell ⟨w.heap.size,7,none⟩ (.int .u8 part)):=by
 refine ⟨?_,?_⟩
 ·have h:=(((((((k.set_ 0 (.int .u16 op)).set_ 1 (.string s0)).set_ 2 (.bool T)).set_ 3 (.bool R)).set_ 4 (.string s2)).set_ 5 (.string s3)).set_ 6 (.int .i64 m)).set_ 7 (.int .u8 part);simpa [form0] using h
 ·exact (((((((hb.setCell (p:=⟨w.heap.size,0,none⟩) (Nat.le_refl _) _).setCell (p:=⟨w.heap.size,1,none⟩) (Nat.le_refl _) _).setCell (p:=⟨w.heap.size,2,none⟩) (Nat.le_refl _) _).setCell (p:=⟨w.heap.size,3,none⟩) (Nat.le_refl _) _).setCell (p:=⟨w.heap.size,4,none⟩) (Nat.le_refl _) _).setCell (p:=⟨w.heap.size,5,none⟩) (Nat.le_refl _) _).setCell (p:=⟨w.heap.size,6,none⟩) (Nat.le_refl _) _).setCell (p:=⟨w.heap.size,7,none⟩) (Nat.le_refl _) _
theorem eight_ {w:World} {g:Nat} {x0 x1 x2 x3 x4 x5 x6 x7:Value} (h:∀ i,w.cell? ⟨g,i,none⟩=#[x0,x1,x2,x3,x4,x5,x6,x7][i]?):w.cell? ⟨g,0,none⟩=some x0∧w.cell? ⟨g,1,none⟩=some x1∧w.cell? ⟨g,2,none⟩=some x2∧w.cell? ⟨g,3,none⟩=some x3∧w.cell? ⟨g,4,none⟩=some x4∧w.cell? ⟨g,5,none⟩=some x5∧w.cell? ⟨g,6,none⟩=some x6∧w.cell? ⟨g,7,none⟩=some x7 :=
 ⟨h 0,h 1,h 2,h 3,h 4,h 5,h 6,h 7⟩
structure OfS (w:World) (g5 g6 gi:Nat) (op:Int) (s0 s1 s2 s3 s4 s5:ByteArray) (part:Int) (T R:Bool) (pos:Nat) (W:World):Prop where
 k2:Blk W w.heap.size 129 form0
 kf:Blk W g5 141 #[.string s0,.string s1,.string s2,.string s3,.string s4,.string s5]
 k6:Blk W g6 129 #[.int .u16 op,.string s0,.bool T,.bool R,.string s2,.string s3,.int .i64 0,.int .u8 part]
 it:IterAt W gi s1 pos
 below:Below w.heap.size w W
section
variable {w W:World} {g5 g6 gi:Nat} {op:Int} {s0 s1 s2 s3 s4 s5:ByteArray} {part:Int} {T R:Bool} {pos:Nat}
theorem OfS.next (h:OfS w g5 g6 gi op s0 s1 s2 s3 s4 s5 part T R pos W) (hg:w.heap.size≤gi) (pos':Nat):OfS w g5 g6 gi op s0 s1 s2 s3 s4 s5 part T R pos' (W.putObj gi (.stringIter s1 pos')) :=
 ⟨blk_putIter h.k2 h.it _,blk_putIter h.kf h.it _,blk_putIter h.k6 h.it _,h.it.put pos',below_putIter _ h.below hg⟩
theorem OfS.put (h:OfS w g5 g6 gi op s0 s1 s2 s3 s4 s5 part T R pos W) (hg:w.heap.size<g6) (T' R':Bool):OfS w g5 g6 gi op s0 s1 s2 s3 s4 s5 part T' R' pos ((W.setCell ⟨g6,2,none⟩ (.bool T')).setCell ⟨g6,3,none⟩ (.bool R')):=by
 have hne:=h.it.not_cells h.k6;have hne5:g5≠g6:=h.kf.ne_ h.k6 (by decide)
 refine ⟨(h.k2.far (p:=⟨g6,2,none⟩) (show w.heap.size≠g6 by omega) _).far (p:=⟨g6,3,none⟩) (show w.heap.size≠g6 by omega) _,(h.kf.far (p:=⟨g6,2,none⟩) hne5 _).far (p:=⟨g6,3,none⟩) hne5 _,?_,(h.it.setCell (p:=⟨g6,2,none⟩) (Ne.symm hne) _).setCell (p:=⟨g6,3,none⟩) (Ne.symm hne) _,(h.below.setCell (p:=⟨g6,2,none⟩) (show w.heap.size≤g6 by omega) _).setCell (p:=⟨g6,3,none⟩) (show w.heap.size≤g6 by omega) _⟩
 simpa using (h.k6.set_ 2 (.bool T')).set_ 3 (.bool R')
end
theorem of_some (op:Int) (w:World) (f:FormI) (h:formOf op=some f) :
  Calls Tryz.prog 58 #[.int .u16 op] w fun e w'=>e=.returned (.tuple #[.agg (formV op f),.bool true])∧Below w.heap.size w w':=by
 have hf:f=formT (rowT op)∧(rowT op).size≠0:=by
  unfold formOf at h
  split at h
  ·cases h
  ·injection h with h;exact ⟨h.symm,by assumption⟩
 have hok:OkRow (rowT op):=by
  rcases rowT_or op with h | h
  ·rw [h] at hf;exact absurd rfl hf.2
  ·exact okRow_is h
 have hr:=row_any op;clear h;obtain ⟨hf,hne⟩:=hf;generalize rowT op=s at *;have hfl:=fun w=>fields_any s w hok.ascii (by rw [hok.sp];omega) (by have:=hok.size;omega)
 have hs1:=ne_isEmpty hne;obtain ⟨F,hF⟩:∃ F,F=(fdS s.data.toList).2:=⟨_,rfl⟩;rw [← hF] at hfl;obtain ⟨c5,h5,h51,h52⟩:=hok.d5;have h4:=hok.d4;rw [← hF] at h5 h4;have ha1:∀ c∈F 1,c.toNat<128:=by rw [hF];exact fdS_mem _ hok.ascii 1
 have hl1:(F 1).length≤60:=by
  rw [hF];have h1:=fdS_len s.data.toList 1;have h2:=hok.size;have h3:s.data.toList.length=s.size:=by simp
  omega
 have hfv:f=⟨F 0,(F 1).any (·==84),(F 1).any (·==82),F 2,F 3,dg (F 4),(c5.toNat:Int)-48⟩:=by rw [hf];unfold formT formF;rw [← hF,h5];rfl
 unfold six6 at hfl;have h50:0<(bs (F 5)).size:=by rw [h5];exact Nat.one_pos
 have h5e:∀ h,(bs (F 5))[0]'h=c5:=by rw [h5];intro _;rfl
 have hw5:IntKind.u8.wrap ((c5.toNat:Int)-48)=(c5.toNat:Int)-48:=by simp [IntKind.wrap,IntKind.signed,IntKind.bits];omega
 have H4:=Lib.hid h4;have Hf:=Lib.hid hfv;have HA:=Lib.hid ha1;clear hF hf h5 h4 hok hne hfv ha1;have HV0:Hid (∀ (T R:Bool) (m:Int),formV op ⟨F 0,T,R,F 2,F 3,m,(c5.toNat:Int)-48⟩=#[.int .u16 op,.string (bs (F 0)),.bool T,.bool R,.string (bs (F 2)),.string (bs (F 3)),.int .i64 m,.int .u8 ((c5.toNat:Int)-48)]):=Lib.hid (fun _ _ _=>rfl)
 generalize bs (F 0)=s0 at *;generalize hs1':bs (F 1)=s1 at *;generalize bs (F 2)=s2 at *;generalize bs (F 3)=s3 at *;generalize hs4:bs (F 4)=s4 at *;generalize bs (F 5)=s5 at *;have h5f:=h5e h50;clear h5e;have HS1:=Lib.hid hs1';have HS4:=Lib.hid hs4;clear hs1' hs4;go_enter Tryz.func58,Tryz.ntmps58;go_wp2_with (go_at_call 83;refine (hr _).mono ?_;rintro e w' ⟨rfl,rfl⟩)
 refine (hfl _).mono ?_;rintro e w1 ⟨rfl,hb1⟩;have hb2:=((Below.refl w.heap.size w).alloc (Nat.le_refl _) (.cells form0 129));have k2:=(Blk.new w 129 form0).below hb1 (by simp)
 have hb3:=below_cut hb2 hb1 (Nat.le_refl _);have kf:=Blk.new w1 141 #[.string s0,.string s1,.string s2,.string s3,.string s4,.string s5];have k22:=k2.alloc (.cells #[.string s0,.string s1,.string s2,.string s3,.string s4,.string s5] 141);have hb4:=hb3.alloc hb3.size (.cells #[.string s0,.string s1,.string s2,.string s3,.string s4,.string s5] 141);clear hb1 hb2 hb3 k2 hfl hr;go_wp2_with fail;generalize w1.alloc (.cells #[.string s0,.string s1,.string s2,.string s3,.string s4,.string s5] 141)=w2 at *;generalize w1.heap.size=g5 at *;obtain ⟨q0,q1,q2,q3,q4,q5⟩:=six_ kf.cell;have hS0:S6 w2 g5 s0 s1 s2 s3 s4 s5 w2:=⟨q0,q1,q2,q3,q4,q5,Below.refl _ _⟩;clear q0 q1 q2 q3 q4 q5;go_region_held3 (S6 w2 g5 s0 s1 s2 s3 s4 s5) (first | with_reducible exact hS0.drew_ | with_reducible assumption | with_reducible exact hS0.new.drew_ | fail) (fail)
 all_goals
  have hb5:Below w.heap.size w _:=below_cut hb4 (S6.is (by assumption)) (Nat.le_refl _)
  have k23:=k22.step (S6.is (by assumption))
  have kf3:=kf.step (S6.is (by assumption))
  have k6:=(Blk.new w2 129 #[.int .u16 op,.string s0,.bool false,.bool false,.string s2,.string s3,.int .i64 0,.int .u8 ((c5.toNat:Int)-48)]).drew;have hg6:=k22.lt;clear hS0 k22 hb4 kf;go_wp2_with fail;have hw3:(w2.alloc (.cells #[.int .u16 op,.string s0,.bool false,.bool false,.string s2,.string s3,.int .i64 0,.int .u8 ((c5.toNat:Int)-48)] 129)).drew.heap.size=w2.heap.size+1:=by simp
  generalize (w2.alloc (.cells #[.int .u16 op,.string s0,.bool false,.bool false,.string s2,.string s3,.int .i64 0,.int .u8 ((c5.toNat:Int)-48)] 129)).drew=w3 at *;have kf31:=kf3.cell 1;simp at kf31;have h0:OfS w g5 w2.heap.size (w2.heap.size+1) op s0 s1 s2 s3 s4 s5 ((c5.toNat:Int)-48) false false 0 (w3.iter s1 0) :=
   ⟨k23.alloc _,kf3.alloc _,k6.alloc _,by have:=IterAt.new w3 s1 0;rwa [hw3] at this,hb5.alloc hb5.size _⟩
  have hgi:w.heap.size≤w2.heap.size+1:=by omega
  clear hw3;generalize w2.heap.size=g6 at *;clear k23 kf3 k6 hb5;go_wp2_with fail;generalize w3.iter s1 0=w4 at *;clear kf31;have hsz1:s1.data.toList=F 1:=by rw [← HS1.out];rfl
  have hsz2:s1.size=(F 1).length:=by rw [← HS1.out];exact bs_size _
  have HL:=Lib.hid hsz1;have HZ:=Lib.hid hsz2;clear hsz1 hsz2;go_loopg [] s1.size (fun q wr=>∃ pos:Nat,pos+q=s1.size∧OfS w g5 g6 (g6+1) op s0 s1 s2 s3 s4 s5 ((c5.toNat:Int)-48) ((s1.data.toList.take pos).any (·==84)) ((s1.data.toList.take pos).any (·==82)) pos wr)
  case atStart=>exact ⟨0,by omega,h0⟩
  case round =>
   obtain ⟨pos,hq,hS⟩:=hrel
   by_cases hp:pos<s1.size
   ·have hc:=HA.out s1[pos] (by rw [← HL.out];show s1.data[pos]'hp∈s1.data.toList;rw [Array.mem_toList_iff];exact Array.getElem_mem _)
    have hnx:=fun ty=>run_next_at (P:=Tryz.prog) hS.it ty hp hc
    have hS2:=hS.next hgi (pos+1);have hT2:(s1.data.toList.take (pos+1)).any (·==84)=((s1.data.toList.take pos).any (·==84)||((s1[pos].toNat:Int)==84)):=by rw [ba_snoc s1 pos hp,List.any_append,u8_84];simp
    have hR2:(s1.data.toList.take (pos+1)).any (·==82)=((s1.data.toList.take pos).any (·==82)||((s1[pos].toNat:Int)==82)):=by rw [ba_snoc s1 pos hp,List.any_append,u8_82];simp
    have HT2:=Lib.hid hT2;have HR2:=Lib.hid hR2;clear hT2 hR2 hS;generalize (s1.data.toList.take pos).any (·==84)=T at *;generalize (s1.data.toList.take pos).any (·==82)=R at *;generalize s1[pos]=c at *;have c2:=hS2.k6.cell 2;have c3:=hS2.k6.cell 3;simp at c2 c3;have f6:=hS2.k6.frozen;have hput:=hS2.put hg6 (T||((c.toNat:Int)==84)) (R||((c.toNat:Int)==82))
    obtain ⟨q,rfl⟩:∃ q,gk=q+1:=⟨gk-1,by omega⟩
    clear hS2 hc
    rcases T with _ | _ <;> rcases R with _ | _
    all_goals
     go_wp2_with fail;go_roundg q
     case measure=>omega
     case rel=>exact ⟨pos+1,by omega,by rw [HT2.out,HR2.out];exact hput⟩
   ·obtain rfl:gk=0:=by omega
    obtain rfl:pos=s1.size:=by omega
    have hnx:=fun ty=>run_next_done (P:=Tryz.prog) hS.it ty hp
    rw [ba_all s1,HL.out] at hS;have HfT:=Lib.hid Hf.out;generalize (F 1).any (·==84)=T at *;generalize (F 1).any (·==82)=R at *;obtain ⟨k2,kf,k6,it,hb⟩:=hS;clear it;have z4:=kf.cell 4;simp at z4;have y:=fun i=>k6.cell i
    have y0:=y 0;have y1:=y 1;have y2:=y 2;have y3:=y 3;have y4:=y 4;have y5:=y 5;have y6:=y 6;have y7:=y 7;simp at y0 y1 y2 y3 y4 y5 y6 y7;clear y;obtain ⟨v0,v1,v2,v3,v4,v5,v6,v7⟩:=eight_ k2.cell;have hgne:¬ (w.heap.size=g6):=by omega
    have hgne':¬ (g6=w.heap.size):=by omega
    have f2:=k2.frozen;have f6:=k6.frozen
    rcases H4.out with h4 | ⟨c4,h4,h41,h42⟩
    ·have hz4:s4.toList.isEmpty=true:=by rw [← HS4.out,h4,ByteArray.toList_eq];rfl
     have hfe:formV op f=#[.int .u16 op,.string s0,.bool T,.bool R,.string s2,.string s3,.int .i64 0,.int .u8 ((c5.toNat:Int)-48)]:=by
      rw [HfT.out,h4];exact HV0.out T R 0
     have HFe:=Lib.hid hfe;clear hfe h4;go_wp2_with fail;obtain ⟨kz,hbz⟩:=form_put (W:=wr) k2 hb op s0 s2 s3 T R 0 ((c5.toNat:Int)-48);obtain ⟨x0,x1,x2,x3,x4,x5,x6,x7⟩:=eight_ kz.cell;clear kz y0 y1 y2 y3 y4 y5 y6 y7 f2 f6 v0 v1 v2 v3 v4 v5 v6 v7;generalize ((((((((wr.setCell ⟨w.heap.size,0,none⟩ (.int .u16 op)).setCell ⟨w.heap.size,1,none⟩ (.string s0)).setCell ⟨w.heap.size,2,none⟩ (.bool T)).setCell ⟨w.heap.size,3,none⟩ (.bool R)).setCell ⟨w.heap.size,4,none⟩ (.string s2)).setCell ⟨w.heap.size,5,none⟩ (.string s3)).setCell ⟨w.heap.size,6,none⟩ (.int .i64 0)).setCell ⟨w.heap.size,7,none⟩ (.int .u8 ((c5.toNat:Int)-48)))=wz at *;refine bodyPost_ret (v:=.tuple #[.agg #[.int .u16 op,.string s0,.bool T,.bool R,.string s2,.string s3,.int .i64 0,.int .u8 ((c5.toNat:Int)-48)],.bool true]) (by simp [results,Tryz.results58,go_sem,x0,x1,x2,x3,x4,x5,x6,x7]) rfl ⟨by rw [HFe.out],hbz⟩
    ·have hz4:s4.toList.isEmpty=false:=by rw [← HS4.out,h4,ByteArray.toList_eq];rfl
     have h40:0<s4.size:=by rw [← HS4.out,h4];exact Nat.one_pos
     have h4e:s4[0]'h40=c4:=by
      have:∀ (x:ByteArray) (h:0<x.size),x=bs [c4]→x[0]'h=c4:=fun x h e=>by subst e;rfl
      exact this s4 h40 (by rw [← HS4.out,h4])
     have hw4:IntKind.u8.wrap ((c4.toNat:Int)-48)=(c4.toNat:Int)-48:=by simp [IntKind.wrap,IntKind.signed,IntKind.bits];omega
     have hfe:formV op f=#[.int .u16 op,.string s0,.bool T,.bool R,.string s2,.string s3,.int .i64 ((c4.toNat:Int)-48),.int .u8 ((c5.toNat:Int)-48)]:=by
      rw [HfT.out,h4];exact HV0.out T R _
     have HFe:=Lib.hid hfe;have k2':=k2.far (p:=⟨g6,6,none⟩) (show w.heap.size≠g6 by omega) (.int .i64 ((c4.toNat:Int)-48))
     have hb':=hb.setCell (p:=⟨g6,6,none⟩) (show w.heap.size≤g6 by omega) (.int .i64 ((c4.toNat:Int)-48))
     clear hfe h4;go_wp2_with fail;obtain ⟨kz,hbz⟩:=form_put (W:=wr.setCell ⟨g6,6,none⟩ (.int .i64 ((c4.toNat:Int)-48))) k2' hb' op s0 s2 s3 T R ((c4.toNat:Int)-48) ((c5.toNat:Int)-48);obtain ⟨x0,x1,x2,x3,x4,x5,x6,x7⟩:=eight_ kz.cell;clear kz y0 y1 y2 y3 y4 y5 y6 y7 f2 f6 v0 v1 v2 v3 v4 v5 v6 v7;generalize (((((((((wr.setCell ⟨g6,6,none⟩ (.int .i64 ((c4.toNat:Int)-48))).setCell ⟨w.heap.size,0,none⟩ (.int .u16 op)).setCell ⟨w.heap.size,1,none⟩ (.string s0)).setCell ⟨w.heap.size,2,none⟩ (.bool T)).setCell ⟨w.heap.size,3,none⟩ (.bool R)).setCell ⟨w.heap.size,4,none⟩ (.string s2)).setCell ⟨w.heap.size,5,none⟩ (.string s3)).setCell ⟨w.heap.size,6,none⟩ (.int .i64 ((c4.toNat:Int)-48))).setCell ⟨w.heap.size,7,none⟩ (.int .u8 ((c5.toNat:Int)-48)))=wz at *;refine bodyPost_ret (v:=.tuple #[.agg #[.int .u16 op,.string s0,.bool T,.bool R,.string s2,.string s3,.int .i64 ((c4.toNat:Int)-48),.int .u8 ((c5.toNat:Int)-48)],.bool true]) (by simp [results,Tryz.results58,go_sem,x0,x1,x2,x3,x4,x5,x6,x7]) rfl ⟨by rw [HFe.out],hbz⟩
end
section
open Go.RowKit
def formC (op:Int) (s0:ByteArray) (T R:Bool) (s2 s3:ByteArray) (m part:Int):Array Value:=#[.int .u16 op,.string s0,.bool T,.bool R,.string s2,.string s3,.int .i64 m,.int .u8 part]
theorem kind_any (c:Int) (w:World) :
  Calls Tryz.prog 150 #[.int .u8 c] w fun e w'=>e=.returned (.int .u8 (kindT c))∧w=w':=by
 obtain ⟨v,hv⟩:∃ v,v=kindT c:=⟨_,rfl⟩;rw [← hv];have HV:=Lib.hid hv;clear hv;have hn:=names_any c;obtain ⟨s,hs⟩:∃ s,s=pickT namesT c:=⟨_,rfl⟩;rw [← hs] at hn;have HS:=Lib.hid hs;clear hs;have he:s.size=0→s.toList.isEmpty=true:=fun h=>by rw [beq_empty s h,ByteArray.toList_eq];rfl
 have he':s.size≠0→s.toList.isEmpty=false:=ne_isEmpty
 by_cases hz:s.size=0
 ·have hz1:=he hz;clear he he';go_enter Tryz.func150,Tryz.ntmps150;go_wp2_with (go_at_call 157;refine (hn _).mono ?_;rintro e w' ⟨rfl,rfl⟩)
  all_goals
   go_ret
   refine ⟨?_,rfl⟩;rw [HV.out];unfold kindT;rw [← HS.out];simp only [*,if_true,Bool.false_eq_true,if_false];rfl
 ·have hz1:=he' hz;clear he he';go_enter Tryz.func150,Tryz.ntmps150;go_wp2_with (go_at_call 157;refine (hn _).mono ?_;rintro e w' ⟨rfl,rfl⟩)
  all_goals
   go_ret
   refine ⟨?_,rfl⟩;rw [HV.out];unfold kindT;rw [← HS.out];simp only [*,if_true,Bool.false_eq_true,if_false];rfl
theorem fixed_any (op:Int) (s0:ByteArray) (T R:Bool) (s2 s3:ByteArray) (m part:Int) (i:Nat) (w:World) :
  Calls Tryz.prog 162 #[.agg (formC op s0 T R s2 s3 m part),.int .i64 (i:Nat)] w fun e w'=>e=.returned (.int .u8 (fixedB s2 i))∧Below w.heap.size w w':=by
 unfold formC;have hb:=(Below.refl w.heap.size w).alloc (Nat.le_refl _) (.cells #[.int .u16 op,.string s0,.bool T,.bool R,.string s2,.string s3,.int .i64 m,.int .u8 part] 213)
 by_cases h:i<s2.size
 ·have hv:fixedB s2 i=(s2[i].toNat:Int):=dif_pos h;rw [hv];clear hv;go_enter Tryz.func162,Tryz.ntmps162;go_wp2
  go_ret
  exact ⟨rfl,hb⟩
 ·have hv:fixedB s2 i=0:=dif_neg h;rw [hv];clear hv;go_enter Tryz.func162,Tryz.ntmps162;go_wp2
  go_ret
  exact ⟨rfl,hb⟩
theorem rest_any (op:Int) (s0:ByteArray) (T R:Bool) (s2 s3:ByteArray) (m part:Int) (i:Nat) (w:World) (hi:i<2^62) (hs:s2.size≤60) (hs3:s3.size≤60) (hm:0≤m∧m≤9) :
  Calls Tryz.prog 163 #[.agg (formC op s0 T R s2 s3 m part),.int .i64 (i:Nat)] w fun e w'=>e=.returned (.int .u8 (restB s2 s3 m i))∧Below w.heap.size w w':=by
 unfold formC;have hb:=(Below.refl w.heap.size w).alloc (Nat.le_refl _) (.cells #[.int .u16 op,.string s0,.bool T,.bool R,.string s2,.string s3,.int .i64 m,.int .u8 part] 213)
 by_cases h:i<s2.size
 ·have hv:restB s2 s3 m i=0:=if_pos (.inl h);rw [hv];clear hv;go_enter Tryz.func163,Tryz.ntmps163;go_wp2
  go_ret
  exact ⟨rfl,hb⟩
 ·by_cases h3:s3.size=0
  ·have hv:restB s2 s3 m i=0:=if_pos (.inr (.inl h3));rw [hv];clear hv;have he:s3.toList.isEmpty=true:=by rw [beq_empty s3 h3,ByteArray.toList_eq];rfl
   go_enter Tryz.func163,Tryz.ntmps163;go_wp2
   go_ret
   exact ⟨rfl,hb⟩
  ·have he:s3.toList.isEmpty=false:=ne_isEmpty h3;obtain ⟨j,hij⟩:∃ j,i=s2.size+j:=⟨i-s2.size,by omega⟩
   obtain ⟨q,rfl⟩:∃ q:Nat,m=q:=⟨m.toNat,by omega⟩
   have hj:(i:Int)-(s2.size:Int)=(j:Int):=by omega
   have hmul:((q:Nat):Int)*(s3.size:Nat)=((q*s3.size:Nat):Int):=by simp
   have hml:q*s3.size≤9*60:=Nat.mul_le_mul (by omega) hs3
   have hrest:restB s2 s3 (q:Nat) i=if 0<q∧q*s3.size≤j then 0 else if h:j % s3.size<s3.size then (s3[j % s3.size].toNat:Int) else 0:=by
    rw [hij];unfold restB;rw [Nat.add_sub_cancel_left]
    by_cases hc:0<q∧q*s3.size≤j
    ·rw [if_pos hc,if_pos (.inr (.inr ⟨by omega,by rw [hmul];omega⟩))]
    ·rw [if_neg hc,if_neg];rintro (h' | h' | ⟨h',h''⟩)
     ·omega
     ·exact h3 h'
     ·exact hc ⟨by omega,by rw [hmul] at h'';omega⟩
   have hmod:j % s3.size<s3.size:=Nat.mod_lt _ (by omega)
   rw [hrest];clear hrest;have hmm:(j:Int) % (s3.size:Int)=((j % s3.size:Nat):Int):=rfl;generalize j % s3.size=k at *;have hz0:((s3.size:Int)==0)=false:=by rw [beq_eq_false_iff_ne];omega
   have hmul':IntKind.i64.wrap (((q:Nat):Int)*(s3.size:Nat))=((q*s3.size:Nat):Int):=by rw [hmul];simp [IntKind.wrap,IntKind.signed,IntKind.bits];omega
   have hji:j<2^62:=by omega
   clear hmul hij
   by_cases hc:0<q∧q*s3.size≤j
   ·rw [if_pos hc];obtain ⟨hc1,hc2⟩:=hc;go_enter Tryz.func163,Tryz.ntmps163;go_wp2
    go_ret
    exact ⟨rfl,hb⟩
   ·rw [if_neg hc,dif_pos hmod]
    by_cases hq:0<q
    ·have hc2:¬ (q*s3.size≤j):=fun h=>hc ⟨hq,h⟩
     go_enter Tryz.func163,Tryz.ntmps163;go_wp2_with fail;go_big_region
     go_wp2_with fail;go_ret
     exact ⟨rfl,hb.drew⟩
    ·go_enter Tryz.func163,Tryz.ntmps163;go_wp2_with fail;go_big_region
     go_wp2_with fail;go_ret
     exact ⟨rfl,hb.drew⟩
end
end Go.Proofs.YtdebjkiilnhgpaaGreatDoor
