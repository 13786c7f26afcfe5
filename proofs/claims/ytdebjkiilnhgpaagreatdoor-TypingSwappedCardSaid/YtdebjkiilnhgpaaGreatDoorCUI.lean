/- Walks: slices.Clone of words: a row of its own with the same numbers; nothing that was there has turned. -/
import Derived.Test.YtdebjkiilnhgpaaGreatDoorCTF
import Derived.Test.YtdebjkiilnhgpaaGreatDoorCTO
set_option maxRecDepth 100000
set_option maxHeartbeats 4000000
namespace Go.Proofs.YtdebjkiilnhgpaaGreatDoor
section
open Go.RowKit
end
section
open Go.RowKit
def TabI (w:World) (p:Option Addr) (ord:List Int):Prop :=
 (p=none∧ord=[])∨∃ gt A m c,p=some ⟨gt,0,none⟩∧w.cell? ⟨gt,1,none⟩=some (.slice A m c)∧Reads w w.heap.size 1 A m (Ints .u32 ord)∧m≤7100000000000
theorem TabI.step {w w':World} {p:Option Addr} {ord:List Int} (h:TabI w p ord) (hb:Below w.heap.size w w'):TabI w' p ord:=by
 rcases h with h | ⟨gt,A,m,c,h1,h2,h3,h4⟩
 ·exact .inl h
 ·exact .inr ⟨gt,A,m,c,h1,(hb.cell (p:=⟨gt,1,none⟩) (World.block_lt_of_cell? w _ h2)).trans h2,(h3.below hb).more hb.size,h4⟩
end
section
open Go.RowKit
theorem TabP.depth {w:World} {p:Option Addr} {T:Int→TyI} {S:Int→SlI} (h:TabP w p T S) (id:Int):0≤(T id).depth:=by
 rcases h with ⟨-,h⟩ | ⟨gt,bm,-,-,h⟩
 ·rw [(h id).1];exact Int.le_refl _
 ·exact (h.depth id).1
def allN (f:Int→Int→Bool) (l m:List Int):Nat→Bool
 | 0=>true
 | k+1=>allN f l m k&&f (ix l k) (ix m k)
def alikeT (T:Int→TyI):Nat→Int→Int→Bool
 | 0,_,_=>false
 | q+1,a,b =>
  if (T a).size=0∨(T a).kind≠(T b).kind∨(T a).size≠(T b).size∨(T a).times≠(T b).times∨(T a).parts.length≠(T b).parts.length then false
  else if (T a).kind=4∨(T a).kind=5 then alikeT T q (T a).part (T b).part
  else allN (alikeT T q) (T a).parts (T b).parts (T a).parts.length
structure DeepT (T:Int→TyI):Prop where
 one:∀ a,(T a).size≠0→(T a).kind=4∨(T a).kind=5→(T (T a).part).depth<(T a).depth
 all:∀ a,(T a).size≠0→∀ p∈(T a).parts,(T p).depth<(T a).depth
theorem allN_false {f:Int→Int→Bool} {l m:List Int} {j:Nat} (h:allN f l m j=false):∀ k,j≤k→allN f l m k=false
 | 0,hk=>by
  obtain rfl:j=0:=by omega
  exact h
 | k+1,hk=>by
  rcases Nat.lt_or_ge k j with h1 | h1
  ·obtain rfl:j=k+1:=by omega
   exact h
  ·show (allN f l m k&&_)=false
   rw [allN_false h k h1];rfl
def BoolIs (b:Bool) (w:World) (e:Ending) (w':World):Prop:=e=.returned (.bool b)∧Below w.heap.size w w'
theorem alike_any (p:Option Addr) (T:Int→TyI) (S:Int→SlI) (hD:DeepT T):∀ (q:Nat) (a b:Int) (w:World),TabW w p T S→(T a).depth<(q:Int)→0<q →
  Calls Tryz.prog 117 #[.pointer p,.int .u32 a,.int .u32 b] w (BoolIs (alikeT T q a b) w)
 | 0,a,b,w,h,hq,h0=>absurd h0 (Nat.lt_irrefl 0)
 | q+1,a,b,w,h,hq,h0=>by
  have ih:=alike_any p T S hD q;have ha:=at_any p T S a w h.tab;have hb:=fun w2 (hb:Below w.heap.size w w2)=>at_any p T S b w2 (h.step hb).tab
  have hra:=h.tab.reads a;have hrb:=h.tab.reads b;have hla:=hra.len;have hlb:=hrb.len;have hd1:=hD.one a;have hd2:=hD.all a;have hbd:=h.tab.size a;have hsm:=(h.mild a).len;rw [hla] at hsm;obtain ⟨v,hv⟩:∃ v,v=alikeT T (q+1) a b:=⟨_,rfl⟩;rw [← hv];replace hv:v=if (T a).size=0∨(T a).kind≠(T b).kind∨(T a).size≠(T b).size∨(T a).times≠(T b).times∨(T a).parts.length≠(T b).parts.length then false
   else if (T a).kind=4∨(T a).kind=5 then alikeT T q (T a).part (T b).part
   else allN (alikeT T q) (T a).parts (T b).parts (T a).parts.length:=hv
  rw [hla,hlb] at hv;have HV0:=Lib.hid hv;clear hv;have HT:=Lib.hid h;clear h;generalize T a=x at *;generalize T b=y at *;generalize S a=s at *;generalize S b=u at *;obtain ⟨x1,x2,x3,x4,x5,x6,x7,x8⟩:=x;obtain ⟨y1,y2,y3,y4,y5,y6,y7,y8⟩:=y;obtain ⟨sA,sn,sc⟩:=s;obtain ⟨uA,un,uc⟩:=u;unfold tyV at ha hb;dsimp only at *;have HV0:Hid (v=if x2=0∨x1≠y1∨x2≠y2∨x7≠y7∨sn≠un then false else if x1=4∨x1=5 then alikeT T q x6 y6 else allN (alikeT T q) x8 y8 sn):=HV0
  have HL:=Lib.hid (And.intro hla hlb);clear hla hlb;go_enter Tryz.func117,Tryz.ntmps117;go_wp2_with fail;refine ha.mono ?_;rintro e w2 ⟨rfl,hb2⟩;go_wp2_with fail;refine (hb _ hb2).mono ?_;rintro e w3 ⟨rfl,hb3⟩;have hb4:=below_cut hb2 hb3 (Nat.le_refl _);have hb5:=(hb4.alloc hb4.size (.cells #[.int .u8 x1,.int .i64 x2,.int .i64 x3,.bool x4,.int .u32 x5,.int .u32 x6,.int .i64 x7,.slice sA sn sc] 89)).alloc (by have:=hb4.size;simp;omega) (.cells #[.int .u8 y1,.int .i64 y2,.int .i64 y3,.bool y4,.int .u32 y5,.int .u32 y6,.int .i64 y7,.slice uA un uc] 89)
  have kx:=(Blk.new w3 89 #[.int .u8 x1,.int .i64 x2,.int .i64 x3,.bool x4,.int .u32 x5,.int .u32 x6,.int .i64 x7,.slice sA sn sc]).alloc (.cells #[.int .u8 y1,.int .i64 y2,.int .i64 y3,.bool y4,.int .u32 y5,.int .u32 y6,.int .i64 y7,.slice uA un uc] 89);have ky:=Blk.new (w3.alloc (.cells #[.int .u8 x1,.int .i64 x2,.int .i64 x3,.bool x4,.int .u32 x5,.int .u32 x6,.int .i64 x7,.slice sA sn sc] 89)) 89 #[.int .u8 y1,.int .i64 y2,.int .i64 y3,.bool y4,.int .u32 y5,.int .u32 y6,.int .i64 y7,.slice uA un uc];rw [World.size_alloc] at ky
  by_cases c0:x2=0
  ·have d0:(x2==0)=true:=by simpa using c0
   have hv1:v=false:=by rw [HV0.out,if_pos (.inl c0)]
   clear HV0 c0 hd1 hd2 hbd;go_wp2_with fail;go_ret
   exact ⟨by rw [hv1];rfl,hb5⟩
  have d0:(x2==0)=false:=by simpa using c0
  by_cases c1:x1≠y1
  ·have d1:(x1 != y1)=true:=by simpa using c1
   have hv1:v=false:=by rw [HV0.out,if_pos (.inr (.inl c1))]
   clear HV0 c0 c1 hd1 hd2 hbd;go_wp2_with fail;go_ret
   exact ⟨by rw [hv1];rfl,hb5⟩
  have d1:(x1 != y1)=false:=by simpa using c1
  by_cases c2:x2≠y2
  ·have d2:(x2 != y2)=true:=by simpa using c2
   have hv1:v=false:=by rw [HV0.out,if_pos (.inr (.inr (.inl c2)))]
   clear HV0 c0 c1 c2 hd1 hd2 hbd;go_wp2_with fail;go_ret
   exact ⟨by rw [hv1];rfl,hb5⟩
  have d2:(x2 != y2)=false:=by simpa using c2
  by_cases c3:x7≠y7
  ·have d3:(x7 != y7)=true:=by simpa using c3
   have hv1:v=false:=by rw [HV0.out,if_pos (.inr (.inr (.inr (.inl c3))))]
   clear HV0 c0 c1 c2 c3 hd1 hd2 hbd;go_wp2_with fail;go_ret
   exact ⟨by rw [hv1];rfl,hb5⟩
  have d3:(x7 != y7)=false:=by simpa using c3
  by_cases c4:sn≠un
  ·have d4:((sn:Int) != (un:Int))=true:=by have:=c4;simp only [bne_iff_ne,ne_eq];omega
   have hv1:v=false:=by rw [HV0.out,if_pos (.inr (.inr (.inr (.inr c4))))]
   have d4n:(decide (sn=un))=false:=by simpa using c4
   clear HV0 c0 c1 c2 c3 c4 hd1 hd2 hbd;go_wp2_with fail;go_ret
   exact ⟨by rw [hv1];rfl,hb5⟩
  have d4:((sn:Int) != (un:Int))=false:=by have:=Decidable.not_not.1 c4;rw [this];simp
  have hv:=HV0.out;rw [if_neg (by rintro (h | h | h | h | h);exact c0 h;exact c1 h;exact c2 h;exact c3 h;exact c4 h)] at hv
  have hd1:=hd1 c0;have hd2:=hd2 c0;obtain rfl:sn=un:=Decidable.not_not.1 c4
  by_cases c5:x1=4∨x1=5
  ·rw [if_pos c5] at hv;have hd1:=hd1 c5;have HV:=Lib.hid hv;have hih:=ih x6 y6 _ (HT.out.step hb5) (by omega) (by have:=HT.out.tab.depth x6;omega)
   clear hv HV0 hd2 c0 c1 c2 c3 c4 hd1 hbd;obtain ⟨z,hz⟩:∃ z,z=alikeT T q x6 y6:=⟨_,rfl⟩;rw [← hz] at hih HV;clear hz
   rcases c5 with c5 | c5
   ·have d5:(x1==4)=true:=by simpa using c5
    clear c5;go_wp2_with fail;refine hih.mono ?_;rintro e w4 ⟨rfl,hb6⟩;have hb7:=below_cut hb5 hb6 (Nat.le_refl _);go_wp2_with fail;go_ret
    exact ⟨by rw [HV.out];rfl,hb7⟩
   ·have d5:(x1==4)=false:=by rw [c5];rfl
    have d6:(x1==5)=true:=by simpa using c5
    clear c5;go_wp2_with fail;refine hih.mono ?_;rintro e w4 ⟨rfl,hb6⟩;have hb7:=below_cut hb5 hb6 (Nat.le_refl _);go_wp2_with fail;go_ret
    exact ⟨by rw [HV.out];rfl,hb7⟩
  ·rw [if_neg c5] at hv;have d5:(x1==4)=false:=by simpa using fun h=>c5 (.inl h)
   have d6:(x1==5)=false:=by simpa using fun h=>c5 (.inr h)
   have HV:=Lib.hid hv;have HD:=Lib.hid hd2;clear hv HV0 hd1 hd2 c0 c1 c2 c3 c4 c5 hbd;go_wp2_with fail;generalize ((w3.alloc (.cells #[.int .u8 x1,.int .i64 x2,.int .i64 x3,.bool x4,.int .u32 x5,.int .u32 x6,.int .i64 x7,.slice sA sn sc] 89)).alloc (.cells #[.int .u8 y1,.int .i64 y2,.int .i64 y3,.bool y4,.int .u32 y5,.int .u32 y6,.int .i64 y7,.slice uA sn uc] 89))=W at *;have hWs:=hb5.size;have HKY:=ky;clear ky kx hb4 hb2 hb3 ha hb;go_loopg [70] sn (fun qq i wr=>∃ k:Nat,k+qq=sn∧i=.int .i64 (k:Nat)∧Hid (allN (alikeT T q) x8 y8 k=true)∧Below w.heap.size w wr∧Below W.heap.size W wr)
   case atStart=>exact ⟨0,by omega,rfl,Lib.hid rfl,hb5,Below.refl _ _⟩
   case round =>
    obtain ⟨k,hkq,rfl,HK,hbr,hbW⟩:=hrel
    by_cases hlt:k<sn
    ·obtain ⟨hla,hlb⟩:=HL.out;obtain ⟨b,off,rfl,hbb,hcc⟩:=hra.ints (by omega)
     obtain ⟨b',off',rfl,hbb',hcc'⟩:=hrb.ints (by omega)
     have c0:=(hbr.cell (p:=⟨b,off+k,none⟩) hbb).trans (hcc k hlt);have c1:=(hbr.cell (p:=⟨b',off'+k,none⟩) hbb').trans (hcc' k hlt);have hmem:ix x8 k∈x8:=by rw [ix_of (by omega)];exact List.getElem_mem _
     have hdk:=HD.out _ hmem;have hih:=ih (ix x8 k) (ix y8 k) wr (HT.out.step hbr) (by omega) (by have:=HT.out.tab.depth (ix x8 k);omega)
     have hst:allN (alikeT T q) x8 y8 (k+1)=alikeT T q (ix x8 k) (ix y8 k):=by
      show (allN (alikeT T q) x8 y8 k&&_)=_
      rw [HK.out,Bool.true_and]
     have HST:=Lib.hid hst;have HKS:=Lib.hid (show k+1≤sn by omega)
     have kyr:=HKY.step hbW;obtain ⟨y0c,y1c,y2c,y3c,y4c,y5c,y6c,y7c⟩:=ty8_ kyr;obtain ⟨z,hz⟩:∃ z,z=alikeT T q (ix x8 k) (ix y8 k):=⟨_,rfl⟩;rw [← hz] at hih HST;generalize ix x8 k=pk at *;generalize ix y8 k=qk at *;clear hcc hcc' hst hz hla hlb hdk hmem hra hrb;cases z with
     | true =>
      go_wp2_with fail;refine hih.mono ?_;rintro e w4 ⟨rfl,hb6⟩;have hb7:=below_cut hbr hb6 (Nat.le_refl _);have hb8:=below_cut hbW hb6 (Nat.le_refl _);clear y0c y1c y2c y3c y4c y5c y6c y7c;go_wp2_with fail;go_roundg (sn-(k+1))
      case measure=>omega
      case rel=>exact ⟨k+1,by omega,by go_num,Lib.hid HST.out,hb7,hb8⟩
     | false =>
      go_wp2_with fail;refine hih.mono ?_;rintro e w4 ⟨rfl,hb6⟩;have hb7:=below_cut hbr hb6 (Nat.le_refl _);clear y0c y1c y2c y3c y4c y5c y6c y7c;go_wp2_with fail;go_ret
      exact ⟨by rw [HV.out,allN_false HST.out sn HKS.out];rfl,hb7⟩
    ·obtain rfl:gk=0:=by omega
     obtain rfl:k=sn:=by omega
     go_wp2_with fail;go_ret
     exact ⟨by rw [HV.out,HK.out];rfl,hbr⟩
end
end Go.Proofs.YtdebjkiilnhgpaaGreatDoor
