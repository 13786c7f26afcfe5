/- Walks: the document's table of types is asked: listed, Text. -/
import Derived.Test.YtkfjjkibbjlldaaGreatDoorCSA
import Derived.Test.YtkfjjkibbjlldaaGreatDoorCUI
import Derived.Test.YtkfjjkibbjlldaaGreatDoorCRA
set_option maxRecDepth 100000
set_option maxHeartbeats 4000000
namespace Go.Proofs.YtkfjjkibbjlldaaGreatDoor
section
open Go.RowKit
end
section
open Go.RowKit
end
section
open Go.RowKit
theorem roff_any (p:Option Addr) (T:Int→TyI) (ord:List Int) (hY:Typed T) (h00:T 0=ty0) (hout:∀ id,id ∉ ord→T id=ty0) (id j:Int) (w:World) (h:RTab w p T ord) (hj:j<9223372036854775808) :
  Calls Tryz.prog 70 #[.pointer p,.int .u32 id,.int .i64 j] w fun e w'=>e=.returned (.tuple #[.int .i64 (offT T (T id) j).1,.bool (offT T (T id) j).2])∧Below w.heap.size w w':=by
 have hf:=rfind_any p T ord id w h hout;unfold FindIs rtV at hf;have hof:=hY.rp_off id j;have hpp:=fun (hk:4≤(T id).kind∧(T id).kind≤6) i hi=>hY.rp_plain (id:=id) ((hY.size id).2.1.2 (by omega)) (j:=i) hi
 have hsz:=fun q w' (hb:Below w.heap.size w w')=>rsize_any p T ord hY hout 17 q w' (h.step hb) (by have:=(hY.deep q).2;omega)
 have hbd:=hY.sz0;have hfew:=hY.rp_few id;have HSZ:=Lib.hid hsz;have H00:=Lib.hid h00;obtain ⟨v,hv⟩:∃ v,v=offT T (T id) j:=⟨_,rfl⟩;rw [← hv] at hof ⊢;have HV:=Lib.hid hof;have HPP:=Lib.hid hpp;clear h hout hY h00 hsz hof hv hpp;generalize decide (id∈ord)=d at *;generalize T id=x at *;go_enter Tryz.func70,Tryz.ntmps70;go_wp2_with fail;refine hf.mono ?_;rintro e w2 ⟨i,⟨A,n,c⟩,rfl,hr,hsc,hb⟩;have hl:=hr.len;dsimp only at *;have hb3:=hb.alloc hb.size (.cells #[.int .u32 i,.int .u8 x.kind,.bool x.signed,.int .u32 x.cls,.slice A n c] 112);have kb:=Blk.new w2 112 #[.int .u32 i,.int .u8 x.kind,.bool x.signed,.int .u32 x.cls,.slice A n c];have hra:=(hr.alloc (Nat.le_refl _) (.cells #[.int .u32 i,.int .u8 x.kind,.bool x.signed,.int .u32 x.cls,.slice A n c] 112)).more (show w2.heap.size≤(w2.alloc (.cells #[.int .u32 i,.int .u8 x.kind,.bool x.signed,.int .u32 x.cls,.slice A n c] 112)).heap.size by simp)
 have hv:=HV.out;have hpp:=HPP.out;rw [hl] at hv hpp hfew;obtain ⟨l,hll⟩:∃ l,l=rparts x:=⟨_,rfl⟩;rw [← hll] at hv hpp hra hl;have HR:=Lib.hid hra;have HW:=Lib.hid hv;have HP:=Lib.hid hpp;obtain ⟨z0,z1,z2,z3,z4⟩:=five_ kb;clear hr hsc hra hv hpp hll HPP HV hf hb
 by_cases h4:x.kind<4
 ·have d4:decide (x.kind<4)=true:=decide_eq_true h4;obtain rfl:=HW.out.trans (if_pos (.inl h4));clear h4 HW;go_wp2_with fail;go_ret2
  exact ⟨rfl,hb3⟩
 have d4:decide (x.kind<4)=false:=decide_eq_false h4
 by_cases h6:6<x.kind
 ·have d6:decide (x.kind>6)=true:=decide_eq_true h6;obtain rfl:=HW.out.trans (if_pos (.inr (.inl h6)));clear h4 h6 HW;go_wp2_with fail;go_ret2
  exact ⟨rfl,hb3⟩
 have d6:decide (x.kind>6)=false:=decide_eq_false h6
 by_cases h0:j<0
 ·have d0:decide (j<0)=true:=decide_eq_true h0;obtain rfl:=HW.out.trans (if_pos (.inr (.inr (.inl h0))));clear h4 h6 h0 HW;go_wp2_with fail;go_ret2
  exact ⟨rfl,hb3⟩
 have d0:decide (j<0)=false:=decide_eq_false h0
 by_cases h1:(n:Int)≤j
 ·have d1:decide (j≥(n:Int))=true:=decide_eq_true h1;obtain rfl:=HW.out.trans (if_pos (.inr (.inr (.inr h1))));clear h4 h6 h0 h1 HW;go_wp2_with fail;go_ret2
  exact ⟨rfl,hb3⟩
 have d1:decide (j≥(n:Int))=false:=decide_eq_false h1;have hpp:=HP.out ⟨by omega,by omega⟩
 have hw:=HW.out.trans (if_neg (by omega))
 obtain ⟨m,rfl⟩:∃ m:Nat,j=m:=⟨j.toNat,by omega⟩
 have hmn:m<n:=by omega
 have ej:((m:Nat):Int).toNat=m:=rfl;rw [ej] at hw;have HV2:=Lib.hid hw;have HP2:=Lib.hid hpp;clear HW HP hw hpp ej;go_wp2_with fail;clear z0 z1 z2 z3 z4 d4 d6 d0 d1 h4 h6 h0 h1;generalize (w2.alloc (.cells #[.int .u32 i,.int .u8 x.kind,.bool x.signed,.int .u32 x.cls,.slice A n c] 112))=W at *;generalize w2.heap.size=g at *;go_loopg [10,11,12,13] m (fun q a t s i wr=>∃ k:Nat,k+q=m∧i=.int .i64 (k:Nat)∧a=.int .i64 (sumN T l k)∧t=.int .u32 (lastN l k)∧s=.int .i64 (T (lastN l k)).size∧Below W.heap.size W wr)
 case atStart=>exact ⟨0,by omega,rfl,rfl,rfl,by show _=Value.int _ (T 0).size;rw [H00.out];rfl,Below.refl _ _⟩
 case round =>
  obtain ⟨k,hkq,rfl,rfl,rfl,rfl,hbr⟩:=hrel;obtain ⟨z0,z1,z2,z3,z4⟩:=five_ (kb.step hbr);have hbw:=below_cut hb3 hbr (Nat.le_refl _)
  by_cases hlt:k<m
  ·obtain ⟨b,off,rfl,hbb,hcc⟩:=(HR.out.below hbr).ints (by omega)
   have c0:=hcc k (by omega)
   have hlt2:((k:Nat):Int)<(n:Int):=by omega
   have hpk:=HP2.out k (by omega)
   have hne:=plain_ne H00.out hpk;have hsm:=sumN_step (T:=T) (l:=l) (k:=k) (by omega)
   have hs0:=sumN_bd hbd l k;have hbp:=hbd (ix l k);have hls:=lastN_step l k;have hsl:=HSZ.out (ix l k);clear hcc;rw [← hls] at hsl hsm hpk hne hbp c0;have hle:=lastN_eq (l:=l) (k:=k) (by rw [← hls];exact hne)
   by_cases he:ix l k=lastN l k
   ·have hl2:lastN l k=lastN l (k+1):=by rw [hls,he]
    rw [hl2];clear hls he hsl hle hl2;generalize hz:(T (lastN l (k+1))).size=z at *;generalize hpk2:lastN l (k+1)=pk at *;obtain ⟨sm,hsm2⟩:∃ sm,sm=sumN T l k:=⟨_,rfl⟩;rw [← hsm2] at hsm hs0 ⊢;have HSM:=Lib.hid hsm;have HZ:=Lib.hid hz;have HPK:=Lib.hid hpk2;have hwr:IntKind.i64.wrap (sm+z)=sm+z:=IntWalk.i64_in _ (by omega)
    have e1:(pk != pk)=false:=by simp
    clear hsm hsm2 hs0 hbp hpk hne hz hpk2;go_wp2_with fail;go_roundg (m-(k+1))
    case measure=>omega
    case rel=>exact ⟨k+1,by omega,by go_num,by rw [HSM.out],by rw [HPK.out],by rw [HPK.out,HZ.out],hbr⟩
   ·have e1:(lastN l (k+1) != lastN l k)=true:=by rw [hls];simpa using he
    obtain ⟨sm,hsm2⟩:∃ sm,sm=sumN T l k:=⟨_,rfl⟩;rw [← hsm2] at hsm hs0 ⊢;have HSM:=Lib.hid hsm;have hs1:=hsl wr hbw;clear hls he hsm hsm2 hpk hne hsl hle;generalize (T (lastN l k)).size=z0' at *;generalize lastN l k=pl at *;generalize hz:(T (lastN l (k+1))).size=z at *;generalize hpk:lastN l (k+1)=pk at *;have HZ:=Lib.hid hz;have HPK:=Lib.hid hpk;have hwr:IntKind.i64.wrap (sm+z)=sm+z:=IntWalk.i64_in _ (by omega)
    clear hpk hz hs0 hbp;go_wp2_with fail;refine hs1.mono ?_;rintro e w4 ⟨rfl,hb6⟩;have hb7:=below_cut hbr hb6 (Nat.le_refl _);go_wp2_with fail;go_roundg (m-(k+1))
    case measure=>omega
    case rel=>exact ⟨k+1,by omega,by go_num,by rw [HSM.out],by rw [HPK.out],by rw [HPK.out,HZ.out],hb7⟩
  ·obtain rfl:k=m:=by omega
   go_wp2_with fail;go_ret2
   exact ⟨by rw [HV2.out];rfl,hbw⟩
end
end Go.Proofs.YtkfjjkibbjlldaaGreatDoor
