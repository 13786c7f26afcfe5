/- Walks: the document's answer on values: Leaves, Zero, Fits, Asked, Walk. -/
import Derived.Test.YteelmakkogdieaaGreatDoorCSG
import Derived.Test.YteelmakkogdieaaGreatDoorCVH
set_option maxRecDepth 100000
set_option maxHeartbeats 4000000
namespace Go.Proofs.YteelmakkogdieaaGreatDoor
section
open Go.RowKit
structure QTab (w:World) (p:Option Addr) (T:Int→TyI) (ord:List Int):Prop where
 ok:TabsOk T ord
 tab:RTab w p T ord
theorem QTab.on {w w':World} {p:Option Addr} {T:Int→TyI} {ord:List Int} (h:QTab w p T ord) (hb:Below w.heap.size w w'):QTab w' p T ord:=⟨h.ok,h.tab.step hb⟩
section
variable {w0:World} {p:Option Addr} {T:Int→TyI} {ord:List Int}
theorem QTab.count_ (h:QTab w0 p T ord) (id:Int):Calls Tryz.prog 64 #[.pointer p,.int .u32 id] w0 fun e w'=>e=.returned (.int .i64 (cntT (T id)))∧Below w0.heap.size w0 w':=by
 have:=rcount_any p T ord id w0 h.tab h.ok.out;rwa [(h.ok.ty.shape id).len] at this
theorem QTab.plain_ (h:QTab w0 p T ord) (id:Int):Calls Tryz.prog 61 #[.pointer p,.int .u32 id] w0 (BoolIs (decide (0<(T id).size)) w0):=rplain_any p T ord h.ok.ty id w0 h.tab h.ok.out
theorem QTab.size_ (h:QTab w0 p T ord) (id:Int):Calls Tryz.prog 62 #[.pointer p,.int .u32 id] w0 fun e w'=>e=.returned (.int .i64 (T id).size)∧Below w0.heap.size w0 w':=rsize_any p T ord h.ok.ty h.ok.out 17 id w0 h.tab (by have:=(h.ok.ty.deep id).2;omega)
theorem QTab.part_ (h:QTab w0 p T ord) (id k:Int):Calls Tryz.prog 65 #[.pointer p,.int .u32 id,.int .i64 k] w0 fun e w'=>e=.returned (.tuple #[.int .u32 (partT (T id) k).1,.bool (partT (T id) k).2])∧Below w0.heap.size w0 w':=rpart_any p T ord h.ok.ty id k w0 h.tab h.ok.out
end
def QWords (l:List Int) (w:World) (e:Ending) (w':World):Prop:=∃ A' c',e=.returned (.slice A' l.length c')∧w'.ownsRow w.heap.size 22 1 (.slice A' l.length c') l.length (Ints .u32 l)∧Below w.heap.size w w'
def leavesQ (T:Int→TyI) (q:Nat) (ty:Int):List Int:=if 0<(T ty).size then leafL T q ty else []
theorem own_addr' {w:World} {base c:Nat} {e:TypeId} {A:Option Addr} {l:List Int} (h:w.ownsRow base e 1 (.slice A l.length c) l.length (Ints .u32 l)) (hn:0<l.length):∃ g,A=some ⟨g,0,none⟩:=by
 rcases h.2 with ⟨_,h9⟩ | ⟨g,cap,cur,h9,_⟩
 ·omega
 ·cases h9;exact ⟨g,rfl⟩
theorem qleaves_any (p:Option Addr) (T:Int→TyI) (ord:List Int):∀ (q:Nat) (ty:Int) (w:World),QTab w p T ord→rankT (T ty)<(q:Int)→Calls Tryz.prog 32 #[.pointer p,.int .u32 ty] w (QWords (leavesQ T q ty) w)
 | 0,ty,w,h,hq=>absurd hq (by have:=(rankT_bd h.ok.ty ty).1;omega)
 | q+1,ty,w,h,hq=>by
  have ih:=qleaves_any p T ord q;have hpl:=h.plain_ ty;have hcn:=fun w' (hb:Below w.heap.size w w')=>(h.on hb).count_ ty
  unfold BoolIs at hpl
  by_cases hs:0<(T ty).size
  ·have hR:leavesQ T (q+1) ty=leafL T (q+1) ty:=if_pos hs;have dp:decide (0<(T ty).size)=true:=by rw [decide_eq_true_eq];exact hs
   rw [dp] at hpl
   by_cases h0:cntT (T ty)=0
   ·rw [hR,leafL_one h0];rw [h0] at hcn;clear ih hR h0 hs hq dp;unfold QWords;go_enter Tryz.func32,Tryz.ntmps32;go_wp2_with fail;refine hpl.mono ?_;rintro e w1 ⟨rfl,hb1⟩;have hc1:=hcn w1 hb1;clear hpl hcn;go_wp2_with fail;refine hc1.mono ?_;rintro e w2 ⟨rfl,hb2⟩;have hb3:=below_cut hb1 hb2 (Nat.le_refl _);have hs3:=hb3.size;clear hc1;go_wp2_with (at_builtin;refine ap_one sl32 _ rfl _ _ rfl w.heap.size _ _ _ rfl (World.ownsRow_nil _ _ _ _) _ _ rfl rfl (by decide) (by decide) hs3 ?_;intro v' w5 ho5 hgr5 _;obtain ⟨A3,c3,rfl⟩:=own_shape ho5;have hb8:=(hb3.alloc hs3 (.cells #[.int .u32 ty] 22)).grown hgr5 (by simp;omega) (fun j hj=>by cases hj);have HO5:=Lib.hid ho5;clear ho5)
    go_ret
    exact ⟨A3,c3,rfl,HO5.out,hb8⟩
   ·have hP:=parts_ok h.ok.ty hs h0;have hcb:=cnt_bd h.ok.ty ty;obtain ⟨m,hm⟩:∃ m:Nat,m=(cntT (T ty)).toNat:=⟨_,rfl⟩;rw [← hm] at hP;have hm0:0<m:=by omega
    have hm64:m≤65535:=by omega
    have hcm:cntT (T ty)=(m:Int):=hP.cnt;rw [hcm] at hcn;rw [hR,leafL_more h0,← hm];have h96:=(h.ok.ty.size ty).2.2;have hlen:∀ k,k≤m→((catP (leafL T q) (T ty) k).length:Int)=sumP T (T ty) k:=fun k hk=>catP_len k (fun j hj=>leafL_len h.ok.ty q _ (hP.plain j (by omega)) (by have:=hP.low j (by omega);omega))
    have hst:=fun k (hk:k<m)=>hP.step h.ok.ty hk
    have hlq:∀ k,k<m→leavesQ T q (partN (T ty) k)=leafL T q (partN (T ty) k):=fun k hk=>if_pos (hP.plain k hk)
    have hpl2:=fun k (hk:k<m)=>leafL_len h.ok.ty q _ (hP.plain k hk) (by have:=hP.low k hk;omega)
    obtain ⟨C,hC⟩:∃ C:Nat→List Int,C=fun k=>catP (leafL T q) (T ty) k:=⟨_,rfl⟩
    have HCL:Hid (∀ k,k≤m→(C k).length≤4096):=Lib.hid (fun k hk=>by
     have h1:=hlen k hk;have h2:=hP.whole;have h3:=sumV_mono h.ok.ty (T ty) (m-k) k;rw [show k+(m-k)=m by omega,← h2] at h3
     rw [hC]
     show (catP (leafL T q) (T ty) k).length≤4096
     omega)
    rw [show catP (leafL T q) (T ty) m=C m by rw [hC]]
    have HC0:Hid (C 0=[]):=Lib.hid (by rw [hC];rfl)
    have HCS:Hid (∀ k,C (k+1)=C k++leafL T q (partN (T ty) k)):=Lib.hid (fun k=>by rw [hC];rfl)
    clear hC;have HP:=Lib.hid hP;have HH:=Lib.hid h;have IH:=Lib.hid ih;have HLEN:=Lib.hid hlen;have HST:=Lib.hid hst;have HLQ:=Lib.hid hlq;have HPL:=Lib.hid hpl2;have HQ:=Lib.hid hq;clear ih hR h0 hs hq dp hP h hcb hcm hm hlen hst hlq hpl2;unfold QWords;go_enter Tryz.func32,Tryz.ntmps32;go_wp2_with fail;refine hpl.mono ?_;rintro e w1 ⟨rfl,hb1⟩;have hc1:=hcn w1 hb1;clear hpl;have dm:((m:Nat):Int)≠0:=by omega
    have dm2:(((m:Nat):Int)==0)=false:=by simpa using dm
    go_wp2_with fail;refine hc1.mono ?_;rintro e w2 ⟨rfl,hb2⟩;have hb3:=below_cut hb1 hb2 (Nat.le_refl _);have hc2:=hcn w2 hb3;clear hc1 hcn;go_wp2_with fail;refine hc2.mono ?_;rintro e w3 ⟨rfl,hb4⟩;have hb5:=below_cut hb3 hb4 (Nat.le_refl _);clear hc2;go_wp2_with fail;go_loopg [5,7,8,9,10,11] m (fun r u i u8 u9 u10 u11 wr=>∃ (k:Nat) (A':Option Addr) (c':Nat),k+r=m∧i=.int .i64 (k:Nat)∧u=.slice A' (C k).length c'∧wr.ownsRow w.heap.size 22 1 (.slice A' (C k).length c') (C k).length (Ints .u32 (C k))∧Below w.heap.size w wr)
    case atStart=>exact ⟨0,none,0,by omega,rfl,by rw [HC0.out];rfl,by rw [HC0.out];exact World.ownsRow_nil _ _ _ _,hb5⟩
    case round =>
     obtain ⟨k,A1,c1,hkr,rfl,rfl,ho,hbr⟩:=hrel
     by_cases hlt:k<m
     ·have d1:decide (((k:Nat):Int)<(m:Nat))=true:=by rw [decide_eq_true_eq];omega
      have hpt:=(HH.out.on hbr).part_ ty (k:Nat);have hpn:(partT (T ty) (k:Nat)).1=partN (T ty) k:=rfl;rw [hpn] at hpt;have hlow:=HP.out.low k hlt;have hM:=fun w' (hb:Below w.heap.size w w')=>IH.out (partN (T ty) k) w' (HH.out.on hb) (by have:=HQ.out;omega)
      unfold QWords at hM;rw [HLQ.out k hlt] at hM;have hMl:=HPL.out k hlt;have hMp:=HP.out.plain k hlt;have HS1:Hid (C (k+1)=C k++leafL T q (partN (T ty) k)):=Lib.hid (HCS.out k);have hC1:=HCL.out (k+1) (by omega)
      have hC0:=HCL.out k (by omega)
      generalize leafL T q (partN (T ty) k)=M at *;have hM0:0<M.length:=by omega
      have hM4:(C k).length+M.length≤4096:=by rw [HS1.out,List.length_append] at hC1;exact hC1
      clear hlow hMl hMp hC1 hpn;generalize partN (T ty) k=pn at *;go_wp2_with fail;refine hpt.mono ?_;rintro e w4 ⟨rfl,hb6⟩;have hb7:=below_cut hbr hb6 (Nat.le_refl _);have hM1:=hM w4 hb7;have ho4:=own_below ho hb6;clear hpt hM ho;go_wp2_with fail;refine hM1.mono ?_;rintro e w5 ⟨A2,c2,rfl,hoM,hb8⟩;have hb9:=below_cut hb7 hb8 (Nat.le_refl _);have ho5:=own_below ho4 hb8;obtain ⟨gM,rfl⟩:=own_addr' hoM hM0;have hne:(Value.slice (some ⟨gM,0,none⟩) M.length c2).ownBlock≠(Value.slice A1 (C k).length c1).ownBlock:=fun e=>by
       have h1:=hoM.lt gM (by simp [Value.ownBlock])
       have h2:=ho4.lt gM (by rw [← e];simp [Value.ownBlock])
       omega
      clear hM1 ho4;go_wp2_with fail;go_loopg [5,11] M.length (fun r u i wr=>∃ (j:Nat) (A':Option Addr) (c':Nat),j+r=M.length∧i=.int .i64 (j:Nat)∧u=.slice A' ((C k).length+j) c'∧wr.ownsRow w.heap.size 22 1 (.slice A' ((C k).length+j) c') ((C k).length+j) (Ints .u32 (C k++M.take j))∧wr.ownsRow w4.heap.size 22 1 (.slice (some ⟨gM,0,none⟩) M.length c2) M.length (Ints .u32 M)∧(Value.slice (some ⟨gM,0,none⟩) M.length c2).ownBlock≠(Value.slice A' ((C k).length+j) c').ownBlock∧Below w.heap.size w wr)
      case atStart=>exact ⟨0,A1,c1,by omega,rfl,rfl,by simpa using ho5,hoM,hne,hb9⟩
      case round =>
       obtain ⟨j,A3,c3,hjr,rfl,rfl,ho6,hoM6,hne6,hbr6⟩:=hrel
       by_cases hjl:j<M.length
       ·have d2:decide (((j:Nat):Int)<(M.length:Nat))=true:=by rw [decide_eq_true_eq];omega
        have hjl2:((j:Nat):Int)<(M.length:Nat):=by omega
        have hx:=own_int_at hoM6 hjl;have htk:M.take (j+1)=M.take j++[ix M j]:=by rw [ix_of hjl];exact List.take_succ_eq_append_getElem hjl
        have HTK:Hid (Ints .u32 (C k++M.take (j+1))=Ints .u32 (C k++M.take j)++[.int .u32 (ix M j)]):=Lib.hid (by rw [htk,← List.append_assoc,Ints_append];rfl)
        generalize ix M j=x at *;clear htk;have hs6:=hbr6.size;have hbl:=(Below.refl wr.heap.size wr).alloc (Nat.le_refl _) (.cells #[.int .u32 x] 22);have hlit:=Reads.litN wr #[.int .u32 x] 22 1 1 1 rfl rfl (by omega)
        have hgMl:=(hoM6.lt gM (by simp [Value.ownBlock])).2
        go_wp2_with (at_builtin;refine ap_any sl32 (wr.alloc (.cells #[.int .u32 x] 22)) rfl _ _ rfl w.heap.size _ _ _ rfl (own_below ho6 hbl) (wr.heap.size+1) _ 1 1 [.int .u32 x] rfl hlit (by simp [Value.oneCell']) (by omega) (by omega) (by simp;omega) ?_;intro A8 c8 w8 ho8 hg8 hat8;have hb8':=(hbr6.alloc hs6 (.cells #[.int .u32 x] 22)).grown hg8 (by simp;omega) (fun i hi=>(ho6.lt i hi).1);have hoM8:=(own_below hoM6 hbl).kept hg8 (.inr hne6);have HO8:=Lib.hid ho8;have HAT:=Lib.hid hat8;clear ho8 hat8)
        go_roundg (M.length-(j+1))
        case measure=>omega
        case rel =>
         refine ⟨j+1,A8,c8,by omega,by go_num,by rw [Nat.add_assoc],by rw [HTK.out,← Nat.add_assoc];exact HO8.out,hoM8,?_,hb8'⟩
         rw [← Nat.add_assoc]
         rcases HAT.out with h9 | h9
         ·rw [h9];exact hne6
         ·rw [h9];intro e;simp [Value.ownBlock] at e
          omega
       ·obtain rfl:j=M.length:=by omega
        have d2:decide (((M.length:Nat):Int)<(M.length:Nat))=false:=by rw [decide_eq_false_iff_not];omega
        rw [List.take_length,← HS1.out,← List.length_append,← HS1.out] at ho6;have HO6:=Lib.hid ho6;have HE:Hid ((C k).length+M.length=(C (k+1)).length):=Lib.hid (by rw [HS1.out,List.length_append])
        clear ho6 hoM6 hne6;go_wp2_with fail;go_roundg (m-(k+1))
        case measure=>omega
        case rel=>exact ⟨k+1,A3,c3,by omega,by go_num,by rw [HE.out],HO6.out,hbr6⟩
     ·obtain rfl:k=m:=by omega
      have d1:decide (((k:Nat):Int)<(k:Nat))=false:=by rw [decide_eq_false_iff_not];omega
      have HO:=Lib.hid ho;clear ho;go_wp2_with fail;go_ret
      exact ⟨A1,c1,rfl,HO.out,hbr⟩
  ·have hR:leavesQ T (q+1) ty=[]:=if_neg hs;have dp:decide (0<(T ty).size)=false:=by rw [decide_eq_false_iff_not];exact hs
   rw [dp] at hpl;rw [hR];unfold QWords;clear ih hR hs hq dp;go_enter Tryz.func32,Tryz.ntmps32;go_wp2_with fail;refine hpl.mono ?_;rintro e w1 ⟨rfl,hb1⟩;go_wp2_with fail;go_ret
   exact ⟨none,0,rfl,World.ownsRow_nil _ _ _ _,hb1⟩
end
section
open Go.RowKit
theorem QTab.none_ {w:World} {T:Int→TyI} {ord:List Int} (h:QTab w none T ord) (id:Int):T id=ty0:=by
 rcases h.tab with ⟨-,h1⟩ | ⟨g,A,n,c,es,h1,-⟩
 ·exact h.ok.out id (by rw [h1];exact List.not_mem_nil)
 ·cases h1
end
end Go.Proofs.YteelmakkogdieaaGreatDoor
