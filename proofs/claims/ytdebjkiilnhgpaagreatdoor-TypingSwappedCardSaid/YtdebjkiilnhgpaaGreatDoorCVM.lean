/- Plain: what consts and typing tell of the small module. -/
import Derived.Test.YtdebjkiilnhgpaaGreatDoorCVL
import Derived.Test.YtdebjkiilnhgpaaGreatDoorCVA
import Derived.Test.YtdebjkiilnhgpaaGreatDoorCTN
import Derived.Test.YtdebjkiilnhgpaaGreatDoorCVK
import Derived.Test.YtdebjkiilnhgpaaGreatDoorCUK
set_option maxRecDepth 100000
set_option maxHeartbeats 4000000
namespace Go.Proofs.YtdebjkiilnhgpaaGreatDoor
section
theorem con_of {bound:Int} {L:List InstI} {a:Int} {s:StN} (h:newM bound L=(0,a,s)):conM bound L=((conL s.T (fun _=>none) (globs L) ((cutR L).2.2 14).toNat).1,(conL s.T (fun _=>none) (globs L) ((cutR L).2.2 14).toNat).2.1,s,(conL s.T (fun _=>none) (globs L) ((cutR L).2.2 14).toNat).2.2):=by
 unfold conM;rw [h,if_neg (fun hh=>hh rfl)]
noncomputable def small18S (b:Int):StN:=(newL st0 (small18L b) 0).2.2
theorem small18_new4:newM 20 (small18L 4)=(0,0,small18S 4):=by
 unfold newM;have hi:(idsM 20 (small18L 4)).1=0:=by
  rw [idsM_eq]
  decide +kernel
 rw [if_neg (by rw [hi];decide)]
 have h1:(newL st0 (small18L 4) 0).1=0:=by decide +kernel
 have h2:(newL st0 (small18L 4) 0).2.1=0:=by decide +kernel
 exact Prod.ext h1 (Prod.ext h2 rfl)
theorem small18_con4:(conM 20 (small18L 4)).1=0:=by
 rw [con_of small18_new4]
 decide +kernel
theorem small18_use4:(∀ x∈small18L 4,∀ a∈x.2.2.2,0≤a.2.1∧a.2.1<4294967296)∧(∀ x∈small18L 4,0≤x.1∧x.1<65536):=by
 constructor <;> decide
theorem small18_new5:newM 20 (small18L 5)=(0,0,small18S 5):=by
 unfold newM;have hi:(idsM 20 (small18L 5)).1=0:=by
  rw [idsM_eq]
  decide +kernel
 rw [if_neg (by rw [hi];decide)]
 have h1:(newL st0 (small18L 5) 0).1=0:=by decide +kernel
 have h2:(newL st0 (small18L 5) 0).2.1=0:=by decide +kernel
 exact Prod.ext h1 (Prod.ext h2 rfl)
theorem small18_con5:(conM 20 (small18L 5)).1=0:=by
 rw [con_of small18_new5]
 decide +kernel
theorem small18_use5:(∀ x∈small18L 5,∀ a∈x.2.2.2,0≤a.2.1∧a.2.1<4294967296)∧(∀ x∈small18L 5,0≤x.1∧x.1<65536):=by
 constructor <;> decide
theorem small18_chk4:chkM 20 (small18L 4)=(0,0):=by
 unfold chkM tgM;rw [con_of small18_new4]
 decide +kernel
theorem small18_chk5:chkM 20 (small18L 5)=(180,8):=by
 unfold chkM tgM;rw [con_of small18_new5]
 decide +kernel
theorem small18_of4:ofT (makL (small18L 4)) 4=1:=by decide +kernel
theorem small18_fit5:fitAt (tgM 20 (small18L 5)) (small18L 5) 8=false:=by
 unfold tgM;rw [con_of small18_new5]
 decide +kernel
end
section
open Go.RowKit
theorem spotT_eq (a b:Int) (w:World):(Op.equalIn 10000 28 (.agg #[.int .i64 a,.int .i64 b]) (.agg #[.int .i64 a,.int .i64 b])).run Tryz.prog w=.ok true w:=by
 have ub:=Tryz.underlying26;have ui:=Tryz.underlying3;have ab:=Tryz.isAgg26;have ai:=Tryz.isAgg3;have zb:=Tryz.sizeOf26;have zi:=Tryz.sizeOf3;have hS:Tryz.prog.underlying 28=some (.struct (Tryz.prog.fieldsOf 28)):=by kernel_rfl
 have hp:Tryz.prog.stoodInHeld 28=false:=by kernel_rfl
 rw [show (10000:Nat)=9999+1 from rfl,run_equalIn_agg w 9999 28 _ _ hS hp]
 simp only [Program.fieldsOf,Tryz.underlying28];go_simp
theorem spotT_guard (op:BinOp) (x y:Operand) (xs ys:Array Value) (w:World):(eqGuard op 28 x y (.agg xs) (.agg ys)).run Tryz.prog w=.ok () w:=run_eqGuard_agg w op 28 x y xs ys (by kernel_rfl)
def CopIs (gen bound:Int) (L:List InstI) (n:Nat) (w:World) (e:Ending) (w':World):Prop:=∃ (g:Nat) (l:List InstA),e=.returned (.agg (modC gen bound (some ⟨g,0,none⟩) n n))∧ModT w' (some ⟨g,0,none⟩) n n l L∧OwnM w.heap.size w' g n l∧Below w.heap.size w w'
theorem cop_any (gen bound:Int) (A:Option Addr) (n c:Nat) (ls:List InstA) (L:List InstI) (w:World) (hM:ModS w w.heap.size A n ls) (hL:ls.map (·.1)=L) (hn:n≤3600000000000) (hu:∀ i∈L,∀ a∈i.2.2.2,0≤a.2.1∧a.2.1<4294967296) (hop:∀ i∈L,0≤i.1∧i.1<65536) (hP:Pow w) :
  Calls Tryz.prog 8 #[.agg (modC gen bound A n c)] w (CopIs gen bound L n w):=by
 refine (copyModule_own gen bound A n c ls w hM hn).mono ?_;have hl:=hM.length;rw [hL] at *;rintro e w' ⟨g,l,h1,h2,h3,h4,h5⟩;rw [hl] at h1 h2 h5;refine ⟨g,l,h1,⟨h2,h3,Nat.le_refl _,fun x hx=>?_,hu,hop,hP.step h4⟩,h5,h4⟩
 obtain ⟨g',e',-⟩:=h5.2 x hx;rw [e'];exact Nat.le_refl _
theorem awake18_any (w:World) (hP:Pow w):Calls Tryz.prog 10 #[] w (BoolIs true w):=by
 have hu4:=small18_use4;have hu5:=small18_use5;have h1:=small18_any 4 w;have hse0:=spotT_eq 0 0;have hse1:=spotT_eq 180 8;have hsg:=spotT_guard;have ht4:typM 20 (small18L 4) 4=(1,0,0):=by
  unfold typM;rw [small18_con4,small18_of4];rfl
 have hf5:fitM 20 (small18L 5) 8=(false,0,0):=by
  unfold fitM;rw [small18_con5,if_neg (fun h=>h rfl),if_neg (by show ¬ ((8:Int)<0∨(10:Int)≤8);decide)]
  show (fitAt (tgM 20 (small18L 5)) (small18L 5) 8,(0:Int),(0:Int))=_
  rw [small18_fit5]
 have hc4:=small18_chk4;have hc5:=small18_chk5;go_enter Tryz.func10,Tryz.ntmps10;go_wp2_with fail;refine h1.mono ?_;rintro e w1 ⟨A1,c1,l1,rfl,hM1,hL1,hb1,hn1,hq1⟩;have hB1:=hb1;have ht:=typM_any 0 20 A1 _ c1 l1 _ 4 w1 ⟨hM1,hL1,hn1,hq1,hu4.1,hu4.2,hP.step hB1⟩;unfold TypIs at ht;rw [ht4] at ht;clear h1 hM1 hL1 ht4;go_wp2_with fail;refine ht.mono ?_;rintro e w2 ⟨rfl,hb2⟩;have hB2:=below_cut hB1 hb2 (Nat.le_refl _);have kS:=Blk.new w2 28 #[.int .i64 0,.int .i64 0];have hB3:=hB2.alloc hB2.size (.cells #[.int .i64 0,.int .i64 0] 28);clear ht;go_wp2_with fail;generalize (w2.alloc (.cells #[.int .i64 0,.int .i64 0] 28))=W3 at *;refine (small18_any 5 W3).mono ?_;rintro e w4 ⟨A4,c4,l4,rfl,hM4,hL4,hb4,hn4,hq4⟩;have hB4:=below_cut hB3 hb4 (Nat.le_refl _);have kS4:=kS.step hb4;have hf:=fitM_any 0 20 A4 _ c4 l4 _ 8 w4 ⟨hM4,hL4,hn4,hq4,hu5.1,hu5.2,hP.step hB4⟩;unfold FitIs at hf;rw [hf5] at hf;clear hM4 hL4 hf5;go_wp2_with fail;refine hf.mono ?_;rintro e w5 ⟨rfl,hb5⟩;have hB5:=below_cut hB4 hb5 (Nat.le_refl _);have kS5:=(kS4.step hb5).alloc (.cells #[.int .i64 0,.int .i64 0] 28);have kT5:=Blk.new w5 28 #[.int .i64 0,.int .i64 0];have hB6:=hB5.alloc hB5.size (.cells #[.int .i64 0,.int .i64 0] 28);obtain ⟨x0,x1⟩:=two_ kS5;obtain ⟨y0,y1⟩:=two_ kT5;clear hf kS kS4;go_wp2_with fail;generalize (w5.alloc (.cells #[.int .i64 0,.int .i64 0] 28))=W6 at *;refine (small18_any 4 W6).mono ?_;rintro e w7 ⟨A7,c7,l7,rfl,hM7,hL7,hb7,hn7,hq7⟩;have hB7:=below_cut hB6 hb7 (Nat.le_refl _);have hk:=chk_any 0 20 A7 _ c7 l7 _ w7 ⟨hM7,hL7,hn7,hq7,hu4.1,hu4.2,hP.step hB7⟩;unfold SpotIs at hk;rw [hc4] at hk;clear hM7 hL7 hc4 x0 x1 y0 y1 kS5 kT5;go_wp2_with fail;refine hk.mono ?_;rintro e w8 ⟨rfl,hb8⟩;have hB8:=below_cut hB7 hb8 (Nat.le_refl _);clear hk;go_wp2_with fail;refine (small18_any 5 _).mono ?_;rintro e w9 ⟨A9,c9,l9,rfl,hM9,hL9,hb9,hn9,hq9⟩;have hB9:=below_cut hB8 hb9 (Nat.le_refl _);have hk:=chk_any 0 20 A9 _ c9 l9 _ w9 ⟨hM9,hL9,hn9,hq9,hu5.1,hu5.2,hP.step hB9⟩;unfold SpotIs at hk;rw [hc5] at hk;clear hM9 hL9 hc5;go_wp2_with fail;refine hk.mono ?_;rintro e w10 ⟨rfl,hb10⟩;have hB10:=below_cut hB9 hb10 (Nat.le_refl _);clear hk;go_wp2_with fail;go_ret
 exact ⟨rfl,hB10⟩
end
section
open Go.RowKit
theorem sized_any (gen bound:Int) (A:Option Addr) (n c gt:Nat) (ls:List InstA) (L:List InstI) (S:Int→SlI) (id:Int) (w:World) (hM:ModS w w.heap.size A n ls) (hL:ls.map (·.1)=L) (hn:n≤3600000000000) (hu:∀ i∈L,∀ a∈i.2.2.2,0≤a.2.1∧a.2.1<4294967296) (hop:∀ i∈L,0≤i.1∧i.1<65536) (hP:Pow w)
  (hT:TabW w (some ⟨gt,0,none⟩) (tgM bound L).T S) (h0:(conM bound L).1=0) :
  Calls Tryz.prog 15 #[.agg (modC gen bound A n c),.pointer (some ⟨gt,0,none⟩),.int .u32 id] w (Ret (.int .i64 (sizedV (tgM bound L) bound id)) w):=by
 have hb1:=(Below.refl w.heap.size w).alloc (Nat.le_refl _) (.cells (modC gen bound A n c) 25);have k1:=Blk.new w 25 (modC gen bound A n c);have hcp:=cop_any gen bound A n c ls L _ (hM.step hb1) hL hn hu hop (hP.step hb1);have hty:=fun (w':World) (g:Nat) (l:List InstA) (hm:ModT w' (some ⟨g,0,none⟩) n n l L)=>typM_any gen bound (some ⟨g,0,none⟩) n n l L id w' hm
 have hki:=fun (u:Int) (w':World) (hb:Below w.heap.size w w')=>kindM_any _ _ _ u w' (hT.step hb).tab
 have hsz:=fun (u:Int) (w':World) (hb:Below w.heap.size w w')=>sizeM_any _ _ _ u w' (hT.step hb).tab
 have hpt:=fun (u k:Int) (w':World) (hb:Below w.heap.size w w')=>partM_any _ _ _ u k w' (hT.step hb).tab ((hT.step hb).mild u)
 obtain ⟨v,hv⟩:∃ v,v=sizedV (tgM bound L) bound id:=⟨_,rfl⟩;rw [← hv];have hofM:(tgM bound L).M=makL L:=rfl;unfold sizedV at hv;rw [hofM] at hv;generalize hmT:(tgM bound L).T=T at *;unfold prt at hv;unfold CopIs modC TypIs at *;obtain ⟨z0,z1,z2⟩:=three_ k1;have ht:∃ ty er,typM bound L id=(ty,er,0)∧((er≠0∧v = -1)∨(er=0∧v=if (T ty).kind=7 then (T (partT (T ty) 0).1).size else (T ty).size)):=by
  unfold typM;rw [if_neg (fun h=>h h0)]
  by_cases c1:id=0∨bound≤id
  ·rw [if_pos c1];exact ⟨0,3,rfl,.inl ⟨by decide,by rw [hv,if_pos (by omega)]⟩⟩
  ·rw [if_neg c1]
   by_cases c2:ofT (makL L) id=0
   ·rw [if_pos c2];exact ⟨0,5,rfl,.inl ⟨by decide,by rw [hv,if_pos (by omega)]⟩⟩
   ·rw [if_neg c2];exact ⟨_,0,rfl,.inr ⟨rfl,by rw [hv,if_neg (by omega)]⟩⟩
 obtain ⟨ty,er,hte,hcase⟩:=ht;rw [hte] at hty;clear hv hM hL hu hop hte hofM hmT k1 h0;have HC:=Lib.hid hcase;clear hcase;go_enter Tryz.func15,Tryz.ntmps15;go_wp2_with fail;refine hcp.mono ?_;rintro e w2 ⟨g2,l2,rfl,hT2,-,hb2⟩;have hB2:=below_cut hb1 hb2 (Nat.le_refl _);have ht2:=hty w2 g2 l2 hT2;clear hcp hty z0 z1 z2;go_wp2_with fail;refine ht2.mono ?_;rintro e w3 ⟨rfl,hb3⟩;have hB3:=below_cut hB2 hb3 (Nat.le_refl _);clear ht2;have hB4:=hB3.alloc hB3.size (.cells #[.int .i64 er,.int .i64 0] 28);obtain ⟨x0,x1⟩:=two_ (Blk.new w3 28 #[.int .i64 er,.int .i64 0])
 rcases HC.out with ⟨h0,hv⟩ | ⟨h0,hv⟩
 ·have d1:(er != 0)=true:=by simpa using h0
  subst hv;clear h0;go_wp2_with fail;go_ret
  exact ⟨rfl,hB4⟩
 ·subst h0;have HV:=Lib.hid hv;clear hv
  by_cases h7:(T ty).kind=7
  ·have e7:((T ty).kind==7)=true:=by simpa using h7
   have HV1:Hid (v=(T (partT (T ty) 0).1).size):=Lib.hid (by rw [HV.out,if_pos h7])
   clear h7 HC;go_wp2_with fail;refine (hki ty _ hB4).mono ?_;rintro e w5 ⟨rfl,hb5⟩;have hB5:=below_cut hB4 hb5 (Nat.le_refl _);go_wp2_with fail;have hp5:=hpt ty 0 w5 hB5;generalize partT (T ty) 0=pt at *;obtain ⟨p1,p2⟩:=pt;dsimp only at hp5 HV1;refine hp5.mono ?_;rintro e w6 ⟨rfl,hb6⟩;have hB6:=below_cut hB5 hb6 (Nat.le_refl _);clear hp5;go_wp2_with fail;refine (hsz p1 _ hB6).mono ?_;rintro e w7 ⟨rfl,hb7⟩;go_wp2_with fail;go_ret
   exact ⟨by rw [HV1.out];rfl,below_cut hB6 hb7 (Nat.le_refl _)⟩
  ·have e7:((T ty).kind==7)=false:=by simpa using h7
   have HV1:Hid (v=(T ty).size):=Lib.hid (by rw [HV.out,if_neg h7])
   clear h7 HC;go_wp2_with fail;refine (hki ty _ hB4).mono ?_;rintro e w5 ⟨rfl,hb5⟩;have hB5:=below_cut hB4 hb5 (Nat.le_refl _);go_wp2_with fail;refine (hsz ty _ hB5).mono ?_;rintro e w7 ⟨rfl,hb7⟩;go_wp2_with fail;go_ret
   exact ⟨by rw [HV1.out];rfl,below_cut hB5 hb7 (Nat.le_refl _)⟩
end
end Go.Proofs.YtdebjkiilnhgpaaGreatDoor
