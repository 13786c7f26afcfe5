/- Walks: the document's grammar: form, Of. -/
import Derived.Test.YteelmakkogdieaaGreatDoorCTE
import Derived.Test.YteelmakkogdieaaGreatDoorCTS
set_option maxRecDepth 100000
set_option maxHeartbeats 40000000
namespace Go.Proofs.YteelmakkogdieaaGreatDoor
open Go.RowKit
theorem formR_end {fn:Func} {p:Tmp} (h:fn.results=#[.cell p 91]) (tmps:Array Value) {W:World} {g:Nat} {op m k:Int} {s0 s2 s3:ByteArray} {T R:Bool} (hp:tmps.getD p undef=.pointer (some ⟨g,0,none⟩)) (kb:Blk W g 91 (formC op s0 T R s2 s3 m k)) :
  (results fn tmps).run Tryz.prog W=.ok (.agg (formC op s0 T R s2 s3 m k)) W:=by
 have ha:(asAddr (.pointer (some ⟨g,0,none⟩))).run Tryz.prog W=.ok ⟨g,0,none⟩ W:=rfl;unfold formC at *;have z0:=kb.cell 0;have z1:=kb.cell 1;have z2:=kb.cell 2;have z3:=kb.cell 3;have z4:=kb.cell 4;have z5:=kb.cell 5;have z6:=kb.cell 6;have z7:=kb.cell 7;simp at z0 z1 z2 z3 z4 z5 z6 z7;have hl:(loadVar 91 ⟨g,0,none⟩).run Tryz.prog W=.ok (.agg #[.int .u16 op,.string s0,.bool T,.bool R,.string s2,.string s3,.int .i64 m,.int .u8 k]) W:=by go_simp
 rw [results_c1k h,hp,ha];simp only [Result.andThen_ok];exact hl
theorem formR_any (op:Int) (s0:ByteArray) (T R:Bool) (s2 s3:ByteArray) (m k:Int) (w:World) :
  Calls Tryz.prog 85 #[.int .u16 op,.string s0,.bool T,.bool R,.string s2,.string s3,.int .i64 m,.int .u8 k] w fun e w'=>e=.returned (.agg (formC op s0 T R s2 s3 m k))∧Below w.heap.size w w':=by
 have hb:=(Below.refl w.heap.size w).alloc (Nat.le_refl _) (.cells (formC op s0 T R s2 s3 m k) 91);have k0:=Blk.new w 91 (formC op s0 T R s2 s3 m k);go_enter Tryz.func85,Tryz.ntmps85;go_wp2_with fail;exact bodyPost_ret (formR_end rfl _ rfl k0) rfl ⟨rfl,hb⟩
theorem eightB_ {w:World} {g:Nat} {t:TypeId} {x0 x1 x2 x3 x4 x5 x6 x7:Value} (h:Blk w g t #[x0,x1,x2,x3,x4,x5,x6,x7]):w.cell? ⟨g,0,none⟩=some x0∧w.cell? ⟨g,1,none⟩=some x1∧w.cell? ⟨g,2,none⟩=some x2∧w.cell? ⟨g,3,none⟩=some x3 ∧
  w.cell? ⟨g,4,none⟩=some x4∧w.cell? ⟨g,5,none⟩=some x5∧w.cell? ⟨g,6,none⟩=some x6∧w.cell? ⟨g,7,none⟩=some x7:=⟨h.cell 0,h.cell 1,h.cell 2,h.cell 3,h.cell 4,h.cell 5,h.cell 6,h.cell 7⟩
abbrev put8F (W:World) (g:Nat) (y0 y1 y2 y3 y4 y5 y6 y7:Value):World :=
 (((((((W.setCell ⟨g,0,none⟩ y0).setCell ⟨g,1,none⟩ y1).setCell ⟨g,2,none⟩ y2).setCell ⟨g,3,none⟩ y3).setCell ⟨g,4,none⟩ y4).setCell ⟨g,5,none⟩ y5).setCell ⟨g,6,none⟩ y6).setCell ⟨g,7,none⟩ y7
theorem blk_put8F {W:World} {g:Nat} {t:TypeId} {x0 x1 x2 x3 x4 x5 x6 x7:Value} (h:Blk W g t #[x0,x1,x2,x3,x4,x5,x6,x7]) (y0 y1 y2 y3 y4 y5 y6 y7:Value):Blk (put8F W g y0 y1 y2 y3 y4 y5 y6 y7) g t #[y0,y1,y2,y3,y4,y5,y6,y7]:=by
 simpa using (((((((h.set_ 0 y0).set_ 1 y1).set_ 2 y2).set_ 3 y3).set_ 4 y4).set_ 5 y5).set_ 6 y6).set_ 7 y7
theorem below_put8F {B:Nat} {w W:World} {g:Nat} (h:Below B w W) (hg:B≤g) (y0 y1 y2 y3 y4 y5 y6 y7:Value):Below B w (put8F W g y0 y1 y2 y3 y4 y5 y6 y7) :=
 (((((((h.setCell (p:=⟨g,0,none⟩) hg y0).setCell (p:=⟨g,1,none⟩) hg y1).setCell (p:=⟨g,2,none⟩) hg y2).setCell (p:=⟨g,3,none⟩) hg y3).setCell (p:=⟨g,4,none⟩) hg y4).setCell (p:=⟨g,5,none⟩) hg y5).setCell (p:=⟨g,6,none⟩) hg y6).setCell (p:=⟨g,7,none⟩) hg y7
theorem results_ct1F {fn:Func} {p u:Tmp} {ty:TypeId} (h:fn.results=#[.cell p ty,.tmp u]) (tmps:Array Value) (P:Program) (w:World) :
  (results fn tmps).run P w=((asAddr (tmps.getD p undef)).run P w).andThen fun ad w₁=>((loadVar ty ad).run P w₁).andThen fun v w₂=>.ok (.tuple #[v,tmps.getD u undef]) w₂:=by
 simp only [results,h];simp [Sem.run_bind,Result.andThen]
theorem refOf_end {fn:Func} {p u:Tmp} (h:fn.results=#[.cell p 91,.tmp u]) (tmps:Array Value) {W:World} {g:Nat} {op m k:Int} {s0 s2 s3:ByteArray} {T R b:Bool} (hp:tmps.getD p undef=.pointer (some ⟨g,0,none⟩)) (hq:tmps.getD u undef=.bool b)
  (kb:Blk W g 91 #[.int .u16 op,.string s0,.bool T,.bool R,.string s2,.string s3,.int .i64 m,.int .u8 k]) :
  (results fn tmps).run Tryz.prog W=.ok (.tuple #[.agg #[.int .u16 op,.string s0,.bool T,.bool R,.string s2,.string s3,.int .i64 m,.int .u8 k],.bool b]) W:=by
 have ha:(asAddr (.pointer (some ⟨g,0,none⟩))).run Tryz.prog W=.ok ⟨g,0,none⟩ W:=rfl;obtain ⟨z0,z1,z2,z3,z4,z5,z6,z7⟩:=eightB_ kb;have hl:(loadVar 91 ⟨g,0,none⟩).run Tryz.prog W=.ok (.agg #[.int .u16 op,.string s0,.bool T,.bool R,.string s2,.string s3,.int .i64 m,.int .u8 k]) W:=by go_simp
 rw [results_ct1F h,hp,ha];simp only [Result.andThen_ok];rw [hl,hq];simp only [Result.andThen_ok]
theorem nin_cons {a x:Int} {l:List Int} (h:¬ x=a) (hl:x ∉ l):x ∉ a :: l:=fun hh=>(List.mem_cons.1 hh).elim h hl
theorem pickT_out:∀ {l:List (Int × ByteArray)} {op:Int},op ∉ l.map (·.1)→pickT l op=⟨#[]⟩
 | [],_,_=>rfl
 | (k,s) :: l,op,h=>by
  unfold pickT;rw [List.map_cons,List.mem_cons,not_or] at h;rw [if_neg (by simpa using h.1)]
  exact pickT_out h.2
def refOps:List Int:=[255,254,253,252,251,250,249,248,247,246,245,205,204,203,202,201,200,199,198,197,196,195,194,179,178,177,176,175,174,173,172,171,170,169,168,167,166,165,164,155,154,152,151,150,149,139,138,137,135,134,132,130,128,126,124,83,82,81,80,79,78,77,71,65,62,61,59,57,56,55,54,46,44,43,42,41,33,32,30,28,23,21,20,19,17,16,15,14,7,6,5,3,1]
theorem ref_keys:((firstT++secondT++thirdT).all fun x=>refOps.contains x.1)=true:=by decide +kernel
theorem ref_none {op:Int} (h:op ∉ refOps):formOf op=none:=by
 have hk:=ref_keys;rw [List.all_eq_true] at hk;have hn:∀ l:List (Int × ByteArray),(∀ x∈l,x∈firstT++secondT++thirdT)→pickT l op=⟨#[]⟩:=fun l hl=>pickT_out fun hm=>by
  obtain ⟨x,hx,rfl⟩:=List.mem_map.1 hm;have:=hk x (hl x hx);exact h (by simpa using this)
 have hr:rowT op=⟨#[]⟩:=by
  unfold rowT
  split
  ·exact hn _ (fun x hx=>by simp [hx])
  ·split
   ·exact hn _ (fun x hx=>by simp [hx])
   ·exact hn _ (fun x hx=>by simp [hx])
 unfold formOf;rw [hr];rfl
theorem refOf_any (op:Int) (w:World):Calls Tryz.prog 44 #[.int .u16 op] w fun e w'=>e=.returned (.tuple #[.agg (ofV op),.bool (ofB op)])∧Below w.heap.size w w':=by
 have hf:=fun (o:Int) (s0:ByteArray) (T R:Bool) (s2 s3:ByteArray) (m k:Int) (w':World)=>formR_any o s0 T R s2 s3 m k w'
 have hb:=(Below.refl w.heap.size w).alloc (Nat.le_refl _) (.cells form0 91);have k0:=Blk.new w 91 form0;unfold form0 at *;go_enter Tryz.func44,Tryz.ntmps44;go_upto_region 2 with fail
 have HA:Hid (op ∉ ([]:List Int)):=Lib.hid (by simp)
 generalize (w.alloc (.cells #[.int .u16 0,.string ⟨#[]⟩,.bool false,.bool false,.string ⟨#[]⟩,.string ⟨#[]⟩,.int .i64 0,.int .u8 0] 91))=W at *
 rcases Decidable.em (op=1) with rfl | h1
 ·clear HA;go_wp2_with fail;refine (hf _ _ _ _ _ _ _ _ W).mono ?_;rintro e w2 ⟨rfl,hb2⟩;have k2:=k0.step hb2;obtain ⟨z0,z1,z2,z3,z4,z5,z6,z7⟩:=eightB_ k2;have fz:=k2.frozen;have hb3:=below_cut hb hb2 (Nat.le_refl _);clear hf;unfold formC;go_wp2_with fail;exact bodyPost_ret (refOf_end rfl _ rfl rfl (blk_put8F k2 _ _ _ _ _ _ _ _)) rfl ⟨by kernel_rfl,below_put8F hb3 (Nat.le_refl _) _ _ _ _ _ _ _ _⟩
 have e1:(op==1)=false:=by simpa using h1
 replace HA:=Lib.hid (nin_cons h1 HA.out)
 clear h1;go_upto_region 4 with fail
 clear e1
 rcases Decidable.em (op=3) with rfl | h3
 ·clear HA;go_wp2_with fail;refine (hf _ _ _ _ _ _ _ _ W).mono ?_;rintro e w2 ⟨rfl,hb2⟩;have k2:=k0.step hb2;obtain ⟨z0,z1,z2,z3,z4,z5,z6,z7⟩:=eightB_ k2;have fz:=k2.frozen;have hb3:=below_cut hb hb2 (Nat.le_refl _);clear hf;unfold formC;go_wp2_with fail;exact bodyPost_ret (refOf_end rfl _ rfl rfl (blk_put8F k2 _ _ _ _ _ _ _ _)) rfl ⟨by kernel_rfl,below_put8F hb3 (Nat.le_refl _) _ _ _ _ _ _ _ _⟩
 have e3:(op==3)=false:=by simpa using h3
 replace HA:=Lib.hid (nin_cons h3 HA.out)
 clear h3;go_upto_region 6 with fail
 clear e3
 rcases Decidable.em (op=5) with rfl | h5
 ·clear HA;go_wp2_with fail;refine (hf _ _ _ _ _ _ _ _ W).mono ?_;rintro e w2 ⟨rfl,hb2⟩;have k2:=k0.step hb2;obtain ⟨z0,z1,z2,z3,z4,z5,z6,z7⟩:=eightB_ k2;have fz:=k2.frozen;have hb3:=below_cut hb hb2 (Nat.le_refl _);clear hf;unfold formC;go_wp2_with fail;exact bodyPost_ret (refOf_end rfl _ rfl rfl (blk_put8F k2 _ _ _ _ _ _ _ _)) rfl ⟨by kernel_rfl,below_put8F hb3 (Nat.le_refl _) _ _ _ _ _ _ _ _⟩
 have e5:(op==5)=false:=by simpa using h5
 replace HA:=Lib.hid (nin_cons h5 HA.out)
 clear h5;go_upto_region 8 with fail
 clear e5
 rcases Decidable.em (op=6) with rfl | h6
 ·clear HA;go_wp2_with fail;refine (hf _ _ _ _ _ _ _ _ W).mono ?_;rintro e w2 ⟨rfl,hb2⟩;have k2:=k0.step hb2;obtain ⟨z0,z1,z2,z3,z4,z5,z6,z7⟩:=eightB_ k2;have fz:=k2.frozen;have hb3:=below_cut hb hb2 (Nat.le_refl _);clear hf;unfold formC;go_wp2_with fail;exact bodyPost_ret (refOf_end rfl _ rfl rfl (blk_put8F k2 _ _ _ _ _ _ _ _)) rfl ⟨by kernel_rfl,below_put8F hb3 (Nat.le_refl _) _ _ _ _ _ _ _ _⟩
 have e6:(op==6)=false:=by simpa using h6
 replace HA:=Lib.hid (nin_cons h6 HA.out)
 clear h6;go_upto_region 10 with fail
 clear e6
 rcases Decidable.em (op=7) with rfl | h7
 ·clear HA;go_wp2_with fail;refine (hf _ _ _ _ _ _ _ _ W).mono ?_;rintro e w2 ⟨rfl,hb2⟩;have k2:=k0.step hb2;obtain ⟨z0,z1,z2,z3,z4,z5,z6,z7⟩:=eightB_ k2;have fz:=k2.frozen;have hb3:=below_cut hb hb2 (Nat.le_refl _);clear hf;unfold formC;go_wp2_with fail;exact bodyPost_ret (refOf_end rfl _ rfl rfl (blk_put8F k2 _ _ _ _ _ _ _ _)) rfl ⟨by kernel_rfl,below_put8F hb3 (Nat.le_refl _) _ _ _ _ _ _ _ _⟩
 have e7:(op==7)=false:=by simpa using h7
 replace HA:=Lib.hid (nin_cons h7 HA.out)
 clear h7;go_upto_region 12 with fail
 clear e7
 rcases Decidable.em (op=14) with rfl | h14
 ·clear HA;go_wp2_with fail;refine (hf _ _ _ _ _ _ _ _ W).mono ?_;rintro e w2 ⟨rfl,hb2⟩;have k2:=k0.step hb2;obtain ⟨z0,z1,z2,z3,z4,z5,z6,z7⟩:=eightB_ k2;have fz:=k2.frozen;have hb3:=below_cut hb hb2 (Nat.le_refl _);clear hf;unfold formC;go_wp2_with fail;exact bodyPost_ret (refOf_end rfl _ rfl rfl (blk_put8F k2 _ _ _ _ _ _ _ _)) rfl ⟨by kernel_rfl,below_put8F hb3 (Nat.le_refl _) _ _ _ _ _ _ _ _⟩
 have e14:(op==14)=false:=by simpa using h14
 replace HA:=Lib.hid (nin_cons h14 HA.out)
 clear h14;go_upto_region 14 with fail
 clear e14
 rcases Decidable.em (op=15) with rfl | h15
 ·clear HA;go_wp2_with fail;refine (hf _ _ _ _ _ _ _ _ W).mono ?_;rintro e w2 ⟨rfl,hb2⟩;have k2:=k0.step hb2;obtain ⟨z0,z1,z2,z3,z4,z5,z6,z7⟩:=eightB_ k2;have fz:=k2.frozen;have hb3:=below_cut hb hb2 (Nat.le_refl _);clear hf;unfold formC;go_wp2_with fail;exact bodyPost_ret (refOf_end rfl _ rfl rfl (blk_put8F k2 _ _ _ _ _ _ _ _)) rfl ⟨by kernel_rfl,below_put8F hb3 (Nat.le_refl _) _ _ _ _ _ _ _ _⟩
 have e15:(op==15)=false:=by simpa using h15
 replace HA:=Lib.hid (nin_cons h15 HA.out)
 clear h15;go_upto_region 16 with fail
 clear e15
 rcases Decidable.em (op=16) with rfl | h16
 ·clear HA;go_wp2_with fail;refine (hf _ _ _ _ _ _ _ _ W).mono ?_;rintro e w2 ⟨rfl,hb2⟩;have k2:=k0.step hb2;obtain ⟨z0,z1,z2,z3,z4,z5,z6,z7⟩:=eightB_ k2;have fz:=k2.frozen;have hb3:=below_cut hb hb2 (Nat.le_refl _);clear hf;unfold formC;go_wp2_with fail;exact bodyPost_ret (refOf_end rfl _ rfl rfl (blk_put8F k2 _ _ _ _ _ _ _ _)) rfl ⟨by kernel_rfl,below_put8F hb3 (Nat.le_refl _) _ _ _ _ _ _ _ _⟩
 have e16:(op==16)=false:=by simpa using h16
 replace HA:=Lib.hid (nin_cons h16 HA.out)
 clear h16;go_upto_region 18 with fail
 clear e16
 rcases Decidable.em (op=17) with rfl | h17
 ·clear HA;go_wp2_with fail;refine (hf _ _ _ _ _ _ _ _ W).mono ?_;rintro e w2 ⟨rfl,hb2⟩;have k2:=k0.step hb2;obtain ⟨z0,z1,z2,z3,z4,z5,z6,z7⟩:=eightB_ k2;have fz:=k2.frozen;have hb3:=below_cut hb hb2 (Nat.le_refl _);clear hf;unfold formC;go_wp2_with fail;exact bodyPost_ret (refOf_end rfl _ rfl rfl (blk_put8F k2 _ _ _ _ _ _ _ _)) rfl ⟨by kernel_rfl,below_put8F hb3 (Nat.le_refl _) _ _ _ _ _ _ _ _⟩
 have e17:(op==17)=false:=by simpa using h17
 replace HA:=Lib.hid (nin_cons h17 HA.out)
 clear h17;go_upto_region 20 with fail
 clear e17
 rcases Decidable.em (op=19) with rfl | h19
 ·clear HA;go_wp2_with fail;refine (hf _ _ _ _ _ _ _ _ W).mono ?_;rintro e w2 ⟨rfl,hb2⟩;have k2:=k0.step hb2;obtain ⟨z0,z1,z2,z3,z4,z5,z6,z7⟩:=eightB_ k2;have fz:=k2.frozen;have hb3:=below_cut hb hb2 (Nat.le_refl _);clear hf;unfold formC;go_wp2_with fail;exact bodyPost_ret (refOf_end rfl _ rfl rfl (blk_put8F k2 _ _ _ _ _ _ _ _)) rfl ⟨by kernel_rfl,below_put8F hb3 (Nat.le_refl _) _ _ _ _ _ _ _ _⟩
 have e19:(op==19)=false:=by simpa using h19
 replace HA:=Lib.hid (nin_cons h19 HA.out)
 clear h19;go_upto_region 22 with fail
 clear e19
 rcases Decidable.em (op=20) with rfl | h20
 ·clear HA;go_wp2_with fail;refine (hf _ _ _ _ _ _ _ _ W).mono ?_;rintro e w2 ⟨rfl,hb2⟩;have k2:=k0.step hb2;obtain ⟨z0,z1,z2,z3,z4,z5,z6,z7⟩:=eightB_ k2;have fz:=k2.frozen;have hb3:=below_cut hb hb2 (Nat.le_refl _);clear hf;unfold formC;go_wp2_with fail;exact bodyPost_ret (refOf_end rfl _ rfl rfl (blk_put8F k2 _ _ _ _ _ _ _ _)) rfl ⟨by kernel_rfl,below_put8F hb3 (Nat.le_refl _) _ _ _ _ _ _ _ _⟩
 have e20:(op==20)=false:=by simpa using h20
 replace HA:=Lib.hid (nin_cons h20 HA.out)
 clear h20;go_upto_region 24 with fail
 clear e20
 rcases Decidable.em (op=21) with rfl | h21
 ·clear HA;go_wp2_with fail;refine (hf _ _ _ _ _ _ _ _ W).mono ?_;rintro e w2 ⟨rfl,hb2⟩;have k2:=k0.step hb2;obtain ⟨z0,z1,z2,z3,z4,z5,z6,z7⟩:=eightB_ k2;have fz:=k2.frozen;have hb3:=below_cut hb hb2 (Nat.le_refl _);clear hf;unfold formC;go_wp2_with fail;exact bodyPost_ret (refOf_end rfl _ rfl rfl (blk_put8F k2 _ _ _ _ _ _ _ _)) rfl ⟨by kernel_rfl,below_put8F hb3 (Nat.le_refl _) _ _ _ _ _ _ _ _⟩
 have e21:(op==21)=false:=by simpa using h21
 replace HA:=Lib.hid (nin_cons h21 HA.out)
 clear h21;go_upto_region 26 with fail
 clear e21
 rcases Decidable.em (op=23) with rfl | h23
 ·clear HA;go_wp2_with fail;refine (hf _ _ _ _ _ _ _ _ W).mono ?_;rintro e w2 ⟨rfl,hb2⟩;have k2:=k0.step hb2;obtain ⟨z0,z1,z2,z3,z4,z5,z6,z7⟩:=eightB_ k2;have fz:=k2.frozen;have hb3:=below_cut hb hb2 (Nat.le_refl _);clear hf;unfold formC;go_wp2_with fail;exact bodyPost_ret (refOf_end rfl _ rfl rfl (blk_put8F k2 _ _ _ _ _ _ _ _)) rfl ⟨by kernel_rfl,below_put8F hb3 (Nat.le_refl _) _ _ _ _ _ _ _ _⟩
 have e23:(op==23)=false:=by simpa using h23
 replace HA:=Lib.hid (nin_cons h23 HA.out)
 clear h23;go_upto_region 28 with fail
 clear e23
 rcases Decidable.em (op=28) with rfl | h28
 ·clear HA;go_wp2_with fail;refine (hf _ _ _ _ _ _ _ _ W).mono ?_;rintro e w2 ⟨rfl,hb2⟩;have k2:=k0.step hb2;obtain ⟨z0,z1,z2,z3,z4,z5,z6,z7⟩:=eightB_ k2;have fz:=k2.frozen;have hb3:=below_cut hb hb2 (Nat.le_refl _);clear hf;unfold formC;go_wp2_with fail;exact bodyPost_ret (refOf_end rfl _ rfl rfl (blk_put8F k2 _ _ _ _ _ _ _ _)) rfl ⟨by kernel_rfl,below_put8F hb3 (Nat.le_refl _) _ _ _ _ _ _ _ _⟩
 have e28:(op==28)=false:=by simpa using h28
 replace HA:=Lib.hid (nin_cons h28 HA.out)
 clear h28;go_upto_region 30 with fail
 clear e28
 rcases Decidable.em (op=30) with rfl | h30
 ·clear HA;go_wp2_with fail;refine (hf _ _ _ _ _ _ _ _ W).mono ?_;rintro e w2 ⟨rfl,hb2⟩;have k2:=k0.step hb2;obtain ⟨z0,z1,z2,z3,z4,z5,z6,z7⟩:=eightB_ k2;have fz:=k2.frozen;have hb3:=below_cut hb hb2 (Nat.le_refl _);clear hf;unfold formC;go_wp2_with fail;exact bodyPost_ret (refOf_end rfl _ rfl rfl (blk_put8F k2 _ _ _ _ _ _ _ _)) rfl ⟨by kernel_rfl,below_put8F hb3 (Nat.le_refl _) _ _ _ _ _ _ _ _⟩
 have e30:(op==30)=false:=by simpa using h30
 replace HA:=Lib.hid (nin_cons h30 HA.out)
 clear h30;go_upto_region 32 with fail
 clear e30
 rcases Decidable.em (op=32) with rfl | h32
 ·clear HA;go_wp2_with fail;refine (hf _ _ _ _ _ _ _ _ W).mono ?_;rintro e w2 ⟨rfl,hb2⟩;have k2:=k0.step hb2;obtain ⟨z0,z1,z2,z3,z4,z5,z6,z7⟩:=eightB_ k2;have fz:=k2.frozen;have hb3:=below_cut hb hb2 (Nat.le_refl _);clear hf;unfold formC;go_wp2_with fail;exact bodyPost_ret (refOf_end rfl _ rfl rfl (blk_put8F k2 _ _ _ _ _ _ _ _)) rfl ⟨by kernel_rfl,below_put8F hb3 (Nat.le_refl _) _ _ _ _ _ _ _ _⟩
 have e32:(op==32)=false:=by simpa using h32
 replace HA:=Lib.hid (nin_cons h32 HA.out)
 clear h32;go_upto_region 34 with fail
 clear e32
 rcases Decidable.em (op=33) with rfl | h33
 ·clear HA;go_wp2_with fail;refine (hf _ _ _ _ _ _ _ _ W).mono ?_;rintro e w2 ⟨rfl,hb2⟩;have k2:=k0.step hb2;obtain ⟨z0,z1,z2,z3,z4,z5,z6,z7⟩:=eightB_ k2;have fz:=k2.frozen;have hb3:=below_cut hb hb2 (Nat.le_refl _);clear hf;unfold formC;go_wp2_with fail;exact bodyPost_ret (refOf_end rfl _ rfl rfl (blk_put8F k2 _ _ _ _ _ _ _ _)) rfl ⟨by kernel_rfl,below_put8F hb3 (Nat.le_refl _) _ _ _ _ _ _ _ _⟩
 have e33:(op==33)=false:=by simpa using h33
 replace HA:=Lib.hid (nin_cons h33 HA.out)
 clear h33;go_upto_region 36 with fail
 clear e33
 rcases Decidable.em (op=41) with rfl | h41
 ·clear HA;go_wp2_with fail;refine (hf _ _ _ _ _ _ _ _ W).mono ?_;rintro e w2 ⟨rfl,hb2⟩;have k2:=k0.step hb2;obtain ⟨z0,z1,z2,z3,z4,z5,z6,z7⟩:=eightB_ k2;have fz:=k2.frozen;have hb3:=below_cut hb hb2 (Nat.le_refl _);clear hf;unfold formC;go_wp2_with fail;exact bodyPost_ret (refOf_end rfl _ rfl rfl (blk_put8F k2 _ _ _ _ _ _ _ _)) rfl ⟨by kernel_rfl,below_put8F hb3 (Nat.le_refl _) _ _ _ _ _ _ _ _⟩
 have e41:(op==41)=false:=by simpa using h41
 replace HA:=Lib.hid (nin_cons h41 HA.out)
 clear h41;go_upto_region 38 with fail
 clear e41
 rcases Decidable.em (op=42) with rfl | h42
 ·clear HA;go_wp2_with fail;refine (hf _ _ _ _ _ _ _ _ W).mono ?_;rintro e w2 ⟨rfl,hb2⟩;have k2:=k0.step hb2;obtain ⟨z0,z1,z2,z3,z4,z5,z6,z7⟩:=eightB_ k2;have fz:=k2.frozen;have hb3:=below_cut hb hb2 (Nat.le_refl _);clear hf;unfold formC;go_wp2_with fail;exact bodyPost_ret (refOf_end rfl _ rfl rfl (blk_put8F k2 _ _ _ _ _ _ _ _)) rfl ⟨by kernel_rfl,below_put8F hb3 (Nat.le_refl _) _ _ _ _ _ _ _ _⟩
 have e42:(op==42)=false:=by simpa using h42
 replace HA:=Lib.hid (nin_cons h42 HA.out)
 clear h42;go_upto_region 40 with fail
 clear e42
 rcases Decidable.em (op=43) with rfl | h43
 ·clear HA;go_wp2_with fail;refine (hf _ _ _ _ _ _ _ _ W).mono ?_;rintro e w2 ⟨rfl,hb2⟩;have k2:=k0.step hb2;obtain ⟨z0,z1,z2,z3,z4,z5,z6,z7⟩:=eightB_ k2;have fz:=k2.frozen;have hb3:=below_cut hb hb2 (Nat.le_refl _);clear hf;unfold formC;go_wp2_with fail;exact bodyPost_ret (refOf_end rfl _ rfl rfl (blk_put8F k2 _ _ _ _ _ _ _ _)) rfl ⟨by kernel_rfl,below_put8F hb3 (Nat.le_refl _) _ _ _ _ _ _ _ _⟩
 have e43:(op==43)=false:=by simpa using h43
 replace HA:=Lib.hid (nin_cons h43 HA.out)
 clear h43;go_upto_region 42 with fail
 clear e43
 rcases Decidable.em (op=44) with rfl | h44
 ·clear HA;go_wp2_with fail;refine (hf _ _ _ _ _ _ _ _ W).mono ?_;rintro e w2 ⟨rfl,hb2⟩;have k2:=k0.step hb2;obtain ⟨z0,z1,z2,z3,z4,z5,z6,z7⟩:=eightB_ k2;have fz:=k2.frozen;have hb3:=below_cut hb hb2 (Nat.le_refl _);clear hf;unfold formC;go_wp2_with fail;exact bodyPost_ret (refOf_end rfl _ rfl rfl (blk_put8F k2 _ _ _ _ _ _ _ _)) rfl ⟨by kernel_rfl,below_put8F hb3 (Nat.le_refl _) _ _ _ _ _ _ _ _⟩
 have e44:(op==44)=false:=by simpa using h44
 replace HA:=Lib.hid (nin_cons h44 HA.out)
 clear h44;go_upto_region 44 with fail
 clear e44
 rcases Decidable.em (op=46) with rfl | h46
 ·clear HA;go_wp2_with fail;refine (hf _ _ _ _ _ _ _ _ W).mono ?_;rintro e w2 ⟨rfl,hb2⟩;have k2:=k0.step hb2;obtain ⟨z0,z1,z2,z3,z4,z5,z6,z7⟩:=eightB_ k2;have fz:=k2.frozen;have hb3:=below_cut hb hb2 (Nat.le_refl _);clear hf;unfold formC;go_wp2_with fail;exact bodyPost_ret (refOf_end rfl _ rfl rfl (blk_put8F k2 _ _ _ _ _ _ _ _)) rfl ⟨by kernel_rfl,below_put8F hb3 (Nat.le_refl _) _ _ _ _ _ _ _ _⟩
 have e46:(op==46)=false:=by simpa using h46
 replace HA:=Lib.hid (nin_cons h46 HA.out)
 clear h46;go_upto_region 46 with fail
 clear e46
 rcases Decidable.em (op=54) with rfl | h54
 ·clear HA;go_wp2_with fail;refine (hf _ _ _ _ _ _ _ _ W).mono ?_;rintro e w2 ⟨rfl,hb2⟩;have k2:=k0.step hb2;obtain ⟨z0,z1,z2,z3,z4,z5,z6,z7⟩:=eightB_ k2;have fz:=k2.frozen;have hb3:=below_cut hb hb2 (Nat.le_refl _);clear hf;unfold formC;go_wp2_with fail;exact bodyPost_ret (refOf_end rfl _ rfl rfl (blk_put8F k2 _ _ _ _ _ _ _ _)) rfl ⟨by kernel_rfl,below_put8F hb3 (Nat.le_refl _) _ _ _ _ _ _ _ _⟩
 have e54:(op==54)=false:=by simpa using h54
 replace HA:=Lib.hid (nin_cons h54 HA.out)
 clear h54;go_upto_region 48 with fail
 clear e54
 rcases Decidable.em (op=55) with rfl | h55
 ·clear HA;go_wp2_with fail;refine (hf _ _ _ _ _ _ _ _ W).mono ?_;rintro e w2 ⟨rfl,hb2⟩;have k2:=k0.step hb2;obtain ⟨z0,z1,z2,z3,z4,z5,z6,z7⟩:=eightB_ k2;have fz:=k2.frozen;have hb3:=below_cut hb hb2 (Nat.le_refl _);clear hf;unfold formC;go_wp2_with fail;exact bodyPost_ret (refOf_end rfl _ rfl rfl (blk_put8F k2 _ _ _ _ _ _ _ _)) rfl ⟨by kernel_rfl,below_put8F hb3 (Nat.le_refl _) _ _ _ _ _ _ _ _⟩
 have e55:(op==55)=false:=by simpa using h55
 replace HA:=Lib.hid (nin_cons h55 HA.out)
 clear h55;go_upto_region 50 with fail
 clear e55
 rcases Decidable.em (op=56) with rfl | h56
 ·clear HA;go_wp2_with fail;refine (hf _ _ _ _ _ _ _ _ W).mono ?_;rintro e w2 ⟨rfl,hb2⟩;have k2:=k0.step hb2;obtain ⟨z0,z1,z2,z3,z4,z5,z6,z7⟩:=eightB_ k2;have fz:=k2.frozen;have hb3:=below_cut hb hb2 (Nat.le_refl _);clear hf;unfold formC;go_wp2_with fail;exact bodyPost_ret (refOf_end rfl _ rfl rfl (blk_put8F k2 _ _ _ _ _ _ _ _)) rfl ⟨by kernel_rfl,below_put8F hb3 (Nat.le_refl _) _ _ _ _ _ _ _ _⟩
 have e56:(op==56)=false:=by simpa using h56
 replace HA:=Lib.hid (nin_cons h56 HA.out)
 clear h56;go_upto_region 52 with fail
 clear e56
 rcases Decidable.em (op=57) with rfl | h57
 ·clear HA;go_wp2_with fail;refine (hf _ _ _ _ _ _ _ _ W).mono ?_;rintro e w2 ⟨rfl,hb2⟩;have k2:=k0.step hb2;obtain ⟨z0,z1,z2,z3,z4,z5,z6,z7⟩:=eightB_ k2;have fz:=k2.frozen;have hb3:=below_cut hb hb2 (Nat.le_refl _);clear hf;unfold formC;go_wp2_with fail;exact bodyPost_ret (refOf_end rfl _ rfl rfl (blk_put8F k2 _ _ _ _ _ _ _ _)) rfl ⟨by kernel_rfl,below_put8F hb3 (Nat.le_refl _) _ _ _ _ _ _ _ _⟩
 have e57:(op==57)=false:=by simpa using h57
 replace HA:=Lib.hid (nin_cons h57 HA.out)
 clear h57;go_upto_region 54 with fail
 clear e57
 rcases Decidable.em (op=59) with rfl | h59
 ·clear HA;go_wp2_with fail;refine (hf _ _ _ _ _ _ _ _ W).mono ?_;rintro e w2 ⟨rfl,hb2⟩;have k2:=k0.step hb2;obtain ⟨z0,z1,z2,z3,z4,z5,z6,z7⟩:=eightB_ k2;have fz:=k2.frozen;have hb3:=below_cut hb hb2 (Nat.le_refl _);clear hf;unfold formC;go_wp2_with fail;exact bodyPost_ret (refOf_end rfl _ rfl rfl (blk_put8F k2 _ _ _ _ _ _ _ _)) rfl ⟨by kernel_rfl,below_put8F hb3 (Nat.le_refl _) _ _ _ _ _ _ _ _⟩
 have e59:(op==59)=false:=by simpa using h59
 replace HA:=Lib.hid (nin_cons h59 HA.out)
 clear h59;go_upto_region 56 with fail
 clear e59
 rcases Decidable.em (op=61) with rfl | h61
 ·clear HA;go_wp2_with fail;refine (hf _ _ _ _ _ _ _ _ W).mono ?_;rintro e w2 ⟨rfl,hb2⟩;have k2:=k0.step hb2;obtain ⟨z0,z1,z2,z3,z4,z5,z6,z7⟩:=eightB_ k2;have fz:=k2.frozen;have hb3:=below_cut hb hb2 (Nat.le_refl _);clear hf;unfold formC;go_wp2_with fail;exact bodyPost_ret (refOf_end rfl _ rfl rfl (blk_put8F k2 _ _ _ _ _ _ _ _)) rfl ⟨by kernel_rfl,below_put8F hb3 (Nat.le_refl _) _ _ _ _ _ _ _ _⟩
 have e61:(op==61)=false:=by simpa using h61
 replace HA:=Lib.hid (nin_cons h61 HA.out)
 clear h61;go_upto_region 58 with fail
 clear e61
 rcases Decidable.em (op=62) with rfl | h62
 ·clear HA;go_wp2_with fail;refine (hf _ _ _ _ _ _ _ _ W).mono ?_;rintro e w2 ⟨rfl,hb2⟩;have k2:=k0.step hb2;obtain ⟨z0,z1,z2,z3,z4,z5,z6,z7⟩:=eightB_ k2;have fz:=k2.frozen;have hb3:=below_cut hb hb2 (Nat.le_refl _);clear hf;unfold formC;go_wp2_with fail;exact bodyPost_ret (refOf_end rfl _ rfl rfl (blk_put8F k2 _ _ _ _ _ _ _ _)) rfl ⟨by kernel_rfl,below_put8F hb3 (Nat.le_refl _) _ _ _ _ _ _ _ _⟩
 have e62:(op==62)=false:=by simpa using h62
 replace HA:=Lib.hid (nin_cons h62 HA.out)
 clear h62;go_upto_region 60 with fail
 clear e62
 rcases Decidable.em (op=65) with rfl | h65
 ·clear HA;go_wp2_with fail;refine (hf _ _ _ _ _ _ _ _ W).mono ?_;rintro e w2 ⟨rfl,hb2⟩;have k2:=k0.step hb2;obtain ⟨z0,z1,z2,z3,z4,z5,z6,z7⟩:=eightB_ k2;have fz:=k2.frozen;have hb3:=below_cut hb hb2 (Nat.le_refl _);clear hf;unfold formC;go_wp2_with fail;exact bodyPost_ret (refOf_end rfl _ rfl rfl (blk_put8F k2 _ _ _ _ _ _ _ _)) rfl ⟨by kernel_rfl,below_put8F hb3 (Nat.le_refl _) _ _ _ _ _ _ _ _⟩
 have e65:(op==65)=false:=by simpa using h65
 replace HA:=Lib.hid (nin_cons h65 HA.out)
 clear h65;go_upto_region 62 with fail
 clear e65
 rcases Decidable.em (op=71) with rfl | h71
 ·clear HA;go_wp2_with fail;refine (hf _ _ _ _ _ _ _ _ W).mono ?_;rintro e w2 ⟨rfl,hb2⟩;have k2:=k0.step hb2;obtain ⟨z0,z1,z2,z3,z4,z5,z6,z7⟩:=eightB_ k2;have fz:=k2.frozen;have hb3:=below_cut hb hb2 (Nat.le_refl _);clear hf;unfold formC;go_wp2_with fail;exact bodyPost_ret (refOf_end rfl _ rfl rfl (blk_put8F k2 _ _ _ _ _ _ _ _)) rfl ⟨by kernel_rfl,below_put8F hb3 (Nat.le_refl _) _ _ _ _ _ _ _ _⟩
 have e71:(op==71)=false:=by simpa using h71
 replace HA:=Lib.hid (nin_cons h71 HA.out)
 clear h71;go_upto_region 64 with fail
 clear e71
 rcases Decidable.em (op=77) with rfl | h77
 ·clear HA;go_wp2_with fail;refine (hf _ _ _ _ _ _ _ _ W).mono ?_;rintro e w2 ⟨rfl,hb2⟩;have k2:=k0.step hb2;obtain ⟨z0,z1,z2,z3,z4,z5,z6,z7⟩:=eightB_ k2;have fz:=k2.frozen;have hb3:=below_cut hb hb2 (Nat.le_refl _);clear hf;unfold formC;go_wp2_with fail;exact bodyPost_ret (refOf_end rfl _ rfl rfl (blk_put8F k2 _ _ _ _ _ _ _ _)) rfl ⟨by kernel_rfl,below_put8F hb3 (Nat.le_refl _) _ _ _ _ _ _ _ _⟩
 have e77:(op==77)=false:=by simpa using h77
 replace HA:=Lib.hid (nin_cons h77 HA.out)
 clear h77;go_upto_region 66 with fail
 clear e77
 rcases Decidable.em (op=78) with rfl | h78
 ·clear HA;go_wp2_with fail;refine (hf _ _ _ _ _ _ _ _ W).mono ?_;rintro e w2 ⟨rfl,hb2⟩;have k2:=k0.step hb2;obtain ⟨z0,z1,z2,z3,z4,z5,z6,z7⟩:=eightB_ k2;have fz:=k2.frozen;have hb3:=below_cut hb hb2 (Nat.le_refl _);clear hf;unfold formC;go_wp2_with fail;exact bodyPost_ret (refOf_end rfl _ rfl rfl (blk_put8F k2 _ _ _ _ _ _ _ _)) rfl ⟨by kernel_rfl,below_put8F hb3 (Nat.le_refl _) _ _ _ _ _ _ _ _⟩
 have e78:(op==78)=false:=by simpa using h78
 replace HA:=Lib.hid (nin_cons h78 HA.out)
 clear h78;go_upto_region 68 with fail
 clear e78
 rcases Decidable.em (op=79) with rfl | h79
 ·clear HA;go_wp2_with fail;refine (hf _ _ _ _ _ _ _ _ W).mono ?_;rintro e w2 ⟨rfl,hb2⟩;have k2:=k0.step hb2;obtain ⟨z0,z1,z2,z3,z4,z5,z6,z7⟩:=eightB_ k2;have fz:=k2.frozen;have hb3:=below_cut hb hb2 (Nat.le_refl _);clear hf;unfold formC;go_wp2_with fail;exact bodyPost_ret (refOf_end rfl _ rfl rfl (blk_put8F k2 _ _ _ _ _ _ _ _)) rfl ⟨by kernel_rfl,below_put8F hb3 (Nat.le_refl _) _ _ _ _ _ _ _ _⟩
 have e79:(op==79)=false:=by simpa using h79
 replace HA:=Lib.hid (nin_cons h79 HA.out)
 clear h79;go_upto_region 70 with fail
 clear e79
 rcases Decidable.em (op=80) with rfl | h80
 ·clear HA;go_wp2_with fail;refine (hf _ _ _ _ _ _ _ _ W).mono ?_;rintro e w2 ⟨rfl,hb2⟩;have k2:=k0.step hb2;obtain ⟨z0,z1,z2,z3,z4,z5,z6,z7⟩:=eightB_ k2;have fz:=k2.frozen;have hb3:=below_cut hb hb2 (Nat.le_refl _);clear hf;unfold formC;go_wp2_with fail;exact bodyPost_ret (refOf_end rfl _ rfl rfl (blk_put8F k2 _ _ _ _ _ _ _ _)) rfl ⟨by kernel_rfl,below_put8F hb3 (Nat.le_refl _) _ _ _ _ _ _ _ _⟩
 have e80:(op==80)=false:=by simpa using h80
 replace HA:=Lib.hid (nin_cons h80 HA.out)
 clear h80;go_upto_region 72 with fail
 clear e80
 rcases Decidable.em (op=81) with rfl | h81
 ·clear HA;go_wp2_with fail;refine (hf _ _ _ _ _ _ _ _ W).mono ?_;rintro e w2 ⟨rfl,hb2⟩;have k2:=k0.step hb2;obtain ⟨z0,z1,z2,z3,z4,z5,z6,z7⟩:=eightB_ k2;have fz:=k2.frozen;have hb3:=below_cut hb hb2 (Nat.le_refl _);clear hf;unfold formC;go_wp2_with fail;exact bodyPost_ret (refOf_end rfl _ rfl rfl (blk_put8F k2 _ _ _ _ _ _ _ _)) rfl ⟨by kernel_rfl,below_put8F hb3 (Nat.le_refl _) _ _ _ _ _ _ _ _⟩
 have e81:(op==81)=false:=by simpa using h81
 replace HA:=Lib.hid (nin_cons h81 HA.out)
 clear h81;go_upto_region 74 with fail
 clear e81
 rcases Decidable.em (op=82) with rfl | h82
 ·clear HA;go_wp2_with fail;refine (hf _ _ _ _ _ _ _ _ W).mono ?_;rintro e w2 ⟨rfl,hb2⟩;have k2:=k0.step hb2;obtain ⟨z0,z1,z2,z3,z4,z5,z6,z7⟩:=eightB_ k2;have fz:=k2.frozen;have hb3:=below_cut hb hb2 (Nat.le_refl _);clear hf;unfold formC;go_wp2_with fail;exact bodyPost_ret (refOf_end rfl _ rfl rfl (blk_put8F k2 _ _ _ _ _ _ _ _)) rfl ⟨by kernel_rfl,below_put8F hb3 (Nat.le_refl _) _ _ _ _ _ _ _ _⟩
 have e82:(op==82)=false:=by simpa using h82
 replace HA:=Lib.hid (nin_cons h82 HA.out)
 clear h82;go_upto_region 76 with fail
 clear e82
 rcases Decidable.em (op=83) with rfl | h83
 ·clear HA;go_wp2_with fail;refine (hf _ _ _ _ _ _ _ _ W).mono ?_;rintro e w2 ⟨rfl,hb2⟩;have k2:=k0.step hb2;obtain ⟨z0,z1,z2,z3,z4,z5,z6,z7⟩:=eightB_ k2;have fz:=k2.frozen;have hb3:=below_cut hb hb2 (Nat.le_refl _);clear hf;unfold formC;go_wp2_with fail;exact bodyPost_ret (refOf_end rfl _ rfl rfl (blk_put8F k2 _ _ _ _ _ _ _ _)) rfl ⟨by kernel_rfl,below_put8F hb3 (Nat.le_refl _) _ _ _ _ _ _ _ _⟩
 have e83:(op==83)=false:=by simpa using h83
 replace HA:=Lib.hid (nin_cons h83 HA.out)
 clear h83;go_upto_region 78 with fail
 clear e83
 rcases Decidable.em (op=124) with rfl | h124
 ·clear HA;go_wp2_with fail;refine (hf _ _ _ _ _ _ _ _ W).mono ?_;rintro e w2 ⟨rfl,hb2⟩;have k2:=k0.step hb2;obtain ⟨z0,z1,z2,z3,z4,z5,z6,z7⟩:=eightB_ k2;have fz:=k2.frozen;have hb3:=below_cut hb hb2 (Nat.le_refl _);clear hf;unfold formC;go_wp2_with fail;exact bodyPost_ret (refOf_end rfl _ rfl rfl (blk_put8F k2 _ _ _ _ _ _ _ _)) rfl ⟨by kernel_rfl,below_put8F hb3 (Nat.le_refl _) _ _ _ _ _ _ _ _⟩
 have e124:(op==124)=false:=by simpa using h124
 replace HA:=Lib.hid (nin_cons h124 HA.out)
 clear h124;go_upto_region 80 with fail
 clear e124
 rcases Decidable.em (op=126) with rfl | h126
 ·clear HA;go_wp2_with fail;refine (hf _ _ _ _ _ _ _ _ W).mono ?_;rintro e w2 ⟨rfl,hb2⟩;have k2:=k0.step hb2;obtain ⟨z0,z1,z2,z3,z4,z5,z6,z7⟩:=eightB_ k2;have fz:=k2.frozen;have hb3:=below_cut hb hb2 (Nat.le_refl _);clear hf;unfold formC;go_wp2_with fail;exact bodyPost_ret (refOf_end rfl _ rfl rfl (blk_put8F k2 _ _ _ _ _ _ _ _)) rfl ⟨by kernel_rfl,below_put8F hb3 (Nat.le_refl _) _ _ _ _ _ _ _ _⟩
 have e126:(op==126)=false:=by simpa using h126
 replace HA:=Lib.hid (nin_cons h126 HA.out)
 clear h126;go_upto_region 82 with fail
 clear e126
 rcases Decidable.em (op=128) with rfl | h128
 ·clear HA;go_wp2_with fail;refine (hf _ _ _ _ _ _ _ _ W).mono ?_;rintro e w2 ⟨rfl,hb2⟩;have k2:=k0.step hb2;obtain ⟨z0,z1,z2,z3,z4,z5,z6,z7⟩:=eightB_ k2;have fz:=k2.frozen;have hb3:=below_cut hb hb2 (Nat.le_refl _);clear hf;unfold formC;go_wp2_with fail;exact bodyPost_ret (refOf_end rfl _ rfl rfl (blk_put8F k2 _ _ _ _ _ _ _ _)) rfl ⟨by kernel_rfl,below_put8F hb3 (Nat.le_refl _) _ _ _ _ _ _ _ _⟩
 have e128:(op==128)=false:=by simpa using h128
 replace HA:=Lib.hid (nin_cons h128 HA.out)
 clear h128;go_upto_region 84 with fail
 clear e128
 rcases Decidable.em (op=130) with rfl | h130
 ·clear HA;go_wp2_with fail;refine (hf _ _ _ _ _ _ _ _ W).mono ?_;rintro e w2 ⟨rfl,hb2⟩;have k2:=k0.step hb2;obtain ⟨z0,z1,z2,z3,z4,z5,z6,z7⟩:=eightB_ k2;have fz:=k2.frozen;have hb3:=below_cut hb hb2 (Nat.le_refl _);clear hf;unfold formC;go_wp2_with fail;exact bodyPost_ret (refOf_end rfl _ rfl rfl (blk_put8F k2 _ _ _ _ _ _ _ _)) rfl ⟨by kernel_rfl,below_put8F hb3 (Nat.le_refl _) _ _ _ _ _ _ _ _⟩
 have e130:(op==130)=false:=by simpa using h130
 replace HA:=Lib.hid (nin_cons h130 HA.out)
 clear h130;go_upto_region 86 with fail
 clear e130
 rcases Decidable.em (op=132) with rfl | h132
 ·clear HA;go_wp2_with fail;refine (hf _ _ _ _ _ _ _ _ W).mono ?_;rintro e w2 ⟨rfl,hb2⟩;have k2:=k0.step hb2;obtain ⟨z0,z1,z2,z3,z4,z5,z6,z7⟩:=eightB_ k2;have fz:=k2.frozen;have hb3:=below_cut hb hb2 (Nat.le_refl _);clear hf;unfold formC;go_wp2_with fail;exact bodyPost_ret (refOf_end rfl _ rfl rfl (blk_put8F k2 _ _ _ _ _ _ _ _)) rfl ⟨by kernel_rfl,below_put8F hb3 (Nat.le_refl _) _ _ _ _ _ _ _ _⟩
 have e132:(op==132)=false:=by simpa using h132
 replace HA:=Lib.hid (nin_cons h132 HA.out)
 clear h132;go_upto_region 88 with fail
 clear e132
 rcases Decidable.em (op=134) with rfl | h134
 ·clear HA;go_wp2_with fail;refine (hf _ _ _ _ _ _ _ _ W).mono ?_;rintro e w2 ⟨rfl,hb2⟩;have k2:=k0.step hb2;obtain ⟨z0,z1,z2,z3,z4,z5,z6,z7⟩:=eightB_ k2;have fz:=k2.frozen;have hb3:=below_cut hb hb2 (Nat.le_refl _);clear hf;unfold formC;go_wp2_with fail;exact bodyPost_ret (refOf_end rfl _ rfl rfl (blk_put8F k2 _ _ _ _ _ _ _ _)) rfl ⟨by kernel_rfl,below_put8F hb3 (Nat.le_refl _) _ _ _ _ _ _ _ _⟩
 have e134:(op==134)=false:=by simpa using h134
 replace HA:=Lib.hid (nin_cons h134 HA.out)
 clear h134;go_upto_region 90 with fail
 clear e134
 rcases Decidable.em (op=135) with rfl | h135
 ·clear HA;go_wp2_with fail;refine (hf _ _ _ _ _ _ _ _ W).mono ?_;rintro e w2 ⟨rfl,hb2⟩;have k2:=k0.step hb2;obtain ⟨z0,z1,z2,z3,z4,z5,z6,z7⟩:=eightB_ k2;have fz:=k2.frozen;have hb3:=below_cut hb hb2 (Nat.le_refl _);clear hf;unfold formC;go_wp2_with fail;exact bodyPost_ret (refOf_end rfl _ rfl rfl (blk_put8F k2 _ _ _ _ _ _ _ _)) rfl ⟨by kernel_rfl,below_put8F hb3 (Nat.le_refl _) _ _ _ _ _ _ _ _⟩
 have e135:(op==135)=false:=by simpa using h135
 replace HA:=Lib.hid (nin_cons h135 HA.out)
 clear h135;go_upto_region 92 with fail
 clear e135
 rcases Decidable.em (op=137) with rfl | h137
 ·clear HA;go_wp2_with fail;refine (hf _ _ _ _ _ _ _ _ W).mono ?_;rintro e w2 ⟨rfl,hb2⟩;have k2:=k0.step hb2;obtain ⟨z0,z1,z2,z3,z4,z5,z6,z7⟩:=eightB_ k2;have fz:=k2.frozen;have hb3:=below_cut hb hb2 (Nat.le_refl _);clear hf;unfold formC;go_wp2_with fail;exact bodyPost_ret (refOf_end rfl _ rfl rfl (blk_put8F k2 _ _ _ _ _ _ _ _)) rfl ⟨by kernel_rfl,below_put8F hb3 (Nat.le_refl _) _ _ _ _ _ _ _ _⟩
 have e137:(op==137)=false:=by simpa using h137
 replace HA:=Lib.hid (nin_cons h137 HA.out)
 clear h137;go_upto_region 94 with fail
 clear e137
 rcases Decidable.em (op=138) with rfl | h138
 ·clear HA;go_wp2_with fail;refine (hf _ _ _ _ _ _ _ _ W).mono ?_;rintro e w2 ⟨rfl,hb2⟩;have k2:=k0.step hb2;obtain ⟨z0,z1,z2,z3,z4,z5,z6,z7⟩:=eightB_ k2;have fz:=k2.frozen;have hb3:=below_cut hb hb2 (Nat.le_refl _);clear hf;unfold formC;go_wp2_with fail;exact bodyPost_ret (refOf_end rfl _ rfl rfl (blk_put8F k2 _ _ _ _ _ _ _ _)) rfl ⟨by kernel_rfl,below_put8F hb3 (Nat.le_refl _) _ _ _ _ _ _ _ _⟩
 have e138:(op==138)=false:=by simpa using h138
 replace HA:=Lib.hid (nin_cons h138 HA.out)
 clear h138;go_upto_region 96 with fail
 clear e138
 rcases Decidable.em (op=139) with rfl | h139
 ·clear HA;go_wp2_with fail;refine (hf _ _ _ _ _ _ _ _ W).mono ?_;rintro e w2 ⟨rfl,hb2⟩;have k2:=k0.step hb2;obtain ⟨z0,z1,z2,z3,z4,z5,z6,z7⟩:=eightB_ k2;have fz:=k2.frozen;have hb3:=below_cut hb hb2 (Nat.le_refl _);clear hf;unfold formC;go_wp2_with fail;exact bodyPost_ret (refOf_end rfl _ rfl rfl (blk_put8F k2 _ _ _ _ _ _ _ _)) rfl ⟨by kernel_rfl,below_put8F hb3 (Nat.le_refl _) _ _ _ _ _ _ _ _⟩
 have e139:(op==139)=false:=by simpa using h139
 replace HA:=Lib.hid (nin_cons h139 HA.out)
 clear h139;go_upto_region 98 with fail
 clear e139
 rcases Decidable.em (op=149) with rfl | h149
 ·clear HA;go_wp2_with fail;refine (hf _ _ _ _ _ _ _ _ W).mono ?_;rintro e w2 ⟨rfl,hb2⟩;have k2:=k0.step hb2;obtain ⟨z0,z1,z2,z3,z4,z5,z6,z7⟩:=eightB_ k2;have fz:=k2.frozen;have hb3:=below_cut hb hb2 (Nat.le_refl _);clear hf;unfold formC;go_wp2_with fail;exact bodyPost_ret (refOf_end rfl _ rfl rfl (blk_put8F k2 _ _ _ _ _ _ _ _)) rfl ⟨by kernel_rfl,below_put8F hb3 (Nat.le_refl _) _ _ _ _ _ _ _ _⟩
 have e149:(op==149)=false:=by simpa using h149
 replace HA:=Lib.hid (nin_cons h149 HA.out)
 clear h149;go_upto_region 100 with fail
 clear e149
 rcases Decidable.em (op=150) with rfl | h150
 ·clear HA;go_wp2_with fail;refine (hf _ _ _ _ _ _ _ _ W).mono ?_;rintro e w2 ⟨rfl,hb2⟩;have k2:=k0.step hb2;obtain ⟨z0,z1,z2,z3,z4,z5,z6,z7⟩:=eightB_ k2;have fz:=k2.frozen;have hb3:=below_cut hb hb2 (Nat.le_refl _);clear hf;unfold formC;go_wp2_with fail;exact bodyPost_ret (refOf_end rfl _ rfl rfl (blk_put8F k2 _ _ _ _ _ _ _ _)) rfl ⟨by kernel_rfl,below_put8F hb3 (Nat.le_refl _) _ _ _ _ _ _ _ _⟩
 have e150:(op==150)=false:=by simpa using h150
 replace HA:=Lib.hid (nin_cons h150 HA.out)
 clear h150;go_upto_region 102 with fail
 clear e150
 rcases Decidable.em (op=151) with rfl | h151
 ·clear HA;go_wp2_with fail;refine (hf _ _ _ _ _ _ _ _ W).mono ?_;rintro e w2 ⟨rfl,hb2⟩;have k2:=k0.step hb2;obtain ⟨z0,z1,z2,z3,z4,z5,z6,z7⟩:=eightB_ k2;have fz:=k2.frozen;have hb3:=below_cut hb hb2 (Nat.le_refl _);clear hf;unfold formC;go_wp2_with fail;exact bodyPost_ret (refOf_end rfl _ rfl rfl (blk_put8F k2 _ _ _ _ _ _ _ _)) rfl ⟨by kernel_rfl,below_put8F hb3 (Nat.le_refl _) _ _ _ _ _ _ _ _⟩
 have e151:(op==151)=false:=by simpa using h151
 replace HA:=Lib.hid (nin_cons h151 HA.out)
 clear h151;go_upto_region 104 with fail
 clear e151
 rcases Decidable.em (op=152) with rfl | h152
 ·clear HA;go_wp2_with fail;refine (hf _ _ _ _ _ _ _ _ W).mono ?_;rintro e w2 ⟨rfl,hb2⟩;have k2:=k0.step hb2;obtain ⟨z0,z1,z2,z3,z4,z5,z6,z7⟩:=eightB_ k2;have fz:=k2.frozen;have hb3:=below_cut hb hb2 (Nat.le_refl _);clear hf;unfold formC;go_wp2_with fail;exact bodyPost_ret (refOf_end rfl _ rfl rfl (blk_put8F k2 _ _ _ _ _ _ _ _)) rfl ⟨by kernel_rfl,below_put8F hb3 (Nat.le_refl _) _ _ _ _ _ _ _ _⟩
 have e152:(op==152)=false:=by simpa using h152
 replace HA:=Lib.hid (nin_cons h152 HA.out)
 clear h152;go_upto_region 106 with fail
 clear e152
 rcases Decidable.em (op=154) with rfl | h154
 ·clear HA;go_wp2_with fail;refine (hf _ _ _ _ _ _ _ _ W).mono ?_;rintro e w2 ⟨rfl,hb2⟩;have k2:=k0.step hb2;obtain ⟨z0,z1,z2,z3,z4,z5,z6,z7⟩:=eightB_ k2;have fz:=k2.frozen;have hb3:=below_cut hb hb2 (Nat.le_refl _);clear hf;unfold formC;go_wp2_with fail;exact bodyPost_ret (refOf_end rfl _ rfl rfl (blk_put8F k2 _ _ _ _ _ _ _ _)) rfl ⟨by kernel_rfl,below_put8F hb3 (Nat.le_refl _) _ _ _ _ _ _ _ _⟩
 have e154:(op==154)=false:=by simpa using h154
 replace HA:=Lib.hid (nin_cons h154 HA.out)
 clear h154;go_upto_region 108 with fail
 clear e154
 rcases Decidable.em (op=155) with rfl | h155
 ·clear HA;go_wp2_with fail;refine (hf _ _ _ _ _ _ _ _ W).mono ?_;rintro e w2 ⟨rfl,hb2⟩;have k2:=k0.step hb2;obtain ⟨z0,z1,z2,z3,z4,z5,z6,z7⟩:=eightB_ k2;have fz:=k2.frozen;have hb3:=below_cut hb hb2 (Nat.le_refl _);clear hf;unfold formC;go_wp2_with fail;exact bodyPost_ret (refOf_end rfl _ rfl rfl (blk_put8F k2 _ _ _ _ _ _ _ _)) rfl ⟨by kernel_rfl,below_put8F hb3 (Nat.le_refl _) _ _ _ _ _ _ _ _⟩
 have e155:(op==155)=false:=by simpa using h155
 replace HA:=Lib.hid (nin_cons h155 HA.out)
 clear h155;go_upto_region 110 with fail
 clear e155
 rcases Decidable.em (op=164) with rfl | h164
 ·clear HA;go_wp2_with fail;refine (hf _ _ _ _ _ _ _ _ W).mono ?_;rintro e w2 ⟨rfl,hb2⟩;have k2:=k0.step hb2;obtain ⟨z0,z1,z2,z3,z4,z5,z6,z7⟩:=eightB_ k2;have fz:=k2.frozen;have hb3:=below_cut hb hb2 (Nat.le_refl _);clear hf;unfold formC;go_wp2_with fail;exact bodyPost_ret (refOf_end rfl _ rfl rfl (blk_put8F k2 _ _ _ _ _ _ _ _)) rfl ⟨by kernel_rfl,below_put8F hb3 (Nat.le_refl _) _ _ _ _ _ _ _ _⟩
 have e164:(op==164)=false:=by simpa using h164
 replace HA:=Lib.hid (nin_cons h164 HA.out)
 clear h164;go_upto_region 112 with fail
 clear e164
 rcases Decidable.em (op=165) with rfl | h165
 ·clear HA;go_wp2_with fail;refine (hf _ _ _ _ _ _ _ _ W).mono ?_;rintro e w2 ⟨rfl,hb2⟩;have k2:=k0.step hb2;obtain ⟨z0,z1,z2,z3,z4,z5,z6,z7⟩:=eightB_ k2;have fz:=k2.frozen;have hb3:=below_cut hb hb2 (Nat.le_refl _);clear hf;unfold formC;go_wp2_with fail;exact bodyPost_ret (refOf_end rfl _ rfl rfl (blk_put8F k2 _ _ _ _ _ _ _ _)) rfl ⟨by kernel_rfl,below_put8F hb3 (Nat.le_refl _) _ _ _ _ _ _ _ _⟩
 have e165:(op==165)=false:=by simpa using h165
 replace HA:=Lib.hid (nin_cons h165 HA.out)
 clear h165;go_upto_region 114 with fail
 clear e165
 rcases Decidable.em (op=166) with rfl | h166
 ·clear HA;go_wp2_with fail;refine (hf _ _ _ _ _ _ _ _ W).mono ?_;rintro e w2 ⟨rfl,hb2⟩;have k2:=k0.step hb2;obtain ⟨z0,z1,z2,z3,z4,z5,z6,z7⟩:=eightB_ k2;have fz:=k2.frozen;have hb3:=below_cut hb hb2 (Nat.le_refl _);clear hf;unfold formC;go_wp2_with fail;exact bodyPost_ret (refOf_end rfl _ rfl rfl (blk_put8F k2 _ _ _ _ _ _ _ _)) rfl ⟨by kernel_rfl,below_put8F hb3 (Nat.le_refl _) _ _ _ _ _ _ _ _⟩
 have e166:(op==166)=false:=by simpa using h166
 replace HA:=Lib.hid (nin_cons h166 HA.out)
 clear h166;go_upto_region 116 with fail
 clear e166
 rcases Decidable.em (op=167) with rfl | h167
 ·clear HA;go_wp2_with fail;refine (hf _ _ _ _ _ _ _ _ W).mono ?_;rintro e w2 ⟨rfl,hb2⟩;have k2:=k0.step hb2;obtain ⟨z0,z1,z2,z3,z4,z5,z6,z7⟩:=eightB_ k2;have fz:=k2.frozen;have hb3:=below_cut hb hb2 (Nat.le_refl _);clear hf;unfold formC;go_wp2_with fail;exact bodyPost_ret (refOf_end rfl _ rfl rfl (blk_put8F k2 _ _ _ _ _ _ _ _)) rfl ⟨by kernel_rfl,below_put8F hb3 (Nat.le_refl _) _ _ _ _ _ _ _ _⟩
 have e167:(op==167)=false:=by simpa using h167
 replace HA:=Lib.hid (nin_cons h167 HA.out)
 clear h167;go_upto_region 118 with fail
 clear e167
 rcases Decidable.em (op=168) with rfl | h168
 ·clear HA;go_wp2_with fail;refine (hf _ _ _ _ _ _ _ _ W).mono ?_;rintro e w2 ⟨rfl,hb2⟩;have k2:=k0.step hb2;obtain ⟨z0,z1,z2,z3,z4,z5,z6,z7⟩:=eightB_ k2;have fz:=k2.frozen;have hb3:=below_cut hb hb2 (Nat.le_refl _);clear hf;unfold formC;go_wp2_with fail;exact bodyPost_ret (refOf_end rfl _ rfl rfl (blk_put8F k2 _ _ _ _ _ _ _ _)) rfl ⟨by kernel_rfl,below_put8F hb3 (Nat.le_refl _) _ _ _ _ _ _ _ _⟩
 have e168:(op==168)=false:=by simpa using h168
 replace HA:=Lib.hid (nin_cons h168 HA.out)
 clear h168;go_upto_region 120 with fail
 clear e168
 rcases Decidable.em (op=169) with rfl | h169
 ·clear HA;go_wp2_with fail;refine (hf _ _ _ _ _ _ _ _ W).mono ?_;rintro e w2 ⟨rfl,hb2⟩;have k2:=k0.step hb2;obtain ⟨z0,z1,z2,z3,z4,z5,z6,z7⟩:=eightB_ k2;have fz:=k2.frozen;have hb3:=below_cut hb hb2 (Nat.le_refl _);clear hf;unfold formC;go_wp2_with fail;exact bodyPost_ret (refOf_end rfl _ rfl rfl (blk_put8F k2 _ _ _ _ _ _ _ _)) rfl ⟨by kernel_rfl,below_put8F hb3 (Nat.le_refl _) _ _ _ _ _ _ _ _⟩
 have e169:(op==169)=false:=by simpa using h169
 replace HA:=Lib.hid (nin_cons h169 HA.out)
 clear h169;go_upto_region 122 with fail
 clear e169
 rcases Decidable.em (op=170) with rfl | h170
 ·clear HA;go_wp2_with fail;refine (hf _ _ _ _ _ _ _ _ W).mono ?_;rintro e w2 ⟨rfl,hb2⟩;have k2:=k0.step hb2;obtain ⟨z0,z1,z2,z3,z4,z5,z6,z7⟩:=eightB_ k2;have fz:=k2.frozen;have hb3:=below_cut hb hb2 (Nat.le_refl _);clear hf;unfold formC;go_wp2_with fail;exact bodyPost_ret (refOf_end rfl _ rfl rfl (blk_put8F k2 _ _ _ _ _ _ _ _)) rfl ⟨by kernel_rfl,below_put8F hb3 (Nat.le_refl _) _ _ _ _ _ _ _ _⟩
 have e170:(op==170)=false:=by simpa using h170
 replace HA:=Lib.hid (nin_cons h170 HA.out)
 clear h170;go_upto_region 124 with fail
 clear e170
 rcases Decidable.em (op=171) with rfl | h171
 ·clear HA;go_wp2_with fail;refine (hf _ _ _ _ _ _ _ _ W).mono ?_;rintro e w2 ⟨rfl,hb2⟩;have k2:=k0.step hb2;obtain ⟨z0,z1,z2,z3,z4,z5,z6,z7⟩:=eightB_ k2;have fz:=k2.frozen;have hb3:=below_cut hb hb2 (Nat.le_refl _);clear hf;unfold formC;go_wp2_with fail;exact bodyPost_ret (refOf_end rfl _ rfl rfl (blk_put8F k2 _ _ _ _ _ _ _ _)) rfl ⟨by kernel_rfl,below_put8F hb3 (Nat.le_refl _) _ _ _ _ _ _ _ _⟩
 have e171:(op==171)=false:=by simpa using h171
 replace HA:=Lib.hid (nin_cons h171 HA.out)
 clear h171;go_upto_region 126 with fail
 clear e171
 rcases Decidable.em (op=172) with rfl | h172
 ·clear HA;go_wp2_with fail;refine (hf _ _ _ _ _ _ _ _ W).mono ?_;rintro e w2 ⟨rfl,hb2⟩;have k2:=k0.step hb2;obtain ⟨z0,z1,z2,z3,z4,z5,z6,z7⟩:=eightB_ k2;have fz:=k2.frozen;have hb3:=below_cut hb hb2 (Nat.le_refl _);clear hf;unfold formC;go_wp2_with fail;exact bodyPost_ret (refOf_end rfl _ rfl rfl (blk_put8F k2 _ _ _ _ _ _ _ _)) rfl ⟨by kernel_rfl,below_put8F hb3 (Nat.le_refl _) _ _ _ _ _ _ _ _⟩
 have e172:(op==172)=false:=by simpa using h172
 replace HA:=Lib.hid (nin_cons h172 HA.out)
 clear h172;go_upto_region 128 with fail
 clear e172
 rcases Decidable.em (op=173) with rfl | h173
 ·clear HA;go_wp2_with fail;refine (hf _ _ _ _ _ _ _ _ W).mono ?_;rintro e w2 ⟨rfl,hb2⟩;have k2:=k0.step hb2;obtain ⟨z0,z1,z2,z3,z4,z5,z6,z7⟩:=eightB_ k2;have fz:=k2.frozen;have hb3:=below_cut hb hb2 (Nat.le_refl _);clear hf;unfold formC;go_wp2_with fail;exact bodyPost_ret (refOf_end rfl _ rfl rfl (blk_put8F k2 _ _ _ _ _ _ _ _)) rfl ⟨by kernel_rfl,below_put8F hb3 (Nat.le_refl _) _ _ _ _ _ _ _ _⟩
 have e173:(op==173)=false:=by simpa using h173
 replace HA:=Lib.hid (nin_cons h173 HA.out)
 clear h173;go_upto_region 130 with fail
 clear e173
 rcases Decidable.em (op=174) with rfl | h174
 ·clear HA;go_wp2_with fail;refine (hf _ _ _ _ _ _ _ _ W).mono ?_;rintro e w2 ⟨rfl,hb2⟩;have k2:=k0.step hb2;obtain ⟨z0,z1,z2,z3,z4,z5,z6,z7⟩:=eightB_ k2;have fz:=k2.frozen;have hb3:=below_cut hb hb2 (Nat.le_refl _);clear hf;unfold formC;go_wp2_with fail;exact bodyPost_ret (refOf_end rfl _ rfl rfl (blk_put8F k2 _ _ _ _ _ _ _ _)) rfl ⟨by kernel_rfl,below_put8F hb3 (Nat.le_refl _) _ _ _ _ _ _ _ _⟩
 have e174:(op==174)=false:=by simpa using h174
 replace HA:=Lib.hid (nin_cons h174 HA.out)
 clear h174;go_upto_region 132 with fail
 clear e174
 rcases Decidable.em (op=175) with rfl | h175
 ·clear HA;go_wp2_with fail;refine (hf _ _ _ _ _ _ _ _ W).mono ?_;rintro e w2 ⟨rfl,hb2⟩;have k2:=k0.step hb2;obtain ⟨z0,z1,z2,z3,z4,z5,z6,z7⟩:=eightB_ k2;have fz:=k2.frozen;have hb3:=below_cut hb hb2 (Nat.le_refl _);clear hf;unfold formC;go_wp2_with fail;exact bodyPost_ret (refOf_end rfl _ rfl rfl (blk_put8F k2 _ _ _ _ _ _ _ _)) rfl ⟨by kernel_rfl,below_put8F hb3 (Nat.le_refl _) _ _ _ _ _ _ _ _⟩
 have e175:(op==175)=false:=by simpa using h175
 replace HA:=Lib.hid (nin_cons h175 HA.out)
 clear h175;go_upto_region 134 with fail
 clear e175
 rcases Decidable.em (op=176) with rfl | h176
 ·clear HA;go_wp2_with fail;refine (hf _ _ _ _ _ _ _ _ W).mono ?_;rintro e w2 ⟨rfl,hb2⟩;have k2:=k0.step hb2;obtain ⟨z0,z1,z2,z3,z4,z5,z6,z7⟩:=eightB_ k2;have fz:=k2.frozen;have hb3:=below_cut hb hb2 (Nat.le_refl _);clear hf;unfold formC;go_wp2_with fail;exact bodyPost_ret (refOf_end rfl _ rfl rfl (blk_put8F k2 _ _ _ _ _ _ _ _)) rfl ⟨by kernel_rfl,below_put8F hb3 (Nat.le_refl _) _ _ _ _ _ _ _ _⟩
 have e176:(op==176)=false:=by simpa using h176
 replace HA:=Lib.hid (nin_cons h176 HA.out)
 clear h176;go_upto_region 136 with fail
 clear e176
 rcases Decidable.em (op=177) with rfl | h177
 ·clear HA;go_wp2_with fail;refine (hf _ _ _ _ _ _ _ _ W).mono ?_;rintro e w2 ⟨rfl,hb2⟩;have k2:=k0.step hb2;obtain ⟨z0,z1,z2,z3,z4,z5,z6,z7⟩:=eightB_ k2;have fz:=k2.frozen;have hb3:=below_cut hb hb2 (Nat.le_refl _);clear hf;unfold formC;go_wp2_with fail;exact bodyPost_ret (refOf_end rfl _ rfl rfl (blk_put8F k2 _ _ _ _ _ _ _ _)) rfl ⟨by kernel_rfl,below_put8F hb3 (Nat.le_refl _) _ _ _ _ _ _ _ _⟩
 have e177:(op==177)=false:=by simpa using h177
 replace HA:=Lib.hid (nin_cons h177 HA.out)
 clear h177;go_upto_region 138 with fail
 clear e177
 rcases Decidable.em (op=178) with rfl | h178
 ·clear HA;go_wp2_with fail;refine (hf _ _ _ _ _ _ _ _ W).mono ?_;rintro e w2 ⟨rfl,hb2⟩;have k2:=k0.step hb2;obtain ⟨z0,z1,z2,z3,z4,z5,z6,z7⟩:=eightB_ k2;have fz:=k2.frozen;have hb3:=below_cut hb hb2 (Nat.le_refl _);clear hf;unfold formC;go_wp2_with fail;exact bodyPost_ret (refOf_end rfl _ rfl rfl (blk_put8F k2 _ _ _ _ _ _ _ _)) rfl ⟨by kernel_rfl,below_put8F hb3 (Nat.le_refl _) _ _ _ _ _ _ _ _⟩
 have e178:(op==178)=false:=by simpa using h178
 replace HA:=Lib.hid (nin_cons h178 HA.out)
 clear h178;go_upto_region 140 with fail
 clear e178
 rcases Decidable.em (op=179) with rfl | h179
 ·clear HA;go_wp2_with fail;refine (hf _ _ _ _ _ _ _ _ W).mono ?_;rintro e w2 ⟨rfl,hb2⟩;have k2:=k0.step hb2;obtain ⟨z0,z1,z2,z3,z4,z5,z6,z7⟩:=eightB_ k2;have fz:=k2.frozen;have hb3:=below_cut hb hb2 (Nat.le_refl _);clear hf;unfold formC;go_wp2_with fail;exact bodyPost_ret (refOf_end rfl _ rfl rfl (blk_put8F k2 _ _ _ _ _ _ _ _)) rfl ⟨by kernel_rfl,below_put8F hb3 (Nat.le_refl _) _ _ _ _ _ _ _ _⟩
 have e179:(op==179)=false:=by simpa using h179
 replace HA:=Lib.hid (nin_cons h179 HA.out)
 clear h179;go_upto_region 142 with fail
 clear e179
 rcases Decidable.em (op=194) with rfl | h194
 ·clear HA;go_wp2_with fail;refine (hf _ _ _ _ _ _ _ _ W).mono ?_;rintro e w2 ⟨rfl,hb2⟩;have k2:=k0.step hb2;obtain ⟨z0,z1,z2,z3,z4,z5,z6,z7⟩:=eightB_ k2;have fz:=k2.frozen;have hb3:=below_cut hb hb2 (Nat.le_refl _);clear hf;unfold formC;go_wp2_with fail;exact bodyPost_ret (refOf_end rfl _ rfl rfl (blk_put8F k2 _ _ _ _ _ _ _ _)) rfl ⟨by kernel_rfl,below_put8F hb3 (Nat.le_refl _) _ _ _ _ _ _ _ _⟩
 have e194:(op==194)=false:=by simpa using h194
 replace HA:=Lib.hid (nin_cons h194 HA.out)
 clear h194;go_upto_region 144 with fail
 clear e194
 rcases Decidable.em (op=195) with rfl | h195
 ·clear HA;go_wp2_with fail;refine (hf _ _ _ _ _ _ _ _ W).mono ?_;rintro e w2 ⟨rfl,hb2⟩;have k2:=k0.step hb2;obtain ⟨z0,z1,z2,z3,z4,z5,z6,z7⟩:=eightB_ k2;have fz:=k2.frozen;have hb3:=below_cut hb hb2 (Nat.le_refl _);clear hf;unfold formC;go_wp2_with fail;exact bodyPost_ret (refOf_end rfl _ rfl rfl (blk_put8F k2 _ _ _ _ _ _ _ _)) rfl ⟨by kernel_rfl,below_put8F hb3 (Nat.le_refl _) _ _ _ _ _ _ _ _⟩
 have e195:(op==195)=false:=by simpa using h195
 replace HA:=Lib.hid (nin_cons h195 HA.out)
 clear h195;go_upto_region 146 with fail
 clear e195
 rcases Decidable.em (op=196) with rfl | h196
 ·clear HA;go_wp2_with fail;refine (hf _ _ _ _ _ _ _ _ W).mono ?_;rintro e w2 ⟨rfl,hb2⟩;have k2:=k0.step hb2;obtain ⟨z0,z1,z2,z3,z4,z5,z6,z7⟩:=eightB_ k2;have fz:=k2.frozen;have hb3:=below_cut hb hb2 (Nat.le_refl _);clear hf;unfold formC;go_wp2_with fail;exact bodyPost_ret (refOf_end rfl _ rfl rfl (blk_put8F k2 _ _ _ _ _ _ _ _)) rfl ⟨by kernel_rfl,below_put8F hb3 (Nat.le_refl _) _ _ _ _ _ _ _ _⟩
 have e196:(op==196)=false:=by simpa using h196
 replace HA:=Lib.hid (nin_cons h196 HA.out)
 clear h196;go_upto_region 148 with fail
 clear e196
 rcases Decidable.em (op=197) with rfl | h197
 ·clear HA;go_wp2_with fail;refine (hf _ _ _ _ _ _ _ _ W).mono ?_;rintro e w2 ⟨rfl,hb2⟩;have k2:=k0.step hb2;obtain ⟨z0,z1,z2,z3,z4,z5,z6,z7⟩:=eightB_ k2;have fz:=k2.frozen;have hb3:=below_cut hb hb2 (Nat.le_refl _);clear hf;unfold formC;go_wp2_with fail;exact bodyPost_ret (refOf_end rfl _ rfl rfl (blk_put8F k2 _ _ _ _ _ _ _ _)) rfl ⟨by kernel_rfl,below_put8F hb3 (Nat.le_refl _) _ _ _ _ _ _ _ _⟩
 have e197:(op==197)=false:=by simpa using h197
 replace HA:=Lib.hid (nin_cons h197 HA.out)
 clear h197;go_upto_region 150 with fail
 clear e197
 rcases Decidable.em (op=198) with rfl | h198
 ·clear HA;go_wp2_with fail;refine (hf _ _ _ _ _ _ _ _ W).mono ?_;rintro e w2 ⟨rfl,hb2⟩;have k2:=k0.step hb2;obtain ⟨z0,z1,z2,z3,z4,z5,z6,z7⟩:=eightB_ k2;have fz:=k2.frozen;have hb3:=below_cut hb hb2 (Nat.le_refl _);clear hf;unfold formC;go_wp2_with fail;exact bodyPost_ret (refOf_end rfl _ rfl rfl (blk_put8F k2 _ _ _ _ _ _ _ _)) rfl ⟨by kernel_rfl,below_put8F hb3 (Nat.le_refl _) _ _ _ _ _ _ _ _⟩
 have e198:(op==198)=false:=by simpa using h198
 replace HA:=Lib.hid (nin_cons h198 HA.out)
 clear h198;go_upto_region 152 with fail
 clear e198
 rcases Decidable.em (op=199) with rfl | h199
 ·clear HA;go_wp2_with fail;refine (hf _ _ _ _ _ _ _ _ W).mono ?_;rintro e w2 ⟨rfl,hb2⟩;have k2:=k0.step hb2;obtain ⟨z0,z1,z2,z3,z4,z5,z6,z7⟩:=eightB_ k2;have fz:=k2.frozen;have hb3:=below_cut hb hb2 (Nat.le_refl _);clear hf;unfold formC;go_wp2_with fail;exact bodyPost_ret (refOf_end rfl _ rfl rfl (blk_put8F k2 _ _ _ _ _ _ _ _)) rfl ⟨by kernel_rfl,below_put8F hb3 (Nat.le_refl _) _ _ _ _ _ _ _ _⟩
 have e199:(op==199)=false:=by simpa using h199
 replace HA:=Lib.hid (nin_cons h199 HA.out)
 clear h199;go_upto_region 154 with fail
 clear e199
 rcases Decidable.em (op=200) with rfl | h200
 ·clear HA;go_wp2_with fail;refine (hf _ _ _ _ _ _ _ _ W).mono ?_;rintro e w2 ⟨rfl,hb2⟩;have k2:=k0.step hb2;obtain ⟨z0,z1,z2,z3,z4,z5,z6,z7⟩:=eightB_ k2;have fz:=k2.frozen;have hb3:=below_cut hb hb2 (Nat.le_refl _);clear hf;unfold formC;go_wp2_with fail;exact bodyPost_ret (refOf_end rfl _ rfl rfl (blk_put8F k2 _ _ _ _ _ _ _ _)) rfl ⟨by kernel_rfl,below_put8F hb3 (Nat.le_refl _) _ _ _ _ _ _ _ _⟩
 have e200:(op==200)=false:=by simpa using h200
 replace HA:=Lib.hid (nin_cons h200 HA.out)
 clear h200;go_upto_region 156 with fail
 clear e200
 rcases Decidable.em (op=201) with rfl | h201
 ·clear HA;go_wp2_with fail;refine (hf _ _ _ _ _ _ _ _ W).mono ?_;rintro e w2 ⟨rfl,hb2⟩;have k2:=k0.step hb2;obtain ⟨z0,z1,z2,z3,z4,z5,z6,z7⟩:=eightB_ k2;have fz:=k2.frozen;have hb3:=below_cut hb hb2 (Nat.le_refl _);clear hf;unfold formC;go_wp2_with fail;exact bodyPost_ret (refOf_end rfl _ rfl rfl (blk_put8F k2 _ _ _ _ _ _ _ _)) rfl ⟨by kernel_rfl,below_put8F hb3 (Nat.le_refl _) _ _ _ _ _ _ _ _⟩
 have e201:(op==201)=false:=by simpa using h201
 replace HA:=Lib.hid (nin_cons h201 HA.out)
 clear h201;go_upto_region 158 with fail
 clear e201
 rcases Decidable.em (op=202) with rfl | h202
 ·clear HA;go_wp2_with fail;refine (hf _ _ _ _ _ _ _ _ W).mono ?_;rintro e w2 ⟨rfl,hb2⟩;have k2:=k0.step hb2;obtain ⟨z0,z1,z2,z3,z4,z5,z6,z7⟩:=eightB_ k2;have fz:=k2.frozen;have hb3:=below_cut hb hb2 (Nat.le_refl _);clear hf;unfold formC;go_wp2_with fail;exact bodyPost_ret (refOf_end rfl _ rfl rfl (blk_put8F k2 _ _ _ _ _ _ _ _)) rfl ⟨by kernel_rfl,below_put8F hb3 (Nat.le_refl _) _ _ _ _ _ _ _ _⟩
 have e202:(op==202)=false:=by simpa using h202
 replace HA:=Lib.hid (nin_cons h202 HA.out)
 clear h202;go_upto_region 160 with fail
 clear e202
 rcases Decidable.em (op=203) with rfl | h203
 ·clear HA;go_wp2_with fail;refine (hf _ _ _ _ _ _ _ _ W).mono ?_;rintro e w2 ⟨rfl,hb2⟩;have k2:=k0.step hb2;obtain ⟨z0,z1,z2,z3,z4,z5,z6,z7⟩:=eightB_ k2;have fz:=k2.frozen;have hb3:=below_cut hb hb2 (Nat.le_refl _);clear hf;unfold formC;go_wp2_with fail;exact bodyPost_ret (refOf_end rfl _ rfl rfl (blk_put8F k2 _ _ _ _ _ _ _ _)) rfl ⟨by kernel_rfl,below_put8F hb3 (Nat.le_refl _) _ _ _ _ _ _ _ _⟩
 have e203:(op==203)=false:=by simpa using h203
 replace HA:=Lib.hid (nin_cons h203 HA.out)
 clear h203;go_upto_region 162 with fail
 clear e203
 rcases Decidable.em (op=204) with rfl | h204
 ·clear HA;go_wp2_with fail;refine (hf _ _ _ _ _ _ _ _ W).mono ?_;rintro e w2 ⟨rfl,hb2⟩;have k2:=k0.step hb2;obtain ⟨z0,z1,z2,z3,z4,z5,z6,z7⟩:=eightB_ k2;have fz:=k2.frozen;have hb3:=below_cut hb hb2 (Nat.le_refl _);clear hf;unfold formC;go_wp2_with fail;exact bodyPost_ret (refOf_end rfl _ rfl rfl (blk_put8F k2 _ _ _ _ _ _ _ _)) rfl ⟨by kernel_rfl,below_put8F hb3 (Nat.le_refl _) _ _ _ _ _ _ _ _⟩
 have e204:(op==204)=false:=by simpa using h204
 replace HA:=Lib.hid (nin_cons h204 HA.out)
 clear h204;go_upto_region 164 with fail
 clear e204
 rcases Decidable.em (op=205) with rfl | h205
 ·clear HA;go_wp2_with fail;refine (hf _ _ _ _ _ _ _ _ W).mono ?_;rintro e w2 ⟨rfl,hb2⟩;have k2:=k0.step hb2;obtain ⟨z0,z1,z2,z3,z4,z5,z6,z7⟩:=eightB_ k2;have fz:=k2.frozen;have hb3:=below_cut hb hb2 (Nat.le_refl _);clear hf;unfold formC;go_wp2_with fail;exact bodyPost_ret (refOf_end rfl _ rfl rfl (blk_put8F k2 _ _ _ _ _ _ _ _)) rfl ⟨by kernel_rfl,below_put8F hb3 (Nat.le_refl _) _ _ _ _ _ _ _ _⟩
 have e205:(op==205)=false:=by simpa using h205
 replace HA:=Lib.hid (nin_cons h205 HA.out)
 clear h205;go_upto_region 166 with fail
 clear e205
 rcases Decidable.em (op=245) with rfl | h245
 ·clear HA;go_wp2_with fail;refine (hf _ _ _ _ _ _ _ _ W).mono ?_;rintro e w2 ⟨rfl,hb2⟩;have k2:=k0.step hb2;obtain ⟨z0,z1,z2,z3,z4,z5,z6,z7⟩:=eightB_ k2;have fz:=k2.frozen;have hb3:=below_cut hb hb2 (Nat.le_refl _);clear hf;unfold formC;go_wp2_with fail;exact bodyPost_ret (refOf_end rfl _ rfl rfl (blk_put8F k2 _ _ _ _ _ _ _ _)) rfl ⟨by kernel_rfl,below_put8F hb3 (Nat.le_refl _) _ _ _ _ _ _ _ _⟩
 have e245:(op==245)=false:=by simpa using h245
 replace HA:=Lib.hid (nin_cons h245 HA.out)
 clear h245;go_upto_region 168 with fail
 clear e245
 rcases Decidable.em (op=246) with rfl | h246
 ·clear HA;go_wp2_with fail;refine (hf _ _ _ _ _ _ _ _ W).mono ?_;rintro e w2 ⟨rfl,hb2⟩;have k2:=k0.step hb2;obtain ⟨z0,z1,z2,z3,z4,z5,z6,z7⟩:=eightB_ k2;have fz:=k2.frozen;have hb3:=below_cut hb hb2 (Nat.le_refl _);clear hf;unfold formC;go_wp2_with fail;exact bodyPost_ret (refOf_end rfl _ rfl rfl (blk_put8F k2 _ _ _ _ _ _ _ _)) rfl ⟨by kernel_rfl,below_put8F hb3 (Nat.le_refl _) _ _ _ _ _ _ _ _⟩
 have e246:(op==246)=false:=by simpa using h246
 replace HA:=Lib.hid (nin_cons h246 HA.out)
 clear h246;go_upto_region 170 with fail
 clear e246
 rcases Decidable.em (op=247) with rfl | h247
 ·clear HA;go_wp2_with fail;refine (hf _ _ _ _ _ _ _ _ W).mono ?_;rintro e w2 ⟨rfl,hb2⟩;have k2:=k0.step hb2;obtain ⟨z0,z1,z2,z3,z4,z5,z6,z7⟩:=eightB_ k2;have fz:=k2.frozen;have hb3:=below_cut hb hb2 (Nat.le_refl _);clear hf;unfold formC;go_wp2_with fail;exact bodyPost_ret (refOf_end rfl _ rfl rfl (blk_put8F k2 _ _ _ _ _ _ _ _)) rfl ⟨by kernel_rfl,below_put8F hb3 (Nat.le_refl _) _ _ _ _ _ _ _ _⟩
 have e247:(op==247)=false:=by simpa using h247
 replace HA:=Lib.hid (nin_cons h247 HA.out)
 clear h247;go_upto_region 172 with fail
 clear e247
 rcases Decidable.em (op=248) with rfl | h248
 ·clear HA;go_wp2_with fail;refine (hf _ _ _ _ _ _ _ _ W).mono ?_;rintro e w2 ⟨rfl,hb2⟩;have k2:=k0.step hb2;obtain ⟨z0,z1,z2,z3,z4,z5,z6,z7⟩:=eightB_ k2;have fz:=k2.frozen;have hb3:=below_cut hb hb2 (Nat.le_refl _);clear hf;unfold formC;go_wp2_with fail;exact bodyPost_ret (refOf_end rfl _ rfl rfl (blk_put8F k2 _ _ _ _ _ _ _ _)) rfl ⟨by kernel_rfl,below_put8F hb3 (Nat.le_refl _) _ _ _ _ _ _ _ _⟩
 have e248:(op==248)=false:=by simpa using h248
 replace HA:=Lib.hid (nin_cons h248 HA.out)
 clear h248;go_upto_region 174 with fail
 clear e248
 rcases Decidable.em (op=249) with rfl | h249
 ·clear HA;go_wp2_with fail;refine (hf _ _ _ _ _ _ _ _ W).mono ?_;rintro e w2 ⟨rfl,hb2⟩;have k2:=k0.step hb2;obtain ⟨z0,z1,z2,z3,z4,z5,z6,z7⟩:=eightB_ k2;have fz:=k2.frozen;have hb3:=below_cut hb hb2 (Nat.le_refl _);clear hf;unfold formC;go_wp2_with fail;exact bodyPost_ret (refOf_end rfl _ rfl rfl (blk_put8F k2 _ _ _ _ _ _ _ _)) rfl ⟨by kernel_rfl,below_put8F hb3 (Nat.le_refl _) _ _ _ _ _ _ _ _⟩
 have e249:(op==249)=false:=by simpa using h249
 replace HA:=Lib.hid (nin_cons h249 HA.out)
 clear h249;go_upto_region 176 with fail
 clear e249
 rcases Decidable.em (op=250) with rfl | h250
 ·clear HA;go_wp2_with fail;refine (hf _ _ _ _ _ _ _ _ W).mono ?_;rintro e w2 ⟨rfl,hb2⟩;have k2:=k0.step hb2;obtain ⟨z0,z1,z2,z3,z4,z5,z6,z7⟩:=eightB_ k2;have fz:=k2.frozen;have hb3:=below_cut hb hb2 (Nat.le_refl _);clear hf;unfold formC;go_wp2_with fail;exact bodyPost_ret (refOf_end rfl _ rfl rfl (blk_put8F k2 _ _ _ _ _ _ _ _)) rfl ⟨by kernel_rfl,below_put8F hb3 (Nat.le_refl _) _ _ _ _ _ _ _ _⟩
 have e250:(op==250)=false:=by simpa using h250
 replace HA:=Lib.hid (nin_cons h250 HA.out)
 clear h250;go_upto_region 178 with fail
 clear e250
 rcases Decidable.em (op=251) with rfl | h251
 ·clear HA;go_wp2_with fail;refine (hf _ _ _ _ _ _ _ _ W).mono ?_;rintro e w2 ⟨rfl,hb2⟩;have k2:=k0.step hb2;obtain ⟨z0,z1,z2,z3,z4,z5,z6,z7⟩:=eightB_ k2;have fz:=k2.frozen;have hb3:=below_cut hb hb2 (Nat.le_refl _);clear hf;unfold formC;go_wp2_with fail;exact bodyPost_ret (refOf_end rfl _ rfl rfl (blk_put8F k2 _ _ _ _ _ _ _ _)) rfl ⟨by kernel_rfl,below_put8F hb3 (Nat.le_refl _) _ _ _ _ _ _ _ _⟩
 have e251:(op==251)=false:=by simpa using h251
 replace HA:=Lib.hid (nin_cons h251 HA.out)
 clear h251;go_upto_region 180 with fail
 clear e251
 rcases Decidable.em (op=252) with rfl | h252
 ·clear HA;go_wp2_with fail;refine (hf _ _ _ _ _ _ _ _ W).mono ?_;rintro e w2 ⟨rfl,hb2⟩;have k2:=k0.step hb2;obtain ⟨z0,z1,z2,z3,z4,z5,z6,z7⟩:=eightB_ k2;have fz:=k2.frozen;have hb3:=below_cut hb hb2 (Nat.le_refl _);clear hf;unfold formC;go_wp2_with fail;exact bodyPost_ret (refOf_end rfl _ rfl rfl (blk_put8F k2 _ _ _ _ _ _ _ _)) rfl ⟨by kernel_rfl,below_put8F hb3 (Nat.le_refl _) _ _ _ _ _ _ _ _⟩
 have e252:(op==252)=false:=by simpa using h252
 replace HA:=Lib.hid (nin_cons h252 HA.out)
 clear h252;go_upto_region 182 with fail
 clear e252
 rcases Decidable.em (op=253) with rfl | h253
 ·clear HA;go_wp2_with fail;refine (hf _ _ _ _ _ _ _ _ W).mono ?_;rintro e w2 ⟨rfl,hb2⟩;have k2:=k0.step hb2;obtain ⟨z0,z1,z2,z3,z4,z5,z6,z7⟩:=eightB_ k2;have fz:=k2.frozen;have hb3:=below_cut hb hb2 (Nat.le_refl _);clear hf;unfold formC;go_wp2_with fail;exact bodyPost_ret (refOf_end rfl _ rfl rfl (blk_put8F k2 _ _ _ _ _ _ _ _)) rfl ⟨by kernel_rfl,below_put8F hb3 (Nat.le_refl _) _ _ _ _ _ _ _ _⟩
 have e253:(op==253)=false:=by simpa using h253
 replace HA:=Lib.hid (nin_cons h253 HA.out)
 clear h253;go_upto_region 184 with fail
 clear e253
 rcases Decidable.em (op=254) with rfl | h254
 ·clear HA;go_wp2_with fail;refine (hf _ _ _ _ _ _ _ _ W).mono ?_;rintro e w2 ⟨rfl,hb2⟩;have k2:=k0.step hb2;obtain ⟨z0,z1,z2,z3,z4,z5,z6,z7⟩:=eightB_ k2;have fz:=k2.frozen;have hb3:=below_cut hb hb2 (Nat.le_refl _);clear hf;unfold formC;go_wp2_with fail;exact bodyPost_ret (refOf_end rfl _ rfl rfl (blk_put8F k2 _ _ _ _ _ _ _ _)) rfl ⟨by kernel_rfl,below_put8F hb3 (Nat.le_refl _) _ _ _ _ _ _ _ _⟩
 have e254:(op==254)=false:=by simpa using h254
 replace HA:=Lib.hid (nin_cons h254 HA.out)
 clear h254;go_upto_region 186 with fail
 clear e254
 rcases Decidable.em (op=255) with rfl | h255
 ·clear HA;go_wp2_with fail;refine (hf _ _ _ _ _ _ _ _ W).mono ?_;rintro e w2 ⟨rfl,hb2⟩;have k2:=k0.step hb2;obtain ⟨z0,z1,z2,z3,z4,z5,z6,z7⟩:=eightB_ k2;have fz:=k2.frozen;have hb3:=below_cut hb hb2 (Nat.le_refl _);clear hf;unfold formC;go_wp2_with fail;exact bodyPost_ret (refOf_end rfl _ rfl rfl (blk_put8F k2 _ _ _ _ _ _ _ _)) rfl ⟨by kernel_rfl,below_put8F hb3 (Nat.le_refl _) _ _ _ _ _ _ _ _⟩
 have e255:(op==255)=false:=by simpa using h255
 replace HA:=Lib.hid (nin_cons h255 HA.out)
 clear h255;go_upto_region 188 with fail
 clear e255;have hn:=ref_none HA.out;have hv:ofV op=form0∧ofB op=false:=by unfold ofV ofB;rw [hn];exact ⟨rfl,rfl⟩
 obtain ⟨z0,z1,z2,z3,z4,z5,z6,z7⟩:=eightB_ k0;have fz:=k0.frozen;clear hn HA hf;replace hv:=Lib.hid hv
 go_wp2_with fail;exact bodyPost_ret (refOf_end rfl _ rfl rfl (blk_put8F k0 _ _ _ _ _ _ _ _)) rfl ⟨by rw [hv.out.1,hv.out.2];first | done | rfl,below_put8F hb (Nat.le_refl _) _ _ _ _ _ _ _ _⟩
end Go.Proofs.YteelmakkogdieaaGreatDoor
