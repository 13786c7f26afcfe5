/- The statement of ValuePut: for every input the law answers true, and its arguments read as they did. -/
import Derived.Carry
import Derived.Test.YtkfjjkibbjlldaaGreatDoorCVH
import Derived.Test.YtkfjjkibbjlldaaGreatDoorCTV
import Derived.Test.YtkfjjkibbjlldaaGreatDoorQlLawPut
set_option maxRecDepth 100000
namespace Go.Proofs.YtkfjjkibbjlldaaGreatDoor
open Go.ChangeShapes Go.WideShapes Go.ChangeAt Go.RowKit Go.ChangeMaps
theorem trodAll_n {H:Type} {enc:TypeId × Value→H} {P:Program} {w:World} {base:Nat} {spare:Nat→Bool} {held:Bool} {t0 t1 t2 t3 t4:TypeId} {args:Array Value} {ds:List (DataW H)} {ps:List MemPlace} (h:DataW.TrodAll enc P w base spare held [t0,t1,t2,t3,t4] args.toList ds ps) :
  ∃ v0 v1 v2 v3 v4 d0 d1 d2 d3 d4 p0 p1 p2 p3 p4,args=#[v0,v1,v2,v3,v4]∧ds=[d0,d1,d2,d3,d4]∧ps=p0++p1++p2++p3++p4∧DataW.Trod enc P w base spare held t0 v0 d0 p0∧DataW.Trod enc P w base spare held t1 v1 d1 p1∧DataW.Trod enc P w base spare held t2 v2 d2 p2∧DataW.Trod enc P w base spare held t3 v3 d3 p3∧DataW.Trod enc P w base spare held t4 v4 d4 p4:=by
 obtain ⟨v0,r0,d0,s0,p0,q0,hargs,rfl,rfl,h0,g0⟩:=trodAll_cons h;obtain ⟨v1,r1,d1,s1,p1,q1,rfl,rfl,rfl,h1,g1⟩:=trodAll_cons g0;obtain ⟨v2,r2,d2,s2,p2,q2,rfl,rfl,rfl,h2,g2⟩:=trodAll_cons g1;obtain ⟨v3,r3,d3,s3,p3,q3,rfl,rfl,rfl,h3,g3⟩:=trodAll_cons g2;obtain ⟨v4,r4,d4,s4,p4,q4,rfl,rfl,rfl,h4,g4⟩:=trodAll_cons g3;obtain ⟨rfl,rfl,rfl⟩:=trodAll_nil g4;exact ⟨v0,v1,v2,v3,v4,d0,d1,d2,d3,d4,p0,p1,p2,p3,p4,by cases args;simp_all,rfl,by simp,h0,h1,h2,h3,h4⟩
theorem valuePut_lifted (os:Os) (started:os.Started) (H:Type) (enc:TypeId × Value→H) :
  ReturnsInHanded {} Tryz.checked os 7 .any (fun w args=>(Rows.valuePutSpec.pre enc Tryz.prog Tryz.f7 Rows.valuePutRow.domain false w args∧laidMetH Tryz.prog tabs3 w)∧sizedMet enc Tryz.prog Tryz.f7 (OpenSpec.ofChange Rows.valuePutSpec) false w args)
   (Rows.valuePutSpec.post enc Tryz.prog Tryz.f7 false true false false):=by
 refine law_lifted_laid (C:=Tryz.checked) own_knob started (by kernel_rfl) Tryz.func7 laid_out (by kernel_rfl) (tb:=4) rfl Tryz.underlying4 rfl ?_
  (ChangeSpec.witness_shaped (enc:=enc) (C:=Tryz.checked) (os:=os) (X:=fun w _=>laidMetH Tryz.prog tabs3 w) false (World.doorLaid Tryz.prog 400 os) #[.agg #[.int .u32 0,.int .u32 0,.slice none 0 0],.int .u32 0,.slice none 0 0,.slice none 0 0,.slice none 0 0] 8 rfl (World.shaped_of_RefB (by kernel_rfl) (by kernel_rfl)) (by kernel_rfl) (by kernel_rfl) (by kernel_rfl) (door_met os _)) ?_
 ·intro ds h
  match ds,h with
  | [d0,d1,d2,d3,d4],_=>exact ⟨rfl,rfl,rfl⟩
 ·intro W base args ds p hval hA hsz hlt hL;rw [Tryz.params7] at hA hval hsz;obtain ⟨v0,v1,v2,v3,v4,d0,d1,d2,d3,d4,p0,p1,p2,p3,p4,rfl,rfl,rfl,h0,h1,h2,h3,h4⟩:=trodAll_n hA;obtain ⟨gen,bound,A,n,c,ls,rfl,hn,hM,hN⟩:=open_module (hval 0 _ v0 rfl rfl) h0 (fun q hq=>hlt q (by simp [hq])) (sized_atm hsz (j:=0) rfl rfl)
  obtain ⟨x1,rfl,rfl,rfl,wx1⟩:=open_int Tryz.underlying22 (hval 1 _ v1 rfl rfl) h1;have y1:=wf_u32 wx1;obtain ⟨A2,n2,c2,l2,rfl,hnc2,hc2,hwf2,hr2⟩:=open_reads Tryz.underlying26 Tryz.underlying22 (by kernel_rfl) (bytes:=4) (by kernel_rfl) (hval 2 _ v2 rfl rfl) h2 (fun x hx=>hlt x (by simp [hx])) (fun elems spare hd=>sized_slice hsz (j:=2) rfl (by rw [hd];rfl) Tryz.underlying26)
  have u2:=under_u32 hwf2;obtain ⟨A3,n3,c3,l3,rfl,hnc3,hc3,hwf3,hr3⟩:=open_reads Tryz.underlying26 Tryz.underlying22 (by kernel_rfl) (bytes:=4) (by kernel_rfl) (hval 3 _ v3 rfl rfl) h3 (fun x hx=>hlt x (by simp [hx])) (fun elems spare hd=>sized_slice hsz (j:=3) rfl (by rw [hd];rfl) Tryz.underlying26)
  have u3:=under_u32 hwf3;obtain ⟨A4,n4,c4,l4,rfl,hnc4,hc4,hwf4,hr4⟩:=open_reads Tryz.underlying26 Tryz.underlying22 (by kernel_rfl) (bytes:=4) (by kernel_rfl) (hval 4 _ v4 rfl rfl) h4 (fun x hx=>hlt x (by simp [hx])) (fun elems spare hd=>sized_slice hsz (j:=4) rfl (by rw [hd];rfl) Tryz.underlying26)
  have u4:=under_u32 hwf4;exact law_qput gen bound A n c ls x1 A2 n2 c2 l2 A3 n3 c3 l3 A4 n4 c4 l4 W hM hn (pow_of_laid hL) (errs_of_laid hL) (fun x hx=>⟨(hN x hx).1,(hN x hx).2.1⟩) hnc2 (by omega) hr2 u2 hnc3 (by omega) hr3 u3 hnc4 (by omega) hr4 u4
theorem valuePut_said:Rows.ValuePutSaid :=
 OpenClaim.holds_of_wide 7 Tryz.f7 rfl rfl rfl rfl rfl rfl rfl ⟨rfl,rfl,rfl,rfl,rfl⟩ rfl rfl rfl rfl rfl (by kernel_rfl) Tryz.func7 (by kernel_rfl)
  (of_decide_eq_true (by kernel_rfl)) (by unfold Func.isWrapper;rw [if_neg (of_decide_eq_false (by kernel_rfl))];exact ⟨rfl,rfl⟩)
  (fun os started H enc _=>valuePut_lifted os started H enc)
theorem valuePut_holds:Rows.ValuePutCardSaid :=
 Claim7.holds_tied_plain_at .later [] [.data, .data, .data, .sentinel, .sentinel] true (true, "68d7aad170c9fd35c1fb46d1ec05e49d65fc061e030df3ac93801d20399168a3") true
  valuePut_said (fun _ h=>by cases h) (by kernel_rfl) (fun _ h=>by cases h) valuePut_row_tie rfl ⟨rfl,rfl⟩ (by kernel_rfl) rfl
  (fun f fn hf hfn=>by
   obtain rfl : f = 7 := Option.some.inj ((show Tryz.prog.funcNamed "intaglio/intagliolaw12.ValuePut" = some 7 by kernel_rfl).symm.trans hf) |>.symm
   obtain rfl:fn=Tryz.f7:=(Option.some.inj (Tryz.func7.symm.trans hfn)).symm;exact ⟨by kernel_rfl,fun j t ht=>by
    rw [Tryz.params7] at ht;have hj:t=25∨t=22∨t=26:=by
     rcases j with _ | _ | _ | _ | _ | j
     ·left;simpa using ht.symm
     ·right;left;simpa using ht.symm
     ·right;right;simpa using ht.symm
     ·right;right;simpa using ht.symm
     ·right;right;simpa using ht.symm
     ·simp at ht
    rcases hj with rfl | rfl | rfl
    ·exact (show Tryz.prog.wantsStandIn 25=false by kernel_rfl)
    ·exact (show Tryz.prog.wantsStandIn 22=false by kernel_rfl)
    ·exact (show Tryz.prog.wantsStandIn 26=false by kernel_rfl)⟩)
  (by kernel_rfl)
end Go.Proofs.YtkfjjkibbjlldaaGreatDoor
