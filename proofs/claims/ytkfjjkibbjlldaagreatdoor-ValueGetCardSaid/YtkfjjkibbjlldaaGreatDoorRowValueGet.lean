/- The statement of ValueGet: for every input the law answers true, and its arguments read as they did. -/
import Derived.Carry
import Derived.Test.YtkfjjkibbjlldaaGreatDoorCVH
import Derived.Test.YtkfjjkibbjlldaaGreatDoorCTV
import Derived.Test.YtkfjjkibbjlldaaGreatDoorQlLawGet
set_option maxRecDepth 100000
namespace Go.Proofs.YtkfjjkibbjlldaaGreatDoor
open Go.ChangeShapes Go.WideShapes Go.ChangeAt Go.RowKit Go.ChangeMaps
theorem valueGet_lifted (os:Os) (started:os.Started) (H:Type) (enc:TypeId × Value→H) :
  ReturnsInHanded {} Tryz.checked os 6 .any (fun w args=>(Rows.valueGetSpec.pre enc Tryz.prog Tryz.f6 Rows.valueGetRow.domain false w args∧laidMetH Tryz.prog tabs3 w)∧sizedMet enc Tryz.prog Tryz.f6 (OpenSpec.ofChange Rows.valueGetSpec) false w args)
   (Rows.valueGetSpec.post enc Tryz.prog Tryz.f6 false true false false):=by
 refine law_lifted_laid (C:=Tryz.checked) own_knob started (by kernel_rfl) Tryz.func6 laid_out (by kernel_rfl) (tb:=4) rfl Tryz.underlying4 rfl ?_
  (ChangeSpec.witness_shaped (enc:=enc) (C:=Tryz.checked) (os:=os) (X:=fun w _=>laidMetH Tryz.prog tabs3 w) false (World.doorLaid Tryz.prog 400 os) #[.agg #[.int .u32 0,.int .u32 0,.slice none 0 0],.int .u32 0,.slice none 0 0,.slice none 0 0] 8 rfl (World.shaped_of_RefB (by kernel_rfl) (by kernel_rfl)) (by kernel_rfl) (by kernel_rfl) (by kernel_rfl) (door_met os _)) ?_
 ·intro ds h
  match ds,h with
  | [d0,d1,d2,d3],_=>exact ⟨rfl,rfl,rfl⟩
 ·intro W base args ds p hval hA hsz hlt hL;rw [Tryz.params6] at hA hval hsz;obtain ⟨v0,v1,v2,v3,d0,d1,d2,d3,p0,p1,p2,p3,rfl,rfl,rfl,h0,h1,h2,h3⟩:=trodAll_four hA;obtain ⟨gen,bound,A,n,c,ls,rfl,hn,hM,hN⟩:=open_module (hval 0 _ v0 rfl rfl) h0 (fun q hq=>hlt q (by simp [hq])) (sized_atm hsz (j:=0) rfl rfl)
  obtain ⟨x1,rfl,rfl,rfl,wx1⟩:=open_int Tryz.underlying22 (hval 1 _ v1 rfl rfl) h1;have y1:=wf_u32 wx1;obtain ⟨A2,n2,c2,l2,rfl,hnc2,hc2,hwf2,hr2⟩:=open_reads Tryz.underlying26 Tryz.underlying22 (by kernel_rfl) (bytes:=4) (by kernel_rfl) (hval 2 _ v2 rfl rfl) h2 (fun x hx=>hlt x (by simp [hx])) (fun elems spare hd=>sized_slice hsz (j:=2) rfl (by rw [hd];rfl) Tryz.underlying26)
  have u2:=under_u32 hwf2;obtain ⟨A3,n3,c3,l3,rfl,hnc3,hc3,hwf3,hr3⟩:=open_reads Tryz.underlying26 Tryz.underlying22 (by kernel_rfl) (bytes:=4) (by kernel_rfl) (hval 3 _ v3 rfl rfl) h3 (fun x hx=>hlt x (by simp [hx])) (fun elems spare hd=>sized_slice hsz (j:=3) rfl (by rw [hd];rfl) Tryz.underlying26)
  have u3:=under_u32 hwf3;exact law_qget gen bound A n c ls x1 A2 n2 c2 l2 A3 n3 c3 l3 W hM hn (pow_of_laid hL) (errs_of_laid hL) (fun x hx=>⟨(hN x hx).1,(hN x hx).2.1⟩) hnc2 (by omega) hr2 u2 hnc3 (by omega) hr3 u3
theorem valueGet_said:Rows.ValueGetSaid :=
 OpenClaim.holds_of_wide 6 Tryz.f6 rfl rfl rfl rfl rfl rfl rfl ⟨rfl,rfl,rfl,rfl,rfl⟩ rfl rfl rfl rfl rfl (by kernel_rfl) Tryz.func6 (by kernel_rfl)
  (of_decide_eq_true (by kernel_rfl)) (by unfold Func.isWrapper;rw [if_neg (of_decide_eq_false (by kernel_rfl))];exact ⟨rfl,rfl⟩)
  (fun os started H enc _=>valueGet_lifted os started H enc)
theorem valueGet_holds:Rows.ValueGetCardSaid :=
 Claim7.holds_tied_plain_at .later [] [.data, .data, .data, .sentinel, .sentinel] true (true, "68d7aad170c9fd35c1fb46d1ec05e49d65fc061e030df3ac93801d20399168a3") true
  valueGet_said (fun _ h=>by cases h) (by kernel_rfl) (fun _ h=>by cases h) valueGet_row_tie rfl ⟨rfl,rfl⟩ (by kernel_rfl) rfl
  (fun f fn hf hfn=>by
   obtain rfl : f = 6 := Option.some.inj ((show Tryz.prog.funcNamed "intaglio/intagliolaw12.ValueGet" = some 6 by kernel_rfl).symm.trans hf) |>.symm
   obtain rfl:fn=Tryz.f6:=(Option.some.inj (Tryz.func6.symm.trans hfn)).symm;exact ⟨by kernel_rfl,fun j t ht=>by
    rw [Tryz.params6] at ht;have hj:t=25∨t=22∨t=26:=by
     rcases j with _ | _ | _ | _ | j
     ·left;simpa using ht.symm
     ·right;left;simpa using ht.symm
     ·right;right;simpa using ht.symm
     ·right;right;simpa using ht.symm
     ·simp at ht
    rcases hj with rfl | rfl | rfl
    ·exact (show Tryz.prog.wantsStandIn 25=false by kernel_rfl)
    ·exact (show Tryz.prog.wantsStandIn 22=false by kernel_rfl)
    ·exact (show Tryz.prog.wantsStandIn 26=false by kernel_rfl)⟩)
  (by kernel_rfl)
end Go.Proofs.YtkfjjkibbjlldaaGreatDoor
