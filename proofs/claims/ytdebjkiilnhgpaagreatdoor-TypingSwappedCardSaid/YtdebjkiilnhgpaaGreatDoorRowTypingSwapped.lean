/- The statement of TypingSwapped: for every input the law answers true, and its arguments read as they did. -/
import Derived.Carry
import Derived.Test.YtdebjkiilnhgpaaGreatDoorCTU
import Derived.Test.YtdebjkiilnhgpaaGreatDoorCTV
import Derived.Test.YtdebjkiilnhgpaaGreatDoorCVS
set_option maxRecDepth 100000
namespace Go.Proofs.YtdebjkiilnhgpaaGreatDoor
open Go.ChangeShapes Go.WideShapes Go.ChangeAt Go.RowKit Go.ChangeMaps
theorem typingSwapped_lifted (os:Os) (started:os.Started) (H:Type) (enc:TypeId × Value→H) :
  ReturnsInHanded {} Tryz.checked os 4 .any (fun w args=>(Rows.typingSwappedSpec.pre enc Tryz.prog Tryz.f4 Rows.typingSwappedRow.domain false w args∧laidMetH Tryz.prog tabs3 w)∧sizedMet enc Tryz.prog Tryz.f4 (OpenSpec.ofChange Rows.typingSwappedSpec) false w args)
   (Rows.typingSwappedSpec.post enc Tryz.prog Tryz.f4 false true false false):=by
 refine law_lifted_laid (C:=Tryz.checked) own_knob started (by kernel_rfl) Tryz.func4 laid_out (by kernel_rfl) (tb:=4) rfl Tryz.underlying4 rfl ?_
  (ChangeSpec.witness_shaped (enc:=enc) (C:=Tryz.checked) (os:=os) (X:=fun w _=>laidMetH Tryz.prog tabs3 w) false (World.doorLaid Tryz.prog 400 os) #[.agg #[.int .u32 0,.int .u32 0,.slice none 0 0],.int .i64 0,.int .i64 0,.int .u32 0] 8 rfl (World.shaped_of_RefB (by kernel_rfl) (by kernel_rfl)) (by kernel_rfl) (by kernel_rfl) (by kernel_rfl) (door_met os _)) ?_
 ·intro ds h
  match ds,h with
  | [d0,d1,d2,d3],_=>exact ⟨rfl,rfl,rfl⟩
 ·intro W base args ds p hval hA hsz hlt hL;rw [Tryz.params4] at hA hval hsz;obtain ⟨v0,v1,v2,v3,d0,d1,d2,d3,p0,p1,p2,p3,rfl,rfl,rfl,h0,h1,h2,h3⟩:=trodAll_four hA;obtain ⟨gen,bound,A,n,c,ls,rfl,hn,hM,hN⟩:=open_module (hval 0 _ v0 rfl rfl) h0 (fun q hq=>hlt q (by simp [hq])) (sized_atm hsz (j:=0) rfl rfl)
  obtain ⟨x1,rfl,rfl,rfl,wx1⟩:=open_int Tryz.underlying3 (hval 1 _ v1 rfl rfl) h1;have y1:=wf_i64 wx1;obtain ⟨x2,rfl,rfl,rfl,wx2⟩:=open_int Tryz.underlying3 (hval 2 _ v2 rfl rfl) h2;have y2:=wf_i64 wx2;obtain ⟨x3,rfl,rfl,rfl,wx3⟩:=open_int Tryz.underlying22 (hval 3 _ v3 rfl rfl) h3;have y3:=wf_u32 wx3;exact law_swapped gen bound A n c ls x1 x2 x3 W hM hn (pow_of_laid hL) (fun x hx=>⟨(hN x hx).1,(hN x hx).2.1⟩) ⟨y3.1,by have:=y3.2;omega⟩
theorem typingSwapped_said:Rows.TypingSwappedSaid :=
 OpenClaim.holds_of_wide 4 Tryz.f4 rfl rfl rfl rfl rfl rfl rfl ⟨rfl,rfl,rfl,rfl,rfl⟩ rfl rfl rfl rfl rfl (by kernel_rfl) Tryz.func4 (by kernel_rfl)
  (of_decide_eq_true (by kernel_rfl)) (by unfold Func.isWrapper;rw [if_neg (of_decide_eq_false (by kernel_rfl))];exact ⟨rfl,rfl⟩)
  (fun os started H enc _=>typingSwapped_lifted os started H enc)
theorem typingSwapped_holds:Rows.TypingSwappedCardSaid :=
 Claim7.holds_tied_plain_at .later [] [.data, .data, .data] true (true, "34ac130a438f0189c34e3d92b2f564fc9f7de5a320cfaecd236fffeddf2dbbb1") false
  typingSwapped_said (fun _ h=>by cases h) (by kernel_rfl) (fun _ h=>by cases h) typingSwapped_row_tie rfl ⟨rfl,rfl⟩ (by kernel_rfl) rfl
  (fun f fn hf hfn=>by
   obtain rfl : f = 4 := Option.some.inj ((show Tryz.prog.funcNamed "intaglio/intagliolaw18.TypingSwapped" = some 4 by kernel_rfl).symm.trans hf) |>.symm
   obtain rfl:fn=Tryz.f4:=(Option.some.inj (Tryz.func4.symm.trans hfn)).symm;exact ⟨by kernel_rfl,fun j t ht=>by
    rw [Tryz.params4] at ht;have hj:t=25∨t=3∨t=22:=by
     rcases j with _ | _ | _ | _ | j
     ·left;simpa using ht.symm
     ·right;left;simpa using ht.symm
     ·right;left;simpa using ht.symm
     ·right;right;simpa using ht.symm
     ·simp at ht
    rcases hj with rfl | rfl | rfl
    ·exact (show Tryz.prog.wantsStandIn 25=false by kernel_rfl)
    ·exact (show Tryz.prog.wantsStandIn 3=false by kernel_rfl)
    ·exact (show Tryz.prog.wantsStandIn 22=false by kernel_rfl)⟩)
  (by kernel_rfl)
end Go.Proofs.YtdebjkiilnhgpaaGreatDoor
