/- The statement of ValueZero: for every input the law answers true, and its arguments read as they did. -/
import Derived.Carry
import Derived.Test.YteelmakkogdieaaGreatDoorCVH
import Derived.Test.YteelmakkogdieaaGreatDoorCTV
import Derived.Test.YteelmakkogdieaaGreatDoorQlZero
import Derived.Test.YteelmakkogdieaaGreatDoorJoinValueZero
import Derived.Test.YteelmakkogdieaaGreatDoorJoinBValueZero
set_option maxRecDepth 100000
namespace Go.Proofs.YteelmakkogdieaaGreatDoor
open Go.ChangeShapes Go.WideShapes Go.ChangeAt Go.RowKit Go.ChangeMaps
theorem valueZero_lifted (os:Os) (started:os.Started) (H:Type) (enc:TypeId × Value→H) :
  ReturnsInHanded {} Tryz.checked os 10 .any (fun w args=>(Rows.valueZeroSpec.pre enc Tryz.prog Tryz.f10 Rows.valueZeroRow.domain false w args∧laidMetH Tryz.prog tabs3 w)∧sizedMet enc Tryz.prog Tryz.f10 (OpenSpec.ofChange Rows.valueZeroSpec) false w args)
   (Rows.valueZeroSpec.post enc Tryz.prog Tryz.f10 false true false false):=by
 refine law_lifted_laid (C:=Tryz.checked) own_knob started (by kernel_rfl) Tryz.func10 laid_out (by kernel_rfl) (tb:=4) rfl Tryz.underlying4 rfl ?_
  (ChangeSpec.witness_shaped (enc:=enc) (C:=Tryz.checked) (os:=os) (X:=fun w _=>laidMetH Tryz.prog tabs3 w) false (World.doorLaid Tryz.prog 400 os) #[.agg #[.int .u32 0,.int .u32 0,.slice none 0 0],.int .u32 0,.int .i64 0] 8 rfl (World.shaped_of_RefB (by kernel_rfl) (by kernel_rfl)) (by kernel_rfl) (by kernel_rfl) (by kernel_rfl) (door_met os _)) ?_
 ·intro ds h
  match ds,h with
  | [d0,d1,d2],_=>exact ⟨rfl,rfl,rfl⟩
 ·intro W base args ds p hval hA hsz hlt hL;rw [Tryz.params10] at hA hval hsz;obtain ⟨v0,v1,v2,d0,d1,d2,p0,p1,p2,rfl,rfl,rfl,h0,h1,h2⟩:=trodAll_three hA;obtain ⟨gen,bound,A,n,c,ls,rfl,hn,hM,hN⟩:=open_module (hval 0 _ v0 rfl rfl) h0 (fun q hq=>hlt q (by simp [hq])) (sized_atm hsz (j:=0) rfl rfl)
  obtain ⟨x1,rfl,rfl,rfl,wx1⟩:=open_int Tryz.underlying22 (hval 1 _ v1 rfl rfl) h1;have y1:=wf_u32 wx1;obtain ⟨x2,rfl,rfl,rfl,wx2⟩:=open_int Tryz.underlying3 (hval 2 _ v2 rfl rfl) h2;exact law_qzero gen bound A n c ls x1 x2 W hM hn (pow_of_laid hL) (errs_of_laid hL) (fun x hx=>⟨(hN x hx).1,(hN x hx).2.1⟩)
theorem valueZero_said:Rows.ValueZeroSaid :=
 OpenClaim.holds_of_wide 10 Tryz.f10 rfl rfl rfl rfl rfl rfl rfl ⟨rfl,rfl,rfl,rfl,rfl⟩ rfl rfl rfl rfl rfl (by kernel_rfl) Tryz.func10 joinedValueZero
  (of_decide_eq_true (by kernel_rfl)) (by unfold Func.isWrapper;rw [if_neg (of_decide_eq_false (by kernel_rfl))];exact ⟨rfl,rfl⟩)
  (fun os started H enc _=>valueZero_lifted os started H enc)
theorem valueZero_holds:Rows.ValueZeroCardSaid :=
 Claim7.holds_tied_plain_at .later [] [.data, .data, .data, .sentinel, .sentinel] true (true, "77d5eced24847e204d63e943f8a78dc3f8b33956cdbf5e4f0964d76674ff370b") true
  valueZero_said (fun _ h=>by cases h) cwValueZero (fun _ h=>by cases h) valueZero_row_tie rfl ⟨rfl,rfl⟩ cmValueZero rfl
  (fun f fn hf hfn=>by
   obtain rfl:f=10:=Option.some.inj (cnValueZero.symm.trans hf) |>.symm
   obtain rfl:fn=Tryz.f10:=(Option.some.inj (Tryz.func10.symm.trans hfn)).symm;exact ⟨clValueZero,fun j t ht=>by
    rw [Tryz.params10] at ht;have hj:t=25∨t=22∨t=3:=by
     rcases j with _ | _ | _ | j
     ·left;simpa using ht.symm
     ·right;left;simpa using ht.symm
     ·right;right;simpa using ht.symm
     ·simp at ht
    rcases hj with rfl | rfl | rfl
    ·exact (show Tryz.prog.wantsStandIn 25=false by kernel_rfl)
    ·exact (show Tryz.prog.wantsStandIn 22=false by kernel_rfl)
    ·exact (show Tryz.prog.wantsStandIn 3=false by kernel_rfl)⟩)
  cgValueZero
end Go.Proofs.YteelmakkogdieaaGreatDoor
