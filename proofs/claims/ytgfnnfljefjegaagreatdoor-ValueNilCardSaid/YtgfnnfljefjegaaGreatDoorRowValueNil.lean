/- The statement of ValueNil: for every input the law answers true, and its arguments read as they did. No condition but that the listed variables hold what the program's text lays in them, which the card ties. -/
import Derived.Carry
import Derived.Test.YtgfnnfljefjegaaGreatDoorCVH
import Derived.Test.YtgfnnfljefjegaaGreatDoorCTV
import Derived.Test.YtgfnnfljefjegaaGreatDoorVlNil
namespace Go.Proofs.YtgfnnfljefjegaaGreatDoor
open Go.ChangeShapes Go.WideShapes Go.ChangeAt Go.RowKit Go.ChangeMaps

set_option maxRecDepth 100000 in
theorem valueNil_lifted (os : Os) (started : os.Started) (H : Type) (enc : TypeId × Value → H) :
    ReturnsInHanded {} Tryz.checked os 6 .any (fun w args => (Rows.valueNilSpec.pre enc Tryz.prog Tryz.f6 Rows.valueNilRow.domain false w args ∧ laidMetH Tryz.prog tabs3 w) ∧ sizedMet enc Tryz.prog Tryz.f6 (OpenSpec.ofChange Rows.valueNilSpec) false w args)
      (Rows.valueNilSpec.post enc Tryz.prog Tryz.f6 false true false false) := by
  refine law_lifted_laid (C := Tryz.checked) own_knob started (by kernel_rfl) Tryz.func6 laid_out (by kernel_rfl) (tb := 4) rfl Tryz.underlying4 rfl ?_
    (ChangeSpec.witness_shaped (enc := enc) (C := Tryz.checked) (os := os) (X := fun w _ => laidMetH Tryz.prog tabs3 w) false (World.doorLaid Tryz.prog 400 os) #[.int .u32 0, .slice none 0 0, .slice none 0 0, .string ByteArray.empty] 8 rfl (World.shaped_of_RefB (by kernel_rfl) (by kernel_rfl)) (by kernel_rfl) (by kernel_rfl) (by kernel_rfl) (door_met os _)) ?_
  · intro ds h
    match ds, h with
    | [d0, d1, d2, d3], _ => exact ⟨rfl, rfl, rfl⟩
  · intro W base args ds p hval hA hsz hlt hL
    rw [Tryz.params6] at hA hval hsz
    obtain ⟨v0, v1, v2, v3, d0, d1, d2, d3, p0, p1, p2, p3, rfl, rfl, rfl, h0, h1, h2, h3⟩ := trodAll_four hA
    obtain ⟨x0, rfl, rfl, rfl, wx0⟩ := open_int Tryz.underlying22 (hval 0 _ v0 rfl rfl) h0
    have y0 := wf_u32 wx0
    obtain ⟨A1, n1, c1, l1, rfl, hnc1, hc1, hwf1, hr1⟩ := open_reads Tryz.underlying34 Tryz.underlying22 (by kernel_rfl) (bytes := 4) (by kernel_rfl) (hval 1 _ v1 rfl rfl) h1 (fun x hx => hlt x (by simp [hx])) (fun elems spare hd => sized_slice hsz (j := 1) rfl (by rw [hd]; rfl) Tryz.underlying34)
    have u1 := under_u32 hwf1
    obtain ⟨A2, n2, c2, l2, rfl, hnc2, hc2, hwf2, hr2⟩ := open_reads Tryz.underlying34 Tryz.underlying22 (by kernel_rfl) (bytes := 4) (by kernel_rfl) (hval 2 _ v2 rfl rfl) h2 (fun x hx => hlt x (by simp [hx])) (fun elems spare hd => sized_slice hsz (j := 2) rfl (by rw [hd]; rfl) Tryz.underlying34)
    have u2 := under_u32 hwf2
    obtain ⟨s3, rfl, rfl, rfl, ws3⟩ := open_string Tryz.underlying9 (hval 3 _ v3 rfl rfl) h3
    have b3 := sized_string hsz (j := 3) rfl rfl
    have b3 : s3.size ≤ 140737488351232 := by simpa [reachBytes] using b3
    exact law_vnil x0 A1 n1 c1 l1 A2 n2 c2 l2 s3 W (pow_of_laid hL) (errs_of_laid hL) (by omega) hr1 (by omega) hr2

theorem valueNil_said : Rows.ValueNilSaid :=
  OpenClaim.holds_of_wide 6 Tryz.f6 rfl rfl rfl rfl rfl rfl rfl ⟨rfl, rfl, rfl, rfl, rfl⟩ rfl rfl rfl rfl rfl (by kernel_rfl) Tryz.func6 (by kernel_rfl)
    (of_decide_eq_true (by kernel_rfl)) (by unfold Func.isWrapper; rw [if_neg (of_decide_eq_false (by kernel_rfl))]; exact ⟨rfl, rfl⟩)
    (fun os started H enc _ => valueNil_lifted os started H enc)
theorem valueNil_holds : Rows.ValueNilCardSaid :=
  Claim7.holds_tied_plain_at .later [] [.data, .data, .data, .sentinel, .sentinel] true (true, "b94bf2ded74fc3d9102a8cf8938adea111fa1882f06ffaf2927f4704ace3752e") true
    valueNil_said (fun _ h => by cases h) (by kernel_rfl) (fun _ h => by cases h) valueNil_row_tie rfl ⟨rfl, rfl⟩ (by kernel_rfl) rfl
    (fun f fn hf hfn => by
      obtain rfl : f = 6 := Option.some.inj ((show Tryz.prog.funcNamed "intaglio/intagliolaw12.ValueNil" = some 6 by kernel_rfl).symm.trans hf) |>.symm
      obtain rfl : fn = Tryz.f6 := (Option.some.inj (Tryz.func6.symm.trans hfn)).symm
      exact ⟨by kernel_rfl, fun j t ht => by
        rw [Tryz.params6] at ht
        have hj : t = 22 ∨ t = 34 ∨ t = 9 := by
          rcases j with _ | _ | _ | _ | j
          · left; simpa using ht.symm
          · right; left; simpa using ht.symm
          · right; left; simpa using ht.symm
          · right; right; simpa using ht.symm
          · simp at ht
        rcases hj with rfl | rfl | rfl
        · exact (show Tryz.prog.wantsStandIn 22 = false by kernel_rfl)
        · exact (show Tryz.prog.wantsStandIn 34 = false by kernel_rfl)
        · exact (show Tryz.prog.wantsStandIn 9 = false by kernel_rfl)⟩)
    (by kernel_rfl)
end Go.Proofs.YtgfnnfljefjegaaGreatDoor
