/- A region that draws its order inside a round, by the plain laws on orders (Derived/Orders.lean, Derived/Deep/RegionHeld.lean). No program is named. -/
import Derived.Test.YtppkjejdkogfpaaRound
import Derived.Deep.RegionHeld
namespace Go.Proofs.Ytppkjejdkogfpaa

section
variable {P : Program} {ops : Array Oper} {md : Region.Mode} {Q : Exit → Act → World → Prop}
theorem opIn_of_wpOp {i : Nat} {a : Act} {w : World} {K : Act → World → Prop} (n l : Nat) (hd : noDefer ops = true) (hQ : ∀ a w, ¬ Q .outgrown a w) (h : wpOp P ops Q i K a w) : wpOpIn (Fence.wide.inRound l) n P ops Q i K a w := by
  unfold wpOp at h
  unfold wpOpIn
  split
  · rename_i ho; simp only [ho] at h; exact h
  · rename_i o ho
    simp only [ho] at h
    split
    · rename_i hw
      simp only [hw, if_true] at h
      rcases h with h | ⟨_, a', w', h⟩
      case inr => exact (hQ _ _ h).elim
      refine ⟨fun f _ => trivial, ?_⟩
      rw [Oper.semAt_eq _ _ _ (noDefer_at hd ho)]
      unfold Oper.wp at h
      revert h
      generalize (execOp a.eval o).run P w = r
      intro h
      match r, h with
      | .ok (.value v) w', h => exact h
      | .ok .skip w', h => exact h
      | .ok (.defer d) w', h => exact h
      | .ok (.enter f args) w', h =>
        refine ⟨fun hs => by simp [Fence.wide, Fence.inRound] at hs, ?_⟩
        exact ((callsIn_wide (n := n - 1)).2 h).inRound l
      | .ok (.row row args) w', h =>
        refine ⟨fun hs => by simp [Fence.wide, Fence.inRound] at hs, ?_⟩
        exact fun c cs _ => let ⟨v, w', r, s⟩ := h c cs; ⟨v, w', r, stepsIn_wide.2 s⟩
      | .halt (.panic v) w', h => exact h
    · rename_i hw
      simp only [hw] at h
      exact ⟨fun _ _ => trivial, h⟩
theorem anyIn_of_any (n l : Nat) (hd : noDefer ops = true) (hQ : ∀ a w, ¬ Q .outgrown a w) : ∀ (fuel : Nat) (listed : Array Bool) (a : Act) (w : World), wpAny P md ops Q fuel listed a w → wpAnyIn (Fence.wide.inRound l) n P md ops Q fuel listed a w
  | 0, _, _, _, h => h
  | fuel + 1, _, _, _, h => ⟨h.1, fun i hi => wpOpIn_mono (fun a' w' h' => anyIn_of_any n l hd hQ fuel _ a' w' h') (opIn_of_wpOp n l hd hQ (h.2 i hi))⟩
/-- a drawn region in a round: the begin of a walk by 'wpAnyH_take', 'wpAnyH_ready', 'wpAnyH_done' -/
theorem wpIn_round_held {id : Nat} {a : Act} {w : World} {n l : Nat} (S : World → Prop) (hd : noDefer ops = true) (hm : P.follows .mixedOrders = true) (hQ : ∀ a w, ¬ Q .outgrown a w) (hS : S w.drew)
    (h : S w.drew → wpAnyH P .any ops Q S ops.size (Array.replicate ops.size false) a w.drew) : (Code.region id ops true).wpIn (Fence.wide.inRound l) n P Q a w :=
  wpIn_region_any hm (anyIn_of_any n l hd hQ _ _ _ _ (wpAny_of_held _ _ _ _ (h hS)))
end
end Go.Proofs.Ytppkjejdkogfpaa
