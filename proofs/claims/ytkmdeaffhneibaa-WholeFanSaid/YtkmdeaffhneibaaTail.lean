/- A region that draws its order, all of whose operations but the last few only read: walked once, in the text's order. No program is named. -/
import Derived.Test.YtkmdeaffhneibaaMem
import Derived.StillTailTactics
import Derived.BigQuiet
namespace Go.Proofs.Ytkmdeaffhneibaa

theorem still_of_quiet {P : Program} {ops : Array Oper} {w : World} {Q : Act → Prop} : ∀ {l : List Oper} {a : Act}, wpQuiet P ops (fun w' => w' = w) Q l a → wpStill P ops w Q l a
  | [], _, h => h
  | o :: rest, a, h => by
    simp only [wpQuiet] at h
    simp only [wpStill]
    split at h
    · rename_i hw
      rw [if_pos hw]
      obtain ⟨v, hv, hn⟩ := h
      have h1 := hv w rfl
      have hn' := still_of_quiet hn
      unfold Oper.quietAt at h1
      unfold Oper.still
      revert h1
      generalize (execOp a.eval o).run P w = r
      intro h1
      match r, h1 with
      | .ok (.value u) w', h1 =>
        obtain ⟨rfl, rfl⟩ := h1
        exact ⟨rfl, hn'⟩
      | .ok .skip w', h1 =>
        obtain ⟨rfl, rfl⟩ := h1
        exact ⟨rfl, hn'⟩
      | .ok (.enter f args) w', h1 =>
        obtain ⟨rfl, hc⟩ := h1
        exact ⟨rfl, v, hc, hn'⟩
    · rename_i hw
      rw [if_neg hw]
      exact still_of_quiet h

theorem wp_region_tail {P : Program} {id : Nat} {Q : Exit → Act → World → Prop} {a : Act} {w : World} {l : List Oper} (n : Nat) (hm : P.follows .mixedOrders = true) (hB : Region.lexTailB .any l.toArray n = true)
    (h : wpQuiet P l.toArray (fun w' => w' = w.drew) (fun a' => wpList P l.toArray Q (l.drop n) a' w.drew) (l.take n) a) : (Code.region id l.toArray true).wp P Q a w :=
  wp_region_still_tail n hm hB (still_of_quiet h)
end Go.Proofs.Ytkmdeaffhneibaa
