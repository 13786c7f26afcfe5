/- Walks: a table of a copied module. -/
import Derived.Test.YtgdmbeamemdaiaaGreatDoorTT
import Derived.Test.YtgdmbeamemdaiaaGreatDoorKitMod
namespace Go.Proofs.YtgdmbeamemdaiaaGreatDoor
open Go.RowKit

/-- New of what CopyModule hands out -/
theorem new_copied {gen bound : Int} {A : Option Addr} {n c : Nat} {ls : List InstA} {L : List InstI} {w : World} (hM : ModS w w.heap.size A n ls) (hL : ls.map (·.1) = L) (hP : Pow w)
    (hu : ∀ i ∈ L, ∀ a ∈ i.2.2.2, 0 ≤ a.2.1 ∧ a.2.1 < 4294967296) (hop : ∀ i ∈ L, 0 ≤ i.1 ∧ i.1 < 65536) :
    Calls Tryz.prog 13 #[.agg (modC gen bound A n c)] w (NewG (newM bound L) w) := by
  have h := new_any gen bound ls A n c w hM hP (fun x hx => hu x.1 (hL ▸ List.mem_map.2 ⟨x, hx, rfl⟩)) (fun x hx => hop x.1 (hL ▸ List.mem_map.2 ⟨x, hx, rfl⟩))
  rw [hL] at h
  exact h
end Go.Proofs.YtgdmbeamemdaiaaGreatDoor
