/- Words: what New has laid down stays where the module is written over. -/
import Derived.Test.YtnhpjheiihiepaaGreatDoorRnSpoil
import Derived.Test.YtnhpjheiihiepaaGreatDoorSG
namespace Go.Proofs.YtnhpjheiihiepaaGreatDoor
open Go.RowKit

theorem Kept.mono {N N' : Nat} {w w' : World} (h : Kept N w w') (hN : N ≤ N') : Kept N' w w' := ⟨h.size, fun b hb hl => h.same b (by omega) hl⟩
theorem Reads.keptF {N size n : Nat} {A : Option Addr} {xs : List Value} {w w' : World} (h : Reads w w.heap.size size A n xs) (hA : ∀ ad, A = some ad → N ≤ ad.block) (hk : Kept N w w') : Reads w' w'.heap.size size A n xs := by
  refine ⟨h.1, fun hn => ?_⟩
  obtain ⟨ad, rfl, hb, hc⟩ := h.2 hn
  exact ⟨ad, rfl, Nat.lt_of_lt_of_le hb hk.size, fun j u hj => hk.cell (by rw [block_of_add]; exact hA ad rfl) (hc j u hj)⟩
theorem TableS.from_ {N : Nat} {w w' : World} {gt : Nat} {s : StN} (h : TableS N w gt s) (hg : N ≤ gt) (hk : Kept N w w') : TableS N w' gt s := by
  obtain ⟨bm, S, A, m, c, kt, hT, hr, hm, hcS, hbm, hA⟩ := h
  obtain ⟨cnt, has, h1, h2⟩ := hT.mp
  refine ⟨bm, S, A, m, c, (hk.same gt hg kt.lt).trans kt, ⟨⟨cnt, has, h1.same (hk.same bm hbm hT.lt), h2⟩, fun id => (hT.reads id).keptF (hcS id).2 hk, hT.size, hT.depth⟩, hr.keptF hA hk, hm, hcS, hbm, hA⟩
/-- what New answers; its table stays where nothing turns from the call on -/
def NewLU (T : Int → TyI) (ord : List Int) (a b : Int) (w : World) (e : Ending) (w' : World) : Prop :=
  Below w.heap.size w w' ∧ ∃ p, e = .returned (.tuple #[.pointer p, .agg #[.int .i64 a, .int .i64 b]]) ∧ (∀ w2, Kept w.heap.size w' w2 → ∃ S, TabW w2 p T S ∧ TabI w2 p ord) ∧ ((p = none ∧ a ≠ 0) ∨ (∃ g, p = some ⟨g, 0, none⟩ ∧ a = 0))
theorem newL_u {bound : Int} {l : List InstI} {w w' : World} {e : Ending} (h : NewL (newM bound l) w e w') : NewLU (tT (newM bound l)) (tO (newM bound l)) (newM bound l).1 (newM bound l).2.1 w e w' := by
  obtain ⟨hb, ⟨h0, hw, gt, he, hg, h1⟩ | ⟨h0, he⟩⟩ := h
  · have h3 := newM_zero h0
    unfold tT tO
    rw [if_pos h0, if_pos h0, h0, h3]
    exact ⟨hb, _, he, fun w2 hk => (h1.from_ hg hk).good hw, .inr ⟨gt, rfl, rfl⟩⟩
  · unfold tT tO
    rw [if_neg h0, if_neg h0]
    exact ⟨hb, none, he, fun w2 _ => ⟨_, TabW.nil _, .inl ⟨rfl, rfl⟩⟩, .inl ⟨rfl, h0⟩⟩
theorem newL_copied {gen bound : Int} {A : Option Addr} {n c : Nat} {ls : List InstA} {L : List InstI} {w : World} (hM : ModS w w.heap.size A n ls) (hL : ls.map (·.1) = L) (hP : Pow w)
    (hu : ∀ i ∈ L, ∀ a ∈ i.2.2.2, 0 ≤ a.2.1 ∧ a.2.1 < 4294967296) (hop : ∀ i ∈ L, 0 ≤ i.1 ∧ i.1 < 65536) :
    Calls Tryz.prog 9 #[.agg (modC gen bound A n c)] w (NewL (newM bound L) w) := by
  have h := new_low gen bound ls A n c w hM hP (fun x hx => hu x.1 (hL ▸ List.mem_map.2 ⟨x, hx, rfl⟩)) (fun x hx => hop x.1 (hL ▸ List.mem_map.2 ⟨x, hx, rfl⟩))
  rw [hL] at h
  exact h
end Go.Proofs.YtnhpjheiihiepaaGreatDoor
