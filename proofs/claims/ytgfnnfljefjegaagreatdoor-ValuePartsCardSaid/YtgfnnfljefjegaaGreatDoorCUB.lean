/- Walks: a table of a copied module. Walks: TypesEqual. Walks: law10.simple. Plain: what TypesTexts asks of a table. No program is named. Plain: where a path of indices leads. No program is named. -/
import Derived.Test.YtgfnnfljefjegaaGreatDoorCUJ
import Derived.Test.YtgfnnfljefjegaaGreatDoorCUK
import Derived.Test.YtgfnnfljefjegaaGreatDoorCUA
import Derived.Test.YtgfnnfljefjegaaGreatDoorCUI
namespace Go.Proofs.YtgfnnfljefjegaaGreatDoor
open Go.RowKit

/-- New of what CopyModule hands out -/
theorem new_copied {gen bound : Int} {A : Option Addr} {n c : Nat} {ls : List InstA} {L : List InstI} {w : World} (hM : ModS w w.heap.size A n ls) (hL : ls.map (·.1) = L) (hP : Pow w)
    (hu : ∀ i ∈ L, ∀ a ∈ i.2.2.2, 0 ≤ a.2.1 ∧ a.2.1 < 4294967296) (hop : ∀ i ∈ L, 0 ≤ i.1 ∧ i.1 < 65536) :
    Calls Tryz.prog 7 #[.agg (modC gen bound A n c)] w (NewG (newM bound L) w) := by
  have h := new_any gen bound ls A n c w hM hP (fun x hx => hu x.1 (hL ▸ List.mem_map.2 ⟨x, hx, rfl⟩)) (fun x hx => hop x.1 (hL ▸ List.mem_map.2 ⟨x, hx, rfl⟩))
  rw [hL] at h
  exact h
end Go.Proofs.YtgfnnfljefjegaaGreatDoor

namespace Go.Proofs.YtgfnnfljefjegaaGreatDoor
open Go.RowKit

end Go.Proofs.YtgfnnfljefjegaaGreatDoor

namespace Go.Proofs.YtgfnnfljefjegaaGreatDoor
open Go.RowKit

theorem part_rank {T : Int → TyI} (h : Typed T) {id : Int} {k : Nat} (hk : ((k : Nat) : Int) < cntT (T id)) : rankT (T (partT (T id) (k : Nat)).1) < rankT (T id) := by
  unfold partT
  rw [if_neg (by omega)]
  split
  · rename_i h1
    exact rankT_part h ((times_kind h id).1 h1)
  · rename_i h1
    have ht : 0 ≤ (T id).times := by
      rcases h.ok id with h2 | ⟨b, h2⟩
      · rw [h2]; exact Int.le_refl _
      · generalize T id = x at *
        cases h2 <;> simp [ty0] <;> omega
    have hc : k < (T id).parts.length := by unfold cntT at hk; omega
    refine rankT_parts h _ ?_
    show ix (T id).parts k ∈ _
    rw [ix_of hc]
    exact List.getElem_mem _
end Go.Proofs.YtgfnnfljefjegaaGreatDoor

namespace Go.Proofs.YtgfnnfljefjegaaGreatDoor

theorem ix_in {l : List Int} {k : Nat} (h : k < l.length) : ix l k ∈ l := by rw [ix_of h]; exact List.getElem_mem _
end Go.Proofs.YtgfnnfljefjegaaGreatDoor

namespace Go.Proofs.YtgfnnfljefjegaaGreatDoor

/-- where a path leads: nowhere is (0, 0) -/
def wkW (T : Int → TyI) : Int → Int → List Int → Int × Int
  | at_, ty, [] => (at_, ty)
  | at_, ty, k :: r => if cntT (T ty) ≤ k then (0, 0) else wkW T (at_ + (offT T (T ty) k).1) (partT (T ty) k).1 r
/-! A part lies within its whole. -/
theorem sumP_mono {T : Int → TyI} (hT : ∀ id, 0 ≤ (T id).size) (x : TyI) : ∀ (n k : Nat), sumP T x k ≤ sumP T x (k + n)
  | 0, k => Int.le_refl _
  | n + 1, k => by
    have ih := sumP_mono hT x n k
    have := hT (partN x (k + n))
    show _ ≤ sumP T x (k + n) + (T (partN x (k + n))).size
    omega
theorem sumP_pos {T : Int → TyI} (hT : ∀ id, 0 ≤ (T id).size) (x : TyI) (k : Nat) : 0 ≤ sumP T x k := by
  have := sumP_mono hT x k 0
  rw [Nat.zero_add] at this
  exact this
theorem TyOk.part_plain {T : Int → TyI} {b : List Int} {x : TyI} (h : TyOk T b x) (hT : Typed T) (hs : 0 < x.size) {j : Nat} (hj : (j : Int) < cntT x) : 0 < (T (partN x j)).size := by
  unfold partN partT
  rw [if_neg (by omega)]
  cases h with
  | void => exact absurd hs (by decide)
  | bool => exact absurd hj (by show ¬ (j : Int) < 0 + 0; omega)
  | int s => exact absurd hj (by show ¬ (j : Int) < 0 + 0; omega)
  | vec p n h1 h2 h3 h4 =>
    have := (hT.leaf p h2).2
    dsimp only
    rw [if_pos (by omega)]
    dsimp only
    omega
  | arr p n h1 h2 h3 h4 h5 h6 =>
    dsimp only
    rw [if_pos (by omega)]
    exact h2
  | str l s d h1 h2 h3 h4 h5 h6 =>
    have ec : cntT ({ ty0 with kind := 6, parts := l, size := s, depth := d + 1 } : TyI) = l.length := by unfold cntT; simp [ty0]
    rw [ec] at hj
    dsimp only
    rw [if_neg (by show ¬ (0 : Int) < 0; decide)]
    have e : ((j : Nat) : Int).toNat = j := rfl
    dsimp only
    rw [e, ix_of (by omega)]
    exact memR_in h1 _ (List.getElem_mem _)
  | ptr c p h1 h2 h3 => exact absurd hs (by show ¬ (0 : Int) < 0; decide)
  | fn l h1 h2 h3 h4 => exact absurd hs (by show ¬ (0 : Int) < 0; decide)
/-- a part of a plain type: it is plain, and lies within -/
theorem part_in {T : Int → TyI} (hT : Typed T) {ty : Int} (hs : 0 < (T ty).size) {k : Int} (h0 : 0 ≤ k) (hk : k < cntT (T ty)) :
    0 < (T (partT (T ty) k).1).size ∧ 0 ≤ (offT T (T ty) k).1 ∧ (offT T (T ty) k).1 + (T (partT (T ty) k).1).size ≤ (T ty).size := by
  obtain ⟨j, rfl⟩ : ∃ j : Nat, k = j := ⟨k.toNat, by omega⟩
  have hsz : ∀ id, 0 ≤ (T id).size := fun id => (hT.size id).1
  rcases hT.ok ty with h | ⟨b, h⟩
  · rw [h] at hs; exact absurd hs (by decide)
  · have hS := h.sizes hT
    have hp := h.part_plain hT hs hk
    have hkd := (hT.size ty).2.1.1 hs
    have hcp : 0 < cntT (T ty) := by omega
    have hw := hS.whole hcp (by omega) (by omega)
    have hn : ¬ ((T ty).kind = 2 ∨ (T ty).kind = 3) := fun hc => by
      have hm : cntT (T ty) = 0 := by
        generalize T ty = x at *
        cases h with
        | bool => rfl
        | int s => rfl
        | void => rfl
        | vec p n => rcases hc with hc | hc <;> cases hc
        | arr p n => rcases hc with hc | hc <;> cases hc
        | str l s d => rcases hc with hc | hc <;> cases hc
        | ptr c p => rcases hc with hc | hc <;> cases hc
        | fn l => rcases hc with hc | hc <;> cases hc
      omega
    have ho := (hS.off j hk).2 (by omega)
    refine ⟨hp, by rw [ho]; exact sumP_pos hsz _ j, ?_⟩
    rw [ho, hw]
    have hm := sumP_mono hsz (T ty) ((cntT (T ty)).toNat - (j + 1)) (j + 1)
    rw [show j + 1 + ((cntT (T ty)).toNat - (j + 1)) = (cntT (T ty)).toNat by omega] at hm
    exact hm
end Go.Proofs.YtgfnnfljefjegaaGreatDoor
