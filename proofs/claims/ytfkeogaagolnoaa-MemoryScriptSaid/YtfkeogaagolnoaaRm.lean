/- Walks: the document's memory: Size, Is. -/
import Derived.Test.YtfkeogaagolnoaaCopym
namespace Go.Proofs.Ytfkeogaagolnoaa
open Go.RowKit

/-- the document's memory at block g -/
structure RmS (w : World) (base g : Nat) (A : Option Addr) (n c : Nat) (bs : List (Nat × Nat)) (ls : List (List Int)) : Prop where
  blk : Blk w g 42 #[.slice A n c]
  core : Core w base g A n c bs ls
section
variable {w w' : World} {base g n c : Nat} {A : Option Addr} {bs : List (Nat × Nat)} {ls : List (List Int)} {S : Nat → Prop}
theorem RmS.off (h : RmS w base g A n c bs ls) (ho : Off S w w') (hn : ∀ k, foot g A bs k → ¬ S k) : RmS w' base g A n c bs ls := ⟨h.blk.off ho (hn g (.inl rfl)), h.core.off ho hn⟩
theorem RmS.below (h : RmS w base g A n c bs ls) (hb : Below w.heap.size w w') : RmS w' base g A n c bs ls := h.off (Off.of_below (fun _ => False) hb) fun _ _ h => h
theorem rsize_any (h : RmS w base g A n c bs ls) :
    Calls Try.prog 33 #[.pointer (some ⟨g, 0, none⟩)] w fun e w' => e = .returned (.int .i64 (total ls : Nat)) ∧ w = w' := by
  have k0 := h.blk.cell 0
  simp at k0
  have hne := h.core.n_eq
  have Hne := Lib.hid hne
  clear hne
  have htot := h.core.le
  have hnle := h.core.n_le
  go_enter Try.func33, Try.ntmps33
  go_wp2_with fail
  go_loop [3, 4] (fun s i => ∃ j : Nat, j ≤ n ∧ i = .int .i64 j ∧ s = .int .i64 (total (ls.take j) : Nat)) (fun _ i => n - (intOf i).toNat)
  case atStart => exact ⟨0, by omega, rfl, rfl⟩
  case round =>
    obtain ⟨j, hj, rfl, rfl⟩ := hrel
    by_cases hlt : j < n
    · have hltI : decide ((j : Int) < (n : Int)) = true := by simp; omega
      obtain ⟨b, l, hb, hl⟩ := h.core.at_ hlt
      obtain ⟨_, ab, off, rfl, hcell⟩ := h.core.head hb hl
      unfold headV at hcell
      have hts := total_take_succ hl
      have htk := total_take ls (j + 1)
      have hsI : (total (ls.take j) : Int) + (l.length : Int) = (total (ls.take (j + 1)) : Int) := by omega
      have hbd : total (ls.take (j + 1)) ≤ 1048576 := by omega
      clear hb hl hts htk
      go_wp2_with fail
      go_round
      case rel => exact ⟨j + 1, by omega, by go_num, rfl⟩
      case measure => simp [intOf]; omega
    · obtain rfl : j = n := by omega
      have hltI : decide ((j : Int) < (j : Int)) = false := by simp
      have hall : total (ls.take j) = total ls := by rw [List.take_of_length_le (by have := Hne.out; omega)]
      rw [hall]
      go_wp2_with fail
      go_ret
      exact ⟨rfl, rfl⟩
/-- are there so many words -/
theorem ris_any (h : RmS w base g A n c bs ls) (i p m : Int) (hi : -9223372036854775808 ≤ i ∧ i ≤ 9223372036854775807) (hp : -9223372036854775808 ≤ p ∧ p ≤ 9223372036854775807) (hm : -9223372036854775808 ≤ m ∧ m ≤ 9223372036854775807) (t : Bool) (ht : t = true ↔ Fit ls i p m) :
    Calls Try.prog 39 #[.pointer (some ⟨g, 0, none⟩), .int .i64 i, .int .i64 p, .int .i64 m] w fun e w' => e = .returned (.bool t) ∧ w = w' := by
  have k0 := h.blk.cell 0
  simp at k0
  have hnle := h.core.n_le
  have hn := h.core.n_eq
  by_cases c1 : i < 0
  · have g1 : decide (i < 0) = true := by simpa using c1
    obtain rfl : t = false := by
      rcases t with _ | _
      · rfl
      · have := (ht.1 rfl).1; omega
    clear hn ht
    go_enter Try.func39, Try.ntmps39
    go_wp2
    go_ret
    exact ⟨rfl, rfl⟩
  have g1 : decide (i < 0) = false := by simpa using c1
  obtain ⟨j, rfl⟩ := Int.eq_ofNat_of_zero_le (show 0 ≤ i by omega)
  by_cases c2 : n ≤ j
  · have g2 : decide ((n : Int) ≤ (j : Int)) = true := by simpa using c2
    obtain rfl : t = false := by
      rcases t with _ | _
      · rfl
      · have := (ht.1 rfl).2.1; omega
    clear hn ht
    go_enter Try.func39, Try.ntmps39
    go_wp2
    go_ret
    exact ⟨rfl, rfl⟩
  have g2 : decide ((n : Int) ≤ (j : Int)) = false := by simp; omega
  by_cases c3 : p < 0
  · have g3 : decide (p < 0) = true := by simpa using c3
    obtain rfl : t = false := by
      rcases t with _ | _
      · rfl
      · have := (ht.1 rfl).2.2.1; omega
    clear hn ht
    go_enter Try.func39, Try.ntmps39
    go_wp2
    go_ret
    exact ⟨rfl, rfl⟩
  have g3 : decide (p < 0) = false := by simpa using c3
  by_cases c4 : m < 0
  · have g4 : decide (m < 0) = true := by simpa using c4
    obtain rfl : t = false := by
      rcases t with _ | _
      · rfl
      · have := (ht.1 rfl).2.2.2.1; omega
    clear hn ht
    go_enter Try.func39, Try.ntmps39
    go_wp2
    go_ret
    exact ⟨rfl, rfl⟩
  have g4 : decide (m < 0) = false := by simpa using c4
  obtain ⟨b, l, hb, hl⟩ := h.core.at_ (i := j) (by omega)
  obtain ⟨_, ab, off, rfl, hc⟩ := h.core.head hb hl
  unfold headV at hc
  have hll := total_mem (List.mem_of_getElem? hl)
  have htl := h.core.le
  have ht2 : t = true ↔ p + m ≤ (l.length : Int) := by
    rw [ht]
    unfold Fit
    rw [Int.toNat_natCast, hl]
    simp only [Option.getD_some]
    constructor
    · exact fun h => h.2.2.2.2
    · exact fun h => ⟨by omega, by omega, by omega, by omega, h⟩
  clear hb hl hn ht
  by_cases c5 : p ≤ (l.length : Int)
  · have g5 : decide (p ≤ (l.length : Int)) = true := by simpa using c5
    have g6 : decide (m ≤ (l.length : Int) - p) = t := by
      rcases t with _ | _
      · simp only [decide_eq_false_iff_not]
        intro h6
        have := ht2.2 (by omega)
        cases this
      · simp only [decide_eq_true_eq]
        have := ht2.1 rfl
        omega
    clear ht2
    go_enter Try.func39, Try.ntmps39
    go_wp2
    go_ret
    exact ⟨rfl, rfl⟩
  · have g5 : decide (p ≤ (l.length : Int)) = false := by simpa using c5
    obtain rfl : t = false := by
      rcases t with _ | _
      · rfl
      · have := ht2.1 rfl; omega
    clear ht2
    go_enter Try.func39, Try.ntmps39
    go_wp2
    go_ret
    exact ⟨rfl, rfl⟩
end
end Go.Proofs.Ytfkeogaagolnoaa
