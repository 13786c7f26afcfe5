/- Walks: rooms taken away. -/
import Derived.Test.YtfkeogaagolnoaaCore
namespace Go.Proofs.Ytfkeogaagolnoaa
open Go.RowKit

theorem clip_any (A : Option Addr) (n c : Nat) (w : World) (hc : n ≤ c) : Calls Try.prog 34 #[.slice A n c] w fun e w' => e = .returned (.slice A n n) ∧ w = w' := by
  go_enter Try.func34, Try.ntmps34
  go_wp2
  go_ret
  exact ⟨rfl, rfl⟩
section
variable {w : World} {base g n c : Nat} {A : Option Addr} {bs : List (Nat × Nat)} {ls : List (List Int)}
theorem drop_bad (h : MemS w base g A n c bs ls) (f : Int) (hf : f < 0 ∨ (n : Int) < f) :
    Calls Try.prog 21 #[.pointer (some ⟨g, 0, none⟩), .int .i64 f] w fun e w' => e = .returned (.int .i64 220) ∧ w = w' := by
  have k0 := h.blk.cell 0
  simp at k0
  have hcc : decide (f < 0) = true ∨ (decide (f < 0) = false ∧ decide ((n : Int) < f) = true) := by simp only [decide_eq_true_eq, decide_eq_false_iff_not]; omega
  rcases hcc with c0 | ⟨c0, c1⟩ <;>
  · go_enter Try.func21, Try.ntmps21
    go_wp2
    go_ret
    exact ⟨rfl, rfl⟩
set_option maxHeartbeats 1000000 in
theorem drop_ok (h : MemS w base g A n c bs ls) (k : Nat) (hk : k ≤ n) :
    Calls Try.prog 21 #[.pointer (some ⟨g, 0, none⟩), .int .i64 k] w fun e w' => e = .returned (.int .i64 0) ∧ MemS w' base g A k k (bs.take k) (ls.take k) ∧ Off (fun j => j = g) w w' := by
  have k0 := h.blk.cell 0
  simp at k0
  have hcap := h.row.cap
  have hnle := h.core.n_le
  have hne := h.n_eq
  have hc0 : decide ((n : Int) < (k : Int)) = false := by simp; omega
  have hcut := h.row.reads.cut (k := k) (cap := c) hk hcap
  rw [Nat.mul_one] at hcut
  obtain ⟨Ac, hAc⟩ : ∃ Ac, (if c = k then A else Option.map (fun x => x.add k) A) = Ac := ⟨_, rfl⟩
  rw [hAc] at hcut
  have hB : Blk w g 56 #[.slice A n c, .int .i64 (total (ls.take k) + total (ls.drop (k + 0)) : Nat)] := by rw [Nat.add_zero, total_take]; exact h.blk
  have htot := h.le
  have Hne := Lib.hid hne
  clear hne
  go_enter Try.func21, Try.ntmps21
  go_wp2_with fail
  clear k0
  go_loopw [29] (fun i wr => ∃ j : Nat, j ≤ n - k ∧ i = .int .i64 j ∧ Blk wr g 56 #[.slice A n c, .int .i64 (total (ls.take k) + total (ls.drop (k + j)) : Nat)] ∧ total (ls.take k) + total (ls.drop (k + j)) ≤ 1048576 ∧ Off (fun j => j = g) w wr) (fun i _ => (n - k) - (intOf i).toNat)
  case atStart => exact ⟨0, by omega, rfl, hB, by rw [Nat.add_zero, total_take]; exact htot, Off.refl _ _⟩
  case round =>
    obtain ⟨j, hj, rfl, hBr, hbj, hor⟩ := hrel
    have htk := total_take ls k
    by_cases hlt : j < n - k
    · have hltI : decide ((j : Int) < ((n - k : Nat) : Int)) = true := by simp; omega
      have hrow := h.row.off hor (fun a ha => (h.apart a ha).1)
      have hcr := hrow.reads.cut (k := k) (cap := c) hk hcap
      rw [Nat.mul_one, hAc] at hcr
      obtain ⟨b, l, hb, hl⟩ := h.core.at_ (i := k + j) (by omega)
      obtain ⟨ad, u, rfl, _, hu, hcj⟩ := hcr.at_ hlt
      rw [List.getElem?_drop, heads_at hb hl] at hu
      cases hu
      unfold headV at hcj
      have htd := total_drop_succ hl
      have htm := total_mem (List.mem_of_getElem? hl)
      have q1 := hBr.cell 1
      have qf := hBr.frozen 1
      simp at q1
      have hBn := hBr.set_ 1 (.int .i64 (total (ls.take k) + total (ls.drop (k + (j + 1))) : Nat))
      have hsub : ((total (ls.take k) : Int) + (total (ls.drop (k + j)) : Int)) - (l.length : Int) = (total (ls.take k) : Int) + (total (ls.drop (k + (j + 1))) : Int) := by rw [← Nat.add_assoc]; omega
      have hbd : total (ls.take k) + total (ls.drop (k + (j + 1))) ≤ 1048576 := by rw [← Nat.add_assoc]; omega
      clear hb hl hcr hrow htd
      go_wp2_with fail
      go_roundw
      case rel => exact ⟨j + 1, by omega, by go_num, by simpa using hBn, hbd, hor.set_ (p := ⟨g, 1, none⟩) (.inl rfl) _⟩
      case measure => simp [intOf]; omega
    · obtain rfl : j = n - k := by omega
      have hltI : decide (((n - k : Nat) : Int) < ((n - k : Nat) : Int)) = false := by simp
      have hz : total (ls.drop (k + (n - k))) = 0 := by rw [List.drop_of_length_le (by have := Hne.out; omega)]; rfl
      rw [hz, Nat.add_zero] at hBr
      have q0 := hBr.cell 0
      have qf := hBr.frozen 0
      simp at q0
      have hBn := hBr.set_ 0 (.slice A k k)
      have hcl := fun w' => clip_any A k c w' (by omega)
      clear hz hcut
      go_wp2_with fail
      refine (hcl wr).mono ?_
      rintro e w2 ⟨rfl, rfl⟩
      go_wp2_with fail
      go_ret
      have ho2 := hor.set_ (p := ⟨g, 0, none⟩) (.inl rfl) (.slice A k k)
      exact ⟨rfl, ((h.core.own_turned ho2).taken hk).mem (by simpa using hBn), ho2⟩
end
end Go.Proofs.Ytfkeogaagolnoaa
