/- Walks: the document's memory: Load, Drop, Copy. -/
import Derived.Test.YtfkeogaagolnoaaRmk
namespace Go.Proofs.Ytfkeogaagolnoaa
open Go.RowKit

section
variable {w : World} {base g n c : Nat} {A : Option Addr} {bs : List (Nat × Nat)} {ls : List (List Int)}
theorem fit_of {i p m : Nat} {l : List Int} (hl : ls[i]? = some l) (hm : p + m ≤ l.length) : Fit ls i p m := by
  have := (List.getElem?_eq_some_iff.1 hl).1
  exact ⟨by omega, by omega, by omega, by omega, by rw [Int.toNat_natCast, hl]; simp only [Option.getD_some]; omega⟩
set_option maxHeartbeats 1000000 in
theorem rload_ok (h : RmS w base g A n c bs ls) (i : Nat) (l : List Int) (p m : Nat) (hl : ls[i]? = some l) (hm : p + m ≤ l.length) :
    Calls Try.prog 30 #[.pointer (some ⟨g, 0, none⟩), .int .i64 i, .int .i64 p, .int .i64 m] w fun e w' =>
      ∃ A' c', e = .returned (.tuple #[.slice A' m c', .int .i64 0]) ∧ w'.ownsRow w.heap.size 36 1 (.slice A' m c') m (Ints .u32 ((l.drop p).take m)) ∧ Below w.heap.size w w' := by
  have hi := (List.getElem?_eq_some_iff.1 hl).1
  have htm := total_mem (List.mem_of_getElem? hl)
  have htot := h.core.le
  have hn := h.core.n_eq
  have hnle := h.core.n_le
  have hib : i < n := by omega
  have his := ris_any h i p m (by omega) (by omega) (by omega) true ⟨fun _ => fit_of hl hm, fun _ => rfl⟩
  have hxl : ((l.drop p).take m).length = m := by simp; omega
  have Hxl := Lib.hid hxl
  have Hl := Lib.hid hl
  clear hn hxl hl hi
  go_enter Try.func30, Try.ntmps30
  go_wp2_with fail
  refine his.mono ?_
  rintro e w1 ⟨rfl, rfl⟩
  clear his
  go_wp2_with (at_make; refine mk_full sl32 rfl _ rfl _ _ rfl w.heap.size m rfl rfl rfl rfl (by omega) (by omega) (Nat.le_refl _) ?_; intro w1 hown hgr)
  go_loopw [11] (fun j wr => ∃ k : Nat, k ≤ m ∧ j = .int .i64 k ∧ wr.ownsRow w.heap.size 36 1 (.slice (some ⟨w.heap.size, 0, none⟩) m m) m (Ints .u32 (mid ((l.drop p).take m) m k)) ∧ Below w.heap.size w wr) (fun j _ => m - (intOf j).toNat)
  case atStart => exact ⟨0, by omega, rfl, by rw [mid_zero, Ints_replicate]; exact hown, (Below.refl _ _).grown hgr (Nat.le_refl _) (fun _ h => by cases h)⟩
  case round =>
    obtain ⟨k, hk, rfl, ho, hb⟩ := hrel
    by_cases hlt : k < m
    · have hmm := h.below hb
      obtain ⟨b, l2, hbi, hl2⟩ := hmm.core.at_ hib
      rw [Hl.out] at hl2
      cases hl2
      obtain ⟨_, ab, off, rfl, hcell⟩ := hmm.core.head hbi Hl.out
      unfold headV at hcell
      have hci := own_int_at (hmm.core.rooms.own i b l hbi Hl.out) (k := p + k) (by omega)
      have hbl := (hmm.core.cut hbi Hl.out).1
      have k0 := hmm.blk.cell 0
      simp at k0
      have hxk : ix ((l.drop p).take m) k = ix l (p + k) := by rw [ix_take hlt, ix_drop]
      have hc1 := own_int_at ho hlt
      have hf1 := ho.frozenAt k
      clear hbi
      go_wp2_with fail
      go_roundw
      case rel => exact ⟨k + 1, by omega, by go_num, by rw [← mid_set Hxl.out hlt, hxk]; exact own_int_set ho k _, hb.setCell (Nat.le_refl _) _⟩
      case measure => simp [intOf]; omega
    · obtain rfl : k = m := by omega
      rw [mid_all Hxl.out] at ho
      go_wp2
      go_ret2
      exact ⟨_, _, rfl, ho, hb⟩
theorem rdrop_bad (h : RmS w base g A n c bs ls) (f : Int) (hf : f < 0 ∨ (n : Int) < f) :
    Calls Try.prog 32 #[.pointer (some ⟨g, 0, none⟩), .int .i64 f] w fun e w' => e = .returned (.int .i64 220) ∧ w = w' := by
  have k0 := h.blk.cell 0
  simp at k0
  have hcc : decide (f < 0) = true ∨ (decide (f < 0) = false ∧ decide ((n : Int) < f) = true) := by simp only [decide_eq_true_eq, decide_eq_false_iff_not]; omega
  rcases hcc with c0 | ⟨c0, c1⟩ <;>
  · go_enter Try.func32, Try.ntmps32
    go_wp2
    go_ret
    exact ⟨rfl, rfl⟩
set_option maxHeartbeats 1000000 in
theorem rdrop_ok (h : RmS w base g A n c bs ls) (k : Nat) (hk : k ≤ n) :
    Calls Try.prog 32 #[.pointer (some ⟨g, 0, none⟩), .int .i64 k] w fun e w' => e = .returned (.int .i64 0) ∧ ∃ A2 c2, RmS w' base g A2 k c2 (bs.take k) (ls.take k) ∧ Off (fun j => j = g) w w' ∧ (∀ a, A2 = some a → w.heap.size ≤ a.block) := by
  have k0 := h.blk.cell 0
  simp at k0
  have hnle := h.core.n_le
  have hc0 : decide (n < k) = false := by simp; omega
  have hc1 : decide ((k : Int) < 0) = false := by simp
  go_enter Try.func32, Try.ntmps32
  go_wp2_with fail
  clear k0
  go_loopw [5, 6] (fun v i wr => ∃ (j : Nat) (A3 : Option Addr) (c3 : Nat), j ≤ k ∧ i = .int .i64 j ∧ v = .slice A3 j c3 ∧ Lst wr w.heap.size 28 A3 j c3 ((heads bs ls).take j) ∧ Below w.heap.size w wr) (fun _ i _ => k - (intOf i).toNat)
  case atStart => exact ⟨0, none, 0, by omega, rfl, rfl, Lst.nil, Below.refl _ _⟩
  case round =>
    obtain ⟨j, A3, c3, hj, rfl, rfl, hL, hb⟩ := hrel
    have hmm := h.below hb
    by_cases hlt : j < k
    · have hltI : decide ((j : Int) < (k : Int)) = true := by simp; omega
      obtain ⟨b, l, hbi, hl⟩ := hmm.core.at_ (i := j) (by omega)
      obtain ⟨_, ab, off, rfl, hcell⟩ := hmm.core.head hbi hl
      have hsn := take_snoc (heads_at hbi hl)
      unfold headV at hcell hsn
      have k0 := hmm.blk.cell 0
      simp at k0
      clear hbi hl
      go_wp2_with (at_builtin; refine ap_lst slRooms _ rfl _ _ rfl hL _ _ rfl rfl rfl (by omega) (by omega) (by have := hb.size; omega) ?_; intro A4 c4 w4 ho4 hg4 hat4)
      refine ⟨?rel, ?measure⟩
      case rel =>
        refine ⟨j + 1, A4, c4, by omega, by go_num, rfl, .inl (by rw [← hsn]; exact ho4), (hb.alloc hb.size _).grown hg4 (by have := hb.size; simp; omega) (fun q hq => ?_)⟩
        rcases A3 with _ | a
        · cases hq
        · cases hq; exact (hL.lt rfl).1
      case measure => simp [intOf]; omega
    · obtain rfl : j = k := by omega
      have hltI : decide ((j : Int) < (j : Int)) = false := by simp
      have q1 := hmm.blk.cell 0
      have qf := hmm.blk.frozen 0
      simp at q1
      have hBn := hmm.blk.set_ 0 (.slice A3 j c3)
      have hgl := h.blk.lt
      have hgh : ∀ a, A3 = some a → w.heap.size ≤ a.block := fun a ha => (hL.lt ha).1
      have hof := (Off.refl (fun q => q = g) wr).set_ (p := ⟨g, 0, none⟩) (.inl rfl) (.slice A3 j c3)
      have hL2 := hL.off hof (fun a ha e => by have := hgh a ha; omega)
      have hTk := (h.core.taken hk)
      have hC := (hTk.below hb).own_turned hof
      have hbz := h.core.low
      go_wp2_with fail
      go_ret
      refine ⟨rfl, A3, c3, ⟨by simpa using hBn, ⟨hC.glt, ?_, hC.rooms, hC.low, hC.le, hC.pos, hC.u32, fun a ha => ⟨by have := hgh a ha; omega, fun b hb' => by have := (hTk.rooms.lt hb').2; have := hgh a ha; omega⟩, hC.off_g⟩⟩, (Off.of_below _ hb).trans hof, hgh⟩
      rw [heads_take] at hL2
      rcases hL2 with h' | ⟨h1, h2, h3, h4⟩
      · exact .inl (own_base h' (by omega))
      · exact .inr ⟨h1, h2, fun a ha => ⟨by have := (h3 a ha).1; omega, (h3 a ha).2⟩, h4⟩
end
end Go.Proofs.Ytfkeogaagolnoaa
