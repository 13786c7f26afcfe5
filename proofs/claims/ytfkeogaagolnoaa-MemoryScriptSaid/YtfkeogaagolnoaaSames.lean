/- Walks: the statements' helpers same and spoil. -/
import Derived.Test.YtfkeogaagolnoaaAbs
import Derived.Deep.QuietTactic
namespace Go.Proofs.Ytfkeogaagolnoaa
open Go.RowKit

theorem spoil_row (A : Option Addr) (n c : Nat) (base : Nat) (l : List Int) (w : World) (hn : n ≤ 35184372087808) (ho : w.ownsRow base 36 1 (.slice A n c) n (Ints .u32 l)) :
    Calls Try.prog 29 #[.slice A n c] w fun e w' => e = .returned (.tuple #[]) ∧ Off (fun k => some k = (Value.slice A n c).ownBlock) w w' := by
  rcases Nat.eq_zero_or_pos n with rfl | h0
  · go_enter Try.func29, Try.ntmps29
    go_wp2
    go_loopw [2] (fun i wr => i = .int .i64 0 ∧ wr = w) (fun _ _ => 0)
    case atStart => exact ⟨rfl, rfl⟩
    case round =>
      obtain ⟨rfl, rfl⟩ := hrel
      go_wp2
      go_end0
      exact ⟨rfl, Off.refl _ _⟩
  obtain ⟨g, cap, hv, _, _⟩ := ho.form h0
  cases hv
  go_enter Try.func29, Try.ntmps29
  go_wp2
  go_loopw [2] (fun i wr => ∃ (k : Nat) (l' : List Int), k ≤ n ∧ i = .int .i64 k ∧ wr.ownsRow base 36 1 (.slice (some ⟨g, 0, none⟩) n c) n (Ints .u32 l') ∧ Off (fun q => q = g) w wr) (fun i _ => n - (intOf i).toNat)
  case atStart => exact ⟨0, l, by omega, rfl, ho, Off.refl _ _⟩
  case round =>
    obtain ⟨k, l', hk, rfl, ho', hg⟩ := hrel
    by_cases hlt : k < n
    · have hc := own_int_at ho' hlt
      have hf := ho'.frozenAt k
      go_wp2
      go_roundw
      case rel => exact ⟨k + 1, _, by omega, by go_num, own_int_set ho' k _, hg.set_ (p := ⟨g, k, none⟩) (.inl rfl) _⟩
      case measure => simp [intOf]; omega
    · go_wp2
      go_end0
      exact ⟨rfl, hg.mono (fun q _ hq => by rw [hq]; rfl)⟩
section
variable {w : World} {base g : Nat} {F : Nat → Prop} {ls : List (List Int)}
theorem MA.len (h : MA w base g F ls) : Calls Try.prog 10 #[.pointer (some ⟨g, 0, none⟩)] w fun e w' => e = .returned (.int .i64 (ls.length : Nat)) ∧ w = w' := by
  obtain ⟨A, n, c, bs, hM, rfl⟩ := h
  have hn := hM.n_eq
  rw [← hn]
  exact mlen_any hM
theorem MA.size (h : MA w base g F ls) : Calls Try.prog 11 #[.pointer (some ⟨g, 0, none⟩)] w fun e w' => e = .returned (.int .i64 (total ls : Nat)) ∧ w = w' := by
  obtain ⟨A, n, c, bs, hM, rfl⟩ := h
  exact msize_any hM
set_option maxHeartbeats 1000000 in
theorem same_any (h : MA w base g F ls) {base' g' : Nat} {F' : Nat → Prop} (h' : RA w base' g' F' ls) :
    Calls Try.prog 20 #[.pointer (some ⟨g, 0, none⟩), .pointer (some ⟨g', 0, none⟩)] w fun e w' => e = .returned (.bool true) ∧ Below w.heap.size w w' := by
  obtain ⟨A, n, c, bs, hR, rfl⟩ := h'
  have hn := hR.core.n_eq
  have k0 := hR.blk.cell 0
  simp at k0
  have htot := hR.core.le
  have hnle := hR.core.n_le
  have hlen := fun (w' : World) (hb : Below w.heap.size w w') => (h.below hb).len
  have hsz := fun (w' : World) (hb : Below w.heap.size w w') => (h.below hb).size
  have hrs := fun (w' : World) (hb : Below w.heap.size w w') => rsize_any (hR.below hb)
  rw [← hn] at hlen
  have Hn := Lib.hid hn
  clear hn
  go_enter Try.func20, Try.ntmps20
  go_wp2_with fail
  go_quiet (first
    | (go_at_call 10; exact Calls.quiet_of_same ((hlen _ (below_drewN (Below.refl _ _) _)).mono (fun _ _ h => ⟨h.1, h.2.symm⟩))) 
    | (go_at_call 11; exact Calls.quiet_of_same ((hsz _ (below_drewN (Below.refl _ _) _)).mono (fun _ _ h => ⟨h.1, h.2.symm⟩)))
    | (go_at_call 33; exact Calls.quiet_of_same ((hrs _ (below_drewN (Below.refl _ _) _)).mono (fun _ _ h => ⟨h.1, h.2.symm⟩))))
  clear k0 hlen hsz hrs
  have hbn := below_drewN (Below.refl w.heap.size w) nq
  generalize w.drewN nq = wd at *
  go_wp2_with fail
  go_loopw [5] (fun i wr => ∃ j : Nat, j ≤ n ∧ i = .int .i64 j ∧ Below w.heap.size w wr) (fun i _ => n - (intOf i).toNat)
  case atStart => exact ⟨0, by omega, rfl, hbn⟩
  case round =>
    obtain ⟨j, hj, rfl, hb⟩ := hrel
    have hRr := hR.below hb
    have k0 := hRr.blk.cell 0
    simp at k0
    by_cases hlt : j < n
    · have hltI : decide ((j : Int) < (n : Int)) = true := by simp; omega
      obtain ⟨b, l, hbi, hl⟩ := hRr.core.at_ hlt
      obtain ⟨_, ab, off, rfl, hcell⟩ := hRr.core.head hbi hl
      have htm := total_mem (List.mem_of_getElem? hl)
      have hlle : l.length ≤ 1048576 := by omega
      have hld := (h.below hb).load j 0 l.length ⟨by omega, by omega⟩ ⟨by decide, by decide⟩ ⟨by omega, by omega⟩
      have hfit : Fit ls j 0 l.length := fit_of (p := 0) (m := l.length) hl (by omega)
      have Hb := Lib.hid hbi
      have Hl := Lib.hid hl
      unfold headV at hcell
      clear hbi hl htm
      go_wp2_with fail
      refine hld.mono ?_
      clear hld
      rintro e w2 ⟨A2, n2, c2, er, x, rfl, hx, hn2, ho2, hb2⟩
      obtain ⟨rfl, rfl⟩ : er = 0 ∧ x = l := by
        rcases hx with ⟨_, rfl, j', q', k', l', e1, e2, e3, e4, _, rfl⟩ | ⟨hf, _⟩
        · obtain rfl : j' = j := by omega
          obtain rfl : q' = 0 := by omega
          obtain rfl : k' = l.length := by omega
          rw [Hl.out] at e4
          cases e4
          exact ⟨rfl, by rw [List.drop_zero, List.take_length]⟩
        · exact absurd hfit hf
      have hR2 := hRr.below hb2
      obtain ⟨_, ab', off', e', hcell2⟩ := hR2.core.head Hb.out Hl.out
      cases e'
      unfold headV at hcell2
      have kk := hR2.blk.cell 0
      simp at kk
      have hrd := (hR2.core.cut Hb.out Hl.out).2
      have hxl := (Reads.of_own ho2).len
      subst hxl
      clear hx hfit hcell k0
      go_wp2_with fail
      refine (words_same A2 _ _ _ c2 _ _ _ w2 (by omega) (Reads.of_own ho2) hrd).mono ?_
      rintro e w3 ⟨rfl, hd3⟩
      rw [sameB_refl]
      have ho3 := own_below ho2 (hd3.below _)
      go_wp2_with fail
      refine (spoil_row A2 _ c2 wr.heap.size _ w3 (by omega) ho3).mono ?_
      rintro e w4 ⟨rfl, ho4⟩
      have hs1 := hb.size
      have hs2 := hb2.size
      have hs3 := (hd3.below w2.heap.size).size
      have hb4 : Below w.heap.size w w4 := (below_cut (below_cut hb hb2 (Nat.le_refl _)) (hd3.below _) (Nat.le_refl _)).trans (ho4.to_below w.heap.size (by omega) (fun q _ hq => by have := ho3.lt q hq.symm; omega))
      go_wp2_with fail
      go_roundw
      case rel => exact ⟨j + 1, by omega, by go_num, hb4⟩
      case measure => simp [intOf]; omega
    · obtain rfl : j = n := by omega
      have hltI : decide ((j : Int) < (j : Int)) = false := by simp
      go_wp2_with fail
      go_ret
      exact ⟨rfl, hb⟩
set_option maxHeartbeats 1000000 in
theorem spoil_mem (h : MA w base g F ls) :
    Calls Try.prog 19 #[.pointer (some ⟨g, 0, none⟩), .int .i64 (ls.length : Nat)] w fun e w' => e = .returned (.tuple #[]) ∧ Off F w w' := by
  have hll : ls.length ≤ 1048576 := by have := h.u32; have := total_ge this.2.1; omega
  go_enter Try.func19, Try.ntmps19
  go_wp2_with fail
  go_loopw [4] (fun i wr => ∃ (j : Nat) (ls' : List (List Int)), j ≤ ls.length ∧ i = .int .i64 j ∧ MA wr base g F ls' ∧ Off F w wr) (fun i _ => ls.length - (intOf i).toNat)
  case atStart => exact ⟨0, ls, by omega, rfl, h, Off.refl _ _⟩
  case round =>
    obtain ⟨j, ls', hj, rfl, hm, ho⟩ := hrel
    by_cases hlt : j < ls.length
    · have hltI : decide ((j : Int) < (ls.length : Int)) = true := by simp; omega
      go_wp2_with fail
      refine (row_any 23130 0 _).mono ?_
      rintro e w2 ⟨A2, rfl, ho2, hb2⟩
      have hr2 := (Reads.of_own ho2).prefix_ (m := 1) (by omega)
      rw [← Ints_take] at hr2
      have hst := (hm.below hb2).store j 0 A2 2 [23130] ⟨by omega, by omega⟩ ⟨by decide, by decide⟩ (by decide) (by intro x hx; simp at hx; omega) hr2
      go_wp2_with fail
      refine hst.mono ?_
      rintro e w3 ⟨er, ls3, rfl, _, hm3, ho3⟩
      go_wp2_with fail
      go_roundw
      case rel => exact ⟨j + 1, ls3, by omega, by go_num, hm3, (ho.trans (Off.of_below _ hb2)).trans ho3⟩
      case measure => simp [intOf]; omega
    · obtain rfl : j = ls.length := by omega
      have hltI : decide ((ls.length : Int) < (ls.length : Int)) = false := by simp
      go_wp2_with fail
      refine (hm.drop 0).mono ?_
      rintro e w3 ⟨rfl, F', hm3, ho3, _⟩
      go_wp2_with fail
      go_end0
      exact ⟨rfl, ho.trans ho3⟩
end
end Go.Proofs.Ytfkeogaagolnoaa
