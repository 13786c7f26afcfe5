/- Walks: the document's memory: Store, Copy. -/
import Derived.Test.YtfkeogaagolnoaaRml
namespace Go.Proofs.Ytfkeogaagolnoaa
open Go.RowKit

theorem ixo_low {l x : List Int} {p k : Nat} (hp : p ≤ l.length) (h : k < p) : ix (over l p x) k = ix l k := by
  unfold ix over
  simp only [List.getD_eq_getElem?_getD]
  rw [List.append_assoc, List.getElem?_append_left (by rw [List.length_take]; omega), List.getElem?_take_of_lt h]
theorem ixo_in {l x : List Int} {p k : Nat} (hp : p ≤ l.length) (h : k < x.length) : ix (over l p x) (p + k) = ix x k := by
  unfold ix over
  simp only [List.getD_eq_getElem?_getD]
  rw [List.append_assoc, List.getElem?_append_right (by rw [List.length_take]; omega), List.length_take, Nat.min_eq_left hp, Nat.add_sub_cancel_left, List.getElem?_append_left h]
theorem ixo_high {l x : List Int} {p k : Nat} (hp : p ≤ l.length) (h : p + x.length ≤ k) : ix (over l p x) k = ix l k := by
  unfold ix over
  simp only [List.getD_eq_getElem?_getD]
  rw [List.append_assoc, List.getElem?_append_right (by rw [List.length_take]; omega), List.length_take, Nat.min_eq_left hp, List.getElem?_append_right (by omega), List.getElem?_drop]
  congr 2
  omega
theorem over_step {l x : List Int} {p k : Nat} (hp : p + x.length ≤ l.length) (hk : k < x.length) : (over l p (x.take k)).set (p + k) (ix x k) = over l p (x.take (k + 1)) := by
  have h1 : (over l p (x.take k)).length = l.length := over_length (by simp; omega)
  have h2 : (over l p (x.take (k + 1))).length = l.length := over_length (by simp; omega)
  refine ext_ix (by rw [List.length_set, h1, h2]) fun j hj => ?_
  rw [List.length_set, h1] at hj
  by_cases e : p + k = j
  · subst e
    rw [ix_set_same (by omega), ixo_in (by omega) (by simp; omega), ix_take (by omega)]
  · rw [ix_set_other e]
    by_cases h3 : j < p
    · rw [ixo_low (by omega) h3, ixo_low (by omega) h3]
    · obtain ⟨q, rfl⟩ : ∃ q, j = p + q := ⟨j - p, by omega⟩
      by_cases h4 : q < k
      · rw [ixo_in (by omega) (by simp; omega), ixo_in (by omega) (by simp; omega), ix_take h4, ix_take (by omega)]
      · rw [ixo_high (by omega) (by simp; omega), ixo_high (by omega) (by simp; omega)]
theorem set_same {ls : List (List Int)} {i : Nat} {l : List Int} (h : ls[i]? = some l) : ls.set i l = ls := by
  obtain ⟨hi, rfl⟩ := List.getElem?_eq_some_iff.1 h
  exact List.set_getElem_self hi
section
variable {w : World} {base g n c : Nat} {A : Option Addr} {bs : List (Nat × Nat)} {ls : List (List Int)}
theorem rstore_bad (h : RmS w base g A n c bs ls) (i p : Int) (Aw : Option Addr) (nw cw : Nat) (hi : -9223372036854775808 ≤ i ∧ i ≤ 9223372036854775807) (hp : -9223372036854775808 ≤ p ∧ p ≤ 9223372036854775807) (hm : nw ≤ 35184372087808) (hbad : ¬ Fit ls i p nw) :
    Calls Try.prog 31 #[.pointer (some ⟨g, 0, none⟩), .int .i64 i, .int .i64 p, .slice Aw nw cw] w fun e w' => e = .returned (.int .i64 220) ∧ w = w' := by
  have his := ris_any h i p nw hi hp (by omega) false ⟨fun h => (by cases h), fun h => absurd h hbad⟩
  go_enter Try.func31, Try.ntmps31
  go_wp2_with fail
  refine his.mono ?_
  rintro e w1 ⟨rfl, rfl⟩
  go_wp2
  go_ret
  exact ⟨rfl, rfl⟩
set_option maxHeartbeats 1000000 in
theorem rstore_ok (h : RmS w base g A n c bs ls) (i : Nat) (l x : List Int) (p : Nat) (Aw : Option Addr) (cw : Nat) (hl : ls[i]? = some l) (hm : p + x.length ≤ l.length) (hx : Under 4294967296 x) (hr : Reads w base 1 Aw x.length (Ints .u32 x)) :
    Calls Try.prog 31 #[.pointer (some ⟨g, 0, none⟩), .int .i64 i, .int .i64 p, .slice Aw x.length cw] w fun e w' =>
      e = .returned (.int .i64 0) ∧ RmS w' base g A n c bs (ls.set i (over l p x)) ∧ Off (fun k => foot g A bs k) w w' := by
  have hi := (List.getElem?_eq_some_iff.1 hl).1
  have htm := total_mem (List.mem_of_getElem? hl)
  have htot := h.core.le
  have hn := h.core.n_eq
  have hnle := h.core.n_le
  have hbl := h.core.rooms.len
  have hib : i < n := by omega
  obtain ⟨b, l2, hbi, hl2⟩ := h.core.at_ hib
  rw [hl] at hl2
  cases hl2
  have his := ris_any h i p x.length (by omega) (by omega) (by omega) true ⟨fun _ => fit_of hl hm, fun _ => rfl⟩
  have Hl := Lib.hid hl
  have Hb := Lib.hid hbi
  have hcap := (h.core.cut hbi hl).1
  obtain ⟨_, ab, off, rfl, hcell0⟩ := h.core.head hbi hl
  clear hn hl hi hbi hbl hcell0
  have hA : ab ≠ b.1 := fun e => (h.core.apart _ rfl).2 b (List.mem_of_getElem? Hb.out) e.symm
  have hg : g ≠ b.1 := fun e => h.core.off_g b (List.mem_of_getElem? Hb.out) e.symm
  go_enter Try.func31, Try.ntmps31
  go_wp2_with fail
  refine his.mono ?_
  rintro e w1 ⟨rfl, rfl⟩
  clear his
  go_wp2_with fail
  go_loopw [9] (fun j wr => ∃ k : Nat, k ≤ x.length ∧ j = .int .i64 k ∧ RmS wr base g (some ⟨ab, off, none⟩) n c bs (ls.set i (over l p (x.take k))) ∧ Off (fun k => k = b.1) w wr) (fun j _ => x.length - (intOf j).toNat)
  case atStart => exact ⟨0, by omega, rfl, by rw [List.take_zero, over_nil, set_same Hl.out]; exact h, Off.refl _ _⟩
  case round =>
    obtain ⟨k, hk, rfl, hmm, ho⟩ := hrel
    have hiB := (h.core.rooms.lt (List.mem_of_getElem? Hb.out)).1
    by_cases hlt : k < x.length
    · have hlk : (ls.set i (over l p (x.take k)))[i]? = some (over l p (x.take k)) := List.getElem?_set_self (List.getElem?_eq_some_iff.1 Hl.out).1
      have hlen : (over l p (x.take k)).length = l.length := over_length (by simp; omega)
      obtain ⟨_, ab', off', e', hcell⟩ := hmm.core.head Hb.out hlk
      cases e'
      have hown := hmm.core.rooms.own i b _ Hb.out hlk
      unfold headV at hcell hown
      rw [hlen] at hcell hown
      have k0 := hmm.blk.cell 0
      simp at k0
      obtain ⟨ad, rfl, hadb, hcx⟩ := (hr.off ho h.core.base_le' (fun a ha e => by
        obtain ⟨a', e', hlt', _⟩ := hr.2 (by omega)
        rw [ha] at e'
        cases e'
        omega)).int_at hlt
      have hstep := over_step hm hlt
      have hlen2 : (over l p (x.take (k + 1))).length = (over l p (x.take k)).length := by rw [hlen, over_length (by simp; omega)]
      have Hk := Lib.hid hlk
      have Hlen := Lib.hid hlen
      have Hstep := Lib.hid hstep
      have Hlen2 := Lib.hid hlen2
      clear hlk hlen hstep hlen2
      go_wp2
      refine wp_region_tail 15 (by kernel_rfl) (by kernel_rfl) ?_
      simp only [List.take_succ_cons, List.take_zero, List.drop_succ_cons, List.drop_zero]
      repeat (go_big_quiet_step (fail))
      refine wpQuiet_nil ?_
      have hmd := hmm.below (Below.refl wr.heap.size wr).drew
      have hod := ho.drew
      have hownd := own_below hown (Below.refl wr.heap.size wr).drew
      clear hmm ho hown hcell k0 hcx
      generalize wr.drew = wd at *
      have hci := own_int_at hownd (k := p + k) (by omega)
      have hfi := hownd.frozenAt (p + k)
      go_wp2_with fail
      go_roundw
      case rel =>
        have hown2 := own_int_set hownd (p + k) (ix x k)
        rw [Hstep.out] at hown2
        have ho2 := (Off.refl (fun q => q = b.1) wd).set_ (p := ⟨b.1, p + k, none⟩) (.inl rfl) (.int .u32 (ix x k))
        have hC2 := hmd.core.stored Hb.out Hk.out Hlen2.out (over_under (h.core.u32 l (List.mem_of_getElem? Hl.out)) (hx.take _)) (by unfold headV; rw [Hlen.out]; exact hown2) ho2
        rw [List.set_set] at hC2
        exact ⟨k + 1, by omega, by go_num, ⟨hmd.blk.off ho2 hg, hC2⟩, hod.trans ho2⟩
      case measure => simp [intOf]; omega
    · obtain rfl : k = x.length := by omega
      rw [List.take_of_length_le (Nat.le_refl _)] at hmm
      go_wp2
      go_ret
      exact ⟨rfl, hmm, ho.mono (fun q _ hq => .inr (.inr ⟨b, List.mem_of_getElem? Hb.out, hq⟩))⟩
set_option maxHeartbeats 1000000 in
theorem rcopy_any (h : RmS w base g A n c bs ls) :
    Calls Try.prog 17 #[.pointer (some ⟨g, 0, none⟩)] w fun e w' => ∃ g2 A2 n2 c2 bs2, e = .returned (.pointer (some ⟨g2, 0, none⟩)) ∧ RmS w' w.heap.size g2 A2 n2 c2 bs2 ls ∧ Below w.heap.size w w' := by
  have hne := h.core.n_eq
  have Hne := Lib.hid hne
  clear hne
  have hb0 := (Below.refl w.heap.size w).alloc (Nat.le_refl _) (.cells #[.slice none 0 0] 42)
  have hB := Blk.new w 42 #[.slice none 0 0]
  have hC := Core.empty (w.alloc (.cells #[.slice none 0 0] 42)) w.heap.size (by simp) (Nat.le_refl _)
  have hnle := h.core.n_le
  have htot := h.core.le
  go_enter Try.func17, Try.ntmps17
  go_wp2_with fail
  generalize w.alloc (.cells #[.slice none 0 0] 42) = wa at *
  go_loopw [4] (fun i wr => ∃ (j : Nat) (A3 : Option Addr) (c3 : Nat) (bs3 : List (Nat × Nat)), j ≤ n ∧ i = .int .i64 j ∧ RmS wr w.heap.size w.heap.size A3 j c3 bs3 (ls.take j) ∧ Below w.heap.size w wr) (fun i _ => n - (intOf i).toNat)
  case atStart => exact ⟨0, none, 0, [], by omega, rfl, ⟨hB, hC⟩, hb0⟩
  case round =>
    obtain ⟨j, A3, c3, bs3, hj, rfl, hOr, hbr⟩ := hrel
    have hm := h.below hbr
    have k0 := hm.blk.cell 0
    simp at k0
    by_cases hlt : j < n
    · have hltI : decide ((j : Int) < (n : Int)) = true := by simp; omega
      obtain ⟨b, l, hb, hl⟩ := hm.core.at_ hlt
      obtain ⟨_, ab, off, rfl, hcell⟩ := hm.core.head hb hl
      have hpos := h.core.pos l (List.mem_of_getElem? hl)
      have hul := h.core.u32 l (List.mem_of_getElem? hl)
      have htm := total_take_succ hl
      have htk := total_take ls (j + 1)
      have hsn := take_snoc hl
      have hll : total (ls.take j) + l.length ≤ 1048576 := by omega
      have hlle : l.length ≤ 1048576 := by omega
      have Hb := Lib.hid hb
      have Hl := Lib.hid hl
      clear hb hl htm htk
      unfold headV at hcell
      go_wp2_with (at_make; refine mk_full sl32 rfl _ rfl _ _ rfl wr.heap.size l.length rfl rfl rfl rfl (by omega) (by omega) (Nat.le_refl _) ?_; intro w1 hown hgr)
      go_loopw [6] (fun q wi => ∃ k : Nat, k ≤ l.length ∧ q = .int .i64 k ∧ wi.ownsRow wr.heap.size 36 1 (.slice (some ⟨wr.heap.size, 0, none⟩) l.length l.length) l.length (Ints .u32 (mid l l.length k)) ∧ Below wr.heap.size wr wi) (fun q _ => l.length - (intOf q).toNat)
      case atStart => exact ⟨0, by omega, rfl, by rw [mid_zero, Ints_replicate]; exact hown, (Below.refl _ _).grown hgr (Nat.le_refl _) (fun _ h => by cases h)⟩
      case round =>
        rename_i wi
        obtain ⟨k, hk, rfl, ho, hbi⟩ := hrel
        have hmi := hm.below hbi
        have hOi := hOr.below hbi
        by_cases hlk : k < l.length
        · obtain ⟨_, ab', off', e', hcell'⟩ := hmi.core.head Hb.out Hl.out
          cases e'
          unfold headV at hcell'
          have hci := own_int_at (hmi.core.rooms.own j b l Hb.out Hl.out) (k := k) hlk
          have kk0 := hmi.blk.cell 0
          simp at kk0
          have hc1 := own_int_at ho hlk
          have hf1 := ho.frozenAt k
          go_wp2_with fail
          go_roundw
          case rel => exact ⟨k + 1, by omega, by go_num, by rw [← mid_set rfl hlk]; exact own_int_set ho k _, hbi.setCell (Nat.le_refl _) _⟩
          case measure => simp [intOf]; omega
        · obtain rfl : k = l.length := by omega
          rw [mid_all rfl] at ho
          have k2 := fun o => (hOi.blk.alloc o).cell 0
          have k3 := hOi.blk.cell 0
          simp at k2 k3
          have hgl := hOr.blk.lt
          have hga : ¬ some w.heap.size = A3.map (·.block) := fun e => by
            rcases A3 with _ | a
            · cases e
            · simp at e; exact (hOr.core.apart a rfl).1 e.symm
          go_wp2_with (at_builtin; refine ap_lst slRooms _ rfl _ _ rfl hOi.core.row _ _ rfl rfl rfl (by omega) (by omega) (by have := hbi.size; have := hbr.size; omega) ?_; intro A4 c4 w4 ho4 hg4 hat4; have hoff : Off (fun k => some k = A3.map (·.block)) _ w4 := ((Off.refl _ _).alloc _).trans (Off.of_grown hg4 (fun k hk => hk.symm)); have kb := hOi.blk.off hoff hga; have p0 := kb.cell 0; have p1 := kb.frozen 0; simp at p0)
          have kb2 : Blk (w4.setCell ⟨w.heap.size, 0, none⟩ (.slice A4 (j + 1) c4)) w.heap.size 42 #[.slice A4 (j + 1) c4] := by simpa using kb.set_ 0 (.slice A4 (j + 1) c4)
          have hof5 := (Off.refl (fun k => k = w.heap.size) w4).set_ (p := ⟨w.heap.size, 0, none⟩) (.inl rfl) (.slice A4 (j + 1) c4)
          have hfin := Core.roomed hOr.core (l := l) hpos hul hll hbi ho ho4 hg4 hat4 hof5
          rw [hsn] at hfin
          go_roundw
          case rel =>
            obtain ⟨b5, hC5, hO5, _, _⟩ := hfin
            exact ⟨j + 1, A4, c4, bs3 ++ [b5], by omega, by go_num, ⟨kb2, hC5⟩, hbr.trans (hO5.to_below w.heap.size hbr.size (fun q _ hq => by
              rcases hq with rfl | hq
              · exact Nat.le_refl _
              · rcases A3 with _ | a
                · cases hq
                · simp at hq; have := (hOr.core.row.lt rfl).1; omega))⟩
          case measure => simp [intOf]; omega
    · obtain rfl : j = n := by omega
      have hltI : decide ((j : Int) < (j : Int)) = false := by simp
      rw [List.take_of_length_le (by have := Hne.out; omega)] at hOr
      go_wp2_with fail
      go_ret
      exact ⟨_, _, _, _, _, rfl, hOr, hbr⟩
end
end Go.Proofs.Ytfkeogaagolnoaa
