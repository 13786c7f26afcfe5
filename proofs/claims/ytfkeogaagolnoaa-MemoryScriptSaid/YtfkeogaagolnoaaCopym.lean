/- Walks: a memory copied. -/
import Derived.Test.YtfkeogaagolnoaaDropm
import Derived.Deep.RegionLaw
namespace Go.Proofs.Ytfkeogaagolnoaa
open Go.RowKit

theorem Core.empty (w : World) (g : Nat) (hg : g < w.heap.size) {base : Nat} (hb : base ≤ g) : Core w base g none 0 0 [] [] :=
  ⟨hg, Lst.nil, ⟨rfl, fun i b l hb => (by simp at hb), fun i j b b' _ hb => (by simp at hb)⟩, hb, by decide, fun l hl => (by cases hl), fun l hl => (by cases hl), fun a ha => (by cases ha), fun b hb => (by cases hb)⟩
theorem take_snoc {α : Type} {l : List α} {i : Nat} {x : α} (h : l[i]? = some x) : l.take i ++ [x] = l.take (i + 1) := by rw [List.take_add_one, h]; rfl
section
variable {w : World} {base g n c : Nat} {A : Option Addr} {bs : List (Nat × Nat)} {ls : List (List Int)}
set_option maxHeartbeats 1000000 in
theorem mcopy_any (h : MemS w base g A n c bs ls) :
    Calls Try.prog 18 #[.pointer (some ⟨g, 0, none⟩)] w fun e w' => ∃ g2 A2 n2 c2 bs2, e = .returned (.pointer (some ⟨g2, 0, none⟩)) ∧ MemS w' w.heap.size g2 A2 n2 c2 bs2 ls ∧ Below w.heap.size w w' := by
  obtain ⟨k0, k1⟩ : _ ∧ _ := And.intro (h.blk.cell 0) (h.blk.cell 1)
  obtain ⟨j0, j1⟩ : _ ∧ _ := And.intro (fun o => (h.blk.alloc o).cell 0) (fun o => (h.blk.alloc o).cell 1)
  simp at k0 k1 j0 j1
  have hne := h.n_eq
  have Hne := Lib.hid hne
  clear hne
  have hb0 := (Below.refl w.heap.size w).alloc (Nat.le_refl _) (.cells #[.slice none 0 0, .int .i64 (total ls : Nat)] 56)
  have hB := Blk.new w 56 #[.slice none 0 0, .int .i64 (total ls : Nat)]
  have hC := Core.empty (w.alloc (.cells #[.slice none 0 0, .int .i64 (total ls : Nat)] 56)) w.heap.size (by simp) (Nat.le_refl _)
  have hnle := h.core.n_le
  have htot := h.le
  go_enter Try.func18, Try.ntmps18
  go_wp2_with fail
  clear k0 k1 j0 j1
  generalize w.alloc (.cells #[.slice none 0 0, .int .i64 (total ls : Nat)] 56) = wa at *
  go_loopw [19] (fun i wr => ∃ (j : Nat) (A3 : Option Addr) (c3 : Nat) (bs3 : List (Nat × Nat)), j ≤ n ∧ i = .int .i64 j ∧ Blk wr w.heap.size 56 #[.slice A3 j c3, .int .i64 (total ls : Nat)] ∧ Core wr w.heap.size w.heap.size A3 j c3 bs3 (ls.take j) ∧ Below w.heap.size w wr) (fun i _ => n - (intOf i).toNat)
  case atStart => exact ⟨0, none, 0, [], by omega, rfl, hB, hC, hb0⟩
  case round =>
    obtain ⟨j, A3, c3, bs3, hj, rfl, hBr, hCr, hbr⟩ := hrel
    have hm := h.below hbr
    by_cases hlt : j < n
    · have hltI : decide ((j : Int) < (n : Int)) = true := by simp; omega
      obtain ⟨b, l, hb, hl⟩ := hm.core.at_ hlt
      obtain ⟨_, ab, off, rfl, hcell⟩ := hm.core.head hb hl
      obtain ⟨_, hr⟩ := hm.core.cut hb hl
      unfold headV at hcell
      have hpos := h.pos l (List.mem_of_getElem? hl)
      have hul := h.u32 l (List.mem_of_getElem? hl)
      have htm := total_take_succ hl
      have htk := total_take ls (j + 1)
      have hsn := take_snoc hl
      have hll : total (ls.take j) + l.length ≤ 1048576 := by omega
      have k0 := hBr.cell 0
      have hf := hBr.frozen 0
      simp at k0
      have hgl := hBr.lt
      have hga : ¬ some w.heap.size = A3.map (·.block) := fun e => by
        rcases A3 with _ | a
        · cases e
        · simp at e; exact (hCr.apart a rfl).1 e.symm
      have hlle : l.length ≤ 1048576 := by omega
      clear hb hl htm htk
      go_wp2_with fail
      go_region_law (first
        | (refine step_ap_lst slRooms _ rfl _ _ rfl (hCr.row.below hbq) _ _ rfl rfl rfl (by omega) (by omega) (by have := hbq.size; have := hbr.size; omega) ?_; intro A4 c4 w4 ho4 hg4 hat4; have hoff : Off (fun k => some k = A3.map (·.block)) wr w4 := ((Off.of_below _ hbq).alloc _).trans (Off.of_grown hg4 (fun k hk => hk.symm)); have kb := hBr.off hoff hga; have p0 := kb.cell 0; have p1 := kb.frozen 0; simp at p0)
        | (go_simp; go_at_call 24; refine (clone_any _ l.length _ l _ (by omega) hr.drew).mono ?_; rintro e w2 ⟨A5, c5, rfl, ho3, hb3⟩; have q0 := (hb3.cell (p := ⟨w.heap.size, 0, none⟩) hgl).trans k0; have hbq : Below wr.heap.size wr w2 := (Below.refl _ _).drew.trans hb3; have q2 := fun o => (World.cell?_alloc_lt w2 o ⟨w.heap.size, 0, none⟩ (Nat.lt_of_lt_of_le hgl hbq.size)).trans q0))
      all_goals
        have hB5 : Blk (w4.setCell ⟨w.heap.size, 0, none⟩ (.slice A4 (j + 1) c4)) w.heap.size 56 #[.slice A4 (j + 1) c4, .int .i64 (total ls : Nat)] := by simpa using kb.set_ 0 (.slice A4 (j + 1) c4)
        have hof5 := (Off.refl (fun k => k = w.heap.size) w4).set_ (p := ⟨w.heap.size, 0, none⟩) (.inl rfl) (.slice A4 (j + 1) c4)
        have hfin := Core.roomed hCr (l := l) (by omega) hul (by omega) hbq (own_base ho3 (Nat.le_refl _)) ho4 hg4 hat4 hof5
        rw [hsn] at hfin
        go_wp2_with fail
        go_roundw
        case rel =>
          obtain ⟨b5, hC5, hO5, _, _⟩ := hfin
          exact ⟨j + 1, A4, c4, bs3 ++ [b5], by omega, by go_num, hB5, hC5, hbr.trans (hO5.to_below w.heap.size hbr.size (fun q _ hq => by
            rcases hq with rfl | hq
            · exact Nat.le_refl _
            · rcases A3 with _ | a
              · cases hq
              · simp at hq; have := (hCr.row.lt rfl).1; omega))⟩
        case measure => simp [intOf]; omega
    · obtain rfl : j = n := by omega
      have hltI : decide ((j : Int) < (j : Int)) = false := by simp
      rw [List.take_of_length_le (by have := Hne.out; omega)] at hCr
      go_wp2_with fail
      go_ret
      exact ⟨_, _, _, _, _, rfl, hCr.mem hBr, hbr⟩
end
end Go.Proofs.Ytfkeogaagolnoaa
