/- A memory's rooms, as the walks know them: what does not hang on the memory's own block. -/
import Derived.Test.YtfkeogaagolnoaaAwake
namespace Go.Proofs.Ytfkeogaagolnoaa
open Go.RowKit

/-- what the program's memory and the document's have in common -/
structure Core (w : World) (base g : Nat) (A : Option Addr) (n c : Nat) (bs : List (Nat × Nat)) (ls : List (List Int)) : Prop where
  glt : g < w.heap.size
  row : Lst w base 28 A n c (heads bs ls)
  rooms : Rooms w base bs ls
  low : base ≤ g
  le : total ls ≤ 1048576
  pos : ∀ l ∈ ls, 0 < l.length
  u32 : ∀ l ∈ ls, Under 4294967296 l
  apart : ∀ a, A = some a → a.block ≠ g ∧ ∀ b ∈ bs, b.1 ≠ a.block
  off_g : ∀ b ∈ bs, b.1 ≠ g
theorem total_take (ls : List (List Int)) (k : Nat) : total (ls.take k) + total (ls.drop k) = total ls := by rw [← total_append, List.take_append_drop]
section
variable {w w' : World} {base g n c : Nat} {A : Option Addr} {bs : List (Nat × Nat)} {ls : List (List Int)} {S : Nat → Prop}
theorem MemS.core (h : MemS w base g A n c bs ls) : Core w base g A n c bs ls := ⟨h.blk.lt, h.row, h.rooms, h.low, h.le, h.pos, h.u32, h.apart, h.off_g⟩
theorem Core.mem (h : Core w base g A n c bs ls) (hb : Blk w g 56 #[.slice A n c, .int .i64 (total ls : Nat)]) : MemS w base g A n c bs ls := ⟨hb, h.row, h.rooms, h.low, h.le, h.pos, h.u32, h.apart, h.off_g⟩
theorem Core.n_eq (h : Core w base g A n c bs ls) : n = ls.length := by
  have := h.row.len
  rw [heads_length h.rooms.len] at this
  omega
theorem Core.n_le (h : Core w base g A n c bs ls) : n ≤ 1048576 := by
  have := total_ge h.pos
  have := h.le
  have := h.n_eq
  omega
theorem Core.off (h : Core w base g A n c bs ls) (ho : Off S w w') (hn : ∀ k, foot g A bs k → ¬ S k) : Core w' base g A n c bs ls :=
  ⟨Nat.lt_of_lt_of_le h.glt ho.size, h.row.off ho (fun a ha => hn _ (.inr (.inl ⟨a, ha, rfl⟩))), h.rooms.off ho (fun b hb => hn _ (.inr (.inr ⟨b, hb, rfl⟩))), h.low, h.le, h.pos, h.u32, h.apart, h.off_g⟩
theorem Core.below (h : Core w base g A n c bs ls) (hb : Below w.heap.size w w') : Core w' base g A n c bs ls := h.off (Off.of_below (fun _ => False) hb) fun _ _ h => h
theorem Core.foot_lt (h : Core w base g A n c bs ls) {k : Nat} (hk : foot g A bs k) : base ≤ k ∧ k < w.heap.size := by
  rcases hk with rfl | ⟨a, ha, rfl⟩ | ⟨b, hb, rfl⟩
  · exact ⟨h.low, h.glt⟩
  · exact h.row.lt ha
  · exact h.rooms.lt hb
/-- its own block turned, nothing else -/
theorem Core.own_turned (h : Core w base g A n c bs ls) (ho : Off (fun k => k = g) w w') : Core w' base g A n c bs ls :=
  ⟨Nat.lt_of_lt_of_le h.glt ho.size, h.row.off ho (fun a ha => (h.apart a ha).1), h.rooms.off ho (fun b hb => h.off_g b hb), h.low, h.le, h.pos, h.u32, h.apart, h.off_g⟩
theorem Core.base_le {base' : Nat} (h : Core w base g A n c bs ls) (hb : base' ≤ base) : Core w base' g A n c bs ls :=
  ⟨h.glt, (by
    rcases h.row with h | ⟨h1, h2, h3, h4⟩
    · exact .inl (own_base h hb)
    · exact .inr ⟨h1, h2, fun a ha => ⟨Nat.le_trans hb (h3 a ha).1, (h3 a ha).2⟩, h4⟩), ⟨h.rooms.len, fun i b l hb' hl => own_base (h.rooms.own i b l hb' hl) hb, h.rooms.ne⟩, Nat.le_trans hb h.low, h.le, h.pos, h.u32, h.apart, h.off_g⟩
theorem Core.base_le' (h : Core w base g A n c bs ls) : base ≤ w.heap.size := Nat.le_of_lt (Nat.lt_of_le_of_lt h.low h.glt)
theorem Core.head (h : Core w base g A n c bs ls) {i : Nat} {b : Nat × Nat} {l : List Int} (hb : bs[i]? = some b) (hl : ls[i]? = some l) :
    i < n ∧ ∃ ab off, A = some ⟨ab, off, none⟩ ∧ w.cell? ⟨ab, off + i, none⟩ = some (headV b l) := by
  have hi : i < n := by rw [h.n_eq]; exact (List.getElem?_eq_some_iff.1 hl).1
  obtain ⟨ad, u, hA, _, hu, hc⟩ := h.row.reads.at_ hi
  rw [heads_at hb hl] at hu
  cases hu
  obtain ⟨ab, off, spot⟩ := ad
  have hs : spot = none := by
    have h0 := World.cell?_spot hc
    unfold Addr.add at h0
    split at h0
    · exact h0
    · rcases Nat.eq_zero_or_pos i with h' | h'
      · subst h'; rename_i hn; exact absurd rfl hn
      · obtain ⟨ad0, u0, e0, _, _, hc0⟩ := h.row.reads.at_ (k := 0) (by omega)
        rw [hA] at e0
        cases e0
        simpa [Addr.add] using World.cell?_spot hc0
  subst hs
  exact ⟨hi, ab, off, hA, by rw [← Go.WideShapes.add_plain]; exact hc⟩
theorem Core.cut (h : Core w base g A n c bs ls) {i : Nat} {b : Nat × Nat} {l : List Int} (hb : bs[i]? = some b) (hl : ls[i]? = some l) :
    l.length ≤ b.2 ∧ Reads w w.heap.size 1 (some ⟨b.1, 0, none⟩) l.length (Ints .u32 l) :=
  ⟨own_cap (h.rooms.own i b l hb hl), Reads.of_own (h.rooms.own i b l hb hl)⟩
/-- the i-th room: where it lies -/
theorem Core.at_ (h : Core w base g A n c bs ls) {i : Nat} (hi : i < n) : ∃ b l, bs[i]? = some b ∧ ls[i]? = some l := by
  have h1 := h.n_eq
  have h2 := h.rooms.len
  exact ⟨bs[i], ls[i], List.getElem?_eq_getElem (by omega), List.getElem?_eq_getElem (by omega)⟩
/-- a room more -/
theorem Core.roomed (h : Core w base g A n c bs ls) {w2 w4 w5 : World} {A3 A4 : Option Addr} {c3 c4 : Nat} {l : List Int} (h0 : 0 < l.length) (hu : Under 4294967296 l) (h1 : total ls + l.length ≤ 1048576) (hb : Below w.heap.size w w2)
    (ho3 : w2.ownsRow w.heap.size 36 1 (.slice A3 l.length c3) l.length (Ints .u32 l)) (ho4 : w4.ownsRow base 28 1 (.slice A4 (n + 1) c4) (n + 1) (heads bs ls ++ [.slice A3 l.length c3]))
    (hg4 : (w2.alloc (.cells #[.slice A3 l.length c3] 28)).grownBy w4 (A.map (·.block))) (hat : ∀ a, A4 = some a → A.map (·.block) = some a.block ∨ w2.heap.size < a.block) (hoff5 : Off (fun k => k = g) w4 w5) :
    ∃ b : Nat × Nat, Core w5 base g A4 (n + 1) c4 (bs ++ [b]) (ls ++ [l]) ∧
      Off (fun k => k = g ∨ some k = A.map (·.block)) w w5 ∧ w.heap.size ≤ b.1 ∧ (∀ a, A4 = some a → A.map (·.block) = some a.block ∨ w.heap.size ≤ a.block) := by
  obtain ⟨gb, cb, hv, hgb⟩ := ho3.form h0
  cases hv
  have hoff4 : Off (fun k => some k = A.map (·.block)) w w4 := ((Off.of_below _ hb).alloc _).trans (Off.of_grown hg4 (fun k hk => hk.symm))
  have hoff : Off (fun k => k = g ∨ some k = A.map (·.block)) w w5 :=
    (hoff4.mono (fun k _ hk => .inr hk)).trans (hoff5.mono (fun k _ hk => .inl hk))
  have hgA : ¬ some g = A.map (·.block) := fun e => by
    rcases A with _ | a
    · cases e
    · simp at e; exact (h.apart a rfl).1 e.symm
  have hbA : ∀ b ∈ bs, ¬ some b.1 = A.map (·.block) := fun b hb e => by
    rcases A with _ | a
    · cases e
    · simp at e; exact (h.apart a rfl).2 b hb e
  have hsz : w.heap.size ≤ w2.heap.size := hb.size
  have hglt := h.glt
  have hne4 : (Value.slice A4 (n + 1) c4).ownBlock ≠ some g := fun e => by
    rcases A4 with _ | a
    · cases e
    · have e' : a.block = g := by simpa [Value.ownBlock] using e
      rcases hat a rfl with h' | h'
      · exact hgA (by rw [h', e'])
      · omega
  have hown3 : w4.ownsRow w.heap.size 36 1 (.slice (some ⟨gb, 0, none⟩) l.length c3) l.length (Ints .u32 l) := by
    refine (ho3.alloc (.cells #[.slice (some ⟨gb, 0, none⟩) l.length c3] 28)).kept hg4 (.inr fun e => ?_)
    rcases A with _ | a
    · cases e
    · have e' : gb = a.block := by simpa [Value.ownBlock] using e
      have := (h.row.lt rfl).2
      omega
  refine ⟨(gb, c3), ⟨?_, ?_, ⟨by simp [h.rooms.len], fun i b l' hb' hl' => ?_, fun i j b b' hij hb1 hb2 => ?_⟩, h.low, by rw [total_append, total_one]; exact h1, fun l' hl' => ?_, fun l' hl' => ?_, fun a ha => ?_, fun b hb' => ?_⟩, hoff, hgb.1, fun a ha => ?_⟩
  · exact Nat.lt_of_lt_of_le hglt hoff.size
  · refine .inl ?_
    rw [heads_snoc _ _ h.rooms.len]
    exact own_off ho4 hoff5 (fun k hk e => hne4 (by rw [hk, e]))
  · have hlen := h.rooms.len
    rcases Nat.lt_or_ge i ls.length with hi | hi
    · rw [List.getElem?_append_left (by omega)] at hb' hl'
      have hm := List.mem_of_getElem? hb'
      exact own_off (h.rooms.own i b l' hb' hl') hoff (fun k hk => by
        cases hk
        rintro (hk | hk)
        · exact h.off_g b hm hk
        · exact hbA b hm hk)
    · rw [List.getElem?_append_right (by omega)] at hb' hl'
      have e0 : i - bs.length = 0 := by
        rcases Nat.eq_zero_or_pos (i - bs.length) with h' | h'
        · exact h'
        · rw [List.getElem?_eq_none (by simp; omega)] at hb'; cases hb'
      have e1 : i - ls.length = 0 := by omega
      rw [e0] at hb'
      rw [e1] at hl'
      simp at hb' hl'
      subst hb'
      subst hl'
      have hng : (Value.slice (some ⟨gb, 0, none⟩) l.length c3).ownBlock ≠ some g := fun e => by simp [Value.ownBlock] at e; omega
      exact own_base (own_off hown3 hoff5 (fun k hk e => hng (by subst e; exact hk))) (by have := h.low; omega)
  · have hlen := h.rooms.len
    rcases Nat.lt_or_ge i bs.length with hi | hi <;> rcases Nat.lt_or_ge j bs.length with hj | hj
    · rw [List.getElem?_append_left hi] at hb1
      rw [List.getElem?_append_left hj] at hb2
      exact h.rooms.ne i j b b' hij hb1 hb2
    · rw [List.getElem?_append_left hi] at hb1
      rw [List.getElem?_append_right hj] at hb2
      have := (h.rooms.lt (List.mem_of_getElem? hb1)).2
      have hm := List.mem_of_getElem? hb2
      simp at hm; subst hm
      show b.1 ≠ gb
      omega
    · rw [List.getElem?_append_right hi] at hb1
      rw [List.getElem?_append_left hj] at hb2
      have := (h.rooms.lt (List.mem_of_getElem? hb2)).2
      have hm := List.mem_of_getElem? hb1
      simp at hm; subst hm
      show gb ≠ b'.1
      omega
    · rw [List.getElem?_append_right hi] at hb1
      rw [List.getElem?_append_right hj] at hb2
      have h1 := (List.getElem?_eq_some_iff.1 hb1).1
      have h2 := (List.getElem?_eq_some_iff.1 hb2).1
      simp at h1 h2
      omega
  · rcases List.mem_append.1 hl' with hl' | hl'
    · exact h.pos l' hl'
    · simp at hl'; subst hl'; exact h0
  · rcases List.mem_append.1 hl' with hl' | hl'
    · exact h.u32 l' hl'
    · simp at hl'; subst hl'; exact hu
  · have hA4 := hat a ha
    refine ⟨fun e => hne4 (by rw [ha]; simp [Value.ownBlock, e]), fun b hb' => ?_⟩
    rcases List.mem_append.1 hb' with hb' | hb'
    · have := (h.rooms.lt hb').2
      rcases hA4 with hA4 | hA4
      · intro e; exact hbA b hb' (by rw [hA4, e])
      · omega
    · simp at hb'; subst hb'
      show gb ≠ a.block
      rcases hA4 with hA4 | hA4
      · rcases A with _ | a0
        · cases hA4
        · have e' : a0.block = a.block := by simpa using hA4
          have := (h.row.lt rfl).2
          omega
      · omega
  · rcases List.mem_append.1 hb' with hb' | hb'
    · exact h.off_g b hb'
    · simp at hb'; subst hb'
      show gb ≠ g
      omega
  · rcases hat a ha with h' | h'
    · exact .inl h'
    · exact .inr (by omega)
theorem Core.stored (h : Core w base g A n c bs ls) {i : Nat} {b : Nat × Nat} {l l' : List Int} (hb : bs[i]? = some b) (hl : ls[i]? = some l) (hlen : l'.length = l.length) (hu : Under 4294967296 l')
    (ho : w'.ownsRow base 36 1 (headV b l) l.length (Ints .u32 l')) (hoff : Off (fun k => k = b.1) w w') : Core w' base g A n c bs (ls.set i l') := by
  have hbm := List.mem_of_getElem? hb
  have hlm := List.mem_of_getElem? hl
  refine ⟨?_, ?_, ⟨by rw [List.length_set]; exact h.rooms.len, fun j b' l2 hb' hl' => ?_, h.rooms.ne⟩, h.low, by rw [total_set hl hlen]; exact h.le, fun l2 hl2 => ?_, fun l2 hl2 => ?_, h.apart, h.off_g⟩
  · exact Nat.lt_of_lt_of_le h.glt hoff.size
  · rw [heads_set hl hlen]
    exact h.row.off hoff (fun a ha e => (h.apart a ha).2 b hbm e.symm)
  · by_cases hj : i = j
    · subst hj
      rw [hb] at hb'
      cases hb'
      rw [List.getElem?_set_self (List.getElem?_eq_some_iff.1 hl).1] at hl'
      cases hl'
      unfold headV at *
      rw [hlen]
      exact ho
    · rw [List.getElem?_set_ne hj] at hl'
      exact own_off (h.rooms.own j b' l2 hb' hl') hoff (fun k hk e => by
        cases hk
        exact h.rooms.ne j i b' b (Ne.symm hj) hb' hb e)
  · rcases List.mem_or_eq_of_mem_set hl2 with h2 | h2
    · exact h.pos l2 h2
    · subst h2; rw [hlen]; exact h.pos l hlm
  · rcases List.mem_or_eq_of_mem_set hl2 with h2 | h2
    · exact h.u32 l2 h2
    · subst h2; exact hu
theorem Core.taken (h : Core w base g A n c bs ls) {k : Nat} (hk : k ≤ n) : Core w base g A k k (bs.take k) (ls.take k) := by
  have hn := h.n_eq
  have hbl := h.rooms.len
  have hm : ∀ b ∈ bs.take k, b ∈ bs := fun b hb => List.mem_of_mem_take hb
  refine ⟨h.glt, .inr ⟨rfl, ?_, fun a ha => h.row.lt ha, by have := h.n_le; omega⟩, ⟨by simp; omega, fun i b l hb hl => ?_, fun i j b b' hij hb hb' => ?_⟩, h.low, ?_, fun l hl => h.pos l (List.mem_of_mem_take hl), fun l hl => h.u32 l (List.mem_of_mem_take hl), fun a ha => ⟨(h.apart a ha).1, fun b hb => (h.apart a ha).2 b (hm b hb)⟩, fun b hb => h.off_g b (hm b hb)⟩
  · rw [← heads_take]
    exact h.row.reads.prefix_ hk
  · rw [List.getElem?_take] at hb hl
    split at hb
    · rename_i hik
      rw [if_pos hik] at hl
      exact h.rooms.own i b l hb hl
    · cases hb
  · rw [List.getElem?_take] at hb hb'
    split at hb
    · split at hb'
      · exact h.rooms.ne i j b b' hij hb hb'
      · cases hb'
    · cases hb
  · have := total_take ls k
    have := h.le
    omega
end
theorem foot_take {g : Nat} {A : Option Addr} {bs : List (Nat × Nat)} {k j : Nat} (h : foot g A (bs.take k) j) : foot g A bs j := by
  rcases h with h | h | ⟨b, hb, h⟩
  · exact .inl h
  · exact .inr (.inl h)
  · exact .inr (.inr ⟨b, List.mem_of_mem_take hb, h⟩)
theorem total_take_succ {ls : List (List Int)} {i : Nat} {l : List Int} (h : ls[i]? = some l) : total (ls.take (i + 1)) = total (ls.take i) + l.length := by
  have hi := (List.getElem?_eq_some_iff.1 h).1
  have he : ls.take (i + 1) = ls.take i ++ [l] := by rw [List.take_add_one, h]; rfl
  rw [he, total_append, total_one]
theorem total_drop_succ {ls : List (List Int)} {i : Nat} {l : List Int} (h : ls[i]? = some l) : total (ls.drop i) = l.length + total (ls.drop (i + 1)) := by
  obtain ⟨hi, rfl⟩ := List.getElem?_eq_some_iff.1 h
  rw [List.drop_eq_getElem_cons hi, total_cons]
end Go.Proofs.Ytfkeogaagolnoaa
