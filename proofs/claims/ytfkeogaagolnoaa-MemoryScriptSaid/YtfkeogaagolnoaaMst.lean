/- A memory's rooms, as the walks know them. -/
import Derived.Test.YtfkeogaagolnoaaClone
import Derived.Test.YtfkeogaagolnoaaOff
import Derived.Test.YtfkeogaagolnoaaTail
namespace Go.Proofs.Ytfkeogaagolnoaa
open Go.RowKit

theorem slRooms : SliceOf Try.prog 40 28 (.slice none 0 0) 1 24 := ⟨Try.underlying40, by kernel_rfl, rfl, by decide⟩

def total (ls : List (List Int)) : Nat := (ls.map List.length).foldr (· + ·) 0
theorem total_nil : total [] = 0 := rfl
theorem total_cons (l : List Int) (r : List (List Int)) : total (l :: r) = l.length + total r := rfl
theorem total_append (a b : List (List Int)) : total (a ++ b) = total a + total b := by
  induction a with
  | nil => simp [total_nil]
  | cons x r ih => rw [List.cons_append, total_cons, total_cons, ih]; omega
theorem total_one (l : List Int) : total [l] = l.length := by rw [total_cons, total_nil]; omega

/-- the rooms' heads: block and room of each -/
def headV (b : Nat × Nat) (l : List Int) : Value := .slice (some ⟨b.1, 0, none⟩) l.length b.2
def heads : List (Nat × Nat) → List (List Int) → List Value
  | b :: bs, l :: ls => headV b l :: heads bs ls
  | _, _ => []
theorem heads_length : ∀ {bs : List (Nat × Nat)} {ls : List (List Int)}, bs.length = ls.length → (heads bs ls).length = ls.length
  | [], [], _ => rfl
  | _ :: bs, _ :: ls, h => by simp only [heads, List.length_cons]; rw [heads_length (by simpa using h)]
theorem heads_at : ∀ {bs : List (Nat × Nat)} {ls : List (List Int)} {i : Nat} {b : Nat × Nat} {l : List Int}, bs[i]? = some b → ls[i]? = some l → (heads bs ls)[i]? = some (headV b l)
  | _ :: _, _ :: _, 0, _, _, hb, hl => by simp at hb hl; subst hb; subst hl; rfl
  | _ :: bs, _ :: ls, i + 1, _, _, hb, hl => by simp only [heads, List.getElem?_cons_succ] at *; exact heads_at hb hl
  | [], _, _, _, _, hb, _ => by simp at hb
  | _ :: _, [], _, _, _, _, hl => by simp at hl
theorem heads_snoc : ∀ {bs : List (Nat × Nat)} {ls : List (List Int)} (b : Nat × Nat) (l : List Int), bs.length = ls.length → heads (bs ++ [b]) (ls ++ [l]) = heads bs ls ++ [headV b l]
  | [], [], _, _, _ => rfl
  | _ :: bs, _ :: ls, b, l, h => by simp only [List.cons_append, heads]; rw [heads_snoc b l (by simpa using h)]
theorem heads_take : ∀ {bs : List (Nat × Nat)} {ls : List (List Int)} (k : Nat), (heads bs ls).take k = heads (bs.take k) (ls.take k)
  | _, _, 0 => by simp [heads]
  | [], _, _ + 1 => by simp [heads]
  | _ :: _, [], _ + 1 => by simp [heads]
  | _ :: bs, _ :: ls, k + 1 => by simp only [heads, List.take_succ_cons]; rw [heads_take]
theorem heads_oneCell : ∀ {bs : List (Nat × Nat)} {ls : List (List Int)}, ∀ u ∈ heads bs ls, u.oneCell' = true
  | [], [], u, h => by simp [heads] at h
  | [], _ :: _, u, h => by simp [heads] at h
  | _ :: _, [], u, h => by simp [heads] at h
  | _ :: bs, _ :: ls, u, h => by
    rcases List.mem_cons.1 h with rfl | h
    · rfl
    · exact heads_oneCell u h

/-- each room is a row of its own, apart from the others -/
structure Rooms (w : World) (base : Nat) (bs : List (Nat × Nat)) (ls : List (List Int)) : Prop where
  len : bs.length = ls.length
  own : ∀ (i : Nat) (b : Nat × Nat) (l : List Int), bs[i]? = some b → ls[i]? = some l → w.ownsRow base 36 1 (headV b l) l.length (Ints .u32 l)
  ne : ∀ (i j : Nat) (b b' : Nat × Nat), i ≠ j → bs[i]? = some b → bs[j]? = some b' → b.1 ≠ b'.1

/-- a memory at block g -/
structure MemS (w : World) (base g : Nat) (A : Option Addr) (n c : Nat) (bs : List (Nat × Nat)) (ls : List (List Int)) : Prop where
  blk : Blk w g 56 #[.slice A n c, .int .i64 (total ls : Nat)]
  row : Lst w base 28 A n c (heads bs ls)
  rooms : Rooms w base bs ls
  low : base ≤ g
  le : total ls ≤ 1048576
  pos : ∀ l ∈ ls, 0 < l.length
  u32 : ∀ l ∈ ls, Under 4294967296 l
  apart : ∀ a, A = some a → a.block ≠ g ∧ ∀ b ∈ bs, b.1 ≠ a.block
  off_g : ∀ b ∈ bs, b.1 ≠ g

/-- the blocks of a memory -/
def foot (g : Nat) (A : Option Addr) (bs : List (Nat × Nat)) (k : Nat) : Prop := k = g ∨ (∃ a, A = some a ∧ k = a.block) ∨ ∃ b ∈ bs, k = b.1

section
variable {w w' : World} {base g n c : Nat} {A : Option Addr} {bs : List (Nat × Nat)} {ls : List (List Int)} {S : Nat → Prop}
theorem MemS.n_eq (h : MemS w base g A n c bs ls) : n = ls.length := by
  have := h.row.len
  rw [heads_length h.rooms.len] at this
  omega
theorem total_mem : ∀ {ls : List (List Int)} {l : List Int}, l ∈ ls → l.length ≤ total ls
  | x :: r, l, h => by
    rw [total_cons]
    rcases List.mem_cons.1 h with rfl | h
    · omega
    · have := total_mem h; omega
theorem total_ge : ∀ {ls : List (List Int)}, (∀ l ∈ ls, 0 < l.length) → ls.length ≤ total ls
  | [], _ => Nat.zero_le _
  | x :: r, h => by
    have h1 := h x (by simp)
    have h2 := total_ge (ls := r) (fun l hl => h l (by simp [hl]))
    rw [total_cons, List.length_cons]
    omega
theorem MemS.n_le (h : MemS w base g A n c bs ls) : n ≤ 1048576 := by
  have := total_ge h.pos
  have := h.le
  have := h.n_eq
  omega
theorem Rooms.off (h : Rooms w base bs ls) (ho : Off S w w') (hn : ∀ b ∈ bs, ¬ S b.1) : Rooms w' base bs ls :=
  ⟨h.len, fun i b l hb hl => own_off (h.own i b l hb hl) ho fun k hk => by cases hk; exact hn b (List.mem_of_getElem? hb), h.ne⟩
theorem Rooms.lt (h : Rooms w base bs ls) {b : Nat × Nat} (hb : b ∈ bs) : base ≤ b.1 ∧ b.1 < w.heap.size := by
  obtain ⟨i, hi, e⟩ := List.getElem_of_mem hb
  have hl : i < ls.length := by have := h.len; omega
  exact (h.own i b ls[i] (by rw [List.getElem?_eq_getElem hi, e]) (List.getElem?_eq_getElem hl)).lt b.1 rfl
theorem MemS.off (h : MemS w base g A n c bs ls) (ho : Off S w w') (hn : ∀ k, foot g A bs k → ¬ S k) : MemS w' base g A n c bs ls :=
  ⟨h.blk.off ho (hn g (.inl rfl)), h.row.off ho (fun a ha => hn _ (.inr (.inl ⟨a, ha, rfl⟩))), h.rooms.off ho (fun b hb => hn _ (.inr (.inr ⟨b, hb, rfl⟩))), h.low, h.le, h.pos, h.u32, h.apart, h.off_g⟩
theorem MemS.below (h : MemS w base g A n c bs ls) (hb : Below w.heap.size w w') : MemS w' base g A n c bs ls := h.off (Off.of_below (fun _ => False) hb) fun _ _ h => h
theorem MemS.drewN (h : MemS w base g A n c bs ls) (m : Nat) : MemS (w.drewN m) base g A n c bs ls := h.below (below_drewN (Below.refl _ _) m)
theorem MemS.foot_lt (h : MemS w base g A n c bs ls) {k : Nat} (hk : foot g A bs k) : base ≤ k ∧ k < w.heap.size := by
  rcases hk with rfl | ⟨a, ha, rfl⟩ | ⟨b, hb, rfl⟩
  · exact ⟨h.low, h.blk.lt⟩
  · exact h.row.lt ha
  · exact h.rooms.lt hb

/-- a room more -/
theorem MemS.roomed (h : MemS w base g A n c bs ls) {w2 w4 : World} {A3 A4 : Option Addr} {c3 c4 : Nat} {l : List Int} (h0 : 0 < l.length) (hu : Under 4294967296 l) (h1 : total ls + l.length ≤ 1048576) (hb : Below w.heap.size w w2)
    (ho3 : w2.ownsRow w.heap.size 36 1 (.slice A3 l.length c3) l.length (Ints .u32 l)) (ho4 : w4.ownsRow base 28 1 (.slice A4 (n + 1) c4) (n + 1) (heads bs ls ++ [.slice A3 l.length c3]))
    (hg4 : (w2.alloc (.cells #[.slice A3 l.length c3] 28)).grownBy w4 (A.map (·.block))) (hat : ∀ a, A4 = some a → A.map (·.block) = some a.block ∨ w2.heap.size < a.block) :
    ∃ b : Nat × Nat, MemS ((w4.setCell ⟨g, 0, none⟩ (.slice A4 (n + 1) c4)).setCell ⟨g, 1, none⟩ (.int .i64 (total (ls ++ [l]) : Nat))) base g A4 (n + 1) c4 (bs ++ [b]) (ls ++ [l]) ∧
      Off (fun k => k = g ∨ some k = A.map (·.block)) w ((w4.setCell ⟨g, 0, none⟩ (.slice A4 (n + 1) c4)).setCell ⟨g, 1, none⟩ (.int .i64 (total (ls ++ [l]) : Nat))) ∧ w.heap.size ≤ b.1 ∧ (∀ a, A4 = some a → A.map (·.block) = some a.block ∨ w.heap.size ≤ a.block) := by
  obtain ⟨gb, cb, hv, hgb⟩ := ho3.form h0
  cases hv
  have hoff4 : Off (fun k => some k = A.map (·.block)) w w4 := ((Off.of_below _ hb).alloc _).trans (Off.of_grown hg4 (fun k hk => hk.symm))
  have hoff : Off (fun k => k = g ∨ some k = A.map (·.block)) w ((w4.setCell ⟨g, 0, none⟩ (.slice A4 (n + 1) c4)).setCell ⟨g, 1, none⟩ (.int .i64 (total (ls ++ [l]) : Nat))) :=
    ((hoff4.mono (fun k _ hk => .inr hk)).set_ (p := ⟨g, 0, none⟩) (.inl (.inl rfl)) _).set_ (p := ⟨g, 1, none⟩) (.inl (.inl rfl)) _
  have hgA : ¬ some g = A.map (·.block) := fun e => by
    rcases A with _ | a
    · cases e
    · simp at e; exact (h.apart a rfl).1 e.symm
  have hbA : ∀ b ∈ bs, ¬ some b.1 = A.map (·.block) := fun b hb e => by
    rcases A with _ | a
    · cases e
    · simp at e; exact (h.apart a rfl).2 b hb e
  have hsz : w.heap.size ≤ w2.heap.size := hb.size
  have hglt := h.blk.lt
  have kb := h.blk.off hoff4 hgA
  have hne4 : (Value.slice A4 (n + 1) c4).ownBlock ≠ some g := fun e => by
    rcases A4 with _ | a
    · cases e
    · have e' : a.block = g := by simpa [Value.ownBlock] using e
      rcases hat a rfl with h' | h'
      · exact hgA (by rw [h', e'])
      · omega
  have hown3 : w4.ownsRow w.heap.size 36 1 (.slice (some ⟨gb, 0, none⟩) l.length c3) l.length (Ints .u32 l) := by
    refine (ho3.alloc (.cells #[.slice (some ⟨gb, 0, none⟩) l.length c3] 28)).kept hg4 (.inr fun e => ?_)
    rcases A with _ | a
    · cases e
    · have e' : gb = a.block := by simpa [Value.ownBlock] using e
      have := (h.row.lt rfl).2
      omega
  refine ⟨(gb, c3), ⟨?_, ?_, ⟨by simp [h.rooms.len], fun i b l' hb' hl' => ?_, fun i j b b' hij hb1 hb2 => ?_⟩, h.low, by rw [total_append, total_one]; exact h1, fun l' hl' => ?_, fun l' hl' => ?_, fun a ha => ?_, fun b hb' => ?_⟩, hoff, hgb.1, fun a ha => ?_⟩
  · have k0 := (kb.set_ 0 (.slice A4 (n + 1) c4)).set_ 1 (.int .i64 (total (ls ++ [l]) : Nat))
    simpa using k0
  · refine .inl ?_
    rw [heads_snoc _ _ h.rooms.len]
    exact own_set_other (own_set_other ho4 hne4 _) hne4 _
  · have hlen := h.rooms.len
    rcases Nat.lt_or_ge i ls.length with hi | hi
    · rw [List.getElem?_append_left (by omega)] at hb' hl'
      have hm := List.mem_of_getElem? hb'
      exact own_off (h.rooms.own i b l' hb' hl') hoff (fun k hk => by
        cases hk
        rintro (hk | hk)
        · exact h.off_g b hm hk
        · exact hbA b hm hk)
    · rw [List.getElem?_append_right (by omega)] at hb' hl'
      have e0 : i - bs.length = 0 := by
        rcases Nat.eq_zero_or_pos (i - bs.length) with h' | h'
        · exact h'
        · rw [List.getElem?_eq_none (by simp; omega)] at hb'; cases hb'
      have e1 : i - ls.length = 0 := by omega
      rw [e0] at hb'
      rw [e1] at hl'
      simp at hb' hl'
      subst hb'
      subst hl'
      have hng : (Value.slice (some ⟨gb, 0, none⟩) l.length c3).ownBlock ≠ some g := fun e => by simp [Value.ownBlock] at e; omega
      exact own_base (own_set_other (own_set_other hown3 hng _) hng _) (by have := h.low; omega)
  · have hlen := h.rooms.len
    rcases Nat.lt_or_ge i bs.length with hi | hi <;> rcases Nat.lt_or_ge j bs.length with hj | hj
    · rw [List.getElem?_append_left hi] at hb1
      rw [List.getElem?_append_left hj] at hb2
      exact h.rooms.ne i j b b' hij hb1 hb2
    · rw [List.getElem?_append_left hi] at hb1
      rw [List.getElem?_append_right hj] at hb2
      have := (h.rooms.lt (List.mem_of_getElem? hb1)).2
      have hm := List.mem_of_getElem? hb2
      simp at hm; subst hm
      show b.1 ≠ gb
      omega
    · rw [List.getElem?_append_right hi] at hb1
      rw [List.getElem?_append_left hj] at hb2
      have := (h.rooms.lt (List.mem_of_getElem? hb2)).2
      have hm := List.mem_of_getElem? hb1
      simp at hm; subst hm
      show gb ≠ b'.1
      omega
    · rw [List.getElem?_append_right hi] at hb1
      rw [List.getElem?_append_right hj] at hb2
      have h1 := (List.getElem?_eq_some_iff.1 hb1).1
      have h2 := (List.getElem?_eq_some_iff.1 hb2).1
      simp at h1 h2
      omega
  · rcases List.mem_append.1 hl' with hl' | hl'
    · exact h.pos l' hl'
    · simp at hl'; subst hl'; exact h0
  · rcases List.mem_append.1 hl' with hl' | hl'
    · exact h.u32 l' hl'
    · simp at hl'; subst hl'; exact hu
  · have hA4 := hat a ha
    refine ⟨fun e => hne4 (by rw [ha]; simp [Value.ownBlock, e]), fun b hb' => ?_⟩
    rcases List.mem_append.1 hb' with hb' | hb'
    · have := (h.rooms.lt hb').2
      rcases hA4 with hA4 | hA4
      · intro e; exact hbA b hb' (by rw [hA4, e])
      · omega
    · simp at hb'; subst hb'
      show gb ≠ a.block
      rcases hA4 with hA4 | hA4
      · rcases A with _ | a0
        · cases hA4
        · have e' : a0.block = a.block := by simpa using hA4
          have := (h.row.lt rfl).2
          omega
      · omega
  · rcases List.mem_append.1 hb' with hb' | hb'
    · exact h.off_g b hb'
    · simp at hb'; subst hb'
      show gb ≠ g
      omega
  · rcases hat a ha with h' | h'
    · exact .inl h'
    · exact .inr (by omega)
end
end Go.Proofs.Ytfkeogaagolnoaa
