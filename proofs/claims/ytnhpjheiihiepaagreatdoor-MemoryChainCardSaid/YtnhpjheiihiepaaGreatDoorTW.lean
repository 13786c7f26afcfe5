/- Walks: the copies of the statements' own package: CopyWords, CopyBytes. Each answers a new slice with the same numbers; nothing that was there has turned. Condition: the slice is no longer than what may be read. A memory's rooms, as the walks know them. Walks: a memory made, a room made in it. -/
import Derived.Test.YtnhpjheiihiepaaGreatDoorTF
import Derived.Test.YtnhpjheiihiepaaGreatDoorTB
import Derived.Test.YtnhpjheiihiepaaGreatDoorTR
import Derived.Deep.RegionLaw
namespace Go.Proofs.YtnhpjheiihiepaaGreatDoor
open Go.RowKit

set_option maxRecDepth 100000 in
set_option maxHeartbeats 400000 in
theorem copyWords (A : Option Addr) (n c : Nat) (l : List Int) (w : World) (hn : n ≤ 35184372087808) (hr : Reads w w.heap.size 1 A n (Ints .u32 l)) :
    Calls Tryz.prog 24 #[.slice A n c] w fun e w' => ∃ g, e = .returned (.slice (some ⟨g, 0, none⟩) n n) ∧ w'.ownsRow w.heap.size 22 1 (.slice (some ⟨g, 0, none⟩) n n) n (Ints .u32 l) ∧ Below w.heap.size w w' := by
  go_enter Tryz.func24, Tryz.ntmps24
  go_wp2_with (at_make; refine mk_full sl32 rfl _ rfl _ _ rfl w.heap.size n rfl rfl rfl rfl (by omega) (by omega) (Nat.le_refl _) ?_; intro w1 hown hgr)
  go_loopw [4] (fun i wr => ∃ k : Nat, k ≤ n ∧ i = .int .i64 k ∧ wr.ownsRow w.heap.size 22 1 (.slice (some ⟨w.heap.size, 0, none⟩) n n) n (Ints .u32 (mid l n k)) ∧ Below w.heap.size w wr) (fun i _ => n - (intOf i).toNat)
  case atStart => exact ⟨0, by omega, rfl, by rw [mid_zero, Ints_replicate]; exact hown, (Below.refl _ _).grown hgr (Nat.le_refl _) (fun _ h => by cases h)⟩
  case round =>
    obtain ⟨k, hk, rfl, ho, hb⟩ := hrel
    by_cases hlt : k < n
    · obtain ⟨ad, rfl, hadb, hc⟩ := (hr.below hb).int_at hlt
      have hc1 := own_int_at ho hlt
      have hf1 := ho.frozenAt k
      go_wp2
      go_roundw
      case rel => exact ⟨k + 1, by omega, by go_num, by rw [← mid_set hr.len hlt]; exact own_int_set ho k _, hb.setCell (Nat.le_refl _) _⟩
      case measure => simp [intOf]; omega
    · obtain rfl : k = n := by omega
      go_wp2
      go_ret
      exact ⟨_, rfl, by rw [mid_all hr.len] at ho; exact ho, hb⟩

set_option maxRecDepth 100000 in
set_option maxHeartbeats 400000 in
theorem words_same (A A' : Option Addr) (n n' c c' : Nat) (l l' : List Int) (w : World) (hn : n ≤ 9223372036854775807) (hr : Reads w w.heap.size 1 A n (Ints .u32 l)) (hr' : Reads w w.heap.size 1 A' n' (Ints .u32 l')) :
    Calls Tryz.prog 12 #[.slice A n c, .slice A' n' c'] w fun e w' => e = .returned (.bool (sameB l l')) ∧ Drawn w w' := by
  have e1 := hr.len
  have e2 := hr'.len
  by_cases hnn : n = n'
  · subst hnn
    have E1 := Lib.hid e1; clear e1
    have E2 := Lib.hid e2; clear e2
    go_enter Tryz.func12, Tryz.ntmps12
    go_wp2
    go_loopw [5] (fun i wr => ∃ k : Nat, k ≤ n ∧ i = .int .i64 k ∧ SameTo l l' k ∧ Drawn w wr) (fun i _ => n - (intOf i).toNat)
    case atStart => exact ⟨0, by omega, rfl, SameTo.zero _ _, Drawn.refl _⟩
    case round =>
      obtain ⟨k, hk, rfl, hs, m, rfl⟩ := hrel
      by_cases hlt : k < n
      · obtain ⟨ad, rfl, hadb, hc⟩ := hr.int_at hlt
        obtain ⟨ad', rfl, hadb', hc'⟩ := hr'.int_at hlt
        by_cases he : ix l k = ix l' k
        · have hb : (ix l k != ix l' k) = false := by rw [he]; simp
          have He := Lib.hid he; clear he
          go_wp2
          go_quiet (fail)
          go_wp2
          go_roundw
          case rel => exact ⟨k + 1, by omega, by go_num, hs.succ He.out, Drawn.mk _ _⟩
          case measure => simp [intOf]; omega
        · have hb : (ix l k != ix l' k) = true := by simpa using he
          go_wp2
          go_quiet (fail)
          go_wp2
          go_ret
          exact ⟨ret_bool (sameB_at k he).symm, (Drawn.mk _ _).more _⟩
      · obtain rfl : k = n := by omega
        go_wp2
        go_ret
        exact ⟨ret_bool (sameB_all E1.out E2.out hs).symm, Drawn.mk _ _⟩
  · have hb : ((n : Int) != (n' : Int)) = true := by rw [bne_iff_ne]; omega
    go_enter Tryz.func12, Tryz.ntmps12
    go_wp2
    go_ret
    exact ⟨ret_bool (sameB_ne (by omega)).symm, Drawn.refl _⟩

end Go.Proofs.YtnhpjheiihiepaaGreatDoor

namespace Go.Proofs.YtnhpjheiihiepaaGreatDoor
open Go.RowKit

theorem slRooms : SliceOf Tryz.prog 131 26 (.slice none 0 0) 1 24 := ⟨Tryz.underlying131, by kernel_rfl, rfl, by decide⟩

def total (ls : List (List Int)) : Nat := (ls.map List.length).foldr (· + ·) 0
theorem total_nil : total [] = 0 := rfl
theorem total_cons (l : List Int) (r : List (List Int)) : total (l :: r) = l.length + total r := rfl
theorem total_append (a b : List (List Int)) : total (a ++ b) = total a + total b := by
  induction a with
  | nil => simp [total_nil]
  | cons x r ih => rw [List.cons_append, total_cons, total_cons, ih]; omega
theorem total_one (l : List Int) : total [l] = l.length := by rw [total_cons, total_nil]; omega

/-- the rooms' heads: block and room of each -/
def headV (b : Nat × Nat) (l : List Int) : Value := .slice (some ⟨b.1, 0, none⟩) l.length b.2
def heads : List (Nat × Nat) → List (List Int) → List Value
  | b :: bs, l :: ls => headV b l :: heads bs ls
  | _, _ => []
theorem heads_length : ∀ {bs : List (Nat × Nat)} {ls : List (List Int)}, bs.length = ls.length → (heads bs ls).length = ls.length
  | [], [], _ => rfl
  | _ :: bs, _ :: ls, h => by simp only [heads, List.length_cons]; rw [heads_length (by simpa using h)]
theorem heads_at : ∀ {bs : List (Nat × Nat)} {ls : List (List Int)} {i : Nat} {b : Nat × Nat} {l : List Int}, bs[i]? = some b → ls[i]? = some l → (heads bs ls)[i]? = some (headV b l)
  | _ :: _, _ :: _, 0, _, _, hb, hl => by simp at hb hl; subst hb; subst hl; rfl
  | _ :: bs, _ :: ls, i + 1, _, _, hb, hl => by simp only [heads, List.getElem?_cons_succ] at *; exact heads_at hb hl
  | [], _, _, _, _, hb, _ => by simp at hb
  | _ :: _, [], _, _, _, _, hl => by simp at hl
theorem heads_snoc : ∀ {bs : List (Nat × Nat)} {ls : List (List Int)} (b : Nat × Nat) (l : List Int), bs.length = ls.length → heads (bs ++ [b]) (ls ++ [l]) = heads bs ls ++ [headV b l]
  | [], [], _, _, _ => rfl
  | _ :: bs, _ :: ls, b, l, h => by simp only [List.cons_append, heads]; rw [heads_snoc b l (by simpa using h)]
/-- each room is a row of its own, apart from the others -/
structure Rooms (w : World) (base : Nat) (bs : List (Nat × Nat)) (ls : List (List Int)) : Prop where
  len : bs.length = ls.length
  own : ∀ (i : Nat) (b : Nat × Nat) (l : List Int), bs[i]? = some b → ls[i]? = some l → w.ownsRow base 22 1 (headV b l) l.length (Ints .u32 l)
  ne : ∀ (i j : Nat) (b b' : Nat × Nat), i ≠ j → bs[i]? = some b → bs[j]? = some b' → b.1 ≠ b'.1

/-- a memory at block g -/
structure MemS (w : World) (base g : Nat) (A : Option Addr) (n c : Nat) (bs : List (Nat × Nat)) (ls : List (List Int)) : Prop where
  blk : Blk w g 133 #[.slice A n c, .int .i64 (total ls : Nat)]
  row : Lst w base 26 A n c (heads bs ls)
  rooms : Rooms w base bs ls
  low : base ≤ g
  le : total ls ≤ 1048576
  pos : ∀ l ∈ ls, 0 < l.length
  u32 : ∀ l ∈ ls, Under 4294967296 l
  apart : ∀ a, A = some a → a.block ≠ g ∧ ∀ b ∈ bs, b.1 ≠ a.block
  off_g : ∀ b ∈ bs, b.1 ≠ g

/-- the blocks of a memory -/
def foot (g : Nat) (A : Option Addr) (bs : List (Nat × Nat)) (k : Nat) : Prop := k = g ∨ (∃ a, A = some a ∧ k = a.block) ∨ ∃ b ∈ bs, k = b.1

section
variable {w w' : World} {base g n c : Nat} {A : Option Addr} {bs : List (Nat × Nat)} {ls : List (List Int)} {S : Nat → Prop}
theorem MemS.n_eq (h : MemS w base g A n c bs ls) : n = ls.length := by
  have := h.row.len
  rw [heads_length h.rooms.len] at this
  omega
theorem total_mem : ∀ {ls : List (List Int)} {l : List Int}, l ∈ ls → l.length ≤ total ls
  | x :: r, l, h => by
    rw [total_cons]
    rcases List.mem_cons.1 h with rfl | h
    · omega
    · have := total_mem h; omega
theorem total_ge : ∀ {ls : List (List Int)}, (∀ l ∈ ls, 0 < l.length) → ls.length ≤ total ls
  | [], _ => Nat.zero_le _
  | x :: r, h => by
    have h1 := h x (by simp)
    have h2 := total_ge (ls := r) (fun l hl => h l (by simp [hl]))
    rw [total_cons, List.length_cons]
    omega
theorem MemS.n_le (h : MemS w base g A n c bs ls) : n ≤ 1048576 := by
  have := total_ge h.pos
  have := h.le
  have := h.n_eq
  omega
theorem Rooms.off (h : Rooms w base bs ls) (ho : Off S w w') (hn : ∀ b ∈ bs, ¬ S b.1) : Rooms w' base bs ls :=
  ⟨h.len, fun i b l hb hl => own_off (h.own i b l hb hl) ho fun k hk => by cases hk; exact hn b (List.mem_of_getElem? hb), h.ne⟩
theorem Rooms.lt (h : Rooms w base bs ls) {b : Nat × Nat} (hb : b ∈ bs) : base ≤ b.1 ∧ b.1 < w.heap.size := by
  obtain ⟨i, hi, e⟩ := List.getElem_of_mem hb
  have hl : i < ls.length := by have := h.len; omega
  exact (h.own i b ls[i] (by rw [List.getElem?_eq_getElem hi, e]) (List.getElem?_eq_getElem hl)).lt b.1 rfl
theorem MemS.off (h : MemS w base g A n c bs ls) (ho : Off S w w') (hn : ∀ k, foot g A bs k → ¬ S k) : MemS w' base g A n c bs ls :=
  ⟨h.blk.off ho (hn g (.inl rfl)), h.row.off ho (fun a ha => hn _ (.inr (.inl ⟨a, ha, rfl⟩))), h.rooms.off ho (fun b hb => hn _ (.inr (.inr ⟨b, hb, rfl⟩))), h.low, h.le, h.pos, h.u32, h.apart, h.off_g⟩
theorem MemS.below (h : MemS w base g A n c bs ls) (hb : Below w.heap.size w w') : MemS w' base g A n c bs ls := h.off (Off.of_below (fun _ => False) hb) fun _ _ h => h
theorem MemS.drewN (h : MemS w base g A n c bs ls) (m : Nat) : MemS (w.drewN m) base g A n c bs ls := h.below (below_drewN (Below.refl _ _) m)
theorem MemS.foot_lt (h : MemS w base g A n c bs ls) {k : Nat} (hk : foot g A bs k) : base ≤ k ∧ k < w.heap.size := by
  rcases hk with rfl | ⟨a, ha, rfl⟩ | ⟨b, hb, rfl⟩
  · exact ⟨h.low, h.blk.lt⟩
  · exact h.row.lt ha
  · exact h.rooms.lt hb

/-- a room more -/
theorem MemS.roomed (h : MemS w base g A n c bs ls) {w2 w4 : World} {A3 A4 : Option Addr} {c3 c4 : Nat} {l : List Int} (h0 : 0 < l.length) (hu : Under 4294967296 l) (h1 : total ls + l.length ≤ 1048576) (hb : Below w.heap.size w w2)
    (ho3 : w2.ownsRow w.heap.size 22 1 (.slice A3 l.length c3) l.length (Ints .u32 l)) (ho4 : w4.ownsRow base 26 1 (.slice A4 (n + 1) c4) (n + 1) (heads bs ls ++ [.slice A3 l.length c3]))
    (hg4 : (w2.alloc (.cells #[.slice A3 l.length c3] 26)).grownBy w4 (A.map (·.block))) (hat : ∀ a, A4 = some a → A.map (·.block) = some a.block ∨ w2.heap.size < a.block) :
    ∃ b : Nat × Nat, MemS ((w4.setCell ⟨g, 0, none⟩ (.slice A4 (n + 1) c4)).setCell ⟨g, 1, none⟩ (.int .i64 (total (ls ++ [l]) : Nat))) base g A4 (n + 1) c4 (bs ++ [b]) (ls ++ [l]) ∧
      Off (fun k => k = g ∨ some k = A.map (·.block)) w ((w4.setCell ⟨g, 0, none⟩ (.slice A4 (n + 1) c4)).setCell ⟨g, 1, none⟩ (.int .i64 (total (ls ++ [l]) : Nat))) ∧ w.heap.size ≤ b.1 ∧ (∀ a, A4 = some a → A.map (·.block) = some a.block ∨ w.heap.size ≤ a.block) := by
  obtain ⟨gb, cb, hv, hgb⟩ := ho3.form h0
  cases hv
  have hoff4 : Off (fun k => some k = A.map (·.block)) w w4 := ((Off.of_below _ hb).alloc _).trans (Off.of_grown hg4 (fun k hk => hk.symm))
  have hoff : Off (fun k => k = g ∨ some k = A.map (·.block)) w ((w4.setCell ⟨g, 0, none⟩ (.slice A4 (n + 1) c4)).setCell ⟨g, 1, none⟩ (.int .i64 (total (ls ++ [l]) : Nat))) :=
    ((hoff4.mono (fun k _ hk => .inr hk)).set_ (p := ⟨g, 0, none⟩) (.inl (.inl rfl)) _).set_ (p := ⟨g, 1, none⟩) (.inl (.inl rfl)) _
  have hgA : ¬ some g = A.map (·.block) := fun e => by
    rcases A with _ | a
    · cases e
    · simp at e; exact (h.apart a rfl).1 e.symm
  have hbA : ∀ b ∈ bs, ¬ some b.1 = A.map (·.block) := fun b hb e => by
    rcases A with _ | a
    · cases e
    · simp at e; exact (h.apart a rfl).2 b hb e
  have hsz : w.heap.size ≤ w2.heap.size := hb.size
  have hglt := h.blk.lt
  have kb := h.blk.off hoff4 hgA
  have hne4 : (Value.slice A4 (n + 1) c4).ownBlock ≠ some g := fun e => by
    rcases A4 with _ | a
    · cases e
    · have e' : a.block = g := by simpa [Value.ownBlock] using e
      rcases hat a rfl with h' | h'
      · exact hgA (by rw [h', e'])
      · omega
  have hown3 : w4.ownsRow w.heap.size 22 1 (.slice (some ⟨gb, 0, none⟩) l.length c3) l.length (Ints .u32 l) := by
    refine (ho3.alloc (.cells #[.slice (some ⟨gb, 0, none⟩) l.length c3] 26)).kept hg4 (.inr fun e => ?_)
    rcases A with _ | a
    · cases e
    · have e' : gb = a.block := by simpa [Value.ownBlock] using e
      have := (h.row.lt rfl).2
      omega
  refine ⟨(gb, c3), ⟨?_, ?_, ⟨by simp [h.rooms.len], fun i b l' hb' hl' => ?_, fun i j b b' hij hb1 hb2 => ?_⟩, h.low, by rw [total_append, total_one]; exact h1, fun l' hl' => ?_, fun l' hl' => ?_, fun a ha => ?_, fun b hb' => ?_⟩, hoff, hgb.1, fun a ha => ?_⟩
  · have k0 := (kb.set_ 0 (.slice A4 (n + 1) c4)).set_ 1 (.int .i64 (total (ls ++ [l]) : Nat))
    simpa using k0
  · refine .inl ?_
    rw [heads_snoc _ _ h.rooms.len]
    exact own_set_other (own_set_other ho4 hne4 _) hne4 _
  · have hlen := h.rooms.len
    rcases Nat.lt_or_ge i ls.length with hi | hi
    · rw [List.getElem?_append_left (by omega)] at hb' hl'
      have hm := List.mem_of_getElem? hb'
      exact own_off (h.rooms.own i b l' hb' hl') hoff (fun k hk => by
        cases hk
        rintro (hk | hk)
        · exact h.off_g b hm hk
        · exact hbA b hm hk)
    · rw [List.getElem?_append_right (by omega)] at hb' hl'
      have e0 : i - bs.length = 0 := by
        rcases Nat.eq_zero_or_pos (i - bs.length) with h' | h'
        · exact h'
        · rw [List.getElem?_eq_none (by simp; omega)] at hb'; cases hb'
      have e1 : i - ls.length = 0 := by omega
      rw [e0] at hb'
      rw [e1] at hl'
      simp at hb' hl'
      subst hb'
      subst hl'
      have hng : (Value.slice (some ⟨gb, 0, none⟩) l.length c3).ownBlock ≠ some g := fun e => by simp [Value.ownBlock] at e; omega
      exact own_base (own_set_other (own_set_other hown3 hng _) hng _) (by have := h.low; omega)
  · have hlen := h.rooms.len
    rcases Nat.lt_or_ge i bs.length with hi | hi <;> rcases Nat.lt_or_ge j bs.length with hj | hj
    · rw [List.getElem?_append_left hi] at hb1
      rw [List.getElem?_append_left hj] at hb2
      exact h.rooms.ne i j b b' hij hb1 hb2
    · rw [List.getElem?_append_left hi] at hb1
      rw [List.getElem?_append_right hj] at hb2
      have := (h.rooms.lt (List.mem_of_getElem? hb1)).2
      have hm := List.mem_of_getElem? hb2
      simp at hm; subst hm
      show b.1 ≠ gb
      omega
    · rw [List.getElem?_append_right hi] at hb1
      rw [List.getElem?_append_left hj] at hb2
      have := (h.rooms.lt (List.mem_of_getElem? hb2)).2
      have hm := List.mem_of_getElem? hb1
      simp at hm; subst hm
      show gb ≠ b'.1
      omega
    · rw [List.getElem?_append_right hi] at hb1
      rw [List.getElem?_append_right hj] at hb2
      have h1 := (List.getElem?_eq_some_iff.1 hb1).1
      have h2 := (List.getElem?_eq_some_iff.1 hb2).1
      simp at h1 h2
      omega
  · rcases List.mem_append.1 hl' with hl' | hl'
    · exact h.pos l' hl'
    · simp at hl'; subst hl'; exact h0
  · rcases List.mem_append.1 hl' with hl' | hl'
    · exact h.u32 l' hl'
    · simp at hl'; subst hl'; exact hu
  · have hA4 := hat a ha
    refine ⟨fun e => hne4 (by rw [ha]; simp [Value.ownBlock, e]), fun b hb' => ?_⟩
    rcases List.mem_append.1 hb' with hb' | hb'
    · have := (h.rooms.lt hb').2
      rcases hA4 with hA4 | hA4
      · intro e; exact hbA b hb' (by rw [hA4, e])
      · omega
    · simp at hb'; subst hb'
      show gb ≠ a.block
      rcases hA4 with hA4 | hA4
      · rcases A with _ | a0
        · cases hA4
        · have e' : a0.block = a.block := by simpa using hA4
          have := (h.row.lt rfl).2
          omega
      · omega
  · rcases List.mem_append.1 hb' with hb' | hb'
    · exact h.off_g b hb'
    · simp at hb'; subst hb'
      show gb ≠ g
      omega
  · rcases hat a ha with h' | h'
    · exact .inl h'
    · exact .inr (by omega)
end
end Go.Proofs.YtnhpjheiihiepaaGreatDoor

namespace Go.Proofs.YtnhpjheiihiepaaGreatDoor
open Go.RowKit

theorem mnew_any (w : World) :
    Calls Tryz.prog 57 #[] w fun e w' => ∃ g, e = .returned (.pointer (some ⟨g, 0, none⟩)) ∧ MemS w' w.heap.size g none 0 0 [] [] ∧ Below w.heap.size w w' := by
  go_enter Tryz.func57, Tryz.ntmps57
  go_wp2
  go_ret
  refine ⟨_, rfl, ⟨Blk.new _ _ _, Lst.nil, ⟨rfl, fun i b l hb => (by simp at hb), fun i j b b' _ hb => (by simp at hb)⟩, Nat.le_refl _, by decide, fun l hl => (by cases hl), fun l hl => (by cases hl), fun a ha => (by cases ha), fun b hb => (by cases hb)⟩, (Below.refl _ _).alloc (Nat.le_refl _) _⟩

/-- a room was made -/
def Made (w : World) (base g n : Nat) (A : Option Addr) (bs : List (Nat × Nat)) (ls : List (List Int)) (l : List Int) (e : Ending) (w' : World) : Prop :=
  e = .returned (.tuple #[.int .i64 n, .int .i64 0]) ∧
    ∃ A2 c2 b, MemS w' base g A2 (n + 1) c2 (bs ++ [b]) (ls ++ [l]) ∧ Off (fun k => k = g ∨ some k = A.map (·.block)) w w' ∧ w.heap.size ≤ b.1 ∧ (∀ a, A2 = some a → A.map (·.block) = some a.block ∨ w.heap.size ≤ a.block)

set_option maxRecDepth 100000 in
set_option maxHeartbeats 1000000 in
theorem make_ok {w : World} {base g n c : Nat} {A : Option Addr} {bs : List (Nat × Nat)} {ls : List (List Int)} (h : MemS w base g A n c bs ls) (A' : Option Addr) (n' c' : Nat) (l : List Int) (h0 : 0 < n') (h1 : total ls + n' ≤ 1048576) (hu : Under 4294967296 l) (hr : Reads w w.heap.size 1 A' n' (Ints .u32 l)) :
    Calls Tryz.prog 58 #[.pointer (some ⟨g, 0, none⟩), .slice A' n' c'] w (Made w base g n A bs ls l) := by
  have k0 := h.blk.cell 0
  have k1 := h.blk.cell 1
  have hf := h.blk.frozen 0
  have hf1 := h.blk.frozen 1
  simp at k0 k1
  have hle := h.le
  have hnle := h.n_le
  have hz : ((n' : Int) == 0) = false := by rw [beq_eq_false_iff_ne]; omega
  have hz2 : decide ((1048576 : Int) - (total ls : Int) < (n' : Int)) = false := by simp; omega
  go_enter Tryz.func58, Tryz.ntmps58
  go_wp2_with fail
  have hgl := h.blk.lt
  have hga : ¬ some g = A.map (·.block) := fun e => by
    rcases A with _ | a
    · cases e
    · simp at e; exact (h.apart a rfl).1 e.symm
  go_region_law (first
    | (refine step_ap_lst slRooms _ rfl _ _ rfl (h.row.below hbq) _ _ rfl rfl rfl (by omega) (by omega) (by have := hbq.size; have := h.low; omega) ?_; intro A4 c4 w4 ho4 hg4 hat4; have hoff : Off (fun k => some k = A.map (·.block)) w w4 := ((Off.of_below _ hbq).alloc _).trans (Off.of_grown hg4 (fun k hk => hk.symm)); have kb := h.blk.off hoff hga; have p0 := kb.cell 0; have p1 := kb.frozen 0; simp at p0)
    | (go_simp; go_at_call 36; refine (clone_any A' n' c' l _ (by omega) hr.drew).mono ?_; rintro e w2 ⟨A3, c3, rfl, ho3, hb3⟩; have q0 := (hb3.cell (p := ⟨g, 0, none⟩) hgl).trans k0; have hbq : Below w.heap.size w w2 := (Below.refl _ _).drew.trans hb3; have q2 := fun o => (World.cell?_alloc_lt w2 o ⟨g, 0, none⟩ (Nat.lt_of_lt_of_le hgl hbq.size)).trans q0))
  all_goals
    have kb2 : Blk (w4.setCell ⟨g, 0, none⟩ (.slice A4 (n + 1) c4)) g 133 #[.slice A4 (n + 1) c4, .int .i64 (total ls : Nat)] := by simpa using kb.set_ 0 (.slice A4 (n + 1) c4)
    have hl := hr.len
    have hfin := MemS.roomed h (l := l) (by omega) hu (by omega) hbq (own_base (by rw [hl]; exact ho3) (Nat.le_refl _)) (by rw [hl]; exact ho4) (by rw [hl]; exact hg4) hat4
    have Hfin := Lib.hid hfin
    have Hl := Lib.hid hl
    clear hfin hl kb ho3 ho4 hg4 hat4 hoff q0 q2 p0 p1 k0 k1 hf hf1
    have p0 := kb2.cell 0
    have p1 := kb2.cell 1
    have p2 := kb2.frozen 1
    simp at p0 p1
    go_wp2
    go_ret2
    obtain ⟨b, hM, hO, hb, hA⟩ := Hfin.out
    have ht : ((total (ls ++ [l]) : Nat) : Int) = (total ls : Int) + (n' : Int) := by rw [total_append, total_one, Hl.out]; omega
    rw [ht] at hM hO
    exact ⟨rfl, A4, c4, b, hM, hO, hb, hA⟩

theorem mlen_any {w : World} {base g n c : Nat} {A : Option Addr} {bs : List (Nat × Nat)} {ls : List (List Int)} (h : MemS w base g A n c bs ls) :
    Calls Tryz.prog 62 #[.pointer (some ⟨g, 0, none⟩)] w fun e w' => e = .returned (.int .i64 n) ∧ w = w' := by
  have k0 := h.blk.cell 0
  simp at k0
  go_enter Tryz.func62, Tryz.ntmps62
  go_wp2
  go_ret
  exact ⟨rfl, rfl⟩
theorem msize_any {w : World} {base g n c : Nat} {A : Option Addr} {bs : List (Nat × Nat)} {ls : List (List Int)} (h : MemS w base g A n c bs ls) :
    Calls Tryz.prog 63 #[.pointer (some ⟨g, 0, none⟩)] w fun e w' => e = .returned (.int .i64 (total ls : Nat)) ∧ w = w' := by
  have k1 := h.blk.cell 1
  simp at k1
  go_enter Tryz.func63, Tryz.ntmps63
  go_wp2
  go_ret
  exact ⟨rfl, rfl⟩
end Go.Proofs.YtnhpjheiihiepaaGreatDoor
