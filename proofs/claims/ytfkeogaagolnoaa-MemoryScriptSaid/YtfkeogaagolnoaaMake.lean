/- Walks: a memory made, a room made in it. -/
import Derived.Test.YtfkeogaagolnoaaMst
import Derived.Deep.RegionLaw
namespace Go.Proofs.Ytfkeogaagolnoaa
open Go.RowKit

theorem mnew_any (w : World) :
    Calls Try.prog 8 #[] w fun e w' => ∃ g, e = .returned (.pointer (some ⟨g, 0, none⟩)) ∧ MemS w' w.heap.size g none 0 0 [] [] ∧ Below w.heap.size w w' := by
  go_enter Try.func8, Try.ntmps8
  go_wp2
  go_ret
  refine ⟨_, rfl, ⟨Blk.new _ _ _, Lst.nil, ⟨rfl, fun i b l hb => (by simp at hb), fun i j b b' _ hb => (by simp at hb)⟩, Nat.le_refl _, by decide, fun l hl => (by cases hl), fun l hl => (by cases hl), fun a ha => (by cases ha), fun b hb => (by cases hb)⟩, (Below.refl _ _).alloc (Nat.le_refl _) _⟩

theorem make_empty (g : Nat) (A : Option Addr) (c : Nat) (w : World) :
    Calls Try.prog 9 #[.pointer (some ⟨g, 0, none⟩), .slice A 0 c] w fun e w' => e = .returned (.tuple #[.int .i64 0, .int .i64 2]) ∧ w = w' := by
  go_enter Try.func9, Try.ntmps9
  go_wp2
  go_ret2
  exact ⟨rfl, rfl⟩

theorem make_large {w : World} {base g n c : Nat} {A : Option Addr} {bs : List (Nat × Nat)} {ls : List (List Int)} (h : MemS w base g A n c bs ls) (A' : Option Addr) (n' c' : Nat) (h0 : 0 < n') (h1 : 1048576 < total ls + n') (h2 : n' ≤ 35184372087808) :
    Calls Try.prog 9 #[.pointer (some ⟨g, 0, none⟩), .slice A' n' c'] w fun e w' => e = .returned (.tuple #[.int .i64 0, .int .i64 4]) ∧ w = w' := by
  have k1 := h.blk.cell 1
  simp at k1
  have hle := h.le
  have hz : ((n' : Int) == 0) = false := by rw [beq_eq_false_iff_ne]; omega
  have hz2 : decide ((1048576 : Int) - (total ls : Int) < (n' : Int)) = true := by simp; omega
  go_enter Try.func9, Try.ntmps9
  go_wp2
  go_ret2
  exact ⟨rfl, rfl⟩

/-- a room was made -/
def Made (w : World) (base g n : Nat) (A : Option Addr) (bs : List (Nat × Nat)) (ls : List (List Int)) (l : List Int) (e : Ending) (w' : World) : Prop :=
  e = .returned (.tuple #[.int .i64 n, .int .i64 0]) ∧
    ∃ A2 c2 b, MemS w' base g A2 (n + 1) c2 (bs ++ [b]) (ls ++ [l]) ∧ Off (fun k => k = g ∨ some k = A.map (·.block)) w w' ∧ w.heap.size ≤ b.1 ∧ (∀ a, A2 = some a → A.map (·.block) = some a.block ∨ w.heap.size ≤ a.block)

set_option maxHeartbeats 1000000 in
theorem make_ok {w : World} {base g n c : Nat} {A : Option Addr} {bs : List (Nat × Nat)} {ls : List (List Int)} (h : MemS w base g A n c bs ls) (A' : Option Addr) (n' c' : Nat) (l : List Int) (h0 : 0 < n') (h1 : total ls + n' ≤ 1048576) (hu : Under 4294967296 l) (hr : Reads w w.heap.size 1 A' n' (Ints .u32 l)) :
    Calls Try.prog 9 #[.pointer (some ⟨g, 0, none⟩), .slice A' n' c'] w (Made w base g n A bs ls l) := by
  have k0 := h.blk.cell 0
  have k1 := h.blk.cell 1
  have hf := h.blk.frozen 0
  have hf1 := h.blk.frozen 1
  simp at k0 k1
  have hle := h.le
  have hnle := h.n_le
  have hz : ((n' : Int) == 0) = false := by rw [beq_eq_false_iff_ne]; omega
  have hz2 : decide ((1048576 : Int) - (total ls : Int) < (n' : Int)) = false := by simp; omega
  go_enter Try.func9, Try.ntmps9
  go_wp2_with fail
  have hgl := h.blk.lt
  have hga : ¬ some g = A.map (·.block) := fun e => by
    rcases A with _ | a
    · cases e
    · simp at e; exact (h.apart a rfl).1 e.symm
  go_region_law (first
    | (refine step_ap_lst slRooms _ rfl _ _ rfl (h.row.below hbq) _ _ rfl rfl rfl (by omega) (by omega) (by have := hbq.size; have := h.low; omega) ?_; intro A4 c4 w4 ho4 hg4 hat4; have hoff : Off (fun k => some k = A.map (·.block)) w w4 := ((Off.of_below _ hbq).alloc _).trans (Off.of_grown hg4 (fun k hk => hk.symm)); have kb := h.blk.off hoff hga; have p0 := kb.cell 0; have p1 := kb.frozen 0; simp at p0)
    | (go_simp; go_at_call 24; refine (clone_any A' n' c' l _ (by omega) hr.drew).mono ?_; rintro e w2 ⟨A3, c3, rfl, ho3, hb3⟩; have q0 := (hb3.cell (p := ⟨g, 0, none⟩) hgl).trans k0; have hbq : Below w.heap.size w w2 := (Below.refl _ _).drew.trans hb3; have q2 := fun o => (World.cell?_alloc_lt w2 o ⟨g, 0, none⟩ (Nat.lt_of_lt_of_le hgl hbq.size)).trans q0))
  all_goals
    have kb2 : Blk (w4.setCell ⟨g, 0, none⟩ (.slice A4 (n + 1) c4)) g 56 #[.slice A4 (n + 1) c4, .int .i64 (total ls : Nat)] := by simpa using kb.set_ 0 (.slice A4 (n + 1) c4)
    have hl := hr.len
    have hfin := MemS.roomed h (l := l) (by omega) hu (by omega) hbq (own_base (by rw [hl]; exact ho3) (Nat.le_refl _)) (by rw [hl]; exact ho4) (by rw [hl]; exact hg4) hat4
    have Hfin := Lib.hid hfin
    have Hl := Lib.hid hl
    clear hfin hl kb ho3 ho4 hg4 hat4 hoff q0 q2 p0 p1 k0 k1 hf hf1
    have p0 := kb2.cell 0
    have p1 := kb2.cell 1
    have p2 := kb2.frozen 1
    simp at p0 p1
    go_wp2
    go_ret2
    obtain ⟨b, hM, hO, hb, hA⟩ := Hfin.out
    have ht : ((total (ls ++ [l]) : Nat) : Int) = (total ls : Int) + (n' : Int) := by rw [total_append, total_one, Hl.out]; omega
    rw [ht] at hM hO
    exact ⟨rfl, A4, c4, b, hM, hO, hb, hA⟩

theorem mlen_any {w : World} {base g n c : Nat} {A : Option Addr} {bs : List (Nat × Nat)} {ls : List (List Int)} (h : MemS w base g A n c bs ls) :
    Calls Try.prog 10 #[.pointer (some ⟨g, 0, none⟩)] w fun e w' => e = .returned (.int .i64 n) ∧ w = w' := by
  have k0 := h.blk.cell 0
  simp at k0
  go_enter Try.func10, Try.ntmps10
  go_wp2
  go_ret
  exact ⟨rfl, rfl⟩
theorem msize_any {w : World} {base g n c : Nat} {A : Option Addr} {bs : List (Nat × Nat)} {ls : List (List Int)} (h : MemS w base g A n c bs ls) :
    Calls Try.prog 11 #[.pointer (some ⟨g, 0, none⟩)] w fun e w' => e = .returned (.int .i64 (total ls : Nat)) ∧ w = w' := by
  have k1 := h.blk.cell 1
  simp at k1
  go_enter Try.func11, Try.ntmps11
  go_wp2
  go_ret
  exact ⟨rfl, rfl⟩
end Go.Proofs.Ytfkeogaagolnoaa
