/- Walks: within: a room's words handed on. -/
import Derived.Test.YtfkeogaagolnoaaMake
import Derived.Test.YtfkeogaagolnoaaKitB
namespace Go.Proofs.Ytfkeogaagolnoaa
open Go.RowKit

/-- the head of room i, where it lies -/
theorem MemS.head {w : World} {base g n c : Nat} {A : Option Addr} {bs : List (Nat × Nat)} {ls : List (List Int)} (h : MemS w base g A n c bs ls) {i : Nat} {b : Nat × Nat} {l : List Int} (hb : bs[i]? = some b) (hl : ls[i]? = some l) :
    i < n ∧ ∃ ab off, A = some ⟨ab, off, none⟩ ∧ w.cell? ⟨ab, off + i, none⟩ = some (headV b l) := by
  have hi : i < n := by rw [h.n_eq]; exact (List.getElem?_eq_some_iff.1 hl).1
  obtain ⟨ad, u, hA, _, hu, hc⟩ := h.row.reads.at_ hi
  rw [heads_at hb hl] at hu
  cases hu
  obtain ⟨ab, off, spot⟩ := ad
  have hs : spot = none := by
    have h0 := World.cell?_spot hc
    unfold Addr.add at h0
    split at h0
    · exact h0
    · rcases Nat.eq_zero_or_pos i with h' | h'
      · subst h'; rename_i hn; exact absurd rfl hn
      · obtain ⟨ad0, u0, e0, _, _, hc0⟩ := h.row.reads.at_ (k := 0) (by omega)
        rw [hA] at e0
        cases e0
        simpa [Addr.add] using World.cell?_spot hc0
  subst hs
  exact ⟨hi, ab, off, hA, by rw [← Go.WideShapes.add_plain]; exact hc⟩
/-- what a room is good for, from p on -/
theorem MemS.cut {w : World} {base g n c : Nat} {A : Option Addr} {bs : List (Nat × Nat)} {ls : List (List Int)} (h : MemS w base g A n c bs ls) {i : Nat} {b : Nat × Nat} {l : List Int} (hb : bs[i]? = some b) (hl : ls[i]? = some l) :
    l.length ≤ b.2 ∧ Reads w w.heap.size 1 (some ⟨b.1, 0, none⟩) l.length (Ints .u32 l) :=
  ⟨own_cap (h.rooms.own i b l hb hl), Reads.of_own (h.rooms.own i b l hb hl)⟩

set_option maxHeartbeats 1000000 in
theorem within_ok {w : World} {base g n c : Nat} {A : Option Addr} {bs : List (Nat × Nat)} {ls : List (List Int)} (h : MemS w base g A n c bs ls) (i : Nat) (b : Nat × Nat) (l : List Int) (p m : Nat) (hb : bs[i]? = some b) (hl : ls[i]? = some l) (hm : p + m ≤ l.length)
    (F : FuncId) (q : Value) (R : World → Prop) (hent : ∀ (w : World) (args : Array Value), (callFunc F args).run Try.prog w = .ok (.enter F args) w) (hF : ∀ A0 : Option Addr, Reads w w.heap.size 1 A0 m (Ints .u32 ((l.drop p).take m)) → (0 < m → A0 = some ⟨b.1, p, none⟩) → Calls Try.prog F #[.slice A0 m (b.2 - p), q] w fun e w' => e = .returned (.tuple #[]) ∧ R w') :
    Calls Try.prog 25 #[.pointer (some ⟨g, 0, none⟩), .int .i64 i, .int .i64 p, .int .i64 m, .func (.func F) #[] #[q]] w fun e w' => e = .returned (.int .i64 0) ∧ R w' := by
  obtain ⟨hi, ab, off, rfl, hc⟩ := h.head hb hl
  obtain ⟨hcap, hrd⟩ := h.cut hb hl
  have hnle := h.n_le
  have hll := total_mem (List.mem_of_getElem? hl)
  have htl := h.le
  have k0 := h.blk.cell 0
  simp at k0
  have HF := Lib.hid hF
  have Hl := Lib.hid hl
  have Hb := Lib.hid hb
  clear hF hl hb
  unfold headV at hc
  have g1 : decide ((i : Int) < 0) = false := by simp
  have g2 : decide ((p : Int) < 0) = false := by simp
  have g3 : decide ((m : Int) < 0) = false := by simp
  have g4 : decide ((l.length : Int) - (p : Int) < (m : Int)) = false := by simp; omega
  have hcut := (hrd.mid_ (p := p) (m := m) hm hcap)
  rw [Nat.add_sub_cancel_left] at hcut
  obtain ⟨A0, hA0⟩ : ∃ A0, (if b.2 = p then (some ⟨b.1, 0, none⟩ : Option Addr) else some ⟨b.1, p, none⟩) = A0 := ⟨_, rfl⟩
  have hA0' : (if b.2 = p then some (⟨b.1, 0, none⟩ : Addr) else Option.map (fun x : Addr => x.add p) (some ⟨b.1, 0, none⟩)) = A0 := by
    rw [← hA0]
    simp [Go.WideShapes.add_plain]
  rw [hA0'] at hcut
  have hpos : 0 < m → A0 = some ⟨b.1, p, none⟩ := fun h0 => by rw [← hA0, if_neg (by omega)]
  have HA := Lib.hid hpos
  clear hA0' hpos
  go_enter Try.func25, Try.ntmps25
  go_wp2_with fail
  refine (HF.out A0 hcut HA.out).mono ?_
  rintro e w' ⟨rfl, hR⟩
  go_wp2
  go_ret
  exact ⟨rfl, hR⟩
/-- are there so many words in a room from a place on? -/
def Fit (ls : List (List Int)) (i p m : Int) : Prop := 0 ≤ i ∧ i < ls.length ∧ 0 ≤ p ∧ 0 ≤ m ∧ p + m ≤ ((ls[i.toNat]?.getD []).length : Nat)
theorem Fit.nat {ls : List (List Int)} {i p m : Int} (h : Fit ls i p m) : ∃ (j q k : Nat) (l : List Int), i = j ∧ p = q ∧ m = k ∧ ls[j]? = some l ∧ q + k ≤ l.length := by
  obtain ⟨h1, h2, h3, h4, h5⟩ := h
  obtain ⟨j, rfl⟩ := Int.eq_ofNat_of_zero_le h1
  obtain ⟨q, rfl⟩ := Int.eq_ofNat_of_zero_le h3
  obtain ⟨k, rfl⟩ := Int.eq_ofNat_of_zero_le h4
  have hj : j < ls.length := by omega
  rw [Int.toNat_natCast, List.getElem?_eq_getElem hj] at h5
  exact ⟨j, q, k, ls[j], rfl, rfl, rfl, List.getElem?_eq_getElem hj, by simp at h5; omega⟩

set_option maxHeartbeats 1000000 in
theorem within_bad {w : World} {base g n c : Nat} {A : Option Addr} {bs : List (Nat × Nat)} {ls : List (List Int)} (h : MemS w base g A n c bs ls) (i p m : Int) (hi : -9223372036854775808 ≤ i ∧ i ≤ 9223372036854775807) (hp : -9223372036854775808 ≤ p ∧ p ≤ 9223372036854775807) (hm : -9223372036854775808 ≤ m ∧ m ≤ 9223372036854775807) (hbad : ¬ Fit ls i p m) (f : Value) :
    Calls Try.prog 25 #[.pointer (some ⟨g, 0, none⟩), .int .i64 i, .int .i64 p, .int .i64 m, f] w fun e w' => e = .returned (.int .i64 220) ∧ w = w' := by
  have hnle := h.n_le
  have k0 := h.blk.cell 0
  simp at k0
  have hn := h.n_eq
  by_cases c1 : i < 0
  · have g1 : decide (i < 0) = true := by simpa using c1
    clear hn
    go_enter Try.func25, Try.ntmps25
    go_wp2
    go_ret
    exact ⟨rfl, rfl⟩
  have g1 : decide (i < 0) = false := by simpa using c1
  obtain ⟨j, rfl⟩ := Int.eq_ofNat_of_zero_le (show 0 ≤ i by omega)
  by_cases c2 : n ≤ j
  · clear hn
    go_enter Try.func25, Try.ntmps25
    go_wp2
    go_ret
    exact ⟨rfl, rfl⟩
  have hj : j < ls.length := by omega
  have hl : ls[j]? = some ls[j] := List.getElem?_eq_getElem hj
  have hjb : j < bs.length := by have := h.rooms.len; omega
  have hb : bs[j]? = some bs[j] := List.getElem?_eq_getElem hjb
  obtain ⟨_, ab, off, rfl, hc⟩ := h.head hb hl
  have hll := total_mem (List.mem_of_getElem? hl)
  have htl := h.le
  have hbad' : ¬ (0 ≤ p ∧ 0 ≤ m ∧ p + m ≤ ((ls[j]).length : Int)) := fun ⟨x1, x2, x3⟩ => hbad ⟨by omega, by omega, x1, x2, by rw [Int.toNat_natCast, hl]; exact x3⟩
  have Hbad := Lib.hid hbad'
  clear hbad hbad'
  unfold headV at hc
  generalize ls[j] = l at *
  generalize bs[j] = b at *
  clear hl hb hn hj hjb
  by_cases c3 : p < 0
  · have g2 : decide (p < 0) = true := by simpa using c3
    go_enter Try.func25, Try.ntmps25
    go_wp2
    go_ret
    exact ⟨rfl, rfl⟩
  have g2 : decide (p < 0) = false := by simpa using c3
  by_cases c4 : m < 0
  · have g3 : decide (m < 0) = true := by simpa using c4
    go_enter Try.func25, Try.ntmps25
    go_wp2
    go_ret
    exact ⟨rfl, rfl⟩
  have g3 : decide (m < 0) = false := by simpa using c4
  by_cases c5 : (l.length : Int) < p
  · have g4 : decide ((l.length : Int) < p) = true := by simpa using c5
    go_enter Try.func25, Try.ntmps25
    go_wp2
    go_ret
    exact ⟨rfl, rfl⟩
  have g4 : decide ((l.length : Int) < p) = false := by simpa using c5
  have c6 : (l.length : Int) - p < m := by have := Hbad.out; omega
  have g5 : decide ((l.length : Int) - p < m) = true := by simpa using c6
  go_enter Try.func25, Try.ntmps25
  go_wp2
  go_ret
  exact ⟨rfl, rfl⟩
end Go.Proofs.Ytfkeogaagolnoaa
