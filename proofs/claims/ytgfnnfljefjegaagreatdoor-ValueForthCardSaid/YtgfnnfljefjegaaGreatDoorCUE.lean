/- Walks: the copies of the statements' own package: CopyWords, CopyBytes. Each answers a new slice with the same numbers; nothing that was there has turned. Condition: the slice is no longer than what may be read. Walks: value.Get. Walks: kit.Words: are words the same?. -/
import Derived.Test.YtgfnnfljefjegaaGreatDoorCTF
import Derived.Test.YtgfnnfljefjegaaGreatDoorCTB
import Derived.Test.YtgfnnfljefjegaaGreatDoorCUD
namespace Go.Proofs.YtgfnnfljefjegaaGreatDoor
open Go.RowKit

set_option maxRecDepth 100000 in
set_option maxHeartbeats 400000 in
theorem copyWords (A : Option Addr) (n c : Nat) (l : List Int) (w : World) (hn : n ≤ 35184372087808) (hr : Reads w w.heap.size 1 A n (Ints .u32 l)) :
    Calls Tryz.prog 13 #[.slice A n c] w fun e w' => ∃ g, e = .returned (.slice (some ⟨g, 0, none⟩) n n) ∧ w'.ownsRow w.heap.size 22 1 (.slice (some ⟨g, 0, none⟩) n n) n (Ints .u32 l) ∧ Below w.heap.size w w' := by
  go_enter Tryz.func13, Tryz.ntmps13
  go_wp2_with (at_make; refine mk_full sl32 rfl _ rfl _ _ rfl w.heap.size n rfl rfl rfl rfl (by omega) (by omega) (Nat.le_refl _) ?_; intro w1 hown hgr)
  go_loopw [4] (fun i wr => ∃ k : Nat, k ≤ n ∧ i = .int .i64 k ∧ wr.ownsRow w.heap.size 22 1 (.slice (some ⟨w.heap.size, 0, none⟩) n n) n (Ints .u32 (mid l n k)) ∧ Below w.heap.size w wr) (fun i _ => n - (intOf i).toNat)
  case atStart => exact ⟨0, by omega, rfl, by rw [mid_zero, Ints_replicate]; exact hown, (Below.refl _ _).grown hgr (Nat.le_refl _) (fun _ h => by cases h)⟩
  case round =>
    obtain ⟨k, hk, rfl, ho, hb⟩ := hrel
    by_cases hlt : k < n
    · obtain ⟨ad, rfl, hadb, hc⟩ := (hr.below hb).int_at hlt
      have hc1 := own_int_at ho hlt
      have hf1 := ho.frozenAt k
      go_wp2
      go_roundw
      case rel => exact ⟨k + 1, by omega, by go_num, by rw [← mid_set hr.len hlt]; exact own_int_set ho k _, hb.setCell (Nat.le_refl _) _⟩
      case measure => simp [intOf]; omega
    · obtain rfl : k = n := by omega
      go_wp2
      go_ret
      exact ⟨_, rfl, by rw [mid_all hr.len] at ho; exact ho, hb⟩

set_option maxRecDepth 100000 in
set_option maxHeartbeats 400000 in
theorem words_same (A A' : Option Addr) (n n' c c' : Nat) (l l' : List Int) (w : World) (hn : n ≤ 9223372036854775807) (hr : Reads w w.heap.size 1 A n (Ints .u32 l)) (hr' : Reads w w.heap.size 1 A' n' (Ints .u32 l')) :
    Calls Tryz.prog 15 #[.slice A n c, .slice A' n' c'] w fun e w' => e = .returned (.bool (sameB l l')) ∧ Drawn w w' := by
  have e1 := hr.len
  have e2 := hr'.len
  by_cases hnn : n = n'
  · subst hnn
    have E1 := Lib.hid e1; clear e1
    have E2 := Lib.hid e2; clear e2
    go_enter Tryz.func15, Tryz.ntmps15
    go_wp2
    go_loopw [5] (fun i wr => ∃ k : Nat, k ≤ n ∧ i = .int .i64 k ∧ SameTo l l' k ∧ Drawn w wr) (fun i _ => n - (intOf i).toNat)
    case atStart => exact ⟨0, by omega, rfl, SameTo.zero _ _, Drawn.refl _⟩
    case round =>
      obtain ⟨k, hk, rfl, hs, m, rfl⟩ := hrel
      by_cases hlt : k < n
      · obtain ⟨ad, rfl, hadb, hc⟩ := hr.int_at hlt
        obtain ⟨ad', rfl, hadb', hc'⟩ := hr'.int_at hlt
        by_cases he : ix l k = ix l' k
        · have hb : (ix l k != ix l' k) = false := by rw [he]; simp
          have He := Lib.hid he; clear he
          go_wp2
          go_quiet (fail)
          go_wp2
          go_roundw
          case rel => exact ⟨k + 1, by omega, by go_num, hs.succ He.out, Drawn.mk _ _⟩
          case measure => simp [intOf]; omega
        · have hb : (ix l k != ix l' k) = true := by simpa using he
          go_wp2
          go_quiet (fail)
          go_wp2
          go_ret
          exact ⟨ret_bool (sameB_at k he).symm, (Drawn.mk _ _).more _⟩
      · obtain rfl : k = n := by omega
        go_wp2
        go_ret
        exact ⟨ret_bool (sameB_all E1.out E2.out hs).symm, Drawn.mk _ _⟩
  · have hb : ((n : Int) != (n' : Int)) = true := by rw [bne_iff_ne]; omega
    go_enter Tryz.func15, Tryz.ntmps15
    go_wp2
    go_ret
    exact ⟨ret_bool (sameB_ne (by omega)).symm, Drawn.refl _⟩

end Go.Proofs.YtgfnnfljefjegaaGreatDoor

namespace Go.Proofs.YtgfnnfljefjegaaGreatDoor
open Go.RowKit

theorem reads_mid {w : World} {B n : Nat} {b off : Nat} {l : List Int} (h : ∀ k, k < n → w.cell? ⟨b, off + k, none⟩ = some (.int .u32 (ix l k))) (hb : b < B) (hl : l.length = n) {p m : Nat} (hm : p + m ≤ n) :
    Reads w B 1 (some ⟨b, off + p, none⟩) m (Ints .u32 ((l.drop p).take m)) := by
  have hlen : ((l.drop p).take m).length = m := by rw [List.length_take, List.length_drop]; omega
  refine ⟨by rw [Ints_length, hlen]; omega, fun h0 => ⟨⟨b, off + p, none⟩, rfl, hb, fun j v hv => ?_⟩⟩
  rw [add_plain]
  have hj : j < m := by
    have := (List.getElem?_eq_some_iff.1 hv).1
    rw [Ints_length, hlen] at this
    exact this
  rw [Nat.add_assoc, h (p + j) (by omega)]
  rw [Ints_at (by omega)] at hv
  rw [← hv]
  have h1 : j < ((l.drop p).take m).length := by omega
  have h2 : p + j < l.length := by omega
  rw [ix_of h1, ix_of h2, List.getElem_take, List.getElem_drop]
end Go.Proofs.YtgfnnfljefjegaaGreatDoor

namespace Go.Proofs.YtgfnnfljefjegaaGreatDoor
open Go.RowKit

end Go.Proofs.YtgfnnfljefjegaaGreatDoor
