/- Walks: kit.Words: are words the same?. -/
import Derived.Test.YtnhpjheiihiepaaGreatDoorTF
import Derived.Test.YtnhpjheiihiepaaGreatDoorTB
namespace Go.Proofs.YtnhpjheiihiepaaGreatDoor
open Go.RowKit

set_option maxRecDepth 100000 in
set_option maxHeartbeats 400000 in
theorem words_sameS (A A' : Option Addr) (n n' c c' : Nat) (l l' : List Int) (w : World) (hn : n ≤ 9223372036854775807) (hr : Reads w w.heap.size 1 A n (Ints .u32 l)) (hr' : Reads w w.heap.size 1 A' n' (Ints .u32 l')) :
    Calls Tryz.prog 12 #[.slice A n c, .slice A' n' c'] w fun e w' => e = .returned (.bool (sameB l l')) ∧ Drawn w w' := by
  have e1 := hr.len
  have e2 := hr'.len
  by_cases hnn : n = n'
  · subst hnn
    have E1 := Lib.hid e1; clear e1
    have E2 := Lib.hid e2; clear e2
    go_enter Tryz.func12, Tryz.ntmps12
    go_wp2
    go_loopw [5] (fun i wr => ∃ k : Nat, k ≤ n ∧ i = .int .i64 k ∧ SameTo l l' k ∧ Drawn w wr) (fun i _ => n - (intOf i).toNat)
    case atStart => exact ⟨0, by omega, rfl, SameTo.zero _ _, Drawn.refl _⟩
    case round =>
      obtain ⟨k, hk, rfl, hs, m, rfl⟩ := hrel
      by_cases hlt : k < n
      · obtain ⟨ad, rfl, hadb, hc⟩ := hr.int_at hlt
        obtain ⟨ad', rfl, hadb', hc'⟩ := hr'.int_at hlt
        by_cases he : ix l k = ix l' k
        · have hb : (ix l k != ix l' k) = false := by rw [he]; simp
          have He := Lib.hid he; clear he
          go_wp2
          go_quiet (fail)
          go_wp2
          go_roundw
          case rel => exact ⟨k + 1, by omega, by go_num, hs.succ He.out, Drawn.mk _ _⟩
          case measure => simp [intOf]; omega
        · have hb : (ix l k != ix l' k) = true := by simpa using he
          go_wp2
          go_quiet (fail)
          go_wp2
          go_ret
          exact ⟨ret_bool (sameB_at k he).symm, (Drawn.mk _ _).more _⟩
      · obtain rfl : k = n := by omega
        go_wp2
        go_ret
        exact ⟨ret_bool (sameB_all E1.out E2.out hs).symm, Drawn.mk _ _⟩
  · have hb : ((n : Int) != (n' : Int)) = true := by rw [bne_iff_ne]; omega
    go_enter Tryz.func12, Tryz.ntmps12
    go_wp2
    go_ret
    exact ⟨ret_bool (sameB_ne (by omega)).symm, Drawn.refl _⟩

end Go.Proofs.YtnhpjheiihiepaaGreatDoor
