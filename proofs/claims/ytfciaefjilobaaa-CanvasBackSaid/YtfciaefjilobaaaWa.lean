/- Walks. -/
import Derived.Test.YtfciaefjilobaaaKitB
import Derived.Test.YtfciaefjilobaaaBitsLaw
namespace Go.Proofs.Ytfciaefjilobaaa
open Go.RowKit

set_option maxHeartbeats 400000 in
theorem join_any (A : Option Addr) (n c : Nat) (l : List Int) (w : World) (hn : n ≤ 35184372087808) (hu : Under 4294967296 l) (hr : Reads w w.heap.size 1 A n (Ints .u32 l)) :
    Calls Try.prog 35 #[.slice A n c] w fun e w' => ∃ A' c', e = .returned (.slice A' (4 * n) c') ∧ w'.ownsRow w.heap.size 5 1 (.slice A' (4 * n) c') (4 * n) (Ints .u8 (joined l)) ∧ Below w.heap.size w w' := by
  go_enter Try.func35, Try.ntmps35
  go_wp2_with (at_make; refine mk_room sl8 _ rfl _ _ rfl w.heap.size (4 * n) rfl rfl (by omega) (by omega) (by omega) (Nat.le_refl _) ?_; intro w1 hown hgr)
  go_loopw [3, 12] (fun v i wr => ∃ k : Nat, k ≤ n ∧ i = .int .i64 k ∧ wr.ownsRow w.heap.size 5 1 v (4 * k) (Ints .u8 (joined (l.take k))) ∧ Below w.heap.size w wr) (fun _ i _ => n - (intOf i).toNat)
  case atStart => exact ⟨0, by omega, rfl, hown, (Below.refl _ _).grown hgr (Nat.le_refl _) (fun _ h => by cases h)⟩
  case round =>
    obtain ⟨k, hk, rfl, ho, hb⟩ := hrel
    by_cases hlt : k < n
    · obtain ⟨ad, rfl, hadb, hc⟩ := (hr.below hb).int_at hlt
      have hx := hu.ix (by decide) k
      go_wp2
      obtain ⟨wo, rfl⟩ : ∃ wo : World, wo = wr := ⟨_, rfl⟩
      go_loopw [3, 5, 16] (fun v x j wr => ∃ m : Nat, m ≤ 4 ∧ j = .int .i64 m ∧ x = .int .u32 (shr (ix l k) m) ∧ wr.ownsRow w.heap.size 5 1 v (4 * k + m) (Ints .u8 (joined (l.take k) ++ byts (ix l k) m)) ∧ Below w.heap.size w wr) (fun _ _ j _ => 4 - (intOf j).toNat)
      case atStart => exact ⟨0, by omega, rfl, rfl, by simpa [byts] using ho, hb⟩
      case round =>
        obtain ⟨m, hm, rfl, rfl, ho1, hb1⟩ := hrel
        have hs := shr_bd hx m
        by_cases hlt4 : m < 4
        · go_wp2_with (at_builtin; refine ap_one sl8 _ rfl _ _ rfl w.heap.size _ _ _ rfl ho1 _ _ rfl rfl (by omega) (by omega) (by have := hb1.size; omega) ?_; intro v' w2 ho2 hgr2 _)
          go_roundw
          case rel => exact ⟨m + 1, by omega, by go_num, rfl, by rw [byts, ← List.append_assoc, Ints_append, Ints_one]; exact ho2, below_ap hb1 ho1 hgr2 hb1.size⟩
          case measure => simp [intOf]; omega
        · obtain rfl : m = 4 := by omega
          go_wp2
          go_roundw
          case rel => exact ⟨k + 1, by omega, by go_num, by rw [joined_take_succ (by rw [hr.len]; exact hlt)]; exact ho1, hb1⟩
          case measure => simp [intOf]; omega
    · obtain rfl : k = n := by omega
      obtain ⟨A', c', rfl⟩ := own_shape ho
      rw [List.take_of_length_le (Nat.le_of_eq hr.len)] at ho
      go_wp2
      go_ret
      exact ⟨A', c', rfl, ho, hb⟩
set_option maxHeartbeats 400000 in
theorem byte_any (A : Option Addr) (n c : Nat) (l : List Int) (a : Int) (w : World) (hn : n ≤ 35184372087808) (hu : Under 4294967296 l) (h0 : 0 ≤ a) (h1 : a < 4 * n) (hr : Reads w w.heap.size 1 A n (Ints .u32 l)) :
    Calls Try.prog 47 #[.slice A n c, .int .i64 a] w fun e w' => e = .returned (.int .u8 (wbyte l a.toNat)) ∧ w = w' := by
  obtain ⟨k, rfl⟩ := Int.eq_ofNat_of_zero_le h0
  rw [Int.toNat_natCast]
  have hk : k / 4 < n := by omega
  obtain ⟨ad, rfl, hadb, hc⟩ := hr.int_at hk
  have hx := hu.ix (by decide) (k / 4)
  go_enter Try.func47, Try.ntmps47
  go_wp2
  go_loop [5, 6] (fun x j => ∃ m : Nat, m ≤ k % 4 ∧ j = .int .i64 m ∧ x = .int .u32 (shr (ix l (k / 4)) m)) (fun _ j => k % 4 - (intOf j).toNat)
  case atStart => exact ⟨0, by omega, rfl, rfl⟩
  case round =>
    obtain ⟨m, hm, rfl, rfl⟩ := hrel
    have hs := shr_bd hx m
    by_cases hlt : m < k % 4
    · go_wp2
      go_round
      case rel => exact ⟨m + 1, by omega, by go_num, rfl⟩
      case measure => simp [intOf]; omega
    · obtain rfl : m = k % 4 := by omega
      go_wp2
      go_ret
      exact ⟨rfl, rfl⟩
set_option maxHeartbeats 400000 in
theorem refJoin_any (A : Option Addr) (n c : Nat) (l : List Int) (w : World) (hn : n ≤ 35184372087808) (hu : Under 4294967296 l) (hr : Reads w w.heap.size 1 A n (Ints .u32 l)) :
    Calls Try.prog 36 #[.slice A n c] w fun e w' => ∃ A' c', e = .returned (.slice A' (4 * n) c') ∧ w'.ownsRow w.heap.size 5 1 (.slice A' (4 * n) c') (4 * n) (Ints .u8 (joined l)) ∧ Below w.heap.size w w' := by
  have hL : (joined l).length = 4 * n := by rw [joined_length, hr.len]
  have HL := Lib.hid hL; clear hL
  go_enter Try.func36, Try.ntmps36
  go_wp2_with (at_make; refine mk_full sl8 rfl _ rfl _ _ rfl w.heap.size (4 * n) rfl rfl (by omega) (by omega) (by omega) (by omega) (Nat.le_refl _) ?_; intro w1 hown hgr)
  go_loopw [4] (fun i wr => ∃ k : Nat, k ≤ 4 * n ∧ i = .int .i64 k ∧ wr.ownsRow w.heap.size 5 1 (.slice (some ⟨w.heap.size, 0, none⟩) (4 * n) (4 * n)) (4 * n) (Ints .u8 (mid (joined l) (4 * n) k)) ∧ Below w.heap.size w wr) (fun i _ => 4 * n - (intOf i).toNat)
  case atStart => exact ⟨0, by omega, rfl, by rw [mid_zero, Ints_replicate]; exact hown, (Below.refl _ _).grown hgr (Nat.le_refl _) (fun _ h => by cases h)⟩
  case round =>
    obtain ⟨k, hk, rfl, ho, hb⟩ := hrel
    by_cases hlt : k < 4 * n
    · have hc1 := own_int_at ho hlt
      have hf1 := ho.frozenAt k
      go_wp2_with fail
      refine (byte_any A n c l _ _ hn hu (by omega) (by omega) ((hr.below hb).more hb.size)).mono ?_
      rintro e w' ⟨rfl, rfl⟩
      rw [Int.toNat_natCast, ← joined_ix l k (by rw [← joined_length, HL.out]; exact hlt)]
      go_wp2
      go_roundw
      case rel => exact ⟨k + 1, by omega, by go_num, by rw [← mid_set HL.out hlt]; exact own_int_set ho k _, hb.setCell (Nat.le_refl _) _⟩
      case measure => simp [intOf]; omega
    · obtain rfl : k = 4 * n := by omega
      go_wp2
      go_ret
      exact ⟨_, _, rfl, by rw [mid_all HL.out] at ho; exact ho, hb⟩

end Go.Proofs.Ytfciaefjilobaaa
