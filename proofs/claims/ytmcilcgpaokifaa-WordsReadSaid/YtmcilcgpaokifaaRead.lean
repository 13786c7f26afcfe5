/- The walk of WordsRead: whatever the text and the words behind it, it answers true. -/
import Derived.Test.YtmcilcgpaokifaaOf
import Derived.Test.YtmcilcgpaokifaaText
import Derived.Test.YtmcilcgpaokifaaReadLaw
namespace Go.Proofs.Ytmcilcgpaokifaa
open Go.RowKit

set_option maxHeartbeats 2000000 in
theorem law_read (s : ByteArray) (A' : Option Addr) (n' c' : Nat) (l' : List Int) (w : World) (hs : s.size ≤ 140737488351232)
    (hn' : n' ≤ 35184372087808) (hu' : Under 4294967296 l') (hr' : Reads w w.heap.size 1 A' n' (Ints .u32 l')) :
    Calls Try.prog 9 #[.string s, .slice A' n' c'] w fun e w' => e = .returned (.bool true) ∧ Below w.heap.size w w' := by
  have hL := Lib.hid (bl_length s)
  go_enter Try.func9, Try.ntmps9
  go_wp2_with fail
  refine (of_any s _ hs).mono ?_
  rintro e w1 ⟨A1, rfl, ho1, hb1⟩
  go_wp2_with fail
  go_loop [7, 8] (fun b i => ∃ (k : Nat) (q : Bool), k ≤ s.size ∧ i = .int .i64 k ∧ b = .bool q ∧ Hid (q = nulB (bl s) k)) (fun _ i => s.size - (intOf i).toNat)
  case atStart => exact ⟨0, false, by omega, rfl, rfl, rfl⟩
  case round =>
    obtain ⟨k, q, hk, rfl, rfl, hq⟩ := hrel
    by_cases hlt : k < s.size
    · have hx := bl_ix s hlt
      cases q
      · by_cases hz : ix (bl s) k = 0
        · have hz1 : ((s[k].toNat : Int) == 0) = true := by rw [← hx, hz]; rfl
          have Hz := Lib.hid hz
          clear hx hz
          go_wp2
          go_round
          case rel => exact ⟨k + 1, true, by omega, by go_num, rfl, by show true = _; rw [nulB, Hz.out]; simp⟩
          case measure => simp [intOf]; omega
        · have hz1 : ((s[k].toNat : Int) == 0) = false := by rw [← hx]; simpa using hz
          have Hz := Lib.hid hz
          clear hx hz
          go_wp2
          go_round
          case rel => exact ⟨k + 1, false, by omega, by go_num, rfl, by show false = _; rw [nulB, ← hq.out]; simpa using Hz.out⟩
          case measure => simp [intOf]; omega
      · clear hx
        go_wp2
        go_round
        case rel => exact ⟨k + 1, true, by omega, by go_num, rfl, by show true = _; rw [nulB, ← hq.out]; rfl⟩
        case measure => simp [intOf]; omega
    · obtain rfl : k = s.size := by omega
      cases q
      · have hf : Full (bl s) (bl s).length := by rw [hL.out]; exact nulB_no hq.out.symm
        obtain ⟨R, HR⟩ : ∃ R, Hid (roomOf (bl s) = R) := ⟨_, rfl⟩
        have hR : (s.size : Int) / 4 + 1 = (R : Int) := by have h := HR.out; unfold roomOf at h; rw [hL.out] at h; omega
        have HRi := Lib.hid hR
        have hR' : R ≤ 35184372087809 ∧ 0 < R := by omega
        by_cases hbig : 65535 < R
        · have hO := of_large hf (by rw [HR.out]; exact hbig)
          rw [hO.1, hO.2]
          clear hO
          go_wp2
          go_ret
          exact ⟨rfl, hb1⟩
        · have hO := of_ok hf (by rw [HR.out]; exact hbig)
          have hback := read_back (bl_under s) hu' hf
          have Hb := Lib.hid hback
          have hPL : (part (bl s) (bl s).length).length = R := by rw [part_length, HR.out]
          have HPL := Lib.hid hPL
          rw [hO.2, hPL] at ho1
          rw [hO.1, hO.2, hPL]
          clear hO hback hPL
          obtain ⟨g, cap, hv, _⟩ := ho1.form (by omega)
          cases hv
          have hsb := Lib.hid (str_bl s)
          go_wp2_with (at_builtin; refine ap_cap _ sl32 rfl _ _ rfl w.heap.size g R R _ rfl ho1 w1.heap.size A' n' c' _ rfl ((hr'.below hb1).more hb1.size) Ints_oneCell (by omega) (fun h => next_fits (by omega) (by omega) (by omega)) hb1.size ?_; intro g' cap' w2 ho2 hgr2; rw [← Ints_append] at ho2)
          have hb2 : Below w.heap.size w w2 := hb1.grown hgr2 hb1.size (fun k h => by cases h; omega)
          refine (text_far _ (R + n') cap' _ _ (by omega) (by rw [Hb.out.1, hL.out]; exact (by omega)) ((part_under (bl_under s) _).append hu') (Reads.of_own ho2)).mono ?_
          rintro e w3 ⟨rfl, hb3⟩
          have hb := Hb.out
          rw [hb.2.1, hb.2.2.1, hb.2.2.2, hsb.out, HR.out]
          have hB3 := below_cut hb2 hb3 (Nat.le_refl _)
          clear hb ho1 ho2 hgr2
          go_wp2_with fail
          refine (room_any s _ hs).mono ?_
          rintro e w4 ⟨rfl, rfl⟩
          rw [HR.out]
          go_wp2
          go_ret
          exact ⟨rfl, hB3⟩
      · obtain ⟨j, hj, hz⟩ := nulB_yes hq.out.symm
        have hO := of_nul (by rw [hL.out]; exact hj) hz
        rw [hO.1, hO.2]
        clear hO hz
        go_wp2
        go_ret
        exact ⟨rfl, hb1⟩
end Go.Proofs.Ytmcilcgpaokifaa
