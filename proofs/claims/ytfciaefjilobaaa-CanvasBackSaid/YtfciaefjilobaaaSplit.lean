/- Walks: Split, the program's and the document's. -/
import Derived.Test.YtfciaefjilobaaaWa
import Derived.Test.YtfciaefjilobaaaSplitLaw
import Derived.Test.YtfciaefjilobaaaTail
namespace Go.Proofs.Ytfciaefjilobaaa
open Go.RowKit

/-- what both answer: words (a row of its own, or nil) and an error -/
def Splits (l : List Int) (w : World) (e : Ending) (w' : World) : Prop :=
  ∃ A' c', e = .returned (.tuple #[.slice A' (splitW l).length c', .int .i64 (splitE l)]) ∧ w'.ownsRow w.heap.size 22 1 (.slice A' (splitW l).length c') (splitW l).length (Ints .u32 (splitW l)) ∧ (splitW l).length ≤ c' ∧ Below w.heap.size w w'

theorem Splits.none_ {l : List Int} {w : World} {v : Int} (h : splitE l = v ∧ splitW l = []) : Splits l w (.returned (.tuple #[.slice none 0 0, .int .i64 v])) w := by
  refine ⟨none, 0, ?_, ?_, ?_, Below.refl _ _⟩
  · rw [h.1, h.2]; rfl
  · rw [h.2]; exact World.ownsRow_nil _ _ _ _
  · rw [h.2]; exact Nat.le_refl _
theorem Splits.some_ {l : List Int} {w w' : World} {A' : Option Addr} {n c' : Nat} (h : splitE l = 0 ∧ splitW l = glue l n) (ho : w'.ownsRow w.heap.size 22 1 (.slice A' n c') n (Ints .u32 (glue l n))) (hb : Below w.heap.size w w') :
    Splits l w (.returned (.tuple #[.slice A' n c', .int .i64 0])) w' := by
  refine ⟨A', c', ?_, ?_, ?_, hb⟩
  · rw [h.1, h.2, glue_length]
  · rw [h.2, glue_length]; exact ho
  · rw [h.2, glue_length]; exact own_cap ho

set_option maxHeartbeats 1000000 in
theorem split_any (A : Option Addr) (n c : Nat) (l : List Int) (w : World) (hn : n ≤ 140737488351232) (hu : Under 256 l) (hr : Reads w w.heap.size 1 A n (Ints .u8 l)) :
    Calls Try.prog 43 #[.slice A n c] w (Splits l w) := by
  have hL := hr.len
  by_cases h1 : 4194304 < l.length
  · have hs := split_large h1
    have Hs := Lib.hid hs; clear hs
    rw [hL] at h1; clear hL
    go_enter Try.func43, Try.ntmps43
    go_wp2
    go_ret2
    exact Splits.none_ Hs.out
  · by_cases h2 : l.length % 4 = 0
    · have hs := split_whole h1 h2
      have Hs := Lib.hid hs; clear hs
      rw [hL] at h1 h2
      have HL := Lib.hid hL; clear hL
      obtain ⟨m, rfl⟩ : ∃ m, n = 4 * m := ⟨n / 4, by omega⟩
      have hz : (((4 * m : Nat) : Int) % 4 != 0) = false := by simp only [bne_eq_false_iff_eq]; omega
      have hd : ((4 * m : Nat) : Int) / 4 = m := by omega
      have Hd := Lib.hid hd
      clear h2
      go_enter Try.func43, Try.ntmps43
      go_wp2_with (at_make; refine mk_room sl32 _ rfl _ _ rfl w.heap.size m rfl rfl (by first | rfl | exact Hd.out | omega) (by omega) (by omega) (Nat.le_refl _) ?_; intro w1 hown hgr)
      go_loopw [4, 5] (fun v i wr => ∃ k : Nat, k ≤ m ∧ i = .int .i64 (4 * (k : Int)) ∧ wr.ownsRow w.heap.size 22 1 v k (Ints .u32 (glue l k)) ∧ Below w.heap.size w wr) (fun _ i _ => 4 * m - (intOf i).toNat)
      case atStart => exact ⟨0, by omega, rfl, hown, (Below.refl _ _).grown hgr (Nat.le_refl _) (fun _ h => by cases h)⟩
      case round =>
        obtain ⟨k, hk, rfl, ho, hb⟩ := hrel
        by_cases hlt : k < m
        · go_wp2
          obtain ⟨wo, rfl⟩ : ∃ wo : World, wo = wr := ⟨_, rfl⟩
          go_loop [6, 7] (fun x j => ∃ q : Nat, q ≤ 4 ∧ j = .int .i64 (3 - (q : Int)) ∧ x = .int .u32 (top l (4 * k) q)) (fun _ j => (intOf j + 1).toNat)
          case atStart => exact ⟨0, by omega, rfl, rfl⟩
          case round =>
            obtain ⟨q, hq, rfl, rfl⟩ := hrel
            by_cases hlt4 : q < 4
            · obtain ⟨ad, rfl, hadb, hc⟩ := (hr.below hb).int_at (k := 4 * k + (3 - q)) (by omega)
              have hbd := top_bd hu (4 * k) q hlt4
              have hbi := hu.ix (by decide) (4 * k + (3 - q))
              have e1 : 4 * (k : Int) + (3 - (q : Int)) = ((4 * k + (3 - q) : Nat) : Int) := by omega
              go_wp2
              go_round
              case rel => exact ⟨q + 1, by omega, by go_num, by rw [← top_step hu (4 * k) q hlt4]⟩
              case measure => simp [intOf]; omega
            · obtain rfl : q = 4 := by omega
              have hwd := word_bd hu (4 * k)
              have e4 : top l (4 * k) 4 = word l (4 * k) := rfl
              rw [e4]
              go_wp2_with (at_builtin; refine ap_one sl32 _ rfl _ _ rfl w.heap.size _ _ _ rfl ho _ _ rfl rfl (by omega) (by omega) (by have := hb.size; omega) ?_; intro v' w2 ho2 hgr2 _)
              go_roundw
              case rel => exact ⟨k + 1, by omega, by go_num, by rw [glue, Ints_append, Ints_one]; exact ho2, below_ap hb ho hgr2 hb.size⟩
              case measure => simp [intOf]; omega
        · obtain rfl : k = m := by omega
          obtain ⟨A', c', rfl⟩ := own_shape ho
          go_wp2
          go_ret2
          exact Splits.some_ (by have := Hs.out; rw [HL.out] at this; rw [show 4 * k / 4 = k from by omega] at this; exact this) ho hb
    · have hs := split_odd h1 h2
      have Hs := Lib.hid hs; clear hs
      rw [hL] at h1 h2; clear hL
      have hz : ((n : Int) % 4 != 0) = true := by rw [bne_iff_ne]; omega
      go_enter Try.func43, Try.ntmps43
      go_wp2
      go_ret2
      exact Splits.none_ Hs.out
end Go.Proofs.Ytfciaefjilobaaa
