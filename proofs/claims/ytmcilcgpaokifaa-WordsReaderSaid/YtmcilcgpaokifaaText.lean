/- Walks: Text, the program's and the document's. -/
import Derived.Test.YtmcilcgpaokifaaWa
import Derived.Test.YtmcilcgpaokifaaTextLaw
import Derived.Deep.LoopGhost
namespace Go.Proofs.Ytmcilcgpaokifaa
open Go.RowKit

set_option maxHeartbeats 1000000 in
theorem text_far (A : Option Addr) (n c : Nat) (l : List Int) (w : World) (hn : n ≤ 70368744177664) (hst : stop l ≤ 140737488355328) (hu : Under 4294967296 l) (hr : Reads w w.heap.size 1 A n (Ints .u32 l)) :
    Calls Try.prog 27 #[.slice A n c] w (Texts l w) := by
  go_enter Try.func27, Try.ntmps27
  go_wp2
  go_step3
  go_wp2
  go_step3
  go_wp2
  go_loopg [5, 6, 11] n (fun q v e i wr => ∃ k : Nat, k + q = n ∧ i = .int .i64 k ∧ e = .int .i64 (-1) ∧ wr.ownsRow w.heap.size 5 1 v (4 * k) (Ints .u8 (joined (l.take k))) ∧ NoZero l (4 * k) ∧ Below w.heap.size w wr)
  case atStart => exact ⟨0, by omega, rfl, rfl, World.ownsRow_nil _ _ _ _, NoZero.zero _, Below.refl _ _⟩
  case round =>
    obtain ⟨k, hk, rfl, rfl, ho, hnz, hb⟩ := hrel
    by_cases hlt : k < n
    · obtain ⟨ad, rfl, hadb, hc⟩ := (hr.below hb).int_at hlt
      have hx := hu.ix (by decide) k
      go_wp2
      obtain ⟨wo, rfl⟩ : ∃ wo : World, wo = wr := ⟨_, rfl⟩
      obtain ⟨go, rfl⟩ : ∃ go : Nat, go = gk := ⟨_, rfl⟩
      go_loopg [5, 6, 8, 16] 4 (fun q v e x j wr => ∃ m : Nat, m + q = 4 ∧ j = .int .i64 m ∧ e = .int .i64 (-1) ∧ x = .int .u32 (shr (ix l k) m) ∧ wr.ownsRow w.heap.size 5 1 v (4 * k + m) (Ints .u8 (joined (l.take k) ++ byts (ix l k) m)) ∧ NoZero l (4 * k + m) ∧ Below w.heap.size w wr)
      case atStart => exact ⟨0, by omega, rfl, rfl, rfl, by simpa [byts] using ho, hnz, hb⟩
      case round =>
        obtain ⟨m, hm, rfl, rfl, rfl, ho1, hnz1, hb1⟩ := hrel
        have hs := shr_bd hx m
        have hm' : m ≤ 4 := by omega
        by_cases hlt4 : m < 4
        · by_cases hz : shr (ix l k) m % 256 = 0
          · have hz1 : (shr (ix l k) m % 256 == 0) = true := by rw [hz]; rfl
            by_cases hp : shr (ix l k) m = 0
            · have hp1 : (shr (ix l k) m != 0) = false := by rw [hp]; rfl
              have hT := Lib.hid (text_ok (l := l) (p := 4 * k + m) (by rw [hr.len]; omega) hnz1 (by rw [wbyte_at l hlt4]; exact hz) (by rw [show (4 * k + m) / 4 = k from by omega, show (4 * k + m) % 4 = m from by omega]; exact hp))
              obtain ⟨A5, c5, rfl⟩ := own_shape ho1
              have hconv := conv_text (P := Try.prog) Try.underlying24 Try.underlying5 Try.underlying9 ho1 ((joined_under _).append (byts_under _ _))
              clear hz hp
              go_wp2
              rw [Exit.noGoto_ret]
              go_ret3
              refine ⟨?_, hb1⟩
              have hT := hT.out
              rw [hT.1, hT.2.1, hT.2.2, joined_take l (by rw [hr.len]; exact hlt) hm', show (4 * k + m) / 4 = k from by omega]
              simp
            · have hp1 : (shr (ix l k) m != 0) = true := by simpa using hp
              have hT := Lib.hid (text_pad (l := l) (p := 4 * k + m) (by rw [hr.len]; omega) hnz1 (by rw [wbyte_at l hlt4]; exact hz) (by rw [show (4 * k + m) / 4 = k from by omega, show (4 * k + m) % 4 = m from by omega]; exact hp))
              clear hz
              go_wp2
              rw [Exit.noGoto_ret]
              go_ret3
              exact Texts.mk hT.out hb1
          · have hz1 : (shr (ix l k) m % 256 == 0) = false := by simpa using hz
            have hle := (hnz1.succ (by rw [wbyte_at l hlt4]; exact hz)).le_stop (by rw [hr.len]; omega)
            go_wp2_with (at_builtin; refine ap_one sl8 _ rfl _ _ rfl w.heap.size _ _ _ rfl ho1 _ _ rfl rfl (by omega) (by omega) (by have := hb1.size; omega) ?_; intro v' w2 ho2 hgr2 _)
            go_roundg (4 - (m + 1))
            case measure => omega
            case rel => exact ⟨m + 1, by omega, by go_num, rfl, rfl, by rw [byts, ← List.append_assoc, Ints_append, Ints_one]; exact ho2, hnz1.succ (by rw [wbyte_at l hlt4]; exact hz), below_ap hb1 ho1 hgr2 hb1.size⟩
        · obtain rfl : m = 4 := by omega
          go_wp2
          go_roundg (n - (k + 1))
          case measure => omega
          case rel => exact ⟨k + 1, by omega, by go_num, rfl, by rw [joined_take_succ (by rw [hr.len]; exact hlt)]; exact ho1, hnz1, hb1⟩
    · obtain rfl : k = n := by omega
      go_wp2
      rw [Exit.noGoto_ret]
      go_ret3
      exact Texts.mk (text_none (by rw [hr.len]; exact hnz)) hb
theorem text_any (A : Option Addr) (n c : Nat) (l : List Int) (w : World) (hn : n ≤ 35184372087808) (hu : Under 4294967296 l) (hr : Reads w w.heap.size 1 A n (Ints .u32 l)) :
    Calls Try.prog 27 #[.slice A n c] w (Texts l w) :=
  text_far A n c l w (by omega) (by have := stop_le l; rw [hr.len] at this; omega) hu hr

set_option maxHeartbeats 1000000 in
theorem refText_any (A : Option Addr) (n c : Nat) (l : List Int) (w : World) (hn : n ≤ 35184372087808) (hu : Under 4294967296 l) (hr : Reads w w.heap.size 1 A n (Ints .u32 l)) :
    Calls Try.prog 26 #[.slice A n c] w (Texts l w) := by
  have hL := Lib.hid hr.len
  go_enter Try.func26, Try.ntmps26
  go_wp2
  go_loop [5] (fun i => ∃ p : Nat, p ≤ 4 * n ∧ i = .int .i64 p ∧ NoZero l p) (fun i => 4 * n - (intOf i).toNat)
  case atStart => exact ⟨0, by omega, rfl, NoZero.zero _⟩
  case round =>
    obtain ⟨p, hp, rfl, hnz⟩ := hrel
    by_cases hlt : p < 4 * n
    · have hd : decide ((p : Int) < 4 * (n : Int)) = true := by simp; omega
      have hne : ((p : Int) == 4 * (n : Int)) = false := by rw [beq_eq_false_iff_ne]; omega
      go_wp2_with fail
      refine (byte_any A n c l _ _ hn hu (by omega) (by omega) hr).mono ?_
      rintro e w' ⟨rfl, rfl⟩
      rw [Int.toNat_natCast]
      by_cases hz : wbyte l p = 0
      · have hz1 : (wbyte l p != 0) = false := by rw [hz]; rfl
        have Hz := Lib.hid hz
        clear hz
        go_wp2
        obtain ⟨s, r, hr4, Hp⟩ : ∃ s r, r < 4 ∧ Hid (p = 4 * s + r) := ⟨p / 4, p % 4, by omega, by show p = _; omega⟩
        have hp1 : p ≤ 4 * s + r := by have := Hp.out; omega
        have hp2 : 4 * s + r ≤ p := by have := Hp.out; omega
        have hx := hu.ix (by decide) s
        go_loop [6] (fun i => ∃ q : Nat, r < q ∧ q ≤ 4 ∧ i = .int .i64 (4 * (s : Int) + (q : Int)) ∧ Pads (ix l s) r q) (fun i => (4 * (s : Int) + 4 - intOf i).toNat)
        case atStart => exact ⟨r + 1, by omega, by omega, by go_num, Pads.start (by rw [← wbyte_at l hr4, ← Hp.out]; exact Hz.out)⟩
        case round =>
          obtain ⟨q, hq, hq4, rfl, hpd⟩ := hrel
          by_cases hlt4 : q < 4
          · have ht : ((4 * (s : Int) + (q : Int)) % 4 != 0) = true := by rw [bne_iff_ne]; omega
            go_wp2_with fail
            refine (byte_any A n c l _ _ hn hu (by omega) (by omega) hr).mono ?_
            rintro e w' ⟨rfl, rfl⟩
            rw [show (4 * (s : Int) + (q : Int)).toNat = 4 * s + q from by omega, wbyte_at l hlt4]
            by_cases hz : byt (ix l s) q = 0
            · have hz1 : (byt (ix l s) q != 0) = false := by rw [hz]; rfl
              have Hz := Lib.hid hz
              clear hz
              go_wp2
              go_round
              case rel => exact ⟨q + 1, by omega, by omega, by go_num, hpd.step Hz.out⟩
              case measure => simp [intOf]; omega
            · have hz1 : (byt (ix l s) q != 0) = true := by simpa using hz
              have hT := Lib.hid (text_pad (l := l) (p := p) (by rw [hL.out]; omega) hnz Hz.out (by rw [show p / 4 = s from by omega, show p % 4 = r from by omega]; exact hpd.bad hz))
              go_wp2
              go_ret3
              exact Texts.mk hT.out (Below.refl _ _)
          · obtain rfl : q = 4 := by omega
            have ht : ((4 * (s : Int) + 4) % 4 != 0) = false := by rw [bne_eq_false_iff_eq]; omega
            have hT := Lib.hid (text_ok (l := l) (p := p) (by rw [hL.out]; omega) hnz Hz.out (by rw [show p / 4 = s from by omega, show p % 4 = r from by omega]; exact hpd.fine hx))
            have hJ : ((joined l).take (p)).length = p := by rw [List.length_take, joined_length, hL.out]; omega
            have HJ := Lib.hid hJ
            clear hJ
            go_wp2_with (at_make; refine mk_full sl8 rfl _ rfl _ _ rfl w.heap.size (p) rfl rfl (by omega) (by omega) (by omega) (by omega) (Nat.le_refl _) ?_; intro w1 hown hgr)
            go_loopw [8] (fun i wr => ∃ k : Nat, k ≤ p ∧ i = .int .i64 k ∧ wr.ownsRow w.heap.size 5 1 (.slice (some ⟨w.heap.size, 0, none⟩) (p) (p)) (p) (Ints .u8 (mid ((joined l).take (p)) (p) k)) ∧ Below w.heap.size w wr) (fun i _ => p - (intOf i).toNat)
            case atStart => exact ⟨0, by omega, rfl, by rw [mid_zero, Ints_replicate]; exact hown, (Below.refl _ _).grown hgr (Nat.le_refl _) (fun _ h => by cases h)⟩
            case round =>
              obtain ⟨k, hk, rfl, ho, hb⟩ := hrel
              by_cases hltk : k < p
              · have hc1 := own_int_at ho hltk
                have hf1 := ho.frozenAt k
                go_wp2_with fail
                refine (byte_any A n c l _ _ hn hu (by omega) (by omega) ((hr.below hb).more hb.size)).mono ?_
                rintro e w' ⟨rfl, rfl⟩
                rw [Int.toNat_natCast, ← joined_ix l k (by rw [hL.out]; omega), ← ix_take hltk]
                go_wp2
                go_roundw
                case rel => exact ⟨k + 1, by omega, by go_num, by rw [← mid_set HJ.out hltk]; exact own_int_set ho k _, hb.setCell (Nat.le_refl _) _⟩
                case measure => simp [intOf]; omega
              · obtain rfl : k = p := by omega
                rw [mid_all HJ.out] at ho
                have hconv := conv_text (P := Try.prog) Try.underlying24 Try.underlying5 Try.underlying9 ho ((joined_under _).take _)
                go_wp2
                go_ret3
                refine ⟨?_, hb⟩
                have hT := hT.out
                rw [hT.1, hT.2.1, hT.2.2, show k / 4 = s from by omega]
                simp
                omega
      · have hz1 : (wbyte l p != 0) = true := by simpa using hz
        go_wp2
        go_round
        case rel => exact ⟨p + 1, by omega, by go_num, hnz.succ hz⟩
        case measure => simp [intOf]; omega
    · obtain rfl : p = 4 * n := by omega
      have hd : decide (4 * (n : Int) < 4 * (n : Int)) = false := by simp
      go_wp2
      go_ret3
      exact Texts.mk (text_none (by rw [hL.out]; exact hnz)) (Below.refl _ _)
end Go.Proofs.Ytmcilcgpaokifaa
