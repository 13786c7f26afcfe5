/- Walks: Room and OfText, the program's and the document's. -/
import Derived.Test.YtmcilcgpaokifaaSplit
import Derived.Test.YtmcilcgpaokifaaOfLaw
namespace Go.Proofs.Ytmcilcgpaokifaa
open Go.RowKit

theorem room_any (s : ByteArray) (w : World) (hs : s.size ≤ 140737488351232) :
    Calls Try.prog 21 #[.string s] w fun e w' => e = .returned (.int .i64 (roomOf (bl s) : Nat)) ∧ w = w' := by
  go_enter Try.func21, Try.ntmps21
  go_wp2
  go_ret
  exact ⟨ret_int (by unfold roomOf; rw [bl_length]; omega), rfl⟩

theorem refRoom_any (s : ByteArray) (w : World) (hs : s.size ≤ 140737488351232) :
    Calls Try.prog 22 #[.string s] w fun e w' => e = .returned (.int .i64 (roomOf (bl s) : Nat)) ∧ w = w' := by
  go_enter Try.func22, Try.ntmps22
  go_wp2
  go_ret
  exact ⟨ret_int (by unfold roomOf; rw [bl_length]; omega), rfl⟩

/-- what both answer -/
def Ofs (l : List Int) (w : World) (e : Ending) (w' : World) : Prop :=
  ∃ A', e = .returned (.tuple #[.slice A' (ofW l).length (ofW l).length, .int .i64 (ofE l)]) ∧ w'.ownsRow w.heap.size 28 1 (.slice A' (ofW l).length (ofW l).length) (ofW l).length (Ints .u32 (ofW l)) ∧ Below w.heap.size w w'
theorem Ofs.none_ {l : List Int} {w w' : World} {v : Int} (h : ofE l = v ∧ ofW l = []) (hb : Below w.heap.size w w') : Ofs l w (.returned (.tuple #[.slice none 0 0, .int .i64 v])) w' := by
  refine ⟨none, ?_, ?_, hb⟩
  · rw [h.1, h.2]; rfl
  · rw [h.2]; exact World.ownsRow_nil _ _ _ _
theorem Ofs.some_ {l : List Int} {w w' : World} {A' : Option Addr} (h : ofE l = 0 ∧ ofW l = part l l.length) (ho : w'.ownsRow w.heap.size 28 1 (.slice A' (roomOf l) (roomOf l)) (roomOf l) (Ints .u32 (part l l.length))) (hb : Below w.heap.size w w') :
    Ofs l w (.returned (.tuple #[.slice A' (roomOf l) (roomOf l), .int .i64 0])) w' := by
  refine ⟨A', ?_, ?_, hb⟩
  · rw [h.1, h.2, part_length]
  · rw [h.2, part_length]; exact ho

set_option maxHeartbeats 1000000 in
theorem of_any (s : ByteArray) (w : World) (hs : s.size ≤ 140737488351232) :
    Calls Try.prog 20 #[.string s] w (Ofs (bl s) w) := by
  have hL := Lib.hid (bl_length s)
  go_enter Try.func20, Try.ntmps20
  go_wp2
  go_loop [4, 9] (fun _ i => ∃ k : Nat, k ≤ s.size ∧ i = .int .i64 k ∧ Full (bl s) k) (fun _ i => s.size - (intOf i).toNat)
  case atStart => exact ⟨0, by omega, rfl, Full.zero _⟩
  case round =>
    obtain ⟨k, hk, rfl, hf⟩ := hrel
    by_cases hlt : k < s.size
    · have hx := bl_ix s hlt
      by_cases hz : ix (bl s) k = 0
      · have hO := Lib.hid (of_nul (by rw [hL.out]; exact hlt) hz)
        have hz1 : ((s[k].toNat : Int) == 0) = true := by rw [← hx, hz]; rfl
        clear hx hz
        go_wp2
        go_ret2
        exact Ofs.none_ hO.out (Below.refl _ _)
      · have hz1 : ((s[k].toNat : Int) == 0) = false := by rw [← hx]; simpa using hz
        clear hx
        go_wp2
        go_round
        case rel => exact ⟨k + 1, by omega, by go_num, hf.succ hz⟩
        case measure => simp [intOf]; omega
    · obtain rfl : k = s.size := by omega
      have hf' : Full (bl s) (bl s).length := by rw [hL.out]; exact hf
      obtain ⟨R, HR⟩ : ∃ R, Hid (roomOf (bl s) = R) := ⟨_, rfl⟩
      have hR : R ≤ 35184372087809 ∧ 0 < R ∧ s.size < 4 * R := by have h := HR.out; unfold roomOf at h; rw [hL.out] at h; omega
      go_wp2_with fail
      refine (room_any s _ hs).mono ?_
      rintro e w' ⟨rfl, rfl⟩
      rw [HR.out]
      by_cases hbig : 65535 < R
      · have hO := Lib.hid (of_large hf' (by rw [HR.out]; exact hbig))
        have hg : decide ((65535 : Int) < (R : Int)) = true := by simp; omega
        go_wp2_with fail
        go_ret2
        exact Ofs.none_ hO.out (Below.refl _ _)
      · have hO := Lib.hid (of_ok hf' (by rw [HR.out]; exact hbig))
        have hg : decide ((65535 : Int) < (R : Int)) = false := by simp; omega
        go_wp2_with fail
        refine (room_any s _ hs).mono ?_
        rintro e w' ⟨rfl, rfl⟩
        rw [HR.out]
        go_wp2_with (at_make; refine mk_full sl32 rfl _ rfl _ _ rfl w.heap.size R rfl rfl rfl rfl (by omega) (by omega) (Nat.le_refl _) ?_; intro w1 hown hgr)
        go_loopw [6, 25] (fun _ i wr => ∃ k : Nat, k ≤ s.size ∧ i = .int .i64 k ∧ wr.ownsRow w.heap.size 28 1 (.slice (some ⟨w.heap.size, 0, none⟩) R R) R (Ints .u32 (part (bl s) k)) ∧ Below w.heap.size w wr) (fun _ i _ => s.size - (intOf i).toNat)
        case atStart => exact ⟨0, by omega, rfl, by rw [part_zero, HR.out, Ints_replicate]; exact hown, (Below.refl _ _).grown hgr (Nat.le_refl _) (fun _ h => by cases h)⟩
        case round =>
          obtain ⟨k, hk, rfl, ho, hb⟩ := hrel
          by_cases hlt : k < s.size
          · have hx := bl_ix s hlt
            have hc := own_int_at ho (k := k / 4) (by omega)
            have hf := ho.frozenAt (k / 4)
            go_wp2_with fail
            refine wp_region_tail 14 (by kernel_rfl) (by kernel_rfl) ?_
            simp only [List.take_succ_cons, List.take_zero, List.drop_succ_cons, List.drop_zero]
            repeat (go_big_quiet_step (fail))
            refine wpQuiet_nil ?_
            go_wp2
            go_roundw
            case rel =>
              refine ⟨k + 1, by omega, by go_num, ?_, (hb.setCell (Nat.le_refl _) _).drew⟩
              rw [← part_step' (bl_under s) (by rw [hL.out]; exact hlt), hx]
              exact (own_int_set ho (k / 4) _).drew
            case measure => simp [intOf]; omega
          · obtain rfl : k = s.size := by omega
            go_wp2
            go_ret2
            rw [← hL.out, ← HR.out] at ho
            rw [← HR.out]
            exact Ofs.some_ hO.out ho hb
/-- the same, whatever the room -/
def OfsR (l : List Int) (w : World) (e : Ending) (w' : World) : Prop :=
  ∃ A' c', e = .returned (.tuple #[.slice A' (ofW l).length c', .int .i64 (ofE l)]) ∧ w'.ownsRow w.heap.size 28 1 (.slice A' (ofW l).length c') (ofW l).length (Ints .u32 (ofW l)) ∧ Below w.heap.size w w'
theorem OfsR.none_ {l : List Int} {w w' : World} {v : Int} (h : ofE l = v ∧ ofW l = []) (hb : Below w.heap.size w w') : OfsR l w (.returned (.tuple #[.slice none 0 0, .int .i64 v])) w' := by
  refine ⟨none, 0, ?_, ?_, hb⟩
  · rw [h.1, h.2]; rfl
  · rw [h.2]; exact World.ownsRow_nil _ _ _ _

set_option maxHeartbeats 1000000 in
theorem refOf_any (s : ByteArray) (w : World) (hs : s.size ≤ 140737488351232) :
    Calls Try.prog 19 #[.string s] w (OfsR (bl s) w) := by
  have hL := Lib.hid (bl_length s)
  go_enter Try.func19, Try.ntmps19
  go_wp2
  go_loop [4] (fun i => ∃ k : Nat, k ≤ s.size ∧ i = .int .i64 k ∧ Full (bl s) k) (fun i => s.size - (intOf i).toNat)
  case atStart => exact ⟨0, by omega, rfl, Full.zero _⟩
  case round =>
    obtain ⟨k, hk, rfl, hf⟩ := hrel
    by_cases hlt : k < s.size
    · have hx := bl_ix s hlt
      by_cases hz : ix (bl s) k = 0
      · have hO := Lib.hid (of_nul (by rw [hL.out]; exact hlt) hz)
        have hz1 : ((s[k].toNat : Int) == 0) = true := by rw [← hx, hz]; rfl
        clear hx hz
        go_wp2
        go_ret2
        exact OfsR.none_ hO.out (Below.refl _ _)
      · have hz1 : ((s[k].toNat : Int) == 0) = false := by rw [← hx]; simpa using hz
        clear hx
        go_wp2
        go_round
        case rel => exact ⟨k + 1, by omega, by go_num, hf.succ hz⟩
        case measure => simp [intOf]; omega
    · obtain rfl : k = s.size := by omega
      have hf' : Full (bl s) (bl s).length := by rw [hL.out]; exact hf
      obtain ⟨R, HR⟩ : ∃ R, Hid (roomOf (bl s) = R) := ⟨_, rfl⟩
      have hR : R ≤ 35184372087809 ∧ 0 < R ∧ s.size < 4 * R := by have h := HR.out; unfold roomOf at h; rw [hL.out] at h; omega
      go_wp2_with fail
      refine (refRoom_any s _ hs).mono ?_
      rintro e w' ⟨rfl, rfl⟩
      rw [HR.out]
      by_cases hbig : 65535 < R
      · have hO := Lib.hid (of_large hf' (by rw [HR.out]; exact hbig))
        have hg : decide ((65535 : Int) < (R : Int)) = true := by simp; omega
        go_wp2_with fail
        go_ret2
        exact OfsR.none_ hO.out (Below.refl _ _)
      · have hO := Lib.hid (of_ok hf' (by rw [HR.out]; exact hbig))
        have hg : decide ((65535 : Int) < (R : Int)) = false := by simp; omega
        go_wp2_with fail
        refine (refRoom_any s _ hs).mono ?_
        rintro e w' ⟨rfl, rfl⟩
        rw [HR.out]
        have hM := Lib.hid (mid_length (l := bl s) (n := 4 * R) (k := s.size) (by omega) (by rw [hL.out]; omega))
        go_wp2_with (at_make; refine mk_full sl8 rfl _ rfl _ _ rfl w.heap.size (4 * R) rfl rfl (by omega) (by omega) (by omega) (by omega) (Nat.le_refl _) ?_; intro w1 hown hgr)
        go_loopw [6] (fun i wr => ∃ k : Nat, k ≤ s.size ∧ i = .int .i64 k ∧ wr.ownsRow w.heap.size 5 1 (.slice (some ⟨w.heap.size, 0, none⟩) (4 * R) (4 * R)) (4 * R) (Ints .u8 (mid (bl s) (4 * R) k)) ∧ Below w.heap.size w wr) (fun i _ => s.size - (intOf i).toNat)
        case atStart => exact ⟨0, by omega, rfl, by rw [mid_zero, Ints_replicate]; exact hown, (Below.refl _ _).grown hgr (Nat.le_refl _) (fun _ h => by cases h)⟩
        case round =>
          obtain ⟨k, hk, rfl, ho, hb⟩ := hrel
          by_cases hlt : k < s.size
          · have hx := Lib.hid (bl_ix s hlt)
            have hc := own_int_at ho (k := k) (by omega)
            have hf := ho.frozenAt k
            go_wp2
            go_roundw
            case rel =>
              refine ⟨k + 1, by omega, by go_num, ?_, hb.setCell (Nat.le_refl _) _⟩
              rw [← mid_set' (by rw [hL.out]; exact hlt) (by omega), hx.out]
              exact own_int_set ho k _
            case measure => simp [intOf]; omega
          · obtain rfl : k = s.size := by omega
            go_wp2_with fail
            refine (refSplit_any _ (4 * R) (4 * R) _ _ (by omega) (mid_under (bl_under s) _ _) (Reads.of_own ho)).mono ?_
            rintro e w2 ⟨A2, c2, rfl, ho2, hc2, hb2⟩
            have hS := split_whole (l := mid (bl s) (4 * R) s.size) (by rw [hM.out]; omega) (by rw [hM.out]; omega)
            have hW : splitW (mid (bl s) (4 * R) s.size) = ofW (bl s) := by
              rw [hS.2, hM.out, hO.out.2, show 4 * R / 4 = R from by omega]
              unfold part
              rw [HR.out, hL.out]
            have hE : splitE (mid (bl s) (4 * R) s.size) = ofE (bl s) := by rw [hS.1, hO.out.1]
            rw [hW] at ho2
            rw [hW, hE]
            clear hW hE hS
            go_wp2
            go_ret2
            exact ⟨A2, c2, rfl, own_base ho2 hb.size, below_cut hb hb2 (Nat.le_refl _)⟩
end Go.Proofs.Ytmcilcgpaokifaa
