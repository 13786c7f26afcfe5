/- The walk of WordsTwice: whatever the word, it answers true. -/
import Derived.Test.YtmcilcgpaokifaaWa
namespace Go.Proofs.Ytmcilcgpaokifaa
open Go.RowKit

theorem turned_back (x : Int) (w : World) (h0 : 0 ≤ x) (h1 : x < 4294967296) :
    Calls Try.prog 17 #[.int .u32 (turn x)] w fun e w' => e = .returned (.int .u32 x) ∧ w' = w := by
  have hb := turn_bd x
  refine (turned_any (turn x) w hb.1 hb.2).mono ?_
  rintro e w' ⟨rfl, rfl⟩
  exact ⟨ret_int (turn_turn x h0 h1), rfl⟩

theorem joined_one_ix (x : Int) {k : Nat} (h : k < 4) : ix (joined [x]) k = byt x k := by
  rw [joined_ix [x] k (by simpa using h), wbyte_one h]

set_option maxHeartbeats 1000000 in
theorem law_twice (x : Int) (w : World) (h0 : 0 ≤ x) (h1 : x < 4294967296) :
    Calls Try.prog 4 #[.int .u32 x] w fun e w' => e = .returned (.bool true) ∧ Below w.heap.size w w' := by
  have hy := turn_bd x
  have tok1 : True := trivial
  go_enter Try.func4, Try.ntmps4
  go_wp2_with fail
  refine (turned_any x _ h0 h1).mono ?_
  rintro e w' ⟨rfl, rfl⟩
  go_wp2_with (first
    | (at_make; have _t := tok1; refine mk_full sl32 rfl _ rfl _ _ rfl w.heap.size 1 rfl rfl rfl rfl (by omega) (by omega) (Nat.le_refl _) ?_; intro w1 hown1 hgr1; rw [← Ints_replicate] at hown1; clear tok1)
    | (at_make; refine mk_full sl32 rfl _ rfl _ _ rfl w.heap.size 1 rfl rfl rfl rfl (by omega) (by omega) hgr1.size ?_; intro w2 hown2 hgr2; rw [← Ints_replicate] at hown2; have hn := (own_lt hown1); have hown1' := hown1.kept hgr2 (by simp [Value.ownBlock]); have hc1 := own_int_at hown1' (k := 0) (by omega); have hf1 := hown1'.frozenAt 0; have hc2 := own_int_at hown2 (k := 0) (by omega); have hf2 := hown2.frozenAt 0))
  have hne : w.heap.size ≠ w1.heap.size := by omega
  have ho1 := own_int_set hown1' 0 x
  have ho2 := hown2.kept (hown1'.stored 0 (.int .u32 x)).2 (.inr (by simp [Value.ownBlock]; omega))
  have ho1' := ho1.kept (ho2.stored 0 (.int .u32 (turn x))).2 (.inr (by simp [Value.ownBlock]; omega))
  have ho2' := own_int_set ho2 0 (turn x)
  have hb : Below w.heap.size w ((w2.setCell ⟨w.heap.size, 0, none⟩ (.int .u32 x)).setCell ⟨w1.heap.size, 0, none⟩ (.int .u32 (turn x))) :=
    ((((Below.refl _ _).grown hgr1 (Nat.le_refl _) (fun _ h => by cases h)).grown hgr2 (by omega) (fun _ h => by cases h)).setCell (Nat.le_refl _) _).setCell (show w.heap.size ≤ w1.heap.size from by omega) _
  generalize (w2.setCell ⟨w.heap.size, 0, none⟩ (.int .u32 x)).setCell ⟨w1.heap.size, 0, none⟩ (.int .u32 (turn x)) = w3 at *
  clear ho1 ho2 hown1 hown1' hown2 hgr1 hgr2 hc1 hf1 hc2 hf2 hn
  refine (join_any _ 1 1 [x] _ (by omega) (Under.one h0 h1) (Reads.of_own ho1')).mono ?_
  rintro e w4 ⟨A4, c4, rfl, ho4, hb4⟩
  have ho2' := own_below ho2' hb4
  have hB4 := below_cut hb hb4 (Nat.le_refl _)
  go_wp2_with fail
  refine (join_any _ 1 1 [turn x] _ (by omega) (Under.one hy.1 hy.2) (Reads.of_own ho2')).mono ?_
  rintro e w5 ⟨A5, c5, rfl, ho5, hb5⟩
  have ho4' := own_below ho4 hb5
  have hB5 := below_cut hB4 hb5 (Nat.le_refl _)
  obtain ⟨ga, ca, ea, _⟩ := ho4'.form (by omega)
  obtain ⟨gb, cb, eb, _⟩ := ho5.form (by omega)
  cases ea; cases eb
  have ha := fun k (hk : k < 4) => (own_int_at ho4' (k := k) hk).trans (by rw [joined_one_ix x hk])
  have hb := fun k (hk : k < 4) => (own_int_at ho5 (k := k) hk).trans (by rw [joined_one_ix (turn x) hk])
  obtain ⟨t0, t1, t2, t3⟩ := byt_turn x
  have a0 := ha 0 (by omega); have a1 := ha 1 (by omega); have a2 := ha 2 (by omega); have a3 := ha 3 (by omega)
  have b0 := hb 0 (by omega); have b1 := hb 1 (by omega); have b2 := hb 2 (by omega); have b3 := hb 3 (by omega)
  rw [t0] at b0; rw [t1] at b1; rw [t2] at b2; rw [t3] at b3
  clear t0 t1 t2 t3 ha hb ho2' ho4 ho4' ho5 hb4 hb5 hB4
  go_wp2_with fail

  go_quiet ((go_at_call 17; exact Calls.quiet_of_same (turned_back x _ h0 h1)))
  go_wp2
  go_ret

  exact ⟨rfl, below_drewN hB5 _⟩
end Go.Proofs.Ytmcilcgpaokifaa
