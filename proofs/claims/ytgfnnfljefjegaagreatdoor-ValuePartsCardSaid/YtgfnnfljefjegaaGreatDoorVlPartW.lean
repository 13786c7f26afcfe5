/- Walks: Get and Put in one form; parted. -/
import Derived.Test.YtgfnnfljefjegaaGreatDoorVlPartL
namespace Go.Proofs.YtgfnnfljefjegaaGreatDoor
open Go.RowKit

/-- what Get hands out -/
def GenIs (r : Int × List Int × Int) (w : World) (e : Ending) (w' : World) : Prop :=
  ∃ A c, e = .returned (.tuple #[.int .u32 r.1, .slice A r.2.1.length c, .int .i64 r.2.2]) ∧ w'.ownsRow w.heap.size 22 1 (.slice A r.2.1.length c) r.2.1.length (Ints .u32 r.2.1) ∧ Below w.heap.size w w'
theorem get_gen (gt : Nat) (T : Int → TyI) (S : Int → SlI) (hY : Typed T) (ty : Int) (A : Option Addr) (n c : Nat) (ws : List Int) (A2 : Option Addr) (n2 c2 : Nat) (l : List Int) (w : World) (hT : TabW w (some ⟨gt, 0, none⟩) T S)
    (hr : Reads w w.heap.size 1 A n (Ints .u32 ws)) (hr2 : Reads w w.heap.size 1 A2 n2 (Ints .u32 l)) (hnc : n ≤ c) (hn2 : n2 ≤ 4611686018427387904) (hl : U32 l) :
    Calls Tryz.prog 18 #[.pointer (some ⟨gt, 0, none⟩), .int .u32 ty, .slice A n c, .slice A2 n2 c2] w (GenIs (getV T ty ws l) w) := by
  refine (get_any gt T S hY ty A n c ws A2 n2 c2 l w hT hr hr2 hnc hn2 hl).mono ?_
  rintro e w' (⟨h0, rfl, hb⟩ | ⟨h0, hb, ⟨h1, rfl⟩ | ⟨h1, p, m, A', c', hp, hm, rfl, ho⟩⟩)
  · have e1 : getV T ty ws l = (0, [], gvE T ty ws) := by unfold getV; rw [if_pos h0]
    rw [e1]
    exact ⟨none, 0, rfl, World.ownsRow_nil _ _ _ _, hb⟩
  · rw [getV_ok _ h0, if_pos h1]
    exact ⟨none, 0, rfl, World.ownsRow_nil _ _ _ _, hb⟩
  · rw [getV_ok _ h0, if_neg h1]
    have e1 : segV' ws (wkW T 0 ty l).1 (T (wkW T 0 ty l).2).size = (ws.drop p).take m := by
      unfold segV'
      rw [hp, hm]
      rfl
    have hlen : ((ws.drop p).take m).length = m := by
      have := own_len ho
      simpa using this
    refine ⟨A', c', ?_, ?_, hb⟩
    · show _ = Ending.returned (.tuple #[.int .u32 _, .slice A' (segV' ws _ _).length c', .int .i64 0])
      rw [e1, hlen]
    · show w'.ownsRow _ _ _ (.slice A' (segV' ws _ _).length c') (segV' ws _ _).length (Ints .u32 (segV' ws _ _))
      rw [e1, hlen]
      exact ho
/-- what Put hands out -/
def PutIs (r : List Int × Int) (w : World) (e : Ending) (w' : World) : Prop :=
  ∃ A c, r.1.length ≤ c ∧ e = .returned (.tuple #[.slice A r.1.length c, .int .i64 r.2]) ∧ w'.ownsRow w.heap.size 22 1 (.slice A r.1.length c) r.1.length (Ints .u32 r.1) ∧ Below w.heap.size w w'
theorem put_gen (gt : Nat) (T : Int → TyI) (S : Int → SlI) (hY : Typed T) (ty : Int) (A : Option Addr) (n c : Nat) (ws : List Int) (A2 : Option Addr) (n2 c2 : Nat) (l : List Int) (A3 : Option Addr) (n3 c3 : Nat) (part : List Int) (w : World) (hT : TabW w (some ⟨gt, 0, none⟩) T S)
    (hr : Reads w w.heap.size 1 A n (Ints .u32 ws)) (hr2 : Reads w w.heap.size 1 A2 n2 (Ints .u32 l)) (hr3 : Reads w w.heap.size 1 A3 n3 (Ints .u32 part)) (hn2 : n2 ≤ 4611686018427387904) (hl : U32 l) :
    Calls Tryz.prog 19 #[.pointer (some ⟨gt, 0, none⟩), .int .u32 ty, .slice A n c, .slice A2 n2 c2, .slice A3 n3 c3] w (PutIs (putG T ty ws l part) w) := by
  refine (put_all gt T S hY ty A n c ws A2 n2 c2 l A3 n3 c3 part w hT hr hr2 hr3 hn2 hl).mono ?_
  rintro e w' ⟨hb, ⟨h0, rfl⟩ | ⟨h0, A', c', hle, rfl, ho⟩⟩
  · have e1 : putG T ty ws l part = ([], putE T ty ws l part) := by unfold putG; rw [if_neg h0]
    rw [e1]
    exact ⟨none, 0, Nat.le_refl _, rfl, World.ownsRow_nil _ _ _ _, hb⟩
  · have e1 : putG T ty ws l part = (putV ws (wkW T 0 ty l).1 part, 0) := by unfold putG; rw [if_pos h0]
    have hlen : (putV ws (wkW T 0 ty l).1 part).length = ws.length := own_len ho
    rw [e1]
    unfold PutIs
    dsimp only
    rw [hlen]
    exact ⟨A', c', hle, rfl, ho, hb⟩
theorem parB_step {l m : List Int} {k : Nat} (h1 : k < l.length) (h2 : k < m.length) : parB (l.drop k) (m.drop k) = if ix l k = ix m k then parB (l.drop (k + 1)) (m.drop (k + 1)) else true := by
  rw [List.drop_eq_getElem_cons h1, List.drop_eq_getElem_cons h2, ix_of h1, ix_of h2]
  rfl
theorem parB_end {l m : List Int} {k : Nat} (h : l.length ≤ k ∨ m.length ≤ k) : parB (l.drop k) (m.drop k) = false := by
  rcases h with h | h
  · rw [List.drop_of_length_le h]
    unfold parB
    rfl
  · rw [List.drop_of_length_le h]
    cases l.drop k <;> rfl
set_option maxRecDepth 100000 in
set_option maxHeartbeats 1000000 in
theorem parted_any (A A' : Option Addr) (n n' c c' : Nat) (l m : List Int) (w : World) (hn : n ≤ 9223372036854775807) (hr : Reads w w.heap.size 1 A n (Ints .u32 l)) (hr' : Reads w w.heap.size 1 A' n' (Ints .u32 m)) :
    Calls Tryz.prog 20 #[.slice A n c, .slice A' n' c'] w fun e w' => e = .returned (.bool (parB l m)) ∧ Drawn w w' := by
  have E1 := Lib.hid hr.len
  have E2 := Lib.hid hr'.len
  obtain ⟨v, hv⟩ : ∃ v, v = parB l m := ⟨_, rfl⟩
  rw [← hv]
  have HV : Hid (v = parB (l.drop 0) (m.drop 0)) := Lib.hid hv
  clear hv
  go_enter Tryz.func20, Tryz.ntmps20
  go_wp2_with fail
  go_loopw [5] (fun i wr => ∃ k : Nat, k ≤ n ∧ i = .int .i64 k ∧ Hid (v = parB (l.drop k) (m.drop k)) ∧ Drawn w wr) (fun i _ => n - (intOf i).toNat)
  case atStart => exact ⟨0, by omega, rfl, HV, Drawn.refl _⟩
  case round =>
    obtain ⟨k, hk, rfl, HK, q, rfl⟩ := hrel
    by_cases hlt : k < n
    · by_cases hlt2 : k < n'
      · have hs := parB_step (l := l) (m := m) (k := k) (by rw [E1.out]; exact hlt) (by rw [E2.out]; exact hlt2)
        obtain ⟨ad, rfl, hadb, hc⟩ := hr.int_at hlt
        obtain ⟨ad', rfl, hadb', hc'⟩ := hr'.int_at hlt2
        have d1 : decide (((k : Nat) : Int) < (n : Nat)) = true := by rw [decide_eq_true_eq]; omega
        have d2 : decide (((k : Nat) : Int) < (n' : Nat)) = true := by rw [decide_eq_true_eq]; omega
        by_cases he : ix l k = ix m k
        · have hb : (ix l k != ix m k) = false := by rw [he]; simp
          have HS : Hid (v = parB (l.drop (k + 1)) (m.drop (k + 1))) := Lib.hid (by rw [HK.out, hs, if_pos he])
          clear hs he
          go_upto_region 4 with fail
          go_quiet (fail)
          go_wp2_with fail
          go_roundw
          case rel => exact ⟨k + 1, by omega, by go_num, HS, Drawn.mk _ _⟩
          case measure => simp [intOf]; omega
        · have hb : (ix l k != ix m k) = true := by simpa using he
          have HS : Hid (v = true) := Lib.hid (by rw [HK.out, hs, if_neg he])
          clear hs he
          go_upto_region 4 with fail
          go_quiet (fail)
          go_wp2_with fail
          go_ret
          exact ⟨ret_bool HS.out.symm, (Drawn.mk _ _).more _⟩
      · have d1 : decide (((k : Nat) : Int) < (n : Nat)) = true := by rw [decide_eq_true_eq]; omega
        have d2 : decide (((k : Nat) : Int) < (n' : Nat)) = false := by rw [decide_eq_false_iff_not]; omega
        have HS : Hid (v = false) := Lib.hid (by rw [HK.out, parB_end (.inr (by rw [E2.out]; omega))])
        go_wp2_with fail
        go_ret
        exact ⟨ret_bool HS.out.symm, Drawn.mk _ _⟩
    · have d1 : decide (((k : Nat) : Int) < (n : Nat)) = false := by rw [decide_eq_false_iff_not]; omega
      have HS : Hid (v = false) := Lib.hid (by rw [HK.out, parB_end (.inl (by rw [E1.out]; omega))])
      go_wp2_with fail
      go_ret
      exact ⟨ret_bool HS.out.symm, Drawn.mk _ _⟩
end Go.Proofs.YtgfnnfljefjegaaGreatDoor
