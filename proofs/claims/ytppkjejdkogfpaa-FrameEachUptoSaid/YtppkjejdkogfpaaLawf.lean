/- Walks: the statements' own helpers: head, raws, spoiled words. -/
import Derived.Test.YtppkjejdkogfpaaWritef
import Derived.Test.YtppkjejdkogfpaaSizew
namespace Go.Proofs.Ytppkjejdkogfpaa
open Go.RowKit

set_option maxRecDepth 100000 in
set_option maxHeartbeats 1000000 in
theorem lawHead_any (b : Int) (w : World) :
    Calls Try.prog 33 #[.int .u32 b] w fun e w' => e = .returned (.slice (some ⟨w.heap.size, 0, none⟩) 5 5) ∧ w'.ownsRow w.heap.size 23 1 (.slice (some ⟨w.heap.size, 0, none⟩) 5 5) 5 (Ints .u32 (headW 0 b)) ∧ Below w.heap.size w w' := by
  go_enter Try.func33, Try.ntmps33
  go_wp2_with (at_make; refine mk_full sl32 rfl _ rfl _ _ rfl w.heap.size 5 rfl rfl rfl rfl (by omega) (by omega) (Nat.le_refl _) ?_; intro w1 hown hgr; (have o0 : w1.ownsRow w.heap.size 23 1 (.slice (some ⟨w.heap.size, 0, none⟩) 5 5) 5 (Ints .u32 [0, 0, 0, 0, 0]) := hown); have o1 := own_int_set o0 0 119734787; have o2 := own_int_set o1 1 65536; have o3 := own_int_set o2 3 b; have hb := (Below.refl w.heap.size w).grown hgr (Nat.le_refl _) (fun _ h => by cases h); have c0 := own_int_at o0 (k := 0) (by omega); have f0 := o0.frozenAt 0; have c1 := own_int_at o1 (k := 1) (by omega); have f1 := o1.frozenAt 1; have c3 := own_int_at o2 (k := 3) (by omega); have f3 := o2.frozenAt 3)
  go_ret
  exact ⟨rfl, o3, ((hb.setCell (p := ⟨w.heap.size, 0, none⟩) (Nat.le_refl _) _).setCell (p := ⟨w.heap.size, 1, none⟩) (Nat.le_refl _) _).setCell (p := ⟨w.heap.size, 3, none⟩) (Nat.le_refl _) _⟩

theorem spoil_own (A : Option Addr) (n c : Nat) (base : Nat) (l : List Int) (w : World) (hn : n ≤ 35184372087808) (ho : w.ownsRow base 23 1 (.slice A n c) n (Ints .u32 l)) :
    Calls Try.prog 15 #[.slice A n c] w fun e w' => e = .returned (.tuple #[]) ∧ (∃ l', w'.ownsRow base 23 1 (.slice A n c) n (Ints .u32 l')) ∧ w.grownBy w' (Value.slice A n c).ownBlock := by
  rcases Nat.eq_zero_or_pos n with rfl | h0
  · refine (spoil_none c w A).mono ?_
    rintro e w' ⟨rfl, rfl⟩
    exact ⟨rfl, ⟨l, ho⟩, World.grownBy.refl _ _⟩
  obtain ⟨g, cap, hv, _, _⟩ := ho.form h0
  cases hv
  go_enter Try.func15, Try.ntmps15
  go_wp2
  go_loopw [2] (fun i wr => ∃ (k : Nat) (l' : List Int), k ≤ n ∧ i = .int .i64 k ∧ wr.ownsRow base 23 1 (.slice (some ⟨g, 0, none⟩) n c) n (Ints .u32 l') ∧ w.grownBy wr (some g)) (fun i _ => n - (intOf i).toNat)
  case atStart => exact ⟨0, l, by omega, rfl, ho, World.grownBy.refl _ _⟩
  case round =>
    obtain ⟨k, l', hk, rfl, ho', hg⟩ := hrel
    by_cases hlt : k < n
    · have hc := own_int_at ho' hlt
      have hf := ho'.frozenAt k
      go_wp2
      go_roundw
      case rel => exact ⟨k + 1, _, by omega, by go_num, own_int_set ho' k _, only_setCell hg (.inl rfl) _⟩
      case measure => simp [intOf]; omega
    · go_wp2
      go_end0
      exact ⟨rfl, ⟨l', ho'⟩, hg⟩

/-- up to k the two lists are alike -/
def AlikeTo (l l' : List RI) (k : Nat) : Prop := ∀ j, j < k → (ri l j).1 = (ri l' j).1
theorem AlikeTo.all {l l' : List RI} (h : l.length = l'.length) (ha : AlikeTo l l' l.length) : insL l = insL l' := by
  apply List.ext_getElem
  · simp [insL, h]
  · intro i h1 h2
    have e := ha i (by simpa [insL] using h1)
    rw [ri_of (by simpa [insL] using h1), ri_of (by simpa [insL] using h2)] at e
    simpa [insL] using e
theorem alike_at {l l' : List RI} (h : insL l = insL l') {k : Nat} (hk : k < l.length) : (ri l k).1 = (ri l' k).1 := by
  have hl : l.length = l'.length := by have := congrArg List.length h; simpa [insL] using this
  rw [← insK_ri hk, ← insK_ri (by omega), h]
def sameL (l l' : List Ins) : Bool := decide (l = l')
theorem sameL_refl (l : List Ins) : sameL l l = true := by simp [sameL]

set_option maxRecDepth 100000 in
set_option maxHeartbeats 2000000 in
theorem raws_same (A A' : Option Addr) (n n' c c' : Nat) (l l' : List RI) (w : World) (hl : l.length = n) (hl' : l'.length = n') (hn : n ≤ 35184372087808) (hn' : n' ≤ 35184372087808) (hR : RawR w A l) (hR' : RawR w A' l') :
    Calls Try.prog 13 #[.slice A n c, .slice A' n' c'] w fun e w' => e = .returned (.bool (sameL (insL l) (insL l'))) ∧ ∃ m, w' = w.drewN m := by
  by_cases hne : n = n'
  · subst hne
    go_enter Try.func13, Try.ntmps13
    go_wp2
    go_loopw [5] (fun i wr => ∃ k m : Nat, k ≤ n ∧ i = .int .i64 k ∧ AlikeTo l l' k ∧ wr = w.drewN m) (fun i _ => n - (intOf i).toNat)
    case atStart => exact ⟨0, 0, by omega, rfl, fun j hj => by omega, rfl⟩
    case round =>
      obtain ⟨k, m, hk, rfl, hA, rfl⟩ := hrel
      by_cases hlt : k < n
      · obtain ⟨b, off, rfl, hb1, hc0, hc1⟩ := hR.at2 (k := k) (by omega)
        obtain ⟨b', off', rfl, hb1', hd0, hd1⟩ := hR'.at2 (k := k) (by omega)
        have hws := hR.ws _ (ri_mem (l := l) (k := k) (by omega))
        have hws' := hR'.ws _ (ri_mem (l := l') (k := k) (by omega))
        have hle := hR.len _ (ri_mem (l := l) (k := k) (by omega))
        by_cases hop : (ri l k).1.1 = (ri l' k).1.1
        · have hopb : ((ri l k).1.1 != (ri l' k).1.1) = false := by simp [hop]
          by_cases hw : (ri l k).1.2 = (ri l' k).1.2
          · have hsb : sameB (ri l k).1.2 (ri l' k).1.2 = true := by simp [sameB, hw]
            have Hw := Lib.hid hw; have Hop := Lib.hid hop; clear hw hop
            go_wp2_with fail
            go_quiet ((go_at_call 14; exact quiet_add (words_same _ _ _ _ _ _ _ _ _ (by omega) (hws.drewN _) (hws'.drewN _))))
            simp only [hsb]
            go_wp2
            go_roundw
            case rel => exact ⟨k + 1, _, by omega, by go_num, fun j hj => by
              rcases Nat.lt_or_ge j k with h | h
              · exact hA j h
              · obtain rfl : j = k := by omega
                exact Prod.ext Hop.out Hw.out, rfl⟩
            case measure => simp [intOf]; omega
          · have hsb : sameB (ri l k).1.2 (ri l' k).1.2 = false := by simp [sameB, hw]
            have Hw := Lib.hid hw; have Hop := Lib.hid hop; clear hw hop
            go_wp2_with fail
            go_quiet ((go_at_call 14; exact quiet_add (words_same _ _ _ _ _ _ _ _ _ (by omega) (hws.drewN _) (hws'.drewN _))))
            simp only [hsb]
            go_wp2
            go_ret
            refine ⟨ret_bool (Eq.symm ?_), _, World.drewN_drewN _ _ _⟩
            simp only [sameL, decide_eq_false_iff_not]
            exact fun h => Hw.out (Prod.ext_iff.1 (alike_at h (by omega))).2
        · have hopb : ((ri l k).1.1 != (ri l' k).1.1) = true := by simpa using hop
          go_wp2_with fail
          go_quiet (fail)
          go_wp2
          go_ret
          refine ⟨ret_bool (Eq.symm ?_), _, World.drewN_drewN _ _ _⟩
          simp only [sameL, decide_eq_false_iff_not]
          exact fun h => hop (Prod.ext_iff.1 (alike_at h (by omega))).1
      · obtain rfl : k = n := by omega
        go_wp2
        go_ret
        exact ⟨ret_bool (by rw [AlikeTo.all (l := l) (l' := l') (by omega) (by rw [hl]; exact hA), sameL_refl]), _, rfl⟩
  · go_enter Try.func13, Try.ntmps13
    go_wp2
    go_ret
    refine ⟨?_, 0, rfl⟩
    have : ¬ insL l = insL l' := fun h => hne (by have := congrArg List.length h; simpa [insL, hl, hl'] using this)
    simp [sameL, this]
end Go.Proofs.Ytppkjejdkogfpaa
