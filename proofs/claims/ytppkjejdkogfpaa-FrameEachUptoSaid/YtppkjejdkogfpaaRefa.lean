/- Walks: the document's answer for frames: Wrong, Count, Ends. -/
import Derived.Test.YtppkjejdkogfpaaLawf
namespace Go.Proofs.Ytppkjejdkogfpaa
open Go.RowKit

set_option maxRecDepth 100000 in
set_option maxHeartbeats 2000000 in
theorem wrong_any (k : Nat) (x : Int) (hk : k < 5) (w : World) :
    Calls Try.prog 29 #[.int .i64 k, .int .u32 x] w fun e w' => e = .returned (.int .i64 (wrongW k x)) ∧ w = w' := by
  have hk' : k = 0 ∨ k = 1 ∨ k = 2 ∨ k = 3 ∨ k = 4 := by omega
  rcases hk' with rfl | rfl | rfl | rfl | rfl
  · by_cases h1 : x = 50471687
    · subst h1
      go_enter Try.func29, Try.ntmps29
      go_wp2
      go_ret
      exact ⟨rfl, rfl⟩
    · have b1 : (x == 50471687) = false := by simpa using h1
      by_cases h2 : x = 119734787
      · subst h2
        go_enter Try.func29, Try.ntmps29
        go_wp2
        go_ret
        exact ⟨rfl, rfl⟩
      · have b2 : (x != 119734787) = true := by simpa using h2
        have e : wrongW 0 x = 20 := by simp [wrongW, h1, h2]
        rw [e]
        clear e h1 h2
        go_enter Try.func29, Try.ntmps29
        go_wp2
        go_ret
        exact ⟨rfl, rfl⟩
  · by_cases h2 : x = 65536
    · subst h2
      go_enter Try.func29, Try.ntmps29
      go_wp2
      go_ret
      exact ⟨rfl, rfl⟩
    · have b2 : (x != 65536) = true := by simpa using h2
      have e : wrongW 1 x = 22 := by simp [wrongW, h2]
      rw [e]
      clear e h2
      go_enter Try.func29, Try.ntmps29
      go_wp2
      go_ret
      exact ⟨rfl, rfl⟩
  · go_enter Try.func29, Try.ntmps29
    go_wp2
    go_ret
    exact ⟨rfl, rfl⟩
  · by_cases h0 : x = 0
    · subst h0
      go_enter Try.func29, Try.ntmps29
      go_wp2
      go_ret
      exact ⟨rfl, rfl⟩
    · have b0 : (x == 0) = false := by simpa using h0
      by_cases h2 : 65536 < x
      · have b2 : decide (65536 < x) = true := by simpa using h2
        have e : wrongW 3 x = 24 := by simp [wrongW, h2]
        rw [e]
        clear e h2 h0
        go_enter Try.func29, Try.ntmps29
        go_wp2
        go_ret
        exact ⟨rfl, rfl⟩
      · have b2 : decide (65536 < x) = false := by simpa using h2
        have e : wrongW 3 x = 0 := by
          unfold wrongW
          rw [if_neg (by decide), if_neg (by decide), if_pos rfl, if_neg (by omega)]
        rw [e]
        clear e h2 h0
        go_enter Try.func29, Try.ntmps29
        go_wp2
        go_ret
        exact ⟨rfl, rfl⟩
  · by_cases h2 : x = 0
    · subst h2
      go_enter Try.func29, Try.ntmps29
      go_wp2
      go_ret
      exact ⟨rfl, rfl⟩
    · have b2 : (x != 0) = true := by simpa using h2
      have e : wrongW 4 x = 23 := by simp [wrongW, h2]
      rw [e]
      clear e h2
      go_enter Try.func29, Try.ntmps29
      go_wp2
      go_ret
      exact ⟨rfl, rfl⟩

theorem count_any (A : Option Addr) (n c : Nat) (ws : List Int) (p : Nat) (w : World) (hp : p < n) (hu : Under 4294967296 ws) (hr : Reads w w.heap.size 1 A n (Ints .u32 ws)) :
    Calls Try.prog 21 #[.slice A n c, .int .i64 p] w fun e w' => e = .returned (.int .i64 (cntW (ix ws p))) ∧ w = w' := by
  obtain ⟨ad, rfl, hb, hc⟩ := hr.int_at hp
  have hx := hu.ix (by decide) p
  have hcv := (cnt_conv hx.1 hx.2).1
  have hcv2 := (cnt_conv hx.1 hx.2).2
  go_enter Try.func21, Try.ntmps21
  go_wp2
  go_ret
  exact ⟨rfl, rfl⟩

/-- what Ends answers -/
theorem ends_any (A : Option Addr) (n c : Nat) (ws : List Int) (p : Nat) (w : World) (hn : n ≤ 35184372087808) (hp : p < n) (hu : Under 4294967296 ws) (hr : Reads w w.heap.size 1 A n (Ints .u32 ws)) :
    Calls Try.prog 30 #[.slice A n c, .int .i64 p] w fun e w' => ((can ws p ∧ e = .returned (.tuple #[.int .i64 (p + cntW (ix ws p) : Nat), .bool true])) ∨ (¬ can ws p ∧ e = .returned (.tuple #[.int .i64 0, .bool false]))) ∧ w' = w := by
  have hx := hu.ix (by decide) p
  have hcv2 := (cnt_conv hx.1 hx.2).2
  have hlen := hr.len
  by_cases h0 : cntW (ix ws p) = 0
  · have b0 : ((cntW (ix ws p) : Int) == 0) = true := by simpa using h0
    have hno : ¬ can ws p := fun h => h.2.1 h0
    go_enter Try.func30, Try.ntmps30
    go_wp2_with fail
    refine (count_any A n c ws p w hp hu hr).mono ?_
    rintro e w' ⟨rfl, rfl⟩
    clear h0
    go_wp2
    (try simp only [Exit.inBlock, Exit.then]); refine bodyPost_ret (results_tmp2 rfl _ _ _) rfl ?_
    exact ⟨.inr ⟨hno, rfl⟩, rfl⟩
  · have b0 : ((cntW (ix ws p) : Int) == 0) = false := by simpa using h0
    have H0 := Lib.hid h0
    by_cases h1 : cntW (ix ws p) ≤ n - p
    · have hcan : can ws p := ⟨by omega, h0, by rw [hlen]; exact h1⟩
      have b1 : decide ((n : Int) - (p : Int) < (cntW (ix ws p) : Int)) = false := by simp; omega
      clear h0
      go_enter Try.func30, Try.ntmps30
      go_wp2_with fail
      refine (count_any A n c ws p w hp hu hr).mono ?_
      rintro e w' ⟨rfl, rfl⟩
      go_wp2
      (try simp only [Exit.inBlock, Exit.then]); refine bodyPost_ret (results_tmp2 rfl _ _ _) rfl ?_
      exact ⟨.inl ⟨hcan, rfl⟩, rfl⟩
    · have hno : ¬ can ws p := fun h => h1 (by have := h.2.2; omega)
      have b1 : decide ((n : Int) - (p : Int) < (cntW (ix ws p) : Int)) = true := by simp; omega
      clear h0
      go_enter Try.func30, Try.ntmps30
      go_wp2_with fail
      refine (count_any A n c ws p w hp hu hr).mono ?_
      rintro e w' ⟨rfl, rfl⟩
      go_wp2
      (try simp only [Exit.inBlock, Exit.then]); refine bodyPost_ret (results_tmp2 rfl _ _ _) rfl ?_
      exact ⟨.inr ⟨hno, rfl⟩, rfl⟩
end Go.Proofs.Ytppkjejdkogfpaa
