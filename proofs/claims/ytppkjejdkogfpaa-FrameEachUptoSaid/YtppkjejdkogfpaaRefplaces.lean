/- Walks: the document's answer for frames: Places, Find (words up to 1048576). -/
import Derived.Test.YtppkjejdkogfpaaRefat
import Derived.Test.YtppkjejdkogfpaaFindLaw
import Derived.Test.YtppkjejdkogfpaaFindf
namespace Go.Proofs.Ytppkjejdkogfpaa
open Go.RowKit

theorem slI : SliceOf Try.prog 38 3 (.int .i64 0) 1 8 := ⟨Try.underlying38, by kernel_rfl, rfl, by decide⟩
/-- the places -/
def pl (L : List (Nat × Ins)) : List Int := L.map fun q => (q.1 : Int)
theorem pl_length (L : List (Nat × Ins)) : (pl L).length = L.length := by simp [pl]
theorem pl_at {L : List (Nat × Ins)} {k : Nat} (h : k < L.length) : ix (pl L) k = ((L[k]).1 : Int) := by
  rw [ix_of (by rw [pl_length]; exact h)]
  simp [pl]

set_option maxRecDepth 100000 in
set_option maxHeartbeats 2000000 in
theorem places_any (A : Option Addr) (n c : Nat) (ws : List Int) (L : List (Nat × Ins)) (E : Nat) (w : World) (hn : n ≤ 1048576) (hr : Reads w w.heap.size 1 A n (Ints .u32 ws)) (hu : Under 4294967296 ws) (hG : Goes ws 5 L E) :
    Calls Try.prog 18 #[.slice A n c] w fun e w' => ∃ A' c', e = .returned (.slice A' L.length c') ∧ w'.ownsRow w.heap.size 3 1 (.slice A' L.length c') L.length (Ints .i64 (pl L)) ∧ Below w.heap.size w w' := by
  have hlen := hr.len
  have hGl := hG.len
  have hLn : L.length ≤ 1048576 := by omega
  have HLn := Lib.hid hLn
  have Hn := Lib.hid hn
  have hn3 : n ≤ 35184372087808 := Nat.le_trans hn (by decide)
  clear hLn hn hGl
  go_enter Try.func18, Try.ntmps18
  go_wp2_with fail
  go_loopw [3, 4] (fun v i wr => ∃ (p : Nat) (A' : Option Addr) (c' : Nat) (l rest : List (Nat × Ins)), i = .int .i64 p ∧ v = .slice A' l.length c' ∧ Goes ws p rest E ∧ L = l ++ rest ∧ wr.ownsRow w.heap.size 3 1 (.slice A' l.length c') l.length (Ints .i64 (pl l)) ∧ Below w.heap.size w wr) (fun _ i _ => n + 1 - (intOf i).toNat)
  case atStart => exact ⟨5, none, 0, [], L, rfl, rfl, hG, rfl, World.ownsRow_nil _ _ _ _, Below.refl _ _⟩
  case round =>
    obtain ⟨p, A', c', l, rest, rfl, rfl, hgo, hLe, hown, hb⟩ := hrel
    have hll : l.length + rest.length = L.length := by rw [hLe]; simp
    by_cases hp : p < n
    · have hrw := (hr.below hb).more (B' := wr.heap.size) hb.size
      have hends := ends_any A n c ws p wr hn3 hp hu hrw
      have hpd : decide ((p : Int) < (n : Int)) = true := by simp; omega
      cases hgo with
      | stop hno =>
        have hl : l = L := by rw [hLe, List.append_nil]
        go_wp2_with fail
        refine hends.mono ?_
        rintro e w' ⟨h, rfl⟩
        rcases h with ⟨hc, _⟩ | ⟨_, rfl⟩
        · exact absurd hc hno
        rw [hl] at hown
        rw [hl]
        clear hl hLe
        go_wp2_with fail
        go_ret
        exact ⟨A', c', rfl, hown, hb⟩
      | @step _ _ rest hcan hgo' =>
        have hq := hcan.2.1
        have Hcan := Lib.hid hcan
        have Hq := Lib.hid hq
        obtain ⟨q, hqe⟩ : ∃ q, p + cntW (ix ws p) = q := ⟨_, rfl⟩
        rw [hqe] at hgo'
        have hpq : p < q := by omega
        have Hll := Lib.hid hll
        have HLe := Lib.hid hLe
        clear hq hcan hll hLe
        go_wp2_with fail
        refine hends.mono ?_
        rintro e w' ⟨h, rfl⟩
        rcases h with ⟨_, rfl⟩ | ⟨hc, _⟩
        case inr => exact absurd Hcan.out hc
        rw [hqe]
        clear hqe
        have hbs := hb.size
        go_wp2_with (at_builtin; refine ap_one slI _ rfl _ _ rfl w.heap.size _ _ _ rfl hown _ _ rfl rfl (by have := HLn.out; have := Hll.out; omega) (by have := HLn.out; have := Hll.out; omega) hbs ?_; intro v7 w7 hown7 hgr7 _; obtain ⟨A7, c7, rfl⟩ := own_shape hown7; have hb7 := below_ap hb hown hgr7 hbs)
        go_roundw
        case rel =>
          refine ⟨q, A7, c7, l ++ [(p, insAt ws p)], rest, rfl, by rw [List.length_append]; rfl, hgo', by rw [HLe.out, List.append_assoc]; rfl, ?_, hb7⟩
          have e : pl (l ++ [(p, insAt ws p)]) = pl l ++ [(p : Int)] := by simp [pl]
          rw [e, Ints_append, Ints_one, List.length_append]
          exact hown7
        case measure => simp [intOf]; omega
    · have hpd : decide ((p : Int) < (n : Int)) = false := by simp; omega
      have hrest : rest = [] := by
        cases hgo with
        | stop _ => rfl
        | step hc _ => have := hc.1; omega
      subst hrest
      have hl : l = L := by rw [hLe, List.append_nil]
      rw [hl] at hown
      rw [hl]
      clear hl hLe hll
      go_wp2_with fail
      go_ret
      exact ⟨A', c', rfl, hown, hb⟩

theorem Goes.at_ {ws : List Int} {p E : Nat} {L : List (Nat × Ins)} (h : Goes ws p L E) {k : Nat} (hk : k < L.length) : (L[k]).1 < ws.length ∧ (L[k]).2.1 = ix ws (L[k]).1 % 65536 := by
  obtain ⟨q, hq, hc⟩ := h.mem (List.getElem_mem hk)
  rw [hq]
  exact ⟨hc.1, rfl⟩
set_option maxRecDepth 100000 in
set_option maxHeartbeats 2000000 in
theorem refFind_any (A : Option Addr) (n c : Nat) (ws : List Int) (op fr : Int) (L : List (Nat × Ins)) (E : Nat) (w : World) (hn : n ≤ 1048576) (hr : Reads w w.heap.size 1 A n (Ints .u32 ws)) (hu : Under 4294967296 ws) (hG : Goes ws 5 L E) :
    Calls Try.prog 27 #[.slice A n c, .int .u16 op, .int .i64 fr] w (FindIs L op fr w) := by
  have hlen := hr.len
  have hpl := places_any A n c ws L E w hn hr hu hG
  go_enter Try.func27, Try.ntmps27
  go_wp2_with fail
  refine hpl.mono ?_
  rintro e w1 ⟨A1, c1, rfl, ho1, hb1⟩
  have hr1 := hr.below hb1
  have hp1 := Reads.of_own ho1
  obtain ⟨N, hN⟩ : ∃ N, L.length = N := ⟨_, rfl⟩
  rw [hN] at hp1 ⊢
  have hN1 : N ≤ 1048576 := by have := hG.len; omega
  have HN := Lib.hid hN
  clear hN
  go_wp2_with fail
  go_loop [9] (fun i => ∃ k : Nat, k ≤ N ∧ i = .int .i64 k ∧ ∀ q ∈ L.take k, fitsB op fr q = false) (fun i => N - (intOf i).toNat)
  case atStart => exact ⟨0, by omega, rfl, by simp⟩
  case round =>
    obtain ⟨k, hk, rfl, hno⟩ := hrel
    by_cases hlt : k < N
    · have hkL : k < L.length := by have := HN.out; omega
      obtain ⟨ad1, rfl, hb1l, hc1⟩ := hp1.int_at hlt
      rw [pl_at hkL] at hc1
      obtain ⟨g1, g2⟩ := hG.at_ hkL
      have hsplit : L = L.take k ++ L[k] :: L.drop (k + 1) := by rw [List.getElem_cons_drop, List.take_append_drop]
      have htk : L.take (k + 1) = L.take k ++ [L[k]] := List.take_succ_eq_append_getElem hkL
      have hfb : fitsB op fr L[k] = (decide (fr ≤ ((L[k]).1 : Int)) && decide ((L[k]).2.1 = op)) := rfl
      generalize L[k] = q at *
      obtain ⟨qp, qi⟩ := q
      simp only at hc1 g1 g2 hfb
      obtain ⟨ad2, rfl, hb2l, hc2⟩ := hr1.int_at (k := qp) (by omega)
      have hmod : IntKind.u16.wrap (ix ws qp % 65536) = ix ws qp % 65536 := by simp [IntKind.wrap, IntKind.signed, IntKind.bits]
      have hqn : qp < n := by omega
      have hx := hu.ix (by decide) qp
      have Hsplit := Lib.hid hsplit
      have Htk := Lib.hid htk
      clear hsplit htk
      by_cases h1 : fr ≤ (qp : Int)
      · have b1 : decide (fr ≤ (qp : Int)) = true := by simpa using h1
        by_cases h2 : ix ws qp % 65536 = op
        · have b2 : (ix ws qp % 65536 == op) = true := by simpa using h2
          have hfit : fitsB op fr (qp, qi) = true := by rw [hfb]; simp [h1, g2, h2]
          clear h1 h2 g2 hfb
          go_wp2_with fail
          (try simp only [Exit.inBlock, Exit.then]); refine bodyPost_ret (results_tmp2 rfl _ _ _) rfl ?_
          exact ⟨by rw [Hsplit.out, findR_some hno hfit]; rfl, hb1⟩
        · have b2 : (ix ws qp % 65536 == op) = false := by simpa using h2
          have hfit : fitsB op fr (qp, qi) = false := by rw [hfb]; simp [g2, h2]
          clear h1 h2 g2 hfb
          go_wp2_with fail
          go_round
          case rel => exact ⟨k + 1, by omega, by go_num, fun y hy => by
            rw [Htk.out] at hy
            rcases List.mem_append.1 hy with hy | hy
            · exact hno y hy
            · rw [List.mem_singleton] at hy; rw [hy]; exact hfit⟩
          case measure => simp [intOf]; omega
      · have b1 : decide (fr ≤ (qp : Int)) = false := by simpa using h1
        have hfit : fitsB op fr (qp, qi) = false := by rw [hfb]; simp [h1]
        clear h1 g2 hfb
        go_wp2_with fail
        go_round
        case rel => exact ⟨k + 1, by omega, by go_num, fun y hy => by
          rw [Htk.out] at hy
          rcases List.mem_append.1 hy with hy | hy
          · exact hno y hy
          · rw [List.mem_singleton] at hy; rw [hy]; exact hfit⟩
        case measure => simp [intOf]; omega
    · obtain rfl : k = N := by omega
      have hL : ∀ q ∈ L, fitsB op fr q = false := fun q hq => hno q (by rw [List.take_of_length_le (by have := HN.out; omega)]; exact hq)
      go_wp2_with fail
      (try simp only [Exit.inBlock, Exit.then]); refine bodyPost_ret (results_tmp2 rfl _ _ _) rfl ?_
      exact ⟨by rw [findR_none hL]; rfl, hb1⟩
end Go.Proofs.Ytppkjejdkogfpaa
