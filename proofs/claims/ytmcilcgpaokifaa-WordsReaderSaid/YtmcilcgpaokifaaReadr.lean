/- The walk of WordsReader: whatever the words and the script, it answers true. -/
import Derived.Test.YtmcilcgpaokifaaMeth
import Derived.Test.YtmcilcgpaokifaaKitB
namespace Go.Proofs.Ytmcilcgpaokifaa
open Go.RowKit

/-- a script's calls as cells -/
def Pairs (cs : List (Int × Int)) : List Value := cs.flatMap fun c => [.int .i64 c.1, .int .i64 c.2]
def pa (cs : List (Int × Int)) (k : Nat) : Int := (cs.getD k (0, 0)).1
def pb (cs : List (Int × Int)) (k : Nat) : Int := (cs.getD k (0, 0)).2
theorem Pairs_length (cs : List (Int × Int)) : (Pairs cs).length = 2 * cs.length := by
  induction cs with
  | nil => rfl
  | cons c r ih => simp only [Pairs, List.flatMap_cons, List.length_append, List.length_cons, List.length_nil] at ih ⊢; omega
theorem Pairs_at (cs : List (Int × Int)) : ∀ k, k < cs.length → (Pairs cs)[2 * k]? = some (.int .i64 (pa cs k)) ∧ (Pairs cs)[2 * k + 1]? = some (.int .i64 (pb cs k)) := by
  induction cs with
  | nil => intro k hk; simp at hk
  | cons c r ih =>
    intro k hk
    have e : Pairs (c :: r) = .int .i64 c.1 :: .int .i64 c.2 :: Pairs r := rfl
    rcases k with _ | k
    · exact ⟨by rw [e]; rfl, by rw [e]; rfl⟩
    · have := ih k (by simpa using hk)
      rw [e, show 2 * (k + 1) = 2 * k + 1 + 1 from by omega, List.getElem?_cons_succ, List.getElem?_cons_succ, List.getElem?_cons_succ, List.getElem?_cons_succ]
      exact this
theorem Reads.pairs {w : World} {B n : Nat} {A : Option Addr} {cs : List (Int × Int)} (h : Reads w B 2 A n (Pairs cs)) (hn : 0 < n) :
    ∃ b off, A = some ⟨b, off, none⟩ ∧ b < B ∧ ∀ k, k < n → w.cell? ⟨b, off + k * 2, none⟩ = some (.int .i64 (pa cs k)) ∧ w.cell? ⟨b, off + k * 2 + 1, none⟩ = some (.int .i64 (pb cs k)) := by
  have hl : cs.length = n := by have := h.1; rw [Pairs_length] at this; omega
  obtain ⟨ad, rfl, hb, hc⟩ := h.2 hn
  have h0 := hc (2 * 0) _ (Pairs_at cs 0 (by omega)).1
  obtain ⟨b, off, spot⟩ := ad
  have hs : spot = none := by simpa [Addr.add] using World.cell?_spot h0
  subst hs
  refine ⟨b, off, rfl, hb, fun k hk => ⟨?_, ?_⟩⟩
  · rw [Nat.mul_comm, ← Go.WideShapes.add_plain]; exact hc _ _ (Pairs_at cs k (by omega)).1
  · rw [Nat.mul_comm, Nat.add_assoc, ← Go.WideShapes.add_plain]; exact hc _ _ (Pairs_at cs k (by omega)).2

set_option maxRecDepth 100000 in
set_option maxHeartbeats 2000000 in
theorem law_reader (A : Option Addr) (n c : Nat) (l : List Int) (A' : Option Addr) (n' c' : Nat) (cs : List (Int × Int)) (w : World) (hn : c ≤ 35184372087808) (hnc : n ≤ c) (hu : Under 4294967296 l) (hr : Reads w w.heap.size 1 A n (Ints .u32 l))
    (hn' : n' ≤ 35184372087808) (hr' : Reads w w.heap.size 2 A' n' (Pairs cs)) :
    Calls Try.prog 11 #[.slice A n c, .slice A' n' c'] w fun e w' => e = .returned (.bool true) ∧ Below w.heap.size w w' := by
  have hL := Lib.hid hr.len
  go_enter Try.func11, Try.ntmps11
  go_wp2_with fail
  refine (copyWords A n c l _ (by omega) hr).mono ?_
  rintro e w1 ⟨g1, rfl, ho1, hb1⟩
  go_wp2_with fail
  refine (new_any _ n n l _ (by omega) (Reads.of_own ho1)).mono ?_
  rintro e w2 ⟨g, A2, c2, rfl, hR, hb2⟩
  have hB2 := below_cut hb1 hb2 (Nat.le_refl _)
  have ho1' := own_below ho1 hb2
  go_wp2_with fail
  refine (spoil_any g1 n n _ l _ (by omega) ho1').mono ?_
  rintro e w3 ⟨rfl, hg3⟩
  have hlo1 := own_lt ho1
  have hR3 := hR.grown hg3 hlo1.2
  have hB3 : Below w.heap.size w w3 := hB2.grown hg3 hB2.size (fun k hk => by cases hk; exact hlo1.1)
  clear ho1 ho1' hb1 hb2 hR hg3 hB2
  go_wp2_with fail
  refine (at_any _ hR3).mono ?_
  rintro e w4 ⟨rfl, rfl⟩
  go_wp2_with fail
  refine (left_any _ (by omega) hR3).mono ?_
  rintro e w4 ⟨rfl, d, rfl⟩
  have hR4 := hR3.drewN d
  have hB4 := below_drewN hB3 d
  generalize w3.drewN d = w4 at *
  clear hR3 hB3
  go_wp2
  go_loopw [7, 38] (fun v i wr => ∃ k p : Nat, k ≤ n' ∧ i = .int .i64 k ∧ v = .int .i64 p ∧ Rdr wr w1.heap.size g A2 n c2 l p ∧ Below w.heap.size w wr) (fun _ i _ => n' - (intOf i).toNat)
  case atStart => exact ⟨0, 0, by omega, rfl, rfl, hR4, hB4⟩
  case round =>
    obtain ⟨k, p, hk, rfl, rfl, hR, hB⟩ := hrel
    have hp := hR.le
    have hlow := hR.low
    by_cases hlt : k < n'
    · obtain ⟨b, off, rfl, hbb, hcc⟩ := (Reads.below hr' hB).pairs (by omega)
      obtain ⟨ca, cb⟩ := hcc k hlt
      clear hcc
      generalize pa cs k = X at ca
      generalize pb cs k = N at cb
      obtain ⟨Ar, hAr⟩ : ∃ Ar, (if c = p then A else Option.map (fun x => x.add p) A) = Ar := ⟨_, rfl⟩
      have hcut := ((hr.below hB).from_ hp hnc)
      rw [hAr] at hcut
      by_cases h0 : X = 0
      · subst h0
        by_cases hend : n ≤ p
        · go_wp2_with fail
          refine (word_end _ (by omega) (hR.alloc _) hend).mono ?_
          rintro e w5 ⟨rfl, hb5⟩
          have hR5 := (hR.alloc _).below hb5
          have hB5 := below_cut (hB.alloc hB.size _) hb5 (Nat.le_refl _)
          have hnp : ((n : Int) - (p : Int) == 0) = true := by rw [beq_iff_eq]; omega
          go_wp2_with fail
          refine (at_any _ hR5).mono ?_
          rintro e w6 ⟨rfl, rfl⟩
          go_wp2_with fail
          refine (left_any _ (by omega) hR5).mono ?_
          rintro e w6 ⟨rfl, d6, rfl⟩
          go_wp2
          go_roundw
          case rel => exact ⟨k + 1, p, by omega, by go_num, by go_num, (hR5).drewN d6, below_drewN hB5 d6⟩
          case measure => simp [intOf]; omega
        · go_wp2_with fail
          refine (word_ok _ (by omega) (hR.alloc _) (by omega)).mono ?_
          rintro e w5 ⟨rfl, hR5, hg5⟩
          have hB5 : Below w.heap.size w w5 := (hB.alloc hB.size _).grown hg5 (by have := hB.size; simp; omega) (fun _ hk => by cases hk; omega)
          have hcut5 := (hr.below hB5).from_ hp hnc
          rw [hAr] at hcut5
          clear hcut
          obtain ⟨b1, off1, rfl, hb1, hx⟩ := hcut5.ints (by omega)
          have hcx := hx 0 (by omega)
          rw [ix_drop, Nat.add_zero, Nat.add_zero] at hcx
          clear hx
          have hnp : ((n : Int) - (p : Int) == 0) = false := by rw [beq_eq_false_iff_ne]; omega
          go_wp2_with fail
          refine (at_any _ hR5).mono ?_
          rintro e w6 ⟨rfl, rfl⟩
          go_wp2_with fail
          refine (left_any _ (by omega) hR5).mono ?_
          rintro e w6 ⟨rfl, d6, rfl⟩
          go_wp2
          go_roundw
          case rel => exact ⟨k + 1, p + 1, by omega, by go_num, by go_num, (hR5).drewN d6, below_drewN hB5 d6⟩
          case measure => simp [intOf]; omega
      by_cases h1 : X = 1
      · subst h1
        have hsub : n - p ≤ 35184372087808 := by omega
        by_cases he : textE (l.drop p) = 0
        · obtain ⟨m, hm⟩ := Int.eq_ofNat_of_zero_le (textN_nn (l.drop p))
          have He := Lib.hid he
          have Hm := Lib.hid hm
          clear he hm
          go_wp2_with fail
          refine (refText_any Ar _ _ (l.drop p) _ hsub (hu.drop p) ((hcut.alloc hB.size _).more (by have := hB.size; simp; omega))).mono ?_
          rintro e w5 ⟨rfl, hb5⟩
          have hR5 := (hR.alloc _).below hb5
          have hB5 := below_cut (hB.alloc hB.size _) hb5 (Nat.le_refl _)
          rw [He.out, Hm.out]
          go_wp2_with fail
          refine (rtext_ok _ (by omega) hR5 hu m He.out Hm.out).mono ?_
          rintro e w7 ⟨rfl, hR7, hg7⟩
          have hB7 : Below w.heap.size w w7 := hB5.grown hg7 hB5.size (fun _ hk => by cases hk; have := hR.low; omega)
          have hpm := hR7.le
          go_wp2_with fail
          refine (at_any _ hR7).mono ?_
          rintro e w6 ⟨rfl, rfl⟩
          go_wp2_with fail
          refine (left_any _ (by omega) hR7).mono ?_
          rintro e w6 ⟨rfl, d6, rfl⟩
          go_wp2
          go_roundw
          case rel => exact ⟨k + 1, p + m, by omega, by go_num, by go_num, (hR7).drewN d6, below_drewN hB7 d6⟩
          case measure => simp [intOf]; omega
        · have he2 : textN (l.drop p) = 0 ∧ textS (l.drop p) = [] := ⟨by simp [textN, he], by simp [textS, he]⟩
          have He := Lib.hid he
          have He2 := Lib.hid he2
          clear he he2
          go_wp2_with fail
          refine (refText_any Ar _ _ (l.drop p) _ hsub (hu.drop p) ((hcut.alloc hB.size _).more (by have := hB.size; simp; omega))).mono ?_
          rintro e w5 ⟨rfl, hb5⟩
          have hR5 := (hR.alloc _).below hb5
          have hB5 := below_cut (hB.alloc hB.size _) hb5 (Nat.le_refl _)
          rw [He2.out.1, He2.out.2, str_nil]
          go_wp2_with fail
          refine (rtext_bad _ (by omega) hR5 hu He.out).mono ?_
          rintro e w7 ⟨rfl, hb7⟩
          have hR7 := hR5.below hb7
          have hB7 := below_cut hB5 hb7 (Nat.le_refl _)
          go_wp2_with fail
          refine (at_any _ hR7).mono ?_
          rintro e w6 ⟨rfl, rfl⟩
          go_wp2_with fail
          refine (left_any _ (by omega) hR7).mono ?_
          rintro e w6 ⟨rfl, d6, rfl⟩
          go_wp2
          go_roundw
          case rel => exact ⟨k + 1, p, by omega, by go_num, by go_num, (hR7).drewN d6, below_drewN hB7 d6⟩
          case measure => simp [intOf]; omega
      · have hX0 : (X == 0) = false := by simpa using h0
        have hX1 : (X == 1) = false := by simpa using h1
        have kb : Blk (wr.alloc (.cells #[.int .i64 X, .int .i64 N] 56)) wr.heap.size 56 #[.int .i64 X, .int .i64 N] := Blk.new _ _ _
        have hRa := hR.alloc (.cells #[.int .i64 X, .int .i64 N] 56)
        have hBa := hB.alloc hB.size (.cells #[.int .i64 X, .int .i64 N] 56)
        have hsa : wr.heap.size < (wr.alloc (.cells #[.int .i64 X, .int .i64 N] 56)).heap.size := by simp
        have hgl := hR.lt
        by_cases hneg : N < 0
        · go_wp2_with fail
          refine (rtake_neg _ _ hneg).mono ?_
          rintro e w5 ⟨rfl, hb5⟩
          have hR5 := hRa.below hb5
          have hB5 := below_cut hBa hb5 (Nat.le_refl _)
          have k1 := (kb.below hb5 hsa).cell 1
          simp at k1
          go_wp2_with fail
          refine (at_any _ hR5).mono ?_
          rintro e w6 ⟨rfl, rfl⟩
          go_wp2_with fail
          refine (left_any _ (by omega) hR5).mono ?_
          rintro e w6 ⟨rfl, d6, rfl⟩
          go_wp2
          go_roundw
          case rel => exact ⟨k + 1, p, by omega, by go_num, by go_num, (hR5).drewN d6, below_drewN hB5 d6⟩
          case measure => simp [intOf]; omega
        · by_cases hfar : (n : Int) - p < N
          · go_wp2_with fail
            refine (rtake_far _ _ (by omega) hRa (by omega) hfar).mono ?_
            rintro e w5 ⟨rfl, hb5⟩
            have hR5 := hRa.below hb5
            have hB5 := below_cut hBa hb5 (Nat.le_refl _)
            have k1 := (kb.below hb5 hsa).cell 1
            simp at k1
            go_wp2_with fail
            refine (at_any _ hR5).mono ?_
            rintro e w6 ⟨rfl, rfl⟩
            go_wp2_with fail
            refine (left_any _ (by omega) hR5).mono ?_
            rintro e w6 ⟨rfl, d6, rfl⟩
            go_wp2
            go_roundw
            case rel => exact ⟨k + 1, p, by omega, by go_num, by go_num, (hR5).drewN d6, below_drewN hB5 d6⟩
            case measure => simp [intOf]; omega
          · obtain ⟨m, rfl⟩ := Int.eq_ofNat_of_zero_le (show 0 ≤ N by omega)
            have hpm : p + m ≤ n := by omega
            go_wp2_with fail
            refine (rtake_ok _ m (by omega) hRa hpm).mono ?_
            rintro e w5 ⟨A5, c5, rfl, ho5, hR5, hg5⟩
            have hB5 : Below w.heap.size w w5 := hBa.grown hg5 hBa.size (fun _ hk => by cases hk; omega)
            have kb5 := kb.grown hg5 (fun e => by cases e; omega)
            have k1 := kb5.cell 1
            simp at k1
            have hcut5 := ((hr.below hB5).from_ hp hnc)
            rw [hAr] at hcut5
            have hpre := hcut5.prefix_ (m := m) (by omega)
            rw [← Ints_take] at hpre
            have hs5 := hg5.size
            go_wp2_with fail
            refine (words_same A5 Ar m m c5 _ _ _ _ (by omega) (Reads.of_own ho5) (hpre.more hB5.size)).mono ?_
            rintro e w7 ⟨rfl, d7, rfl⟩
            rw [sameB_refl]
            have hR7 := hR5.drewN d7
            have hB7 := below_drewN hB5 d7
            have ho7 := own_drewN ho5 d7
            have kb7 := kb5.drewN d7
            have hrw : (Value.slice A2 n c2).ownBlock ≠ none → True := fun _ => trivial
            have hlo : ∀ gx, (wr.alloc (.cells #[.int .i64 X, .int .i64 m] 56)).heap.size ≤ gx → (Value.slice A2 n c2).ownBlock ≠ some gx := fun gx hgx => own_ne_high hRa.row hgx
            have Hlo := Lib.hid hlo
            clear hlo hrw hcut hcut5 hpre hg5 kb5 hB5 hR5 ho5 k1 kb
            generalize w5.drewN d7 = w8 at *
            have k1 := kb7.cell 1
            simp at k1
            go_wp2_with fail
            by_cases hm0 : m = 0
            · subst hm0
              refine (spoil_none c5 _ A5).mono ?_
              rintro e w9 ⟨rfl, rfl⟩
              go_wp2_with fail
              refine (at_any _ hR7).mono ?_
              rintro e w6 ⟨rfl, rfl⟩
              go_wp2_with fail
              refine (left_any _ (by omega) hR7).mono ?_
              rintro e w6 ⟨rfl, d6, rfl⟩
              go_wp2
              go_roundw
              case rel => exact ⟨k + 1, p + 0, by omega, by go_num, by go_num, (hR7).drewN d6, below_drewN hB7 d6⟩
              case measure => simp [intOf]; omega
            · obtain ⟨gx, cx, hv, hgx⟩ := ho7.form (by omega)
              cases hv
              refine (spoil_any gx m c5 _ _ _ (by omega) ho7).mono ?_
              rintro e w9 ⟨rfl, hg9⟩
              have hR9 := hR7.grown_ hg9 (by omega) (Hlo.out gx hgx.1)
              have hB9 : Below w.heap.size w w9 := hB7.grown hg9 hB7.size (fun _ hk => by cases hk; have := hBa.size; omega)
              have k9 := (kb7.grown hg9 (fun e => by cases e; omega)).cell 1
              simp at k9
              go_wp2_with fail
              refine (at_any _ hR9).mono ?_
              rintro e w6 ⟨rfl, rfl⟩
              go_wp2_with fail
              refine (left_any _ (by omega) hR9).mono ?_
              rintro e w6 ⟨rfl, d6, rfl⟩
              go_wp2
              go_roundw
              case rel => exact ⟨k + 1, p + m, by omega, by go_num, by go_num, (hR9).drewN d6, below_drewN hB9 d6⟩
              case measure => simp [intOf]; omega
    · go_wp2
      go_ret
      exact ⟨rfl, hB⟩
end Go.Proofs.Ytmcilcgpaokifaa
