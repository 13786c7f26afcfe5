/- Walks: slices.Clone of words: a row of its own with the same numbers; nothing that was there has turned. Walks: a table of types is asked: Ids. Walks: a table of types is asked: Alike. Walks: Text's own function: a name and the texts of parts. -/
import Derived.Test.YtnhpjheiihiepaaGreatDoorTF
import Derived.Test.YtnhpjheiihiepaaGreatDoorTO
import Derived.Test.YtnhpjheiihiepaaGreatDoorTN
import Derived.Test.YtnhpjheiihiepaaGreatDoorShelf
namespace Go.Proofs.YtnhpjheiihiepaaGreatDoor
open Go.RowKit

set_option maxHeartbeats 400000 in
theorem clone_any (A : Option Addr) (n c : Nat) (l : List Int) (w : World) (hn : n ≤ 35184372087808) (hr : Reads w w.heap.size 1 A n (Ints .u32 l)) :
    Calls Tryz.prog 36 #[.slice A n c] w fun e w' => ∃ A' c', e = .returned (.slice A' n c') ∧ w'.ownsRow w.heap.size 22 1 (.slice A' n c') n (Ints .u32 l) ∧ Below w.heap.size w w' := by
  have h1 := fun x => Lib.run_eql_slice_nil (P := Tryz.prog) x 26 22 A n c 0 0 Tryz.underlying26
  rcases A with _ | ad
  · obtain rfl : n = 0 := by
      rcases Nat.eq_zero_or_pos n with h | h
      · exact h
      · obtain ⟨_, e, _⟩ := hr.2 h; cases e
    have hl : l = [] := List.eq_nil_of_length_eq_zero hr.len
    subst hl
    go_enter Tryz.func36, Tryz.ntmps36
    go_wp2
    go_ret
    exact ⟨none, 0, rfl, World.ownsRow_nil _ _ _ _, Below.refl _ _⟩
  · go_enter Tryz.func36, Tryz.ntmps36
    have he : (w.alloc (.cells #[] 22)).ownsRow w.heap.size 22 1 (.slice (some ⟨w.heap.size, 0, none⟩) 0 0) 0 [] := World.ownsRow_made w #[] 0 (Nat.le_refl _) (by unfold maxLen; omega) rfl
    go_wp2_with (at_builtin; refine ap_any sl32 _ rfl _ _ rfl w.heap.size (.slice (some ⟨w.heap.size, 0, none⟩) 0 0) 0 [] rfl he w.heap.size _ n c _ rfl (hr.alloc (Nat.le_refl _) _) Ints_oneCell (by omega) (by omega) (by simp) ?_; intro A' c' w1 ho hgr hat)
    go_ret
    rw [Nat.zero_add, List.nil_append] at ho
    exact ⟨A', c', rfl, ho, ((Below.refl _ _).alloc (Nat.le_refl _) _).grown hgr (by simp) (fun k hk => by simp [Value.ownBlock] at hk; omega)⟩
end Go.Proofs.YtnhpjheiihiepaaGreatDoor

namespace Go.Proofs.YtnhpjheiihiepaaGreatDoor
open Go.RowKit

/-- a table's ids, in order -/
def TabI (w : World) (p : Option Addr) (ord : List Int) : Prop :=
  (p = none ∧ ord = []) ∨ ∃ gt A m c, p = some ⟨gt, 0, none⟩ ∧ w.cell? ⟨gt, 1, none⟩ = some (.slice A m c) ∧ Reads w w.heap.size 1 A m (Ints .u32 ord) ∧ m ≤ 7100000000000
theorem TabI.step {w w' : World} {p : Option Addr} {ord : List Int} (h : TabI w p ord) (hb : Below w.heap.size w w') : TabI w' p ord := by
  rcases h with h | ⟨gt, A, m, c, h1, h2, h3, h4⟩
  · exact .inl h
  · exact .inr ⟨gt, A, m, c, h1, (hb.cell (p := ⟨gt, 1, none⟩) (World.block_lt_of_cell? w _ h2)).trans h2, (h3.below hb).more hb.size, h4⟩
/-- what hands out words of its own -/
def WordsIs (l : List Int) (w : World) (e : Ending) (w' : World) : Prop := ∃ A' c', e = .returned (.slice A' l.length c') ∧ w'.ownsRow w.heap.size 22 1 (.slice A' l.length c') l.length (Ints .u32 l) ∧ Below w.heap.size w w'

set_option maxRecDepth 100000 in
set_option maxHeartbeats 2000000 in
theorem idsT_any (p : Option Addr) (ord : List Int) (w : World) (h : TabI w p ord) :
    Calls Tryz.prog 13 #[.pointer p] w (WordsIs ord w) := by
  rcases h with ⟨rfl, rfl⟩ | ⟨gt, A, m, c, rfl, h2, h3, h4⟩
  · go_enter Tryz.func13, Tryz.ntmps13
    go_wp2_with fail
    go_ret
    exact ⟨none, 0, rfl, World.ownsRow_nil _ _ _ _, Below.refl _ _⟩
  · have hl := h3.len
    have hc := clone_any A m c ord w (by omega) h3
    subst hl
    clear h3
    go_enter Tryz.func13, Tryz.ntmps13
    go_wp2_with fail
    refine hc.mono ?_
    rintro e w2 ⟨A', c', rfl, ho, hb⟩
    have HO := Lib.hid ho
    clear ho
    go_wp2_with fail
    go_ret
    exact ⟨A', c', rfl, HO.out, hb⟩
end Go.Proofs.YtnhpjheiihiepaaGreatDoor

namespace Go.Proofs.YtnhpjheiihiepaaGreatDoor
open Go.RowKit

theorem TabP.depth {w : World} {p : Option Addr} {T : Int → TyI} {S : Int → SlI} (h : TabP w p T S) (id : Int) : 0 ≤ (T id).depth := by
  rcases h with ⟨-, h⟩ | ⟨gt, bm, -, -, h⟩
  · rw [(h id).1]
    exact Int.le_refl _
  · exact (h.depth id).1
/-- are the first parts alike? -/
def allN (f : Int → Int → Bool) (l m : List Int) : Nat → Bool
  | 0 => true
  | k + 1 => allN f l m k && f (ix l k) (ix m k)
/-- are two types of one shape? -/
def alikeT (T : Int → TyI) : Nat → Int → Int → Bool
  | 0, _, _ => false
  | q + 1, a, b =>
    if (T a).size = 0 ∨ (T a).kind ≠ (T b).kind ∨ (T a).size ≠ (T b).size ∨ (T a).times ≠ (T b).times ∨ (T a).parts.length ≠ (T b).parts.length then false
    else if (T a).kind = 4 ∨ (T a).kind = 5 then alikeT T q (T a).part (T b).part
    else allN (alikeT T q) (T a).parts (T b).parts (T a).parts.length
/-- parts lie less deep -/
structure DeepT (T : Int → TyI) : Prop where
  one : ∀ a, (T a).size ≠ 0 → (T a).kind = 4 ∨ (T a).kind = 5 → (T (T a).part).depth < (T a).depth
  all : ∀ a, (T a).size ≠ 0 → ∀ p ∈ (T a).parts, (T p).depth < (T a).depth
theorem allN_false {f : Int → Int → Bool} {l m : List Int} {j : Nat} (h : allN f l m j = false) : ∀ k, j ≤ k → allN f l m k = false
  | 0, hk => by obtain rfl : j = 0 := by omega
                exact h
  | k + 1, hk => by
    rcases Nat.lt_or_ge k j with h1 | h1
    · obtain rfl : j = k + 1 := by omega
      exact h
    · show (allN f l m k && _) = false
      rw [allN_false h k h1]; rfl
def BoolIs (b : Bool) (w : World) (e : Ending) (w' : World) : Prop := e = .returned (.bool b) ∧ Below w.heap.size w w'

set_option maxRecDepth 100000 in
set_option maxHeartbeats 4000000 in
theorem alike_any (p : Option Addr) (T : Int → TyI) (S : Int → SlI) (hD : DeepT T) : ∀ (q : Nat) (a b : Int) (w : World), TabW w p T S → (T a).depth < (q : Int) → 0 < q →
    Calls Tryz.prog 21 #[.pointer p, .int .u32 a, .int .u32 b] w (BoolIs (alikeT T q a b) w)
  | 0, a, b, w, h, hq, h0 => absurd h0 (Nat.lt_irrefl 0)
  | q + 1, a, b, w, h, hq, h0 => by
    have ih := alike_any p T S hD q
    have ha := at_any p T S a w h.tab
    have hb := fun w2 (hb : Below w.heap.size w w2) => at_any p T S b w2 (h.step hb).tab
    have hra := h.tab.reads a
    have hrb := h.tab.reads b
    have hla := hra.len
    have hlb := hrb.len
    have hd1 := hD.one a
    have hd2 := hD.all a
    have hbd := h.tab.size a
    have hsm := (h.mild a).len
    rw [hla] at hsm
    obtain ⟨v, hv⟩ : ∃ v, v = alikeT T (q + 1) a b := ⟨_, rfl⟩
    rw [← hv]
    replace hv : v = if (T a).size = 0 ∨ (T a).kind ≠ (T b).kind ∨ (T a).size ≠ (T b).size ∨ (T a).times ≠ (T b).times ∨ (T a).parts.length ≠ (T b).parts.length then false
      else if (T a).kind = 4 ∨ (T a).kind = 5 then alikeT T q (T a).part (T b).part
      else allN (alikeT T q) (T a).parts (T b).parts (T a).parts.length := hv
    rw [hla, hlb] at hv
    have HV0 := Lib.hid hv
    clear hv
    have HT := Lib.hid h
    clear h
    generalize T a = x at *
    generalize T b = y at *
    generalize S a = s at *
    generalize S b = u at *
    obtain ⟨x1, x2, x3, x4, x5, x6, x7, x8⟩ := x
    obtain ⟨y1, y2, y3, y4, y5, y6, y7, y8⟩ := y
    obtain ⟨sA, sn, sc⟩ := s
    obtain ⟨uA, un, uc⟩ := u
    unfold tyV at ha hb
    dsimp only at *
    have HV0 : Hid (v = if x2 = 0 ∨ x1 ≠ y1 ∨ x2 ≠ y2 ∨ x7 ≠ y7 ∨ sn ≠ un then false else if x1 = 4 ∨ x1 = 5 then alikeT T q x6 y6 else allN (alikeT T q) x8 y8 sn) := HV0
    have HL := Lib.hid (And.intro hla hlb)
    clear hla hlb
    go_enter Tryz.func21, Tryz.ntmps21
    go_wp2_with fail
    refine ha.mono ?_
    rintro e w2 ⟨rfl, hb2⟩
    go_wp2_with fail
    refine (hb _ hb2).mono ?_
    rintro e w3 ⟨rfl, hb3⟩
    have hb4 := below_cut hb2 hb3 (Nat.le_refl _)
    have hb5 := (hb4.alloc hb4.size (.cells #[.int .u8 x1, .int .i64 x2, .int .i64 x3, .bool x4, .int .u32 x5, .int .u32 x6, .int .i64 x7, .slice sA sn sc] 81)).alloc (by have := hb4.size; simp; omega) (.cells #[.int .u8 y1, .int .i64 y2, .int .i64 y3, .bool y4, .int .u32 y5, .int .u32 y6, .int .i64 y7, .slice uA un uc] 81)
    have kx := (Blk.new w3 81 #[.int .u8 x1, .int .i64 x2, .int .i64 x3, .bool x4, .int .u32 x5, .int .u32 x6, .int .i64 x7, .slice sA sn sc]).alloc (.cells #[.int .u8 y1, .int .i64 y2, .int .i64 y3, .bool y4, .int .u32 y5, .int .u32 y6, .int .i64 y7, .slice uA un uc] 81)
    have ky := Blk.new (w3.alloc (.cells #[.int .u8 x1, .int .i64 x2, .int .i64 x3, .bool x4, .int .u32 x5, .int .u32 x6, .int .i64 x7, .slice sA sn sc] 81)) 81 #[.int .u8 y1, .int .i64 y2, .int .i64 y3, .bool y4, .int .u32 y5, .int .u32 y6, .int .i64 y7, .slice uA un uc]
    rw [World.size_alloc] at ky
    by_cases c0 : x2 = 0
    · have d0 : (x2 == 0) = true := by simpa using c0
      have hv1 : v = false := by rw [HV0.out, if_pos (.inl c0)]
      clear HV0 c0 hd1 hd2 hbd
      go_wp2_with fail
      go_ret
      exact ⟨by rw [hv1]; rfl, hb5⟩
    have d0 : (x2 == 0) = false := by simpa using c0
    by_cases c1 : x1 ≠ y1
    · have d1 : (x1 != y1) = true := by simpa using c1
      have hv1 : v = false := by rw [HV0.out, if_pos (.inr (.inl c1))]
      clear HV0 c0 c1 hd1 hd2 hbd
      go_wp2_with fail
      go_ret
      exact ⟨by rw [hv1]; rfl, hb5⟩
    have d1 : (x1 != y1) = false := by simpa using c1
    by_cases c2 : x2 ≠ y2
    · have d2 : (x2 != y2) = true := by simpa using c2
      have hv1 : v = false := by rw [HV0.out, if_pos (.inr (.inr (.inl c2)))]
      clear HV0 c0 c1 c2 hd1 hd2 hbd
      go_wp2_with fail
      go_ret
      exact ⟨by rw [hv1]; rfl, hb5⟩
    have d2 : (x2 != y2) = false := by simpa using c2
    by_cases c3 : x7 ≠ y7
    · have d3 : (x7 != y7) = true := by simpa using c3
      have hv1 : v = false := by rw [HV0.out, if_pos (.inr (.inr (.inr (.inl c3))))]
      clear HV0 c0 c1 c2 c3 hd1 hd2 hbd
      go_wp2_with fail
      go_ret
      exact ⟨by rw [hv1]; rfl, hb5⟩
    have d3 : (x7 != y7) = false := by simpa using c3
    by_cases c4 : sn ≠ un
    · have d4 : ((sn : Int) != (un : Int)) = true := by have := c4; simp only [bne_iff_ne, ne_eq]; omega
      have hv1 : v = false := by rw [HV0.out, if_pos (.inr (.inr (.inr (.inr c4))))]
      have d4n : (decide (sn = un)) = false := by simpa using c4
      clear HV0 c0 c1 c2 c3 c4 hd1 hd2 hbd
      go_wp2_with fail
      go_ret
      exact ⟨by rw [hv1]; rfl, hb5⟩
    have d4 : ((sn : Int) != (un : Int)) = false := by have := Decidable.not_not.1 c4; rw [this]; simp
    have hv := HV0.out
    rw [if_neg (by rintro (h | h | h | h | h); exact c0 h; exact c1 h; exact c2 h; exact c3 h; exact c4 h)] at hv
    have hd1 := hd1 c0
    have hd2 := hd2 c0
    obtain rfl : sn = un := Decidable.not_not.1 c4
    by_cases c5 : x1 = 4 ∨ x1 = 5
    · rw [if_pos c5] at hv
      have hd1 := hd1 c5
      have HV := Lib.hid hv
      have hih := ih x6 y6 _ (HT.out.step hb5) (by omega) (by have := HT.out.tab.depth x6; omega)
      clear hv HV0 hd2 c0 c1 c2 c3 c4 hd1 hbd
      obtain ⟨z, hz⟩ : ∃ z, z = alikeT T q x6 y6 := ⟨_, rfl⟩
      rw [← hz] at hih HV
      clear hz
      rcases c5 with c5 | c5
      · have d5 : (x1 == 4) = true := by simpa using c5
        clear c5
        go_wp2_with fail
        refine hih.mono ?_
        rintro e w4 ⟨rfl, hb6⟩
        have hb7 := below_cut hb5 hb6 (Nat.le_refl _)
        go_wp2_with fail
        go_ret
        exact ⟨by rw [HV.out]; rfl, hb7⟩
      · have d5 : (x1 == 4) = false := by rw [c5]; rfl
        have d6 : (x1 == 5) = true := by simpa using c5
        clear c5
        go_wp2_with fail
        refine hih.mono ?_
        rintro e w4 ⟨rfl, hb6⟩
        have hb7 := below_cut hb5 hb6 (Nat.le_refl _)
        go_wp2_with fail
        go_ret
        exact ⟨by rw [HV.out]; rfl, hb7⟩
    · rw [if_neg c5] at hv
      have d5 : (x1 == 4) = false := by simpa using fun h => c5 (.inl h)
      have d6 : (x1 == 5) = false := by simpa using fun h => c5 (.inr h)
      have HV := Lib.hid hv
      have HD := Lib.hid hd2
      clear hv HV0 hd1 hd2 c0 c1 c2 c3 c4 c5 hbd
      go_wp2_with fail
      generalize ((w3.alloc (.cells #[.int .u8 x1, .int .i64 x2, .int .i64 x3, .bool x4, .int .u32 x5, .int .u32 x6, .int .i64 x7, .slice sA sn sc] 81)).alloc (.cells #[.int .u8 y1, .int .i64 y2, .int .i64 y3, .bool y4, .int .u32 y5, .int .u32 y6, .int .i64 y7, .slice uA sn uc] 81)) = W at *
      have hWs := hb5.size
      have HKY := ky
      clear ky kx hb4 hb2 hb3 ha hb
      go_loopg [70] sn (fun qq i wr => ∃ k : Nat, k + qq = sn ∧ i = .int .i64 (k : Nat) ∧ Hid (allN (alikeT T q) x8 y8 k = true) ∧ Below w.heap.size w wr ∧ Below W.heap.size W wr)
      case atStart => exact ⟨0, by omega, rfl, Lib.hid rfl, hb5, Below.refl _ _⟩
      case round =>
        obtain ⟨k, hkq, rfl, HK, hbr, hbW⟩ := hrel
        by_cases hlt : k < sn
        · obtain ⟨hla, hlb⟩ := HL.out
          obtain ⟨b, off, rfl, hbb, hcc⟩ := hra.ints (by omega)
          obtain ⟨b', off', rfl, hbb', hcc'⟩ := hrb.ints (by omega)
          have c0 := (hbr.cell (p := ⟨b, off + k, none⟩) hbb).trans (hcc k hlt)
          have c1 := (hbr.cell (p := ⟨b', off' + k, none⟩) hbb').trans (hcc' k hlt)
          have hmem : ix x8 k ∈ x8 := by rw [ix_of (by omega)]; exact List.getElem_mem _
          have hdk := HD.out _ hmem
          have hih := ih (ix x8 k) (ix y8 k) wr (HT.out.step hbr) (by omega) (by have := HT.out.tab.depth (ix x8 k); omega)
          have hst : allN (alikeT T q) x8 y8 (k + 1) = alikeT T q (ix x8 k) (ix y8 k) := by
            show (allN (alikeT T q) x8 y8 k && _) = _
            rw [HK.out, Bool.true_and]
          have HST := Lib.hid hst
          have HKS := Lib.hid (show k + 1 ≤ sn by omega)
          have kyr := HKY.step hbW
          obtain ⟨y0c, y1c, y2c, y3c, y4c, y5c, y6c, y7c⟩ := ty8_ kyr
          obtain ⟨z, hz⟩ : ∃ z, z = alikeT T q (ix x8 k) (ix y8 k) := ⟨_, rfl⟩
          rw [← hz] at hih HST
          generalize ix x8 k = pk at *
          generalize ix y8 k = qk at *
          clear hcc hcc' hst hz hla hlb hdk hmem hra hrb
          cases z with
          | true =>
            go_wp2_with fail
            refine hih.mono ?_
            rintro e w4 ⟨rfl, hb6⟩
            have hb7 := below_cut hbr hb6 (Nat.le_refl _)
            have hb8 := below_cut hbW hb6 (Nat.le_refl _)
            clear y0c y1c y2c y3c y4c y5c y6c y7c
            go_wp2_with fail
            go_roundg (sn - (k + 1))
            case measure => omega
            case rel => exact ⟨k + 1, by omega, by go_num, Lib.hid HST.out, hb7, hb8⟩
          | false =>
            go_wp2_with fail
            refine hih.mono ?_
            rintro e w4 ⟨rfl, hb6⟩
            have hb7 := below_cut hbr hb6 (Nat.le_refl _)
            clear y0c y1c y2c y3c y4c y5c y6c y7c
            go_wp2_with fail
            go_ret
            exact ⟨by rw [HV.out, allN_false HST.out sn HKS.out]; rfl, hb7⟩
        · obtain rfl : gk = 0 := by omega
          obtain rfl : k = sn := by omega
          go_wp2_with fail
          go_ret
          exact ⟨by rw [HV.out, HK.out]; rfl, hbr⟩
end Go.Proofs.YtnhpjheiihiepaaGreatDoor

namespace Go.Proofs.YtnhpjheiihiepaaGreatDoor
open Go.RowKit

theorem slS : SliceOf Tryz.prog 125 9 (.string ⟨#[]⟩) 1 16 := ⟨Tryz.underlying125, by kernel_rfl, rfl, by decide⟩
/-- texts as cells -/
def strV (f : Int → List UInt8) (l : List Int) : List Value := l.map fun id => Value.string (bs (f id))
theorem strV_take {f : Int → List UInt8} {l : List Int} {k : Nat} (h : k < l.length) : strV f (l.take (k + 1)) = strV f (l.take k) ++ [.string (bs (f (ix l k)))] := by
  unfold strV
  rw [List.take_succ_eq_append_getElem h, List.map_append, ix_of h]
  rfl
theorem Reads.strs {w : World} {B n : Nat} {A : Option Addr} {f : Int → List UInt8} {l : List Int} (h : Reads w B 1 A n (strV f l)) (hn : 0 < n) :
    ∃ b off, A = some ⟨b, off, none⟩ ∧ b < B ∧ ∀ (j : Nat) x, (l.map fun id => bs (f id))[j]? = some x → w.cell? ⟨b, off + j, none⟩ = some (.string x) := by
  have hl : l.length = n := by have := h.1; unfold strV at this; rw [List.length_map, Nat.mul_one] at this; exact this
  obtain ⟨ad, rfl, hb, hc⟩ := h.2 hn
  obtain ⟨b, off, spot⟩ := ad
  have h0 := hc 0 (.string (bs (f (ix l 0)))) (by unfold strV; rw [List.getElem?_map, List.getElem?_eq_getElem (by omega), ix_of (by omega)]; rfl)
  have hs : spot = none := by simpa [Addr.add] using World.cell?_spot h0
  subst hs
  refine ⟨b, off, rfl, hb, fun j x hj => ?_⟩
  rw [← add_plain]
  refine hc j (.string x) ?_
  unfold strV
  rw [List.getElem?_map] at hj ⊢
  cases hlj : l[j]? with
  | none => rw [hlj] at hj; cases hj
  | some y =>
    rw [hlj] at hj
    simp only [Option.map_some, Option.some.injEq] at hj ⊢
    rw [hj]
theorem bs_lists (f : Int → List UInt8) (l : List Int) : ((l.map fun id => bs (f id)).map (·.data.toList)) = l.map f := by
  rw [List.map_map]
  apply List.map_congr_left
  intro x _
  simp [bs]
def kindB (k : Int) : Bool := decide (1 ≤ k ∧ k ≤ 8)
/-- what Text answers -/
def TextIs (T : Int → TyI) (q : Nat) (id : Int) (w : World) (e : Ending) (w' : World) : Prop := e = .returned (.tuple #[.string (bs (textT T q id)), .bool (kindB (T id).kind)]) ∧ Below w.heap.size w w'
def StrIs (s : List UInt8) (w : World) (e : Ending) (w' : World) : Prop := e = .returned (.string (bs s)) ∧ Below w.heap.size w w'

set_option maxRecDepth 100000 in
set_option maxHeartbeats 4000000 in
theorem ofp_any (p : Option Addr) (T : Int → TyI) (q g : Nat) (name : List UInt8) (A : Option Addr) (n c : Nat) (l : List Int) (w : World) (hc : w.cell? ⟨g, 0, none⟩ = some (.pointer p)) (hr : Reads w w.heap.size 1 A n (Ints .u32 l))
    (hn0 : 0 < n) (hn : n ≤ 65535) (hlen : (ofL name (l.map (textT T q))).length ≤ 140737488355328) (ih : ∀ id ∈ l, ∀ w', Below w.heap.size w w' → Calls Tryz.prog 39 #[.pointer p, .int .u32 id] w' (TextIs T q id w')) :
    Calls Tryz.prog 80 #[.string (bs name), .slice A n c, .pointer (some ⟨g, 0, none⟩)] w (StrIs (ofL name (l.map (textT T q))) w) := by
  have hl := hr.len
  have HL := Lib.hid hl
  have hg := World.block_lt_of_cell? w _ hc
  simp only at hg
  obtain ⟨v, hv⟩ : ∃ v, v = ofL name (l.map (textT T q)) := ⟨_, rfl⟩
  rw [← hv]
  rw [← hv] at hlen
  have HV := Lib.hid hv
  have HLEN := Lib.hid hlen
  clear hl hv hlen
  obtain ⟨b, off, rfl, hbb, hcc⟩ := hr.ints hn0
  go_enter Tryz.func80, Tryz.ntmps80
  go_wp2_with fail
  go_loopg [6, 13] n (fun qq u i wr => ∃ k : Nat, k + qq = n ∧ i = .int .i64 (k : Nat) ∧ wr.ownsRow w.heap.size 9 1 u k (strV (textT T q) (l.take k)) ∧ Below w.heap.size w wr)
  case atStart => exact ⟨0, by omega, rfl, World.ownsRow_nil _ _ _ _, Below.refl _ _⟩
  case round =>
    obtain ⟨k, hq, rfl, ho, hbr⟩ := hrel
    obtain ⟨A2, cc, rfl⟩ := own_shape ho
    have cr := (hbr.cell (p := ⟨g, 0, none⟩) hg).trans hc
    by_cases hlt : k < n
    · have c0 := (hbr.cell (p := ⟨b, off + k, none⟩) hbb).trans (hcc k hlt)
      have hst := strV_take (f := textT T q) (l := l) (k := k) (by have := HL.out; omega)
      have hmem : ix l k ∈ l := by rw [ix_of (by have := HL.out; omega)]; exact List.getElem_mem _
      have hih := ih (ix l k) hmem wr hbr
      have HO := Lib.hid ho
      have HST := Lib.hid hst
      unfold TextIs at hih
      obtain ⟨z, hz⟩ : ∃ z, z = bs (textT T q (ix l k)) := ⟨_, rfl⟩
      rw [← hz] at hih HST
      generalize kindB (T (ix l k)).kind = kb at *
      generalize ix l k = pk at *
      clear hst hz hmem ho hcc hc
      go_wp2_with fail
      refine hih.mono ?_
      rintro e w4 ⟨rfl, hb6⟩
      have hb7 := below_cut hbr hb6 (Nat.le_refl _)
      have ho4 := own_below HO.out hb6
      have hs4 := hb7.size
      go_wp2_with (at_builtin; refine ap_one slS _ rfl _ _ rfl w.heap.size _ _ _ rfl ho4 _ _ rfl rfl (by omega) (by omega) (by omega) ?_; intro v' w5 ho5 hgr5 _; have hb8 := (hb7.alloc hb7.size (.cells #[.string z] 9)).grown hgr5 (by simp; omega) (fun j hj => (ho4.lt j hj).1); have HO5 := Lib.hid ho5; clear ho5)
      go_roundg (n - (k + 1))
      case measure => omega
      case rel => exact ⟨k + 1, by omega, by go_num, by rw [HST.out]; exact HO5.out, hb8⟩
    · obtain rfl : gk = 0 := by omega
      obtain rfl : k = n := by omega
      have ht : l.take k = l := by rw [List.take_of_length_le]; have := HL.out; omega
      rw [ht] at ho
      have hcap := own_cap ho
      obtain ⟨b2, o2, rfl, hb2, hc2⟩ := (Reads.of_own ho).strs hn0
      have hj := Tryz.strings_Join b2 o2 cc (l.map fun id => bs (textT T q id)) ⟨#[44]⟩ wr hc2 hb2 (by rw [List.length_map]; have := HL.out; omega) (by rw [List.length_map]; have := HL.out; omega)
      rw [bs_lists, List.length_map, HL.out] at hj
      have hjl : (Lib.join (l.map (textT T q)) [44]).length + name.length + 2 ≤ 140737488355328 := by
        have := HLEN.out
        rw [HV.out] at this
        unfold ofL at this
        simp only [List.length_append, List.length_singleton] at this
        omega
      have hj1 := hj (by show (Lib.join (l.map (textT T q)) [44]).length ≤ _; omega)
      have hnl : (bs name).size = name.length := bs_size name
      obtain ⟨J, hJ⟩ : ∃ J, J = Lib.join (l.map (textT T q)) [44] := ⟨_, rfl⟩
      rw [← hJ] at hjl
      have hJ2 : Lib.join (l.map (textT T q)) (⟨#[44]⟩ : ByteArray).data.toList = J := hJ.symm
      rw [hJ2] at hj1
      have HJ := Lib.hid hJ
      clear hJ hJ2 hc2 ht ho hcc hc hr hj
      have hs1 : ¬ 9223372036854775807 < (bs name).size + (1 + (J.length + 1)) := by omega
      have hs2 : ¬ 9223372036854775807 < (bs name).size + (1 + J.length) := by omega
      have hs3 : ¬ 9223372036854775807 < (bs name).size + 1 := by omega
      have hs4 : ¬ 9223372036854775807 < J.length + 1 := by omega
      go_wp2_with fail
      refine hj1.mono ?_
      rintro e w4 ⟨rfl, hb6⟩
      have hb7 := below_cut hbr hb6 (Nat.le_refl _)
      go_wp2_with fail
      go_ret
      refine ⟨?_, hb7⟩
      rw [HV.out]
      show Ending.returned (.string _) = _
      congr 2
      rw [HJ.out]
      apply ByteArray.ext
      simp [bs, ofL]
end Go.Proofs.YtnhpjheiihiepaaGreatDoor
