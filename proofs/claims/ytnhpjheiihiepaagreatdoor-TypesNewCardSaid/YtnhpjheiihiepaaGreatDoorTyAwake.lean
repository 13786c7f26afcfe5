/- Walks. -/
import Derived.Test.YtnhpjheiihiepaaGreatDoorTyNewB
import Derived.Test.YtnhpjheiihiepaaGreatDoorTN
import Derived.Test.YtnhpjheiihiepaaGreatDoorTR
import Derived.Test.YtnhpjheiihiepaaGreatDoorTyText
import Derived.Test.YtnhpjheiihiepaaGreatDoorTS
namespace Go.Proofs.YtnhpjheiihiepaaGreatDoor
open Go.RowKit

theorem TyOk.mild {T : Int → TyI} {b : List Int} {x : TyI} (h : TyOk T b x) : Mild x := by
  cases h with
  | void => exact ⟨by decide, by decide, by decide⟩
  | bool => exact ⟨(by show (0 : Int) ≤ 0; decide), (by show (0 : Int) ≤ 4096; decide), (by show (0 : Nat) ≤ 7100000000000; decide)⟩
  | int s => exact ⟨(by show (0 : Int) ≤ 0; decide), (by show (0 : Int) ≤ 4096; decide), (by show (0 : Nat) ≤ 7100000000000; decide)⟩
  | vec p n h1 h2 h3 h4 => exact ⟨(by show 0 ≤ n; omega), (by show n ≤ 4096; omega), (by show (0 : Nat) ≤ 7100000000000; decide)⟩
  | arr p n h1 h2 h3 h4 h5 h6 => exact ⟨(by show 0 ≤ n; omega), (by show n ≤ 4096; omega), (by show (0 : Nat) ≤ 7100000000000; decide)⟩
  | str l s d h1 h2 h3 h4 h5 h6 => exact ⟨(by show (0 : Int) ≤ 0; decide), (by show (0 : Int) ≤ 4096; decide), (by show l.length ≤ 7100000000000; omega)⟩
  | ptr c p h1 h2 h3 => exact ⟨(by show (0 : Int) ≤ 0; decide), (by show (0 : Int) ≤ 4096; decide), (by show (1 : Nat) ≤ 7100000000000; decide)⟩
  | fn l h1 h2 h3 h4 => exact ⟨(by show (0 : Int) ≤ 0; decide), (by show (0 : Int) ≤ 4096; decide), (by show l.length ≤ 7100000000000; omega)⟩
theorem WellS.mild {s : StN} (h : WellS s) (id : Int) : Mild (s.T id) := by
  rcases h.ok id with h1 | ⟨k, hk, -, h1⟩
  · rw [h1]; exact ⟨by decide, by decide, by decide⟩
  · exact h1.mild
def TabG (w : World) (p : Option Addr) (s : StN) : Prop := ∃ S, TabW w p s.T S ∧ TabI w p s.ord
theorem TabG.step {w w' : World} {p : Option Addr} {s : StN} (h : TabG w p s) (hb : Below w.heap.size w w') : TabG w' p s := by
  obtain ⟨S, h1, h2⟩ := h
  exact ⟨S, h1.step hb, h2.step hb⟩
theorem TableS.good {B : Nat} {w : World} {gt : Nat} {s : StN} (h : TableS B w gt s) (hw : WellS s) : TabG w (some ⟨gt, 0, none⟩) s := by
  obtain ⟨bm, S, A, m, c, hk, hT, hr, hm, hc, -⟩ := h
  obtain ⟨z0, z1⟩ := two_ hk
  exact ⟨S, ⟨.inr ⟨gt, bm, rfl, z0, hT⟩, fun id => (hc id).1, hw.mild⟩, .inr ⟨gt, A, m, c, rfl, z1, hr, hm⟩⟩
def NewG (r : Int × Int × StN) (w : World) (e : Ending) (w' : World) : Prop :=
  Below w.heap.size w w' ∧ ((r.1 = 0 ∧ WellS r.2.2 ∧ ∃ gt, e = .returned (.tuple #[.pointer (some ⟨gt, 0, none⟩), .agg #[.int .i64 0, .int .i64 0]]) ∧ TabG w' (some ⟨gt, 0, none⟩) r.2.2) ∨
    (r.1 ≠ 0 ∧ e = .returned (.tuple #[.pointer none, .agg #[.int .i64 r.1, .int .i64 r.2.1]])))
def NewL (r : Int × Int × StN) (w : World) (e : Ending) (w' : World) : Prop :=
  Below w.heap.size w w' ∧ ((r.1 = 0 ∧ WellS r.2.2 ∧ ∃ gt, e = .returned (.tuple #[.pointer (some ⟨gt, 0, none⟩), .agg #[.int .i64 0, .int .i64 0]]) ∧ w.heap.size ≤ gt ∧ TableS w.heap.size w' gt r.2.2) ∨
    (r.1 ≠ 0 ∧ e = .returned (.tuple #[.pointer none, .agg #[.int .i64 r.1, .int .i64 r.2.1]])))
theorem new_low (gen bound : Int) (ls : List InstA) (A : Option Addr) (n c : Nat) (w : World) (hM : ModS w w.heap.size A n ls) (hP : Pow w)
    (hu : ∀ x ∈ ls, ∀ a ∈ x.1.2.2.2, 0 ≤ a.2.1 ∧ a.2.1 < 4294967296) (hop : ∀ x ∈ ls, 0 ≤ x.1.1 ∧ x.1.1 < 65536) :
    Calls Tryz.prog 9 #[.agg (modC gen bound A n c)] w (NewL (newM bound (ls.map (·.1))) w) := by
  have h : Calls Tryz.prog 9 #[.agg (modC gen bound A n c)] w (NewIs (newM bound (ls.map (·.1))) w) := by
    by_cases h0 : (idsM bound (ls.map (·.1))).1 = 0
    · exact new_ok gen bound ls A n c w hM h0 hP hu hop
    · exact new_bad gen bound ls A n c w hM h0
  refine h.mono ?_
  rintro e w' ⟨hb, h1, h2⟩
  refine ⟨hb, ?_⟩
  by_cases h0 : (newM bound (ls.map (·.1))).1 = 0
  · have hw : WellS (newM bound (ls.map (·.1))).2.2 := (newM_well (bound := bound) (l := ls.map (·.1)) (at_ := (newM bound (ls.map (·.1))).2.1) (s := (newM bound (ls.map (·.1))).2.2) (by rw [← h0])).1
    obtain ⟨gt, he, hg, hT⟩ := h1 h0
    exact .inl ⟨h0, hw, gt, he, hg, hT⟩
  · exact .inr ⟨h0, h2 h0⟩
theorem new_any (gen bound : Int) (ls : List InstA) (A : Option Addr) (n c : Nat) (w : World) (hM : ModS w w.heap.size A n ls) (hP : Pow w)
    (hu : ∀ x ∈ ls, ∀ a ∈ x.1.2.2.2, 0 ≤ a.2.1 ∧ a.2.1 < 4294967296) (hop : ∀ x ∈ ls, 0 ≤ x.1.1 ∧ x.1.1 < 65536) :
    Calls Tryz.prog 9 #[.agg (modC gen bound A n c)] w (NewG (newM bound (ls.map (·.1))) w) := by
  refine (new_low gen bound ls A n c w hM hP hu hop).mono ?_
  rintro e w' ⟨hb, ⟨h0, hw, gt, he, -, hT⟩ | h1⟩
  · exact ⟨hb, .inl ⟨h0, hw, gt, he, hT.good hw⟩⟩
  · exact ⟨hb, .inr h1⟩

noncomputable def smallS : StN := (newL st0 smallL 0).2.2
theorem small_new : newM 9 smallL = (0, 0, smallS) := by
  unfold newM
  rw [if_neg (by rw [small_ids]; decide)]
  have h1 : (newL st0 smallL 0).1 = 0 := by decide +kernel
  have h2 : (newL st0 smallL 0).2.1 = 0 := by decide +kernel
  exact Prod.ext h1 (Prod.ext h2 rfl)
theorem small_facts : smallS.ord = [1, 2] ∧ (smallS.T 1).kind = 3 ∧ (smallS.T 1).signed = true ∧ (smallS.T 2).size = 3 ∧ (smallS.T 2).kind = 4 ∧ partT (smallS.T 2) 2 = (1, true) ∧ textT smallS.T 19 2 = [118, 101, 99, 51, 40, 105, 110, 116, 41] := by
  refine ⟨by decide +kernel, by decide +kernel, by decide +kernel, by decide +kernel, by decide +kernel, by decide +kernel, by decide +kernel⟩

set_option maxRecDepth 100000 in
set_option maxHeartbeats 4000000 in
theorem awake_any (w : World) (hP : Pow w) : Calls Tryz.prog 18 #[] w (BoolIs true w) := by
  have h1 := small_any w
  go_enter Tryz.func18, Tryz.ntmps18
  go_wp2_with fail
  refine h1.mono ?_
  rintro e w1 ⟨A, c, ls, rfl, hM, hL, hb1⟩
  have hN := new_any 0 9 ls A smallL.length c w1 hM (hP.step hb1) (fun x hx => by
    have : x.1 ∈ smallL := hL ▸ List.mem_map.2 ⟨x, hx, rfl⟩
    generalize x.1 = i at *
    revert i
    decide) (fun x hx => by
    have : x.1 ∈ smallL := hL ▸ List.mem_map.2 ⟨x, hx, rfl⟩
    generalize x.1 = i at *
    revert i
    decide)
  rw [hL, small_new] at hN
  obtain ⟨f1, f2, f3, f4, f5, f6, f7⟩ := small_facts
  generalize smallS = s at *
  clear h1 hM hL
  go_wp2_with fail
  refine hN.mono ?_
  rintro e w2 ⟨hb2, ⟨-, hw, gt, rfl, hG⟩ | ⟨h0, -⟩⟩
  · have hw : WellS s := hw
    have hG : TabG w2 (some ⟨gt, 0, none⟩) s := hG
    obtain ⟨S, hT, hI⟩ := hG
    have hb3 := (below_cut hb1 hb2 (Nat.le_refl _)).alloc (below_cut hb1 hb2 (Nat.le_refl _)).size (.cells #[.int .i64 0, .int .i64 0] 30)
    have hbs := (Below.refl w2.heap.size w2).alloc (Nat.le_refl _) (.cells #[.int .i64 0, .int .i64 0] 30)
    have hT3 := hT.step hbs
    have hI3 := hI.step hbs
    have hx := textT_any (some ⟨gt, 0, none⟩) s.T S hw.typed 19 2 _ hT3 (hP.step hb3) (by have := (rankT_bd hw.typed 2).2; omega)
    unfold TextIs at hx
    rw [f7, f5] at hx
    have hkb : kindB 4 = true := by decide
    rw [hkb] at hx
    have kS := Blk.new w2 30 #[.int .i64 0, .int .i64 0]
    have HW := Lib.hid hw
    have HT := Lib.hid hT3
    have HI := Lib.hid hI3
    clear hT hI hT3 hI3 hw hbs hN
    have HF := Lib.hid (And.intro f1 (And.intro f2 (And.intro f3 (And.intro f4 f6))))
    clear f1 f2 f3 f4 f5 f6 f7
    go_wp2_with fail
    refine hx.mono ?_
    rintro e w3 ⟨rfl, hb4⟩
    have kS4 := kS.step hb4
    have hb5 := below_cut hb3 hb4 (Nat.le_refl _)
    have hp := partM_any (some ⟨gt, 0, none⟩) s.T S 2 2 w3 (HT.out.step hb4).tab (HT.out.mild 2)
    rw [HF.out.2.2.2.2] at hp
    clear hx kS
    go_wp2_with fail
    refine hp.mono ?_
    rintro e w4 ⟨rfl, hb6⟩
    have kS6 := kS4.step hb6
    have hb7 := below_cut hb4 hb6 (Nat.le_refl _)
    have hi := idsT_any (some ⟨gt, 0, none⟩) s.ord w4 (HI.out.step hb7)
    rw [HF.out.1] at hi
    obtain ⟨z0, z1⟩ := two_ kS6
    clear hp kS4
    go_wp2_with fail
    refine hi.mono ?_
    rintro e w5 ⟨A', c', rfl, -, hb8⟩
    have hb9 := below_cut hb7 hb8 (Nat.le_refl _)
    have hk := kindM_any (some ⟨gt, 0, none⟩) s.T S 1 w5 (HT.out.step hb9).tab
    rw [HF.out.2.1] at hk
    clear hi z0 z1
    simp only [List.length_cons, List.length_nil, Nat.reduceAdd]
    go_wp2_with fail
    refine hk.mono ?_
    rintro e w6 ⟨rfl, hb10⟩
    have hb11 := below_cut hb9 hb10 (Nat.le_refl _)
    have hsg := signedM_any (some ⟨gt, 0, none⟩) s.T S 1 w6 (HT.out.step hb11).tab
    rw [HF.out.2.2.1] at hsg
    clear hk
    go_wp2_with fail
    refine hsg.mono ?_
    rintro e w7 ⟨rfl, hb12⟩
    have hb13 := below_cut hb11 hb12 (Nat.le_refl _)
    have hsz := sizeM_any (some ⟨gt, 0, none⟩) s.T S 2 w7 (HT.out.step hb13).tab
    rw [HF.out.2.2.2.1] at hsz
    clear hsg
    go_wp2_with fail
    refine hsz.mono ?_
    rintro e w8 ⟨rfl, hb14⟩
    have hb15 := below_cut hb3 (below_cut hb13 hb14 (Nat.le_refl _)) (Nat.le_refl _)
    clear hsz
    have hstr : bs [118, 101, 99, 51, 40, 105, 110, 116, 41] = ⟨#[118, 101, 99, 51, 40, 105, 110, 116, 41]⟩ := rfl
    rw [hstr]
    clear hstr
    go_wp2_with fail
    go_ret
    exact ⟨rfl, hb15⟩
  · exact absurd rfl h0
end Go.Proofs.YtnhpjheiihiepaaGreatDoor
