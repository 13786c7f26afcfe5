/- Walks: value.Get. -/
import Derived.Test.YtgdmbeamemdaiaaGreatDoorTyVal
namespace Go.Proofs.YtgdmbeamemdaiaaGreatDoor
open Go.RowKit

theorem reads_mid {w : World} {B n : Nat} {b off : Nat} {l : List Int} (h : ∀ k, k < n → w.cell? ⟨b, off + k, none⟩ = some (.int .u32 (ix l k))) (hb : b < B) (hl : l.length = n) {p m : Nat} (hm : p + m ≤ n) :
    Reads w B 1 (some ⟨b, off + p, none⟩) m (Ints .u32 ((l.drop p).take m)) := by
  have hlen : ((l.drop p).take m).length = m := by rw [List.length_take, List.length_drop]; omega
  refine ⟨by rw [Ints_length, hlen]; omega, fun h0 => ⟨⟨b, off + p, none⟩, rfl, hb, fun j v hv => ?_⟩⟩
  rw [add_plain]
  have hj : j < m := by
    have := (List.getElem?_eq_some_iff.1 hv).1
    rw [Ints_length, hlen] at this
    exact this
  rw [Nat.add_assoc, h (p + j) (by omega)]
  rw [Ints_at (by omega)] at hv
  rw [← hv]
  have h1 : j < ((l.drop p).take m).length := by omega
  have h2 : p + j < l.length := by omega
  rw [ix_of h1, ix_of h2, List.getElem_take, List.getElem_drop]
/-- what Get answers where its words are a value -/
def GetIs (T : Int → TyI) (r : Int × Int) (ws : List Int) (w : World) (e : Ending) (w' : World) : Prop :=
  Below w.heap.size w w' ∧ ((r.2 = 0 ∧ e = .returned (.tuple #[.int .u32 0, .slice none 0 0, .int .i64 121])) ∨
    (r.2 ≠ 0 ∧ ∃ (p m : Nat) (A' : Option Addr) (c' : Nat), r.1 = p ∧ (T r.2).size = m ∧ e = .returned (.tuple #[.int .u32 r.2, .slice A' m c', .int .i64 0]) ∧ w'.ownsRow w.heap.size 22 1 (.slice A' m c') m (Ints .u32 ((ws.drop p).take m))))

set_option maxRecDepth 100000 in
set_option maxHeartbeats 2000000 in
theorem get_well (gt : Nat) (T : Int → TyI) (S : Int → SlI) (hY : Typed T) (ty : Int) (A : Option Addr) (n c : Nat) (ws : List Int) (A2 : Option Addr) (n2 c2 : Nat) (l : List Int) (w : World) (hT : TabW w (some ⟨gt, 0, none⟩) T S)
    (hr : Reads w w.heap.size 1 A n (Ints .u32 ws)) (hr2 : Reads w w.heap.size 1 A2 n2 (Ints .u32 l)) (hp : 0 < (T ty).size) (hn : (n : Int) = (T ty).size) (hnc : n ≤ c) (hf : fitsV T ty ws = true) (hn2 : n2 ≤ 35184372087808) (hl : ∀ x ∈ l, 0 ≤ x ∧ x < 4294967296) :
    Calls Tryz.prog 46 #[.pointer (some ⟨gt, 0, none⟩), .int .u32 ty, .slice A n c, .slice A2 n2 c2] w (GetIs T (wkW T 0 ty l) ws w) := by
  have hgv := given_well gt T S hY ty A n c ws w hT hr hp hn
  rw [hf, if_pos rfl] at hgv
  have hwk := fun (w' : World) (h : Below w.heap.size w w') => walk_well gt T S hY ty A2 n2 c2 l w' (hT.step h) hn2 ((hr2.below h).more h.size) hl hp
  have hin := wkW_in hY (l := l) (a := 0) (ty := ty) (fun k hk => (hl k hk).1) hp
  have hn4 := (hY.size ty).2.2
  have hlen := hr.len
  generalize wkW T 0 ty l = r at *
  obtain ⟨r1, r2⟩ := r
  dsimp only at hwk hin
  have hsz := fun (w' : World) (h : Below w.heap.size w w') => sizeM_any _ _ _ r2 w' (hT.step h).tab
  have HR := Lib.hid hr
  have HI := Lib.hid hin
  clear hT hr hr2 hf hY hl
  go_enter Tryz.func46, Tryz.ntmps46
  go_wp2_with fail
  refine hgv.mono ?_
  rintro e w1 ⟨rfl, hb1⟩
  have hw1 := hwk w1 hb1
  clear hgv hwk
  by_cases h0 : r2 = 0
  · have d0 : (r2 != 0) = false := by rw [h0]; rfl
    rw [d0] at hw1
    clear hin hsz
    go_wp2_with fail
    refine hw1.mono ?_
    rintro e w2 ⟨rfl, hb2⟩
    have hb3 := below_cut hb1 hb2 (Nat.le_refl _)
    go_wp2_with fail
    go_ret3
    exact ⟨hb3, .inl ⟨h0, rfl⟩⟩
  · have d0 : (r2 != 0) = true := by simpa using h0
    rw [d0] at hw1
    obtain ⟨q1, q2, q3⟩ : 0 < (T r2).size ∧ 0 ≤ r1 ∧ r1 + (T r2).size ≤ 0 + (T ty).size := by
      rcases HI.out with e | e
      · injection e with _ e; exact absurd e h0
      · exact e
    obtain ⟨p, rfl⟩ : ∃ p : Nat, r1 = p := ⟨r1.toNat, by omega⟩
    obtain ⟨m, hm⟩ : ∃ m : Nat, (T r2).size = m := ⟨(T r2).size.toNat, by omega⟩
    rw [hm] at hsz q1 q3
    have HM := Lib.hid hm
    have H0 := Lib.hid h0
    obtain ⟨b, off, rfl, hbb, hcc⟩ := HR.out.ints (by omega)
    have hcp : ¬ c = p := by omega
    have hpm : p + m ≤ n := by omega
    have hpc : p + m ≤ c := by omega
    have hm1 : 1 ≤ m := by omega
    have wS : IntKind.i64.wrap (((p : Nat) : Int) + (m : Nat)) = (p : Nat) + (m : Nat) := IntWalk.i64_in _ (by omega)
    have hcl := fun (w' : World) (h : Below w.heap.size w w') (cc : Nat) => clone_any (some ⟨b, off + p, none⟩) m cc ((ws.drop p).take m) w' (by omega) (reads_mid (fun k hk => (h.cell (p := ⟨b, off + k, none⟩) hbb).trans (hcc k hk)) (Nat.lt_of_lt_of_le hbb h.size) hlen hpm)
    clear hcc hin hm h0 HI
    go_wp2_with fail
    refine hw1.mono ?_
    rintro e w2 ⟨rfl, hb2⟩
    have hb3 := below_cut hb1 hb2 (Nat.le_refl _)
    have hs2 := hsz w2 hb3
    clear hw1 hsz
    go_wp2_with fail
    refine hs2.mono ?_
    rintro e w3 ⟨rfl, hb4⟩
    have hb5 := below_cut hb3 hb4 (Nat.le_refl _)
    have hc3 := hcl w3 hb5
    clear hs2 hcl
    go_wp2_with fail
    refine (hc3 (c - p)).mono ?_
    rintro e w4 ⟨A4, c4, rfl, ho, hb6⟩
    have hb7 := below_cut hb5 hb6 (Nat.le_refl _)
    have ho2 := own_base ho hb5.size
    clear hc3
    go_wp2_with fail
    go_ret3
    exact ⟨hb7, .inr ⟨H0.out, p, m, A4, c4, rfl, HM.out, rfl, ho2⟩⟩
end Go.Proofs.YtgdmbeamemdaiaaGreatDoor
