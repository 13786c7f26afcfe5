/- Walks. -/
import Derived.Test.YtnhpjheiihiepaaGreatDoorTF
import Derived.Test.YtnhpjheiihiepaaGreatDoorTO
import Derived.Test.YtnhpjheiihiepaaGreatDoorTN
import Derived.Test.YtnhpjheiihiepaaGreatDoorShelf
namespace Go.Proofs.YtnhpjheiihiepaaGreatDoor
open Go.RowKit

set_option maxHeartbeats 400000 in
theorem clone_any (A : Option Addr) (n c : Nat) (l : List Int) (w : World) (hn : n ≤ 35184372087808) (hr : Reads w w.heap.size 1 A n (Ints .u32 l)) :
    Calls Tryz.prog 36 #[.slice A n c] w fun e w' => ∃ A' c', e = .returned (.slice A' n c') ∧ w'.ownsRow w.heap.size 22 1 (.slice A' n c') n (Ints .u32 l) ∧ Below w.heap.size w w' := by
  have h1 := fun x => Lib.run_eql_slice_nil (P := Tryz.prog) x 26 22 A n c 0 0 Tryz.underlying26
  rcases A with _ | ad
  · obtain rfl : n = 0 := by
      rcases Nat.eq_zero_or_pos n with h | h
      · exact h
      · obtain ⟨_, e, _⟩ := hr.2 h; cases e
    have hl : l = [] := List.eq_nil_of_length_eq_zero hr.len
    subst hl
    go_enter Tryz.func36, Tryz.ntmps36
    go_wp2
    go_ret
    exact ⟨none, 0, rfl, World.ownsRow_nil _ _ _ _, Below.refl _ _⟩
  · go_enter Tryz.func36, Tryz.ntmps36
    have he : (w.alloc (.cells #[] 22)).ownsRow w.heap.size 22 1 (.slice (some ⟨w.heap.size, 0, none⟩) 0 0) 0 [] := World.ownsRow_made w #[] 0 (Nat.le_refl _) (by unfold maxLen; omega) rfl
    go_wp2_with (at_builtin; refine ap_any sl32 _ rfl _ _ rfl w.heap.size (.slice (some ⟨w.heap.size, 0, none⟩) 0 0) 0 [] rfl he w.heap.size _ n c _ rfl (hr.alloc (Nat.le_refl _) _) Ints_oneCell (by omega) (by omega) (by simp) ?_; intro A' c' w1 ho hgr hat)
    go_ret
    rw [Nat.zero_add, List.nil_append] at ho
    exact ⟨A', c', rfl, ho, ((Below.refl _ _).alloc (Nat.le_refl _) _).grown hgr (by simp) (fun k hk => by simp [Value.ownBlock] at hk; omega)⟩
end Go.Proofs.YtnhpjheiihiepaaGreatDoor

namespace Go.Proofs.YtnhpjheiihiepaaGreatDoor
open Go.RowKit

def TabI (w : World) (p : Option Addr) (ord : List Int) : Prop :=
  (p = none ∧ ord = []) ∨ ∃ gt A m c, p = some ⟨gt, 0, none⟩ ∧ w.cell? ⟨gt, 1, none⟩ = some (.slice A m c) ∧ Reads w w.heap.size 1 A m (Ints .u32 ord) ∧ m ≤ 7100000000000
theorem TabI.step {w w' : World} {p : Option Addr} {ord : List Int} (h : TabI w p ord) (hb : Below w.heap.size w w') : TabI w' p ord := by
  rcases h with h | ⟨gt, A, m, c, h1, h2, h3, h4⟩
  · exact .inl h
  · exact .inr ⟨gt, A, m, c, h1, (hb.cell (p := ⟨gt, 1, none⟩) (World.block_lt_of_cell? w _ h2)).trans h2, (h3.below hb).more hb.size, h4⟩
def WordsIs (l : List Int) (w : World) (e : Ending) (w' : World) : Prop := ∃ A' c', e = .returned (.slice A' l.length c') ∧ w'.ownsRow w.heap.size 22 1 (.slice A' l.length c') l.length (Ints .u32 l) ∧ Below w.heap.size w w'

set_option maxRecDepth 100000 in
set_option maxHeartbeats 2000000 in
theorem idsT_any (p : Option Addr) (ord : List Int) (w : World) (h : TabI w p ord) :
    Calls Tryz.prog 13 #[.pointer p] w (WordsIs ord w) := by
  rcases h with ⟨rfl, rfl⟩ | ⟨gt, A, m, c, rfl, h2, h3, h4⟩
  · go_enter Tryz.func13, Tryz.ntmps13
    go_wp2_with fail
    go_ret
    exact ⟨none, 0, rfl, World.ownsRow_nil _ _ _ _, Below.refl _ _⟩
  · have hl := h3.len
    have hc := clone_any A m c ord w (by omega) h3
    subst hl
    clear h3
    go_enter Tryz.func13, Tryz.ntmps13
    go_wp2_with fail
    refine hc.mono ?_
    rintro e w2 ⟨A', c', rfl, ho, hb⟩
    have HO := Lib.hid ho
    clear ho
    go_wp2_with fail
    go_ret
    exact ⟨A', c', rfl, HO.out, hb⟩
end Go.Proofs.YtnhpjheiihiepaaGreatDoor

namespace Go.Proofs.YtnhpjheiihiepaaGreatDoor
open Go.RowKit

theorem TabP.depth {w : World} {p : Option Addr} {T : Int → TyI} {S : Int → SlI} (h : TabP w p T S) (id : Int) : 0 ≤ (T id).depth := by
  rcases h with ⟨-, h⟩ | ⟨gt, bm, -, -, h⟩
  · rw [(h id).1]
    exact Int.le_refl _
  · exact (h.depth id).1
structure DeepT (T : Int → TyI) : Prop where
  one : ∀ a, (T a).size ≠ 0 → (T a).kind = 4 ∨ (T a).kind = 5 → (T (T a).part).depth < (T a).depth
  all : ∀ a, (T a).size ≠ 0 → ∀ p ∈ (T a).parts, (T p).depth < (T a).depth
def BoolIs (b : Bool) (w : World) (e : Ending) (w' : World) : Prop := e = .returned (.bool b) ∧ Below w.heap.size w w'

end Go.Proofs.YtnhpjheiihiepaaGreatDoor

namespace Go.Proofs.YtnhpjheiihiepaaGreatDoor
open Go.RowKit

theorem slS : SliceOf Tryz.prog 125 9 (.string ⟨#[]⟩) 1 16 := ⟨Tryz.underlying125, by kernel_rfl, rfl, by decide⟩
def strV (f : Int → List UInt8) (l : List Int) : List Value := l.map fun id => Value.string (bs (f id))
theorem strV_take {f : Int → List UInt8} {l : List Int} {k : Nat} (h : k < l.length) : strV f (l.take (k + 1)) = strV f (l.take k) ++ [.string (bs (f (ix l k)))] := by
  unfold strV
  rw [List.take_succ_eq_append_getElem h, List.map_append, ix_of h]
  rfl
theorem Reads.strs {w : World} {B n : Nat} {A : Option Addr} {f : Int → List UInt8} {l : List Int} (h : Reads w B 1 A n (strV f l)) (hn : 0 < n) :
    ∃ b off, A = some ⟨b, off, none⟩ ∧ b < B ∧ ∀ (j : Nat) x, (l.map fun id => bs (f id))[j]? = some x → w.cell? ⟨b, off + j, none⟩ = some (.string x) := by
  have hl : l.length = n := by have := h.1; unfold strV at this; rw [List.length_map, Nat.mul_one] at this; exact this
  obtain ⟨ad, rfl, hb, hc⟩ := h.2 hn
  obtain ⟨b, off, spot⟩ := ad
  have h0 := hc 0 (.string (bs (f (ix l 0)))) (by unfold strV; rw [List.getElem?_map, List.getElem?_eq_getElem (by omega), ix_of (by omega)]; rfl)
  have hs : spot = none := by simpa [Addr.add] using World.cell?_spot h0
  subst hs
  refine ⟨b, off, rfl, hb, fun j x hj => ?_⟩
  rw [← add_plain]
  refine hc j (.string x) ?_
  unfold strV
  rw [List.getElem?_map] at hj ⊢
  cases hlj : l[j]? with
  | none => rw [hlj] at hj; cases hj
  | some y =>
    rw [hlj] at hj
    simp only [Option.map_some, Option.some.injEq] at hj ⊢
    rw [hj]
theorem bs_lists (f : Int → List UInt8) (l : List Int) : ((l.map fun id => bs (f id)).map (·.data.toList)) = l.map f := by
  rw [List.map_map]
  apply List.map_congr_left
  intro x _
  simp [bs]
def kindB (k : Int) : Bool := decide (1 ≤ k ∧ k ≤ 8)
def TextIs (T : Int → TyI) (q : Nat) (id : Int) (w : World) (e : Ending) (w' : World) : Prop := e = .returned (.tuple #[.string (bs (textT T q id)), .bool (kindB (T id).kind)]) ∧ Below w.heap.size w w'
def StrIs (s : List UInt8) (w : World) (e : Ending) (w' : World) : Prop := e = .returned (.string (bs s)) ∧ Below w.heap.size w w'

set_option maxRecDepth 100000 in
set_option maxHeartbeats 4000000 in
theorem ofp_any (p : Option Addr) (T : Int → TyI) (q g : Nat) (name : List UInt8) (A : Option Addr) (n c : Nat) (l : List Int) (w : World) (hc : w.cell? ⟨g, 0, none⟩ = some (.pointer p)) (hr : Reads w w.heap.size 1 A n (Ints .u32 l))
    (hn0 : 0 < n) (hn : n ≤ 65535) (hlen : (ofL name (l.map (textT T q))).length ≤ 140737488355328) (ih : ∀ id ∈ l, ∀ w', Below w.heap.size w w' → Calls Tryz.prog 39 #[.pointer p, .int .u32 id] w' (TextIs T q id w')) :
    Calls Tryz.prog 80 #[.string (bs name), .slice A n c, .pointer (some ⟨g, 0, none⟩)] w (StrIs (ofL name (l.map (textT T q))) w) := by
  have hl := hr.len
  have HL := Lib.hid hl
  have hg := World.block_lt_of_cell? w _ hc
  simp only at hg
  obtain ⟨v, hv⟩ : ∃ v, v = ofL name (l.map (textT T q)) := ⟨_, rfl⟩
  rw [← hv]
  rw [← hv] at hlen
  have HV := Lib.hid hv
  have HLEN := Lib.hid hlen
  clear hl hv hlen
  obtain ⟨b, off, rfl, hbb, hcc⟩ := hr.ints hn0
  go_enter Tryz.func80, Tryz.ntmps80
  go_wp2_with fail
  go_loopg [6, 13] n (fun qq u i wr => ∃ k : Nat, k + qq = n ∧ i = .int .i64 (k : Nat) ∧ wr.ownsRow w.heap.size 9 1 u k (strV (textT T q) (l.take k)) ∧ Below w.heap.size w wr)
  case atStart => exact ⟨0, by omega, rfl, World.ownsRow_nil _ _ _ _, Below.refl _ _⟩
  case round =>
    obtain ⟨k, hq, rfl, ho, hbr⟩ := hrel
    obtain ⟨A2, cc, rfl⟩ := own_shape ho
    have cr := (hbr.cell (p := ⟨g, 0, none⟩) hg).trans hc
    by_cases hlt : k < n
    · have c0 := (hbr.cell (p := ⟨b, off + k, none⟩) hbb).trans (hcc k hlt)
      have hst := strV_take (f := textT T q) (l := l) (k := k) (by have := HL.out; omega)
      have hmem : ix l k ∈ l := by rw [ix_of (by have := HL.out; omega)]; exact List.getElem_mem _
      have hih := ih (ix l k) hmem wr hbr
      have HO := Lib.hid ho
      have HST := Lib.hid hst
      unfold TextIs at hih
      obtain ⟨z, hz⟩ : ∃ z, z = bs (textT T q (ix l k)) := ⟨_, rfl⟩
      rw [← hz] at hih HST
      generalize kindB (T (ix l k)).kind = kb at *
      generalize ix l k = pk at *
      clear hst hz hmem ho hcc hc
      go_wp2_with fail
      refine hih.mono ?_
      rintro e w4 ⟨rfl, hb6⟩
      have hb7 := below_cut hbr hb6 (Nat.le_refl _)
      have ho4 := own_below HO.out hb6
      have hs4 := hb7.size
      go_wp2_with (at_builtin; refine ap_one slS _ rfl _ _ rfl w.heap.size _ _ _ rfl ho4 _ _ rfl rfl (by omega) (by omega) (by omega) ?_; intro v' w5 ho5 hgr5 _; have hb8 := (hb7.alloc hb7.size (.cells #[.string z] 9)).grown hgr5 (by simp; omega) (fun j hj => (ho4.lt j hj).1); have HO5 := Lib.hid ho5; clear ho5)
      go_roundg (n - (k + 1))
      case measure => omega
      case rel => exact ⟨k + 1, by omega, by go_num, by rw [HST.out]; exact HO5.out, hb8⟩
    · obtain rfl : gk = 0 := by omega
      obtain rfl : k = n := by omega
      have ht : l.take k = l := by rw [List.take_of_length_le]; have := HL.out; omega
      rw [ht] at ho
      have hcap := own_cap ho
      obtain ⟨b2, o2, rfl, hb2, hc2⟩ := (Reads.of_own ho).strs hn0
      have hj := Tryz.strings_Join b2 o2 cc (l.map fun id => bs (textT T q id)) ⟨#[44]⟩ wr hc2 hb2 (by rw [List.length_map]; have := HL.out; omega) (by rw [List.length_map]; have := HL.out; omega)
      rw [bs_lists, List.length_map, HL.out] at hj
      have hjl : (Lib.join (l.map (textT T q)) [44]).length + name.length + 2 ≤ 140737488355328 := by
        have := HLEN.out
        rw [HV.out] at this
        unfold ofL at this
        simp only [List.length_append, List.length_singleton] at this
        omega
      have hj1 := hj (by show (Lib.join (l.map (textT T q)) [44]).length ≤ _; omega)
      have hnl : (bs name).size = name.length := bs_size name
      obtain ⟨J, hJ⟩ : ∃ J, J = Lib.join (l.map (textT T q)) [44] := ⟨_, rfl⟩
      rw [← hJ] at hjl
      have hJ2 : Lib.join (l.map (textT T q)) (⟨#[44]⟩ : ByteArray).data.toList = J := hJ.symm
      rw [hJ2] at hj1
      have HJ := Lib.hid hJ
      clear hJ hJ2 hc2 ht ho hcc hc hr hj
      have hs1 : ¬ 9223372036854775807 < (bs name).size + (1 + (J.length + 1)) := by omega
      have hs2 : ¬ 9223372036854775807 < (bs name).size + (1 + J.length) := by omega
      have hs3 : ¬ 9223372036854775807 < (bs name).size + 1 := by omega
      have hs4 : ¬ 9223372036854775807 < J.length + 1 := by omega
      go_wp2_with fail
      refine hj1.mono ?_
      rintro e w4 ⟨rfl, hb6⟩
      have hb7 := below_cut hbr hb6 (Nat.le_refl _)
      go_wp2_with fail
      go_ret
      refine ⟨?_, hb7⟩
      rw [HV.out]
      show Ending.returned (.string _) = _
      congr 2
      rw [HJ.out]
      apply ByteArray.ext
      simp [bs, ofL]
set_option maxRecDepth 100000 in
set_option maxHeartbeats 2000000 in
theorem classM_any (p : Option Addr) (T : Int → TyI) (S : Int → SlI) (id : Int) (w : World) (h : TabP w p T S) :
    Calls Tryz.prog 37 #[.pointer p, .int .u32 id] w fun e w' => e = .returned (.tuple #[.int .u32 (T id).cls, .bool ((T id).kind == 7)]) ∧ Below w.heap.size w w' := by
  have hat := at_any p T S id w h
  generalize T id = x at *
  generalize S id = s at *
  obtain ⟨x1, x2, x3, x4, x5, x6, x7, x8⟩ := x
  obtain ⟨sA, sn, sc⟩ := s
  unfold tyV at hat
  dsimp only at *
  go_enter Tryz.func37, Tryz.ntmps37
  go_wp2_with (go_at_call 56; refine hat.mono ?_; rintro e w2 ⟨rfl, hb2⟩; have kx := Blk.new w2 81 (tyV ⟨x1, x2, x3, x4, x5, x6, x7, x8⟩ (sA, sn, sc)); obtain ⟨z0, z1, z2, z3, z4, z5, z6, z7⟩ := ty8_ kx)
  go_quiet (fail)
  go_wp2_with fail
  go_ret2
  exact ⟨rfl, below_drewN (hb2.alloc hb2.size _) _⟩
end Go.Proofs.YtnhpjheiihiepaaGreatDoor
