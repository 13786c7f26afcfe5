/- Walks: the document's memory: Make, Load. -/
import Derived.Test.YtfkeogaagolnoaaRm
namespace Go.Proofs.Ytfkeogaagolnoaa
open Go.RowKit

/-- append(l, u) where u has just been laid, in a plain region -/
theorem ap_lst {P : Program} {t e : TypeId} {z : Value} {bytes : Nat} {ops : Array Oper} {rest : List Oper} {o : Oper} {a : Act} {Q : Exit → Act → World → Prop} (T : SliceOf P t e z 1 bytes) (w : World) (hgd : o.guard = none) (s x : Operand)
    (ho : o.op = .call { callee := .builtin .append, args := #[s, x], argTypes := #[t, t] }) {base n c : Nat} {A : Option Addr} {xs : List Value} (h : Lst w base e A n c xs) (u : Value) (te : TypeId) (hu : u.oneCell' = true)
    (hs : a.eval s = .slice A n c) (hx : a.eval x = .slice (some ⟨w.heap.size, 0, none⟩) 1 1) (h63 : n + 1 ≤ 9223372036854775807) (hb : (n + 1) * bytes ≤ 140737488355328) (hbase : base ≤ w.heap.size)
    (hK : ∀ A' c' w', w'.ownsRow base e 1 (.slice A' (n + 1) c') (n + 1) (xs ++ [u]) → (w.alloc (.cells #[u] te)).grownBy w' (A.map (·.block)) → (∀ a, A' = some a → A.map (·.block) = some a.block ∨ w.heap.size < a.block) → wpList P ops Q rest (a.put o.dst (.slice A' (n + 1) c')) w') :
    wpList P ops Q (o :: rest) a (w.alloc (.cells #[u] te)) := by
  refine wpList_plain hgd fun _ hK' => ?_
  obtain ⟨A', c', w', hrun, h2, h3, h4⟩ := run_append_lst T o.type w h u te hu h63 hb hbase
  unfold Oper.wp execOp
  simp only [ho, resolve, invoke, builtin, Sem.run_bind, Sem.run_pure, Result.andThen_ok, List.map_toArray, List.map_cons, List.map_nil, hs, hx, hrun]
  exact hK' _ _ (hK A' c' w' h2 h3 h4)
section
variable {w : World} {base g n c : Nat} {A : Option Addr} {bs : List (Nat × Nat)} {ls : List (List Int)}
theorem rmake_empty (A' : Option Addr) (c' : Nat) (w : World) (p : Value) :
    Calls Try.prog 28 #[p, .slice A' 0 c'] w fun e w' => e = .returned (.tuple #[.int .i64 0, .int .i64 2]) ∧ w = w' := by
  go_enter Try.func28, Try.ntmps28
  go_wp2
  go_ret2
  exact ⟨rfl, rfl⟩
theorem rmake_large (h : RmS w base g A n c bs ls) (A' : Option Addr) (n' c' : Nat) (h0 : 0 < n') (h1 : 1048576 < total ls + n') :
    Calls Try.prog 28 #[.pointer (some ⟨g, 0, none⟩), .slice A' n' c'] w fun e w' => e = .returned (.tuple #[.int .i64 0, .int .i64 4]) ∧ w = w' := by
  have hz : ((n' : Int) == 0) = false := by rw [beq_eq_false_iff_ne]; omega
  have hz2 : decide ((1048576 : Int) - (total ls : Int) < (n' : Int)) = true := by simp; omega
  have htot := h.core.le
  go_enter Try.func28, Try.ntmps28
  go_wp2_with fail
  refine (rsize_any h).mono ?_
  rintro e w1 ⟨rfl, rfl⟩
  go_wp2
  go_ret2
  exact ⟨rfl, rfl⟩
/-- a room was made -/
def Rmade (w : World) (base g n : Nat) (A : Option Addr) (bs : List (Nat × Nat)) (ls : List (List Int)) (l : List Int) (e : Ending) (w' : World) : Prop :=
  e = .returned (.tuple #[.int .i64 n, .int .i64 0]) ∧
    ∃ A2 c2 b, RmS w' base g A2 (n + 1) c2 (bs ++ [b]) (ls ++ [l]) ∧ Off (fun k => k = g ∨ some k = A.map (·.block)) w w' ∧ w.heap.size ≤ b.1 ∧ (∀ a, A2 = some a → A.map (·.block) = some a.block ∨ w.heap.size ≤ a.block)
set_option maxHeartbeats 1000000 in
theorem rmake_ok (h : RmS w base g A n c bs ls) (A' : Option Addr) (n' c' : Nat) (l : List Int) (h0 : 0 < n') (h1 : total ls + n' ≤ 1048576) (hu : Under 4294967296 l) (hr : Reads w w.heap.size 1 A' n' (Ints .u32 l)) :
    Calls Try.prog 28 #[.pointer (some ⟨g, 0, none⟩), .slice A' n' c'] w (Rmade w base g n A bs ls l) := by
  have hz : ((n' : Int) == 0) = false := by rw [beq_eq_false_iff_ne]; omega
  have hz2 : decide ((1048576 : Int) - (total ls : Int) < (n' : Int)) = false := by simp; omega
  have htot := h.core.le
  have hnle := h.core.n_le
  have hll := hr.len
  have Hll := Lib.hid hll
  clear hll
  go_enter Try.func28, Try.ntmps28
  go_wp2_with fail
  refine (rsize_any h).mono ?_
  rintro e w1 ⟨rfl, rfl⟩
  go_wp2_with (at_make; refine mk_full sl32 rfl _ rfl _ _ rfl w.heap.size n' rfl rfl rfl rfl (by omega) (by omega) (Nat.le_refl _) ?_; intro w1 hown hgr)
  go_loopw [7] (fun i wr => ∃ k : Nat, k ≤ n' ∧ i = .int .i64 k ∧ wr.ownsRow w.heap.size 36 1 (.slice (some ⟨w.heap.size, 0, none⟩) n' n') n' (Ints .u32 (mid l n' k)) ∧ Below w.heap.size w wr) (fun i _ => n' - (intOf i).toNat)
  case atStart => exact ⟨0, by omega, rfl, by rw [mid_zero, Ints_replicate]; exact hown, (Below.refl _ _).grown hgr (Nat.le_refl _) (fun _ h => by cases h)⟩
  case round =>
    obtain ⟨k, hk, rfl, ho, hb⟩ := hrel
    by_cases hlt : k < n'
    · obtain ⟨ad, rfl, hadb, hc⟩ := (hr.below hb).int_at hlt
      have hc1 := own_int_at ho hlt
      have hf1 := ho.frozenAt k
      go_wp2
      go_roundw
      case rel => exact ⟨k + 1, by omega, by go_num, by rw [← mid_set Hll.out hlt]; exact own_int_set ho k _, hb.setCell (Nat.le_refl _) _⟩
      case measure => simp [intOf]; omega
    · obtain rfl : k = n' := by omega
      rw [mid_all Hll.out] at ho
      have hm := h.below hb
      have k0 := fun o => (hm.blk.alloc o).cell 0
      simp at k0
      have q0 := hm.blk.cell 0
      simp at q0
      have hgl := h.blk.lt
      have hga : ¬ some g = A.map (·.block) := fun e => by
        rcases A with _ | a
        · cases e
        · simp at e; exact (h.core.apart a rfl).1 e.symm
      go_wp2_with (at_builtin; refine ap_lst slRooms _ rfl _ _ rfl hm.core.row _ _ rfl rfl rfl (by omega) (by omega) (by have := hb.size; have := h.core.low; omega) ?_; intro A4 c4 w4 ho4 hg4 hat4; have hoff : Off (fun k => some k = A.map (·.block)) wr w4 := ((Off.refl _ _).alloc _).trans (Off.of_grown hg4 (fun k hk => hk.symm)); have kb := hm.blk.off hoff hga; have p0 := kb.cell 0; have p1 := kb.frozen 0; simp at p0; have kb2 : Blk (w4.setCell ⟨g, 0, none⟩ (.slice A4 (n + 1) c4)) g 42 #[.slice A4 (n + 1) c4] := (by simpa using kb.set_ 0 (.slice A4 (n + 1) c4)); have z0 := kb2.cell 0; simp at z0)
      go_ret2
      have hl := Hll.out
      have hof5 := (Off.refl (fun k => k = g) w4).set_ (p := ⟨g, 0, none⟩) (.inl rfl) (.slice A4 (n + 1) c4)
      subst hl
      obtain ⟨b, hC, hO, hbb, hA⟩ := Core.roomed h.core (l := l) h0 hu h1 hb ho ho4 hg4 hat4 hof5
      exact ⟨rfl, A4, c4, b, ⟨kb2, hC⟩, hO, hbb, hA⟩
theorem rload_bad (h : RmS w base g A n c bs ls) (i p m : Int) (hi : -9223372036854775808 ≤ i ∧ i ≤ 9223372036854775807) (hp : -9223372036854775808 ≤ p ∧ p ≤ 9223372036854775807) (hm : -9223372036854775808 ≤ m ∧ m ≤ 9223372036854775807) (hbad : ¬ Fit ls i p m) :
    Calls Try.prog 30 #[.pointer (some ⟨g, 0, none⟩), .int .i64 i, .int .i64 p, .int .i64 m] w fun e w' => e = .returned (.tuple #[.slice none 0 0, .int .i64 220]) ∧ w = w' := by
  have his := ris_any h i p m hi hp hm false ⟨fun h => (by cases h), fun h => absurd h hbad⟩
  go_enter Try.func30, Try.ntmps30
  go_wp2_with fail
  refine his.mono ?_
  rintro e w1 ⟨rfl, rfl⟩
  go_wp2
  go_ret2
  exact ⟨rfl, rfl⟩
end
end Go.Proofs.Ytfkeogaagolnoaa
