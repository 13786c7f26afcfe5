/- Words for memory, more: a world that has turned on some blocks alone; a list that may be appended to. No program is named. -/
import Derived.Test.YtkmdeaffhneibaaMem
namespace Go.Proofs.Ytkmdeaffhneibaa
open Go.RowKit

/-- w' is w but for new blocks, and for writes to blocks of S -/
structure Off (S : Nat → Prop) (w w' : World) : Prop where
  os : w'.os = w.os
  tape : w'.tape = w.tape
  output : w'.output = w.output
  size : w.heap.size ≤ w'.heap.size
  block : ∀ k, k < w.heap.size → ¬ S k → w'.heap[k]? = w.heap[k]?

theorem Off.refl (S : Nat → Prop) (w : World) : Off S w w := ⟨rfl, rfl, rfl, Nat.le_refl _, fun _ _ _ => rfl⟩
theorem Off.trans {S : Nat → Prop} {a b c : World} (h : Off S a b) (k : Off S b c) : Off S a c :=
  ⟨k.os.trans h.os, k.tape.trans h.tape, k.output.trans h.output, Nat.le_trans h.size k.size, fun i hi hn => (k.block i (Nat.lt_of_lt_of_le hi h.size) hn).trans (h.block i hi hn)⟩
theorem Off.mono {S S' : Nat → Prop} {w w' : World} (h : Off S w w') (hS : ∀ k, k < w.heap.size → S k → S' k) : Off S' w w' := ⟨h.os, h.tape, h.output, h.size, fun k hk hn => h.block k hk (fun hs => hn (hS k hk hs))⟩
theorem Off.of_below {w w' : World} (S : Nat → Prop) (h : Below w.heap.size w w') : Off S w w' := ⟨h.os, h.tape, h.output, h.size, fun k hk _ => h.block k hk⟩
theorem Off.of_grown {S : Nat → Prop} {w w' : World} {row : Option Nat} (h : w.grownBy w' row) (hr : ∀ k, row = some k → S k) : Off S w w' := ⟨h.os, h.tape, h.output, h.size, fun k hk hn => h.block k hk (fun e => hn (hr k e.symm))⟩
theorem Off.to_below {S : Nat → Prop} {w w' : World} (h : Off S w w') (B : Nat) (hB : B ≤ w.heap.size) (hS : ∀ k, k < w.heap.size → S k → B ≤ k) : Below B w w' :=
  ⟨h.os, h.tape, h.output, h.size, fun k hk => h.block k (by omega) (fun hs => by have := hS k (by omega) hs; omega)⟩
theorem Off.set_ {S : Nat → Prop} {a w : World} (h : Off S a w) {p : Addr} (hp : S p.block ∨ a.heap.size ≤ p.block) (u : Value) : Off S a (w.setCell p u) :=
  ⟨h.os, h.tape, h.output, by simpa [World.setCell] using h.size, fun k hk hn => (Below.heap_setCell w p u k (fun e => by
    subst e
    rcases hp with hp | hp
    · exact hn hp
    · omega)).trans (h.block k hk hn)⟩
theorem Off.alloc {S : Nat → Prop} {a w : World} (h : Off S a w) (o : Obj) : Off S a (w.alloc o) :=
  ⟨h.os, h.tape, h.output, Nat.le_trans h.size (by simp), fun k hk hn => (Below.heap_alloc w o k (Nat.lt_of_lt_of_le hk h.size)).trans (h.block k hk hn)⟩
theorem Off.drew {S : Nat → Prop} {a w : World} (h : Off S a w) : Off S a w.drew := ⟨h.os, h.tape, h.output, h.size, h.block⟩
theorem Off.drewN {S : Nat → Prop} {a w : World} (h : Off S a w) (n : Nat) : Off S a (w.drewN n) := ⟨h.os, h.tape, h.output, h.size, h.block⟩
theorem Off.then_below {S : Nat → Prop} {a w w' : World} (h : Off S a w) (hb : Below w.heap.size w w') : Off S a w' := h.trans (Off.of_below S hb)

section
variable {w w' : World} {S : Nat → Prop}
theorem Blk.off {g : Nat} {t : TypeId} {cs : Array Value} (h : Blk w g t cs) (ho : Off S w w') (hn : ¬ S g) : Blk w' g t cs := (ho.block g h.lt hn).trans h
theorem own_off {base n size : Nat} {e : TypeId} {v : Value} {xs : List Value} (h : w.ownsRow base e size v n xs) (ho : Off S w w') (hn : ∀ k, v.ownBlock = some k → ¬ S k) : w'.ownsRow base e size v n xs := by
  have hlt := h.lt
  obtain ⟨h1, h2⟩ := h
  refine ⟨h1, ?_⟩
  rcases h2 with h2 | ⟨g, cap, cur, hv, hg, hh, r⟩
  · exact .inl h2
  · refine .inr ⟨g, cap, cur, hv, hg, ?_, r⟩
    have hb : v.ownBlock = some g := by rw [hv]; rfl
    rw [ho.block g (hlt g hb).2 (hn g hb)]
    exact hh
theorem Reads.off {B size n : Nat} {A : Option Addr} {xs : List Value} (h : Reads w B size A n xs) (ho : Off S w w') (hB : B ≤ w.heap.size) (hn : ∀ a, A = some a → ¬ S a.block) : Reads w' B size A n xs :=
  ⟨h.1, fun h0 => by
    obtain ⟨ad, e, hb, hc⟩ := h.2 h0
    refine ⟨ad, e, hb, fun j u hu => ?_⟩
    have hk : (ad.add j).block = ad.block := block_of_add _ _
    exact (World.cell?_of_block (w := w) (by rw [hk]; exact ho.block _ (by omega) (hn ad e))).trans (hc j u hu)⟩
end

/-- a list of one-cell elements that lies from 'base' on, and that may be appended to: a row of the call's own, or one that is full -/
def Lst (w : World) (base : Nat) (e : TypeId) (A : Option Addr) (n c : Nat) (xs : List Value) : Prop :=
  w.ownsRow base e 1 (.slice A n c) n xs ∨ (c = n ∧ Reads w w.heap.size 1 A n xs ∧ (∀ a, A = some a → base ≤ a.block ∧ a.block < w.heap.size) ∧ n ≤ 9223372036854775807)
section
variable {w w' : World} {S : Nat → Prop} {base n c : Nat} {e : TypeId} {A : Option Addr} {xs : List Value}
theorem Lst.reads (h : Lst w base e A n c xs) : Reads w w.heap.size 1 A n xs := by
  rcases h with h | h
  · exact Reads.of_own h
  · exact h.2.1
theorem Lst.cap (h : Lst w base e A n c xs) : n ≤ c := by
  rcases h with h | h
  · exact own_cap h
  · omega
theorem Lst.len (h : Lst w base e A n c xs) : xs.length = n := by have := h.reads.1; omega
theorem Lst.lt (h : Lst w base e A n c xs) {a : Addr} (ha : A = some a) : base ≤ a.block ∧ a.block < w.heap.size := by
  rcases h with h | h
  · subst ha; exact h.lt a.block rfl
  · exact h.2.2.1 a ha
theorem Lst.off (h : Lst w base e A n c xs) (ho : Off S w w') (hn : ∀ a, A = some a → ¬ S a.block) : Lst w' base e A n c xs := by
  rcases h with h | ⟨h1, h2, h3, h4⟩
  · refine .inl (own_off h ho fun k hk => ?_)
    rcases A with _ | a
    · cases hk
    · cases hk; exact hn a rfl
  · exact .inr ⟨h1, (h2.off ho (Nat.le_refl _) hn).more ho.size, fun a ha => ⟨(h3 a ha).1, Nat.lt_of_lt_of_le (h3 a ha).2 ho.size⟩, h4⟩
theorem Lst.below (h : Lst w base e A n c xs) (hb : Below w.heap.size w w') : Lst w' base e A n c xs := h.off (Off.of_below (fun _ => False) hb) fun _ _ h => h
theorem Lst.nil : Lst w base e none 0 0 [] := .inl (World.ownsRow_nil _ _ _ _)
end

/-- append(l, u): u lies in a block of its own that has just been laid -/
theorem run_append_lst {P : Program} {t e : TypeId} {z : Value} {bytes : Nat} (T : SliceOf P t e z 1 bytes) (ty : TypeId) (w : World) {base n c : Nat} {A : Option Addr} {xs : List Value} (h : Lst w base e A n c xs) (u : Value) (te : TypeId) (hu : u.oneCell' = true)
    (h63 : n + 1 ≤ 9223372036854775807) (hb : (n + 1) * bytes ≤ 140737488355328) (hbase : base ≤ w.heap.size) :
    ∃ A' c' w', (Builtin.append_ #[t, t] ty #[.slice A n c, .slice (some ⟨w.heap.size, 0, none⟩) 1 1]).run P (w.alloc (.cells #[u] te)) = .ok (.slice A' (n + 1) c') w' ∧ w'.ownsRow base e 1 (.slice A' (n + 1) c') (n + 1) (xs ++ [u]) ∧
      (w.alloc (.cells #[u] te)).grownBy w' (A.map (·.block)) ∧ (∀ a, A' = some a → A.map (·.block) = some a.block ∨ w.heap.size < a.block) := by
  obtain ⟨i, h2, h3, h4, rfl⟩ := info_parts T.hi
  have hnews : Reads (w.alloc (.cells #[u] te)) (w.heap.size + 1) 1 (some ⟨w.heap.size, 0, none⟩) 1 [u] := ⟨rfl, fun _ => ⟨_, rfl, by simp, cell_one_new _ _ _⟩⟩
  rcases h with h | ⟨rfl, h, hA, _⟩
  · obtain ⟨v', w', hrun, ho, hg, hat⟩ := run_append_any (P := P) _ base t ty e i z 1 i.bytes T.ht h2 h3 h4 rfl T.hs (by decide) _ n xs (h.alloc _) _ _ 1 1 [u] hnews (fun q hq => by simp at hq; subst hq; exact hu) (by unfold maxLen; omega) hb (by simp; omega)
    obtain ⟨A', c', rfl⟩ := own_shape ho
    have ho' := ho
    obtain ⟨g', cap', hv, _⟩ := ho'.form (by omega)
    cases hv
    refine ⟨_, c', w', hrun, ho, ?_, fun a ha => ?_⟩
    · rcases A with _ | a
      · exact hg
      · exact hg
    · cases ha
      rcases hat with hat | hat
      · left
        rcases A with _ | a
        · cases hat
        · simp [Value.ownBlock] at hat; simp [hat]
      · right; simp [Value.ownBlock] at hat; simp [hat]
  · have hl : xs.length = c * i.size := by rw [h4]; simpa using h.1
    rcases A with _ | ad
    · have h0 : c = 0 := by
        rcases Nat.eq_zero_or_pos c with h0 | h0
        · exact h0
        · obtain ⟨ad, hh, _⟩ := h.2 h0; cases hh
      subst h0
      have hx : xs = [] := List.eq_nil_of_length_eq_zero (by simpa using hl)
      subst hx
      obtain ⟨v', w', hrun, ho, hg, hat⟩ := run_append_any (P := P) _ base t ty e i z 1 i.bytes T.ht h2 h3 h4 rfl T.hs (by decide) (.slice none 0 0) 0 [] (World.ownsRow_nil (w.alloc (.cells #[u] te)) base e 1) _ _ 1 1 [u] hnews (fun q hq => by simp at hq; subst hq; exact hu) (by unfold maxLen; omega) hb (by simp; omega)
      obtain ⟨A', c', rfl⟩ := own_shape ho
      have ho' := ho
      obtain ⟨g', cap', hv, _⟩ := ho'.form (by omega)
      cases hv
      refine ⟨_, c', w', hrun, ho, hg, fun a ha => ?_⟩
      cases ha
      rcases hat with hat | hat
      · cases hat
      · right; simp [Value.ownBlock] at hat; simp [hat]
    · have had := (hA ad rfl).2
      have hc : ∀ j v, xs[j]? = some v → w.cell? (ad.add j) = some v := fun j v hv => by
        rcases Nat.eq_zero_or_pos c with h0 | h0
        · subst h0
          have hx : xs = [] := List.eq_nil_of_length_eq_zero (by simpa using hl)
          subst hx
          simp at hv
        · obtain ⟨ad', hh, _, hc⟩ := h.2 h0
          cases hh
          exact hc j v hv
      have hold : ∀ j v, xs[j]? = some v → (w.alloc (.cells #[u] te)).cell? (ad.add j) = some v := fun j v hv => (World.cell?_alloc_lt w _ _ (by rw [block_of_add]; exact had)).trans (hc j v hv)
      have hrun := run_append_grow (P := P) (w.alloc (.cells #[u] te)) t ty e i z T.ht h2 h3 ad c c xs hl hold ⟨w.heap.size, 0, none⟩ 1 1 [u] (by rw [h4]; rfl) (cell_one_new _ _ _) (by omega) (by omega) (growslice_fits (by omega) hb)
      have hge := grownCap_ge (w.alloc (.cells #[u] te)) (c + 1) c e
      have hcm : grownCap (w.alloc (.cells #[u] te)) (c + 1) c e ≤ maxLen := grownCap_le_maxLen _ (c + 1) c e (by unfold maxLen; omega)
      refine ⟨_, _, _, hrun, ⟨?_, .inr ⟨(w.alloc (.cells #[u] te)).heap.size, _, _, rfl, by simp; omega, heap_alloc_new _ _, hge, hcm, ?_, ?_⟩⟩, ⟨rfl, rfl, rfl, by simp, fun k hk _ => Below.heap_alloc _ _ k hk⟩, fun a ha => ?_⟩
      · simp [hl, h4]
      · simp only [Array.size_append, List.size_toArray, size_zeroCells, T.hs, hl, h4, List.length_cons, List.length_nil]
        omega
      · have e1 : (xs ++ [u]).length = (c + 1) * 1 := by rw [List.length_append, hl, h4]; simp
        simp only [Array.toList_append, List.append_assoc]
        rw [← List.append_assoc, ← e1]
        exact List.take_left
      · cases ha
        right
        simp

theorem step_ap_lst {P : Program} {t e : TypeId} {z : Value} {bytes : Nat} {ops : Array Oper} {o : Oper} {a : Act} {K : Act → World → Prop} {Q : Exit → Act → World → Prop} {E : Prop} (T : SliceOf P t e z 1 bytes) (w : World) (hgd : o.guard = none) (s x : Operand)
    (ho : o.op = .call { callee := .builtin .append, args := #[s, x], argTypes := #[t, t] }) {base n c : Nat} {A : Option Addr} {xs : List Value} (h : Lst w base e A n c xs) (u : Value) (te : TypeId) (hu : u.oneCell' = true)
    (hs : a.eval s = .slice A n c) (hx : a.eval x = .slice (some ⟨w.heap.size, 0, none⟩) 1 1) (h63 : n + 1 ≤ 9223372036854775807) (hb : (n + 1) * bytes ≤ 140737488355328) (hbase : base ≤ w.heap.size)
    (hK : ∀ A' c' w', w'.ownsRow base e 1 (.slice A' (n + 1) c') (n + 1) (xs ++ [u]) → (w.alloc (.cells #[u] te)).grownBy w' (A.map (·.block)) → (∀ a, A' = some a → A.map (·.block) = some a.block ∨ w.heap.size < a.block) → K (a.put o.dst (.slice A' (n + 1) c')) w') :
    if Region.wanted o (yielded ops a.tmps) = true then Oper.wp P o a (w.alloc (.cells #[u] te)) K Q else E := by
  have hw : Region.wanted o (yielded ops a.tmps) = true := by simp [Region.wanted, hgd]
  rw [if_pos hw]
  obtain ⟨A', c', w', hrun, h2, h3, h4⟩ := run_append_lst T o.type w h u te hu h63 hb hbase
  unfold Oper.wp execOp
  simp only [ho, resolve, invoke, builtin, Sem.run_bind, Sem.run_pure, Result.andThen_ok, List.map_toArray, List.map_cons, List.map_nil, hs, hx, hrun]
  exact hK A' c' w' h2 h3 h4
end Go.Proofs.Ytkmdeaffhneibaa
