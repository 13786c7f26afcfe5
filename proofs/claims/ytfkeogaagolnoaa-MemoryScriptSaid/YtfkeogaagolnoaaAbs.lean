/- A memory by what it holds and where its blocks are; its calls, the program's and the document's, in one and the same words. -/
import Derived.Test.YtfkeogaagolnoaaRms
namespace Go.Proofs.Ytfkeogaagolnoaa
open Go.RowKit

def MA (w : World) (base g : Nat) (F : Nat → Prop) (ls : List (List Int)) : Prop := ∃ A n c bs, MemS w base g A n c bs ls ∧ F = foot g A bs
def RA (w : World) (base g : Nat) (F : Nat → Prop) (ls : List (List Int)) : Prop := ∃ A n c bs, RmS w base g A n c bs ls ∧ F = foot g A bs
def Grows (w : World) (F F' : Nat → Prop) : Prop := ∀ k, F' k → F k ∨ w.heap.size ≤ k
theorem Grows.refl (w : World) (F : Nat → Prop) : Grows w F F := fun _ h => .inl h
theorem Grows.trans {w w' : World} {F F' F'' : Nat → Prop} (h : Grows w F F') (h' : Grows w' F' F'') (hs : w.heap.size ≤ w'.heap.size) : Grows w F F'' := fun k hk => by
  rcases h' k hk with h1 | h1
  · exact h k h1
  · exact .inr (by omega)
theorem Grows.from_ {w w' : World} {F F' : Nat → Prop} (h : Grows w' F F') (hs : w.heap.size ≤ w'.heap.size) : Grows w F F' := fun k hk => (h k hk).imp id (fun h => by omega)
def Apart (F G : Nat → Prop) : Prop := ∀ k, F k → ¬ G k
theorem Apart.symm {F G : Nat → Prop} (h : Apart F G) : Apart G F := fun k hg hf => h k hf hg
section
variable {w w' : World} {base g : Nat} {F : Nat → Prop} {ls : List (List Int)} {S : Nat → Prop}
theorem MA.off (h : MA w base g F ls) (ho : Off S w w') (hn : Apart F S) : MA w' base g F ls := by
  obtain ⟨A, n, c, bs, hm, rfl⟩ := h
  exact ⟨A, n, c, bs, hm.off ho hn, rfl⟩
theorem RA.off (h : RA w base g F ls) (ho : Off S w w') (hn : Apart F S) : RA w' base g F ls := by
  obtain ⟨A, n, c, bs, hm, rfl⟩ := h
  exact ⟨A, n, c, bs, hm.off ho hn, rfl⟩
theorem MA.below (h : MA w base g F ls) (hb : Below w.heap.size w w') : MA w' base g F ls := h.off (Off.of_below (fun _ => False) hb) fun _ _ h => h
theorem RA.below (h : RA w base g F ls) (hb : Below w.heap.size w w') : RA w' base g F ls := h.off (Off.of_below (fun _ => False) hb) fun _ _ h => h
theorem MA.lt (h : MA w base g F ls) {k : Nat} (hk : F k) : base ≤ k ∧ k < w.heap.size := by
  obtain ⟨A, n, c, bs, hm, rfl⟩ := h
  exact hm.foot_lt hk
theorem RA.lt (h : RA w base g F ls) {k : Nat} (hk : F k) : base ≤ k ∧ k < w.heap.size := by
  obtain ⟨A, n, c, bs, hm, rfl⟩ := h
  exact hm.core.foot_lt hk
theorem MA.base_le {base' : Nat} (h : MA w base g F ls) (hb : base' ≤ base) : MA w base' g F ls := by
  obtain ⟨A, n, c, bs, hm, rfl⟩ := h
  exact ⟨A, n, c, bs, (hm.core.base_le hb).mem hm.blk, rfl⟩
theorem RA.base_le {base' : Nat} (h : RA w base g F ls) (hb : base' ≤ base) : RA w base' g F ls := by
  obtain ⟨A, n, c, bs, hm, rfl⟩ := h
  exact ⟨A, n, c, bs, ⟨hm.blk, hm.core.base_le hb⟩, rfl⟩
theorem MA.pt (h : MA w base g F ls) : F g := by
  obtain ⟨A, n, c, bs, hm, rfl⟩ := h
  exact .inl rfl
theorem RA.pt (h : RA w base g F ls) : F g := by
  obtain ⟨A, n, c, bs, hm, rfl⟩ := h
  exact .inl rfl
theorem MA.u32 (h : MA w base g F ls) : (∀ l ∈ ls, Under 4294967296 l) ∧ (∀ l ∈ ls, 0 < l.length) ∧ total ls ≤ 1048576 := by
  obtain ⟨A, n, c, bs, hm, rfl⟩ := h
  exact ⟨hm.u32, hm.pos, hm.le⟩
theorem MA.base_le' (h : MA w base g F ls) : base ≤ w.heap.size := by have := h.lt h.pt; omega

def makeE (ls : List (List Int)) (l : List Int) : Int := if l.length = 0 then 2 else if 1048576 < total ls + l.length then 4 else 0
def makeN (ls : List (List Int)) (l : List Int) : Int := if makeE ls l = 0 then (ls.length : Int) else 0
def makeL (ls : List (List Int)) (l : List Int) : List (List Int) := if makeE ls l = 0 then ls ++ [l] else ls
theorem make_is0 {ls : List (List Int)} {l : List Int} (h : l.length = 0) : makeE ls l = 2 ∧ makeN ls l = 0 ∧ makeL ls l = ls := by
  have e : makeE ls l = 2 := by unfold makeE; rw [if_pos h]
  exact ⟨e, by unfold makeN; rw [e]; rfl, by unfold makeL; rw [e]; rfl⟩
theorem make_is4 {ls : List (List Int)} {l : List Int} (h : 0 < l.length) (h' : 1048576 < total ls + l.length) : makeE ls l = 4 ∧ makeN ls l = 0 ∧ makeL ls l = ls := by
  have e : makeE ls l = 4 := by unfold makeE; rw [if_neg (by omega), if_pos h']
  exact ⟨e, by unfold makeN; rw [e]; rfl, by unfold makeL; rw [e]; rfl⟩
theorem make_is {ls : List (List Int)} {l : List Int} (h : 0 < l.length) (h' : ¬ 1048576 < total ls + l.length) : makeE ls l = 0 ∧ makeN ls l = ls.length ∧ makeL ls l = ls ++ [l] := by
  have e : makeE ls l = 0 := by unfold makeE; rw [if_neg (by omega), if_neg h']
  exact ⟨e, by unfold makeN; rw [e]; rfl, by unfold makeL; rw [e]; rfl⟩
theorem foot_grown {g : Nat} {A A2 : Option Addr} {bs : List (Nat × Nat)} {b : Nat × Nat} (hA : ∀ a, A2 = some a → A.map (·.block) = some a.block ∨ w.heap.size ≤ a.block) (hb : w.heap.size ≤ b.1) : Grows w (foot g A bs) (foot g A2 (bs ++ [b])) := fun k hk => by
  rcases hk with rfl | ⟨a, ha, rfl⟩ | ⟨b', hb', rfl⟩
  · exact .inl (.inl rfl)
  · rcases hA a ha with h | h
    · rcases A with _ | a0
      · cases h
      · exact .inl (.inr (.inl ⟨a0, rfl, by simpa using h.symm⟩))
    · exact .inr h
  · rcases List.mem_append.1 hb' with h | h
    · exact .inl (.inr (.inr ⟨b', h, rfl⟩))
    · simp at h; subst h; exact .inr hb
theorem off_foot {g : Nat} {A : Option Addr} {bs : List (Nat × Nat)} (h : Off (fun k => k = g ∨ some k = A.map (·.block)) w w') : Off (foot g A bs) w w' := h.mono (fun k _ hk => by
  rcases hk with rfl | hk
  · exact .inl rfl
  · rcases A with _ | a
    · cases hk
    · exact .inr (.inl ⟨a, rfl, by simpa using hk⟩))
theorem MA.make (h : MA w base g F ls) (A' : Option Addr) (n' c' : Nat) (l : List Int) (hn : n' ≤ 35184372087808) (hu : Under 4294967296 l) (hr : Reads w w.heap.size 1 A' n' (Ints .u32 l)) :
    Calls Try.prog 9 #[.pointer (some ⟨g, 0, none⟩), .slice A' n' c'] w fun e w' => e = .returned (.tuple #[.int .i64 (makeN ls l), .int .i64 (makeE ls l)]) ∧ ∃ F', MA w' base g F' (makeL ls l) ∧ Off F w w' ∧ Grows w F F' := by
  obtain ⟨A, n, c, bs, hm, rfl⟩ := h
  have hl := hr.len
  rcases Nat.eq_zero_or_pos n' with h0 | h0
  · subst h0
    obtain ⟨e1, e2, e3⟩ := make_is0 (ls := ls) hl
    rw [e1, e2, e3]
    refine (make_empty g A' c' w).mono ?_
    rintro e w' ⟨rfl, rfl⟩
    exact ⟨rfl, _, ⟨A, n, c, bs, hm, rfl⟩, Off.refl _ _, Grows.refl _ _⟩
  · by_cases h1 : 1048576 < total ls + n'
    · obtain ⟨e1, e2, e3⟩ := make_is4 (ls := ls) (l := l) (by omega) (by omega)
      rw [e1, e2, e3]
      refine (make_large hm A' n' c' h0 h1 hn).mono ?_
      rintro e w' ⟨rfl, rfl⟩
      exact ⟨rfl, _, ⟨A, n, c, bs, hm, rfl⟩, Off.refl _ _, Grows.refl _ _⟩
    · obtain ⟨e1, e2, e3⟩ := make_is (ls := ls) (l := l) (by omega) (by omega)
      rw [e1, e2, e3]
      have hne := hm.n_eq
      refine (make_ok hm A' n' c' l h0 (by omega) hu hr).mono ?_
      rintro e w' ⟨rfl, A2, c2, b, hM, hoff, hb, hA⟩
      rw [hne] at hM
      exact ⟨by rw [hne], _, ⟨A2, _, c2, _, hM, rfl⟩, off_foot hoff, foot_grown hA hb⟩
theorem RA.make (h : RA w base g F ls) (A' : Option Addr) (n' c' : Nat) (l : List Int) (hu : Under 4294967296 l) (hr : Reads w w.heap.size 1 A' n' (Ints .u32 l)) :
    Calls Try.prog 28 #[.pointer (some ⟨g, 0, none⟩), .slice A' n' c'] w fun e w' => e = .returned (.tuple #[.int .i64 (makeN ls l), .int .i64 (makeE ls l)]) ∧ ∃ F', RA w' base g F' (makeL ls l) ∧ Off F w w' ∧ Grows w F F' := by
  obtain ⟨A, n, c, bs, hm, rfl⟩ := h
  have hl := hr.len
  rcases Nat.eq_zero_or_pos n' with h0 | h0
  · subst h0
    obtain ⟨e1, e2, e3⟩ := make_is0 (ls := ls) hl
    rw [e1, e2, e3]
    refine (rmake_empty A' c' w _).mono ?_
    rintro e w' ⟨rfl, rfl⟩
    exact ⟨rfl, _, ⟨A, n, c, bs, hm, rfl⟩, Off.refl _ _, Grows.refl _ _⟩
  · by_cases h1 : 1048576 < total ls + n'
    · obtain ⟨e1, e2, e3⟩ := make_is4 (ls := ls) (l := l) (by omega) (by omega)
      rw [e1, e2, e3]
      refine (rmake_large hm A' n' c' h0 h1).mono ?_
      rintro e w' ⟨rfl, rfl⟩
      exact ⟨rfl, _, ⟨A, n, c, bs, hm, rfl⟩, Off.refl _ _, Grows.refl _ _⟩
    · obtain ⟨e1, e2, e3⟩ := make_is (ls := ls) (l := l) (by omega) (by omega)
      rw [e1, e2, e3]
      have hne := hm.core.n_eq
      refine (rmake_ok hm A' n' c' l h0 (by omega) hu hr).mono ?_
      rintro e w' ⟨rfl, A2, c2, b, hM, hoff, hb, hA⟩
      rw [hne] at hM
      exact ⟨by rw [hne], _, ⟨A2, _, c2, _, hM, rfl⟩, off_foot hoff, foot_grown hA hb⟩

/-- what a Load answers -/
def LoadIs (ls : List (List Int)) (i p m : Int) (er : Int) (x : List Int) : Prop := (Fit ls i p m ∧ er = 0 ∧ ∃ (j q k : Nat) (l : List Int), i = j ∧ p = q ∧ m = k ∧ ls[j]? = some l ∧ q + k ≤ l.length ∧ x = (l.drop q).take k) ∨ (¬ Fit ls i p m ∧ er = 220 ∧ x = [])
theorem LoadIs.one {i p m er er' : Int} {x x' : List Int} (h : LoadIs ls i p m er x) (h' : LoadIs ls i p m er' x') : er = er' ∧ x = x' := by
  rcases h with ⟨hf, rfl, j, q, k, l, e1, e2, e3, e4, _, rfl⟩ | ⟨hf, rfl, rfl⟩ <;> rcases h' with ⟨hf', rfl, j', q', k', l', e1', e2', e3', e4', _, rfl⟩ | ⟨hf', rfl, rfl⟩
  · obtain rfl : j = j' := by omega
    obtain rfl : q = q' := by omega
    obtain rfl : k = k' := by omega
    rw [e4] at e4'
    cases e4'
    exact ⟨rfl, rfl⟩
  · exact absurd hf hf'
  · exact absurd hf' hf
  · exact ⟨rfl, rfl⟩
def i64 (x : Int) : Prop := -9223372036854775808 ≤ x ∧ x ≤ 9223372036854775807
theorem MA.load (h : MA w base g F ls) (i p m : Int) (hi : i64 i) (hp : i64 p) (hm : i64 m) :
    Calls Try.prog 14 #[.pointer (some ⟨g, 0, none⟩), .int .i64 i, .int .i64 p, .int .i64 m] w fun e w' => ∃ (A' : Option Addr) (n' c' : Nat) (er : Int) (x : List Int), e = .returned (.tuple #[.slice A' n' c', .int .i64 er]) ∧ LoadIs ls i p m er x ∧ n' ≤ 1048576 ∧ w'.ownsRow w.heap.size 36 1 (.slice A' n' c') n' (Ints .u32 x) ∧ Below w.heap.size w w' := by
  obtain ⟨A, n, c, bs, hM, rfl⟩ := h
  by_cases hf : Fit ls i p m
  · obtain ⟨j, q, k, l, rfl, rfl, rfl, hl, hk⟩ := hf.nat
    refine (load_ok hM j l q k hl hk).mono ?_
    rintro e w' ⟨A', c', rfl, ho, hb⟩
    have := total_mem (List.mem_of_getElem? hl)
    have := hM.le
    exact ⟨A', k, c', 0, _, rfl, .inl ⟨hf, rfl, j, q, k, l, rfl, rfl, rfl, hl, hk, rfl⟩, by omega, ho, hb⟩
  · refine (load_bad hM i p m hi hp hm hf).mono ?_
    rintro e w' ⟨rfl, hb⟩
    exact ⟨none, 0, 0, 220, [], rfl, .inr ⟨hf, rfl, rfl⟩, by omega, World.ownsRow_nil _ _ _ _, hb⟩
theorem RA.load (h : RA w base g F ls) (i p m : Int) (hi : i64 i) (hp : i64 p) (hm : i64 m) :
    Calls Try.prog 30 #[.pointer (some ⟨g, 0, none⟩), .int .i64 i, .int .i64 p, .int .i64 m] w fun e w' => ∃ (A' : Option Addr) (n' c' : Nat) (er : Int) (x : List Int), e = .returned (.tuple #[.slice A' n' c', .int .i64 er]) ∧ LoadIs ls i p m er x ∧ n' ≤ 1048576 ∧ w'.ownsRow w.heap.size 36 1 (.slice A' n' c') n' (Ints .u32 x) ∧ Below w.heap.size w w' := by
  obtain ⟨A, n, c, bs, hM, rfl⟩ := h
  by_cases hf : Fit ls i p m
  · obtain ⟨j, q, k, l, rfl, rfl, rfl, hl, hk⟩ := hf.nat
    refine (rload_ok hM j l q k hl hk).mono ?_
    rintro e w' ⟨A', c', rfl, ho, hb⟩
    have := total_mem (List.mem_of_getElem? hl)
    have := hM.core.le
    exact ⟨A', k, c', 0, _, rfl, .inl ⟨hf, rfl, j, q, k, l, rfl, rfl, rfl, hl, hk, rfl⟩, by omega, ho, hb⟩
  · refine (rload_bad hM i p m hi hp hm hf).mono ?_
    rintro e w' ⟨rfl, rfl⟩
    exact ⟨none, 0, 0, 220, [], rfl, .inr ⟨hf, rfl, rfl⟩, by omega, World.ownsRow_nil _ _ _ _, Below.refl _ _⟩
/-- what a Store answers, and leaves -/
def StoreIs (ls : List (List Int)) (i p : Int) (x : List Int) (er : Int) (ls' : List (List Int)) : Prop := (Fit ls i p x.length ∧ er = 0 ∧ ∃ (j q : Nat) (l : List Int), i = j ∧ p = q ∧ ls[j]? = some l ∧ ls' = ls.set j (over l q x)) ∨ (¬ Fit ls i p x.length ∧ er = 220 ∧ ls' = ls)
theorem StoreIs.one {i p er er' : Int} {x : List Int} {l1 l2 : List (List Int)} (h : StoreIs ls i p x er l1) (h' : StoreIs ls i p x er' l2) : er = er' ∧ l1 = l2 := by
  rcases h with ⟨hf, rfl, j, q, l, e1, e2, e4, rfl⟩ | ⟨hf, rfl, rfl⟩ <;> rcases h' with ⟨hf', rfl, j', q', l', e1', e2', e4', rfl⟩ | ⟨hf', rfl, rfl⟩
  · obtain rfl : j = j' := by omega
    obtain rfl : q = q' := by omega
    rw [e4] at e4'
    cases e4'
    exact ⟨rfl, rfl⟩
  · exact absurd hf hf'
  · exact absurd hf' hf
  · exact ⟨rfl, rfl⟩
theorem MA.store (h : MA w base g F ls) (i p : Int) (Aw : Option Addr) (cw : Nat) (x : List Int) (hi : i64 i) (hp : i64 p) (hn : x.length ≤ 35184372087808) (hx : Under 4294967296 x) (hr : Reads w w.heap.size 1 Aw x.length (Ints .u32 x)) :
    Calls Try.prog 13 #[.pointer (some ⟨g, 0, none⟩), .int .i64 i, .int .i64 p, .slice Aw x.length cw] w fun e w' => ∃ (er : Int) (ls' : List (List Int)), e = .returned (.int .i64 er) ∧ StoreIs ls i p x er ls' ∧ MA w' base g F ls' ∧ Off F w w' := by
  obtain ⟨A, n, c, bs, hM, rfl⟩ := h
  by_cases hf : Fit ls i p x.length
  · obtain ⟨j, q, k, l, rfl, rfl, e3, hl, hk⟩ := hf.nat
    refine (store_ok hM j l x q Aw cw hl (by omega) hx hr).mono ?_
    rintro e w' ⟨rfl, hM', ho⟩
    exact ⟨0, _, rfl, .inl ⟨hf, rfl, j, q, l, rfl, rfl, hl, rfl⟩, ⟨A, n, c, bs, hM', rfl⟩, ho⟩
  · refine (store_bad hM i p Aw x.length cw hi hp hn hf).mono ?_
    rintro e w' ⟨rfl, hb⟩
    exact ⟨220, _, rfl, .inr ⟨hf, rfl, rfl⟩, ⟨A, n, c, bs, hM.below hb, rfl⟩, Off.of_below _ hb⟩
theorem RA.store (h : RA w base g F ls) (i p : Int) (Aw : Option Addr) (cw : Nat) (x : List Int) (hi : i64 i) (hp : i64 p) (hn : x.length ≤ 35184372087808) (hx : Under 4294967296 x) (hr : Reads w base 1 Aw x.length (Ints .u32 x)) :
    Calls Try.prog 31 #[.pointer (some ⟨g, 0, none⟩), .int .i64 i, .int .i64 p, .slice Aw x.length cw] w fun e w' => ∃ (er : Int) (ls' : List (List Int)), e = .returned (.int .i64 er) ∧ StoreIs ls i p x er ls' ∧ RA w' base g F ls' ∧ Off F w w' := by
  obtain ⟨A, n, c, bs, hM, rfl⟩ := h
  by_cases hf : Fit ls i p x.length
  · obtain ⟨j, q, k, l, rfl, rfl, e3, hl, hk⟩ := hf.nat
    refine (rstore_ok hM j l x q Aw cw hl (by omega) hx hr).mono ?_
    rintro e w' ⟨rfl, hM', ho⟩
    exact ⟨0, _, rfl, .inl ⟨hf, rfl, j, q, l, rfl, rfl, hl, rfl⟩, ⟨A, n, c, bs, hM', rfl⟩, ho⟩
  · refine (rstore_bad hM i p Aw x.length cw hi hp hn hf).mono ?_
    rintro e w' ⟨rfl, rfl⟩
    exact ⟨220, _, rfl, .inr ⟨hf, rfl, rfl⟩, ⟨A, n, c, bs, hM, rfl⟩, Off.refl _ _⟩
/-- what a Drop answers, and leaves -/
def dropE (ls : List (List Int)) (f : Int) : Int := if f < 0 ∨ (ls.length : Int) < f then 220 else 0
def dropL (ls : List (List Int)) (f : Int) : List (List Int) := if f < 0 ∨ (ls.length : Int) < f then ls else ls.take f.toNat
theorem MA.drop (h : MA w base g F ls) (f : Int) :
    Calls Try.prog 21 #[.pointer (some ⟨g, 0, none⟩), .int .i64 f] w fun e w' => e = .returned (.int .i64 (dropE ls f)) ∧ ∃ F', MA w' base g F' (dropL ls f) ∧ Off F w w' ∧ Grows w F F' := by
  obtain ⟨A, n, c, bs, hM, rfl⟩ := h
  have hn := hM.n_eq
  unfold dropE dropL
  by_cases hf : f < 0 ∨ (ls.length : Int) < f
  · rw [if_pos hf, if_pos hf]
    refine (drop_bad hM f (by omega)).mono ?_
    rintro e w' ⟨rfl, rfl⟩
    exact ⟨rfl, _, ⟨A, n, c, bs, hM, rfl⟩, Off.refl _ _, Grows.refl _ _⟩
  · rw [if_neg hf, if_neg hf]
    obtain ⟨k, rfl⟩ := Int.eq_ofNat_of_zero_le (show 0 ≤ f by omega)
    refine (drop_ok hM k (by omega)).mono ?_
    rintro e w' ⟨rfl, hM', ho⟩
    exact ⟨rfl, _, ⟨A, k, k, bs.take k, hM', rfl⟩, ho.mono (fun q _ hq => .inl hq), fun q hq => .inl (foot_take hq)⟩
theorem RA.drop (h : RA w base g F ls) (f : Int) :
    Calls Try.prog 32 #[.pointer (some ⟨g, 0, none⟩), .int .i64 f] w fun e w' => e = .returned (.int .i64 (dropE ls f)) ∧ ∃ F', RA w' base g F' (dropL ls f) ∧ Off F w w' ∧ Grows w F F' := by
  obtain ⟨A, n, c, bs, hM, rfl⟩ := h
  have hn := hM.core.n_eq
  unfold dropE dropL
  by_cases hf : f < 0 ∨ (ls.length : Int) < f
  · rw [if_pos hf, if_pos hf]
    refine (rdrop_bad hM f (by omega)).mono ?_
    rintro e w' ⟨rfl, rfl⟩
    exact ⟨rfl, _, ⟨A, n, c, bs, hM, rfl⟩, Off.refl _ _, Grows.refl _ _⟩
  · rw [if_neg hf, if_neg hf]
    obtain ⟨k, rfl⟩ := Int.eq_ofNat_of_zero_le (show 0 ≤ f by omega)
    refine (rdrop_ok hM k (by omega)).mono ?_
    rintro e w' ⟨rfl, A2, c2, hM', ho, hA⟩
    refine ⟨rfl, _, ⟨A2, k, c2, bs.take k, hM', rfl⟩, ho.mono (fun q _ hq => .inl hq), fun q hq => ?_⟩
    rcases hq with rfl | ⟨a, ha, rfl⟩ | ⟨b, hb, rfl⟩
    · exact .inl (.inl rfl)
    · exact .inr (hA a ha)
    · exact .inl (.inr (.inr ⟨b, List.mem_of_mem_take hb, rfl⟩))
theorem MA.copy (h : MA w base g F ls) :
    Calls Try.prog 18 #[.pointer (some ⟨g, 0, none⟩)] w fun e w' => ∃ g2 F2, e = .returned (.pointer (some ⟨g2, 0, none⟩)) ∧ MA w' w.heap.size g2 F2 ls ∧ Below w.heap.size w w' := by
  obtain ⟨A, n, c, bs, hM, rfl⟩ := h
  refine (mcopy_any hM).mono ?_
  rintro e w' ⟨g2, A2, n2, c2, bs2, rfl, hM', hb⟩
  exact ⟨g2, _, rfl, ⟨A2, n2, c2, bs2, hM', rfl⟩, hb⟩
theorem RA.copy (h : RA w base g F ls) :
    Calls Try.prog 17 #[.pointer (some ⟨g, 0, none⟩)] w fun e w' => ∃ g2 F2, e = .returned (.pointer (some ⟨g2, 0, none⟩)) ∧ RA w' w.heap.size g2 F2 ls ∧ Below w.heap.size w w' := by
  obtain ⟨A, n, c, bs, hM, rfl⟩ := h
  refine (rcopy_any hM).mono ?_
  rintro e w' ⟨g2, A2, n2, c2, bs2, rfl, hM', hb⟩
  exact ⟨g2, _, rfl, ⟨A2, n2, c2, bs2, hM', rfl⟩, hb⟩
end
end Go.Proofs.Ytfkeogaagolnoaa
