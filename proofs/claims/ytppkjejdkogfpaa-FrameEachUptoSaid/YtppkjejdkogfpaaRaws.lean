/- Instructions as cells: a slice of structs of an operation and a slice of words. -/
import Derived.Test.YtppkjejdkogfpaaKitB
import Derived.Test.YtppkjejdkogfpaaFrameLaw
namespace Go.Proofs.Ytppkjejdkogfpaa
open Go.RowKit Go.WideShapes

/-- an instruction in memory: what it is, where its words lie, how many might -/
abbrev RI := Ins × Option Addr × Nat
def RI.sl (x : RI) : Value := .slice x.2.1 x.1.2.length x.2.2
def Rcells : List RI → List Value
  | [] => []
  | x :: r => .int .u16 x.1.1 :: x.sl :: Rcells r
theorem Rcells_length (l : List RI) : (Rcells l).length = l.length * 2 := by
  induction l with
  | nil => rfl
  | cons x r ih => simp only [Rcells, List.length_cons, ih]; omega
theorem Rcells_append (l r : List RI) : Rcells (l ++ r) = Rcells l ++ Rcells r := by
  induction l with
  | nil => rfl
  | cons x t ih => simp only [List.cons_append, Rcells, ih]
theorem Rcells_one (x : RI) : Rcells [x] = [.int .u16 x.1.1, x.sl] := rfl
theorem Rcells_oneCell : ∀ {l : List RI}, ∀ u ∈ Rcells l, u.oneCell' = true
  | x :: r, u, h => by
    simp only [Rcells, List.mem_cons] at h
    rcases h with rfl | rfl | h
    · rfl
    · rfl
    · exact Rcells_oneCell u h
def noRI : RI := ((0, []), none, 0)
def ri (l : List RI) (k : Nat) : RI := l.getD k noRI
theorem ri_of {l : List RI} {k : Nat} (h : k < l.length) : ri l k = l[k] := by simp [ri, List.getD, h]
theorem ri_mem {l : List RI} {k : Nat} (h : k < l.length) : ri l k ∈ l := by rw [ri_of h]; exact List.getElem_mem h
theorem Rcells_at : ∀ {l : List RI} {k : Nat}, k < l.length → (Rcells l)[k * 2]? = some (.int .u16 (ri l k).1.1) ∧ (Rcells l)[k * 2 + 1]? = some (ri l k).sl
  | x :: r, 0, _ => ⟨rfl, rfl⟩
  | x :: r, k + 1, h => by
    have h1 := Rcells_at (l := r) (k := k) (by simpa using h)
    have e : (k + 1) * 2 = k * 2 + 2 := by omega
    rw [e]
    exact h1

/-- instructions that may be read -/
structure RawR (w : World) (A : Option Addr) (l : List RI) : Prop where
  row : Reads w w.heap.size 2 A l.length (Rcells l)
  ws : ∀ x ∈ l, Reads w w.heap.size 1 x.2.1 x.1.2.length (Ints .u32 x.1.2)
  len : ∀ x ∈ l, x.1.2.length ≤ 35184372087808
  op : ∀ x ∈ l, 0 ≤ x.1.1 ∧ x.1.1 < 65536
theorem RawR.below {w w' : World} {A : Option Addr} {l : List RI} (h : RawR w A l) (hb : Below w.heap.size w w') : RawR w' A l :=
  ⟨(h.row.below hb).more hb.size, fun x hx => ((h.ws x hx).below hb).more hb.size, h.len, h.op⟩
theorem RawR.drewN {w : World} {A : Option Addr} {l : List RI} (h : RawR w A l) (m : Nat) : RawR (w.drewN m) A l := ⟨h.row, h.ws, h.len, h.op⟩
theorem RawR.drawn {w w' : World} {A : Option Addr} {l : List RI} (h : RawR w A l) (hd : Drawn w w') : RawR w' A l := by
  obtain ⟨m, rfl⟩ := hd
  exact h.drewN m
theorem RawR.alloc {w : World} {A : Option Addr} {l : List RI} (h : RawR w A l) (o : Obj) : RawR (w.alloc o) A l := h.below ((Below.refl _ _).alloc (Nat.le_refl _) o)
theorem RawR.at_ {w : World} {A : Option Addr} {l : List RI} (h : RawR w A l) {k : Nat} (hk : k < l.length) :
    ∃ b off, A = some ⟨b, off, none⟩ ∧ b < w.heap.size ∧ w.cell? ⟨b, off + k * 2, none⟩ = some (.int .u16 (ri l k).1.1) ∧ w.cell? ⟨b, off + (k * 2 + 1), none⟩ = some (.slice (ri l k).2.1 (ri l k).1.2.length (ri l k).2.2) := by
  obtain ⟨ad, e, hb, hc⟩ := h.row.2 (by omega)
  obtain ⟨h0, h1⟩ := Rcells_at hk
  obtain ⟨b, off, spot⟩ := ad
  have hz := hc _ _ h0
  have hs : spot = none := by
    have h2 := World.cell?_spot (hc _ _ (Rcells_at (k := 0) (l := l) (by omega)).1)
    simpa [Addr.add] using h2
  subst hs
  refine ⟨b, off, e, hb, ?_, ?_⟩
  · rw [← add_plain]; exact hz
  · rw [← add_plain]; exact hc _ _ h1

/-- instructions of the call's own: the list in a row of its own, each one's words in a row of their own -/
structure RawO (w : World) (base : Nat) (A : Option Addr) (c : Nat) (l : List RI) : Prop where
  row : w.ownsRow base 45 2 (.slice A l.length c) l.length (Rcells l)
  ws : ∀ x ∈ l, w.ownsRow base 23 1 x.sl x.1.2.length (Ints .u32 x.1.2)
  apart : l.Pairwise fun x y => ∀ k, x.sl.ownBlock = some k → y.sl.ownBlock ≠ some k
  len : ∀ x ∈ l, x.1.2.length ≤ 35184372087808
  op : ∀ x ∈ l, 0 ≤ x.1.1 ∧ x.1.1 < 65536
theorem RawO.reads {w : World} {base c : Nat} {A : Option Addr} {l : List RI} (h : RawO w base A c l) : RawR w A l :=
  ⟨Reads.of_own h.row, fun x hx => Reads.of_own (h.ws x hx), h.len, h.op⟩
theorem RawO.off {S : Nat → Prop} {w w' : World} {base c : Nat} {A : Option Addr} {l : List RI} (h : RawO w base A c l) (ho : Off S w w') (hS : ∀ k, base ≤ k → k < w.heap.size → ¬ S k) : RawO w' base A c l :=
  ⟨own_off h.row ho fun k hk => hS k (h.row.lt k hk).1 (h.row.lt k hk).2, fun x hx => own_off (h.ws x hx) ho fun k hk => hS k ((h.ws x hx).lt k hk).1 ((h.ws x hx).lt k hk).2, h.apart, h.len, h.op⟩
theorem RawO.below {w w' : World} {base c : Nat} {A : Option Addr} {l : List RI} (h : RawO w base A c l) (hb : Below w.heap.size w w') : RawO w' base A c l :=
  h.off (Off.of_below (fun _ => False) hb) fun _ _ _ h => h
theorem RawO.more {w : World} {base base' c : Nat} {A : Option Addr} {l : List RI} (h : RawO w base A c l) (hB : base' ≤ base) : RawO w base' A c l :=
  ⟨own_base h.row hB, fun x hx => own_base (h.ws x hx) hB, h.apart, h.len, h.op⟩
theorem RawO.drewN {w : World} {base c : Nat} {A : Option Addr} {l : List RI} (h : RawO w base A c l) (m : Nat) : RawO (w.drewN m) base A c l := ⟨h.row, h.ws, h.apart, h.len, h.op⟩
theorem RawO.nil (w : World) (base : Nat) : RawO w base none 0 [] := ⟨World.ownsRow_nil _ _ _ _, by simp, .nil, by simp, by simp⟩
theorem RawO.shape {w : World} {base c : Nat} {A : Option Addr} {l : List RI} (h : RawO w base A c l) (hn : 0 < l.length) : ∃ g, A = some ⟨g, 0, none⟩ ∧ base ≤ g ∧ g < w.heap.size := by
  obtain ⟨g, cap, hv, h1, h2⟩ := h.row.form hn
  cases hv
  exact ⟨g, rfl, h1, h2⟩
theorem slRaw : SliceOf Try.prog 26 45 (.agg #[.int .u16 0, .slice none 0 0]) 2 32 := ⟨Try.underlying26, by kernel_rfl, rfl, by decide⟩
end Go.Proofs.Ytppkjejdkogfpaa
