/- Walks: the statements' own helper copied: instructions in new memory. -/
import Derived.Test.YtppkjejdkogfpaaApartf
namespace Go.Proofs.Ytppkjejdkogfpaa
open Go.RowKit Go.WideShapes

theorem Rcells_set : ∀ {l : List RI} {k : Nat} {x : RI}, k < l.length → Rcells (l.set k x) = ((Rcells l).set (k * 2) (.int .u16 x.1.1)).set (k * 2 + 1) x.sl
  | y :: r, 0, x, _ => rfl
  | y :: r, k + 1, x, h => by
    have h1 := Rcells_set (l := r) (k := k) (x := x) (by simpa using h)
    have e : (k + 1) * 2 = k * 2 + 2 := by omega
    rw [e, List.set_cons_succ, Rcells, h1]
    rfl
theorem ri_replicate {n k : Nat} : ri (List.replicate n noRI) k = noRI := by
  rcases Nat.lt_or_ge k n with h | h
  · simp [ri, List.getD, h]
  · simp [ri, List.getD, h]
theorem ri_set_same {l : List RI} {k : Nat} {x : RI} (h : k < l.length) : ri (l.set k x) k = x := by simp [ri, List.getD, h]
theorem ri_set_other {l : List RI} {k j : Nat} {x : RI} (h : k ≠ j) : ri (l.set k x) j = ri l j := by simp [ri, List.getD, List.getElem?_set_ne h]
theorem Rcells_replicate (n : Nat) : Rcells (List.replicate n noRI) = (madeCells #[.int .u16 0, .slice none 0 0] (n * 2)).toList := by
  refine List.ext_getElem? fun i => ?_
  rcases Nat.lt_or_ge i (n * 2) with h | h
  · obtain ⟨k, r, hr, rfl⟩ : ∃ k r, r < 2 ∧ i = k * 2 + r := ⟨i / 2, i % 2, Nat.mod_lt _ (by omega), by omega⟩
    have hk : k < (List.replicate n noRI).length := by simp; omega
    obtain ⟨h0, h1⟩ := Rcells_at hk
    have e : ri (List.replicate n noRI) k = noRI := ri_replicate
    rw [e] at h0 h1
    have h3 : (k * 2 + r) % 2 = r := by omega
    match r, hr with
    | 0, _ => rw [Nat.add_zero] at *; rw [h0]; simp [madeCells, h, noRI]
    | 1, _ => rw [h1]; simp [madeCells, h, h3, noRI, RI.sl]
  · rw [List.getElem?_eq_none (by rw [Rcells_length]; simpa using h), List.getElem?_eq_none (by simpa [madeCells] using h)]
section
variable {P : Program} {t e : TypeId} {z : Value} {size bytes : Nat}
/-- make([]T, n), T of any number of cells -/
theorem mk_wide (S : SliceOf P t e z size bytes) (w : World) {ops : Array Oper} {rest : List Oper} {o : Oper} {a : Act} {Q : Exit → Act → World → Prop} (hg : o.guard = none)
    (l c : Operand) (hop : o.op = .makeSlice t l c) (base n : Nat) {kl kc : IntKind} {L C : Int} (hl : a.eval l = .int kl L) (hc : a.eval c = .int kc C) (hL : L = n) (hC : C = n)
    (hb : bytes * n ≤ 281474976710656) (h63 : n ≤ 9223372036854775807) (h4 : base ≤ w.heap.size)
    (hK : ∀ w' : World, w'.ownsRow base e size (.slice (some ⟨w.heap.size, 0, none⟩) n n) n (madeCells z.cells (n * size)).toList → w.grownBy w' none →
      wpList P ops Q rest (a.put o.dst (.slice (some ⟨w.heap.size, 0, none⟩) n n)) w') : wpList P ops Q (o :: rest) a w := by
  obtain ⟨i, h1, h2, h3, rfl⟩ := info_parts S.hi
  exact wpList_make_full w hg l c t hop base e i z size S.ht h1 h2 h3 kl kc L C n hl hc hL hC hb (by unfold maxLen; omega) h4 hK
end
theorem RawO.blank {w : World} {base g n : Nat} (h : w.ownsRow base 45 2 (.slice (some ⟨g, 0, none⟩) n n) n (Rcells (List.replicate n noRI))) : RawO w base (some ⟨g, 0, none⟩) n (List.replicate n noRI) := by
  refine ⟨by rw [List.length_replicate]; exact h, fun x hx => ?_, ?_, fun x hx => ?_, fun x hx => ?_⟩
  · obtain rfl := (List.mem_replicate.1 hx).2; exact World.ownsRow_nil _ _ _ _
  · exact List.pairwise_replicate.2 (.inr (fun k hk => by cases hk))
  · obtain rfl := (List.mem_replicate.1 hx).2; simp [noRI]
  · obtain rfl := (List.mem_replicate.1 hx).2; simp [noRI]
/-- an instruction stored into a list of the call's own -/
theorem RawO.put {w : World} {base g c : Nat} {l : List RI} (h : RawO w base (some ⟨g, 0, none⟩) c l) {k : Nat} (hk : k < l.length) (x : RI) (hx : w.ownsRow base 23 1 x.sl x.1.2.length (Ints .u32 x.1.2))
    (ha : ∀ j, j < l.length → ∀ b, (ri l j).sl.ownBlock = some b → x.sl.ownBlock ≠ some b) (hlen : x.1.2.length ≤ 35184372087808) (hop : 0 ≤ x.1.1 ∧ x.1.1 < 65536) :
    RawO ((w.setCell ⟨g, k * 2, none⟩ (.int .u16 x.1.1)).setCell ⟨g, k * 2 + 1, none⟩ x.sl) base (some ⟨g, 0, none⟩) c (l.set k x) := by
  have hrb : (Value.slice (some ⟨g, 0, none⟩) l.length c).ownBlock = some g := by simp [Value.ownBlock]
  have kp : ∀ y : RI, w.ownsRow base 23 1 y.sl y.1.2.length (Ints .u32 y.1.2) → ((w.setCell ⟨g, k * 2, none⟩ (.int .u16 x.1.1)).setCell ⟨g, k * 2 + 1, none⟩ x.sl).ownsRow base 23 1 y.sl y.1.2.length (Ints .u32 y.1.2) := fun y hy => by
    have hn := own_types_ne h.row hy (by decide) g hrb
    exact own_set_other (own_set_other (p := ⟨g, k * 2, none⟩) hy hn _) (p := ⟨g, k * 2 + 1, none⟩) hn _
  refine ⟨?_, fun y hy => ?_, ?_, fun y hy => ?_, fun y hy => ?_⟩
  · rw [List.length_set, Rcells_set hk]
    exact ((h.row.stored _ _).1.stored _ _).1
  · rcases List.mem_or_eq_of_mem_set hy with hy | rfl
    · exact kp y (h.ws y hy)
    · exact kp _ hx
  · refine List.pairwise_iff_getElem.2 fun i j hi hj hij b hb hb' => ?_
    rw [List.length_set] at hi hj
    rw [← ri_of (by rw [List.length_set]; exact hi)] at hb
    rw [← ri_of (by rw [List.length_set]; exact hj)] at hb'
    by_cases h1 : k = i
    · subst h1
      rw [ri_set_same hk] at hb
      rw [ri_set_other (by omega)] at hb'
      exact ha j hj b hb' hb
    · rw [ri_set_other h1] at hb
      by_cases h2 : k = j
      · subst h2
        rw [ri_set_same hk] at hb'
        exact ha i hi b hb hb'
      · rw [ri_set_other h2] at hb'
        exact h.apart_at hi hj (by omega) b hb hb'
  · rcases List.mem_or_eq_of_mem_set hy with hy | rfl
    · exact h.len y hy
    · exact hlen
  · rcases List.mem_or_eq_of_mem_set hy with hy | rfl
    · exact h.op y hy
    · exact hop
theorem cell_puts {w : World} {g i j : Nat} {p : Addr} {u v0 v1 : Value} (h : w.cell? p = some u) (hne : p.block ≠ g) : ((w.setCell ⟨g, i, none⟩ v0).setCell ⟨g, j, none⟩ v1).cell? p = some u :=
  (World.cell?_setCell_other _ _ _ _ (fun e => hne (by rw [← e]))).trans ((World.cell?_setCell_other _ _ _ _ (fun e => hne (by rw [← e]))).trans h)
theorem below_puts {w w' : World} {B g i j : Nat} {v0 v1 : Value} (h : Below B w w') (hg : B ≤ g) : Below B w ((w'.setCell ⟨g, i, none⟩ v0).setCell ⟨g, j, none⟩ v1) := (h.setCell (p := ⟨g, i, none⟩) hg v0).setCell (p := ⟨g, j, none⟩) hg v1
/-- what two stores into an own row want -/
theorem own_stores {w : World} {base g n c i j : Nat} {e : TypeId} {size : Nat} {xs : List Value} {u0 u1 : Value} (h : w.ownsRow base e size (.slice (some ⟨g, 0, none⟩) n c) n xs) (h0 : xs[i]? = some u0) (h1 : xs[j]? = some u1) (hij : i ≠ j) :
    w.cell? ⟨g, i, none⟩ = some u0 ∧ w.frozen? ⟨g, i, none⟩ = false ∧ (∀ v0, (w.setCell ⟨g, i, none⟩ v0).cell? ⟨g, j, none⟩ = some u1) ∧ (∀ v0, (w.setCell ⟨g, i, none⟩ v0).frozen? ⟨g, j, none⟩ = false) := by
  have hi := (List.getElem?_eq_some_iff.1 h0).1
  have hj := (List.getElem?_eq_some_iff.1 h1).1
  refine ⟨(h.cellAt _ (by have := h.1; omega)).trans h0, h.frozenAt _, fun v0 => ?_, fun v0 => (h.stored i v0).1.frozenAt _⟩
  have hs := (h.stored i v0).1
  refine (hs.cellAt _ (by have := h.1; omega)).trans ?_
  rw [List.getElem?_set_ne hij]
  exact h1

set_option maxRecDepth 100000 in
set_option maxHeartbeats 2000000 in
theorem copied_any (A : Option Addr) (n c : Nat) (l : List RI) (w : World) (hl : l.length = n) (hn : n ≤ 4398046511104) (hR : RawR w A l) :
    Calls Try.prog 23 #[.slice A n c] w fun e w' => ∃ g l', e = .returned (.slice (some ⟨g, 0, none⟩) n n) ∧ insL l' = insL l ∧ RawO w' w.heap.size (some ⟨g, 0, none⟩) n l' ∧ Below w.heap.size w w' := by
  go_enter Try.func23, Try.ntmps23
  go_wp2_with (at_make; refine mk_wide slRaw _ rfl _ _ rfl w.heap.size n rfl rfl rfl rfl (by omega) (by omega) (Nat.le_refl _) ?_; intro w1 hown hgr)
  go_loopw [4] (fun i wr => ∃ (k : Nat) (l' : List RI), k ≤ n ∧ i = .int .i64 k ∧ l'.length = n ∧ AlikeTo l' l k ∧ RawO wr w.heap.size (some ⟨w.heap.size, 0, none⟩) n l' ∧ Below w.heap.size w wr) (fun i _ => n - (intOf i).toNat)
  case atStart => exact ⟨0, List.replicate n noRI, by omega, rfl, by simp, fun j hj => by omega, RawO.blank (by rw [Rcells_replicate]; exact hown), (Below.refl _ _).grown hgr (Nat.le_refl _) (fun _ h => by cases h)⟩
  case round =>
    clear hown hgr
    obtain ⟨k, l', hk, rfl, hl', hA, hraw, hb⟩ := hrel
    by_cases hlt : k < n
    · obtain ⟨b, off, rfl, hb1, hc0, hc1⟩ := hR.at2 (k := k) (by omega)
      have hc0' := (hb.cell (p := ⟨b, off + k * 2, none⟩) hb1).trans hc0
      have hc1' := (hb.cell (p := ⟨b, off + k * 2 + 1, none⟩) hb1).trans hc1
      have hmem := ri_mem (l := l) (k := k) (by omega)
      have hws := (hR.ws _ hmem).below hb |>.more (B' := wr.drew.heap.size) hb.size
      have hle := hR.len _ hmem
      have hop := hR.op _ hmem
      have hcut : Reads wr.drew wr.drew.heap.size 1 (ri l k).2.1 (ri l k).1.2.length (Ints .u32 (ri l k).1.2) := hws.drew
      have hrow := hraw.row
      rw [hl'] at hrow
      have hglt : w.heap.size < wr.drew.heap.size := (hraw.row.lt w.heap.size (by simp [Value.ownBlock])).2
      obtain ⟨y0, y1⟩ := Rcells_at (l := l') (k := k) (by omega)
      have hne : b ≠ w.heap.size := by omega
      obtain ⟨m, hm⟩ : ∃ m, (ri l k).1.2.length = m := ⟨_, rfl⟩
      rw [hm] at hc1' hcut hle
      clear hc0 hc1 hws
      go_wp2_with fail
      go_region_held3 (fun w' => w'.cell? ⟨b, off + k * 2, none⟩ = some (.int .u16 (ri l k).1.1) ∧ w'.cell? ⟨b, off + k * 2 + 1, none⟩ = some (.slice (ri l k).2.1 m (ri l k).2.2) ∧ Below w.heap.size w w') (first | exact ⟨hc0', hc1', hb.drew⟩ | (go_split_ands; exact ⟨by assumption, by assumption, by assumption⟩) | (go_split_ands; exact ⟨cell_cut (by assumption) (by assumption) hbq (Nat.le_refl _) hb1, cell_cut (by assumption) (by assumption) hbq (Nat.le_refl _) hb1, below_cut (by assumption) hbq (Nat.le_refl _)⟩) | (go_split_ands; exact ⟨cell_puts (by assumption) hne, cell_puts (by assumption) hne, below_puts (by assumption) (Nat.le_refl _)⟩)) ((first | (go_at_call 11; refine (copyWords _ _ _ _ _ hle hcut).mono ?_; rintro e w' ⟨gq, rfl, ho, hbq⟩; obtain ⟨t0, t1, t2, t3⟩ := own_stores (own_below (w := wr.drew) (own_drewN hrow 1) hbq) y0 y1 (by omega); dsimp only)))
      have hraw' := (hraw.drewN 1).below hbq
      have hxsl : RI.sl ((ri l k).1, some ⟨gq, 0, none⟩, m) = .slice (some ⟨gq, 0, none⟩) m m := by simp [RI.sl, hm]
      have hput := RawO.put hraw' (k := k) (by omega) ((ri l k).1, some ⟨gq, 0, none⟩, m) (by rw [hxsl]; simp only [hm]; exact own_base ho (Nat.le_of_lt hglt)) (fun j hj b hb hb2 => by
        have h1 := ((hraw.ws _ (ri_mem hj)).lt b hb).2
        rw [hxsl] at hb2
        have h2 := (ho.lt b hb2).1
        rw [World.size_drew] at h2
        omega) (by simp only [hm]; exact hle) hop
      rw [hxsl] at hput
      have hb3 := below_cut hb.drew hbq (Nat.le_refl _)
      clear t0 t1 t2 t3
      go_wp2
      go_roundw
      case rel =>
        refine ⟨k + 1, _, by omega, by go_num, by rw [List.length_set]; exact hl', fun j hj => ?_, hput, below_puts hb3 (Nat.le_refl _)⟩
        rcases Nat.lt_or_ge j k with h | h
        · rw [ri_set_other (by omega)]; exact hA j h
        · obtain rfl : j = k := by omega
          rw [ri_set_same (by omega)]
      case measure => simp [intOf]; omega
    · obtain rfl : k = n := by omega
      go_wp2
      go_ret
      exact ⟨_, l', rfl, AlikeTo.all (by omega) (by rw [hl']; exact hA), hraw, hb⟩
end Go.Proofs.Ytppkjejdkogfpaa
