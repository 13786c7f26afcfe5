/- Walks: the document's canvas made. -/
import Derived.Test.YtfciaefjilobaaaSame
import Derived.Laws.ResultCell
namespace Go.Proofs.Ytfciaefjilobaaa
open Go.RowKit

theorem results_tct {fn : Func} {a p u : Tmp} {ty : TypeId} (h : fn.results = #[.tmp a, .cell p ty, .tmp u]) (tmps : Array Value) (P : Program) (w : World) :
    (results fn tmps).run P w =
      ((asAddr (tmps.getD p undef)).run P w).andThen fun ad w₁ => ((loadVar ty ad).run P w₁).andThen fun v w₂ => .ok (.tuple #[tmps.getD a undef, v, tmps.getD u undef]) w₂ := by
  simp only [results, h]
  simp [Sem.run_bind, Result.andThen]

/-! four cells stored, one after another -/
section
variable {w : World} {g : Nat} {t : TypeId} {c0 c1 c2 c3 : Value}
def set4 (w : World) (g : Nat) (v0 v1 v2 v3 : Value) : World := (((w.setCell ⟨g, 0, none⟩ v0).setCell ⟨g, 1, none⟩ v1).setCell ⟨g, 2, none⟩ v2).setCell ⟨g, 3, none⟩ v3
theorem Blk.put1 (h : Blk w g t #[c0, c1, c2, c3]) (v0 : Value) : Blk (w.setCell ⟨g, 0, none⟩ v0) g t #[v0, c1, c2, c3] := by simpa using h.set_ 0 v0
theorem Blk.put2 (h : Blk w g t #[c0, c1, c2, c3]) (v0 v1 : Value) : Blk ((w.setCell ⟨g, 0, none⟩ v0).setCell ⟨g, 1, none⟩ v1) g t #[v0, v1, c2, c3] := by simpa using (h.put1 v0).set_ 1 v1
theorem Blk.put3 (h : Blk w g t #[c0, c1, c2, c3]) (v0 v1 v2 : Value) : Blk (((w.setCell ⟨g, 0, none⟩ v0).setCell ⟨g, 1, none⟩ v1).setCell ⟨g, 2, none⟩ v2) g t #[v0, v1, v2, c3] := by simpa using (h.put2 v0 v1).set_ 2 v2
theorem Blk.put4 (h : Blk w g t #[c0, c1, c2, c3]) (v0 v1 v2 v3 : Value) : Blk ((((w.setCell ⟨g, 0, none⟩ v0).setCell ⟨g, 1, none⟩ v1).setCell ⟨g, 2, none⟩ v2).setCell ⟨g, 3, none⟩ v3) g t #[v0, v1, v2, v3] := by simpa using (h.put3 v0 v1 v2).set_ 3 v3
theorem Blk.store4 (h : Blk w g t #[c0, c1, c2, c3]) : w.cell? ⟨g, 0, none⟩ = some c0 ∧ w.frozen? ⟨g, 0, none⟩ = false ∧
    (∀ v0, (w.setCell ⟨g, 0, none⟩ v0).cell? ⟨g, 1, none⟩ = some c1) ∧ (∀ v0, (w.setCell ⟨g, 0, none⟩ v0).frozen? ⟨g, 1, none⟩ = false) ∧
    (∀ v0 v1, ((w.setCell ⟨g, 0, none⟩ v0).setCell ⟨g, 1, none⟩ v1).cell? ⟨g, 2, none⟩ = some c2) ∧ (∀ v0 v1, ((w.setCell ⟨g, 0, none⟩ v0).setCell ⟨g, 1, none⟩ v1).frozen? ⟨g, 2, none⟩ = false) ∧
    (∀ v0 v1 v2, (((w.setCell ⟨g, 0, none⟩ v0).setCell ⟨g, 1, none⟩ v1).setCell ⟨g, 2, none⟩ v2).cell? ⟨g, 3, none⟩ = some c3) ∧ (∀ v0 v1 v2, (((w.setCell ⟨g, 0, none⟩ v0).setCell ⟨g, 1, none⟩ v1).setCell ⟨g, 2, none⟩ v2).frozen? ⟨g, 3, none⟩ = false) :=
  ⟨h.cell 0, h.frozen 0, fun v0 => (h.put1 v0).cell 1, fun v0 => (h.put1 v0).frozen 1, fun v0 v1 => (h.put2 v0 v1).cell 2, fun v0 v1 => (h.put2 v0 v1).frozen 2, fun v0 v1 v2 => (h.put3 v0 v1 v2).cell 3, fun v0 v1 v2 => (h.put3 v0 v1 v2).frozen 3⟩
theorem Blk.read4 (h : Blk w g t #[c0, c1, c2, c3]) : w.cell? ⟨g, 0, none⟩ = some c0 ∧ w.cell? ⟨g, 1, none⟩ = some c1 ∧ w.cell? ⟨g, 2, none⟩ = some c2 ∧ w.cell? ⟨g, 3, none⟩ = some c3 := ⟨h.cell 0, h.cell 1, h.cell 2, h.cell 3⟩
theorem Blk.read3 (h : Blk w g t #[c0, c1, c2]) : w.cell? ⟨g, 0, none⟩ = some c0 ∧ w.cell? ⟨g, 1, none⟩ = some c1 ∧ w.cell? ⟨g, 2, none⟩ = some c2 := ⟨h.cell 0, h.cell 1, h.cell 2⟩
theorem off_put4 (w : World) (g : Nat) (v0 v1 v2 v3 : Value) : Off (fun k => k = g) w ((((w.setCell ⟨g, 0, none⟩ v0).setCell ⟨g, 1, none⟩ v1).setCell ⟨g, 2, none⟩ v2).setCell ⟨g, 3, none⟩ v3) :=
  ((((Off.refl (fun k => k = g) w).set_ (p := ⟨g, 0, none⟩) (.inl rfl) _).set_ (p := ⟨g, 1, none⟩) (.inl rfl) _).set_ (p := ⟨g, 2, none⟩) (.inl rfl) _).set_ (p := ⟨g, 3, none⟩) (.inl rfl) _
end

theorem rnew_bad (W H back : Int) (hbad : newE W H ≠ 0) (w : World) :
    Calls Try.prog 28 #[.int .i64 W, .int .i64 H, .int .u32 back] w fun e w' => e = .returned (.tuple #[.agg #[.int .i64 0, .int .i64 0, .int .u32 0, .slice none 0 0], .int .i64 (newE W H)]) ∧ Below w.heap.size w w' := by
  have hb := fun cs => (Below.refl w.heap.size w).alloc (Nat.le_refl _) (.cells cs 31)
  have key : (decide (W < 1) = true ∧ newE W H = 2) ∨ (decide (W < 1) = false ∧ decide (H < 1) = true ∧ newE W H = 2) ∨ (decide (W < 1) = false ∧ decide (H < 1) = false ∧ decide (1024 < W) = true ∧ newE W H = 4) ∨
      (decide (W < 1) = false ∧ decide (H < 1) = false ∧ decide (1024 < W) = false ∧ decide (1024 < H) = true ∧ newE W H = 4) := by
    unfold newE at *
    rcases Int.lt_or_le W 1 with h1 | h1 <;> rcases Int.lt_or_le H 1 with h2 | h2 <;> rcases Int.lt_or_le 1024 W with h3 | h3 <;> rcases Int.lt_or_le 1024 H with h4 | h4 <;>
      simp [h1, h2, h3, h4, Int.not_lt.2 h1, Int.not_lt.2 h2, Int.not_lt.2 h3, Int.not_lt.2 h4] at hbad ⊢ <;> omega
  rcases key with ⟨h0, e⟩ | ⟨h0, h1, e⟩ | ⟨h0, h1, h2, e⟩ | ⟨h0, h1, h2, h3, e⟩ <;> rw [e]
  · go_enter Try.func28, Try.ntmps28
    go_wp2
    (try simp only [Exit.inBlock, Exit.then])
    refine bodyPost_ret (v := .tuple #[.agg #[.int .i64 0, .int .i64 0, .int .u32 0, .slice none 0 0], .int .i64 2]) (by rw [results_cell_tmp rfl]; go_simp) rfl ?_
    exact ⟨rfl, hb _⟩
  · go_enter Try.func28, Try.ntmps28
    go_wp2
    (try simp only [Exit.inBlock, Exit.then])
    refine bodyPost_ret (v := .tuple #[.agg #[.int .i64 0, .int .i64 0, .int .u32 0, .slice none 0 0], .int .i64 2]) (by rw [results_cell_tmp rfl]; go_simp) rfl ?_
    exact ⟨rfl, hb _⟩
  · go_enter Try.func28, Try.ntmps28
    go_wp2
    (try simp only [Exit.inBlock, Exit.then])
    refine bodyPost_ret (v := .tuple #[.agg #[.int .i64 0, .int .i64 0, .int .u32 0, .slice none 0 0], .int .i64 4]) (by rw [results_cell_tmp rfl]; go_simp) rfl ?_
    exact ⟨rfl, hb _⟩
  · go_enter Try.func28, Try.ntmps28
    go_wp2
    (try simp only [Exit.inBlock, Exit.then])
    refine bodyPost_ret (v := .tuple #[.agg #[.int .i64 0, .int .i64 0, .int .u32 0, .slice none 0 0], .int .i64 4]) (by rw [results_cell_tmp rfl]; go_simp) rfl ?_
    exact ⟨rfl, hb _⟩

set_option maxHeartbeats 1000000 in
theorem rnew_ok (W H : Nat) (back : Int) (hW : 1 ≤ W ∧ W ≤ 1024) (hH : 1 ≤ H ∧ H ≤ 1024) (hb : 0 ≤ back ∧ back < 4294967296) (w : World) :
    Calls Try.prog 28 #[.int .i64 W, .int .i64 H, .int .u32 back] w fun e w' => ∃ g, e = .returned (.tuple #[refV g (W * H) (W * H) W H back, .int .i64 0]) ∧
      RefS w' w.heap.size g (W * H) (W * H) W H back (List.replicate (W * H) noPix) ∧ Below w.heap.size w w' := by
  have hsz : Sized (W * H) W H back (List.replicate (W * H) noPix) := ⟨rfl, hW.1, hW.2, hH.1, hH.2, hb.1, hb.2, by simp, okPixs.none_ _⟩
  have hle := hsz.le
  have hm : (W : Int) * (H : Int) = ((W * H : Nat) : Int) := by rw [Int.natCast_mul]
  generalize W * H = n at hsz hle hm ⊢
  have h0 : decide ((W : Int) < 1) = false := by simp; omega
  have h1 : decide ((H : Int) < 1) = false := by simp; omega
  have h2 : decide ((1024 : Int) < (W : Int)) = false := by simp; omega
  have h3 : decide ((1024 : Int) < (H : Int)) = false := by simp; omega
  unfold refV
  go_enter Try.func28, Try.ntmps28
  go_wp2_with (at_make; refine mk_wide slRpx _ rfl _ _ rfl w.heap.size n rfl rfl (by simp [*]) (by simp [*]) (by omega) (by omega) (by simp) ?_; intro w1 hown hgr; rw [show (Value.agg #[.bool false, .int .i32 0, .int .u32 0]).cells = #[.bool false, .int .i32 0, .int .u32 0] from rfl, ← Pixs_replicate] at hown; have kb := (Blk.new w 31 #[.int .i64 0, .int .i64 0, .int .u32 0, .slice none 0 0]).grown hgr (by simp); have p0 := kb.cell 0; have f0 := kb.frozen 0; have p1 := fun v0 => (kb.put1 v0).cell 1; have f1 := fun v0 => (kb.put1 v0).frozen 1; have p2 := fun v0 v1 => (kb.put2 v0 v1).cell 2; have f2 := fun v0 v1 => (kb.put2 v0 v1).frozen 2; have p3 := fun v0 v1 v2 => (kb.put3 v0 v1 v2).cell 3; have f3 := fun v0 v1 v2 => (kb.put3 v0 v1 v2).frozen 3; simp at p0 p1 p2 p3)
  have k4 := fun v0 v1 v2 v3 => kb.put4 v0 v1 v2 v3
  have r0 := fun v0 v1 v2 v3 => (k4 v0 v1 v2 v3).cell 0
  have r1 := fun v0 v1 v2 v3 => (k4 v0 v1 v2 v3).cell 1
  have r2 := fun v0 v1 v2 v3 => (k4 v0 v1 v2 v3).cell 2
  have r3 := fun v0 v1 v2 v3 => (k4 v0 v1 v2 v3).cell 3
  simp at r0 r1 r2 r3
  (try simp only [Exit.inBlock, Exit.then])
  refine bodyPost_ret (v := .tuple #[.agg #[.int .i64 W, .int .i64 H, .int .u32 back, .slice (some ⟨w.heap.size + 1, 0, none⟩) n n], .int .i64 0]) (by rw [results_cell_tmp rfl]; go_simp) rfl ?_
  have hown' : w1.ownsRow w.heap.size 39 3 (.slice (some ⟨w.heap.size + 1, 0, none⟩) n n) n (Pixs (List.replicate n noPix)) := by simpa using hown
  have hlt := kb.lt
  have hb1 := ((Below.refl w.heap.size w).alloc (Nat.le_refl _) (.cells #[.int .i64 0, .int .i64 0, .int .u32 0, .slice none 0 0] 31)).grown hgr (by simp) (fun _ h => by cases h)
  have ho := off_put4 w1 w.heap.size (.int .i64 W) (.int .i64 H) (.int .u32 back) (.slice (some ⟨w.heap.size + 1, 0, none⟩) n n)
  refine ⟨_, rfl, ⟨own_off hown' ho (fun k hk => by simp [Value.ownBlock] at hk; omega), hsz⟩, hb1.trans (ho.to_below w.heap.size (by omega) (fun k _ hk => by omega))⟩
end Go.Proofs.Ytfciaefjilobaaa
