/- Walks: a head, taken from a reader (printed by wip/tools/genhead.py). -/
import Derived.Test.YtppkjejdkogfpaaWordf
import Derived.Test.YtppkjejdkogfpaaNext
namespace Go.Proofs.Ytppkjejdkogfpaa
open Go.RowKit

/-- what a head is read as -/
def HeadIs (B : Nat) (l : List Int) (w : World) (e : Ending) (w' : World) : Prop := Below B w w' ∧
  ((HeadTo l 5 ∧ e = .returned (.tuple #[.agg #[.int .u32 (ix l 2), .int .u32 (ix l 3)], .agg #[.int .i64 0, .int .i64 0]])) ∨
   (∃ (k : Nat) (er : Int), HeadBad l k er ∧ e = .returned (.tuple #[.agg #[.int .u32 0, .int .u32 0], .agg #[.int .i64 er, .int .i64 k]])))
theorem HeadIs.bad {B : Nat} {l : List Int} {w w' : World} {k : Nat} {er : Int} (hb : Below B w w') (h : HeadBad l k er) : HeadIs B l w (.returned (.tuple #[.agg #[.int .u32 0, .int .u32 0], .agg #[.int .i64 er, .int .i64 k]])) w' := ⟨hb, .inr ⟨k, er, h, rfl⟩⟩
theorem turned_magic (w : World) : Calls Try.prog 39 #[.int .u32 119734787] w fun e w' => e = .returned (.int .u32 50471687) ∧ w = w' := by
  go_enter Try.func39, Try.ntmps39
  go_wp2
  go_ret
  exact ⟨rfl, rfl⟩
theorem results_cc {fn : Func} {p q : Tmp} {ty ty' : TypeId} (h : fn.results = #[.cell p ty, .cell q ty']) (tmps : Array Value) (P : Program) (w : World) :
    (results fn tmps).run P w = ((asAddr (tmps.getD p undef)).run P w).andThen fun ad w₁ => ((loadVar ty ad).run P w₁).andThen fun v w₂ => ((asAddr (tmps.getD q undef)).run P w₂).andThen fun ad' w₃ => ((loadVar ty' ad').run P w₃).andThen fun v' w₄ => .ok (.tuple #[v, v']) w₄ := by
  simp only [results, h]
  simp [Sem.run_bind, Result.andThen]
theorem Blk.two2 {w : World} {g : Nat} {t : TypeId} {c0 c1 : Value} (h : Blk w g t #[c0, c1]) (v : Value) : Blk (w.setCell ⟨g, 1, none⟩ v) g t #[c0, v] := by simpa using h.set_ 1 v
theorem Rdr.set_blk {w : World} {base g : Nat} {A : Option Addr} {n c : Nat} {l : List Int} {p : Nat} (h : Rdr w base g A n c l p) {q : Addr} {t : TypeId} {cs : Array Value} (k : Blk w q.block t cs) (ht : 23 ≠ t) (hg : g ≠ q.block) (u : Value) : Rdr (w.setCell q u) base g A n c l p :=
  ⟨h.blk.far hg u, own_set_other h.row (own_blk_ne h.row k ht) u, h.low, h.le⟩
/-- two blocks of two cells, stored one after the other -/
theorem Blk.store22 {w : World} {g g' : Nat} {t t' : TypeId} {a0 a1 c0 c1 : Value} (h : Blk w g t #[a0, a1]) (h' : Blk w g' t' #[c0, c1]) (hne : g ≠ g') :
    (∀ v0 v1, ((w.setCell ⟨g, 0, none⟩ v0).setCell ⟨g, 1, none⟩ v1).cell? ⟨g', 0, none⟩ = some c0) ∧ (∀ v0 v1, ((w.setCell ⟨g, 0, none⟩ v0).setCell ⟨g, 1, none⟩ v1).frozen? ⟨g', 0, none⟩ = false) ∧
    (∀ v0 v1 u0, (((w.setCell ⟨g, 0, none⟩ v0).setCell ⟨g, 1, none⟩ v1).setCell ⟨g', 0, none⟩ u0).cell? ⟨g', 1, none⟩ = some c1) ∧ (∀ v0 v1 u0, (((w.setCell ⟨g, 0, none⟩ v0).setCell ⟨g, 1, none⟩ v1).setCell ⟨g', 0, none⟩ u0).frozen? ⟨g', 1, none⟩ = false) ∧
    (∀ v0 v1 u0 u1, ((((w.setCell ⟨g, 0, none⟩ v0).setCell ⟨g, 1, none⟩ v1).setCell ⟨g', 0, none⟩ u0).setCell ⟨g', 1, none⟩ u1).cell? ⟨g, 0, none⟩ = some v0) ∧
    (∀ v0 v1 u0 u1, ((((w.setCell ⟨g, 0, none⟩ v0).setCell ⟨g, 1, none⟩ v1).setCell ⟨g', 0, none⟩ u0).setCell ⟨g', 1, none⟩ u1).cell? ⟨g, 1, none⟩ = some v1) ∧
    (∀ v0 v1 u0 u1, ((((w.setCell ⟨g, 0, none⟩ v0).setCell ⟨g, 1, none⟩ v1).setCell ⟨g', 0, none⟩ u0).setCell ⟨g', 1, none⟩ u1).cell? ⟨g', 0, none⟩ = some u0) ∧
    (∀ v0 v1 u0 u1, ((((w.setCell ⟨g, 0, none⟩ v0).setCell ⟨g, 1, none⟩ v1).setCell ⟨g', 0, none⟩ u0).setCell ⟨g', 1, none⟩ u1).cell? ⟨g', 1, none⟩ = some u1) := by
  have k := fun v0 v1 => (h'.far (p := ⟨g, 0, none⟩) (fun e => hne e.symm) v0).far (p := ⟨g, 1, none⟩) (fun e => hne e.symm) v1
  have k2 := fun v0 v1 u0 u1 => ((h.put2 v0 v1).far (p := ⟨g', 0, none⟩) hne u0).far (p := ⟨g', 1, none⟩) hne u1
  exact ⟨fun v0 v1 => (k v0 v1).store2.1, fun v0 v1 => (k v0 v1).store2.2.1, fun v0 v1 => (k v0 v1).store2.2.2.1, fun v0 v1 => (k v0 v1).store2.2.2.2.1, fun v0 v1 u0 u1 => (k2 v0 v1 u0 u1).cell 0, fun v0 v1 u0 u1 => (k2 v0 v1 u0 u1).cell 1, fun v0 v1 => (k v0 v1).store2.2.2.2.2.1, fun v0 v1 => (k v0 v1).store2.2.2.2.2.2⟩

set_option maxRecDepth 20000 in
set_option maxHeartbeats 4000000 in
theorem head_is (w : World) {base g : Nat} {A : Option Addr} {n c : Nat} {l : List Int} (B : Nat) (hn : n ≤ 35184372087808) (hu : Under 4294967296 l) (h : Rdr w base g A n c l 0) (hB : B ≤ g) :
    Calls Try.prog 31 #[.pointer (some ⟨g, 0, none⟩)] w (HeadIs B l w) := by
  have hlen := own_len h.row
  have hglt := h.lt
  have kz := ((Blk.new w 25 #[.int .u32 0, .int .u32 0]).alloc (.cells #[.int .i64 0, .int .i64 0] 29)).alloc (.cells #[.int .u32 0, .int .u32 0] 25)
  have ks := (Blk.new (w.alloc (.cells #[.int .u32 0, .int .u32 0] 25)) 29 #[.int .i64 0, .int .i64 0]).alloc (.cells #[.int .u32 0, .int .u32 0] 25)
  have kh := Blk.new ((w.alloc (.cells #[.int .u32 0, .int .u32 0] 25)).alloc (.cells #[.int .i64 0, .int .i64 0] 29)) 25 #[.int .u32 0, .int .u32 0]
  have hr0 := ((h.alloc (.cells #[.int .u32 0, .int .u32 0] 25)).alloc (.cells #[.int .i64 0, .int .i64 0] 29)).alloc (.cells #[.int .u32 0, .int .u32 0] 25)
  have hb0 := (((Below.refl B w).alloc (by omega) (.cells #[.int .u32 0, .int .u32 0] 25)).alloc (by simp; omega) (.cells #[.int .i64 0, .int .i64 0] 29)).alloc (by simp; omega) (.cells #[.int .u32 0, .int .u32 0] 25)
  simp only [World.size_alloc] at ks kh
  go_enter Try.func31, Try.ntmps31
  go_wp2_with fail
  generalize ((w.alloc (.cells #[.int .u32 0, .int .u32 0] 25)).alloc (.cells #[.int .i64 0, .int .i64 0] 29)).alloc (.cells #[.int .u32 0, .int .u32 0] 25) = w3 at *
  generalize hb2 : w.heap.size = b2 at *
  go_loopw [8] (fun i wr => ∃ (k : Nat) (gv bv : Int), k ≤ 5 ∧ i = .int .i64 k ∧ HeadTo l k ∧ Rdr wr base g A n c l k ∧ Blk wr (b2 + 1 + 1) 25 #[.int .u32 gv, .int .u32 bv] ∧ (2 < k → gv = ix l 2) ∧ (3 < k → bv = ix l 3) ∧ Blk wr b2 25 #[.int .u32 0, .int .u32 0] ∧ Blk wr (b2 + 1) 29 #[.int .i64 0, .int .i64 0] ∧ Below B w wr) (fun i _ => 5 - (intOf i).toNat)
  case atStart => exact ⟨0, 0, 0, by omega, rfl, HeadTo.zero l, hr0, kh, fun h => by omega, fun h => by omega, kz, ks, hb0⟩
  case round =>
    obtain ⟨k, gv, bv, hk, rfl, hH, hR, k4, hgv, hbv, k2, k3, hb⟩ := hrel
    have hBsz : B ≤ wr.heap.size := by have := hR.lt; omega
    obtain rfl | hk5 : k = 5 ∨ k < 5 := by omega
    · obtain rfl := hgv (by omega)
      obtain rfl := hbv (by omega)
      obtain ⟨c40, c41⟩ := k4.read2
      obtain ⟨s0, s1, s2, s3, _, _⟩ := k2.store2
      obtain ⟨z0, z1, z2, z3, z4, z5, z6, z7⟩ := k2.store22 k3 (by omega)
      go_wp2_with fail
      (try simp only [Exit.inBlock, Exit.then])
      refine bodyPost_ret (v := .tuple #[.agg #[.int .u32 (ix l 2), .int .u32 (ix l 3)], .agg #[.int .i64 0, .int .i64 0]]) (by rw [results_cc rfl]; go_simp) rfl ?_
      exact ⟨below_put2 (below_put2 hb (by omega)) (by omega), .inl ⟨hH, rfl⟩⟩
    · rcases Nat.lt_or_ge k n with hkn | hkn
      · have hx := hu.ix (by decide) k
        obtain rfl | rfl | rfl | rfl | rfl : k = 0 ∨ k = 1 ∨ k = 2 ∨ k = 3 ∨ k = 4 := by omega
        · by_cases h1 : ix l 0 = 50471687
          · have f1 : (ix l 0 == 50471687) = true := by simp [h1]
            go_wp2_with fail
            refine (word_ok wr hn hR hkn).mono ?_
            rintro e w' ⟨rfl, hR', hg'⟩
            have k2' := k2.grown hg' (by simp; omega)
            have k3' := k3.grown hg' (by simp; omega)
            have k4' := k4.grown hg' (by simp; omega)
            have hb' := hb.grown hg' (by omega) (fun k e => by cases e; exact hB)
            obtain ⟨s0, s1, s2, s3, _, _⟩ := k2'.store2
            obtain ⟨z0, z1, z2, z3, z4, z5, z6, z7⟩ := k2'.store22 k3' (by omega)
            obtain ⟨q0, q1⟩ := k4'.read2
            have q2 := k4'.frozen 0
            have q3 := k4'.frozen 1
            go_wp2_with (go_at_call 39; refine (turned_magic _).mono ?_; rintro e w2 ⟨rfl, rfl⟩)
            (try simp only [Exit.inBlock, Exit.then])
            refine bodyPost_ret (v := .tuple #[.agg #[.int .u32 0, .int .u32 0], .agg #[.int .i64 21, .int .i64 0]]) (by rw [results_cc rfl]; go_simp) rfl ?_
            exact HeadIs.bad (k := 0) (below_put2 (below_put2 hb' (by omega)) (by omega)) ⟨by omega, hH, .inr ⟨by omega, (by simp [wrongW, h1]), by decide⟩⟩
          · by_cases h2 : ix l 0 = 119734787
            · have f1 : (ix l 0 == 50471687) = false := by simp [h1]
              have f2 : (ix l 0 != 119734787) = false := by simp [h2]
              go_wp2_with fail
              refine (word_ok wr hn hR hkn).mono ?_
              rintro e w' ⟨rfl, hR', hg'⟩
              have k2' := k2.grown hg' (by simp; omega)
              have k3' := k3.grown hg' (by simp; omega)
              have k4' := k4.grown hg' (by simp; omega)
              have hb' := hb.grown hg' (by omega) (fun k e => by cases e; exact hB)
              obtain ⟨s0, s1, s2, s3, _, _⟩ := k2'.store2
              obtain ⟨z0, z1, z2, z3, z4, z5, z6, z7⟩ := k2'.store22 k3' (by omega)
              obtain ⟨q0, q1⟩ := k4'.read2
              have q2 := k4'.frozen 0
              have q3 := k4'.frozen 1
              go_wp2_with (go_at_call 39; refine (turned_magic _).mono ?_; rintro e w2 ⟨rfl, rfl⟩)
              go_roundw
              case rel => exact ⟨1, _, _, by omega, rfl, hH.succ (by omega) (by simp [wrongW, h2]), hR', k4', fun h => by omega, fun h => by omega, k2', k3', hb'⟩
              case measure => simp [intOf]
            · have f1 : (ix l 0 == 50471687) = false := by simp [h1]
              have f2 : (ix l 0 != 119734787) = true := by simp [h2]
              go_wp2_with fail
              refine (word_ok wr hn hR hkn).mono ?_
              rintro e w' ⟨rfl, hR', hg'⟩
              have k2' := k2.grown hg' (by simp; omega)
              have k3' := k3.grown hg' (by simp; omega)
              have k4' := k4.grown hg' (by simp; omega)
              have hb' := hb.grown hg' (by omega) (fun k e => by cases e; exact hB)
              obtain ⟨s0, s1, s2, s3, _, _⟩ := k2'.store2
              obtain ⟨z0, z1, z2, z3, z4, z5, z6, z7⟩ := k2'.store22 k3' (by omega)
              obtain ⟨q0, q1⟩ := k4'.read2
              have q2 := k4'.frozen 0
              have q3 := k4'.frozen 1
              go_wp2_with (go_at_call 39; refine (turned_magic _).mono ?_; rintro e w2 ⟨rfl, rfl⟩)
              (try simp only [Exit.inBlock, Exit.then])
              refine bodyPost_ret (v := .tuple #[.agg #[.int .u32 0, .int .u32 0], .agg #[.int .i64 20, .int .i64 0]]) (by rw [results_cc rfl]; go_simp) rfl ?_
              exact HeadIs.bad (k := 0) (below_put2 (below_put2 hb' (by omega)) (by omega)) ⟨by omega, hH, .inr ⟨by omega, (by simp [wrongW, h1, h2]), by decide⟩⟩
        · by_cases h1 : ix l 1 = 65536
          · have f1 : (ix l 1 != 65536) = false := by simp [h1]
            go_wp2_with fail
            refine (word_ok wr hn hR hkn).mono ?_
            rintro e w' ⟨rfl, hR', hg'⟩
            have k2' := k2.grown hg' (by simp; omega)
            have k3' := k3.grown hg' (by simp; omega)
            have k4' := k4.grown hg' (by simp; omega)
            have hb' := hb.grown hg' (by omega) (fun k e => by cases e; exact hB)
            obtain ⟨s0, s1, s2, s3, _, _⟩ := k2'.store2
            obtain ⟨z0, z1, z2, z3, z4, z5, z6, z7⟩ := k2'.store22 k3' (by omega)
            obtain ⟨q0, q1⟩ := k4'.read2
            have q2 := k4'.frozen 0
            have q3 := k4'.frozen 1
            go_wp2_with (go_at_call 39; refine (turned_magic _).mono ?_; rintro e w2 ⟨rfl, rfl⟩)
            go_roundw
            case rel => exact ⟨2, _, _, by omega, rfl, hH.succ (by omega) (by simp [wrongW, h1]), hR', k4', fun h => by omega, fun h => by omega, k2', k3', hb'⟩
            case measure => simp [intOf]
          · have f1 : (ix l 1 != 65536) = true := by simp [h1]
            go_wp2_with fail
            refine (word_ok wr hn hR hkn).mono ?_
            rintro e w' ⟨rfl, hR', hg'⟩
            have k2' := k2.grown hg' (by simp; omega)
            have k3' := k3.grown hg' (by simp; omega)
            have k4' := k4.grown hg' (by simp; omega)
            have hb' := hb.grown hg' (by omega) (fun k e => by cases e; exact hB)
            obtain ⟨s0, s1, s2, s3, _, _⟩ := k2'.store2
            obtain ⟨z0, z1, z2, z3, z4, z5, z6, z7⟩ := k2'.store22 k3' (by omega)
            obtain ⟨q0, q1⟩ := k4'.read2
            have q2 := k4'.frozen 0
            have q3 := k4'.frozen 1
            go_wp2_with (go_at_call 39; refine (turned_magic _).mono ?_; rintro e w2 ⟨rfl, rfl⟩)
            (try simp only [Exit.inBlock, Exit.then])
            refine bodyPost_ret (v := .tuple #[.agg #[.int .u32 0, .int .u32 0], .agg #[.int .i64 22, .int .i64 1]]) (by rw [results_cc rfl]; go_simp) rfl ?_
            exact HeadIs.bad (k := 1) (below_put2 (below_put2 hb' (by omega)) (by omega)) ⟨by omega, hH, .inr ⟨by omega, (by simp [wrongW, h1]), by decide⟩⟩
        · go_wp2_with fail
          refine (word_ok wr hn hR hkn).mono ?_
          rintro e w' ⟨rfl, hR', hg'⟩
          have k2' := k2.grown hg' (by simp; omega)
          have k3' := k3.grown hg' (by simp; omega)
          have k4' := k4.grown hg' (by simp; omega)
          have hb' := hb.grown hg' (by omega) (fun k e => by cases e; exact hB)
          obtain ⟨s0, s1, s2, s3, _, _⟩ := k2'.store2
          obtain ⟨z0, z1, z2, z3, z4, z5, z6, z7⟩ := k2'.store22 k3' (by omega)
          obtain ⟨q0, q1⟩ := k4'.read2
          have q2 := k4'.frozen 0
          have q3 := k4'.frozen 1
          go_wp2_with (go_at_call 39; refine (turned_magic _).mono ?_; rintro e w2 ⟨rfl, rfl⟩)
          go_roundw
          case rel => exact ⟨3, ix l 2, _, by omega, rfl, hH.succ (by omega) (by simp [wrongW, ]), (hR'.set_blk (q := ⟨b2 + 1 + 1, 0, none⟩) k4' (by decide) (by simp; omega) _), (k4'.one2 _), fun h => rfl, fun h => by omega, (k2'.far (p := ⟨b2 + 1 + 1, 0, none⟩) (by simp; omega) _), (k3'.far (p := ⟨b2 + 1 + 1, 0, none⟩) (by simp) _), (hb'.setCell (p := ⟨b2 + 1 + 1, 0, none⟩) (by simp; omega) _)⟩
          case measure => simp [intOf]
        · by_cases h1 : ix l 3 = 0
          · have f1 : (ix l 3 == 0) = true := by simp [h1]
            go_wp2_with fail
            refine (word_ok wr hn hR hkn).mono ?_
            rintro e w' ⟨rfl, hR', hg'⟩
            have k2' := k2.grown hg' (by simp; omega)
            have k3' := k3.grown hg' (by simp; omega)
            have k4' := k4.grown hg' (by simp; omega)
            have hb' := hb.grown hg' (by omega) (fun k e => by cases e; exact hB)
            obtain ⟨s0, s1, s2, s3, _, _⟩ := k2'.store2
            obtain ⟨z0, z1, z2, z3, z4, z5, z6, z7⟩ := k2'.store22 k3' (by omega)
            obtain ⟨q0, q1⟩ := k4'.read2
            have q2 := k4'.frozen 0
            have q3 := k4'.frozen 1
            go_wp2_with (go_at_call 39; refine (turned_magic _).mono ?_; rintro e w2 ⟨rfl, rfl⟩)
            (try simp only [Exit.inBlock, Exit.then])
            refine bodyPost_ret (v := .tuple #[.agg #[.int .u32 0, .int .u32 0], .agg #[.int .i64 24, .int .i64 3]]) (by rw [results_cc rfl]; go_simp) rfl ?_
            exact HeadIs.bad (k := 3) (below_put2 (below_put2 hb' (by omega)) (by omega)) ⟨by omega, hH, .inr ⟨by omega, (by simp [wrongW, h1]), by decide⟩⟩
          · have f1 : (ix l 3 == 0) = false := by simp [h1]
            by_cases h2 : 65536 < ix l 3
            · have f2 : decide (65536 < ix l 3) = true := by simp [h2]
              go_wp2_with fail
              refine (word_ok wr hn hR hkn).mono ?_
              rintro e w' ⟨rfl, hR', hg'⟩
              have k2' := k2.grown hg' (by simp; omega)
              have k3' := k3.grown hg' (by simp; omega)
              have k4' := k4.grown hg' (by simp; omega)
              have hb' := hb.grown hg' (by omega) (fun k e => by cases e; exact hB)
              obtain ⟨s0, s1, s2, s3, _, _⟩ := k2'.store2
              obtain ⟨z0, z1, z2, z3, z4, z5, z6, z7⟩ := k2'.store22 k3' (by omega)
              obtain ⟨q0, q1⟩ := k4'.read2
              have q2 := k4'.frozen 0
              have q3 := k4'.frozen 1
              go_wp2_with (go_at_call 39; refine (turned_magic _).mono ?_; rintro e w2 ⟨rfl, rfl⟩)
              (try simp only [Exit.inBlock, Exit.then])
              refine bodyPost_ret (v := .tuple #[.agg #[.int .u32 0, .int .u32 0], .agg #[.int .i64 24, .int .i64 3]]) (by rw [results_cc rfl]; go_simp) rfl ?_
              exact HeadIs.bad (k := 3) (below_put2 (below_put2 hb' (by omega)) (by omega)) ⟨by omega, hH, .inr ⟨by omega, (by simp [wrongW, h1, h2]), by decide⟩⟩
            · have f2 : decide (65536 < ix l 3) = false := by simp [h2]
              go_wp2_with fail
              refine (word_ok wr hn hR hkn).mono ?_
              rintro e w' ⟨rfl, hR', hg'⟩
              have k2' := k2.grown hg' (by simp; omega)
              have k3' := k3.grown hg' (by simp; omega)
              have k4' := k4.grown hg' (by simp; omega)
              have hb' := hb.grown hg' (by omega) (fun k e => by cases e; exact hB)
              obtain ⟨s0, s1, s2, s3, _, _⟩ := k2'.store2
              obtain ⟨z0, z1, z2, z3, z4, z5, z6, z7⟩ := k2'.store22 k3' (by omega)
              obtain ⟨q0, q1⟩ := k4'.read2
              have q2 := k4'.frozen 0
              have q3 := k4'.frozen 1
              go_wp2_with (go_at_call 39; refine (turned_magic _).mono ?_; rintro e w2 ⟨rfl, rfl⟩)
              go_roundw
              case rel => exact ⟨4, _, ix l 3, by omega, rfl, hH.succ (by omega) (by simp [wrongW, h1, h2]), (hR'.set_blk (q := ⟨b2 + 1 + 1, 1, none⟩) k4' (by decide) (by simp; omega) _), (k4'.two2 _), fun h => hgv (by omega), fun h => rfl, (k2'.far (p := ⟨b2 + 1 + 1, 1, none⟩) (by simp; omega) _), (k3'.far (p := ⟨b2 + 1 + 1, 1, none⟩) (by simp) _), (hb'.setCell (p := ⟨b2 + 1 + 1, 1, none⟩) (by simp; omega) _)⟩
              case measure => simp [intOf]
        · by_cases h1 : ix l 4 = 0
          · have f1 : (ix l 4 != 0) = false := by simp [h1]
            go_wp2_with fail
            refine (word_ok wr hn hR hkn).mono ?_
            rintro e w' ⟨rfl, hR', hg'⟩
            have k2' := k2.grown hg' (by simp; omega)
            have k3' := k3.grown hg' (by simp; omega)
            have k4' := k4.grown hg' (by simp; omega)
            have hb' := hb.grown hg' (by omega) (fun k e => by cases e; exact hB)
            obtain ⟨s0, s1, s2, s3, _, _⟩ := k2'.store2
            obtain ⟨z0, z1, z2, z3, z4, z5, z6, z7⟩ := k2'.store22 k3' (by omega)
            obtain ⟨q0, q1⟩ := k4'.read2
            have q2 := k4'.frozen 0
            have q3 := k4'.frozen 1
            go_wp2_with (go_at_call 39; refine (turned_magic _).mono ?_; rintro e w2 ⟨rfl, rfl⟩)
            go_roundw
            case rel => exact ⟨5, _, _, by omega, rfl, hH.succ (by omega) (by simp [wrongW, h1]), hR', k4', fun h => hgv (by omega), fun h => hbv (by omega), k2', k3', hb'⟩
            case measure => simp [intOf]
          · have f1 : (ix l 4 != 0) = true := by simp [h1]
            go_wp2_with fail
            refine (word_ok wr hn hR hkn).mono ?_
            rintro e w' ⟨rfl, hR', hg'⟩
            have k2' := k2.grown hg' (by simp; omega)
            have k3' := k3.grown hg' (by simp; omega)
            have k4' := k4.grown hg' (by simp; omega)
            have hb' := hb.grown hg' (by omega) (fun k e => by cases e; exact hB)
            obtain ⟨s0, s1, s2, s3, _, _⟩ := k2'.store2
            obtain ⟨z0, z1, z2, z3, z4, z5, z6, z7⟩ := k2'.store22 k3' (by omega)
            obtain ⟨q0, q1⟩ := k4'.read2
            have q2 := k4'.frozen 0
            have q3 := k4'.frozen 1
            go_wp2_with (go_at_call 39; refine (turned_magic _).mono ?_; rintro e w2 ⟨rfl, rfl⟩)
            (try simp only [Exit.inBlock, Exit.then])
            refine bodyPost_ret (v := .tuple #[.agg #[.int .u32 0, .int .u32 0], .agg #[.int .i64 23, .int .i64 4]]) (by rw [results_cc rfl]; go_simp) rfl ?_
            exact HeadIs.bad (k := 4) (below_put2 (below_put2 hb' (by omega)) (by omega)) ⟨by omega, hH, .inr ⟨by omega, (by simp [wrongW, h1]), by decide⟩⟩
      · obtain ⟨s0, s1, s2, s3, _, _⟩ := k2.store2
        go_wp2_with fail
        refine (word_end wr hn hR hkn).mono ?_
        rintro e w' ⟨rfl, hbw⟩
        have k2' := k2.below hbw k2.lt
        have k3' := k3.below hbw k3.lt
        have hb' := below_cut hb hbw (by omega)
        obtain ⟨s0, s1, s2, s3, _, _⟩ := k2'.store2
        obtain ⟨z0, z1, z2, z3, z4, z5, z6, z7⟩ := k2'.store22 k3' (by omega)
        go_wp2_with fail
        (try simp only [Exit.inBlock, Exit.then])
        refine bodyPost_ret (v := .tuple #[.agg #[.int .u32 0, .int .u32 0], .agg #[.int .i64 14, .int .i64 k]]) (by rw [results_cc rfl]; go_simp) rfl ?_
        exact HeadIs.bad (below_put2 (below_put2 hb' (by omega)) (by omega)) ⟨by omega, hH, .inl ⟨by omega, rfl⟩⟩
end Go.Proofs.Ytppkjejdkogfpaa
