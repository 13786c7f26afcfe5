/- Walks: next: the instruction at a place. Two-cell blocks. -/
import Derived.Laws.ResultCell
import Derived.Test.YtppkjejdkogfpaaClone
import Derived.Test.YtppkjejdkogfpaaTail
import Derived.Test.YtppkjejdkogfpaaRaws
import Derived.Deep.RegionHeld3
namespace Go.Proofs.Ytppkjejdkogfpaa
open Go.RowKit

section
variable {w w' : World} {g : Nat} {t : TypeId} {c0 c1 : Value}
theorem Blk.read2 (h : Blk w g t #[c0, c1]) : w.cell? ⟨g, 0, none⟩ = some c0 ∧ w.cell? ⟨g, 1, none⟩ = some c1 := ⟨h.cell 0, h.cell 1⟩
theorem Blk.one2 (h : Blk w g t #[c0, c1]) (v0 : Value) : Blk (w.setCell ⟨g, 0, none⟩ v0) g t #[v0, c1] := by simpa using h.set_ 0 v0
theorem Blk.put2 (h : Blk w g t #[c0, c1]) (v0 v1 : Value) : Blk ((w.setCell ⟨g, 0, none⟩ v0).setCell ⟨g, 1, none⟩ v1) g t #[v0, v1] := by simpa using (h.one2 v0).set_ 1 v1
/-- what two stores into the block want, and what is read behind them -/
theorem Blk.store2 (h : Blk w g t #[c0, c1]) : w.cell? ⟨g, 0, none⟩ = some c0 ∧ w.frozen? ⟨g, 0, none⟩ = false ∧ (∀ v0, (w.setCell ⟨g, 0, none⟩ v0).cell? ⟨g, 1, none⟩ = some c1) ∧ (∀ v0, (w.setCell ⟨g, 0, none⟩ v0).frozen? ⟨g, 1, none⟩ = false) ∧
    (∀ v0 v1, ((w.setCell ⟨g, 0, none⟩ v0).setCell ⟨g, 1, none⟩ v1).cell? ⟨g, 0, none⟩ = some v0) ∧ (∀ v0 v1, ((w.setCell ⟨g, 0, none⟩ v0).setCell ⟨g, 1, none⟩ v1).cell? ⟨g, 1, none⟩ = some v1) :=
  ⟨h.cell 0, h.frozen 0, fun v0 => (h.one2 v0).cell 1, fun v0 => (h.one2 v0).frozen 1, fun v0 v1 => (h.put2 v0 v1).cell 0, fun v0 v1 => (h.put2 v0 v1).cell 1⟩
theorem cell_put2 {p : Addr} {u v0 v1 : Value} (h : w.cell? p = some u) (hne : p.block ≠ g) : ((w.setCell ⟨g, 0, none⟩ v0).setCell ⟨g, 1, none⟩ v1).cell? p = some u :=
  (World.cell?_setCell_other _ _ _ _ (fun e => hne (by rw [← e]))).trans ((World.cell?_setCell_other _ _ _ _ (fun e => hne (by rw [← e]))).trans h)
theorem below_put2 {B : Nat} {v0 v1 : Value} (h : Below B w w') (hg : B ≤ g) : Below B w ((w'.setCell ⟨g, 0, none⟩ v0).setCell ⟨g, 1, none⟩ v1) := (h.setCell (p := ⟨g, 0, none⟩) hg v0).setCell (p := ⟨g, 1, none⟩) hg v1
theorem Blk.drawn (h : Blk w g t #[c0, c1]) (hd : Drawn w w') : Blk w' g t #[c0, c1] := by
  obtain ⟨m, rfl⟩ := hd
  exact h
end
theorem cnt_conv {x : Int} (h0 : 0 ≤ x) (h1 : x < 4294967296) : x / 65536 = (cntW x : Int) ∧ cntW x ≤ 65535 := by
  unfold cntW
  omega

section
variable {A : Option Addr} {n c p : Nat} {ws : List Int}
/-- what next answers where there is an instruction -/
def NextIs (w : World) (ws : List Int) (p : Nat) (e : Ending) (w' : World) : Prop := ∃ x : RI, x.1 = insAt ws p ∧ e = .returned (.tuple #[.agg #[.int .u16 x.1.1, x.sl], .int .i64 (cntW (ix ws p))]) ∧
      w'.ownsRow w.heap.size 23 1 x.sl x.1.2.length (Ints .u32 x.1.2) ∧ Below w.heap.size w w'
set_option maxHeartbeats 1000000 in
theorem next_none (w : World) (hr : Reads w w.heap.size 1 A n (Ints .u32 ws)) (hu : Under 4294967296 ws) (hp : p < n) (hn : n ≤ 35184372087808) (hc : ¬ can ws p) :
    Calls Try.prog 35 #[.slice A n c, .int .i64 p] w fun e w' => e = .returned (.tuple #[.agg #[.int .u16 0, .slice none 0 0], .int .i64 0]) ∧ Below w.heap.size w w' := by
  have hlen := hr.len
  obtain ⟨ad, rfl, hb, hcell⟩ := hr.int_at hp
  have hx := hu.ix (by decide) p
  obtain ⟨hx0, hx1⟩ := cnt_conv hx.1 hx.2
  have hkb := Blk.new w 45 #[.int .u16 0, .slice none 0 0]
  obtain ⟨k0, k1⟩ := hkb.read2
  have hB := (Below.refl w.heap.size w).alloc (Nat.le_refl _) (.cells #[.int .u16 0, .slice none 0 0] 45)
  have hcell' := (World.cell?_alloc_lt w (.cells #[.int .u16 0, .slice none 0 0] 45) (a := ad.add p) (by rw [block_of_add]; exact hb)).trans hcell
  obtain ⟨_, _, _, _, q0, q1⟩ := hkb.store2
  have hB2 := fun v0 v1 => (hB.setCell (p := ⟨w.heap.size, 0, none⟩) (Nat.le_refl _) v0).setCell (p := ⟨w.heap.size, 1, none⟩) (Nat.le_refl _) v1
  by_cases h0 : cntW (ix ws p) = 0
  · go_enter Try.func35, Try.ntmps35
    go_wp2_with fail
    (try simp only [Exit.inBlock, Exit.then])
    refine bodyPost_ret (v := .tuple #[.agg #[.int .u16 0, .slice none 0 0], .int .i64 0]) (by rw [results_cell_tmp rfl]; go_simp) rfl ?_
    exact ⟨rfl, hB⟩
  · have h1 : ((cntW (ix ws p) : Int) == 0) = false := by simpa using h0
    have h2 : decide ((n : Int) - (p : Int) < (cntW (ix ws p) : Int)) = true := by
      have : ¬ cntW (ix ws p) ≤ ws.length - p := fun hle => hc ⟨by omega, h0, hle⟩
      simp
      omega
    go_enter Try.func35, Try.ntmps35
    go_wp2_with fail
    (try simp only [Exit.inBlock, Exit.then])
    refine bodyPost_ret (v := .tuple #[.agg #[.int .u16 0, .slice none 0 0], .int .i64 0]) (by rw [results_cell_tmp rfl]; go_simp) rfl ?_
    exact ⟨rfl, hB⟩

set_option maxHeartbeats 1000000 in
theorem next_ok (w : World) (hr : Reads w w.heap.size 1 A n (Ints .u32 ws)) (hu : Under 4294967296 ws) (hn : n ≤ 35184372087808) (hcap : n ≤ c) (hc : can ws p) :
    Calls Try.prog 35 #[.slice A n c, .int .i64 p] w (NextIs w ws p) := by
  have hlen := hr.len
  have hp : p < n := by have := hc.1; omega
  have hlen2 := insAt_length hc
  obtain ⟨_, h0, h3⟩ := hc
  obtain ⟨ad, rfl, hb, hcell⟩ := hr.int_at hp
  have hx := hu.ix (by decide) p
  obtain ⟨hx0, hx1⟩ := cnt_conv hx.1 hx.2
  have hkb := Blk.new w 45 #[.int .u16 0, .slice none 0 0]
  have hB := (Below.refl w.heap.size w).alloc (Nat.le_refl _) (.cells #[.int .u16 0, .slice none 0 0] 45)
  have hr1 := hr.alloc (Nat.le_refl _) (.cells #[.int .u16 0, .slice none 0 0] 45)
  have hcell' := (World.cell?_alloc_lt w (.cells #[.int .u16 0, .slice none 0 0] 45) (a := ad.add p) (by rw [block_of_add]; exact hb)).trans hcell
  have h1 : ((cntW (ix ws p) : Int) == 0) = false := by simpa using h0
  have h2 : decide ((n : Int) - (p : Int) < (cntW (ix ws p) : Int)) = false := by
    simp
    omega
  have f1 : (0 : Int) ≤ (p : Int) + 1 := by omega
  have f2 : (p : Int) + 1 ≤ (p : Int) + (cntW (ix ws p) : Int) := by omega
  have f3 : (p : Int) + (cntW (ix ws p) : Int) ≤ (c : Int) := by omega
  have f4 : IntKind.i64.wrap ((p : Int) + 1) = (p : Int) + 1 := by simp [IntKind.wrap, IntKind.signed, IntKind.bits]; omega
  have f5 : IntKind.i64.wrap ((p : Int) + (cntW (ix ws p) : Int)) = (p : Int) + (cntW (ix ws p) : Int) := by simp [IntKind.wrap, IntKind.signed, IntKind.bits]; omega
  have hsz : w.heap.size + 1 = (w.alloc (.cells #[.int .u16 0, .slice none 0 0] 45)).heap.size := by simp
  go_enter Try.func35, Try.ntmps35
  go_wp2_with fail
  generalize w.alloc (.cells #[.int .u16 0, .slice none 0 0] 45) = w1 at *
  obtain ⟨s0, s1, s2, s3, _, _⟩ := hkb.store2
  have ht : ((p : Int) + (cntW (ix ws p) : Int)).toNat = p + cntW (ix ws p) := by omega
  have hlen3 : (insAt ws p).2.length = ((p : Int) + (cntW (ix ws p) : Int)).toNat - (p + 1) := by omega
  have hcut : Reads w1.drew w1.heap.size 1 (if ((p : Int) + (cntW (ix ws p) : Int)).toNat = p + 1 then some ad else some { block := ad.block, off := ad.off + (p + 1) }) (((p : Int) + (cntW (ix ws p) : Int)).toNat - (p + 1)) (Ints .u32 (insAt ws p).2) := by
    refine ⟨by rw [Ints_length]; omega, fun h0 => ?_⟩
    rw [if_neg (by omega)]
    refine ⟨_, rfl, by simp; omega, fun j u hu => ?_⟩
    have hj : j < (insAt ws p).2.length := by
      have := (List.getElem?_eq_some_iff.1 hu).1
      rwa [Ints_length] at this
    obtain ⟨ad', e, _, hc'⟩ := hr1.int_at (k := p + 1 + j) (by omega)
    cases e
    have e2 : ix (insAt ws p).2 j = ix ws (p + 1 + j) := by simp only [insAt]; rw [ix_take (by omega), ix_drop]
    have e3 : u = .int .u32 (ix ws (p + 1 + j)) := by
      rw [Ints_at hj] at hu
      rw [← e2]
      exact (Option.some.inj hu).symm
    have e4 : (ad.add (p + 1)) = { block := ad.block, off := ad.off + (p + 1) } := by simp [Addr.add]
    rw [e3, ← e4, add_of_add]
    exact hc'
  have hsm : ((p : Int) + (cntW (ix ws p) : Int)).toNat - (p + 1) ≤ 35184372087808 := by omega
  have H3 := Lib.hid hlen3
  obtain ⟨A0, hA0⟩ : ∃ A0, (if ((p : Int) + (cntW (ix ws p) : Int)).toNat = p + 1 then some ad else some { block := ad.block, off := ad.off + (p + 1) }) = A0 := ⟨_, rfl⟩
  rw [hA0] at hcut
  clear ht hlen3 hlen2 hr hcell
  have hne : (ad.add p).block ≠ w.heap.size := by rw [block_of_add]; omega
  have hglt : w.heap.size < w1.heap.size := by omega
  go_region_held3 (fun w' => w'.cell? (ad.add p) = some (.int .u32 (ix ws p)) ∧ Below w.heap.size w w') (first | exact ⟨hcell', hB.drew⟩ | (go_split_ands; exact ⟨by assumption, by assumption⟩) | (go_split_ands; exact ⟨cell_cut (by assumption) (by assumption) hbq (Nat.le_refl _) (add_block hb), below_cut (by assumption) hbq (Nat.le_refl _)⟩) | (go_split_ands; exact ⟨cell_put2 (by assumption) hne, below_put2 (by assumption) (Nat.le_refl _)⟩)) ((first | (go_at_call 40; refine (clone_any _ _ _ _ _ hsm hcut).mono ?_; rintro e w' ⟨A', c', rfl, ho, hbq⟩; have hk : Blk w' w.heap.size 45 #[.int .u16 0, .slice none 0 0] := Blk.below (w := w1.drew) hkb.drew hbq hglt; obtain ⟨t0, t1, t2, t3, t4, t5⟩ := hk.store2; dsimp only)))
  go_wp2_with fail
  (try simp only [Exit.inBlock, Exit.then])
  have hu16 : IntKind.u16.wrap (ix ws p) = (insAt ws p).1 := by simp [insAt, IntKind.wrap, IntKind.signed, IntKind.bits]
  refine bodyPost_ret (v := .tuple #[.agg #[.int .u16 (IntKind.u16.wrap (ix ws p)), .slice A' (((p : Int) + (cntW (ix ws p) : Int)).toNat - (p + 1)) c'], .int .i64 (cntW (ix ws p))]) (by rw [results_cell_tmp rfl]; go_simp) rfl ?_
  have h3 := H3.out
  rw [hu16, ← h3]
  rw [← h3] at ho
  refine ⟨(insAt ws p, A', c'), rfl, rfl, ?_, below_put2 (below_cut hB.drew hbq (Nat.le_refl _)) (Nat.le_refl _)⟩
  have ho2 := own_set_other (own_set_other (p := ⟨w.heap.size, 0, none⟩) ho (own_ne_low ho hglt) (.int .u16 (insAt ws p).1)) (p := ⟨w.heap.size, 1, none⟩) (own_ne_low ho hglt) (.slice A' (insAt ws p).2.length c')
  exact own_base ho2 (Nat.le_of_lt hglt)
end
end Go.Proofs.Ytppkjejdkogfpaa
