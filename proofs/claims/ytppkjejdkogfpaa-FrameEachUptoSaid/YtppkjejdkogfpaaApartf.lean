/- Walks: the statements' own helper apart: each instruction's words are written over, and behind them: the others are as they were. -/
import Derived.Test.YtppkjejdkogfpaaLawf
namespace Go.Proofs.Ytppkjejdkogfpaa
open Go.RowKit Go.WideShapes

theorem row_at2 {w : World} {A : Option Addr} {l : List RI} (h : Reads w w.heap.size 2 A l.length (Rcells l)) {k : Nat} (hk : k < l.length) :
    ∃ b off, A = some ⟨b, off, none⟩ ∧ b < w.heap.size ∧ w.cell? ⟨b, off + k * 2, none⟩ = some (.int .u16 (ri l k).1.1) ∧ w.cell? ⟨b, off + k * 2 + 1, none⟩ = some (.slice (ri l k).2.1 (ri l k).1.2.length (ri l k).2.2) := by
  obtain ⟨ad, e, hb, hc⟩ := h.2 (by omega)
  obtain ⟨h0, h1⟩ := Rcells_at hk
  obtain ⟨b, off, spot⟩ := ad
  have hz := hc _ _ h0
  have hs : spot = none := by
    have h2 := World.cell?_spot (hc _ _ (Rcells_at (k := 0) (l := l) (by omega)).1)
    simpa [Addr.add] using h2
  subst hs
  refine ⟨b, off, e, hb, ?_, ?_⟩
  · rw [← add_plain]; exact hz
  · rw [Nat.add_assoc, ← add_plain]; exact hc _ _ h1
theorem RawO.apart_at {w : World} {base c : Nat} {A : Option Addr} {l : List RI} (h : RawO w base A c l) {j k : Nat} (hj : j < l.length) (hk : k < l.length) (hne : j ≠ k) : ∀ b, (ri l j).sl.ownBlock = some b → (ri l k).sl.ownBlock ≠ some b := by
  have hp := List.pairwise_iff_getElem.1 h.apart
  rw [ri_of hj, ri_of hk]
  intro b hb hb'
  rcases Nat.lt_or_ge j k with hlt | hge
  · exact hp j k hj hk hlt b hb hb'
  · exact hp k j hk hj (by omega) b hb' hb

/-- the list, and the words from k on, are still there -/
structure ApartInv (w : World) (base c : Nat) (A : Option Addr) (x : List RI) (k : Nat) (wr : World) : Prop where
  row : wr.ownsRow base 45 2 (.slice A x.length c) x.length (Rcells x)
  ws : ∀ j, k ≤ j → j < x.length → wr.ownsRow base 23 1 (ri x j).sl (ri x j).1.2.length (Ints .u32 (ri x j).1.2)
  below : Below base w wr

set_option maxRecDepth 100000 in
set_option maxHeartbeats 2000000 in
theorem apart_any (w0 w : World) (A A' : Option Addr) (n c c' base : Nat) (x l : List RI) (hxn : x.length = n) (hln : l.length = n) (hn : n ≤ 4398046511104) (he : insL x = insL l) (hx : RawO w base A c x) (hl : RawR w0 A' l) (hB : Below w0.heap.size w0 w) (h0 : w0.heap.size ≤ base) (_ : base ≤ w.heap.size)
    (hlen : ∀ y ∈ x, y.1.2.length ≤ 65535) :
    Calls Try.prog 16 #[.slice A n c, .slice A' n c'] w fun e w' => e = .returned (.bool true) ∧ Below base w w' := by
  subst hxn
  have hlr := hl.below hB
  go_enter Try.func16, Try.ntmps16
  go_wp2
  go_loopw [5] (fun i wr => ∃ k : Nat, k ≤ x.length ∧ i = .int .i64 k ∧ ApartInv w base c A x k wr) (fun i _ => x.length - (intOf i).toNat)
  case atStart => exact ⟨0, by omega, rfl, hx.row, fun j _ hj => hx.ws _ (ri_mem hj), Below.refl _ _⟩
  case round =>
    obtain ⟨k, hk, rfl, hI⟩ := hrel
    by_cases hlt : k < x.length
    · obtain ⟨g, cap, hv, hg1, hg2⟩ := hI.row.form (by omega)
      obtain rfl : A = some ⟨g, 0, none⟩ := by injection hv
      clear hv
      obtain ⟨b, off, hbo, hb1, hc0, hc1⟩ := row_at2 (Reads.of_own hI.row) (k := k) hlt
      cases hbo
      simp only [Nat.zero_add] at hc0 hc1
      have hlw : RawR wr A' l := hl.below (hB.trans (hI.below.mono h0))
      obtain ⟨b', off', rfl, hb1', hd0, hd1⟩ := hlw.at2 (k := k) (by omega)
      have hws := hI.ws k (Nat.le_refl _) hlt
      have hws' := hlw.ws _ (ri_mem (l := l) (k := k) (by omega))
      have hle := hlen _ (ri_mem hlt)
      have heq := alike_at he hlt
      have hsb : sameB (ri x k).1.2 (ri l k).1.2 = true := by rw [heq, sameB_refl]
      have hopb : ((ri x k).1.1 != (ri l k).1.1) = false := by rw [heq]; simp
      obtain ⟨m, hm⟩ : ∃ m, (ri x k).1.2.length = m := ⟨_, rfl⟩
      have hm' : (ri l k).1.2.length = m := by rw [← heq, hm]
      rw [hm'] at hd1 hws'
      rw [hm] at hc1 hws hle
      have hsl : (ri x k).sl = .slice (ri x k).2.1 m (ri x k).2.2 := by rw [← hm]; rfl
      rw [hsl] at hws
      have Heq := Lib.hid heq
      have Hsl := Lib.hid hsl
      have Hm := Lib.hid hm
      clear heq hsl hm hm'
      have hwr := Reads.of_own hws
      go_wp2_with fail
      go_quiet ((go_at_call 14; exact (words_same _ _ _ _ _ _ _ _ _ (by omega) (hwr.drewN _) (hws'.drewN _)).mono (fun _ _ h => ⟨h.1, (Drawn.mk _ _).trans h.2⟩)))
      simp only [hsb]
      have hrb : (Value.slice (some ⟨g, 0, none⟩) x.length c).ownBlock = some g := by simp [Value.ownBlock]
      have hgne := own_types_ne hI.row hws (by decide) g hrb
      have hap := fun j (hj : j < x.length) (hne : j ≠ k) => hx.apart_at (j := j) (k := k) hj hlt hne
      rw [Hsl.out] at hap
      obtain ⟨S, hS⟩ : ∃ S : Nat → Prop, S = fun k' => (Value.slice (ri x k).2.1 m (ri x k).2.2).ownBlock = some k' ∨ wr.heap.size ≤ k' := ⟨_, rfl⟩
      have hS1 : ∀ k', (Value.slice (ri x k).2.1 m (ri x k).2.2).ownBlock = some k' → S k' := fun k' h => by rw [hS]; exact .inl h
      have hS2 : ∀ k', wr.heap.size ≤ k' → S k' := fun k' h => by rw [hS]; exact .inr h
      have hS3 : ∀ k', S k' → k' < wr.heap.size → (Value.slice (ri x k).2.1 m (ri x k).2.2).ownBlock = some k' := fun k' h hlt => by
        rw [hS] at h
        rcases h with h | h
        · exact h
        · omega
      clear hS
      have hnS : ¬ S g := fun h => hgne (hS3 g h hg2)
      go_wp2_with fail
      refine (spoil_own _ m _ base _ (wr.drewN nq) (by omega) (own_drewN hws nq)).mono ?_
      rintro e wS ⟨rfl, ⟨l1, hoS⟩, hgS⟩
      have hoffS : Off S wr wS := ((Off.refl S wr).drewN nq).trans (Off.of_grown hgS hS1)
      have hsS := hoffS.size
      have e1 := (World.cell?_of_block (a := ⟨g, k * 2 + 1, none⟩) (hoffS.block g hg2 hnS)).trans hc1
      go_wp2_with (at_builtin; refine ap_any sl32 _ rfl _ _ rfl base _ m _ rfl (hoS.alloc _) _ _ 1 1 [.int .u32 1515870810] rfl (Reads.lit _ _ _ _ rfl (by omega)) (by simp [Value.oneCell']) (by omega) (by omega) (by rw [World.size_alloc]; omega) ?_; intro A8 c8 w8 ho8 hg8 hat8)
      rw [← Ints_one, ← Ints_append] at ho8
      refine (spoil_own A8 (m + 1) c8 base _ w8 (by omega) ho8).mono ?_
      rintro e w9 ⟨rfl, _, hg9⟩
      have hoff9 : Off S wr w9 := ((hoffS.alloc (.cells #[.int .u32 1515870810] 23)).trans (Off.of_grown hg8 hS1)).trans (Off.of_grown hg9 (fun k' h => by
        rcases hat8 with h8 | h8
        · exact hS1 k' (h8.symm.trans h)
        · rw [World.size_alloc] at h8
          have : wS.heap.size + 1 = k' := by rw [h8] at h; injection h
          exact hS2 k' (by omega)))
      go_wp2
      go_roundw
      case rel =>
        refine ⟨k + 1, by omega, by go_num, own_off hI.row hoff9 (fun b hb h => ?_), fun j h1 h2 => own_off (hI.ws j (by omega) h2) hoff9 (fun b hb h => ?_), hI.below.trans (hoff9.to_below base (by omega) (fun k' h1 h2 => (hws.lt k' (hS3 k' h2 h1)).1))⟩
        · exact own_types_ne hI.row hws (by decide) b hb (hS3 b h (hI.row.lt b hb).2)
        · exact hap j h2 (by omega) b hb (hS3 b h ((hI.ws j (by omega) h2).lt b hb).2)
      case measure => simp [intOf]; omega
    · obtain rfl : k = x.length := by omega
      go_wp2
      go_ret
      exact ⟨rfl, hI.below⟩
end Go.Proofs.Ytppkjejdkogfpaa
