/- A canvas and the document's, as the walks know them; a canvas made. -/
import Derived.Test.YtfciaefjilobaaaRows
import Derived.Test.YtfciaefjilobaaaKitB
import Derived.Test.YtfciaefjilobaaaPix
namespace Go.Proofs.Ytfciaefjilobaaa
open Go.RowKit

theorem slPix : SliceOf Try.prog 79 82 (.agg #[.bool false, .int .i32 0, .int .u32 0]) 3 12 := ⟨Try.underlying79, by kernel_rfl, rfl, by decide⟩
theorem slRpx : SliceOf Try.prog 29 39 (.agg #[.bool false, .int .i32 0, .int .u32 0]) 3 12 := ⟨Try.underlying29, by kernel_rfl, rfl, by decide⟩

/-- what both have -/
structure Sized (n W H : Nat) (back : Int) (ps : List Pix) : Prop where
  area : n = W * H
  w1 : 1 ≤ W
  w2 : W ≤ 1024
  h1 : 1 ≤ H
  h2 : H ≤ 1024
  b0 : 0 ≤ back
  b1 : back < 4294967296
  len : ps.length = n
  ok : okPixs ps
theorem Sized.le {n W H : Nat} {back : Int} {ps : List Pix} (h : Sized n W H back ps) : n ≤ 1048576 := by rw [h.area]; exact area_le h.w2 h.h2
theorem Sized.pos {n W H : Nat} {back : Int} {ps : List Pix} (h : Sized n W H back ps) : 1 ≤ n := by rw [h.area]; exact area_pos h.w1 h.h1
theorem Sized.plot {n W H : Nat} {back : Int} {ps : List Pix} (h : Sized n W H back ps) (x y : Int) {d c : Int} (hp : okPix (true, d, c)) : Sized n W H back (plotR W H ps x y d c) :=
  ⟨h.area, h.w1, h.w2, h.h1, h.h2, h.b0, h.b1, by rw [plotR_length]; exact h.len, plotR_ok h.ok hp⟩
theorem Sized.spot {n W H : Nat} {back : Int} {ps : List Pix} {x y : Int} (h : Sized n W H back ps) (hh : hasP W H x y) : Go.Proofs.Ytfciaefjilobaaa.spot W x y < n := by rw [h.area]; exact spot_lt hh

/-- a canvas at block g -/
structure CanS (w : World) (base g gp n c W H : Nat) (back : Int) (ps : List Pix) : Prop where
  blk : Blk w g 84 #[.int .i64 W, .int .i64 H, .int .u32 back, .slice (some ⟨gp, 0, none⟩) n c]
  row : w.ownsRow base 82 3 (.slice (some ⟨gp, 0, none⟩) n c) n (Pixs ps)
  low : base ≤ g
  sz : Sized n W H back ps
/-- the document's, its pixels at block g -/
structure RefS (w : World) (base g n c W H : Nat) (back : Int) (ps : List Pix) : Prop where
  row : w.ownsRow base 39 3 (.slice (some ⟨g, 0, none⟩) n c) n (Pixs ps)
  sz : Sized n W H back ps
def refV (g n c W H : Nat) (back : Int) : Value := .agg #[.int .i64 W, .int .i64 H, .int .u32 back, .slice (some ⟨g, 0, none⟩) n c]

section
variable {w w' : World} {base g gp n c W H : Nat} {back : Int} {ps : List Pix} {S : Nat → Prop}
theorem CanS.ne (h : CanS w base g gp n c W H back ps) : g ≠ gp := fun e => by
  subst e
  exact own_blk_ne h.row h.blk (by decide) rfl
theorem CanS.off (h : CanS w base g gp n c W H back ps) (ho : Off S w w') (h1 : ¬ S g) (h2 : ¬ S gp) : CanS w' base g gp n c W H back ps :=
  ⟨h.blk.off ho h1, own_off h.row ho (fun k hk => by cases hk; exact h2), h.low, h.sz⟩
theorem CanS.below (h : CanS w base g gp n c W H back ps) (hb : Below w.heap.size w w') : CanS w' base g gp n c W H back ps := h.off (Off.of_below (fun _ => False) hb) (fun h => h) (fun h => h)
theorem RefS.off (h : RefS w base g n c W H back ps) (ho : Off S w w') (h1 : ¬ S g) : RefS w' base g n c W H back ps :=
  ⟨own_off h.row ho (fun k hk => by cases hk; exact h1), h.sz⟩
theorem RefS.below (h : RefS w base g n c W H back ps) (hb : Below w.heap.size w w') : RefS w' base g n c W H back ps := h.off (Off.of_below (fun _ => False) hb) (fun h => h)
theorem CanS.lt (h : CanS w base g gp n c W H back ps) : g < w.heap.size := h.blk.lt
theorem CanS.lt2 (h : CanS w base g gp n c W H back ps) : base ≤ gp ∧ gp < w.heap.size := h.row.lt gp rfl
theorem RefS.lt (h : RefS w base g n c W H back ps) : base ≤ g ∧ g < w.heap.size := h.row.lt g rfl
theorem CanS.base_le {base' : Nat} (h : CanS w base g gp n c W H back ps) (hb : base' ≤ base) : CanS w base' g gp n c W H back ps := ⟨h.blk, own_base h.row hb, Nat.le_trans hb h.low, h.sz⟩
theorem RefS.base_le {base' : Nat} (h : RefS w base g n c W H back ps) (hb : base' ≤ base) : RefS w base' g n c W H back ps := ⟨own_base h.row hb, h.sz⟩
theorem CanS.apart (h : CanS w base g gp n c W H back ps) {base' g' n' c' W' H' : Nat} {back' : Int} {ps' : List Pix} (h' : RefS w base' g' n' c' W' H' back' ps') : g ≠ g' ∧ gp ≠ g' := by
  refine ⟨fun e => ?_, fun e => ?_⟩
  · subst e
    exact own_blk_ne h'.row h.blk (by decide) rfl
  · subst e
    rcases h.row.2 with ⟨hv, _⟩ | ⟨k, cap, cur, hv, _, hh, _⟩
    · cases hv
    · cases hv
      exact own_blk_ne h'.row (t := 82) (cs := cur) hh (by decide) rfl
end

section
variable {w : World} {base g gp n c W H k : Nat} {back : Int} {ps : List Pix}
theorem off_set3 (w : World) (gp k : Nat) (a b d : Value) : Off (fun k => k = gp) w (((w.setCell ⟨gp, k * 3, none⟩ a).setCell ⟨gp, k * 3 + 1, none⟩ b).setCell ⟨gp, k * 3 + 2, none⟩ d) :=
  (((Off.refl (fun k => k = gp) w).set_ (p := ⟨gp, k * 3, none⟩) (.inl rfl) _).set_ (p := ⟨gp, k * 3 + 1, none⟩) (.inl rfl) _).set_ (p := ⟨gp, k * 3 + 2, none⟩) (.inl rfl) _
theorem CanS.set3 (h : CanS w base g gp n c W H back ps) (hk : k < n) {p : Pix} (hsz : Sized n W H back (ps.set k p)) :
    CanS (((w.setCell ⟨gp, k * 3, none⟩ (.bool p.1)).setCell ⟨gp, k * 3 + 1, none⟩ (.int .i32 p.2.1)).setCell ⟨gp, k * 3 + 2, none⟩ (.int .u32 p.2.2)) base g gp n c W H back (ps.set k p) :=
  ⟨h.blk.off (off_set3 w gp k _ _ _) h.ne, own_px_set h.row hk p, h.low, hsz⟩
theorem RefS.set3 (h : RefS w base g n c W H back ps) (hk : k < n) {p : Pix} (hsz : Sized n W H back (ps.set k p)) :
    RefS (((w.setCell ⟨g, k * 3, none⟩ (.bool p.1)).setCell ⟨g, k * 3 + 1, none⟩ (.int .i32 p.2.1)).setCell ⟨g, k * 3 + 2, none⟩ (.int .u32 p.2.2)) base g n c W H back (ps.set k p) :=
  ⟨own_px_set h.row hk p, hsz⟩
end

/-! side and New -/
def sideE (x : Int) : Int := if x < 1 then 2 else if 1024 < x then 4 else 0
theorem side_any (x : Int) (hx : -9223372036854775808 ≤ x ∧ x ≤ 9223372036854775807) (w : World) :
    Calls Try.prog 38 #[.int .i64 x] w fun e w' => e = .returned (.int .i64 (sideE x)) ∧ w = w' := by
  rcases Int.lt_or_le x 1 with h | h
  · have h0 : decide (x < 1) = true := by simpa using h
    have e : sideE x = 2 := by simp [sideE, h]
    rw [e]
    go_enter Try.func38, Try.ntmps38
    go_wp2
    go_ret
    exact ⟨rfl, rfl⟩
  · have h0 : decide (x < 1) = false := by simpa using h
    rcases Int.lt_or_le 1024 x with h' | h'
    · have h1 : decide (1024 < x) = true := by simpa using h'
      have e : sideE x = 4 := by unfold sideE; rw [if_neg (by omega), if_pos h']
      rw [e]
      go_enter Try.func38, Try.ntmps38
      go_wp2
      go_ret
      exact ⟨rfl, rfl⟩
    · have h1 : decide (1024 < x) = false := by simpa using h'
      have e : sideE x = 0 := by unfold sideE; rw [if_neg (by omega), if_neg (by omega)]
      rw [e]
      go_enter Try.func38, Try.ntmps38
      go_wp2
      go_ret
      exact ⟨rfl, rfl⟩

def newE (W H : Int) : Int := if W < 1 ∨ H < 1 then 2 else if 1024 < W ∨ 1024 < H then 4 else 0
theorem new_bad (W H back : Int) (hW : -9223372036854775808 ≤ W ∧ W ≤ 9223372036854775807) (hH : -9223372036854775808 ≤ H ∧ H ≤ 9223372036854775807) (hbad : newE W H ≠ 0) (w : World) :
    Calls Try.prog 19 #[.int .i64 W, .int .i64 H, .int .u32 back] w fun e w' => e = .returned (.tuple #[.pointer none, .int .i64 (newE W H)]) ∧ w = w' := by
  have key : ((sideE W == 2) = true ∧ newE W H = 2) ∨ ((sideE W == 2) = false ∧ (sideE H == 2) = true ∧ newE W H = 2) ∨ ((sideE W == 2) = false ∧ (sideE H == 2) = false ∧ (sideE W != 0) = true ∧ newE W H = 4) ∨
      ((sideE W == 2) = false ∧ (sideE H == 2) = false ∧ (sideE W != 0) = false ∧ (sideE H != 0) = true ∧ newE W H = 4) := by
    unfold newE sideE at *
    rcases Int.lt_or_le W 1 with h1 | h1 <;> rcases Int.lt_or_le H 1 with h2 | h2 <;> rcases Int.lt_or_le 1024 W with h3 | h3 <;> rcases Int.lt_or_le 1024 H with h4 | h4 <;>
      simp [h1, h2, h3, h4, Int.not_lt.2 h1, Int.not_lt.2 h2, Int.not_lt.2 h3, Int.not_lt.2 h4] at hbad ⊢ <;> omega
  rcases key with ⟨h0, e⟩ | ⟨h0, h1, e⟩ | ⟨h0, h1, h2, e⟩ | ⟨h0, h1, h2, h3, e⟩ <;> rw [e] <;>
  · go_enter Try.func19, Try.ntmps19
    go_wp2_with fail
    refine (side_any W hW w).mono ?_
    rintro e1 w1 ⟨rfl, rfl⟩
    go_wp2_with fail
    refine (side_any H hH w).mono ?_
    rintro e1 w1 ⟨rfl, rfl⟩
    go_wp2
    go_ret2
    exact ⟨rfl, rfl⟩

theorem sideE_ok {x : Int} (h : 1 ≤ x) (h' : x ≤ 1024) : sideE x = 0 := by unfold sideE; rw [if_neg (by omega), if_neg (by omega)]
theorem newE_ok {W H : Int} (h : 1 ≤ W) (h' : W ≤ 1024) (k : 1 ≤ H) (k' : H ≤ 1024) : newE W H = 0 := by unfold newE; rw [if_neg (by omega), if_neg (by omega)]
theorem newE_zero {W H : Int} (h : newE W H = 0) : 1 ≤ W ∧ W ≤ 1024 ∧ 1 ≤ H ∧ H ≤ 1024 := by
  unfold newE at h
  split at h
  · omega
  · split at h
    · omega
    · omega

theorem new_ok (W H : Nat) (back : Int) (hW : 1 ≤ W ∧ W ≤ 1024) (hH : 1 ≤ H ∧ H ≤ 1024) (hb : 0 ≤ back ∧ back < 4294967296) (w : World) :
    Calls Try.prog 19 #[.int .i64 W, .int .i64 H, .int .u32 back] w fun e w' => ∃ g gp, e = .returned (.tuple #[.pointer (some ⟨g, 0, none⟩), .int .i64 0]) ∧
      CanS w' w.heap.size g gp (W * H) (W * H) W H back (List.replicate (W * H) noPix) ∧ Below w.heap.size w w' := by
  have hsz : Sized (W * H) W H back (List.replicate (W * H) noPix) := ⟨rfl, hW.1, hW.2, hH.1, hH.2, hb.1, hb.2, by simp, okPixs.none_ _⟩
  have hle := hsz.le
  have hm : (W : Int) * (H : Int) = ((W * H : Nat) : Int) := by rw [Int.natCast_mul]
  generalize W * H = n at hsz hle hm ⊢
  go_enter Try.func19, Try.ntmps19
  go_wp2_with fail
  refine (side_any W (by omega) w).mono ?_
  rintro e1 w1 ⟨rfl, rfl⟩
  rw [sideE_ok (by omega) (by omega)]
  go_wp2_with fail
  refine (side_any H (by omega) w).mono ?_
  rintro e1 w1 ⟨rfl, rfl⟩
  rw [sideE_ok (by omega) (by omega)]
  go_wp2_with (at_make; refine mk_wide slPix _ rfl _ _ rfl w.heap.size n rfl rfl (by simp [*]) (by simp [*]) (by omega) (by omega) (Nat.le_refl _) ?_; intro w1 hown hgr; rw [show (Value.agg #[.bool false, .int .i32 0, .int .u32 0]).cells = #[.bool false, .int .i32 0, .int .u32 0] from rfl, ← Pixs_replicate] at hown)
  go_ret2
  have hsize := hgr.size
  have hb1 := (Below.refl w.heap.size w).grown hgr (Nat.le_refl _) (fun _ h => by cases h)
  exact ⟨_, _, rfl, ⟨Blk.new _ _ _, hown.alloc _, by omega, hsz⟩, hb1.alloc hsize _⟩
end Go.Proofs.Ytfciaefjilobaaa
