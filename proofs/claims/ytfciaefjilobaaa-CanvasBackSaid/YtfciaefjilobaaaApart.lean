/- Walks: how many pixels of two canvases differ, and the first one. -/
import Derived.Test.YtfciaefjilobaaaCopyc
import Derived.Deep.RegionHeld3
namespace Go.Proofs.Ytfciaefjilobaaa
open Go.RowKit

/-- of the m places from j on: how many f holds at, and the first one (0: none) -/
def bk (f : Nat → Bool) : Nat → Nat → Nat
  | _, 0 => 0
  | j, m + 1 => (if f j then 1 else 0) + bk f (j + 1) m
def lo (f : Nat → Bool) : Nat → Nat → Nat
  | _, 0 => 0
  | j, m + 1 => if f j then j else lo f (j + 1) m
theorem bk_le (f : Nat → Bool) : ∀ j m, bk f j m ≤ m
  | _, 0 => Nat.le_refl _
  | j, m + 1 => by have := bk_le f (j + 1) m; simp only [bk]; split <;> omega
theorem lo_le (f : Nat → Bool) : ∀ j m, lo f j m ≤ j + m
  | _, 0 => Nat.zero_le _
  | j, m + 1 => by have := lo_le f (j + 1) m; simp only [lo]; split <;> omega
/-- what holds at a round's head of the walk upwards -/
def Fwd (f : Nat → Bool) (N k a b : Nat) : Prop := a + bk f k (N - k) = bk f 0 N ∧ ((a = 0 ∧ b = 0 ∧ lo f k (N - k) = lo f 0 N) ∨ (0 < a ∧ b = lo f 0 N))
theorem Fwd.zero (f : Nat → Bool) (N : Nat) : Fwd f N 0 0 0 := ⟨by simp, .inl ⟨rfl, rfl, rfl⟩⟩
theorem Fwd.at_ {f : Nat → Bool} {N k : Nat} (hk : k < N) : bk f k (N - k) = (if f k then 1 else 0) + bk f (k + 1) (N - (k + 1)) ∧ lo f k (N - k) = if f k then k else lo f (k + 1) (N - (k + 1)) := by
  rw [show N - k = (N - (k + 1)) + 1 by omega]
  exact ⟨rfl, rfl⟩
theorem Fwd.no {f : Nat → Bool} {N k a b : Nat} (h : Fwd f N k a b) (hk : k < N) (hf : f k = false) : Fwd f N (k + 1) a b := by
  obtain ⟨h1, h2⟩ := h
  obtain ⟨e1, e2⟩ := Fwd.at_ (f := f) hk
  simp [hf] at e1 e2
  rw [e1] at h1
  rw [e2] at h2
  exact ⟨h1, h2⟩
theorem Fwd.yes0 {f : Nat → Bool} {N k b : Nat} (h : Fwd f N k 0 b) (hk : k < N) (hf : f k = true) : Fwd f N (k + 1) 1 k := by
  obtain ⟨h1, h2⟩ := h
  obtain ⟨e1, e2⟩ := Fwd.at_ (f := f) hk
  simp [hf] at e1 e2
  refine ⟨by omega, .inr ⟨by omega, ?_⟩⟩
  rcases h2 with h2 | h2
  · omega
  · omega
theorem Fwd.yes {f : Nat → Bool} {N k a b : Nat} (h : Fwd f N k a b) (hk : k < N) (hf : f k = true) (ha : 0 < a) : Fwd f N (k + 1) (a + 1) b := by
  obtain ⟨h1, h2⟩ := h
  obtain ⟨e1, e2⟩ := Fwd.at_ (f := f) hk
  simp [hf] at e1 e2
  exact ⟨by omega, .inr ⟨by omega, by omega⟩⟩
theorem Fwd.end_ {f : Nat → Bool} {N a b : Nat} (h : Fwd f N N a b) : a = bk f 0 N ∧ b = lo f 0 N := by
  obtain ⟨h1, h2⟩ := h
  simp [bk, lo] at h1 h2
  exact ⟨h1, by omega⟩
theorem Fwd.a_le {f : Nat → Bool} {N k a b : Nat} (h : Fwd f N k a b) : a ≤ N := by
  have := bk_le f 0 N
  have := h.1
  omega

/-- do the k-th pixels of both look alike? -/
def dif (ps qs : List Pix) (b1 b2 : Int) (k : Nat) : Bool := seenC ps b1 k != seenC qs b2 k
section
variable {w : World} {b1 b2 g gp n c g' gp' n' c' W H W' H' : Nat} {k1 k2 : Int} {ps qs : List Pix}
theorem apart_far (h : CanS w b1 g gp n c W H k1 ps) (h' : CanS w b2 g' gp' n' c' W' H' k2 qs) (hne : ¬ (W = W' ∧ H = H')) :
    Calls Try.prog 21 #[.pointer (some ⟨g, 0, none⟩), .pointer (some ⟨g', 0, none⟩)] w fun e w' => e = .returned (.tuple #[.int .i64 0, .int .i64 0, .int .i64 0, .int .i64 2]) ∧ Drawn w w' := by
  obtain ⟨p0, p1, p2, p3⟩ := h.blk.read4
  obtain ⟨q0, q1, q2, q3⟩ := h'.blk.read4
  have hc : ((W : Int) != (W' : Int)) = true ∨ (((W : Int) != (W' : Int)) = false ∧ ((H : Int) != (H' : Int)) = true) := by
    by_cases e : W = W'
    · right; simp; omega
    · left; simp; omega
  rcases hc with t0 | ⟨t0, t1⟩ <;>
  · go_enter Try.func21, Try.ntmps21
    go_wp2
    go_quiet (fail)
    go_wp2
    (try simp only [Exit.inBlock, Exit.then]); refine bodyPost_ret (results_tmp4 rfl _ _ _) rfl ?_
    exact ⟨rfl, Drawn.mk _ _⟩

set_option maxHeartbeats 2000000 in
theorem apart_near (h : CanS w b1 g gp n c W H k1 ps) (h' : CanS w b2 g' gp' n' c' W H k2 qs) :
    Calls Try.prog 21 #[.pointer (some ⟨g, 0, none⟩), .pointer (some ⟨g', 0, none⟩)] w fun e w' => e = .returned (.tuple #[.int .i64 (bk (dif ps qs k1 k2) 0 n : Nat), .int .i64 (lo (dif ps qs k1 k2) 0 n % W : Nat), .int .i64 (lo (dif ps qs k1 k2) 0 n / W : Nat), .int .i64 0]) ∧ Drawn w w' := by
  obtain ⟨p0, p1, p2, p3⟩ := h.blk.read4
  obtain ⟨q0, q1, q2, q3⟩ := h'.blk.read4
  obtain rfl : n = n' := by rw [h.sz.area, h'.sz.area]
  have t0 : ((W : Int) != (W : Int)) = false := by simp
  have t1 : ((H : Int) != (H : Int)) = false := by simp
  have hn := h.sz.le
  have hW := h.sz.w1
  have hW2 := h.sz.w2
  have hs1 := fun w' (hb : Below w.heap.size w w') k hk => seen_any (h.below hb) k hk
  have hs2 := fun w' (hb : Below w.heap.size w w') k hk => seen_any (h'.below hb) k hk
  go_enter Try.func21, Try.ntmps21
  go_wp2
  go_quiet (fail)
  have hd1 := Drawn.mk w nq
  have hb1 := hd1.below w.heap.size
  obtain ⟨r2, _, _, r1⟩ := (h.blk.drewN nq).read4
  clear p0 p1 p2 p3 q0 q1 q2 q3
  generalize w.drewN nq = w1 at *
  go_wp2_with fail
  go_loop [8, 9, 44] (fun a b i => ∃ k x y : Nat, k ≤ n ∧ i = .int .i64 k ∧ a = .int .i64 x ∧ b = .int .i64 y ∧ Fwd (dif ps qs k1 k2) n k x y) (fun _ _ i => n - (intOf i).toNat)
  case atStart => exact ⟨0, 0, 0, by omega, rfl, rfl, rfl, Fwd.zero _ _⟩
  case round =>
    obtain ⟨k, x, y, hk, rfl, rfl, rfl, hF⟩ := hrel
    by_cases hlt : k < n
    · have hxle := hF.a_le
      have e1 := hs1 w1 hb1 k hlt
      have e2 := hs2 w1 hb1 k hlt
      rcases hd : dif ps qs k1 k2 k with _ | _
      · have t3 : (seenC ps k1 k != seenC qs k2 k) = false := hd
        generalize seenC ps k1 k = s1 at e1 t3
        generalize seenC qs k2 k = s2 at e2 t3
        have hN := hF.no hlt hd
        go_wp2_with fail
        refine e1.mono ?_
        rintro e w' ⟨rfl, rfl⟩
        go_wp2_with fail
        refine e2.mono ?_
        rintro e w' ⟨rfl, rfl⟩
        go_wp2
        go_round
        case rel => exact ⟨k + 1, x, y, by omega, by go_num, rfl, rfl, hN⟩
        case measure => simp [intOf]; omega
      · have t3 : (seenC ps k1 k != seenC qs k2 k) = true := hd
        generalize seenC ps k1 k = s1 at e1 t3
        generalize seenC qs k2 k = s2 at e2 t3
        rcases Nat.eq_zero_or_pos x with rfl | hx
        · have hN := hF.yes0 hlt hd
          go_wp2_with fail
          refine e1.mono ?_
          rintro e w' ⟨rfl, rfl⟩
          go_wp2_with fail
          refine e2.mono ?_
          rintro e w' ⟨rfl, rfl⟩
          go_wp2
          go_round
          case rel => exact ⟨k + 1, 1, k, by omega, by go_num, rfl, rfl, hN⟩
          case measure => simp [intOf]; omega
        · have hN := hF.yes hlt hd hx
          have hx0 : ((x : Int) == 0) = false := by rw [beq_eq_false_iff_ne]; omega
          go_wp2_with fail
          refine e1.mono ?_
          rintro e w' ⟨rfl, rfl⟩
          go_wp2_with fail
          refine e2.mono ?_
          rintro e w' ⟨rfl, rfl⟩
          go_wp2
          go_round
          case rel => exact ⟨k + 1, x + 1, y, by omega, by go_num, by go_num, rfl, hN⟩
          case measure => simp [intOf]; omega
    · obtain rfl : k = n := by omega
      obtain ⟨rfl, rfl⟩ := hF.end_
      have hlo := lo_le (dif ps qs k1 k2) 0 k
      generalize hxx : bk (dif ps qs k1 k2) 0 k = xx at *
      generalize hyy : lo (dif ps qs k1 k2) 0 k = yy at *
      have hz : ((W : Int) == 0) = false := by rw [beq_eq_false_iff_ne]; omega
      have hmod : (yy : Int) % (W : Int) = ((yy % W : Nat) : Int) := by rw [Int.natCast_emod]
      have hquo : (yy : Int) / (W : Int) = ((yy / W : Nat) : Int) := by rw [Int.natCast_ediv]
      have hql : yy / W ≤ yy := Nat.div_le_self _ _
      generalize yy / W = qq at *
      generalize yy % W = rr at *
      go_wp2
      go_quiet (fail)
      go_wp2
      (try simp only [Exit.inBlock, Exit.then]); refine bodyPost_ret (results_tmp4 rfl _ _ _) rfl ?_
      exact ⟨by simp [hmod, hxx, hyy, hquo], hd1.trans (Drawn.mk _ _)⟩

/-- the walk downwards -/
theorem bk_down (f : Nat → Bool) (j m : Nat) (h : f j = true) : bk f j (m + 1) = bk f (j + 1) m + 1 ∧ lo f j (m + 1) = j := by
  simp [bk, lo, h]; omega
theorem bk_down0 (f : Nat → Bool) (j m : Nat) (h : f j = false) : bk f j (m + 1) = bk f (j + 1) m ∧ lo f j (m + 1) = lo f (j + 1) m := by
  simp [bk, lo, h]

theorem rapart_far (w : World) (g n c W H g' n' c' W' H' : Nat) (k1 k2 : Int) (hne : ¬ (W = W' ∧ H = H')) :
    Calls Try.prog 22 #[refV g n c W H k1, refV g' n' c' W' H' k2] w fun e w' => e = .returned (.tuple #[.int .i64 0, .int .i64 0, .int .i64 0, .int .i64 2]) ∧ Below w.heap.size w w' := by
  have hb1 := ((Below.refl w.heap.size w).alloc (Nat.le_refl _) (.cells #[.int .i64 W, .int .i64 H, .int .u32 k1, .slice (some ⟨g, 0, none⟩) n c] 31)).alloc (by simp) (.cells #[.int .i64 W', .int .i64 H', .int .u32 k2, .slice (some ⟨g', 0, none⟩) n' c'] 31)
  have hc : ((W : Int) != (W' : Int)) = true ∨ (((W : Int) != (W' : Int)) = false ∧ ((H : Int) != (H' : Int)) = true) := by
    by_cases e : W = W'
    · right; simp; omega
    · left; simp; omega
  unfold refV
  rcases hc with t0 | ⟨t0, t1⟩ <;>
  · go_enter Try.func22, Try.ntmps22
    go_wp2
    (try simp only [Exit.inBlock, Exit.then]); refine bodyPost_ret (results_tmp4 rfl _ _ _) rfl ?_
    exact ⟨rfl, hb1⟩

set_option maxHeartbeats 4000000 in
theorem rapart_near (h : RefS w b1 g n c W H k1 ps) (h' : RefS w b2 g' n' c' W H k2 qs) :
    Calls Try.prog 22 #[refV g n c W H k1, refV g' n' c' W H k2] w fun e w' => e = .returned (.tuple #[.int .i64 (bk (dif ps qs k1 k2) 0 n : Nat), .int .i64 (lo (dif ps qs k1 k2) 0 n % W : Nat), .int .i64 (lo (dif ps qs k1 k2) 0 n / W : Nat), .int .i64 0]) ∧ Below w.heap.size w w' := by
  obtain rfl : n = n' := by rw [h.sz.area, h'.sz.area]
  have t0 : ((W : Int) != (W : Int)) = false := by simp
  have t1 : ((H : Int) != (H : Int)) = false := by simp
  have hn := h.sz.le
  have hW := h.sz.w1
  have hW2 := h.sz.w2
  have hz : ((W : Int) == 0) = false := by rw [beq_eq_false_iff_ne]; omega
  have hs1 := fun w' (hb : Below w.heap.size w w') k hk => rseen_any (h.below hb) k hk
  have hs2 := fun w' (hb : Below w.heap.size w w') k hk => rseen_any (h'.below hb) k hk
  unfold refV at *
  have hb0 := ((Below.refl w.heap.size w).alloc (Nat.le_refl _) (.cells #[.int .i64 W, .int .i64 H, .int .u32 k1, .slice (some ⟨g, 0, none⟩) n c] 31)).alloc (by simp) (.cells #[.int .i64 W, .int .i64 H, .int .u32 k2, .slice (some ⟨g', 0, none⟩) n c'] 31)
  have ka := (Blk.new w 31 #[.int .i64 W, .int .i64 H, .int .u32 k1, .slice (some ⟨g, 0, none⟩) n c]).alloc (.cells #[.int .i64 W, .int .i64 H, .int .u32 k2, .slice (some ⟨g', 0, none⟩) n c'] 31)
  have kb := Blk.new (w.alloc (.cells #[.int .i64 W, .int .i64 H, .int .u32 k1, .slice (some ⟨g, 0, none⟩) n c] 31)) 31 #[.int .i64 W, .int .i64 H, .int .u32 k2, .slice (some ⟨g', 0, none⟩) n c']
  rw [World.size_alloc] at kb
  go_enter Try.func22, Try.ntmps22
  go_wp2_with fail
  obtain ⟨wx, hwx⟩ : ∃ wx, (w.alloc (.cells #[.int .i64 W, .int .i64 H, .int .u32 k1, .slice (some ⟨g, 0, none⟩) n c] 31)).alloc (.cells #[.int .i64 W, .int .i64 H, .int .u32 k2, .slice (some ⟨g', 0, none⟩) n c'] 31) = wx := ⟨_, rfl⟩
  rw [hwx] at hb0 ka kb ⊢
  clear hwx
  go_loopw [8, 9, 10, 11] (fun a x y i wr => ∃ j m : Nat, j + m = n ∧ i = .int .i64 ((j : Int) - 1) ∧ a = .int .i64 (bk (dif ps qs k1 k2) j m : Nat) ∧ x = .int .i64 (lo (dif ps qs k1 k2) j m % W : Nat) ∧ y = .int .i64 (lo (dif ps qs k1 k2) j m / W : Nat) ∧
    Below w.heap.size w wr ∧ Blk wr w.heap.size 31 #[.int .i64 W, .int .i64 H, .int .u32 k1, .slice (some ⟨g, 0, none⟩) n c] ∧ Blk wr (w.heap.size + 1) 31 #[.int .i64 W, .int .i64 H, .int .u32 k2, .slice (some ⟨g', 0, none⟩) n c']) (fun _ _ _ i _ => ((intOf i) + 1).toNat)
  case atStart => exact ⟨n, 0, by omega, rfl, rfl, by simp [lo], by simp [lo], hb0, ka, kb⟩
  case round =>
    obtain ⟨j, m, hjm, rfl, rfl, rfl, rfl, hbr, kar, kbr⟩ := hrel
    rcases Nat.eq_zero_or_pos j with rfl | hj
    · obtain rfl : m = n := by omega
      generalize hxx : bk (dif ps qs k1 k2) 0 m = xx at *
      go_wp2
      (try simp only [Exit.inBlock, Exit.then]); refine bodyPost_ret (results_tmp4 rfl _ _ _) rfl ?_
      exact ⟨by simp [hxx], hbr⟩
    · obtain ⟨i, rfl⟩ : ∃ i, j = i + 1 := ⟨j - 1, by omega⟩
      have e : ((i + 1 : Nat) : Int) - 1 = (i : Int) := by omega
      rw [e]
      have hle := bk_le (dif ps qs k1 k2) (i + 1) m
      have l0 := kar.lt
      have l1 := kbr.lt
      obtain ⟨p0, p1, p2, p3⟩ := kar.read4
      obtain ⟨q0, q1, q2, q3⟩ := kbr.read4
      have hb00 := (Below.refl wr.heap.size wr).drew
      have hs1 := fun w' (hb : Below w.heap.size w w') => hs1 w' hb i (by omega)
      have hs2 := fun w' (hb : Below w.heap.size w w') => hs2 w' hb i (by omega)
      rcases hd : dif ps qs k1 k2 i with _ | _
      · have t3 : (seenC ps k1 i != seenC qs k2 i) = false := hd
        obtain ⟨eb, el⟩ := bk_down0 (dif ps qs k1 k2) i m hd
        generalize hx1 : seenC ps k1 i = s1 at hs1 t3
        generalize hx2 : seenC qs k2 i = s2 at hs2 t3
        generalize hxx : bk (dif ps qs k1 k2) (i + 1) m = xx at *
        generalize hyy : lo (dif ps qs k1 k2) (i + 1) m = yy at *
        go_wp2_with fail
        go_region_held3 (fun w' => w'.cell? ⟨w.heap.size, 0, none⟩ = some (.int .i64 W) ∧ w'.cell? ⟨w.heap.size, 1, none⟩ = some (.int .i64 H) ∧ w'.cell? ⟨w.heap.size, 2, none⟩ = some (.int .u32 k1) ∧ w'.cell? ⟨w.heap.size, 3, none⟩ = some (.slice (some ⟨g, 0, none⟩) n c) ∧ w'.cell? ⟨w.heap.size + 1, 0, none⟩ = some (.int .i64 W) ∧ w'.cell? ⟨w.heap.size + 1, 1, none⟩ = some (.int .i64 H) ∧ w'.cell? ⟨w.heap.size + 1, 2, none⟩ = some (.int .u32 k2) ∧ w'.cell? ⟨w.heap.size + 1, 3, none⟩ = some (.slice (some ⟨g', 0, none⟩) n c') ∧ Below wr.heap.size wr w') (first | exact ⟨p0, p1, p2, p3, q0, q1, q2, q3, hb00⟩ | (go_split_ands; exact ⟨by assumption, by assumption, by assumption, by assumption, by assumption, by assumption, by assumption, by assumption, by assumption⟩) | (go_split_ands; exact ⟨cell_cut (by assumption) (by assumption) hbq (Nat.le_refl _) l0, cell_cut (by assumption) (by assumption) hbq (Nat.le_refl _) l0, cell_cut (by assumption) (by assumption) hbq (Nat.le_refl _) l0, cell_cut (by assumption) (by assumption) hbq (Nat.le_refl _) l0, cell_cut (by assumption) (by assumption) hbq (Nat.le_refl _) l1, cell_cut (by assumption) (by assumption) hbq (Nat.le_refl _) l1, cell_cut (by assumption) (by assumption) hbq (Nat.le_refl _) l1, cell_cut (by assumption) (by assumption) hbq (Nat.le_refl _) l1, below_cut (by assumption) hbq (Nat.le_refl _)⟩)) ((first | (go_at_call 40; with_reducible refine (hs1 _ (by first | exact hbr.drew | (go_split_ands; exact below_cut hbr (by assumption) (Nat.le_refl _)))).mono ?_; rintro e w' ⟨rfl, hbq⟩) | (go_at_call 40; with_reducible refine (hs2 _ (by first | exact hbr.drew | (go_split_ands; exact below_cut hbr (by assumption) (Nat.le_refl _)))).mono ?_; rintro e w' ⟨rfl, hbq⟩)))
        have hz : Below wr.heap.size wr w' := by go_split_ands; assumption
        have ka2 := kar.below hz l0
        have kb2 := kbr.below hz l1
        have hb2 := below_cut hbr hz (Nat.le_refl _)
        go_wp2
        go_roundw
        case rel => exact ⟨i, m + 1, by omega, rfl, by simp [eb], by simp [el], by simp [el], hb2, ka2, kb2⟩
        case measure => simp [intOf]
      · have t3 : (seenC ps k1 i != seenC qs k2 i) = true := hd
        obtain ⟨eb, el⟩ := bk_down (dif ps qs k1 k2) i m hd
        generalize hx1 : seenC ps k1 i = s1 at hs1 t3
        generalize hx2 : seenC qs k2 i = s2 at hs2 t3
        generalize hxx : bk (dif ps qs k1 k2) (i + 1) m = xx at *
        generalize hyy : lo (dif ps qs k1 k2) (i + 1) m = yy at *
        have hquo : (i : Int) / (W : Int) = ((i / W : Nat) : Int) := by rw [Int.natCast_ediv]
        have hql : i / W ≤ i := Nat.div_le_self _ _
        generalize hqq : i / W = qq at hquo hql
        go_wp2_with fail
        go_region_held3 (fun w' => w'.cell? ⟨w.heap.size, 0, none⟩ = some (.int .i64 W) ∧ w'.cell? ⟨w.heap.size, 1, none⟩ = some (.int .i64 H) ∧ w'.cell? ⟨w.heap.size, 2, none⟩ = some (.int .u32 k1) ∧ w'.cell? ⟨w.heap.size, 3, none⟩ = some (.slice (some ⟨g, 0, none⟩) n c) ∧ w'.cell? ⟨w.heap.size + 1, 0, none⟩ = some (.int .i64 W) ∧ w'.cell? ⟨w.heap.size + 1, 1, none⟩ = some (.int .i64 H) ∧ w'.cell? ⟨w.heap.size + 1, 2, none⟩ = some (.int .u32 k2) ∧ w'.cell? ⟨w.heap.size + 1, 3, none⟩ = some (.slice (some ⟨g', 0, none⟩) n c') ∧ Below wr.heap.size wr w') (first | exact ⟨p0, p1, p2, p3, q0, q1, q2, q3, hb00⟩ | (go_split_ands; exact ⟨by assumption, by assumption, by assumption, by assumption, by assumption, by assumption, by assumption, by assumption, by assumption⟩) | (go_split_ands; exact ⟨cell_cut (by assumption) (by assumption) hbq (Nat.le_refl _) l0, cell_cut (by assumption) (by assumption) hbq (Nat.le_refl _) l0, cell_cut (by assumption) (by assumption) hbq (Nat.le_refl _) l0, cell_cut (by assumption) (by assumption) hbq (Nat.le_refl _) l0, cell_cut (by assumption) (by assumption) hbq (Nat.le_refl _) l1, cell_cut (by assumption) (by assumption) hbq (Nat.le_refl _) l1, cell_cut (by assumption) (by assumption) hbq (Nat.le_refl _) l1, cell_cut (by assumption) (by assumption) hbq (Nat.le_refl _) l1, below_cut (by assumption) hbq (Nat.le_refl _)⟩)) ((first | (go_at_call 40; with_reducible refine (hs1 _ (by first | exact hbr.drew | (go_split_ands; exact below_cut hbr (by assumption) (Nat.le_refl _)))).mono ?_; rintro e w' ⟨rfl, hbq⟩) | (go_at_call 40; with_reducible refine (hs2 _ (by first | exact hbr.drew | (go_split_ands; exact below_cut hbr (by assumption) (Nat.le_refl _)))).mono ?_; rintro e w' ⟨rfl, hbq⟩)))
        have hz : Below wr.heap.size wr w' := by go_split_ands; assumption
        have ka2 := kar.below hz l0
        have kb2 := kbr.below hz l1
        have hb2 := below_cut hbr hz (Nat.le_refl _)
        go_wp2
        go_roundw
        case rel => exact ⟨i, m + 1, by omega, rfl, by simp [eb], by simp [el], by simp [el, hqq], hb2, ka2, kb2⟩
        case measure => simp [intOf]
end
end Go.Proofs.Ytfciaefjilobaaa
