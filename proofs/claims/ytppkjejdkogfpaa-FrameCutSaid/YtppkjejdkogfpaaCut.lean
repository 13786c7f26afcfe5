/- The walk of FrameCut: whatever the head, the instructions, the place of the cut and the first word, it answers true. -/
import Derived.Test.YtppkjejdkogfpaaForth
namespace Go.Proofs.Ytppkjejdkogfpaa
open Go.RowKit

theorem readTo_cut {ws : List Int} {k : Nat} (hk : k < 5) (h5 : 5 ≤ ws.length) (hl : ws.length ≤ 1048576) (hh : HeadTo ws 5) : ReadTo (ws.take k) 0 0 [] 14 k := by
  have hlen : (ws.take k).length = k := by rw [List.length_take]; omega
  refine .head (by omega) ⟨hk, fun j hj => ?_, .inl ⟨by omega, rfl⟩⟩
  obtain ⟨h1, h2⟩ := hh j (by omega)
  exact ⟨by omega, by rw [ix_take hj]; exact h2⟩
theorem readTo_first {x : Int} {r : List Int} (hl : (x :: r).length ≤ 1048576) (hx : x ≠ 119734787) : ReadTo (x :: r) 0 0 [] (if x = 50471687 then 21 else 20) 0 := by
  have e : wrongW 0 (ix (x :: r) 0) = if x = 50471687 then 21 else 20 := by simp [wrongW, ix, hx]
  refine .head hl ⟨by omega, HeadTo.zero _, .inr ⟨by simp, e.symm, ?_⟩⟩
  split <;> decide
theorem modW_set (g b x : Int) (L : List Ins) : (modW g b L).set 0 x = x :: ([65536, g, b, 0] ++ encL L) := rfl
theorem modW_cons (g b : Int) (L : List Ins) : modW g b L = 119734787 :: ([65536, g, b, 0] ++ encL L) := rfl
theorem WriteTo.bad {g b : Int} {l : List Ins} {ws : List Int} {e : Int} {i : Nat} (h : WriteTo g b l ws e i) : (e ≠ 0 ∧ ws = []) ∨ (e = 0 ∧ i = 0 ∧ ws = modW g b l ∧ ¬ (b = 0 ∨ 65536 < b) ∧ FaultTo l l.length) := by
  cases h with
  | bound _ => exact .inl ⟨by decide, rfl⟩
  | fault _ hf => exact .inl ⟨by rcases hf.2.2 with ⟨_, h⟩ | ⟨_, _, h⟩ <;> rw [h] <;> decide, rfl⟩
  | ok h1 h2 => exact .inr ⟨rfl, rfl, rfl, h1, h2⟩

set_option maxRecDepth 100000 in
set_option maxHeartbeats 4000000 in
theorem law_cut (g b : Int) (A : Option Addr) (n c : Nat) (l : List RI) (to first : Int) (w : World) (hg : 0 ≤ g ∧ g < 4294967296) (hbb : 0 ≤ b ∧ b < 4294967296) (hl : l.length = n) (hn : n ≤ 4398046511104) (hR : RawR w A l) (hU : ∀ x ∈ l, Under 4294967296 x.1.2) (hto0 : -9223372036854775808 ≤ to ∧ to ≤ 9223372036854775807) (hf0 : 0 ≤ first ∧ first < 4294967296) :
    Calls Try.prog 6 #[.agg #[.int .u32 g, .int .u32 b], .slice A n c, .int .i64 to, .int .u32 first] w fun e w' => e = .returned (.bool true) ∧ Below w.heap.size w w' := by
  have kh := Blk.new w 25 #[.int .u32 g, .int .u32 b]
  have hb0 := (Below.refl w.heap.size w).alloc (Nat.le_refl _) (.cells #[.int .u32 g, .int .u32 b] 25)
  have hs0 : (w.alloc (.cells #[.int .u32 g, .int .u32 b] 25)).heap.size = w.heap.size + 1 := by simp
  go_enter Try.func6, Try.ntmps6
  go_wp2_with fail
  generalize w.alloc (.cells #[.int .u32 g, .int .u32 b] 25) = w0 at *
  have hR0 := hR.below hb0
  refine region_cut (fun a a' w' => ∃ (gc : Nat) (s : Nat) (ws : List Int) (er : Int) (i : Nat) (A5 : Option Addr) (c5 : Nat), Wrote w0 w.heap.size g b l w' s ws er i A5 c5 ∧
    a' = (((((((((a.put (some 19) (.agg #[.int .u32 g, .int .u32 b])).put (some 20) (.slice A n c)).put (some 21) (.slice (some ⟨gc, 0, none⟩) n n)).put (some 22) (.tuple #[.slice A5 ws.length c5, .agg #[.int .i64 er, .int .i64 i]])).put (some 18) (.tuple #[.slice A5 ws.length c5, .agg #[.int .i64 er, .int .i64 i]])).put (some 23) (.slice A5 ws.length c5)).put (some 24) (.agg #[.int .i64 er, .int .i64 i])).put (some 10) (.pointer (some ⟨s, 0, none⟩))).put (some 9) (.slice A5 ws.length c5))) ?_ ?_
  · intro K1 hK1
    have hRd : RawR w0.drew A l := hR0.drewN 1
    have hRa : RawR (w0.alloc (.cells #[.int .i64 0, .int .i64 0] 29)).drew A l := (hR0.alloc _).drewN 1
    have hBd : Below w0.heap.size w0 w0.drew := (Below.refl _ _).drew
    have hBa : Below w0.heap.size w0 (w0.alloc (.cells #[.int .i64 0, .int .i64 0] 29)).drew := ((Below.refl _ _).alloc (Nat.le_refl _) _).drew
    have ksa : Blk (w0.alloc (.cells #[.int .i64 0, .int .i64 0] 29)).drew w0.heap.size 29 #[.int .i64 0, .int .i64 0] := Blk.new _ _ _
    have hlt0 : w.heap.size < w0.heap.size := by omega
    clear hs0
    obtain ⟨p0, p1⟩ := kh.read2
    have p2 := fun o => (kh.alloc o).cell 0
    have p3 := fun o => (kh.alloc o).cell 1
    simp at p2 p3
    go_region_law (first
      | (go_simp; go_at_call 23; refine (copied_any A n c l _ hl hn (by first | exact hRd | exact hRa)).mono ?_; rintro e w1 ⟨gc, l4, rfl, hl4, hraw4, hb4⟩; have hlen4 : l4.length = n := (by have := congrArg List.length hl4; simpa [insL, hl] using this); have hbx : Below w0.heap.size w0 w1 := (by first | exact below_cut hBd hb4 (Nat.le_refl _) | exact below_cut hBa hb4 (Nat.le_refl _)); have kh1 := kh.below hbx hlt0; obtain ⟨q0, q1⟩ := kh1.read2; have q2 := fun o => (kh1.alloc o).cell 0; have q3 := fun o => (kh1.alloc o).cell 1; simp at q2 q3; (try (have hks := ksa.below hb4 (by simp))))
      | (go_simp; go_at_call 22; refine (write_any g b _ n n l4 _ hlen4 (by omega) (by first | exact hraw4.reads | exact hraw4.reads.alloc _)).mono ?_; rintro e w2 ⟨ws, er, i, A5, c5, hwt, rfl, ho5, hb5⟩; have hby : Below w0.heap.size w0 w2 := (by first | exact below_cut hbx hb5 (Nat.le_refl _) | exact below_cut (hbx.alloc hbx.size _) hb5 (Nat.le_refl _)); have kh2 := kh.below hby hlt0; have hsx := hbx.size; have hsy := hby.size; (try (have hkt := hks.below hb5 (by have := hks.lt; first | exact this | (rw [World.size_alloc]; omega)))); (try (have hkt := (Blk.new w1 29 #[.int .i64 0, .int .i64 0]).below hb5 (by rw [World.size_alloc]; omega))); (try (obtain ⟨t0, t1, t2, t3, t4, t5⟩ := hkt.store2)); obtain ⟨u0, u1, u2, u3, u4, u5⟩ := (Blk.new w2 29 #[.int .i64 0, .int .i64 0]).store2))
    all_goals first
      | exact hK1.out _ _ ⟨gc, _, ws, er, i, A5, c5, Wrote.last hl4 hwt ho5 kh2 hby (by first | exact hsx | (rw [World.size_alloc]; omega)), by kernel_rfl⟩
      | exact hK1.out _ _ ⟨gc, _, ws, er, i, A5, c5, Wrote.early hl4 hwt ho5 kh2 hby (by first | exact hsx | (rw [World.size_alloc]; omega)) hkt (by first | exact hks.lt | (rw [World.size_alloc]; omega)) (by first | exact hsx | exact Nat.le_refl _) hlt0, by kernel_rfl⟩
  · rintro a' w2 ⟨gc, s, ws, er, i, A5, c5, ⟨hto, hown, hspot, hhead, hbelow, hlow⟩, rfl⟩
    have hB2 := below_cut hb0 hbelow (Nat.le_refl _)
    obtain ⟨p0, p1⟩ := hspot.read2
    rcases hto.bad with ⟨he, rfl⟩ | ⟨rfl, rfl, rfl, hbad, hF⟩
    · have heb : (er != 0) = true := by simpa using he
      simp only [List.length_nil]
      clear he hto
      go_wp2_with fail
      refine (awake_ok w2).mono ?_
      rintro e w3 ⟨rfl, hb3⟩
      go_wp2
      go_ret
      exact ⟨rfl, below_cut hB2 hb3 (Nat.le_refl _)⟩
    · have hwf : ∀ x ∈ insL l, wfIns x := fun x hx => by
        obtain ⟨y, hy, rfl⟩ := List.mem_map.1 hx
        exact ⟨hF.at_ _ hx, hR.op y hy, hU y hy⟩
      have hum := under_mod hg hbb hwf
      have hrm := readTo_mod (g := g) (b := b) (fun e => hbad (.inl e)) (by omega) hwf hF
      have hml := modW_length g b (insL l)
      have hall := hF.all
      have hht := headTo_mod (g := g) (b := b) (fun e => hbad (.inl e)) (by omega) (insL l)
      have hix0 : ix (modW g b (insL l)) 0 = 119734787 := rfl
      obtain ⟨N, hN⟩ : ∃ N, (modW g b (insL l)).length = N := ⟨_, rfl⟩
      have hN5 : 5 ≤ N := by omega
      have hNl : N ≤ 1048576 := by omega
      rw [hN] at hown
      rw [hN]
      have hd5 : decide ((N : Int) < 5) = false := by simp; omega
      have hN3 : N ≤ 35184372087808 := Nat.le_trans hNl (by decide)
      have HN := Lib.hid hN; have HNl := Lib.hid hNl; have Hml := Lib.hid hml; have Hall := Lib.hid hall
      have hN0 : 0 < N := by omega
      clear hto hF hN hNl hml hall hbad
      by_cases hk : 0 ≤ to ∧ to < 5
      · obtain ⟨k, rfl⟩ := Int.eq_ofNat_of_zero_le hk.1
        have hk5 : k < 5 := by omega
        have hkN : k ≤ N := by omega
        have hcap := own_cap hown
        have hkc : k ≤ c5 := by omega
        have hkI : decide ((k : Int) < 5) = true := by simp; omega
        have hpre := (Reads.of_own hown).prefix_ (m := k) hkN
        rw [← Ints_take] at hpre
        have hlk : k ≤ 35184372087808 := Nat.le_trans hkN hN3
        have hrc := readTo_cut hk5 (by have := HN.out; omega) (by have := HN.out; have := HNl.out; omega) hht
        have hkcI : (k : Int) ≤ (c5 : Int) := by omega
        clear hk
        go_wp2_with fail
        refine (copyWords _ k _ _ w2 hlk hpre).mono ?_
        rintro e w3 ⟨g3, rfl, ho3, hb3⟩
        have hB3 := below_cut hB2 hb3 (Nat.le_refl _)
        have hown3 := own_below hown hb3
        go_wp2_with fail
        have hr3 := Reads.of_own ho3
        refine (read_any (some ⟨g3, 0, none⟩) k k _ w3 hlk hr3 (fun v hv => hum v (List.mem_of_mem_take hv)) (Nat.le_refl k)).mono ?_
        rintro e w4 ⟨g4, b4, er4, p4, A4, c4, l4, hrd4, rfl, hraw4, hb4⟩
        obtain ⟨rfl, rfl, _, rfl, rfl⟩ := hrd4.one hrc
        have hB4 := below_cut hB3 hb4 (Nat.le_refl _)
        have hown4 := own_below hown3 hb4
        have hB5 := (hB4.alloc hB4.size (.cells #[.int .u32 0, .int .u32 0] 25)).alloc (by have := hB4.size; simp; omega) (.cells #[.int .i64 14, .int .i64 p4] 29)
        have hown5 := (hown4.alloc (.cells #[.int .u32 0, .int .u32 0] 25)).alloc (.cells #[.int .i64 14, .int .i64 p4] 29)
        have ky5 := Blk.new (w4.alloc (.cells #[.int .u32 0, .int .u32 0] 25)) 29 #[.int .i64 14, .int .i64 p4]
        rw [World.size_alloc] at ky5
        obtain ⟨a6, a7⟩ := ky5.read2
        clear p0 p1 hrd4 hrc
        go_wp2_with fail
        generalize (w4.alloc (.cells #[.int .u32 0, .int .u32 0] 25)).alloc (.cells #[.int .i64 14, .int .i64 p4] 29) = w5 at *
        refine (copyWords A5 N c5 _ w5 hN3 (Reads.of_own hown5)).mono ?_
        rintro e w6 ⟨g6, rfl, ho6, hb6⟩
        have hB6 := below_cut hB5 hb6 (Nat.le_refl _)
        have hown6 := own_below hown5 hb6
        have c0 := own_int_at ho6 hN0
        have f0 := ho6.frozenAt 0
        have hset := own_int_set ho6 0 first
        rw [modW_set] at hset
        have hg6 := own_lt ho6
        have hB7 := hB6.setCell (p := ⟨g6, 0, none⟩) (Nat.le_trans hB5.size hg6.1) (.int .u32 first)
        have hown7 := own_set_other (p := ⟨g6, 0, none⟩) hown6 (own_ne_high hown5 hg6.1) (.int .u32 first)
        have hus : Under 4294967296 (first :: ([65536, g, b, 0] ++ encL (insL l))) := fun v hv => by
          rcases List.mem_cons.1 hv with rfl | hv
          · exact ⟨hf0.1, hf0.2⟩
          · exact hum v (by rw [modW_cons]; exact List.mem_cons_of_mem _ hv)
        have hrs := Reads.of_own hset
        go_wp2_with fail
        refine (read_any (some ⟨g6, 0, none⟩) N N _ _ hN3 hrs hus (Nat.le_refl N)).mono ?_
        rintro e w8 ⟨g8, b8, er8, p8, A8, c8, l8, hrd8, rfl, hraw8, hb8⟩
        have hB8 := below_cut hB7 hb8 (Nat.le_refl _)
        have hown8 := own_below hown7 hb8
        have hlen2 : (first :: ([65536, g, b, 0] ++ encL (insL l))).length ≤ 1048576 := by have h1 := HN.out; have h2 := HNl.out; rw [modW_cons] at h1; simp only [List.length_cons] at h1 ⊢; omega
        clear c0 f0 hus hrs
        by_cases hfm : first = 119734787
        · subst hfm
          rw [← modW_cons] at hrd8
          obtain ⟨rfl, rfl, _, rfl, rfl⟩ := hrd8.one hrm
          have hB9 := (hB8.alloc hB8.size (.cells #[.int .u32 g8, .int .u32 b8] 25)).alloc (by have := hB8.size; simp; omega) (.cells #[.int .i64 0, .int .i64 0] 29)
          have hown9 := (hown8.alloc (.cells #[.int .u32 g8, .int .u32 b8] 25)).alloc (.cells #[.int .i64 0, .int .i64 0] 29)
          have ky9 := Blk.new (w8.alloc (.cells #[.int .u32 g8, .int .u32 b8] 25)) 29 #[.int .i64 0, .int .i64 0]
          rw [World.size_alloc] at ky9
          obtain ⟨b6, b7⟩ := ky9.read2
          obtain ⟨gz, cz, hAz, _, _⟩ := hown9.form hN0
          have hA5 : A5 = some ⟨gz, 0, none⟩ := by injection hAz
          subst hA5
          have d0 := own_int_at hown9 hN0
          rw [hix0] at d0
          clear hrd8 hrm
          go_wp2_with fail
          refine (awake_ok _).mono ?_
          rintro e w10 ⟨rfl, hb10⟩
          go_wp2
          go_ret
          exact ⟨rfl, below_cut hB9 hb10 (Nat.le_refl _)⟩
        · have hfb : (first == 119734787) = false := by simpa using hfm
          have hone := hrd8.one (readTo_first hlen2 hfm)
          by_cases hfs : first = 50471687
          · rw [if_pos hfs] at hone
            obtain ⟨rfl, rfl, _, rfl, rfl⟩ := hone
            have hB9 := (hB8.alloc hB8.size (.cells #[.int .u32 0, .int .u32 0] 25)).alloc (by have := hB8.size; simp; omega) (.cells #[.int .i64 21, .int .i64 0] 29)
            have hown9 := (hown8.alloc (.cells #[.int .u32 0, .int .u32 0] 25)).alloc (.cells #[.int .i64 21, .int .i64 0] 29)
            have ky9 := Blk.new (w8.alloc (.cells #[.int .u32 0, .int .u32 0] 25)) 29 #[.int .i64 21, .int .i64 0]
            rw [World.size_alloc] at ky9
            obtain ⟨b6, b7⟩ := ky9.read2
            obtain ⟨gz, cz, hAz, _, _⟩ := hown9.form hN0
            have hA5 : A5 = some ⟨gz, 0, none⟩ := by injection hAz
            subst hA5
            have d0 := own_int_at hown9 hN0
            rw [hix0] at d0
            subst hfs
            clear hrd8 hrm hfm
            go_wp2_with fail
            refine (awake_ok _).mono ?_
            rintro e w10 ⟨rfl, hb10⟩
            go_wp2
            go_ret
            exact ⟨rfl, below_cut hB9 hb10 (Nat.le_refl _)⟩
          · rw [if_neg hfs] at hone
            obtain ⟨rfl, rfl, _, rfl, rfl⟩ := hone
            have hB9 := (hB8.alloc hB8.size (.cells #[.int .u32 0, .int .u32 0] 25)).alloc (by have := hB8.size; simp; omega) (.cells #[.int .i64 20, .int .i64 0] 29)
            have hown9 := (hown8.alloc (.cells #[.int .u32 0, .int .u32 0] 25)).alloc (.cells #[.int .i64 20, .int .i64 0] 29)
            have ky9 := Blk.new (w8.alloc (.cells #[.int .u32 0, .int .u32 0] 25)) 29 #[.int .i64 20, .int .i64 0]
            rw [World.size_alloc] at ky9
            obtain ⟨b6, b7⟩ := ky9.read2
            obtain ⟨gz, cz, hAz, _, _⟩ := hown9.form hN0
            have hA5 : A5 = some ⟨gz, 0, none⟩ := by injection hAz
            subst hA5
            have d0 := own_int_at hown9 hN0
            rw [hix0] at d0
            have hfc : (first == 50471687) = false := by simpa using hfs
            clear hrd8 hrm hfm hfs
            go_wp2_with fail
            refine (awake_ok _).mono ?_
            rintro e w10 ⟨rfl, hb10⟩
            go_wp2
            go_ret
            exact ⟨rfl, below_cut hB9 hb10 (Nat.le_refl _)⟩
      · by_cases hneg : 0 ≤ to
        · have hd0 : decide (0 ≤ to) = true := by simpa using hneg
          have hd1 : decide (to < 5) = false := by simp; omega
          clear hneg hk
          go_wp2_with fail
          refine (copyWords A5 N c5 _ w2 hN3 (Reads.of_own hown)).mono ?_
          rintro e w6 ⟨g6, rfl, ho6, hb6⟩
          have hB6 := below_cut hB2 hb6 (Nat.le_refl _)
          have hown6 := own_below hown hb6
          have c0 := own_int_at ho6 hN0
          have f0 := ho6.frozenAt 0
          have hset := own_int_set ho6 0 first
          rw [modW_set] at hset
          have hg6 := own_lt ho6
          have hB7 := hB6.setCell (p := ⟨g6, 0, none⟩) (Nat.le_trans hB2.size hg6.1) (.int .u32 first)
          have hown7 := own_set_other (p := ⟨g6, 0, none⟩) hown6 (own_ne_high hown hg6.1) (.int .u32 first)
          have hus : Under 4294967296 (first :: ([65536, g, b, 0] ++ encL (insL l))) := fun v hv => by
            rcases List.mem_cons.1 hv with rfl | hv
            · exact ⟨hf0.1, hf0.2⟩
            · exact hum v (by rw [modW_cons]; exact List.mem_cons_of_mem _ hv)
          have hrs := Reads.of_own hset
          go_wp2_with fail
          refine (read_any (some ⟨g6, 0, none⟩) N N _ _ hN3 hrs hus (Nat.le_refl N)).mono ?_
          rintro e w8 ⟨g8, b8, er8, p8, A8, c8, l8, hrd8, rfl, hraw8, hb8⟩
          have hB8 := below_cut hB7 hb8 (Nat.le_refl _)
          have hown8 := own_below hown7 hb8
          have hlen2 : (first :: ([65536, g, b, 0] ++ encL (insL l))).length ≤ 1048576 := by have h1 := HN.out; have h2 := HNl.out; rw [modW_cons] at h1; simp only [List.length_cons] at h1 ⊢; omega
          clear c0 f0 hus hrs
          by_cases hfm : first = 119734787
          · subst hfm
            rw [← modW_cons] at hrd8
            obtain ⟨rfl, rfl, _, rfl, rfl⟩ := hrd8.one hrm
            have hB9 := (hB8.alloc hB8.size (.cells #[.int .u32 g8, .int .u32 b8] 25)).alloc (by have := hB8.size; simp; omega) (.cells #[.int .i64 0, .int .i64 0] 29)
            have hown9 := (hown8.alloc (.cells #[.int .u32 g8, .int .u32 b8] 25)).alloc (.cells #[.int .i64 0, .int .i64 0] 29)
            have ky9 := Blk.new (w8.alloc (.cells #[.int .u32 g8, .int .u32 b8] 25)) 29 #[.int .i64 0, .int .i64 0]
            rw [World.size_alloc] at ky9
            obtain ⟨b6, b7⟩ := ky9.read2
            obtain ⟨gz, cz, hAz, _, _⟩ := hown9.form hN0
            have hA5 : A5 = some ⟨gz, 0, none⟩ := by injection hAz
            subst hA5
            have d0 := own_int_at hown9 hN0
            rw [hix0] at d0
            clear hrd8 hrm
            go_wp2_with fail
            refine (awake_ok _).mono ?_
            rintro e w10 ⟨rfl, hb10⟩
            go_wp2
            go_ret
            exact ⟨rfl, below_cut hB9 hb10 (Nat.le_refl _)⟩
          · have hfb : (first == 119734787) = false := by simpa using hfm
            have hone := hrd8.one (readTo_first hlen2 hfm)
            by_cases hfs : first = 50471687
            · rw [if_pos hfs] at hone
              obtain ⟨rfl, rfl, _, rfl, rfl⟩ := hone
              have hB9 := (hB8.alloc hB8.size (.cells #[.int .u32 0, .int .u32 0] 25)).alloc (by have := hB8.size; simp; omega) (.cells #[.int .i64 21, .int .i64 0] 29)
              have hown9 := (hown8.alloc (.cells #[.int .u32 0, .int .u32 0] 25)).alloc (.cells #[.int .i64 21, .int .i64 0] 29)
              have ky9 := Blk.new (w8.alloc (.cells #[.int .u32 0, .int .u32 0] 25)) 29 #[.int .i64 21, .int .i64 0]
              rw [World.size_alloc] at ky9
              obtain ⟨b6, b7⟩ := ky9.read2
              obtain ⟨gz, cz, hAz, _, _⟩ := hown9.form hN0
              have hA5 : A5 = some ⟨gz, 0, none⟩ := by injection hAz
              subst hA5
              have d0 := own_int_at hown9 hN0
              rw [hix0] at d0
              subst hfs
              clear hrd8 hrm hfm
              go_wp2_with fail
              refine (awake_ok _).mono ?_
              rintro e w10 ⟨rfl, hb10⟩
              go_wp2
              go_ret
              exact ⟨rfl, below_cut hB9 hb10 (Nat.le_refl _)⟩
            · rw [if_neg hfs] at hone
              obtain ⟨rfl, rfl, _, rfl, rfl⟩ := hone
              have hB9 := (hB8.alloc hB8.size (.cells #[.int .u32 0, .int .u32 0] 25)).alloc (by have := hB8.size; simp; omega) (.cells #[.int .i64 20, .int .i64 0] 29)
              have hown9 := (hown8.alloc (.cells #[.int .u32 0, .int .u32 0] 25)).alloc (.cells #[.int .i64 20, .int .i64 0] 29)
              have ky9 := Blk.new (w8.alloc (.cells #[.int .u32 0, .int .u32 0] 25)) 29 #[.int .i64 20, .int .i64 0]
              rw [World.size_alloc] at ky9
              obtain ⟨b6, b7⟩ := ky9.read2
              obtain ⟨gz, cz, hAz, _, _⟩ := hown9.form hN0
              have hA5 : A5 = some ⟨gz, 0, none⟩ := by injection hAz
              subst hA5
              have d0 := own_int_at hown9 hN0
              rw [hix0] at d0
              have hfc : (first == 50471687) = false := by simpa using hfs
              clear hrd8 hrm hfm hfs
              go_wp2_with fail
              refine (awake_ok _).mono ?_
              rintro e w10 ⟨rfl, hb10⟩
              go_wp2
              go_ret
              exact ⟨rfl, below_cut hB9 hb10 (Nat.le_refl _)⟩
        · have hd0 : decide (0 ≤ to) = false := by simpa using hneg
          clear hneg hk
          go_wp2_with fail
          refine (copyWords A5 N c5 _ w2 hN3 (Reads.of_own hown)).mono ?_
          rintro e w6 ⟨g6, rfl, ho6, hb6⟩
          have hB6 := below_cut hB2 hb6 (Nat.le_refl _)
          have hown6 := own_below hown hb6
          have c0 := own_int_at ho6 hN0
          have f0 := ho6.frozenAt 0
          have hset := own_int_set ho6 0 first
          rw [modW_set] at hset
          have hg6 := own_lt ho6
          have hB7 := hB6.setCell (p := ⟨g6, 0, none⟩) (Nat.le_trans hB2.size hg6.1) (.int .u32 first)
          have hown7 := own_set_other (p := ⟨g6, 0, none⟩) hown6 (own_ne_high hown hg6.1) (.int .u32 first)
          have hus : Under 4294967296 (first :: ([65536, g, b, 0] ++ encL (insL l))) := fun v hv => by
            rcases List.mem_cons.1 hv with rfl | hv
            · exact ⟨hf0.1, hf0.2⟩
            · exact hum v (by rw [modW_cons]; exact List.mem_cons_of_mem _ hv)
          have hrs := Reads.of_own hset
          go_wp2_with fail
          refine (read_any (some ⟨g6, 0, none⟩) N N _ _ hN3 hrs hus (Nat.le_refl N)).mono ?_
          rintro e w8 ⟨g8, b8, er8, p8, A8, c8, l8, hrd8, rfl, hraw8, hb8⟩
          have hB8 := below_cut hB7 hb8 (Nat.le_refl _)
          have hown8 := own_below hown7 hb8
          have hlen2 : (first :: ([65536, g, b, 0] ++ encL (insL l))).length ≤ 1048576 := by have h1 := HN.out; have h2 := HNl.out; rw [modW_cons] at h1; simp only [List.length_cons] at h1 ⊢; omega
          clear c0 f0 hus hrs
          by_cases hfm : first = 119734787
          · subst hfm
            rw [← modW_cons] at hrd8
            obtain ⟨rfl, rfl, _, rfl, rfl⟩ := hrd8.one hrm
            have hB9 := (hB8.alloc hB8.size (.cells #[.int .u32 g8, .int .u32 b8] 25)).alloc (by have := hB8.size; simp; omega) (.cells #[.int .i64 0, .int .i64 0] 29)
            have hown9 := (hown8.alloc (.cells #[.int .u32 g8, .int .u32 b8] 25)).alloc (.cells #[.int .i64 0, .int .i64 0] 29)
            have ky9 := Blk.new (w8.alloc (.cells #[.int .u32 g8, .int .u32 b8] 25)) 29 #[.int .i64 0, .int .i64 0]
            rw [World.size_alloc] at ky9
            obtain ⟨b6, b7⟩ := ky9.read2
            obtain ⟨gz, cz, hAz, _, _⟩ := hown9.form hN0
            have hA5 : A5 = some ⟨gz, 0, none⟩ := by injection hAz
            subst hA5
            have d0 := own_int_at hown9 hN0
            rw [hix0] at d0
            clear hrd8 hrm
            go_wp2_with fail
            refine (awake_ok _).mono ?_
            rintro e w10 ⟨rfl, hb10⟩
            go_wp2
            go_ret
            exact ⟨rfl, below_cut hB9 hb10 (Nat.le_refl _)⟩
          · have hfb : (first == 119734787) = false := by simpa using hfm
            have hone := hrd8.one (readTo_first hlen2 hfm)
            by_cases hfs : first = 50471687
            · rw [if_pos hfs] at hone
              obtain ⟨rfl, rfl, _, rfl, rfl⟩ := hone
              have hB9 := (hB8.alloc hB8.size (.cells #[.int .u32 0, .int .u32 0] 25)).alloc (by have := hB8.size; simp; omega) (.cells #[.int .i64 21, .int .i64 0] 29)
              have hown9 := (hown8.alloc (.cells #[.int .u32 0, .int .u32 0] 25)).alloc (.cells #[.int .i64 21, .int .i64 0] 29)
              have ky9 := Blk.new (w8.alloc (.cells #[.int .u32 0, .int .u32 0] 25)) 29 #[.int .i64 21, .int .i64 0]
              rw [World.size_alloc] at ky9
              obtain ⟨b6, b7⟩ := ky9.read2
              obtain ⟨gz, cz, hAz, _, _⟩ := hown9.form hN0
              have hA5 : A5 = some ⟨gz, 0, none⟩ := by injection hAz
              subst hA5
              have d0 := own_int_at hown9 hN0
              rw [hix0] at d0
              subst hfs
              clear hrd8 hrm hfm
              go_wp2_with fail
              refine (awake_ok _).mono ?_
              rintro e w10 ⟨rfl, hb10⟩
              go_wp2
              go_ret
              exact ⟨rfl, below_cut hB9 hb10 (Nat.le_refl _)⟩
            · rw [if_neg hfs] at hone
              obtain ⟨rfl, rfl, _, rfl, rfl⟩ := hone
              have hB9 := (hB8.alloc hB8.size (.cells #[.int .u32 0, .int .u32 0] 25)).alloc (by have := hB8.size; simp; omega) (.cells #[.int .i64 20, .int .i64 0] 29)
              have hown9 := (hown8.alloc (.cells #[.int .u32 0, .int .u32 0] 25)).alloc (.cells #[.int .i64 20, .int .i64 0] 29)
              have ky9 := Blk.new (w8.alloc (.cells #[.int .u32 0, .int .u32 0] 25)) 29 #[.int .i64 20, .int .i64 0]
              rw [World.size_alloc] at ky9
              obtain ⟨b6, b7⟩ := ky9.read2
              obtain ⟨gz, cz, hAz, _, _⟩ := hown9.form hN0
              have hA5 : A5 = some ⟨gz, 0, none⟩ := by injection hAz
              subst hA5
              have d0 := own_int_at hown9 hN0
              rw [hix0] at d0
              have hfc : (first == 50471687) = false := by simpa using hfs
              clear hrd8 hrm hfm hfs
              go_wp2_with fail
              refine (awake_ok _).mono ?_
              rintro e w10 ⟨rfl, hb10⟩
              go_wp2
              go_ret
              exact ⟨rfl, below_cut hB9 hb10 (Nat.le_refl _)⟩
end Go.Proofs.Ytppkjejdkogfpaa
