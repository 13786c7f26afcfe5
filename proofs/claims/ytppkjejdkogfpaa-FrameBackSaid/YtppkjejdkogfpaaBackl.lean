/- The walk of FrameBack: whatever the words, it answers true. -/
import Derived.Test.YtppkjejdkogfpaaBackA
namespace Go.Proofs.Ytppkjejdkogfpaa
open Go.RowKit Go.Shelf
attribute [local go_sem] Oper.semAt_some

set_option maxRecDepth 100000 in
set_option maxHeartbeats 0 in
theorem back_in (A : Option Addr) (n c : Nat) (ws : List Int) (w : World) (hn : n ≤ 35184372087808) (hu : Under 4294967296 ws) (hr : Reads w w.heap.size 1 A n (Ints .u32 ws)) :
    CallsIn Fence.wide 9 Try.prog 9 #[.slice A n c] w fun e w' => e = .returned (.bool true) ∧ Below w.heap.size w w' := by
  have hlen := hr.len
  have k1 := (Blk.new w 22 #[.slice A n c]).alloc (.cells #[.bool false] 4)
  have k2 := Blk.new (w.alloc (.cells #[.slice A n c] 22)) 4 #[.bool false]
  rw [World.size_alloc] at k2
  have hb := ((Below.refl w.heap.size w).alloc (Nat.le_refl _) (.cells #[.slice A n c] 22)).alloc (by simp) (.cells #[.bool false] 4)
  have hsz2 : ((w.alloc (.cells #[.slice A n c] 22)).alloc (.cells #[.bool false] 4)).heap.size = w.heap.size + 2 := by simp
  have p0 := k1.cell 0
  simp at p0
  refine callsIn_of_wp_marks Try.func9 rfl trivial ?_ rfl
  simp only [Try.ntmps9, List.size_toArray, List.length_cons, List.length_nil, Nat.reduceAdd, Nat.reduceSub, Array.replicate_succ, Array.replicate_zero, List.push_toArray, List.append_toArray, List.nil_append, List.cons_append]
  gi_wp2_with fail
  generalize (w.alloc (.cells #[.slice A n c] 22)).alloc (.cells #[.bool false] 4) = w2 at *
  have hr2 := (hr.below hb).more (B' := w2.heap.size) hb.size
  refine ⟨trivial, (callsIn_wide.2 (copyWords A n c ws w2 hn hr2)).mono ?_⟩
  rintro e w3 ⟨g3, rfl, ho3, hb3⟩
  have hB3 := below_cut hb hb3 (Nat.le_refl _)
  have k13 := k1.below hb3 (by omega)
  have k23 := k2.below hb3 (by omega)
  have hr3 := Reads.of_own ho3
  have hs3 := hb3.size
  gi_wp2_with fail
  refine ⟨trivial, (callsIn_wide.2 (read_any (some ⟨g3, 0, none⟩) n n ws w3 hn hr3 hu (Nat.le_refl n))).mono ?_⟩
  rintro e w4 ⟨g, b, er, p, A4, c4, l, hrd, rfl, hraw, hb4⟩
  have hB4 := below_cut hB3 hb4 (Nat.le_refl _)
  have k14 := k13.below hb4 (by omega)
  have k24 := k23.below hb4 (by omega)
  have hs4 := hb4.size
  -- the three variables
  have hB5 := ((hB4.alloc hB4.size (.cells #[.int .u32 g, .int .u32 b] 25)).alloc (by have := hB4.size; simp; omega) (.cells #[.slice A4 l.length c4] 26)).alloc (by have := hB4.size; simp; omega) (.cells #[.int .i64 er, .int .i64 p] 29)
  have k15 := ((k14.alloc (.cells #[.int .u32 g, .int .u32 b] 25)).alloc (.cells #[.slice A4 l.length c4] 26)).alloc (.cells #[.int .i64 er, .int .i64 p] 29)
  have k25 := ((k24.alloc (.cells #[.int .u32 g, .int .u32 b] 25)).alloc (.cells #[.slice A4 l.length c4] 26)).alloc (.cells #[.int .i64 er, .int .i64 p] 29)
  have k35 := ((Blk.new w4 25 #[.int .u32 g, .int .u32 b]).alloc (.cells #[.slice A4 l.length c4] 26)).alloc (.cells #[.int .i64 er, .int .i64 p] 29)
  have k45 := (Blk.new (w4.alloc (.cells #[.int .u32 g, .int .u32 b] 25)) 26 #[.slice A4 l.length c4]).alloc (.cells #[.int .i64 er, .int .i64 p] 29)
  have k55 := Blk.new ((w4.alloc (.cells #[.int .u32 g, .int .u32 b] 25)).alloc (.cells #[.slice A4 l.length c4] 26)) 29 #[.int .i64 er, .int .i64 p]
  simp only [World.size_alloc] at k45 k55
  have hD5 : Below w4.heap.size w4 (((w4.alloc (.cells #[.int .u32 g, .int .u32 b] 25)).alloc (.cells #[.slice A4 l.length c4] 26)).alloc (.cells #[.int .i64 er, .int .i64 p] 29)) := (((Below.refl w4.heap.size w4).alloc (Nat.le_refl _) _).alloc (by simp) _).alloc (by simp; omega) _
  have hraw5 := hraw.below hD5
  have hs5 : (((w4.alloc (.cells #[.int .u32 g, .int .u32 b] 25)).alloc (.cells #[.slice A4 l.length c4] 26)).alloc (.cells #[.int .i64 er, .int .i64 p] 29)).heap.size = w4.heap.size + 1 + 1 + 1 := by simp
  have q1 := k15.cell 0
  have q2 := k25.cell 0
  have f2 := k25.frozen 0
  obtain ⟨q3, q3'⟩ := k35.read2
  have q4 := k45.cell 0
  obtain ⟨q5, q5'⟩ := k55.read2
  simp at q1 q2 q4
  rcases hrd.cases_ with ⟨he, rfl, rfl, hl⟩ | ⟨rfl, rfl, hle, hht, rfl, rfl, L, E, hG, hE, hl⟩
  · obtain rfl : l = [] := by simpa using hl
    have heb : (er != 0) = true := by simpa using he
    simp only [List.length_nil] at *
    clear he hl hrd p0
    gi_wp2_with fail
    refine ⟨trivial, (callsIn_wide.2 (awake_ok _)).mono ?_⟩
    rintro e w6 ⟨rfl, hb6⟩
    have k26 := k25.below hb6 k25.lt
    have q26 := k26.cell 0
    have f26 := k26.frozen 0
    simp at q26
    gi_wp2_with fail
    refine ⟨.bool true, by rw [results_c1 rfl]; go_simp, ?_⟩
    exact ⟨rfl, (below_cut hB5 hb6 (Nat.le_refl _)).setCell (p := ⟨w.heap.size + 1, 0, none⟩) (by simp) _⟩
  · obtain ⟨hm, hEe, hbd, hF, h5⟩ := mod_back hu hle hht hG hE
    rw [← hl] at hm hF
    have hn5 : decide ((n : Int) < 5) = false := by simp; omega
    have h2n : 2 < n := by omega
    have h3n : 3 < n := by omega
    have hn42 : l.length ≤ 4398046511104 := by have h1 := congrArg List.length hl; have h2 := hG.len; simp at h1; omega
    gi_wp2_with fail
    generalize ((w4.alloc (.cells #[.int .u32 (ix ws 2), .int .u32 (ix ws 3)] 25)).alloc (.cells #[.slice A4 l.length c4] 26)).alloc (.cells #[.int .i64 0, .int .i64 0] 29) = w5 at *
    have hr5 := hr.below hB5
    obtain ⟨ba, off, hAe, hbalt, hcells⟩ := hr5.ints (by omega)
    subst hAe
    have c2 := hcells 2 h2n
    have c3 := hcells 3 h3n
    have Hm := Lib.hid hm; have HF := Lib.hid hF; have Hl := Lib.hid hl; have Hle := Lib.hid hle
    clear hcells p0 hm hF hl hle hrd
    refine wpIn_wide.2 ?_
    go_quiet (fail)
    gi_wp2_with fail
    have k16 := k15.drewN nq
    have k26 := k25.drewN nq
    have k36 := k35.drewN nq
    have k46 := k45.drewN nq
    have hR6 := hraw5.reads.drewN nq
    have hB6 := below_drewN hB5 nq
    have hs6 : (w5.drewN nq).heap.size = w4.heap.size + 1 + 1 + 1 := hs5
    generalize w5.drewN nq = w6 at *
    refine wpIn_wide.2 ?_
    refine region_cut0 (fun a a' w' => ∃ (gc : Nat) (s : Nat) (wt : List Int) (er : Int) (i : Nat) (A5 : Option Addr) (c5 : Nat), Wrote w6 w4.heap.size (ix ws 2) (ix ws 3) l w' s wt er i A5 c5 ∧
      a' = (((((((((a.put (some 58) (.agg #[.int .u32 (ix ws 2), .int .u32 (ix ws 3)])).put (some 59) (.slice A4 l.length c4)).put (some 60) (.slice (some ⟨gc, 0, none⟩) l.length l.length)).put (some 61) (.tuple #[.slice A5 wt.length c5, .agg #[.int .i64 er, .int .i64 i]])).put (some 57) (.tuple #[.slice A5 wt.length c5, .agg #[.int .i64 er, .int .i64 i]])).put (some 62) (.slice A5 wt.length c5)).put (some 63) (.agg #[.int .i64 er, .int .i64 i])).put (some 7) (.pointer (some ⟨s, 0, none⟩))).put (some 6) (.slice A5 wt.length c5))) ?_ ?_
    · intro K1 hK1
      have hRd : RawR w6.drew A4 l := hR6.drewN 1
      have hRa : RawR (w6.alloc (.cells #[.int .i64 0, .int .i64 0] 29)).drew A4 l := (hR6.alloc _).drewN 1
      have hBd : Below w6.heap.size w6 w6.drew := (Below.refl _ _).drew
      have hBa : Below w6.heap.size w6 (w6.alloc (.cells #[.int .i64 0, .int .i64 0] 29)).drew := ((Below.refl _ _).alloc (Nat.le_refl _) _).drew
      have ksa : Blk (w6.alloc (.cells #[.int .i64 0, .int .i64 0] 29)).drew w6.heap.size 29 #[.int .i64 0, .int .i64 0] := Blk.new _ _ _
      have hlt0 : w4.heap.size < w6.heap.size := by omega
      clear hs6
      obtain ⟨p0, p1⟩ := k36.read2
      have p2 := fun o => (k36.alloc o).cell 0
      have p3 := fun o => (k36.alloc o).cell 1
      simp at p2 p3
      have p4 := k46.cell 0
      have p5 := fun o => (k46.alloc o).cell 0
      simp at p4 p5
      go_region_law (first
        | (go_simp; go_at_call 23; refine (copied_any A4 l.length c4 l _ rfl hn42 (by first | exact hRd | exact hRa)).mono ?_; rintro e w1 ⟨gc, l4, rfl, hl4, hraw4, hb4⟩; have hlen4 : l4.length = l.length := (by have := congrArg List.length hl4; simpa [insL] using this); have hbx : Below w6.heap.size w6 w1 := (by first | exact below_cut hBd hb4 (Nat.le_refl _) | exact below_cut hBa hb4 (Nat.le_refl _)); have kh1 := k36.below hbx hlt0; obtain ⟨q0, q1⟩ := kh1.read2; have q2 := fun o => (kh1.alloc o).cell 0; have q3 := fun o => (kh1.alloc o).cell 1; simp at q2 q3; (try (have hks := ksa.below hb4 (by simp))))
        | (go_simp; go_at_call 22; refine (write_any (ix ws 2) (ix ws 3) _ l.length l.length l4 _ hlen4 (by omega) (by first | exact hraw4.reads | exact hraw4.reads.alloc _)).mono ?_; rintro e w2 ⟨wt, er, i, A5, c5, hwt, rfl, ho5, hb5⟩; have hby : Below w6.heap.size w6 w2 := (by first | exact below_cut hbx hb5 (Nat.le_refl _) | exact below_cut (hbx.alloc hbx.size _) hb5 (Nat.le_refl _)); have kh2 := k36.below hby hlt0; have hsx := hbx.size; have hsy := hby.size; (try (have hkt := hks.below hb5 (by have := hks.lt; first | exact this | (rw [World.size_alloc]; omega)))); (try (have hkt := (Blk.new w1 29 #[.int .i64 0, .int .i64 0]).below hb5 (by rw [World.size_alloc]; omega))); (try (obtain ⟨t0, t1, t2, t3, t4, t5⟩ := hkt.store2)); obtain ⟨u0, u1, u2, u3, u4, u5⟩ := (Blk.new w2 29 #[.int .i64 0, .int .i64 0]).store2))
      all_goals first
        | exact hK1.out _ _ ⟨gc, _, wt, er, i, A5, c5, Wrote.last hl4 hwt ho5 kh2 hby (by first | exact hsx | (rw [World.size_alloc]; omega)), by kernel_rfl⟩
        | exact hK1.out _ _ ⟨gc, _, wt, er, i, A5, c5, Wrote.early hl4 hwt ho5 kh2 hby (by first | exact hsx | (rw [World.size_alloc]; omega)) hkt (by first | exact hks.lt | (rw [World.size_alloc]; omega)) (by first | exact hsx | exact Nat.le_refl _) hlt0, by kernel_rfl⟩
    · rintro a' w7 ⟨gc, s, wt, er, i, A5, c5, ⟨hto, hown, hspot, hhead, hbelow, hlow⟩, rfl⟩
      obtain ⟨e1, rfl, rfl⟩ := hto.one (.ok hbd HF.out)
      rw [show modW (ix ws 2) (ix ws 3) (insL l) = ws from Hm.out] at e1
      subst e1
      rw [hlen] at hown
      rw [hlen]
      have hB7 := below_cut hB6 hbelow (Nat.le_refl _)
      have k17 := k16.below hbelow k16.lt
      have k27 := k26.below hbelow k26.lt
      have k47 := k46.below hbelow k46.lt
      have hR7 := hR6.below hbelow
      have hszn : (5 : Int) + (sz (insL l) : Int) = (n : Int) := by
        have h1 := modW_length (ix wt 2) (ix wt 3) (insL l)
        rw [show modW (ix wt 2) (ix wt 3) (insL l) = wt from Hm.out] at h1
        omega
      have Hszn := Lib.hid hszn
      have q47 := k47.cell 0
      simp at q47
      clear k15 k25 k35 k45 k55 k16 k26 k36 k46 q1 q2 q3 q3' q4 q5 q5' f2 c2 c3 hto hszn k14 k24 k13 k23 k1 k2 hraw5 hR6 hr3 ho3 hr2 hbelow hraw hD5
      gi_wp2_with fail
      refine ⟨trivial, (callsIn_wide.2 (copied_any A4 l.length c4 l w7 rfl hn42 hR7)).mono ?_⟩
      rintro e w8 ⟨g8, l8, rfl, hl8, hraw8, hb8⟩
      have hlen8 : l8.length = l.length := by have := congrArg List.length hl8; simpa [insL] using this
      gi_wp2_with fail
      refine ⟨trivial, (callsIn_wide.2 (size_any _ l.length l.length l8 w8 hlen8 (by omega) hraw8.reads)).mono ?_⟩
      rintro e w9 h
      obtain ⟨z, ez, hzt, rfl, hb9⟩ := SizeIs.to h
      clear h
      rw [hl8] at hzt
      obtain ⟨e2, rfl⟩ := hzt.one (.ok HF.out)
      rw [Hszn.out] at e2
      subst e2
      have hb79 : Below w7.heap.size w7 w9 := hb8.trans (hb9.mono hb8.size)
      have hB9 := below_cut hB7 hb79 (Nat.le_refl _)
      have k19 := k17.below hb79 k17.lt
      have k29 := k27.below hb79 k27.lt
      have k49 := k47.below hb79 k47.lt
      have hR9 := hR7.below hb79
      have hspot9 := hspot.below hb79 hspot.lt
      have hown9 := own_below hown hb79
      have hr9 := (hr.below hB9).more (B' := w9.heap.size) hB9.size
      obtain ⟨q1, q2⟩ := hspot9.read2
      have q3 := k19.cell 0
      simp at q3
      have Hl8 := Lib.hid hl8
      clear hl8 hraw8 hb8 hb9 hb79 hzt q47 k17 k27 k47 hR7 hspot hown
      gi_wp2_with fail
      refine ⟨trivial, (callsIn_wide.2 (words_same _ _ n n _ _ _ _ w9 (by omega) (Reads.of_own hown9) hr9)).mono ?_⟩
      rintro e w10 ⟨rfl, m10, rfl⟩
      rw [sameB_refl]
      have hB10 := below_drewN hB9 m10
      have k110 := k19.drewN m10
      have k210 := k29.drewN m10
      have k410 := k49.drewN m10
      have hR10 := hR9.drewN m10
      have hs10 : (w9.drewN m10).heap.size = w9.heap.size := rfl
      generalize w9.drewN m10 = w10 at *
      have q31 := k110.cell 0
      simp at q31
      have hB11 := (hB10.alloc hB10.size (.cells #[.int .i64 0] 3)).alloc (by have := hB10.size; simp; omega) (.cells #[.int .i64 5] 3)
      have k111 := (k110.alloc (.cells #[.int .i64 0] 3)).alloc (.cells #[.int .i64 5] 3)
      have kk11 := (Blk.new w10 3 #[.int .i64 0]).alloc (.cells #[.int .i64 5] 3)
      have kp11 := Blk.new (w10.alloc (.cells #[.int .i64 0] 3)) 3 #[.int .i64 5]
      rw [World.size_alloc] at kp11
      have hC11 : Below w10.heap.size w10 ((w10.alloc (.cells #[.int .i64 0] 3)).alloc (.cells #[.int .i64 5] 3)) := ((Below.refl _ _).alloc (Nat.le_refl _) _).alloc (by simp) _
      have hs11 : ((w10.alloc (.cells #[.int .i64 0] 3)).alloc (.cells #[.int .i64 5] 3)).heap.size = w10.heap.size + 2 := by simp
      have hr11 := (hr.below hB11).more (B' := ((w10.alloc (.cells #[.int .i64 0] 3)).alloc (.cells #[.int .i64 5] 3)).heap.size) hB11.size
      have q4 := k111.cell 0
      simp at q4
      clear hs10
      clear hown9 hspot9 q1 q2 q3 hR9 k19 k29 k49 k111
      gi_wp2_with fail
      generalize (w10.alloc (.cells #[.int .i64 0] 3)).alloc (.cells #[.int .i64 5] 3) = w11 at *
      refine ⟨trivial, (callsIn_wide.2 (copyWords _ n c wt w11 hn hr11)).mono ?_⟩
      rintro e w12 ⟨g12, rfl, ho12, hb12⟩
      gi_wp2_with fail
      have hnil := fun W B => run_eql_func_nil W 41 Try.underlying41 (.func 34) #[] #[.pointer (some ⟨B, 0, none⟩)]
      refine ⟨trivial, (each_in _ _ (some ⟨g12, 0, none⟩) n n rfl _).mono ?_⟩
      rintro e w' ⟨rfl, rfl⟩
      gi_wp2_with fail
      have hg12 := own_lt ho12
      have hs12 := hb12.size
      have hr12 := Reads.of_own ho12
      have hr13 := hr12.alloc (Nat.le_refl _) (.cells #[.slice (some ⟨g12, 0, none⟩) n n] 22)
      have hbox := (Blk.new w12 22 #[.slice (some ⟨g12, 0, none⟩) n n]).cell 0
      have hI0 : BInv w10 (w12.heap.size + 1) 0 5 (w12.alloc (.cells #[.slice (some ⟨g12, 0, none⟩) n n] 22)) :=
        ⟨(below_cut hC11 hb12 (Nat.le_refl _)).alloc (by omega) _, (kk11.below hb12 kk11.lt).alloc _, (kp11.below hb12 kp11.lt).alloc _, by simp, by omega⟩
      have hs13 : (w12.alloc (.cells #[.slice (some ⟨g12, 0, none⟩) n n] 22)).heap.size = w12.heap.size + 1 := by simp
      generalize w12.alloc (.cells #[.slice (some ⟨g12, 0, none⟩) n n] 22) = w13 at *
      simp at hbox
      clear kk11 kp11 hC11 hr11 q4 q31 hB11 hnil
      have hins := Hl.out
      refine wpIn_range_g rfl (by omega) (gf := 34) (lb := #[.pointer (some ⟨w12.heap.size, 0, none⟩)]) rfl trivial (enters_of Try.func34 (by kernel_rfl) rfl)
        (eachB_stops _ (by omega) w12.heap.size g12 w12.heap.size n n E (w12.heap.size + 1) (some ⟨g12, 0, none⟩) wt L w13 hn (Nat.le_refl n) hu hG (fun ad h => by cases h; rfl) (by omega) (by omega) (by omega) (by omega) hbox hr13) (fun h k => h.trans k) (fun W o o' _ => KeepB.put W o' (by omega) (by omega)) (fun _ => rfl)
        (fun pre W => BInv w10 (w12.heap.size + 1) pre.length (atEnd pre) W) (fun _ _ _ => False) (fun pre W W' row h hg hr => h.keep (B := w13.heap.size) (by omega) hg hr) (fun _ _ _ _ _ hs _ _ => hs) hI0
        (fun pre x a' W => ∃ pb, w12.heap.size + 1 ≤ pb ∧ Blk W pb 45 #[.int .u16 x.2.1.1, .slice x.2.2.1 x.2.1.2.length x.2.2.2] ∧ Handed (w12.heap.size + 1) L pre x W ∧ a' = { tmps := #[Value.slice (some { block := ba, off := off }) n c, Value.pointer (some { block := w.heap.size, off := 0 }), Value.pointer (some { block := w.heap.size + 1, off := 0 }), Value.pointer (some { block := w4.heap.size, off := 0 }), Value.pointer (some { block := w4.heap.size + 1, off := 0 }), Value.pointer (some { block := w4.heap.size + 1 + 1, off := 0 }), Value.slice A5 n c5, Value.pointer (some { block := s, off := 0 }), Value.int IntKind.i64 ↑n, Value.int IntKind.i64 0, Value.pointer (some { block := w10.heap.size, off := 0 }), Value.pointer (some { block := w10.heap.size + 1, off := 0 }), Value.func (Fn.func 34) #[] #[Value.pointer (some { block := w12.heap.size, off := 0 })], Value.int IntKind.i64 (x.1 : Int), Value.pointer (some { block := pb, off := 0 }), undef, undef, Value.tuple #[Value.agg #[Value.int IntKind.u32 (ix wt 2), Value.int IntKind.u32 (ix wt 3)], Value.slice A4 l.length c4, Value.agg #[Value.int IntKind.i64 0, Value.int IntKind.i64 0]], Value.slice (some { block := ba, off := off }) n c, Value.slice (some { block := g3, off := 0 }) n n, Value.tuple #[Value.agg #[Value.int IntKind.u32 (ix wt 2), Value.int IntKind.u32 (ix wt 3)], Value.slice A4 l.length c4, Value.agg #[Value.int IntKind.i64 0, Value.int IntKind.i64 0]], Value.agg #[Value.int IntKind.u32 (ix wt 2), Value.int IntKind.u32 (ix wt 3)], Value.slice A4 l.length c4, Value.agg #[Value.int IntKind.i64 0, Value.int IntKind.i64 0], Value.pointer (some { block := w4.heap.size + 1 + 1, off := 0 }), Value.int IntKind.i64 0, Value.bool false, undef, undef, undef, undef, undef, undef, undef, undef, undef, undef, undef, Value.slice (some { block := ba, off := off }) n c, Value.int IntKind.i64 ↑n, Value.bool false, Value.bool false, Value.pointer (some { block := w4.heap.size, off := 0 }), Value.int IntKind.u32 (ix wt 2), Value.slice (some { block := ba, off := off }) n c, Value.pointer (some { block := ba, off := off + 2 }), Value.int IntKind.u32 (ix wt 2), Value.bool false, Value.bool false, Value.bool false, Value.pointer (some { block := w4.heap.size, off := 1 }), Value.int IntKind.u32 (ix wt 3), Value.slice (some { block := ba, off := off }) n c, Value.pointer (some { block := ba, off := off + 3 }), Value.int IntKind.u32 (ix wt 3), Value.bool false, Value.bool false, Value.tuple #[Value.slice A5 n c5, Value.agg #[Value.int IntKind.i64 0, Value.int IntKind.i64 0]], Value.agg #[Value.int IntKind.u32 (ix wt 2), Value.int IntKind.u32 (ix wt 3)], Value.slice A4 l.length c4, Value.slice (some { block := gc, off := 0 }) l.length l.length, Value.tuple #[Value.slice A5 n c5, Value.agg #[Value.int IntKind.i64 0, Value.int IntKind.i64 0]], Value.slice A5 n c5, Value.agg #[Value.int IntKind.i64 0, Value.int IntKind.i64 0], Value.tuple #[Value.int IntKind.i64 ↑n, Value.int IntKind.i64 0], Value.slice A4 l.length c4, Value.slice (some { block := g8, off := 0 }) l.length l.length, Value.tuple #[Value.int IntKind.i64 ↑n, Value.int IntKind.i64 0], Value.int IntKind.i64 ↑n, Value.int IntKind.i64 0, Value.pointer (some { block := s, off := 0 }), Value.int IntKind.i64 0, Value.bool false, Value.bool false, Value.slice A5 n c5, Value.slice (some { block := ba, off := off }) n c, Value.bool true, Value.bool false, Value.bool false, Value.bool false, Value.int IntKind.i64 ↑n, Value.slice (some { block := ba, off := off }) n c, Value.int IntKind.i64 ↑n, Value.bool false, Value.bool false, Value.bool false, Value.int IntKind.i64 0, Value.bool false, Value.bool false, Value.slice (some { block := ba, off := off }) n c, Value.slice (some { block := g12, off := 0 }) n n, Value.func (Fn.func 34) #[] #[Value.pointer (some { block := w12.heap.size, off := 0 })], Value.func (Fn.func 34) #[] #[Value.pointer (some { block := w12.heap.size, off := 0 })], Value.bool false, Value.func (Fn.func 34) #[] #[Value.pointer (some { block := w12.heap.size, off := 0 })], Value.int IntKind.i64 (x.1 : Int), Value.agg #[Value.int IntKind.u16 x.2.1.1, Value.slice x.2.2.1 x.2.1.2.length x.2.2.2], undef, undef, undef, undef, undef, undef, undef, undef, undef, undef, undef, undef, undef, undef, undef, undef, undef, undef, undef, undef, undef, undef, undef, undef, undef, undef, undef, undef, undef, undef, undef, undef, undef, undef, undef, undef, undef, undef, undef, undef, undef, undef, undef, undef, undef, undef, undef, undef, undef, undef, undef, undef, undef, undef, undef, undef, undef, undef, undef, undef, undef, undef, undef, undef, undef, undef, undef, undef, undef, undef], defers := [] })
        ?hax ?assign ?body ?done ?stop
      case hax =>
        rintro pre x a' _ X Y row ⟨pb, g1, g2, g3, g4⟩ hg hr
        have hr' : ∀ r, row = some r → ∃ o : Obj, X.heap[r]? = some o ∧ o.isCells = false := fun r e => (hr r e).2
        exact ⟨pb, g1, g2.kept_ hg hr', g3.kept_ hg hr', g4⟩
      case assign =>
        rintro lr pre x W K hsW hI hGx hK
        dsimp only [eachV]
        gi_wp2_with fail
        have hbA := (Below.refl W.heap.size W).alloc (Nat.le_refl _) (.cells #[.int .u16 x.2.1.1, .slice x.2.2.1 x.2.1.2.length x.2.2.2] 45)
        exact hK _ _ ((KeepsOthers.alloc _ _).from _) (KeepB.below hbA (by omega) (by omega)) (hI.alloc _) ⟨W.heap.size, by omega, Blk.new _ _ _, hGx.alloc _, rfl⟩
      case body =>
        rintro lr pre x a' W hsW - hI ⟨pb, hpb, kb, hGx, rfl⟩
        obtain ⟨rest, hLe⟩ := hGx.is
        have hlL : l.length = L.length := by have := congrArg List.length hins; simpa using this
        have hLl : L.length = pre.length + 1 + rest.length := by rw [hLe]; simp; omega
        have hkl : pre.length < l.length := by omega
        have hix : (ri l pre.length).1 = x.2.1 := by
          rw [← insK_ri hkl, show insL l = L.map (·.2) from hins, hLe]
          simp [insK, PI.pi]
        have hat : atEnd pre = x.1 := goes_next (p := 5) (E := E) (q := x.pi) (l2 := rest) pre (by rw [← hLe]; exact hG)
        rw [hat] at hI
        obtain ⟨bd1, bd2, bd3, -, -⟩ := hGx.bounds hG hu
        have k1W := k110.below hI.below k110.lt
        have k4W := k410.below hI.below k410.lt
        have hRW := hR10.below hI.below
        have hB10W := below_cut hB10 hI.below (Nat.le_refl _)
        obtain ⟨bl, offl, hAl, hbll, e0, e1⟩ := hRW.at2 hkl
        rw [hix] at e0 e1
        have hwsl := hRW.ws _ (ri_mem hkl)
        rw [hix] at hwsl
        subst hAl
        have hrowr := Reads.of_own hGx.row
        have q1 := k1W.cell 0
        have q4 := k4W.cell 0
        have q10 := hI.kk.cell 0
        have q11 := hI.kp.cell 0
        obtain ⟨d0, d1⟩ := kb.read2
        simp at q1 q4 q10 q11
        obtain ⟨kN, hkN⟩ : ∃ kN, pre.length = kN := ⟨_, rfl⟩
        rw [hkN] at q10 e0 e1 hkl hI hwsl
        have hlx : x.2.1.2.length ≤ 9223372036854775807 := Nat.le_trans bd1 (by decide)
        have hge : decide ((l.length : Int) ≤ (kN : Int)) = false := by simp; omega
        have hge2 : decide (l.length ≤ kN) = false := by simp; omega
        have hsb : sameB x.2.1.2 x.2.1.2 = true := sameB_refl _
        have Hix := Lib.hid hix; have HkN := Lib.hid hkN; have Hat := Lib.hid hat; have HlL := Lib.hid hlL; have HLl := Lib.hid hLl; have HLe := Lib.hid hLe
        clear hix hkN hat hlL hLl hLe
        gi_wp2_with fail
        refine wpIn_round_quiet _ _ (by kernel_rfl) (by kernel_rfl) (by kernel_rfl) ?_
        repeat (quiet_step ((go_at_call 14; exact (words_same x.2.2.1 (ri l kN).2.1 x.2.1.2.length x.2.1.2.length x.2.2.2 (ri l kN).2.2 x.2.1.2 x.2.1.2 _ hlx (hrowr.drewN _) (hwsl.drewN _)).mono (fun _ _ h => ⟨h.1, (Drawn.mk _ _).trans h.2⟩))))
        refine wpQuiet_nil ?_
        rintro w' ⟨nq, rfl⟩
        gi_wp2_with fail
        have hIV := hI.more (below_drewN (Below.refl W.heap.size W) nq)
        have hWV : Below W.heap.size W (W.drewN nq) := below_drewN (Below.refl _ _) nq
        have kbV := kb.drewN nq
        have k1V := k1W.drewN nq
        have hrV := ((hr.below hB10W).drewN nq).more (B' := (W.drewN nq).drew.heap.size) (hB10W.size)
        have hszV : (W.drewN nq).heap.size = W.heap.size := rfl
        have q4V := q4; have e0V := e0; have e1V := e1
        have hfR : findR x.2.1.1 (x.1 : Int) L = (x.1, true) := by
          rw [HLe.out]
          refine findR_some (q := x.pi) (fun y hy => ?_) (by simp [fitsB, PI.pi])
          have := goes_lt (by rw [← HLe.out]; exact hG) y hy
          have h2 : y.1 < x.1 := this
          simp [fitsB]
          omega
        clear q1 q4 q10 q11 d0 d1 e0 e1 hrowr hwsl
        generalize W.drewN nq = V at *
        obtain ⟨d0, d1⟩ := kbV.read2
        have q1 := k1V.cell 0
        simp at q1
        refine regionIn_cut (fun a a' w' => ∃ g9, Below V.heap.size V w' ∧ a' = (((((((((((a.put (some 128) (.slice (some ⟨ba, off, none⟩) n c)).put (some 129) (.slice (some ⟨g9, 0, none⟩) n n)).put (some 130) (.pointer (some ⟨pb, 0, none⟩))).put (some 131) (.int .u16 x.2.1.1)).put (some 132) (.int .i64 x.1)).put (some 133) (.tuple #[.int .i64 x.1, .bool true])).put (some 127) (.tuple #[.int .i64 x.1, .bool true])).put (some 134) (.int .i64 x.1)).put (some 135) (.bool true)).put (some 15) (.int .i64 x.1)).put (some 16) (.bool true))) ?_ ?_
        · intro K1 hK1
          have hrVd : Reads V.drew V.drew.heap.size 1 (some ⟨ba, off, none⟩) n (Ints .u32 wt) := hrV.drewN 1
          gi_region_with (first
            | (refine ⟨trivial, ?_⟩; gi_at_call 11; refine ((callsIn_wide.2 (copyWords _ n c wt _ hn hrVd)).inRound lr).mono ?_; rintro e w9x ⟨g9, rfl, ho9, hb9⟩; have d9 := (kbV.drew.below hb9 kbV.lt).cell 0; simp at d9)
            | (refine ⟨trivial, ?_⟩; gi_at_call 28; refine ((callsIn_wide.2 (find_any (some ⟨g9, 0, none⟩) n n wt x.2.1.1 (x.1 : Int) L E _ hn (Reads.of_own ho9) hu (Nat.le_refl n) hG)).inRound lr).mono ?_; rintro e w9y ⟨rfl, hb9y⟩; rw [hfR]))
          all_goals exact hK1.out _ _ ⟨g9, ((Below.refl _ _).drew.trans hb9).trans (hb9y.mono hb9.size), by kernel_rfl⟩
        · rintro a' U ⟨g9, hVU, rfl⟩
          have hIU := hIV.more hVU
          have hWU : Below W.heap.size W U.drew := hWV.trans (hVU.drew.mono (Nat.le_of_eq hszV.symm))
          have hRU := hR10.below hIU.below
          obtain ⟨b2, o2, hA2, hb2l, -, e1⟩ := hRU.at2 hkl
          have hix2 : (ri l kN).1 = x.2.1 := by rw [← HkN.out]; exact Hix.out
          rw [hix2] at e1
          have k4U := k410.below hIU.below k410.lt
          rw [hA2] at k4U
          have q4 := k4U.cell 0
          have q10 := hIU.kk.cell 0
          have q11 := hIU.kp.cell 0
          have g10 := hIU.kk.frozen 0
          have g11 := hIU.kp.frozen 0
          have hIU' : BInv w10 (w12.heap.size + 1) kN x.1 U.drew := hIU.more (Below.refl _ _).drew
          have hIfin := hIU'.put (x.1 + 1 + x.2.1.2.length) (kN + 1)
          have r10 := (hIU'.kk.far (p := ⟨w10.heap.size + 1, 0, none⟩) (show w10.heap.size ≠ w10.heap.size + 1 by omega) (.int .i64 ((x.1 + 1 + x.2.1.2.length : Nat) : Int))).cell 0
          have r10' := (hIU'.kk.far (p := ⟨w10.heap.size + 1, 0, none⟩) (show w10.heap.size ≠ w10.heap.size + 1 by omega) (.int .i64 ((x.1 + 1 + x.2.1.2.length : Nat) : Int))).frozen 0
          simp at q4 q10 q11 r10
          have f1 : IntKind.i64.wrap ((x.1 : Int) + 1) = (x.1 : Int) + 1 := by simp [IntKind.wrap, IntKind.signed, IntKind.bits]; omega
          have f2 : IntKind.i64.wrap ((x.1 : Int) + 1 + (x.2.1.2.length : Int)) = (x.1 : Int) + 1 + (x.2.1.2.length : Int) := by simp [IntKind.wrap, IntKind.signed, IntKind.bits]; omega
          have f3 : kN < l.length := hkl
          have f4 : kN ≤ 4398046511104 := by omega
          have HB1 := Lib.hid bd1
          clear hA2 hix2 bd1 q1 d0 d1 hge hge2
          gi_wp2_with fail
          refine wpIn_round_tail 9 (by kernel_rfl) (by kernel_rfl) (by kernel_rfl) (still_of_quiet ?_)
          simp only [List.take_succ_cons, List.take_zero, List.drop_succ_cons, List.drop_zero]
          repeat (go_big_quiet_step (fail))
          refine wpQuiet_nil ?_
          gi_wp2_with fail
          have h9 : W.heap.size ≤ U.drew.heap.size := hWU.size
          refine ⟨((keepsOthers_below hWU).trans ((KeepsOthers.setCell _ _ _).trans (KeepsOthers.setCell _ _ _))).from _, ?_, ?_⟩
          · exact (KeepB.below hWU (by omega) (by omega)).trans ((KeepB.set _ _ _ (show w10.heap.size + 1 ≠ g12 by omega) (show w10.heap.size + 1 ≠ w12.heap.size by omega)).trans (KeepB.set _ _ _ (show w10.heap.size ≠ g12 by omega) (show w10.heap.size ≠ w12.heap.size by omega)))
          · have e1 : (pre ++ [x]).length = kN + 1 := by rw [List.length_append, HkN.out]; rfl
            have e2 : atEnd (pre ++ [x]) = x.1 + 1 + x.2.1.2.length := by simp [atEnd]
            show BInv w10 (w12.heap.size + 1) (pre ++ [x]).length (atEnd (pre ++ [x])) _
            rw [e1, e2]
            exact hIfin
      case done =>
        rintro D ys W hD hS hI hK
        have hyl : ys.length = l.length := by
          have h1 := congrArg List.length hS
          have h2 := congrArg List.length hins
          simp at h1 h2
          omega
        have hE2 := goes_end ys hG hS
        have hEn : atEnd ys = n := by rw [show atEnd ys = E from hE2, hEe, hlen]
        rw [hyl, hEn] at hI
        have k1W := k110.below hI.below k110.lt
        have k2W := k210.below hI.below k210.lt
        have k4W := k410.below hI.below k410.lt
        have hBW := below_cut hB10 hI.below (Nat.le_refl _)
        have q1 := k1W.cell 0
        have q4 := k4W.cell 0
        have q10 := hI.kk.cell 0
        have q11 := hI.kp.cell 0
        simp at q1 q4 q10 q11
        gi_wp2_with fail
        refine ⟨trivial, (callsIn_wide.2 (awake_ok W)).mono ?_⟩
        rintro e W2 ⟨rfl, hb2⟩
        have k22 := k2W.below hb2 k2W.lt
        have hB2 := below_cut hBW hb2 (Nat.le_refl _)
        have q2 := k22.cell 0
        have g2 := k22.frozen 0
        simp at q2
        have hDlt := (Array.getElem?_eq_some_iff.1 hK).1
        have hwD : w.heap.size + 1 < D := by have := k210.lt; omega
        have hwD3 : w.heap.size ≤ w13.heap.size := by have := k210.lt; omega
        have hK2 := (hb2.block D hDlt).trans hK
        have k23 := k22.set_ 0 (.bool true)
        have hK3 : (W2.setCell ⟨w.heap.size + 1, 0, none⟩ (.bool true)).heap[D]? = some (.deferred (some [])) := (Below.heap_setCell _ _ _ _ (show D ≠ w.heap.size + 1 from Nat.ne_of_gt hwD)).trans hK2
        have q23 := k23.cell 0
        simp at q23
        gi_wp2_with fail
        have hB3 := hB2.setCell (p := ⟨w.heap.size + 1, 0, none⟩) (show w.heap.size ≤ w.heap.size + 1 by omega) (.bool true)
        generalize W2.setCell ⟨w.heap.size + 1, 0, none⟩ (.bool true) = W3 at *
        have m0 := cell_putObj (o := .deferred none) (D := D) q23 (by simp; exact Nat.ne_of_lt hwD)
        have hbl := hB3.trans (belowK_b (n₀ := w.heap.size) (w := w13) hwD3 W3 D _ (.deferred none) hD hK3 rfl rfl)
        refine ⟨by simp, .inl ⟨_, _, rfl, run_takeDeferred hK3, ?_⟩⟩
        refine ⟨.bool true, by rw [results_c1 rfl]; go_simp, ?_⟩
        exact ⟨rfl, hbl⟩
      case stop =>
        rintro D c pre W _ _ h _
        exact h.elim
theorem law_back (A : Option Addr) (n c : Nat) (ws : List Int) (w : World) (hn : n ≤ 35184372087808) (hu : Under 4294967296 ws) (hr : Reads w w.heap.size 1 A n (Ints .u32 ws)) :
    Calls Try.prog 9 #[.slice A n c] w fun e w' => e = .returned (.bool true) ∧ Below w.heap.size w w' := callsIn_wide.1 (back_in A n c ws w hn hu hr)
end Go.Proofs.Ytppkjejdkogfpaa
