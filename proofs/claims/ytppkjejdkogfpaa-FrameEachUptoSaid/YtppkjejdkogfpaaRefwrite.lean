/- Walks: the document's answer for frames: Write. -/
import Derived.Test.YtppkjejdkogfpaaReffault
import Derived.Deep.RegionLaw
namespace Go.Proofs.Ytppkjejdkogfpaa
open Go.RowKit

set_option maxRecDepth 100000 in
set_option maxHeartbeats 2000000 in
theorem refWrite_bad (g b : Int) (A : Option Addr) (n c : Nat) (l : List RI) (w : World) (hb : b = 0 ∨ 65536 < b) :
    Calls Try.prog 24 #[.agg #[.int .u32 g, .int .u32 b], .slice A n c] w (WriteIs g b (insL l) w) := by
  have kb := Blk.new (w.alloc (.cells #[.int .u32 g, .int .u32 b] 25)) 29 #[.int .i64 0, .int .i64 0]
  rw [World.size_alloc] at kb
  obtain ⟨r0, r2, r3, r4, r5, r6⟩ := kb.store2
  have kh := (Blk.new w 25 #[.int .u32 g, .int .u32 b]).alloc (.cells #[.int .i64 0, .int .i64 0] 29)
  obtain ⟨k0, k1⟩ := kh.read2
  by_cases h0 : b = 0
  · subst h0
    go_enter Try.func24, Try.ntmps24
    go_wp2_with fail
    refine bodyPost_ret (v := .tuple #[.slice none 0 0, .agg #[.int .i64 24, .int .i64 0]]) (by rw [results_tc rfl]; go_simp) rfl ?_
    exact ⟨[], 24, 0, none, 0, .bound (.inl rfl), rfl, World.ownsRow_nil _ _ _ _, ((Below.refl w.heap.size w).alloc (Nat.le_refl _) _).alloc (by simp) _⟩
  · have h1 : decide ((65536 : Int) < b) = true := by simp; omega
    have h2 : (b == 0) = false := by simpa using h0
    have Hb := Lib.hid hb
    have H0 := Lib.hid h0
    clear hb h0
    go_enter Try.func24, Try.ntmps24
    go_wp2_with fail
    refine bodyPost_ret (v := .tuple #[.slice none 0 0, .agg #[.int .i64 24, .int .i64 0]]) (by rw [results_tc rfl]; go_simp) rfl ?_
    exact ⟨[], 24, 0, none, 0, .bound Hb.out, rfl, World.ownsRow_nil _ _ _ _, ((Below.refl w.heap.size w).alloc (Nat.le_refl _) _).alloc (by simp) _⟩

set_option maxRecDepth 100000 in
set_option maxHeartbeats 2000000 in
theorem refWrite_any (g b : Int) (A : Option Addr) (n c : Nat) (l : List RI) (w : World) (hl : l.length = n) (hn : n ≤ 35184372087808) (hR : RawR w A l) :
    Calls Try.prog 24 #[.agg #[.int .u32 g, .int .u32 b], .slice A n c] w (WriteIs g b (insL l) w) := by
  by_cases hb : b = 0 ∨ 65536 < b
  · exact refWrite_bad g b A n c l w hb
  have kb := Blk.new (w.alloc (.cells #[.int .u32 g, .int .u32 b] 25)) 29 #[.int .i64 0, .int .i64 0]
  rw [World.size_alloc] at kb
  have kh := (Blk.new w 25 #[.int .u32 g, .int .u32 b]).alloc (.cells #[.int .i64 0, .int .i64 0] 29)
  obtain ⟨k0, k1⟩ := kh.read2
  have hbl := ((Below.refl w.heap.size w).alloc (Nat.le_refl _) (.cells #[.int .u32 g, .int .u32 b] 25)).alloc (by simp) (.cells #[.int .i64 0, .int .i64 0] 29)
  have hR2 := hR.below (hbl.mono (Nat.le_refl _))
  have h1 : decide ((65536 : Int) < b) = false := by simp; omega
  have h2 : (b == 0) = false := by simp; omega
  have Hb := Lib.hid hb
  clear hb
  have hs2 : ((w.alloc (.cells #[.int .u32 g, .int .u32 b] 25)).alloc (.cells #[.int .i64 0, .int .i64 0] 29)).heap.size = w.heap.size + 2 := by simp
  go_enter Try.func24, Try.ntmps24
  go_wp2_with fail
  generalize (w.alloc (.cells #[.int .u32 g, .int .u32 b] 25)).alloc (.cells #[.int .i64 0, .int .i64 0] 29) = w2 at *
  refine (refFault_any A n c l w2 hl hn hR2).mono ?_
  rintro e w3 ⟨h, hb3⟩
  have hbl3 := hbl.trans (hb3.mono (by omega))
  have kb3 := kb.below hb3 (by omega)
  have kh3 := kh.below hb3 (by omega)
  have hs3 := hb3.size
  clear k0 k1
  rcases h with ⟨hF, rfl⟩ | ⟨i, er, hF, rfl⟩
  · have ks := Blk.new w3 29 #[.int .i64 0, .int .i64 0]
    obtain ⟨r0, r1⟩ := ks.read2
    have kb4 := kb3.alloc (.cells #[.int .i64 0, .int .i64 0] 29)
    have kh4 := kh3.alloc (.cells #[.int .i64 0, .int .i64 0] 29)
    obtain ⟨k0, k1⟩ := kh4.read2
    have hbl4 := hbl3.alloc (by omega) (.cells #[.int .i64 0, .int .i64 0] 29)
    have hs4 : (w3.alloc (.cells #[.int .i64 0, .int .i64 0] 29)).heap.size = w3.heap.size + 1 := by simp
    have hsz := hF.all
    have hmk : ∀ x : RI, x ∈ l → x.1.2.length < 65535 := fun x hx => hF.at_ _ (List.mem_map_of_mem hx)
    have Hmk := Lib.hid hmk
    have hszk := fun k => sz_take_le (insL l) k
    clear hmk
    have hlit := Reads.lit (w3.alloc (.cells #[.int .i64 0, .int .i64 0] 29)) #[.int .u32 119734787, .int .u32 65536, .int .u32 g, .int .u32 b, .int .u32 0] 23 5 rfl (by omega)
    rw [hs4] at hlit
    go_wp2_with (at_builtin; refine ap_any sl32 _ rfl _ _ rfl (w3.heap.size + 1) (.slice none 0 0) 0 [] rfl (World.ownsRow_nil _ _ _ _) _ _ 5 5 (Ints .u32 (headW g b)) rfl hlit Ints_oneCell (by omega) (by omega) (by simp only [World.size_alloc]; omega) ?_; intro A6 c6 w6 hown6 hgr6 _; have kb6 := (kb4.alloc (.cells #[.int .u32 119734787, .int .u32 65536, .int .u32 g, .int .u32 b, .int .u32 0] 23)).grown hgr6 (by simp only [Value.ownBlock, ne_eq, reduceCtorEq, not_false_eq_true]); have hbl6 := (hbl4.alloc (by omega) (.cells #[.int .u32 119734787, .int .u32 65536, .int .u32 g, .int .u32 b, .int .u32 0] 23)).grown hgr6 (by simp only [World.size_alloc]; omega) (fun k h => by cases h); have hs6 := hgr6.size; simp only [World.size_alloc] at hs6)
    go_loopw [7, 8] (fun x i wr => ∃ (k : Nat) (A' : Option Addr) (c' : Nat), k ≤ n ∧ i = .int .i64 k ∧ x = .slice A' (5 + sz ((insL l).take k)) c' ∧ wr.ownsRow (w3.heap.size + 1) 23 1 (.slice A' (5 + sz ((insL l).take k)) c') (5 + sz ((insL l).take k)) (Ints .u32 (headW g b ++ encL ((insL l).take k))) ∧ Blk wr (w.heap.size + 1) 29 #[.int .i64 0, .int .i64 0] ∧ Below w.heap.size w wr ∧ w3.heap.size + 1 ≤ wr.heap.size) (fun _ i _ => n - (intOf i).toNat)
    case atStart => exact ⟨0, _, _, by omega, rfl, rfl, by simpa [sz, encL] using hown6, kb6, hbl6, by omega⟩
    case round =>
      clear hown6 hgr6 kb6 hbl6 hs6 k0 k1 kb4 kh4 kh3 kb3 r0 r1
      obtain ⟨k, A', c', hk, rfl, rfl, hown, kb, hb, hs⟩ := hrel
      by_cases hlt : k < n
      · have hR1 := hR.below hb
        obtain ⟨bb, off, hAe, hb1, hc0, hc1⟩ := hR.at2 (k := k) (by omega)
        subst hAe
        have hsz1 := sz_take_ri (l := l) (k := k) (by omega)
        have hik := insK_ri (l := l) (k := k) (by omega)
        have hmem := ri_mem (l := l) (k := k) (by omega)
        have hm5 := Hmk.out _ hmem
        have hop := hR.op _ hmem
        have hws := hR.ws _ hmem
        have htk := take_succ_ (l := insL l) (k := k) (by rw [insL_length]; omega)
        rw [hik] at htk
        have hszn := hszk (k + 1)
        obtain ⟨m, hm⟩ : ∃ m, (ri l k).1.2.length = m := ⟨_, rfl⟩
        have htot : 5 + sz ((insL l).take k) + 1 + m ≤ 1048576 := by rw [← hm]; omega
        have hm2 : m < 65535 := by rw [← hm]; exact hm5
        have hnel := own_ne_low hown (g := w.heap.size + 1) (by omega)
        rw [hm] at hc1 hws
        have d0 := (hb.cell (p := ⟨bb, off + k * 2, none⟩) hb1).trans hc0
        have d1 := (hb.cell (p := ⟨bb, off + k * 2 + 1, none⟩) hb1).trans hc1
        have Htot := Lib.hid htot
        have Hm := Lib.hid hm
        have f1 : IntKind.i64.wrap ((m : Int) + 1) = (m : Int) + 1 := by simp [IntKind.wrap, IntKind.signed, IntKind.bits]; omega
        have f2 : IntKind.u32.wrap ((m : Int) + 1) = (m : Int) + 1 := by rw [IntKind.wrap_u32]; omega
        have f3 : IntKind.u32.wrap (((m : Int) + 1) * 65536) = ((m : Int) + 1) * 65536 := by rw [IntKind.wrap_u32]; omega
        have f4 : IntKind.u32.wrap (ri l k).1.1 = (ri l k).1.1 := by rw [IntKind.wrap_u32]; omega
        have f5 : IntKind.u32.wrap (((m : Int) + 1) * 65536 + (ri l k).1.1) = ((m : Int) + 1) * 65536 + (ri l k).1.1 := by rw [IntKind.wrap_u32]; omega
        clear hszn hsz1 hm5 hm
        have hoa := hown.drew
        have hra := hb.drew
        go_wp2_with fail
        go_region_law (first
          | (refine step_ap1 sl32 wr.drew rfl _ _ rfl hoa _ _ rfl rfl rfl (by have := Htot.out; omega) (by have := Htot.out; omega) (by rw [World.size_drew]; omega) ?_; intro A8 c8 w8 hown8 hgr8))
        all_goals
          have kb8 := (kb.drew.alloc (.cells #[.int .u32 (((m : Int) + 1) * 65536 + (ri l k).1.1)] 23)).grown hgr8 (fun e => hnel e.symm)
          have hb8 := below_ap hra (own_base hoa (by omega)) hgr8 (by rw [World.size_drew]; exact hb.size)
          have hs8 := hgr8.size
          rw [World.size_alloc, World.size_drew] at hs8
          rw [show (Ints .u32 (headW g b ++ encL ((insL l).take k)) ++ [.int .u32 (((m : Int) + 1) * 65536 + (ri l k).1.1)]) = Ints .u32 (headW g b ++ encL ((insL l).take k) ++ [((m : Int) + 1) * 65536 + (ri l k).1.1]) from by rw [← Ints_one, ← Ints_append]] at hown8
          clear hown hgr8 kb hb hoa hra d0 d1 f1 f2 f3 f4 f5
          go_wp2_with fail
          go_loopw [7, 9] (fun x i wq => ∃ (j : Nat) (A9 : Option Addr) (c9 : Nat), j ≤ m ∧ i = .int .i64 j ∧ x = .slice A9 (5 + sz ((insL l).take k) + 1 + j) c9 ∧ wq.ownsRow (w3.heap.size + 1) 23 1 (.slice A9 (5 + sz ((insL l).take k) + 1 + j) c9) (5 + sz ((insL l).take k) + 1 + j) (Ints .u32 (headW g b ++ encL ((insL l).take k) ++ [((m : Int) + 1) * 65536 + (ri l k).1.1] ++ (ri l k).1.2.take j)) ∧ Blk wq (w.heap.size + 1) 29 #[.int .i64 0, .int .i64 0] ∧ Below w.heap.size w wq ∧ w3.heap.size + 1 ≤ wq.heap.size) (fun _ i _ => m - (intOf i).toNat)
          case atStart => exact ⟨0, A8, c8, by omega, rfl, rfl, by simpa using hown8, kb8, hb8, by omega⟩
          case round =>
            clear hown8 kb8 hb8
            obtain ⟨j, A9, c9, hj, rfl, rfl, hown9, kb9, hb9, hs9⟩ := hrel
            have d0 := (hb9.cell (p := ⟨bb, off + k * 2, none⟩) hb1).trans hc0
            have d1 := (hb9.cell (p := ⟨bb, off + k * 2 + 1, none⟩) hb1).trans hc1
            by_cases hjm : j < m
            · obtain ⟨b2, off2, hA2, hb2, hcells2⟩ := hws.ints (by omega)
              have hcj := (hb9.cell (p := ⟨b2, off2 + j, none⟩) hb2).trans (hcells2 j hjm)
              have hne9 := own_ne_low hown9 (g := w.heap.size + 1) (by omega)
              rw [hA2] at d1
              clear hcells2 hA2
              go_wp2_with (at_builtin; refine ap_one sl32 _ rfl _ _ rfl (w3.heap.size + 1) _ _ _ rfl hown9 _ _ rfl rfl (by have := Htot.out; omega) (by have := Htot.out; omega) (by omega) ?_; intro v7 w7 hown7 hgr7 _; obtain ⟨A7, c7, rfl⟩ := own_shape hown7; have hb7 := below_ap hb9 (own_base hown9 (by omega)) hgr7 hb9.size; have kb7 := (kb9.alloc _).grown hgr7 (fun e => hne9 e.symm); have hs7 := hgr7.size; rw [World.size_alloc] at hs7)
              go_roundw
              case rel =>
                refine ⟨j + 1, A7, c7, by omega, by go_num, rfl, ?_, kb7, hb7, by omega⟩
                rw [List.take_succ_eq_append_getElem (by rw [Hm.out]; exact hjm), ← ix_of, ← List.append_assoc, Ints_append, Ints_one]
                exact hown7
              case measure => simp [intOf]; omega
            · obtain rfl : j = m := by omega
              go_wp2_with fail
              go_roundw
              case rel =>
                have hl9 : 5 + sz ((insL l).take (k + 1)) = 5 + sz ((insL l).take k) + 1 + j := by rw [sz_take_ri (by omega), Hm.out]; omega
                refine ⟨k + 1, A9, c9, by omega, by go_num, by rw [hl9], ?_, kb9, hb9, by omega⟩
                rw [hl9, htk, encL_snoc, ← List.append_assoc]
                rw [List.take_of_length_le (l := (ri l k).1.2) (by rw [Hm.out]; exact Nat.le_refl _), List.append_assoc _ [_]] at hown9
                have hoe : ((j : Int) + 1) * 65536 + (ri l k).1.1 = (((ri l k).1.2.length + 1 : Nat) : Int) * 65536 + (ri l k).1.1 := by rw [Hm.out]; omega
                rw [hoe] at hown9
                exact hown9
              case measure => simp [intOf]; omega
      · obtain rfl : k = n := by omega
        rw [List.take_of_length_le (by rw [insL_length]; omega)] at *
        obtain ⟨s0, s1, s2, s3, s4, s5⟩ := kb.store2
        go_wp2_with fail
        refine bodyPost_ret (v := .tuple #[.slice A' (5 + sz (insL l)) c', .agg #[.int .i64 0, .int .i64 0]]) (by rw [results_tc rfl]; go_simp) rfl ?_
        have hw := WriteTo.ok (g := g) Hb.out hF
        have hl5 := modW_length g b (insL l)
        refine ⟨_, 0, 0, A', c', hw, by rw [hl5]; rfl, ?_, below_put2 hb (by omega)⟩
        rw [hl5]
        have hn1 := own_ne_low hown (g := w.heap.size + 1) (Nat.lt_of_lt_of_le (show w.heap.size + 1 < w.heap.size + 2 from by omega) (by omega))
        exact own_base (own_set_other (own_set_other hown (p := ⟨w.heap.size + 1, 0, none⟩) hn1 _) (p := ⟨w.heap.size + 1, 1, none⟩) hn1 _) (by omega)
  · have ks := Blk.new w3 29 #[.int .i64 er, .int .i64 i]
    obtain ⟨r0, r1⟩ := ks.read2
    have kb4 := kb3.alloc (.cells #[.int .i64 er, .int .i64 i] 29)
    have hbl4 := hbl3.alloc (by omega) (.cells #[.int .i64 er, .int .i64 i] 29)
    have he : (er == 0) = false := by
      rcases hF.2.2 with ⟨_, h⟩ | ⟨_, _, h⟩ <;> rw [h] <;> decide
    go_wp2_with fail
    have q0 := kb4.cell 0
    have q1 := kb4.cell 1
    have q2 := kb4.frozen 0
    have q3 := kb4.frozen 1
    simp at q0 q1
    generalize w3.alloc (.cells #[.int .i64 er, .int .i64 i] 29) = w4 at *
    refine region_cut (fun a a' w' => w' = (w4.drew.setCell ⟨w.heap.size + 1, 0, none⟩ (.int .i64 er)).setCell ⟨w.heap.size + 1, 1, none⟩ (.int .i64 i) ∧ a' = ((a.put (some 24) (.agg #[.int .i64 er, .int .i64 i])).put (some 4) (.slice none 0 0))) ?_ ?_
    · intro K1 hK1
      go_region
      all_goals exact hK1.out _ _ ⟨rfl, by kernel_rfl⟩
    · rintro a' w6 ⟨rfl, rfl⟩
      obtain ⟨s0, s1, s2, s3, s4, s5⟩ := kb4.drew.store2
      go_wp2_with fail
      refine bodyPost_ret (v := .tuple #[.slice none 0 0, .agg #[.int .i64 er, .int .i64 i]]) (by rw [results_tc rfl]; go_simp) rfl ?_
      exact ⟨[], er, i, none, 0, .fault Hb.out hF, rfl, World.ownsRow_nil _ _ _ _, below_put2 hbl4.drew (by omega)⟩
end Go.Proofs.Ytppkjejdkogfpaa
