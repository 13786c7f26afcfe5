/- Walks: frame.Write. -/
import Derived.Test.YtppkjejdkogfpaaCount
import Derived.Laws.BitsAllLaws
import Derived.Laws.BitsLemmas
namespace Go.Proofs.Ytppkjejdkogfpaa
open Go.RowKit

theorem enc_or (m : Nat) (x : Int) (hm : m < 65535) (h0 : 0 ≤ x) (h1 : x < 65536) : bits .or .u32 (((m : Int) + 1) * 65536) x = ((m : Int) + 1) * 65536 + x :=
  bits_join .u32 32 (by decide) (fun n h0 h1 => by rw [IntKind.wrap_u32]; omega) 16 (((m : Int) + 1) * 65536) x (by omega) (by omega) (by omega) h0 (by omega) (by omega)
/-- what is written: the words, what is wrong and where -/
inductive WriteTo (g b : Int) (l : List Ins) : List Int → Int → Nat → Prop
  | bound : (b = 0 ∨ 65536 < b) → WriteTo g b l [] 24 0
  | fault {i : Nat} {e : Int} : ¬ (b = 0 ∨ 65536 < b) → FaultAt l i e → WriteTo g b l [] e i
  | ok : ¬ (b = 0 ∨ 65536 < b) → FaultTo l l.length → WriteTo g b l (modW g b l) 0 0
theorem WriteTo.one {g b : Int} {l : List Ins} {ws ws' : List Int} {e e' : Int} {i i' : Nat} (h : WriteTo g b l ws e i) (h' : WriteTo g b l ws' e' i') : ws = ws' ∧ e = e' ∧ i = i' := by
  cases h with
  | bound hb =>
    cases h' with
    | bound _ => exact ⟨rfl, rfl, rfl⟩
    | fault hn _ => exact absurd hb hn
    | ok hn _ => exact absurd hb hn
  | fault hn hf =>
    cases h' with
    | bound hb => exact absurd hb hn
    | fault _ hf' => obtain ⟨rfl, rfl⟩ := faultAt_one hf hf'; exact ⟨rfl, rfl, rfl⟩
    | ok _ hf' => exact absurd hf' (faultAt_not hf _ hf.1)
  | ok hn hf =>
    cases h' with
    | bound hb => exact absurd hb hn
    | fault _ hf' => exact absurd hf (faultAt_not hf' _ hf'.1)
    | ok _ _ => exact ⟨rfl, rfl, rfl⟩
/-- what Write answers -/
def WriteIs (g b : Int) (l : List Ins) (w : World) (e : Ending) (w' : World) : Prop := ∃ (ws : List Int) (er : Int) (i : Nat) (A : Option Addr) (c : Nat), WriteTo g b l ws er i ∧
  e = .returned (.tuple #[.slice A ws.length c, .agg #[.int .i64 er, .int .i64 i]]) ∧ w'.ownsRow w.heap.size 23 1 (.slice A ws.length c) ws.length (Ints .u32 ws) ∧ Below w.heap.size w w'

theorem Reads.lit (w : World) (cs : Array Value) (t : TypeId) (n : Nat) (h : cs.size = n) (hm : n ≤ 1000) : Reads (w.alloc (.cells cs t)) (w.heap.size + 1) 1 (some ⟨w.heap.size, 0, none⟩) n cs.toList :=
  ⟨by simp [h], fun _ => ⟨_, rfl, by simp, lit_cells2 w cs t n h hm⟩⟩
set_option maxRecDepth 100000 in
set_option maxHeartbeats 2000000 in
theorem write_bad (g b : Int) (A : Option Addr) (n c : Nat) (l : List RI) (w : World) (hb : b = 0 ∨ 65536 < b) :
    Calls Try.prog 22 #[.agg #[.int .u32 g, .int .u32 b], .slice A n c] w (WriteIs g b (insL l) w) := by
  have kb := Blk.new (w.alloc (.cells #[.int .u32 g, .int .u32 b] 25)) 29 #[.int .i64 0, .int .i64 0]
  rw [World.size_alloc] at kb
  obtain ⟨r0, r2, r3, r4, r5, r6⟩ := kb.store2
  have kh := (Blk.new w 25 #[.int .u32 g, .int .u32 b]).alloc (.cells #[.int .i64 0, .int .i64 0] 29)
  obtain ⟨k0, k1⟩ := kh.read2
  have hbl := ((Below.refl w.heap.size w).alloc (Nat.le_refl _) (.cells #[.int .u32 g, .int .u32 b] 25)).alloc (by simp) (.cells #[.int .i64 0, .int .i64 0] 29)
  by_cases h0 : b = 0
  · subst h0
    go_enter Try.func22, Try.ntmps22
    go_wp2_with fail
    refine bodyPost_ret (v := .tuple #[.slice none 0 0, .agg #[.int .i64 24, .int .i64 0]]) (by rw [results_tc rfl]; go_simp) rfl ?_
    exact ⟨[], 24, 0, none, 0, .bound (.inl rfl), rfl, World.ownsRow_nil _ _ _ _, ((Below.refl w.heap.size w).alloc (Nat.le_refl _) _).alloc (by simp) _⟩
  · have h1 : decide ((65536 : Int) < b) = true := by simp; omega
    have h2 : (b == 0) = false := by simpa using h0
    have Hb := Lib.hid hb
    have H0 := Lib.hid h0
    clear hb h0
    go_enter Try.func22, Try.ntmps22
    go_wp2_with fail
    refine bodyPost_ret (v := .tuple #[.slice none 0 0, .agg #[.int .i64 24, .int .i64 0]]) (by rw [results_tc rfl]; go_simp) rfl ?_
    exact ⟨[], 24, 0, none, 0, .bound Hb.out, rfl, World.ownsRow_nil _ _ _ _, ((Below.refl w.heap.size w).alloc (Nat.le_refl _) _).alloc (by simp) _⟩

set_option maxRecDepth 100000 in
set_option maxHeartbeats 2000000 in
theorem write_any (g b : Int) (A : Option Addr) (n c : Nat) (l : List RI) (w : World) (hl : l.length = n) (hn : n ≤ 35184372087808) (hR : RawR w A l) :
    Calls Try.prog 22 #[.agg #[.int .u32 g, .int .u32 b], .slice A n c] w (WriteIs g b (insL l) w) := by
  by_cases hb : b = 0 ∨ 65536 < b
  · exact write_bad g b A n c l w hb
  have kb := Blk.new (w.alloc (.cells #[.int .u32 g, .int .u32 b] 25)) 29 #[.int .i64 0, .int .i64 0]
  rw [World.size_alloc] at kb
  have kh := (Blk.new w 25 #[.int .u32 g, .int .u32 b]).alloc (.cells #[.int .i64 0, .int .i64 0] 29)
  obtain ⟨k0, k1⟩ := kh.read2
  have hbl := ((Below.refl w.heap.size w).alloc (Nat.le_refl _) (.cells #[.int .u32 g, .int .u32 b] 25)).alloc (by simp) (.cells #[.int .i64 0, .int .i64 0] 29)
  have hR2 := hR.below (hbl.mono (Nat.le_refl _))
  have h1 : decide ((65536 : Int) < b) = false := by simp; omega
  have h2 : (b == 0) = false := by simp; omega
  have Hb := Lib.hid hb
  clear hb
  have hs2 : ((w.alloc (.cells #[.int .u32 g, .int .u32 b] 25)).alloc (.cells #[.int .i64 0, .int .i64 0] 29)).heap.size = w.heap.size + 2 := by simp
  go_enter Try.func22, Try.ntmps22
  go_wp2_with fail
  generalize (w.alloc (.cells #[.int .u32 g, .int .u32 b] 25)).alloc (.cells #[.int .i64 0, .int .i64 0] 29) = w2 at *
  refine (counted_any A n c l w2 hl hn hR2).mono ?_
  rintro e w3 ⟨h, hb3⟩
  have hbl3 := hbl.trans (hb3.mono (by omega))
  have kb3 := kb.below hb3 (by omega)
  have kh3 := kh.below hb3 (by omega)
  have hs3 := hb3.size
  clear k0 k1
  rcases h with ⟨hF, rfl⟩ | ⟨i, er, hF, rfl⟩
  · have ks := Blk.new w3 29 #[.int .i64 0, .int .i64 0]
    obtain ⟨r0, r1⟩ := ks.read2
    have kb4 := kb3.alloc (.cells #[.int .i64 0, .int .i64 0] 29)
    have kh4 := kh3.alloc (.cells #[.int .i64 0, .int .i64 0] 29)
    obtain ⟨k0, k1⟩ := kh4.read2
    have hbl4 := hbl3.alloc (by omega) (.cells #[.int .i64 0, .int .i64 0] 29)
    have hs4 : (w3.alloc (.cells #[.int .i64 0, .int .i64 0] 29)).heap.size = w3.heap.size + 1 := by simp
    have hsz := hF.all
    have hop := fun x hx => (hR.op x hx)
    clear r0 r1
    have hmk : ∀ x : RI, x ∈ l → x.1.2.length < 65535 := fun x hx => hF.at_ _ (List.mem_map_of_mem hx)
    have Hmk := Lib.hid hmk
    have hne6 : some (w.heap.size + 1) ≠ (Value.slice (some ⟨w3.heap.size + 1, 0, none⟩) 0 (5 + sz (insL l))).ownBlock := by simp [Value.ownBlock]; omega
    have hne7 : ∀ k, (Value.slice (some ⟨w3.heap.size + 1, 0, none⟩) 0 (5 + sz (insL l))).ownBlock = some k → w.heap.size ≤ k := fun k h => by simp [Value.ownBlock] at h; omega
    have hszk := fun k => sz_take_le (insL l) k
    clear hmk
    go_wp2_with (first | (at_make; refine mk_room sl32 _ rfl _ _ rfl (w3.heap.size + 1) (5 + sz (insL l)) rfl rfl (by omega) (by omega) (by omega) (by omega) ?_; intro w5 hown hgr; obtain ⟨j0, j1⟩ := (kh4.grown hgr (by simp)).read2; have kb5 := kb4.grown hgr (by simp); have hbl5 := hbl4.grown hgr (by omega) (fun _ h => by cases h); have hs5 := hgr.size; rw [hs4] at hown hs5) | (at_builtin; refine ap_any sl32 _ rfl _ _ rfl (w3.heap.size + 1) _ 0 [] rfl (hown.alloc _) _ _ 5 5 (Ints .u32 (headW g b)) rfl (Reads.lit _ _ _ _ rfl (by omega)) Ints_oneCell (by omega) (by omega) (by rw [World.size_alloc]; omega) ?_; intro A6 c6 w6 hown6 hgr6 _; have kb6 := (kb5.alloc (.cells #[.int .u32 119734787, .int .u32 65536, .int .u32 g, .int .u32 b, .int .u32 0] 23)).grown hgr6 hne6; have hbl6 := (hbl5.alloc (by omega) (.cells #[.int .u32 119734787, .int .u32 65536, .int .u32 g, .int .u32 b, .int .u32 0] 23)).grown hgr6 (by rw [World.size_alloc]; omega) hne7; have hs6 := hgr6.size; rw [World.size_alloc] at hs6))
    go_loopw [8, 40] (fun x i wr => ∃ (k : Nat) (A' : Option Addr) (c' : Nat), k ≤ n ∧ i = .int .i64 k ∧ x = .slice A' (5 + sz ((insL l).take k)) c' ∧ wr.ownsRow (w3.heap.size + 1) 23 1 (.slice A' (5 + sz ((insL l).take k)) c') (5 + sz ((insL l).take k)) (Ints .u32 (headW g b ++ encL ((insL l).take k))) ∧ Blk wr (w.heap.size + 1) 29 #[.int .i64 0, .int .i64 0] ∧ Below w.heap.size w wr ∧ w3.heap.size + 1 ≤ wr.heap.size) (fun _ i _ => n - (intOf i).toNat)
    case atStart => exact ⟨0, _, _, by omega, rfl, rfl, by simpa [sz, encL] using hown6, kb6, hbl6, by omega⟩
    case round =>
      clear hown hgr kb5 hbl5 hown6 hgr6 kb6 hbl6 hs5 hs6 j0 j1 k0 k1 kb4 kh4 kh3 kb3
      obtain ⟨k, A', c', hk, rfl, rfl, hown, kb, hb, hs⟩ := hrel
      by_cases hlt : k < n
      · have hR1 := hR.below hb
        obtain ⟨bb, off, rfl, hb1, hc0, hc1⟩ := hR1.at2 (k := k) (by omega)
        have hsz1 := sz_take_ri (l := l) (k := k) (by omega)
        have hik := insK_ri (l := l) (k := k) (by omega)
        have hmem := ri_mem (l := l) (k := k) (by omega)
        have hm5 := Hmk.out _ hmem
        have hop := hR.op _ hmem
        have hws := hR.ws _ hmem
        have htk := take_succ_ (l := insL l) (k := k) (by rw [insL_length]; omega)
        rw [hik] at htk
        have hszn := hszk (k + 1)
        obtain ⟨m, hm⟩ : ∃ m, (ri l k).1.2.length = m := ⟨_, rfl⟩
        have htot : 5 + sz ((insL l).take k) + 1 + m ≤ 1048576 := by rw [← hm]; omega
        have hm2 : m < 65535 := by rw [← hm]; exact hm5
        have hor := enc_or m (ri l k).1.1 hm2 hop.1 hop.2
        have hnel := own_ne_low hown (g := w.heap.size + 1) (by omega)
        have hneh := own_ne_high hown (g := wr.heap.size) (Nat.le_refl _)
        have hba : Below w.heap.size w (wr.alloc (.cells #[.int .u16 (ri l k).1.1, .slice (ri l k).2.1 (ri l k).1.2.length (ri l k).2.2] 45)) := hb.alloc hb.size _
        have hka := kb.alloc (.cells #[.int .u16 (ri l k).1.1, .slice (ri l k).2.1 (ri l k).1.2.length (ri l k).2.2] 45)
        have hra := Blk.new wr 45 #[.int .u16 (ri l k).1.1, .slice (ri l k).2.1 (ri l k).1.2.length (ri l k).2.2]
        have hoa := hown.alloc (.cells #[.int .u16 (ri l k).1.1, .slice (ri l k).2.1 (ri l k).1.2.length (ri l k).2.2] 45)
        rw [hm] at hba hka hra hoa hc1 hws
        have Htot := Lib.hid htot
        have Hm := Lib.hid hm
        have hszb : wr.heap.size ≤ (wr.alloc (.cells #[.int .u16 (ri l k).1.1, .slice (ri l k).2.1 m (ri l k).2.2] 45)).heap.size := by rw [World.size_alloc]; omega
        clear hszn hsz1 hm5 hm
        go_wp2_with (first | (at_builtin; refine ap_one sl32 _ rfl _ _ rfl (w3.heap.size + 1) _ _ _ rfl hoa _ _ rfl (by rw [World.size_alloc]; rfl) (by have := Htot.out; omega) (by have := Htot.out; omega) (by rw [World.size_alloc]; omega) ?_; intro v7 w7 hown7 hgr7 _; obtain ⟨A7, c7, rfl⟩ := own_shape hown7; have hb7 := below_ap hba (own_base hoa (by omega)) hgr7 hba.size; have kb7 := (hka.alloc _).grown hgr7 (fun e => hnel e.symm); have hr7 := (hra.alloc _).grown hgr7 (fun e => hneh e.symm); have hs7 := hgr7.size; rw [World.size_alloc] at hs7; obtain ⟨j0, j1⟩ := hr7.read2) | (at_builtin; refine ap_any sl32 _ rfl _ _ rfl (w3.heap.size + 1) _ _ _ rfl hown7 _ _ m _ (Ints .u32 (ri l k).1.2) rfl (hws.below hb7) Ints_oneCell (by have := Htot.out; omega) (by have := Htot.out; omega) (by omega) ?_; intro A8 c8 w8 hown8 hgr8 _; have kb8 := kb7.grown hgr8 (fun e => own_ne_low hown7 (g := w.heap.size + 1) (by omega) e.symm); have hb8 := hb7.grown hgr8 hb7.size (fun g h => Nat.le_trans (by omega) (hown7.lt g h).1); have hs8 := hgr8.size))
        go_roundw
        case rel =>
          have hl9 : 5 + sz ((insL l).take (k + 1)) = 5 + sz ((insL l).take k) + 1 + m := by rw [sz_take_ri (by omega), Hm.out]; omega
          refine ⟨k + 1, A8, c8, by omega, by go_num, by rw [hl9], ?_, kb8, hb8, by omega⟩
          rw [hl9, htk, encL_snoc, ← List.append_assoc, Ints_append]
          rw [List.append_assoc] at hown8
          have hoe : ((m : Int) + 1) * 65536 + (ri l k).1.1 = (((ri l k).1.2.length + 1 : Nat) : Int) * 65536 + (ri l k).1.1 := by rw [Hm.out]; omega
          rw [hoe] at hown8
          exact hown8
        case measure => simp [intOf]; omega
      · obtain rfl : k = n := by omega
        rw [List.take_of_length_le (by rw [insL_length]; omega)] at *
        obtain ⟨s0, s1, s2, s3, s4, s5⟩ := kb.store2
        go_wp2_with fail
        refine bodyPost_ret (v := .tuple #[.slice A' (5 + sz (insL l)) c', .agg #[.int .i64 0, .int .i64 0]]) (by rw [results_tc rfl]; go_simp) rfl ?_
        have hw := WriteTo.ok (g := g) Hb.out hF
        have hl5 := modW_length g b (insL l)
        refine ⟨_, 0, 0, A', c', hw, by rw [hl5]; rfl, ?_, below_put2 hb (by omega)⟩
        rw [hl5]
        have hn1 := own_ne_low hown (g := w.heap.size + 1) (Nat.lt_of_lt_of_le (show w.heap.size + 1 < w.heap.size + 2 from by omega) (by omega))
        exact own_base (own_set_other (own_set_other hown (p := ⟨w.heap.size + 1, 0, none⟩) hn1 _) (p := ⟨w.heap.size + 1, 1, none⟩) hn1 _) (by omega)
  · have ks := Blk.new w3 29 #[.int .i64 er, .int .i64 i]
    obtain ⟨r0, r1⟩ := ks.read2
    have kb4 := kb3.alloc (.cells #[.int .i64 er, .int .i64 i] 29)
    have hbl4 := hbl3.alloc (by omega) (.cells #[.int .i64 er, .int .i64 i] 29)
    have he : (er == 0) = false := by
      rcases hF.2.2 with ⟨_, h⟩ | ⟨_, _, h⟩ <;> rw [h] <;> decide
    go_wp2_with fail
    have q0 := kb4.cell 0
    have q1 := kb4.cell 1
    have q2 := kb4.frozen 0
    have q3 := kb4.frozen 1
    simp at q0 q1
    generalize w3.alloc (.cells #[.int .i64 er, .int .i64 i] 29) = w4 at *
    refine region_cut (fun a a' w' => w' = (w4.drew.setCell ⟨w.heap.size + 1, 0, none⟩ (.int .i64 er)).setCell ⟨w.heap.size + 1, 1, none⟩ (.int .i64 i) ∧ a' = ((a.put (some 28) (.agg #[.int .i64 er, .int .i64 i])).put (some 4) (.slice none 0 0))) ?_ ?_
    · intro K1 hK1
      go_region
      all_goals exact hK1.out _ _ ⟨rfl, by kernel_rfl⟩
    · rintro a' w6 ⟨rfl, rfl⟩
      obtain ⟨s0, s1, s2, s3, s4, s5⟩ := kb4.drew.store2
      go_wp2_with fail
      refine bodyPost_ret (v := .tuple #[.slice none 0 0, .agg #[.int .i64 er, .int .i64 i]]) (by rw [results_tc rfl]; go_simp) rfl ?_
      exact ⟨[], er, i, none, 0, .fault Hb.out hF, rfl, World.ownsRow_nil _ _ _ _, below_put2 hbl4.drew (by omega)⟩
end Go.Proofs.Ytppkjejdkogfpaa
