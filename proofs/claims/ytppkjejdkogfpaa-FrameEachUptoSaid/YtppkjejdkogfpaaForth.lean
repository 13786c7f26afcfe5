/- The walk of FrameForth: whatever the head and the instructions, it answers true. -/
import Derived.Test.YtppkjejdkogfpaaRefwrite
import Derived.Test.YtppkjejdkogfpaaCopied
import Derived.Test.YtppkjejdkogfpaaAwakef
import Derived.Test.YtppkjejdkogfpaaWritesf
import Derived.Test.YtppkjejdkogfpaaModLaw
import Derived.Deep.RegionLaw
namespace Go.Proofs.Ytppkjejdkogfpaa
open Go.RowKit

/-- behind Write of a copy: the words, what is wrong and where, in cells of their own -/
structure Wrote (w0 : World) (hd : Nat) (g b : Int) (l : List RI) (w' : World) (s : Nat) (ws : List Int) (er : Int) (i : Nat) (A : Option Addr) (c : Nat) : Prop where
  to : WriteTo g b (insL l) ws er i
  own : w'.ownsRow w0.heap.size 23 1 (.slice A ws.length c) ws.length (Ints .u32 ws)
  spot : Blk w' s 29 #[.int .i64 er, .int .i64 i]
  head : Blk w' hd 25 #[.int .u32 g, .int .u32 b]
  below : Below w0.heap.size w0 w'
  low : w0.heap.size ≤ s
theorem Wrote.last {w0 w2 w3 : World} {hd : Nat} {g b : Int} {l l4 : List RI} {ws : List Int} {er : Int} {i c : Nat} {A : Option Addr} (hl4 : insL l4 = insL l) (hwt : WriteTo g b (insL l4) ws er i) (ho : w3.ownsRow w2.heap.size 23 1 (.slice A ws.length c) ws.length (Ints .u32 ws))
    (hk : Blk w3 hd 25 #[.int .u32 g, .int .u32 b]) (hb : Below w0.heap.size w0 w3) (h2 : w0.heap.size ≤ w2.heap.size) : Wrote w0 hd g b l (w3.alloc (.cells #[.int .i64 er, .int .i64 i] 29)) w3.heap.size ws er i A c :=
  ⟨by rw [← hl4]; exact hwt, own_base (ho.alloc _) h2, Blk.new _ _ _, hk.alloc _, hb.alloc hb.size _, hb.size⟩
theorem Wrote.early {w0 w2 w3 : World} {hd s : Nat} {g b : Int} {l l4 : List RI} {ws : List Int} {er : Int} {i c : Nat} {A : Option Addr} (hl4 : insL l4 = insL l) (hwt : WriteTo g b (insL l4) ws er i) (ho : w3.ownsRow w2.heap.size 23 1 (.slice A ws.length c) ws.length (Ints .u32 ws))
    (hk : Blk w3 hd 25 #[.int .u32 g, .int .u32 b]) (hb : Below w0.heap.size w0 w3) (h2 : w0.heap.size ≤ w2.heap.size) {c0 c1 : Value} (hs : Blk w3 s 29 #[c0, c1]) (hs1 : s < w2.heap.size) (hs0 : w0.heap.size ≤ s) (hd0 : hd < w0.heap.size) :
    Wrote w0 hd g b l ((w3.setCell ⟨s, 0, none⟩ (.int .i64 er)).setCell ⟨s, 1, none⟩ (.int .i64 i)) s ws er i A c := by
  have hn := own_ne_low ho (g := s) hs1
  refine ⟨by rw [← hl4]; exact hwt, own_base (own_set_other (own_set_other ho (p := ⟨s, 0, none⟩) hn _) (p := ⟨s, 1, none⟩) hn _) h2, hs.put2 _ _, (hk.far (p := ⟨s, 0, none⟩) ?_ _).far (p := ⟨s, 1, none⟩) ?_ _, below_put2 hb hs0, hs0⟩
  · show hd ≠ s; omega
  · show hd ≠ s; omega

theorem forth_wraps {m a c : Nat} (h1 : a ≤ 1048576) (h2 : m ≤ 35184372087808) (h3 : c = a + (1 + m)) : RowKit.wrap64 ((m : Int) + 1) = (m : Int) + 1 ∧ RowKit.wrap64 (5 + (a : Int) + 1) = 5 + (a : Int) + 1 ∧ RowKit.wrap64 (5 + (a : Int) + 1 + (m : Int)) = 5 + (c : Int) := by
  refine ⟨?_, ?_, ?_⟩ <;> (unfold RowKit.wrap64; omega)
set_option maxRecDepth 100000 in
set_option maxHeartbeats 4000000 in
theorem law_forth (g b : Int) (A : Option Addr) (n c : Nat) (l : List RI) (w : World) (hg : 0 ≤ g ∧ g < 4294967296) (hbb : 0 ≤ b ∧ b < 4294967296) (hl : l.length = n) (hn : n ≤ 4398046511104) (hR : RawR w A l) (hU : ∀ x ∈ l, Under 4294967296 x.1.2) :
    Calls Try.prog 5 #[.agg #[.int .u32 g, .int .u32 b], .slice A n c] w fun e w' => e = .returned (.bool true) ∧ Below w.heap.size w w' := by
  have kh := Blk.new w 25 #[.int .u32 g, .int .u32 b]
  have hb0 := (Below.refl w.heap.size w).alloc (Nat.le_refl _) (.cells #[.int .u32 g, .int .u32 b] 25)
  have hs0 : (w.alloc (.cells #[.int .u32 g, .int .u32 b] 25)).heap.size = w.heap.size + 1 := by simp
  go_enter Try.func5, Try.ntmps5
  go_wp2_with fail
  generalize w.alloc (.cells #[.int .u32 g, .int .u32 b] 25) = w0 at *
  have hR0 := hR.below hb0
  refine region_cut (fun a a' w' => ∃ (gc : Nat) (s : Nat) (ws : List Int) (er : Int) (i : Nat) (A5 : Option Addr) (c5 : Nat), Wrote w0 w.heap.size g b l w' s ws er i A5 c5 ∧
    a' = (((((((((a.put (some 13) (.agg #[.int .u32 g, .int .u32 b])).put (some 14) (.slice A n c)).put (some 15) (.slice (some ⟨gc, 0, none⟩) n n)).put (some 16) (.tuple #[.slice A5 ws.length c5, .agg #[.int .i64 er, .int .i64 i]])).put (some 12) (.tuple #[.slice A5 ws.length c5, .agg #[.int .i64 er, .int .i64 i]])).put (some 17) (.slice A5 ws.length c5)).put (some 18) (.agg #[.int .i64 er, .int .i64 i])).put (some 6) (.pointer (some ⟨s, 0, none⟩))).put (some 5) (.slice A5 ws.length c5))) ?_ ?_
  · intro K1 hK1
    have hRd : RawR w0.drew A l := hR0.drewN 1
    have hRa : RawR (w0.alloc (.cells #[.int .i64 0, .int .i64 0] 29)).drew A l := (hR0.alloc _).drewN 1
    have hBd : Below w0.heap.size w0 w0.drew := (Below.refl _ _).drew
    have hBa : Below w0.heap.size w0 (w0.alloc (.cells #[.int .i64 0, .int .i64 0] 29)).drew := ((Below.refl _ _).alloc (Nat.le_refl _) _).drew
    have ksa : Blk (w0.alloc (.cells #[.int .i64 0, .int .i64 0] 29)).drew w0.heap.size 29 #[.int .i64 0, .int .i64 0] := Blk.new _ _ _
    have hlt0 : w.heap.size < w0.heap.size := by omega
    clear hs0
    obtain ⟨p0, p1⟩ := kh.read2
    have p2 := fun o => (kh.alloc o).cell 0
    have p3 := fun o => (kh.alloc o).cell 1
    simp at p2 p3
    go_region_law (first
      | (go_simp; go_at_call 23; refine (copied_any A n c l _ hl hn (by first | exact hRd | exact hRa)).mono ?_; rintro e w1 ⟨gc, l4, rfl, hl4, hraw4, hb4⟩; have hlen4 : l4.length = n := (by have := congrArg List.length hl4; simpa [insL, hl] using this); have hbx : Below w0.heap.size w0 w1 := (by first | exact below_cut hBd hb4 (Nat.le_refl _) | exact below_cut hBa hb4 (Nat.le_refl _)); have kh1 := kh.below hbx hlt0; obtain ⟨q0, q1⟩ := kh1.read2; have q2 := fun o => (kh1.alloc o).cell 0; have q3 := fun o => (kh1.alloc o).cell 1; simp at q2 q3; (try (have hks := ksa.below hb4 (by simp))))
      | (go_simp; go_at_call 22; refine (write_any g b _ n n l4 _ hlen4 (by omega) (by first | exact hraw4.reads | exact hraw4.reads.alloc _)).mono ?_; rintro e w2 ⟨ws, er, i, A5, c5, hwt, rfl, ho5, hb5⟩; have hby : Below w0.heap.size w0 w2 := (by first | exact below_cut hbx hb5 (Nat.le_refl _) | exact below_cut (hbx.alloc hbx.size _) hb5 (Nat.le_refl _)); have kh2 := kh.below hby hlt0; have hsx := hbx.size; have hsy := hby.size; (try (have hkt := hks.below hb5 (by have := hks.lt; first | exact this | (rw [World.size_alloc]; omega)))); (try (have hkt := (Blk.new w1 29 #[.int .i64 0, .int .i64 0]).below hb5 (by rw [World.size_alloc]; omega))); (try (obtain ⟨t0, t1, t2, t3, t4, t5⟩ := hkt.store2)); obtain ⟨u0, u1, u2, u3, u4, u5⟩ := (Blk.new w2 29 #[.int .i64 0, .int .i64 0]).store2))
    all_goals first
      | exact hK1.out _ _ ⟨gc, _, ws, er, i, A5, c5, Wrote.last hl4 hwt ho5 kh2 hby (by first | exact hsx | (rw [World.size_alloc]; omega)), by kernel_rfl⟩
      | exact hK1.out _ _ ⟨gc, _, ws, er, i, A5, c5, Wrote.early hl4 hwt ho5 kh2 hby (by first | exact hsx | (rw [World.size_alloc]; omega)) hkt (by first | exact hks.lt | (rw [World.size_alloc]; omega)) (by first | exact hsx | exact Nat.le_refl _) hlt0, by kernel_rfl⟩
  · rintro a' w2 ⟨gc, s, ws, er, i, A5, c5, ⟨hto, hown, hspot, hhead, hbelow, hlow⟩, rfl⟩
    have hB2 := below_cut hb0 hbelow (Nat.le_refl _)
    obtain ⟨p0, p1⟩ := hspot.read2
    obtain ⟨q0, q1⟩ := hhead.read2
    by_cases hbad : b = 0 ∨ 65536 < b
    · obtain ⟨rfl, rfl, rfl⟩ := hto.one (.bound hbad)
      simp only [List.length_nil]
      by_cases hb00 : b = 0
      · subst hb00
        go_wp2_with fail
        refine (awake_ok w2).mono ?_
        rintro e w3 ⟨rfl, hb3⟩
        go_wp2
        go_ret
        exact ⟨rfl, below_cut hB2 hb3 (Nat.le_refl _)⟩
      · have c1 : (b == 0) = false := by simpa using hb00
        have c2 : decide ((65536 : Int) < b) = true := by simp; omega
        clear hbad hb00
        go_wp2_with fail
        refine (awake_ok w2).mono ?_
        rintro e w3 ⟨rfl, hb3⟩
        go_wp2
        go_ret
        exact ⟨rfl, below_cut hB2 hb3 (Nat.le_refl _)⟩
    · have c1 : (b == 0) = false := by simp; omega
      have c2 : decide ((65536 : Int) < b) = false := by simp; omega
      have hRw := hR.below hB2
      have Hbad := Lib.hid hbad
      clear hbad
      go_wp2_with fail
      go_loop [7, 8] (fun x i => ∃ k : Nat, k ≤ n ∧ i = .int .i64 k ∧ x = .int .i64 (5 + (sz ((insL l).take k) : Int)) ∧ FaultTo (insL l) k) (fun _ i => n - (intOf i).toNat)
      case atStart => exact ⟨0, by omega, rfl, rfl, FaultTo.zero _⟩
      case round =>
        obtain ⟨k, hk, rfl, rfl, hF⟩ := hrel
        have hF5 := hF.le (by rw [insL_length]; omega)
        by_cases hlt : k < n
        · obtain ⟨bb, off, hAe, hb1, hc0, hc1⟩ := hRw.at2 (k := k) (by omega)
          subst hAe
          have hsz := sz_take_ri (l := l) (k := k) (by omega)
          have hik := insK_ri (l := l) (k := k) (by omega)
          have hlen := hR.len _ (ri_mem (l := l) (k := k) (by omega))
          obtain ⟨m, hm⟩ : ∃ m, (ri l k).1.2.length = m := ⟨_, rfl⟩
          rw [hm] at hc1 hlen hsz
          by_cases h1 : 65535 ≤ m
          · have hd1 : decide ((65535 : Int) < (m : Int) + 1) = true := by simp; omega
            obtain ⟨hmw, _, _⟩ := forth_wraps (a := sz ((insL l).take k)) (c := sz ((insL l).take (k + 1))) (by omega) hlen hsz
            obtain ⟨rfl, rfl, e3⟩ := hto.one (.fault Hbad.out (i := k) (e := 25) ⟨by rw [insL_length]; omega, hF, .inl ⟨by rw [hik, hm]; exact h1, rfl⟩⟩)
            have e4 := e3.symm
            subst e4
            simp only [List.length_nil]
            have H5 := Lib.hid hF5; have Hz := Lib.hid hsz; have H1 := Lib.hid h1; have HL := Lib.hid hlen; clear hF5 hsz h1 hlen hto
            go_wp2_with fail
            refine (awake_ok w2).mono ?_
            rintro e w3 ⟨rfl, hb3⟩
            go_wp2
            go_ret
            exact ⟨rfl, below_cut hB2 hb3 (Nat.le_refl _)⟩
          · have hmw0 : decide ((65535 : Int) < (m : Int) + 1) = false := by simp; omega
            by_cases h2 : 1048576 < 5 + sz ((insL l).take (k + 1))
            · have hd2 : decide ((1048576 : Int) < 5 + (sz ((insL l).take (k + 1)) : Int)) = true := by simp; omega
              obtain ⟨rfl, rfl, e3⟩ := hto.one (.fault Hbad.out (i := k) (e := 4) ⟨by rw [insL_length]; omega, hF, .inr ⟨by rw [hik, hm]; omega, h2, rfl⟩⟩)
              have e4 := e3.symm
              subst e4
              simp only [List.length_nil]
              obtain ⟨hmw, hw0, hw⟩ := forth_wraps (a := sz ((insL l).take k)) (c := sz ((insL l).take (k + 1))) (by omega) hlen hsz
              have H5 := Lib.hid hF5; have Hz := Lib.hid hsz; have H1 := Lib.hid h1; have H2 := Lib.hid h2; have HL := Lib.hid hlen; clear hF5 hsz h1 h2 hlen hto
              go_wp2_with fail
              refine (awake_ok w2).mono ?_
              rintro e w3 ⟨rfl, hb3⟩
              go_wp2
              go_ret
              exact ⟨rfl, below_cut hB2 hb3 (Nat.le_refl _)⟩
            · have hd2 : decide ((1048576 : Int) < 5 + (sz ((insL l).take (k + 1)) : Int)) = false := by simp; omega
              have hk1 : k + 1 ≤ n := hlt
              have hFs := Lib.hid (hF.succ (by rw [hik, hm]; omega) (by omega))
              have hmeas : n - (intOf (.int .i64 ((k : Int) + 1))).toNat < n - (intOf (.int .i64 (k : Int))).toNat := by simp [intOf]; omega
              obtain ⟨hmw, hw0, hw⟩ := forth_wraps (a := sz ((insL l).take k)) (c := sz ((insL l).take (k + 1))) (by omega) hlen hsz
              have H5 := Lib.hid hF5; have Hz := Lib.hid hsz; have H1 := Lib.hid h1; have H2 := Lib.hid h2; have HL := Lib.hid hlen; clear hF5 hsz h1 h2 hlen
              go_wp2_with fail
              go_round
              case rel => exact ⟨k + 1, hk1, by go_num, by rw [hw], hFs.out⟩
              case measure => exact hmeas
        · obtain rfl : k = n := by omega
          rw [List.take_of_length_le (by rw [insL_length]; omega)] at *
          have hF' : FaultTo (insL l) (insL l).length := by rw [insL_length, hl]; exact hF
          obtain ⟨rfl, rfl, rfl⟩ := hto.one (.ok Hbad.out hF')
          have hwf : ∀ x ∈ insL l, wfIns x := fun x hx => by
            obtain ⟨y, hy, rfl⟩ := List.mem_map.1 hx
            exact ⟨hF'.at_ _ hx, hR.op y hy, hU y hy⟩
          have hum := under_mod hg hbb hwf
          have hrm := readTo_mod (g := g) (b := b) (fun e => Hbad.out (.inl e)) (by have := Hbad.out; omega) hwf hF'
          have hml := modW_length g b (insL l)
          obtain ⟨N, hN⟩ : ∃ N, 5 + sz (insL l) = N := ⟨_, rfl⟩
          rw [hN] at hml hF5
          rw [hml] at hown
          rw [hml]
          have hNz : (5 : Int) + (sz (insL l) : Int) = (N : Int) := by omega
          simp only [hNz]
          have HN := Lib.hid hN; have HF5 := Lib.hid hF5; have Hml := Lib.hid hml; have HNz := Lib.hid hNz
          clear hto hF hF' hN hF5 hml hNz
          go_wp2_with fail
          refine (copyWords _ _ _ _ w2 (Nat.le_trans HF5.out (by decide)) (Reads.of_own hown)).mono ?_
          rintro e w3 ⟨g3, rfl, ho3, hb3⟩
          have hB3 := below_cut hB2 hb3 (Nat.le_refl _)
          have hspot3 := hspot.below hb3 hspot.lt
          have hhead3 := hhead.below hb3 hhead.lt
          go_wp2_with fail
          have hN3 : N ≤ 35184372087808 := Nat.le_trans HF5.out (by decide)
          have hr3 := Reads.of_own ho3
          refine (read_any (some ⟨g3, 0, none⟩) N N (modW g b (insL l)) w3 hN3 hr3 hum (Nat.le_refl N)).mono ?_
          rintro e w4 ⟨g4, b4, er4, p4, A4, c4, l4, hrd4, rfl, hraw4, hb4⟩
          obtain ⟨rfl, rfl, hl4, rfl, rfl⟩ := hrd4.one hrm
          have hB4 := below_cut hB3 hb4 (Nat.le_refl _)
          have hlen4 : l4.length = l.length := by have := congrArg List.length hl4; simpa [insL] using this
          have hspot4 := hspot3.below hb4 hspot3.lt
          have hhead4 := hhead3.below hb4 hhead3.lt
          have hB5 := (hB4.alloc hB4.size (.cells #[.int .u32 g4, .int .u32 b4] 25)).alloc (by have := hB4.size; simp; omega) (.cells #[.int .i64 0, .int .i64 0] 29)
          have hspot5 := (hspot4.alloc (.cells #[.int .u32 g4, .int .u32 b4] 25)).alloc (.cells #[.int .i64 0, .int .i64 0] 29)
          have hhead5 := (hhead4.alloc (.cells #[.int .u32 g4, .int .u32 b4] 25)).alloc (.cells #[.int .i64 0, .int .i64 0] 29)
          have kx5 := (Blk.new w4 25 #[.int .u32 g4, .int .u32 b4]).alloc (.cells #[.int .i64 0, .int .i64 0] 29)
          have ky5 := Blk.new (w4.alloc (.cells #[.int .u32 g4, .int .u32 b4] 25)) 29 #[.int .i64 0, .int .i64 0]
          rw [World.size_alloc] at ky5
          have hraw5 := hraw4.reads.alloc (.cells #[.int .u32 g4, .int .u32 b4] 25) |>.alloc (.cells #[.int .i64 0, .int .i64 0] 29)
          obtain ⟨a0, a1⟩ := hspot5.read2
          obtain ⟨a2, a3⟩ := hhead5.read2
          obtain ⟨a4, a5⟩ := kx5.read2
          obtain ⟨a6, a7⟩ := ky5.read2
          have Hl4 := Lib.hid hl4
          clear p0 p1 q0 q1 hl4 hrd4 hrm
          go_wp2_with fail
          refine (raws_same A4 A k k c4 c l4 l _ (hlen4.trans hl) hl (by omega) (by omega) hraw5 (hR.below hB5)).mono ?_
          rintro e w6 ⟨rfl, m6, rfl⟩
          rw [show insL l4 = insL l from Hl4.out, sameL_refl]
          have hB6 := below_drewN hB5 m6
          go_wp2_with fail
          refine (awake_ok _).mono ?_
          rintro e w7 ⟨rfl, hb7⟩
          go_wp2
          go_ret
          exact ⟨rfl, below_cut hB6 hb7 (Nat.le_refl _)⟩
end Go.Proofs.Ytppkjejdkogfpaa
