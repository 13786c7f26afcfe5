/- Walks: the document's answer for frames: Read. -/
import Derived.Test.YtppkjejdkogfpaaRefat
namespace Go.Proofs.Ytppkjejdkogfpaa
open Go.RowKit

theorem Reads.litN (w : World) (cs : Array Value) (t : TypeId) (size n k : Nat) (h : cs.size = k) (hk : k = n * size) (hm : k ≤ 1000) : Reads (w.alloc (.cells cs t)) (w.heap.size + 1) size (some ⟨w.heap.size, 0, none⟩) n cs.toList :=
  ⟨by simp [h, hk], fun _ => ⟨_, rfl, by simp, lit_cells2 w cs t k h hm⟩⟩

set_option maxRecDepth 100000 in
set_option maxHeartbeats 2000000 in
theorem refread_large (A : Option Addr) (n c : Nat) (ws : List Int) (w : World) (hn : n ≤ 35184372087808) (hr : Reads w w.heap.size 1 A n (Ints .u32 ws)) (hlarge : 1048576 < n) :
    Calls Try.prog 10 #[.slice A n c] w (ReadIs ws w) := by
  have hlen := hr.len
  have hl : decide ((1048576 : Int) < (n : Int)) = true := by simp; omega
  have hL : 1048576 < ws.length := by omega
  have HL := Lib.hid hL
  clear hL hlarge hlen
  go_enter Try.func10, Try.ntmps10
  go_wp2_with fail
  have k2 := (Blk.new w 25 #[.int .u32 0, .int .u32 0]).alloc (.cells #[.int .i64 4, .int .i64 1048576] 29)
  have k4 := Blk.new (w.alloc (.cells #[.int .u32 0, .int .u32 0] 25)) 29 #[.int .i64 4, .int .i64 1048576]
  rw [World.size_alloc] at k4
  obtain ⟨s0, s1⟩ := k2.read2
  obtain ⟨z0, z1⟩ := k4.read2
  have hb := ((Below.refl w.heap.size w).alloc (Nat.le_refl _) (.cells #[.int .u32 0, .int .u32 0] 25)).alloc (by simp) (.cells #[.int .i64 4, .int .i64 1048576] 29)
  refine bodyPost_ret (v := .tuple #[.agg #[.int .u32 0, .int .u32 0], .slice none 0 0, .agg #[.int .i64 4, .int .i64 1048576]]) (by rw [results_ctc rfl]; go_simp) rfl ?_
  exact ⟨0, 0, 4, 1048576, none, 0, [], .large HL.out, rfl, RawO.nil _ _, hb⟩

set_option maxRecDepth 100000 in
set_option maxHeartbeats 4000000 in
theorem refread_any (A : Option Addr) (n c : Nat) (ws : List Int) (w : World) (hn : n ≤ 35184372087808) (hr : Reads w w.heap.size 1 A n (Ints .u32 ws)) (hu : Under 4294967296 ws) :
    Calls Try.prog 10 #[.slice A n c] w (ReadIs ws w) := by
  rcases Nat.lt_or_ge 1048576 n with hlarge | hlarge
  · exact refread_large A n c ws w hn hr hlarge
  have hlen := hr.len
  have hl : decide ((1048576 : Int) < (n : Int)) = false := by simp; omega
  have hle : ws.length ≤ 1048576 := by omega
  obtain ⟨L, E, hG⟩ := Goes.any ws 5
  have hGlen := hG.len
  have k2 := (Blk.new w 25 #[.int .u32 0, .int .u32 0]).alloc (.cells #[.int .i64 0, .int .i64 0] 29)
  have k4 := Blk.new (w.alloc (.cells #[.int .u32 0, .int .u32 0] 25)) 29 #[.int .i64 0, .int .i64 0]
  rw [World.size_alloc] at k4
  have hb := ((Below.refl w.heap.size w).alloc (Nat.le_refl _) (.cells #[.int .u32 0, .int .u32 0] 25)).alloc (by simp) (.cells #[.int .i64 0, .int .i64 0] 29)
  have hsw : ((w.alloc (.cells #[.int .u32 0, .int .u32 0] 25)).alloc (.cells #[.int .i64 0, .int .i64 0] 29)).heap.size = w.heap.size + 2 := by simp
  have hne24 : w.heap.size ≠ w.heap.size + 1 := by omega
  have Hle := Lib.hid hle
  have Hlarge := Lib.hid hlarge
  clear hlarge hle
  go_enter Try.func10, Try.ntmps10
  go_wp2_with fail
  generalize (w.alloc (.cells #[.int .u32 0, .int .u32 0] 25)).alloc (.cells #[.int .i64 0, .int .i64 0] 29) = w2 at *
  have hr2 := hr.below (hb.mono (Nat.le_refl _))
  have hr2' := hr2.more (B' := w2.heap.size) (by omega)
  obtain ⟨w0', w1', w2', w3', z4, z5, z6, z7⟩ := k2.store22 k4 hne24
  obtain ⟨t0, t1, t2, t3, t4, t5⟩ := k2.store2
  have y0 := fun v0 v1 => (k4.far (p := ⟨w.heap.size, 0, none⟩) (by simp) v0).far (p := ⟨w.heap.size, 1, none⟩) (by simp) v1
  have y1 := fun v0 v1 => (y0 v0 v1).cell 0
  have y2 := fun v0 v1 => (y0 v0 v1).frozen 0
  have y3 := fun v0 v1 v2 => ((y0 v0 v1).one2 v2).cell 1
  have y4 := fun v0 v1 v2 => ((y0 v0 v1).one2 v2).frozen 1
  simp at y1 y3
  go_loop [5] (fun i => ∃ k : Nat, k ≤ 5 ∧ i = .int .i64 k ∧ HeadTo ws k) (fun i => 5 - (intOf i).toNat)
  case atStart => exact ⟨0, by omega, rfl, HeadTo.zero _⟩
  case round =>
    obtain ⟨k, hk, rfl, hH⟩ := hrel
    by_cases hk5 : k < 5
    · by_cases hkn : k < n
      · obtain ⟨ad, rfl, hadb, hc⟩ := hr2'.int_at hkn
        have hwr := wrong_any k (ix ws k) hk5 w2
        by_cases hbad : wrongW k (ix ws k) = 0
        · have hbb : (wrongW k (ix ws k) != 0) = false := by simp [hbad]
          have Hbad := Lib.hid hbad
          clear hbad
          go_wp2_with fail
          refine hwr.mono ?_
          rintro e w' ⟨rfl, rfl⟩
          go_wp2_with fail
          go_round
          case rel => exact ⟨k + 1, by omega, by go_num, hH.succ (by omega) Hbad.out⟩
          case measure => simp [intOf]; omega
        · have hbb : (wrongW k (ix ws k) != 0) = true := by simpa using hbad
          have Hbad := Lib.hid hbad
          clear hbad
          go_wp2_with fail
          refine hwr.mono ?_
          rintro e w' ⟨rfl, rfl⟩
          go_wp2_with fail
          refine bodyPost_ret (v := .tuple #[.agg #[.int .u32 0, .int .u32 0], .slice none 0 0, .agg #[.int .i64 (wrongW k (ix ws k)), .int .i64 k]]) (by rw [results_ctc rfl]; go_simp) rfl ?_
          exact ⟨0, 0, _, k, none, 0, [], .head Hle.out ⟨hk5, hH, .inr ⟨by omega, rfl, Hbad.out⟩⟩, rfl, RawO.nil _ _, below_put2 (below_put2 hb (Nat.le_refl _)) (by omega)⟩
      · have hkn' : decide ((n : Int) ≤ (k : Int)) = true := by simp; omega
        go_wp2_with fail
        refine bodyPost_ret (v := .tuple #[.agg #[.int .u32 0, .int .u32 0], .slice none 0 0, .agg #[.int .i64 14, .int .i64 k]]) (by rw [results_ctc rfl]; go_simp) rfl ?_
        exact ⟨0, 0, 14, k, none, 0, [], .head Hle.out ⟨hk5, hH, .inl ⟨by omega, rfl⟩⟩, rfl, RawO.nil _ _, below_put2 (below_put2 hb (Nat.le_refl _)) (by omega)⟩
    · obtain rfl : k = 5 := by omega
      have h5n : 5 ≤ n := by have := (hH 4 (by omega)).1; omega
      go_wp2_with fail
      clear t0 t1 t2 t3 t4 t5 z4 z5 z6 z7 y0 y1 y2 y3 y4 w0' w1' w2' w3'
      have Hlen := Lib.hid hlen
      have hLn : L.length ≤ n := by omega
      clear hlen hGlen
      go_loopw [7, 8] (fun v i wr => ∃ (p : Nat) (A' : Option Addr) (c' : Nat) (l : List RI) (rest : List (Nat × Ins)), i = .int .i64 p ∧ v = .slice A' l.length c' ∧ Goes ws p rest E ∧ L.map (·.2) = insL l ++ rest.map (·.2) ∧ RawO wr (w.heap.size + 2) A' c' l ∧
        Blk wr w.heap.size 25 #[.int .u32 0, .int .u32 0] ∧ Blk wr (w.heap.size + 1) 29 #[.int .i64 0, .int .i64 0] ∧ Below w.heap.size w wr ∧ w.heap.size + 2 ≤ wr.heap.size) (fun _ i _ => n + 1 - (intOf i).toNat)
      case atStart => exact ⟨5, none, 0, [], L, rfl, rfl, hG, rfl, RawO.nil _ _, k2, k4, hb, by omega⟩
      case round =>
        clear k2 k4 hb hr2 hr2'
        obtain ⟨p, A', c', l, rest, rfl, rfl, hgo, hLe, hraw, h2, h4, hbw, hsz⟩ := hrel
        have hll : l.length + rest.length = L.length := by
          have := congrArg List.length hLe
          simpa [insL] using this.symm
        by_cases hp : p < n
        · have hpd : decide ((p : Int) < (n : Int)) = true := by simp; omega
          have hrw := (hr.below hbw).more (B' := wr.heap.size) hbw.size
          have hends := ends_any A n c ws p wr hn hp hu hrw
          cases hgo with
          | stop hno =>
            obtain ⟨_, _, _, _, z4, z5, z6, z7⟩ := h2.store22 h4 hne24
            obtain ⟨t0, t1, t2, t3, t4, t5⟩ := h2.store2
            have y0 := fun v0 v1 => (h4.far (p := ⟨w.heap.size, 0, none⟩) (by simp) v0).far (p := ⟨w.heap.size, 1, none⟩) (by simp) v1
            have y1 := fun v0 v1 => (y0 v0 v1).cell 0
            have y2 := fun v0 v1 => (y0 v0 v1).frozen 0
            have y3 := fun v0 v1 v2 => ((y0 v0 v1).one2 v2).cell 1
            have y4 := fun v0 v1 v2 => ((y0 v0 v1).one2 v2).frozen 1
            simp at y1 y3
            go_wp2_with fail
            refine hends.mono ?_
            rintro e w' ⟨h, rfl⟩
            rcases h with ⟨hc, _⟩ | ⟨_, rfl⟩
            · exact absurd hc hno
            go_wp2_with fail
            refine bodyPost_ret (v := .tuple #[.agg #[.int .u32 0, .int .u32 0], .slice none 0 0, .agg #[.int .i64 25, .int .i64 E]]) (by rw [results_ctc rfl]; go_simp) rfl ?_
            have hl5 := Hlen.out
            exact ⟨0, 0, 25, E, none, 0, [], .count Hle.out hH hG (by omega), rfl, RawO.nil _ _, below_put2 (below_put2 hbw (Nat.le_refl _)) (by omega)⟩
          | @step _ _ rest hcan hgo' =>
            have hl5 := Hlen.out
            have hq := hcan.2.2
            have hq1 := hcan.2.1
            have hat := at_any A n c ws p (p + cntW (ix ws p)) wr hn (by omega) (by omega) hu hrw
            have hins : (ix ws p % 65536, (ws.drop (p + 1)).take (p + cntW (ix ws p) - (p + 1))) = insAt ws p := by simp only [insAt]; rw [show p + cntW (ix ws p) - (p + 1) = cntW (ix ws p) - 1 from by omega]
            rw [hl5] at hq
            have Hins := Lib.hid hins
            have Hcan := Lib.hid hcan
            have Hq := Lib.hid hq
            have Hq1 := Lib.hid hq1
            have Hll := Lib.hid hll
            obtain ⟨q, hqe⟩ : ∃ q, p + cntW (ix ws p) = q := ⟨_, rfl⟩
            rw [hqe] at hat hgo'
            clear hl5 hq hq1 hcan hins hll
            go_wp2_with fail
            refine hends.mono ?_
            rintro e w' ⟨h, rfl⟩
            rcases h with ⟨_, rfl⟩ | ⟨hc, _⟩
            case inr => exact absurd Hcan.out hc
            rw [hqe]
            go_wp2_with fail
            refine hat.mono ?_
            rintro e w3 ⟨x, hx, rfl, hox, hb3⟩
            have hraw3 := hraw.below hb3
            have h23 := h2.below hb3 (by omega)
            have h43 := h4.below hb3 (by omega)
            have hbw3 := below_cut hbw hb3 (Nat.le_refl _)
            have hs3 := hb3.size
            rw [← hqe, Hins.out] at hx
            have hxb := can_bounds hu Hcan.out
            rw [← hx] at hxb
            have hne2 : some w.heap.size ≠ (Value.slice A' l.length c').ownBlock := fun e => own_ne_low hraw3.row (g := w.heap.size) (by omega) e.symm
            have hne4 : some (w.heap.size + 1) ≠ (Value.slice A' l.length c').ownBlock := fun e => own_ne_low hraw3.row (g := w.heap.size + 1) (by omega) e.symm
            have Hx := Lib.hid hx
            have Hqe := Lib.hid hqe
            clear hx hqe hends hat
            go_wp2_with (at_builtin; refine ap_any slRaw _ rfl _ _ rfl (w.heap.size + 2) _ _ _ rfl (hraw3.row.alloc _) _ _ 1 1 [.int .u16 x.1.1, .slice x.2.1 x.1.2.length x.2.2] rfl (Reads.litN _ _ _ 2 1 2 rfl rfl (by omega)) (by simp [Value.oneCell']) (by have := Hlarge.out; have := Hll.out; omega) (by have := Hlarge.out; have := Hll.out; omega) (by rw [World.size_alloc]; omega) ?_; intro A4 c4 w4 hown4 hgr4 _; have h24 := (h23.alloc (.cells #[.int .u16 x.1.1, .slice x.2.1 x.1.2.length x.2.2] 45)).grown hgr4 hne2; have h44 := (h43.alloc (.cells #[.int .u16 x.1.1, .slice x.2.1 x.1.2.length x.2.2] 45)).grown hgr4 hne4; have hs4 := hgr4.size; rw [World.size_alloc] at hs4)
            have hsn := RawO.snoc hraw3 (own_base hox (by omega)) (fun y hy k hk hk2 => by
              have h1 := ((hraw.ws y hy).lt k hk).2
              have h2 := (hox.lt k hk2).1
              omega) (by omega) hxb.2 hgr4 hown4
            have hb4 := (hbw3.alloc hbw3.size (.cells #[.int .u16 x.1.1, .slice x.2.1 x.1.2.length x.2.2] 45)).grown hgr4 (by have := hbw3.size; simp; omega) (fun k hk => by have := (hraw3.row.lt k hk).1; omega)
            go_roundw
            case rel =>
              refine ⟨q, A4, c4, l ++ [x], rest, rfl, by rw [List.length_append]; rfl, hgo', ?_, hsn, h24, h44, hb4, by omega⟩
              rw [hLe]
              simp [insL, Hx.out]
            case measure => have := Hqe.out; have := Hq1.out; simp [intOf]; omega
        · have hpd : decide ((p : Int) < (n : Int)) = false := by simp; omega
          have hrest : rest = [] := by
            cases hgo with
            | stop _ => rfl
            | step hc _ => have := hc.1; have := Hlen.out; omega
          subst hrest
          have hpE : p = E := by
            cases hgo with
            | stop _ => rfl
          subst hpE
          have hrw := hr.below hbw
          obtain ⟨b, off, rfl, hb1, hcells⟩ := hrw.ints (by omega)
          have c2 := hcells 2 (by omega)
          have c3 := hcells 3 (by omega)
          have i2 : 2 < n := by omega
          have i3 : 3 < n := by omega
          obtain ⟨q0, q1⟩ := h2.read2
          obtain ⟨q2, q3⟩ := h4.read2
          have q4 := h2.frozen 0
          have q5 := h2.frozen 1
          have q6 := h4.frozen 0
          have q7 := h4.frozen 1
          have hnb1 : b ≠ w.heap.size := by omega
          have hnb2 : b ≠ w.heap.size + 1 := by omega
          clear hcells
          go_wp2_with fail
          refine region_cut (fun a a' w' => Res wr.drew w' w.heap.size (w.heap.size + 1) (.int .u32 (ix ws 2)) (.int .u32 (ix ws 3)) (.int .i64 0) (.int .i64 0) ∧ a' = ((((((((((a.put (some 62) (.slice (some ⟨b, off, none⟩) n c)).put (some 63) (.pointer (some ⟨b, off + 2, none⟩))).put (some 64) (.int .u32 (ix ws 2))).put (some 65) (.slice (some ⟨b, off, none⟩) n c)).put (some 66) (.pointer (some ⟨b, off + 3, none⟩))).put (some 67) (.int .u32 (ix ws 3))).put (some 68) (.agg #[.int .u32 (ix ws 2), .int .u32 (ix ws 3)])).put (some 69) (.slice A' l.length c')).put (some 70) (.agg #[.int .i64 0, .int .i64 0])).put (some 3) (.slice A' l.length c'))) ?_ ?_
          · intro K1 hK1
            go_region
            all_goals first
              | exact hK1.out _ _ ⟨res_a h2.drew h4.drew (by omega) _ _ _ _, by kernel_rfl⟩
              | exact hK1.out _ _ ⟨res_b h2.drew h4.drew (by omega) _ _ _ _, by kernel_rfl⟩
          · rintro a' w6 ⟨hRes, rfl⟩
            obtain ⟨d0, d1, d2, d3, hoff⟩ := hRes
            go_wp2_with fail
            refine bodyPost_ret (v := .tuple #[.agg #[.int .u32 (ix ws 2), .int .u32 (ix ws 3)], .slice A' l.length c', .agg #[.int .i64 0, .int .i64 0]]) (by rw [results_ctc rfl]; go_simp) rfl ?_
            have hoff2 := ((Off.refl _ wr).drew).trans hoff
            have hrd := ReadTo.ok Hle.out hH hG (by have := Hlen.out; omega)
            rw [hLe, List.map_nil, List.append_nil] at hrd
            exact ⟨_, _, 0, 0, A', c', l, hrd, rfl, (hraw.off hoff2 (fun k h1 _ e => by rcases e with e | e <;> omega)).more (by omega), hbw.trans (hoff2.to_below w.heap.size hbw.size (by rintro k _ (rfl | rfl) <;> omega))⟩
end Go.Proofs.Ytppkjejdkogfpaa
