/- Walks: a canvas with dots, and the document's. -/
import Derived.Test.YtfciaefjilobaaaRnew
import Derived.Test.YtfciaefjilobaaaDots
namespace Go.Proofs.Ytfciaefjilobaaa
open Go.RowKit

/-- no canvas -/
def noRef : Value := .agg #[.int .i64 0, .int .i64 0, .int .u32 0, .slice none 0 0]
set_option maxHeartbeats 1000000 in
theorem drawn_bad (W H back : Int) (hW : -9223372036854775808 ≤ W ∧ W ≤ 9223372036854775807) (hH : -9223372036854775808 ≤ H ∧ H ≤ 9223372036854775807) (hbad : newE W H ≠ 0) (A : Option Addr) (n c : Nat) (w : World) :
    Calls Try.prog 11 #[.agg #[.int .i64 W, .int .i64 H, .int .u32 back], .slice A n c] w fun e w' => e = .returned (.tuple #[.pointer none, noRef, .bool true]) ∧ Below w.heap.size w w' := by
  have h1 := fun w' => rnew_bad W H back hbad w'
  have h2 := fun w' => new_bad W H back hW hH hbad w'
  have e0 : (newE W H == 0) = false := by simpa using hbad
  have e1 : (newE W H != 0) = true := by simpa using hbad
  generalize newE W H = ee at h1 h2 e0 e1
  have hb0 := ((Below.refl w.heap.size w).alloc (Nat.le_refl _) (.cells #[.int .i64 W, .int .i64 H, .int .u32 back] 24)).alloc (by simp) (.cells #[.int .i64 0, .int .i64 0, .int .u32 0, .slice none 0 0] 31)
  unfold noRef
  go_enter Try.func11, Try.ntmps11
  go_wp2_with fail
  refine (h1 _).mono ?_
  rintro e w1 ⟨rfl, hb1⟩
  have ks := ((Blk.new w 24 #[.int .i64 W, .int .i64 H, .int .u32 back]).alloc (.cells #[.int .i64 0, .int .i64 0, .int .u32 0, .slice none 0 0] 31)).below hb1 (by simp <;> omega)
  have kr : Blk w1 (w.heap.size + 1) 31 #[.int .i64 0, .int .i64 0, .int .u32 0, .slice none 0 0] := by
    have h := (Blk.new (w.alloc (.cells #[.int .i64 W, .int .i64 H, .int .u32 back] 24)) 31 #[.int .i64 0, .int .i64 0, .int .u32 0, .slice none 0 0]).below hb1 (by simp <;> omega)
    simpa using h
  have hb2 := below_cut hb0 hb1 (Nat.le_refl _)
  have hw1 := kr.lt
  obtain ⟨q0, q1, q2⟩ := ks.read3
  obtain ⟨u0, u1, u2⟩ := (ks.alloc (.cells #[.int .i64 0, .int .i64 0, .int .u32 0, .slice none 0 0] 31)).read3
  have hb3 := hb2.alloc hb2.size (.cells #[.int .i64 0, .int .i64 0, .int .u32 0, .slice none 0 0] 31)
  go_wp2_with fail
  refine (h2 _).mono ?_
  rintro e w2 ⟨rfl, rfl⟩
  go_wp2
  have kc := Blk.new w1 31 #[.int .i64 0, .int .i64 0, .int .u32 0, .slice none 0 0]
  have kr2 := kr.alloc (.cells #[.int .i64 0, .int .i64 0, .int .u32 0, .slice none 0 0] 31)
  clear q0 q1 q2 u0 u1 u2 ks kr hb1 hb0 h1 h2 hb2
  generalize w1.alloc (.cells #[.int .i64 0, .int .i64 0, .int .u32 0, .slice none 0 0] 31) = w5 at *
  obtain ⟨c0, c1, c2, c3⟩ := kc.read4
  refine wp_region_tail 2 (by kernel_rfl) (by kernel_rfl) ?_
  simp only [List.take_succ_cons, List.take_zero, List.drop_succ_cons, List.drop_zero]
  repeat (go_big_quiet_step (fail))
  refine wpQuiet_nil ?_
  have kr3 := kr2.drew
  have hb4 := hb3.drew
  clear hb3 kr2 kc c0 c1 c2 c3
  generalize w5.drew = w6 at *
  obtain ⟨s0, g0, s1, g1, s2, g2, s3, g3⟩ := kr3.store4
  obtain ⟨r0, r1, r2, r3⟩ := (kr3.put4 (.int .i64 0) (.int .i64 0) (.int .u32 0) (.slice none 0 0)).read4
  go_wp2
  (try simp only [Exit.inBlock, Exit.then])
  refine bodyPost_ret (v := .tuple #[.pointer none, .agg #[.int .i64 0, .int .i64 0, .int .u32 0, .slice none 0 0], .bool true]) (by rw [results_tct rfl]; go_simp) rfl ?_
  exact ⟨rfl, hb4.trans ((off_put4 _ _ _ _ _ _).to_below w.heap.size hb4.size (fun k _ hk => by omega))⟩


/-- what holds at a round's head -/
structure DInv (w wr : World) (b5 b7 g gp gq N W H : Nat) (back : Int) (ps : List Pix) : Prop where
  can : CanS wr w.heap.size g gp N N W H back ps
  ref : RefS wr w.heap.size gq N N W H back ps
  kc : Blk wr b7 31 #[.int .i64 W, .int .i64 H, .int .u32 back, .slice (some ⟨gq, 0, none⟩) N N]
  kr : Blk wr b5 31 #[.int .i64 0, .int .i64 0, .int .u32 0, .slice none 0 0]
  below : Below w.heap.size w wr
theorem own_blk_ne' {w : World} {base n size g gp c : Nat} {e t : TypeId} {A : List Value} {cs : Array Value} (h : w.ownsRow base e size (.slice (some ⟨gp, 0, none⟩) n c) n A) (hg : Blk w g t cs) (hne : e ≠ t) : g ≠ gp := fun e' => by
  subst e'
  exact own_blk_ne h hg hne rfl

set_option maxHeartbeats 4000000 in
theorem drawn_ok (W H : Nat) (back : Int) (hW : 1 ≤ W ∧ W ≤ 1024) (hH : 1 ≤ H ∧ H ≤ 1024) (hb : 0 ≤ back ∧ back < 4294967296) (A : Option Addr) (m c : Nat) (l : List Dot) (w : World) (hm : m ≤ 9223372036854775807) (hl : okDots l) (hr : Reads w w.heap.size 4 A m (Dots l)) :
    Calls Try.prog 11 #[.agg #[.int .i64 W, .int .i64 H, .int .u32 back], .slice A m c] w fun e w' => ∃ g gp gq, e = .returned (.tuple #[.pointer (some ⟨g, 0, none⟩), refV gq (W * H) (W * H) W H back, .bool true]) ∧
      CanS w' w.heap.size g gp (W * H) (W * H) W H back (runD W H (List.replicate (W * H) noPix) l) ∧ RefS w' w.heap.size gq (W * H) (W * H) W H back (runD W H (List.replicate (W * H) noPix) l) ∧ Below w.heap.size w w' := by
  have h1 := fun w' => rnew_ok W H back hW hH hb w'
  have h2 := fun w' => new_ok W H back hW hH hb w'
  generalize W * H = N at h1 h2 ⊢
  have hb0 := ((Below.refl w.heap.size w).alloc (Nat.le_refl _) (.cells #[.int .i64 W, .int .i64 H, .int .u32 back] 24)).alloc (by simp) (.cells #[.int .i64 0, .int .i64 0, .int .u32 0, .slice none 0 0] 31)
  have hlen := hr.dots_len
  unfold refV at *
  go_enter Try.func11, Try.ntmps11
  go_wp2_with fail
  refine (h1 _).mono ?_
  rintro e w1 ⟨gq, rfl, hR, hb1⟩
  have ks := ((Blk.new w 24 #[.int .i64 W, .int .i64 H, .int .u32 back]).alloc (.cells #[.int .i64 0, .int .i64 0, .int .u32 0, .slice none 0 0] 31)).below hb1 (by simp <;> omega)
  have kr : Blk w1 (w.heap.size + 1) 31 #[.int .i64 0, .int .i64 0, .int .u32 0, .slice none 0 0] := by
    have h := (Blk.new (w.alloc (.cells #[.int .i64 W, .int .i64 H, .int .u32 back] 24)) 31 #[.int .i64 0, .int .i64 0, .int .u32 0, .slice none 0 0]).below hb1 (by simp)
    simpa using h
  have hb2 := below_cut hb0 hb1 (Nat.le_refl _)
  have hR1 := hR.base_le (base' := w.heap.size) (by simp; omega)
  clear hb1 hb0 h1 hR
  obtain ⟨u0, u1, u2⟩ := ks.read3
  obtain ⟨q0, q1, q2⟩ := (ks.alloc (.cells #[.int .i64 W, .int .i64 H, .int .u32 back, .slice (some ⟨gq, 0, none⟩) N N] 31)).read3
  have hb3 := hb2.alloc hb2.size (.cells #[.int .i64 W, .int .i64 H, .int .u32 back, .slice (some ⟨gq, 0, none⟩) N N] 31)
  go_wp2_with fail
  have kc := Blk.new w1 31 #[.int .i64 W, .int .i64 H, .int .u32 back, .slice (some ⟨gq, 0, none⟩) N N]
  have kr2 := kr.alloc (.cells #[.int .i64 W, .int .i64 H, .int .u32 back, .slice (some ⟨gq, 0, none⟩) N N] 31)
  have hR2 := hR1.below ((Below.refl _ _).alloc (Nat.le_refl _) (.cells #[.int .i64 W, .int .i64 H, .int .u32 back, .slice (some ⟨gq, 0, none⟩) N N] 31))
  clear q0 q1 q2 u0 u1 u2 ks kr hb2 hR1
  have hw1 := hb3.size
  generalize w1.alloc (.cells #[.int .i64 W, .int .i64 H, .int .u32 back, .slice (some ⟨gq, 0, none⟩) N N] 31) = w5 at *
  refine (h2 _).mono ?_
  rintro e w2 ⟨g, gp, rfl, hC, hb4⟩
  have hinv : DInv w w2 (w.heap.size + 1) w1.heap.size g gp gq N W H back (runD W H (List.replicate N noPix) (l.take 0)) :=
    ⟨hC.base_le hw1, hR2.below hb4, kc.below hb4 kc.lt, kr2.below hb4 kr2.lt, below_cut hb3 hb4 (Nat.le_refl _)⟩
  clear hC hR2 kc kr2 hb3 hb4 h2
  generalize w1.heap.size = b7 at *
  obtain ⟨b5, hb5⟩ : ∃ b5, w.heap.size + 1 = b5 := ⟨_, rfl⟩
  rw [hb5] at hinv ⊢
  go_wp2_with fail
  go_loopw [11] (fun i wr => ∃ k : Nat, k ≤ m ∧ i = .int .i64 k ∧ DInv w wr b5 b7 g gp gq N W H back (runD W H (List.replicate N noPix) (l.take k))) (fun i _ => m - (intOf i).toNat)
  case atStart => exact ⟨0, by omega, rfl, hinv⟩
  case round =>
    obtain ⟨k, hk, rfl, hI⟩ := hrel
    by_cases hlt : k < m
    · obtain ⟨ab, off, rfl, hab, hdots⟩ := (hr.below hI.below).dots (by omega)
      obtain ⟨d0, d1, d2, d3⟩ := hdots k hlt
      clear hdots
      have hp := hl _ (dt_mem (l := l) (k := k) (by omega))
      have hnext := runD_take (W := W) (H := H) (ps := List.replicate N noPix) (l := l) (k := k) (by omega)
      have hpl := fun w' (h : CanS w' w.heap.size g gp N N W H back (runD W H (List.replicate N noPix) (l.take k))) => plot_any h (dt l k).1 (dt l k).2.1 (dt l k).2.2.1 (dt l k).2.2.2 hp
      have hrp := fun w' (h : RefS w' w.heap.size gq N N W H back (runD W H (List.replicate N noPix) (l.take k))) => rplot_any h (dt l k).1 (dt l k).2.1 (dt l k).2.2.1 (dt l k).2.2.2 hp
      unfold Plotted at hpl
      unfold Rplotted refV at hrp
      generalize runD W H (List.replicate N noPix) (l.take k) = ps at hI hpl hrp hnext
      generalize plotR W H ps (dt l k).1 (dt l k).2.1 (dt l k).2.2.1 (dt l k).2.2.2 = ps2 at hpl hrp hnext
      generalize plotIs W H ps (dt l k).1 (dt l k).2.1 (dt l k).2.2.1 = is at hpl hrp
      generalize plotE W H (dt l k).1 (dt l k).2.1 = ee at hpl hrp
      generalize dt l k = q at hp d0 d1 d2 d3 hpl hrp
      obtain ⟨qx, qy, qd, qc⟩ := q
      simp only at d0 d1 d2 d3 hpl hrp
      have hb1 := hI.below.alloc hI.below.size (.cells #[.int .i64 qx, .int .i64 qy, .int .i32 qd, .int .u32 qc] 57)
      have hrec := (Below.refl wr.heap.size wr).alloc (Nat.le_refl _) (.cells #[.int .i64 qx, .int .i64 qy, .int .i32 qd, .int .u32 qc] 57)
      obtain ⟨t0, t1, t2, t3⟩ := (hI.kc.alloc (.cells #[.int .i64 qx, .int .i64 qy, .int .i32 qd, .int .u32 qc] 57)).read4
      go_wp2_with fail
      have hC := hI.can.below hrec
      have hR := hI.ref.below hrec
      have kc := hI.kc.below hrec hI.kc.lt
      have kr := hI.kr.below hrec hI.kr.lt
      have kd := Blk.new wr 57 #[.int .i64 qx, .int .i64 qy, .int .i32 qd, .int .u32 qc]
      have hgq := hI.ref.lt
      have hgp := hI.can.lt2
      have hgg := hI.can.low
      have hwr := hI.below.size
      clear t0 t1 t2 t3 hrec d0 d1 d2 d3
      generalize wr.alloc (.cells #[.int .i64 qx, .int .i64 qy, .int .i32 qd, .int .u32 qc] 57) = w7 at *
      have hap := hC.apart hR
      refine (hrp _ hR).mono ?_
      rintro e w8 ⟨rfl, hR2, ho2⟩
      have hC2 := hC.off ho2 hap.1 hap.2
      have kc2 := kc.off ho2 (own_blk_ne' hR.row kc (by decide))
      have kr2 := kr.off ho2 (own_blk_ne' hR.row kr (by decide))
      have kd2 := kd.off ho2 (by omega)
      have hb2 := hb1.trans (ho2.to_below w.heap.size hb1.size (fun k _ hk => by omega))
      obtain ⟨s0, s1, s2, s3⟩ := kd2.read4
      clear hC hR kc kr kd ho2 hb1
      go_wp2_with fail
      refine (hpl _ hC2).mono ?_
      rintro e w9 ⟨rfl, hC3, ho3⟩
      have hR3 := hR2.off ho3 (Ne.symm hap.2)
      have kc3 := kc2.off ho3 (own_blk_ne' hC2.row kc2 (by decide))
      have kr3 := kr2.off ho3 (own_blk_ne' hC2.row kr2 (by decide))
      have hb3 := hb2.trans (ho3.to_below w.heap.size hb2.size (fun k _ hk => by omega))
      have z1 : (is != is) = false := by simp
      have z2 : (ee != ee) = false := by simp
      clear s0 s1 s2 s3 hC2 hR2 kc2 kr2 kd2 ho3 hb2
      go_wp2
      go_roundw
      case rel => exact ⟨k + 1, by omega, by go_num, by rw [hnext]; exact ⟨hC3, hR3, kc3, kr3, hb3⟩⟩
      case measure => simp [intOf]; omega
    · obtain rfl : k = m := by omega
      rw [List.take_of_length_le (by omega)] at hI
      obtain ⟨hC, hR, kc, kr, hbr⟩ := hI
      obtain ⟨t0, t1, t2, t3⟩ := kc.read4
      go_wp2
      refine wp_region_tail 3 (by kernel_rfl) (by kernel_rfl) ?_
      simp only [List.take_succ_cons, List.take_zero, List.drop_succ_cons, List.drop_zero]
      repeat (go_big_quiet_step (fail))
      refine wpQuiet_nil ?_
      have kr3 := kr.drew
      have hb4 := hbr.drew
      have hC3 := hC.below (Below.refl _ _).drew
      have hR3 := hR.below (Below.refl _ _).drew
      clear hbr kr hC hR kc t0 t1 t2 t3
      generalize wr.drew = w6 at *
      obtain ⟨s0, g0, s1, g1, s2, g2, s3, g3⟩ := kr3.store4
      obtain ⟨r0, r1, r2, r3⟩ := (kr3.put4 (.int .i64 W) (.int .i64 H) (.int .u32 back) (.slice (some ⟨gq, 0, none⟩) N N)).read4
      go_wp2
      (try simp only [Exit.inBlock, Exit.then])
      refine bodyPost_ret (v := .tuple #[.pointer (some ⟨g, 0, none⟩), .agg #[.int .i64 W, .int .i64 H, .int .u32 back, .slice (some ⟨gq, 0, none⟩) N N], .bool true]) (by rw [results_tct rfl]; go_simp) rfl ?_
      have ho := off_put4 w6 b5 (.int .i64 W) (.int .i64 H) (.int .u32 back) (.slice (some ⟨gq, 0, none⟩) N N)
      refine ⟨g, gp, gq, rfl, hC3.off ho ?_ (Ne.symm (own_blk_ne' hC3.row kr3 (by decide))), hR3.off ho (Ne.symm (own_blk_ne' hR3.row kr3 (by decide))), hb4.trans (ho.to_below w.heap.size hb4.size (fun k _ hk => by omega))⟩
      exact hC3.blk.ne_ kr3 (by decide)
end Go.Proofs.Ytfciaefjilobaaa
