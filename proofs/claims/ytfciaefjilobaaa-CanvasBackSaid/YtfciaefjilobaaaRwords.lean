/- Walks: the document's words and bytes of a picture. -/
import Derived.Test.YtfciaefjilobaaaBytesc
import Derived.Deep.RegionHeld3
namespace Go.Proofs.Ytfciaefjilobaaa
open Go.RowKit

theorem encRuns_len (l : List Run) (r : Run) : (encRuns (l ++ [r])).length = (encRuns l).length + (encRun r).length := by rw [encRuns_snoc, List.length_append]
/-- a row after a run's words have been appended -/
theorem own_run {w : World} {base W H cp : Nat} {back : Int} {A : Option Addr} {pre : List Run} {x : Run} {m : Nat} {news : List Value} (h : w.ownsRow base 22 1 (.slice A (4 + (encRuns pre).length + m) cp) (4 + (encRuns pre).length + m) (Ints .u32 (hdr W H back ++ encRuns pre) ++ news)) (hn : news = Ints .u32 (encRun x)) (hm : m = (encRun x).length) :
    w.ownsRow base 22 1 (.slice A (4 + (encRuns (pre ++ [x])).length) cp) (4 + (encRuns (pre ++ [x])).length) (Ints .u32 (hdr W H back ++ encRuns (pre ++ [x]))) := by
  subst hn
  subst hm
  rw [encRuns_len, encRuns_snoc, ← List.append_assoc, Ints_append _ (hdr W H back ++ encRuns pre), ← Nat.add_assoc]
  exact h
theorem below_ap2 {B n : Nat} {w0 wr w2 : World} {e : TypeId} {o : Obj} {v : Value} {xs : List Value} (hb : Below B w0 wr) (ho : wr.ownsRow B e 1 v n xs) (hg : (wr.alloc o).grownBy w2 v.ownBlock) (hB : B ≤ w0.heap.size) : Below B w0 w2 := below_ap hb ho hg (Nat.le_trans hB hb.size)

section
variable {P : Program} {t e : TypeId} {z : Value} {size bytes : Nat}
theorem op_ap_any (S : SliceOf P t e z size bytes) (w : World) {o : Oper} {a : Act} {K : Act → World → Prop} {Q : Exit → Act → World → Prop} (s x : Operand)
    (hop : o.op = .call { callee := .builtin .append, args := #[s, x], argTypes := #[t, t] }) (base : Nat) (v : Value) (n : Nat) (xs : List Value) (hs : a.eval s = v) (hown : w.ownsRow base e size v n xs)
    (B : Nat) (A : Option Addr) (m c : Nat) (news : List Value) (hx : a.eval x = .slice A m c) (hr : Reads w B size A m news) (h1 : ∀ u ∈ news, u.oneCell' = true)
    (h63 : n + m ≤ 9223372036854775807) (hb : (n + m) * bytes ≤ 140737488355328) (hbase : base ≤ w.heap.size)
    (hK : ∀ A' c' w', w'.ownsRow base e size (.slice A' (n + m) c') (n + m) (xs ++ news) → w.grownBy w' v.ownBlock → K (a.put o.dst (.slice A' (n + m) c')) w') : o.wp P a w K Q := by
  obtain ⟨i, h2, h3, h4, rfl⟩ := info_parts S.hi
  refine wp_append_any w s x t hop base e i z size i.bytes S.ht h2 h3 h4 rfl S.hs S.pos v n xs hs hown B A m c news hx hr h1 (by unfold maxLen; omega) hb hbase ?_
  intro v' w' ho hgr _
  obtain ⟨A', c', rfl⟩ := own_shape ho
  exact hK A' c' w' ho hgr
end

section
variable {w : World} {base g n c W H : Nat} {back : Int} {ps : List Pix}
set_option maxHeartbeats 4000000 in
theorem rwords_any (h : RefS w base g n c W H back ps) :
    Calls Try.prog 37 #[refV g n c W H back] w fun e w' => ∃ A' c', e = .returned (.slice A' (picWords W H back ps).length c') ∧ w'.ownsRow w.heap.size 22 1 (.slice A' (picWords W H back ps).length c') (picWords W H back ps).length (Ints .u32 (picWords W H back ps)) ∧ Below w.heap.size w w' := by
  have hn := h.sz.le
  have hpos := h.sz.pos
  have hW := h.sz.w2
  have hH := h.sz.h2
  have hokp := h.sz.ok
  have hwW : IntKind.u32.wrap (W : Int) = W := wrap_u32 (by omega) (by omega)
  have hwH : IntKind.u32.wrap (H : Int) = H := wrap_u32 (by omega) (by omega)
  have hbx := (Below.refl w.heap.size w).alloc (Nat.le_refl _) (.cells #[.int .i64 W, .int .i64 H, .int .u32 back, .slice (some ⟨g, 0, none⟩) n c] 31)
  have kb := Blk.new w 31 #[.int .i64 W, .int .i64 H, .int .u32 back, .slice (some ⟨g, 0, none⟩) n c]
  unfold refV
  go_enter Try.func37, Try.ntmps37
  go_wp2_with fail
  have hb1 := hbx.alloc (by simp) (.cells #[.int .u32 826758217, .int .u32 W, .int .u32 H, .int .u32 back] 22)
  have kb1 := kb.alloc (.cells #[.int .u32 826758217, .int .u32 W, .int .u32 H, .int .u32 back] 22)
  have ho1 := World.ownsRow_lit (base := w.heap.size) (e := 22) (size := 1) (w.alloc (.cells #[.int .i64 W, .int .i64 H, .int .u32 back, .slice (some ⟨g, 0, none⟩) n c] 31)) #[.int .u32 826758217, .int .u32 W, .int .u32 H, .int .u32 back] 4 (by simp) (by unfold maxLen; omega) rfl
  rw [World.size_alloc] at ho1
  generalize (w.alloc (.cells #[.int .i64 W, .int .i64 H, .int .u32 back, .slice (some ⟨g, 0, none⟩) n c] 31)).alloc (.cells #[.int .u32 826758217, .int .u32 W, .int .u32 H, .int .u32 back] 22) = w2 at *
  clear hbx kb hwW hwH
  go_loopw [3, 4, 5] (fun v f i wr => ∃ (k : Nat) (A : Option Addr) (cp fr : Nat) (pre : List Run), 1 ≤ k ∧ k ≤ n + 1 ∧ i = .int .i64 k ∧ f = .int .i64 fr ∧ v = .slice A (4 + (encRuns pre).length) cp ∧ wr.ownsRow w.heap.size 22 1 (.slice A (4 + (encRuns pre).length) cp) (4 + (encRuns pre).length) (Ints .u32 (hdr W H back ++ encRuns pre)) ∧
    ((k ≤ n ∧ cutst ps (k - 1) = (pre, fr)) ∨ (k = n + 1 ∧ pre = runsOf ps n)) ∧ Below w.heap.size w wr ∧ Blk wr w.heap.size 31 #[.int .i64 W, .int .i64 H, .int .u32 back, .slice (some ⟨g, 0, none⟩) n c]) (fun _ _ i _ => n + 1 - (intOf i).toNat)
  case atStart => exact ⟨1, _, _, 0, [], by omega, by omega, rfl, rfl, rfl, ho1, .inl ⟨by omega, rfl⟩, hb1, kb1⟩
  case round =>
    obtain ⟨k, A, cp, fr, pre, hk1, hkn, rfl, rfl, rfl, ho, hst, hbr, kbr⟩ := hrel
    obtain ⟨p0, p1, p2, p3⟩ := kbr.read4
    by_cases hlt : k ≤ n
    · have hcut : cutst ps (k - 1) = (pre, fr) := by
        rcases hst with h | h
        · exact h.2
        · omega
      have hfr := cutst_le ps (k - 1)
      rw [hcut] at hfr
      simp only at hfr
      have hpl : (encRuns pre).length ≤ 3145728 := by
        have h1 := encRuns_length pre
        have h2 := runSum_ge (l := pre) (fun r hr => cutst_pos ps (k - 1) r (by rw [hcut]; exact hr))
        have h3 := cutst_sum ps (k - 1)
        rw [hcut] at h3
        simp only at h3
        omega
      have hfn : fr < n := by omega
      obtain ⟨f0, f1, f2⟩ := own_px_at (h.below hbr).row hfn
      obtain ⟨m, rfl⟩ := Nat.exists_eq_add_of_le (show fr ≤ k by omega)
      have hm1 : 1 ≤ m := by omega
      have hsub : ((fr : Int) + (m : Int)) - (fr : Int) = m := by omega
      by_cases hend : fr + m = n
      · have hfin : pre ++ [(px ps fr, m)] = runsOf ps n := by
          unfold runsOf
          rw [← hend, hcut]
          simp
        go_wp2
        go_quiet (fail)
        have hsub2 : (n : Int) - (fr : Int) = m := by omega
        have hbd : Below w.heap.size w (wr.drewN nq) := below_drewN hbr nq
        have hod := own_drewN ho nq
        have kbd := kbr.drewN nq
        have hRd := (h.below hbd).row
        clear ho kbr p0 p1 p2 p3 f0 f1 f2
        generalize wr.drewN nq = wd at *
        obtain ⟨p0, p1, p2, p3⟩ := kbd.read4
        obtain ⟨f0, f1, f2⟩ := own_px_at hRd hfn
        have hwm : IntKind.u32.wrap (m : Int) = m := wrap_u32 (by omega) (by omega)
        have hwm2 : IntKind.u32.wrap (2 * (m : Int)) = 2 * (m : Int) := wrap_u32 (by omega) (by omega)
        have hwm3 : IntKind.u32.wrap (2 * (m : Int) + 1) = 2 * (m : Int) + 1 := wrap_u32 (by omega) (by omega)
        rcases hpx : px ps fr with ⟨b, dd, cc⟩
        rw [hpx] at f0 f1 f2 hfin
        simp only at f0 f1 f2
        rcases b with _ | _
        · go_wp2_with (at_builtin; refine ap_one sl32 _ rfl _ _ rfl w.heap.size _ _ _ rfl hod _ _ rfl rfl (by omega) (by omega) (by have := hbd.size; omega) ?_; intro v' w3 ho3 hg3 _; obtain ⟨A3, c3, rfl⟩ := own_shape ho3)
          go_roundw
          case rel =>
            have hb3 := below_ap2 hbd hod hg3 (Nat.le_refl _)
            have hk3 := (kbd.alloc _).grown hg3 (fun e => own_blk_ne hod kbd (by decide) e.symm)
            have ho4 := own_run (x := ((false, dd, cc), m)) ho3 rfl rfl
            exact ⟨fr + m + 1, A3, c3, fr + m, _, by omega, by omega, by go_num, by go_num, by rw [encRuns_len]; rfl, ho4, .inr ⟨by omega, hfin⟩, hb3, hk3⟩
          case measure => simp [intOf]; omega
        · go_wp2
          have hlit := Reads.of_own (World.ownsRow_lit (base := 0) (e := 22) (size := 1) wd.drew #[.int .u32 (2 * (m : Int) + 1), .int .u32 cc, .int .u32 (dd % 4294967296)] 3 (Nat.zero_le _) (by unfold maxLen; omega) rfl)
          have hbt := hbd.drew
          have hot : wd.drew.ownsRow _ _ _ _ _ _ := own_drewN hod 1
          have kbt := kbd.drew
          go_region_held3 (fun w' => w'.cell? ⟨w.heap.size, 3, none⟩ = some (.slice (some ⟨g, 0, none⟩) n c) ∧ w'.cell? ⟨g, fr * 3 + 1, none⟩ = some (.int .i32 dd) ∧ w'.cell? ⟨g, fr * 3 + 2, none⟩ = some (.int .u32 cc)) (first | exact ⟨p3, f1, f2⟩ | (go_split_ands; exact ⟨by assumption, by assumption, by assumption⟩) | exact ⟨cell_alloc_l _ p3, cell_alloc_l _ f1, cell_alloc_l _ f2⟩ | (have hb3 := below_ap2 hbt hot hg3 (Nat.le_refl _); have hk3 := (kbt.alloc _).grown hg3 (fun e => own_blk_ne hot kbt (by decide) e.symm); have q := own_px_at (h.below hb3).row hfn; simp only [hpx] at q; exact ⟨hk3.cell 3, q.2.1, q.2.2⟩)) ((first | (refine op_ap_any sl32 _ _ _ rfl w.heap.size _ _ _ rfl (hot.alloc _) _ _ 3 3 _ rfl hlit (by simp [Value.oneCell']) (by omega) (by omega) (by have := hbd.size; simp; omega) ?_; intro A3 c3 w3 ho3 hg3)))
          go_wp2
          go_roundw
          case rel =>
            have hb3 := below_ap2 hbt hot hg3 (Nat.le_refl _)
            have hk3 := (kbt.alloc _).grown hg3 (fun e => own_blk_ne hot kbt (by decide) e.symm)
            have ho4 := own_run (x := ((true, dd, cc), m)) ho3 rfl rfl
            exact ⟨fr + m + 1, A3, c3, fr + m, _, by omega, by omega, by go_num, by go_num, by rw [encRuns_len]; rfl, ho4, .inr ⟨by omega, hfin⟩, hb3, hk3⟩
          case measure => simp [intOf]; omega
      · have hkn2 : fr + m < n := by omega
        have hendf : ((fr : Int) + (m : Int) == (n : Int)) = false := by rw [beq_eq_false_iff_ne]; omega
        obtain ⟨c0, c1, c2⟩ := own_px_at (h.below hbr).row hkn2
        by_cases hsame : px ps (fr + m) = px ps fr
        · have hdec := decide_eq_true hsame
          have hnext : cutst ps (fr + m) = (pre, fr) := by
            have h1 := cutst_same (ps := ps) (k := fr + m - 1) (by rw [show fr + m - 1 + 1 = fr + m from by omega, hcut]; exact hsame)
            rw [show fr + m - 1 + 1 = fr + m from by omega, hcut] at h1
            exact h1
          clear hsame
          go_wp2
          refine wp_region_quiet_lit (by kernel_rfl) (by kernel_rfl) ?_
          repeat (go_big_quiet_step (fail))
          refine rpx_eq_ne rfl rfl (px ps (fr + m)) (px ps fr) rfl rfl ?_
          rw [hdec]
          go_simp
          repeat (go_big_quiet_step (fail))
          refine wpQuiet_nil ?_
          intro nq
          go_wp2
          go_roundw
          case rel => exact ⟨fr + m + 1, A, cp, fr, pre, by omega, by omega, by go_num, rfl, rfl, own_drewN ho nq, .inl ⟨by omega, hnext⟩, below_drewN hbr nq, kbr.drewN nq⟩
          case measure => simp [intOf]; omega
        · have hdec := decide_eq_false hsame
          have hnext : cutst ps (fr + m) = (pre ++ [(px ps fr, m)], fr + m) := by
            have h1 := cutst_cut (ps := ps) (k := fr + m - 1) (by rw [show fr + m - 1 + 1 = fr + m from by omega, hcut]; exact hsame)
            rw [show fr + m - 1 + 1 = fr + m from by omega, hcut] at h1
            rw [h1]
            simp
          clear hsame
          go_wp2
          refine wp_region_quiet_lit (by kernel_rfl) (by kernel_rfl) ?_
          repeat (go_big_quiet_step (fail))
          refine rpx_eq_ne rfl rfl (px ps (fr + m)) (px ps fr) rfl rfl ?_
          rw [hdec]
          go_simp
          repeat (go_big_quiet_step (fail))
          refine wpQuiet_nil ?_
          intro nq
          have hbd : Below w.heap.size w (wr.drewN nq) := below_drewN hbr nq
          have hod := own_drewN ho nq
          have kbd := kbr.drewN nq
          have hRd := (h.below hbd).row
          clear hdec c0 c1 c2 ho kbr p0 p1 p2 p3 f0 f1 f2
          generalize wr.drewN nq = wd at *
          obtain ⟨p0, p1, p2, p3⟩ := kbd.read4
          obtain ⟨f0, f1, f2⟩ := own_px_at hRd hfn
          have hwm : IntKind.u32.wrap (m : Int) = m := wrap_u32 (by omega) (by omega)
          have hwm2 : IntKind.u32.wrap (2 * (m : Int)) = 2 * (m : Int) := wrap_u32 (by omega) (by omega)
          have hwm3 : IntKind.u32.wrap (2 * (m : Int) + 1) = 2 * (m : Int) + 1 := wrap_u32 (by omega) (by omega)
          rcases hpx : px ps fr with ⟨b, dd, cc⟩
          rw [hpx] at f0 f1 f2 hnext
          simp only at f0 f1 f2
          rcases b with _ | _
          · go_wp2_with (at_builtin; refine ap_one sl32 _ rfl _ _ rfl w.heap.size _ _ _ rfl hod _ _ rfl rfl (by omega) (by omega) (by have := hbd.size; omega) ?_; intro v' w3 ho3 hg3 _; obtain ⟨A3, c3, rfl⟩ := own_shape ho3)
            go_roundw
            case rel =>
              have hb3 := below_ap2 hbd hod hg3 (Nat.le_refl _)
              have hk3 := (kbd.alloc _).grown hg3 (fun e => own_blk_ne hod kbd (by decide) e.symm)
              have ho4 := own_run (x := ((false, dd, cc), m)) ho3 rfl rfl
              exact ⟨fr + m + 1, A3, c3, fr + m, _, by omega, by omega, by go_num, by go_num, by rw [encRuns_len]; rfl, ho4, .inl ⟨by omega, hnext⟩, hb3, hk3⟩
            case measure => simp [intOf]; omega
          · go_wp2
            have hlit := Reads.of_own (World.ownsRow_lit (base := 0) (e := 22) (size := 1) wd.drew #[.int .u32 (2 * (m : Int) + 1), .int .u32 cc, .int .u32 (dd % 4294967296)] 3 (Nat.zero_le _) (by unfold maxLen; omega) rfl)
            have hbt := hbd.drew
            have hot : wd.drew.ownsRow _ _ _ _ _ _ := own_drewN hod 1
            have kbt := kbd.drew
            go_region_held3 (fun w' => w'.cell? ⟨w.heap.size, 3, none⟩ = some (.slice (some ⟨g, 0, none⟩) n c) ∧ w'.cell? ⟨g, fr * 3 + 1, none⟩ = some (.int .i32 dd) ∧ w'.cell? ⟨g, fr * 3 + 2, none⟩ = some (.int .u32 cc)) (first | exact ⟨p3, f1, f2⟩ | (go_split_ands; exact ⟨by assumption, by assumption, by assumption⟩) | exact ⟨cell_alloc_l _ p3, cell_alloc_l _ f1, cell_alloc_l _ f2⟩ | (have hb3 := below_ap2 hbt hot hg3 (Nat.le_refl _); have hk3 := (kbt.alloc _).grown hg3 (fun e => own_blk_ne hot kbt (by decide) e.symm); have q := own_px_at (h.below hb3).row hfn; simp only [hpx] at q; exact ⟨hk3.cell 3, q.2.1, q.2.2⟩)) ((first | (refine op_ap_any sl32 _ _ _ rfl w.heap.size _ _ _ rfl (hot.alloc _) _ _ 3 3 _ rfl hlit (by simp [Value.oneCell']) (by omega) (by omega) (by have := hbd.size; simp; omega) ?_; intro A3 c3 w3 ho3 hg3)))
            go_wp2
            go_roundw
            case rel =>
              have hb3 := below_ap2 hbt hot hg3 (Nat.le_refl _)
              have hk3 := (kbt.alloc _).grown hg3 (fun e => own_blk_ne hot kbt (by decide) e.symm)
              have ho4 := own_run (x := ((true, dd, cc), m)) ho3 rfl rfl
              exact ⟨fr + m + 1, A3, c3, fr + m, _, by omega, by omega, by go_num, by go_num, by rw [encRuns_len]; rfl, ho4, .inl ⟨by omega, hnext⟩, hb3, hk3⟩
            case measure => simp [intOf]; omega
    · have hk : k = n + 1 := by omega
      have hpre : pre = runsOf ps n := by
        rcases hst with h | h
        · omega
        · exact h.2
      go_wp2
      go_ret
      subst hpre
      have hpw : hdr W H back ++ encRuns (runsOf ps n) = picWords W H back ps := by rw [h.sz.area]; rfl
      have hlen : 4 + (encRuns (runsOf ps n)).length = (picWords W H back ps).length := by
        rw [← hpw, List.length_append]
        rfl
      rw [hpw, hlen] at ho
      exact ⟨A, cp, by rw [hlen]; rfl, ho, hbr⟩
end
end Go.Proofs.Ytfciaefjilobaaa
