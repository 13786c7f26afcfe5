/- Walks: a canvas read from bytes. -/
import Derived.Test.YtfciaefjilobaaaReaderc
import Derived.Test.YtfciaefjilobaaaSplit
namespace Go.Proofs.Ytfciaefjilobaaa
open Go.RowKit

theorem word_drop (l : List Int) (a i : Nat) : word (l.drop a) i = word l (a + i) := by
  simp only [word_eq, ix_drop, Nat.add_assoc]
theorem word_take {l : List Int} {k i : Nat} (h : i + 4 ≤ k) : word (l.take k) i = word l i := by
  simp only [word_eq]
  rw [ix_take (by omega), ix_take (by omega), ix_take (by omega), ix_take (by omega)]
theorem glue_app (l : List Int) (m : Nat) : ∀ j, glue l (m + j) = glue l m ++ glue (l.drop (4 * m)) j
  | 0 => by simp [glue]
  | j + 1 => by
    rw [← Nat.add_assoc, glue, glue, glue_app l m j, word_drop, List.append_assoc, show 4 * (m + j) = 4 * m + 4 * j from by omega]
theorem glue_take {l : List Int} {k : Nat} : ∀ {j}, 4 * j ≤ k → glue (l.take k) j = glue l j
  | 0, _ => rfl
  | j + 1, h => by rw [glue, glue, glue_take (by omega), word_take (by omega)]

theorem results_tc {fn : Func} {p u : Tmp} {ty : TypeId} (h : fn.results = #[.tmp u, .cell p ty]) (tmps : Array Value) (P : Program) (w : World) :
    (results fn tmps).run P w = ((asAddr (tmps.getD p undef)).run P w).andThen fun ad w₁ => ((loadVar ty ad).run P w₁).andThen fun v w₂ => .ok (.tuple #[tmps.getD u undef, v]) w₂ := by
  simp only [results, h]
  simp [Sem.run_bind, Result.andThen]
theorem split_chunk (A : Option Addr) (j c : Nat) (l : List Int) (w : World) (hj : j ≤ 1048576) (hu : Under 256 l) (hr : Reads w w.heap.size 1 A (4 * j) (Ints .u8 l)) :
    Calls Try.prog 43 #[.slice A (4 * j) c] w fun e w' => ∃ A2 c2, e = .returned (.tuple #[.slice A2 j c2, .int .i64 0]) ∧ w'.ownsRow w.heap.size 22 1 (.slice A2 j c2) j (Ints .u32 (glue l j)) ∧ Below w.heap.size w w' := by
  have hl := hr.len
  obtain ⟨h1, h2⟩ := split_whole (l := l) (by omega) (by omega)
  refine (split_any A (4 * j) c l w (by omega) hu hr).mono ?_
  rintro e w' ⟨A2, c2, rfl, ho, _, hb⟩
  rw [h1, h2, show l.length / 4 = j from by omega, glue_length] at *
  exact ⟨A2, c2, rfl, ho, hb⟩
theorem Blk.store2 {w : World} {g : Nat} {t : TypeId} {c0 c1 : Value} (h : Blk w g t #[c0, c1]) (v0 v1 : Value) : w.cell? ⟨g, 0, none⟩ = some c0 ∧ w.frozen? ⟨g, 0, none⟩ = false ∧
    (w.setCell ⟨g, 0, none⟩ v0).cell? ⟨g, 1, none⟩ = some c1 ∧ (w.setCell ⟨g, 0, none⟩ v0).frozen? ⟨g, 1, none⟩ = false ∧ Blk ((w.setCell ⟨g, 0, none⟩ v0).setCell ⟨g, 1, none⟩ v1) g t #[v0, v1] := by
  have h1 : Blk (w.setCell ⟨g, 0, none⟩ v0) g t #[v0, c1] := by simpa using h.set_ 0 v0
  have h2 : Blk ((w.setCell ⟨g, 0, none⟩ v0).setCell ⟨g, 1, none⟩ v1) g t #[v0, v1] := by simpa using h1.set_ 1 v1
  exact ⟨h.cell 0, h.frozen 0, h1.cell 1, h1.frozen 1, h2⟩
theorem off_put2 (w : World) (g : Nat) (v0 v1 : Value) : Off (fun k => k = g) w ((w.setCell ⟨g, 0, none⟩ v0).setCell ⟨g, 1, none⟩ v1) :=
  ((Off.refl (fun k => k = g) w).set_ (p := ⟨g, 0, none⟩) (.inl rfl) v0).set_ (p := ⟨g, 1, none⟩) (.inl rfl) v1
theorem own_row_ge2 {w : World} {base n size : Nat} {e : TypeId} {v : Value} {xs : List Value} (h : w.ownsRow base e size v n xs) {r : Nat} (hr : v.ownBlock = some r) : base ≤ r ∧ r < w.heap.size := h.lt r hr
theorem own_block_at {w : World} {base n size c g : Nat} {e : TypeId} {A : Option Addr} {a : Addr} {xs : List Value} (h : w.ownsRow base e size (.slice A n c) n xs) (ha : A = some a) (hg : a.block = g) : (Value.slice A n c).ownBlock = some g := by
  subst ha
  rcases h.2 with ⟨hv, _⟩ | ⟨g', cap, cur, hv, _⟩
  · cases hv
  · cases hv
    simpa [Value.ownBlock] using hg
def slN : Value → Nat
  | .slice _ n _ => n
  | _ => 0
theorem slN_lt {A A' : Option Addr} {n n' c c' : Nat} (h : n < n') : slN (.slice A n c) < slN (.slice A' n' c') := h
/-- what is told of a picture's bytes -/
def CreadR (l : List Int) (w : World) (e : Ending) (w' : World) : Prop :=
  Below w.heap.size w w' ∧
    if l.length % 4 ≠ 0 then e = .returned (.tuple #[.pointer none, .agg #[.int .i64 10, .int .i64 0]])
    else match readW (glue l (l.length / 4)) with
      | .error k => e = .returned (.tuple #[.pointer none, .agg #[.int .i64 290, .int .i64 k]])
      | .ok (W, H, back, ps) => ∃ gC gp, e = .returned (.tuple #[.pointer (some ⟨gC, 0, none⟩), .agg #[.int .i64 0, .int .i64 0]]) ∧ CanS w' w.heap.size gC gp (W * H) (W * H) W H back ps
/-- what the loop over the bytes holds -/
structure CrdI (w : World) (m : Nat) (l : List Int) (v : Value) (wr : World) : Prop where
  ex : ∃ k d A' c' B cc, k + d = m ∧ v = .slice A' (4 * d) c' ∧ 4 * d ≤ c' ∧ Reads wr w.heap.size 1 A' (4 * d) (Ints .u8 (l.drop (4 * k))) ∧ wr.ownsRow w.heap.size 22 1 (.slice B k cc) k (Ints .u32 (glue l k)) ∧ Blk wr (w.heap.size + 1) 100 #[.slice B k cc, .int .i64 0] ∧ Blk wr w.heap.size 67 #[.int .i64 0, .int .i64 0] ∧ Below w.heap.size w wr
set_option maxRecDepth 20000 in
set_option maxHeartbeats 2000000 in
theorem cread_any (A : Option Addr) (n c : Nat) (l : List Int) (w : World) (hn : n ≤ 140737488351232) (hc : n ≤ c) (hu : Under 256 l) (hr : Reads w w.heap.size 1 A n (Ints .u8 l)) :
    Calls Try.prog 27 #[.slice A n c] w (CreadR l w) := by
  have hL := hr.len
  by_cases h2 : l.length % 4 = 0
  · rw [hL] at h2
    obtain ⟨m, rfl⟩ : ∃ m, n = 4 * m := ⟨n / 4, by omega⟩
    have hz : (((4 * m : Nat) : Int) % 4 != 0) = false := by simp only [bne_eq_false_iff_eq]; omega
    have hd : ((4 * m : Nat) : Int) / 4 = m := by omega
    have hba := ((Below.refl w.heap.size w).alloc (Nat.le_refl _) (.cells #[.int .i64 0, .int .i64 0] 67)).alloc (by rw [World.size_alloc]; omega) (.cells #[.slice none 0 0, .int .i64 0] 100)
    have hbs : Blk ((w.alloc (.cells #[.int .i64 0, .int .i64 0] 67)).alloc (.cells #[.slice none 0 0, .int .i64 0] 100)) w.heap.size 67 #[.int .i64 0, .int .i64 0] := (Blk.new w _ _).alloc _
    have hbr : Blk ((w.alloc (.cells #[.int .i64 0, .int .i64 0] 67)).alloc (.cells #[.slice none 0 0, .int .i64 0] 100)) (w.heap.size + 1) 100 #[.slice none 0 0, .int .i64 0] := by
      have := Blk.new (w.alloc (.cells #[.int .i64 0, .int .i64 0] 67)) 100 #[.slice none 0 0, .int .i64 0]
      rwa [World.size_alloc] at this
    go_enter Try.func27, Try.ntmps27
    go_wp2_with fail
    generalize (w.alloc (.cells #[.int .i64 0, .int .i64 0] 67)).alloc (.cells #[.slice none 0 0, .int .i64 0] 100) = wa at *
    go_loopw [0] (CrdI w m l) (fun v _ => slN v)
    case atStart => exact CrdI.mk ⟨0, m, A, c, none, 0, by omega, rfl, hc, hr.below hba, World.ownsRow_nil _ _ _ _, hbr, hbs, hba⟩
    case round =>
      obtain ⟨k, d, A', c', B, cc, hk, rfl, hc', hrr, hoo, hgb, hsb, hbb⟩ := hrel.ex
      by_cases hlt : 0 < d
      · have hrr1 := hrr.more (B' := wr.heap.size) hbb.size
        have hdI : decide ((0 : Int) < 4 * (d : Int)) = true := by simp; omega
        have r0 := hgb.cell 0
        have rf := hgb.frozen 0
        simp at r0
        by_cases hbig : 1048576 < d
        · obtain ⟨J, hJ1, hJ2⟩ : ∃ J, J ≤ 1048576 ∧ 1048576 ≤ J := ⟨1048576, Nat.le_refl _, Nat.le_refl _⟩
          obtain ⟨d, rfl⟩ : ∃ d', d = J + d' := ⟨d - J, by omega⟩
          subst hk
          have hrr4 := hrr1.prefix_ (m := 4 * J) (by omega)
          rw [← Ints_take] at hrr4
          have hsp := split_chunk A' J c' _ wr (by omega) ((hu.drop _).take _) hrr4
          rw [glue_take (Nat.le_refl _)] at hsp
          rw [show 4 * J = 4194304 from by omega] at hsp
          have hcn : ¬ c' = 4194304 := by omega
          go_wp2_with fail
          refine hsp.mono ?_
          rintro e w2 ⟨A2, c2, rfl, ho2, hb2⟩
          have hgb2 := hgb.below hb2 hgb.lt
          have hoo2 := own_below hoo hb2
          have hws2 := hb2.size
          have hbbs := hbb.size
          have hslt := hsb.lt
          have hglt := hgb.lt
          replace r0 := hgb2.cell 0
          simp at r0
          have hne := own_blk_ne hoo hgb (by decide)
          have hne2 := own_blk_ne hoo hsb (by decide)
          go_wp2_with (at_builtin; refine ap_any sl32 _ rfl _ _ rfl w.heap.size _ _ _ rfl hoo2 w2.heap.size _ _ _ _ rfl (Reads.of_own ho2) Ints_oneCell (by omega) (by omega) (by omega) ?_; intro A3 c3 w3 ho3 hg3 hat3; have hgb3 := hgb2.grown hg3 (fun e => hne e.symm); have q0 := hgb3.cell 0; have qf := hgb3.frozen 0; simp at q0)
          have hgo := hg3.size
          have hbx : Below w.heap.size wr (w3.setCell ⟨w.heap.size + 1, 0, none⟩ (.slice A3 (k + J) c3)) := ((hb2.mono (by omega)).grown hg3 (by omega) (fun q hq => (own_row_ge2 hoo hq).1)).setCell (by simp) _
          have hrr3 := (hrr.from_ (p := 4194304) (by omega) hc').below hbx
          rw [if_neg hcn, List.drop_drop, show 4 * k + 4194304 = 4 * (k + J) from by omega, show 4 * (J + d) - 4194304 = 4 * d from by omega] at hrr3
          rw [← Ints_append, ← glue_app] at ho3
          have hgb4 := hgb3.set_ 0 (.slice A3 (k + J) c3)
          have hsb4 := ((hsb.below hb2 hsb.lt).grown hg3 (fun e => hne2 e.symm)).far (p := ⟨w.heap.size + 1, 0, none⟩) (by simp) (.slice A3 (k + J) c3)
          refine ⟨?_, ?measure⟩
          repeat apply Exists.intro
          refine ⟨?rel, rfl⟩
          case rel => exact CrdI.mk ⟨k + J, d, Option.map (fun x => x.add 4194304) A', c' - 4194304, A3, c3, by omega, congrArg (fun q => Value.slice (Option.map (fun x => x.add 4194304) A') q (c' - 4194304)) (show 4 * (J + d) - 4194304 = 4 * d from by omega), by omega, hrr3, own_set_other ho3 (own_blk_ne ho3 hgb3 (by decide)) _, by simpa using hgb4, hsb4, hbb.trans hbx⟩
          case measure => exact slN_lt (by omega)
        · subst hk
          have hsp := split_chunk A' d c' _ wr (by omega) (hu.drop _) hrr1
          by_cases hcn : c' = 4 * d
          · subst hcn
            go_wp2_with fail
            refine hsp.mono ?_
            rintro e w2 ⟨A2, c2, rfl, ho2, hb2⟩
            have hgb2 := hgb.below hb2 hgb.lt
            have hoo2 := own_below hoo hb2
            have hws2 := hb2.size
            have hbbs := hbb.size
            have hslt := hsb.lt
            have hglt := hgb.lt
            replace r0 := hgb2.cell 0
            simp at r0
            have hne := own_blk_ne hoo hgb (by decide)
            have hne2 := own_blk_ne hoo hsb (by decide)
            go_wp2_with (at_builtin; refine ap_any sl32 _ rfl _ _ rfl w.heap.size _ _ _ rfl hoo2 w2.heap.size _ _ _ _ rfl (Reads.of_own ho2) Ints_oneCell (by omega) (by omega) (by omega) ?_; intro A3 c3 w3 ho3 hg3 hat3; have hgb3 := hgb2.grown hg3 (fun e => hne e.symm); have q0 := hgb3.cell 0; have qf := hgb3.frozen 0; simp at q0)
            have hgo := hg3.size
            have hbx : Below w.heap.size wr (w3.setCell ⟨w.heap.size + 1, 0, none⟩ (.slice A3 (k + d) c3)) := ((hb2.mono (by omega)).grown hg3 (by omega) (fun q hq => (own_row_ge2 hoo hq).1)).setCell (by simp) _
            have hrr3 := (hrr.from_ (p := 4 * d) (by omega) hc').below hbx
            rw [if_pos (Eq.refl (4 * d)), List.drop_drop, show 4 * k + 4 * d = 4 * (k + d) from by omega, show 4 * d - 4 * d = 4 * 0 from by omega] at hrr3
            rw [← Ints_append, ← glue_app] at ho3
            have hgb4 := hgb3.set_ 0 (.slice A3 (k + d) c3)
            have hsb4 := ((hsb.below hb2 hsb.lt).grown hg3 (fun e => hne2 e.symm)).far (p := ⟨w.heap.size + 1, 0, none⟩) (by simp) (.slice A3 (k + d) c3)
            refine ⟨?_, ?measure⟩
            repeat apply Exists.intro
            refine ⟨?rel, rfl⟩
            case rel => exact CrdI.mk ⟨k + d, 0, A', 0, A3, c3, by omega, by rw [Nat.sub_self], by omega, hrr3, own_set_other ho3 (own_blk_ne ho3 hgb3 (by decide)) _, by simpa using hgb4, hsb4, hbb.trans hbx⟩
            case measure => exact slN_lt (by omega)
          · go_wp2_with fail
            refine hsp.mono ?_
            rintro e w2 ⟨A2, c2, rfl, ho2, hb2⟩
            have hgb2 := hgb.below hb2 hgb.lt
            have hoo2 := own_below hoo hb2
            have hws2 := hb2.size
            have hbbs := hbb.size
            have hslt := hsb.lt
            have hglt := hgb.lt
            replace r0 := hgb2.cell 0
            simp at r0
            have hne := own_blk_ne hoo hgb (by decide)
            have hne2 := own_blk_ne hoo hsb (by decide)
            go_wp2_with (at_builtin; refine ap_any sl32 _ rfl _ _ rfl w.heap.size _ _ _ rfl hoo2 w2.heap.size _ _ _ _ rfl (Reads.of_own ho2) Ints_oneCell (by omega) (by omega) (by omega) ?_; intro A3 c3 w3 ho3 hg3 hat3; have hgb3 := hgb2.grown hg3 (fun e => hne e.symm); have q0 := hgb3.cell 0; have qf := hgb3.frozen 0; simp at q0)
            have hgo := hg3.size
            have hbx : Below w.heap.size wr (w3.setCell ⟨w.heap.size + 1, 0, none⟩ (.slice A3 (k + d) c3)) := ((hb2.mono (by omega)).grown hg3 (by omega) (fun q hq => (own_row_ge2 hoo hq).1)).setCell (by simp) _
            have hrr3 := (hrr.from_ (p := 4 * d) (by omega) hc').below hbx
            rw [if_neg hcn, List.drop_drop, show 4 * k + 4 * d = 4 * (k + d) from by omega, show 4 * d - 4 * d = 4 * 0 from by omega] at hrr3
            rw [← Ints_append, ← glue_app] at ho3
            have hgb4 := hgb3.set_ 0 (.slice A3 (k + d) c3)
            have hsb4 := ((hsb.below hb2 hsb.lt).grown hg3 (fun e => hne2 e.symm)).far (p := ⟨w.heap.size + 1, 0, none⟩) (by simp) (.slice A3 (k + d) c3)
            refine ⟨?_, ?measure⟩
            repeat apply Exists.intro
            refine ⟨?rel, rfl⟩
            case rel => exact CrdI.mk ⟨k + d, 0, Option.map (fun x => x.add (4 * d)) A', c' - 4 * d, A3, c3, by omega, congrArg (fun q => Value.slice (Option.map (fun x => x.add (4 * d)) A') q (c' - 4 * d)) (Nat.sub_self (4 * d)), by omega, hrr3, own_set_other ho3 (own_blk_ne ho3 hgb3 (by decide)) _, by simpa using hgb4, hsb4, hbb.trans hbx⟩
            case measure => exact slN_lt (by omega)
      · obtain rfl : d = 0 := by omega
        obtain rfl : k = m := by omega
        have hRd : RdS wr (w.heap.size + 1) B k cc (glue l k) 0 := ⟨hgb, Reads.of_own hoo, fun a ha e => own_blk_ne hoo hgb (by decide) (own_block_at hoo ha e), by omega, glue_under hu _, by omega⟩
        have hcan := rcanvas_any hRd
        have hdI : decide ((0 : Int) < 4 * ((0 : Nat) : Int)) = false := rfl
        go_wp2_with fail
        refine hcan.mono ?_
        rintro e w2 ⟨ho2, hm⟩
        have hsb2 := hsb.off ho2 (by omega)
        have hb2 := hbb.trans (ho2.to_below w.heap.size hbb.size (by omega))
        rcases hrd : readW (glue l k) with kk | ⟨W, H, back, ps⟩
        · rw [hrd] at hm
          obtain ⟨⟨q, rfl⟩, hR2⟩ := hm
          have k1 := hR2.blk.cell 1
          simp at k1
          have hbd := (Below.refl w.heap.size w2).drew
          replace hsb2 := hsb2.drew
          go_wp2_with fail
          refine wp_region_tail 6 (by kernel_rfl) (by kernel_rfl) ?_
          simp only [List.take_succ_cons, List.take_zero, List.drop_succ_cons, List.drop_zero]
          repeat (go_big_quiet_step (fail))
          refine wpQuiet_nil ?_
          generalize w2.drew = wd at *
          have hof3 := off_put2 wd w.heap.size (.int .i64 290) (.int .i64 kk)
          obtain ⟨s0, sf0, s1, sf1, hsb3⟩ := hsb2.store2 (.int .i64 290) (.int .i64 kk)
          have j0 := hsb3.cell 0
          have j1 := hsb3.cell 1
          simp at j0 j1
          go_wp2_with fail
          (try simp only [Exit.inBlock, Exit.then])
          refine bodyPost_ret (v := .tuple #[.pointer none, .agg #[.int .i64 290, .int .i64 kk]]) (by rw [results_tc rfl]; go_simp) rfl ?_
          refine ⟨(hb2.trans hbd).trans (hof3.to_below w.heap.size (by have := hb2.size; have := hbd.size; omega) (by intro q _ hq; omega)), ?_⟩
          rw [if_neg (by rw [hL]; omega), hL, show 4 * k / 4 = k from by omega, hrd]
        · rw [hrd] at hm
          obtain ⟨gC, gp, rfl, hC⟩ := hm
          obtain ⟨s0, sf0, s1, sf1, hsb3⟩ := hsb2.store2 (.int .i64 0) (.int .i64 0)
          have hof3 := off_put2 w2 w.heap.size (.int .i64 0) (.int .i64 0)
          have j0 := hsb3.cell 0
          have j1 := hsb3.cell 1
          simp at j0 j1
          go_wp2_with fail
          (try simp only [Exit.inBlock, Exit.then])
          refine bodyPost_ret (v := .tuple #[.pointer (some ⟨gC, 0, none⟩), .agg #[.int .i64 0, .int .i64 0]]) (by rw [results_tc rfl]; go_simp) rfl ?_
          have hslt := hsb.lt
          have hbsz := hbb.size
          refine ⟨hb2.trans (hof3.to_below w.heap.size (by have := ho2.size; omega) (by intro q _ hq; omega)), ?_⟩
          rw [if_neg (by rw [hL]; omega), hL, show 4 * k / 4 = k from by omega, hrd]
          exact ⟨gC, gp, rfl, (hC.off hof3 (by have := hC.low; omega) (by have := hC.lt2; omega)).base_le (by omega)⟩
  · rw [hL] at h2
    have hz : ((n : Int) % 4 != 0) = true := by rw [bne_iff_ne]; omega
    have hb := fun cs => (Below.refl w.heap.size w).alloc (Nat.le_refl _) (.cells cs 67)
    go_enter Try.func27, Try.ntmps27
    go_wp2
    have j := Blk.new w 67 #[.int .i64 10, .int .i64 0]
    have j0 := j.cell 0
    have j1 := j.cell 1
    simp at j0 j1
    (try simp only [Exit.inBlock, Exit.then])
    refine bodyPost_ret (v := .tuple #[.pointer none, .agg #[.int .i64 10, .int .i64 0]]) (by rw [results_tc rfl]; go_simp) rfl ?_
    refine ⟨hb _, ?_⟩
    rw [if_pos (by rw [hL]; omega)]
end Go.Proofs.Ytfciaefjilobaaa
