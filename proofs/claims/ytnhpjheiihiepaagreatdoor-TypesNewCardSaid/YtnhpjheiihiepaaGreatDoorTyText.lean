/- Walks. -/
import Derived.Test.YtnhpjheiihiepaaGreatDoorTR
import Derived.Test.YtnhpjheiihiepaaGreatDoorTQ
import Derived.Test.YtnhpjheiihiepaaGreatDoorTF
namespace Go.Proofs.YtnhpjheiihiepaaGreatDoor
open Go.RowKit

theorem kindB_in {k : Int} (h : 1 ≤ k ∧ k ≤ 8) : kindB k = true := by
  unfold kindB
  simpa using h

theorem cell_alloc_t {W : World} {a : Addr} {v : Value} (o : Obj) (h : W.cell? a = some v) : (W.alloc o).cell? a = some v := cell_kept h (World.grownBy_alloc W o none) (fun r e => by cases e)
theorem litR (w : World) (x : Int) : Reads (w.alloc (.cells #[.int .u32 x] 22)) (w.alloc (.cells #[.int .u32 x] 22)).heap.size 1 (some ⟨w.heap.size, 0, none⟩) 1 (Ints .u32 [x]) := by
  have h := Reads.litN w #[.int .u32 x] 22 1 1 1 rfl rfl (by omega)
  rw [World.size_alloc]
  exact h
theorem litR_drew (w : World) (x : Int) : Reads (w.alloc (.cells #[.int .u32 x] 22)).drew (w.alloc (.cells #[.int .u32 x] 22)).drew.heap.size 1 (some ⟨w.heap.size, 0, none⟩) 1 (Ints .u32 [x]) := (litR w x).keep (fun _ _ => rfl)
abbrev TyS (w1 : World) (g : Nat) (n pp : Int) (w' : World) : Prop := w'.cell? ⟨g, 6, none⟩ = some (.int .i64 n) ∧ w'.cell? ⟨g, 5, none⟩ = some (.int .u32 pp) ∧ Below w1.heap.size w1 w'
section
variable {w1 w2 w3 : World} {g : Nat} {n pp : Int}
theorem TyS.drew_ (h : TyS w1 g n pp w2) : TyS w1 g n pp w2.drew := ⟨h.1, h.2.1, h.2.2.drew⟩
theorem TyS.new (h : TyS w1 g n pp w2) {o : Obj} : TyS w1 g n pp (w2.alloc o) := ⟨cell_alloc_t _ h.1, cell_alloc_t _ h.2.1, h.2.2.alloc h.2.2.size _⟩
theorem TyS.call (hb : g < w1.heap.size) (h : TyS w1 g n pp w2) (hq : Below w2.heap.size w2 w3) : TyS w1 g n pp w3 :=
  ⟨(hq.cell (p := ⟨g, 6, none⟩) (Nat.lt_of_lt_of_le hb h.2.2.size)).trans h.1, (hq.cell (p := ⟨g, 5, none⟩) (Nat.lt_of_lt_of_le hb h.2.2.size)).trans h.2.1, below_cut h.2.2 hq (Nat.le_refl _)⟩
theorem TyS.is (h : TyS w1 g n pp w2) : Below w1.heap.size w1 w2 := h.2.2
end

set_option maxRecDepth 100000 in
set_option maxHeartbeats 4000000 in
theorem textT_any (p : Option Addr) (T : Int → TyI) (S : Int → SlI) (hY : Typed T) : ∀ (q : Nat) (id : Int) (w : World), TabW w p T S → Pow w → rankT (T id) < (q : Int) →
    Calls Tryz.prog 39 #[.pointer p, .int .u32 id] w (TextIs T q id w)
  | 0, id, w, h, hP, hq => absurd hq (by have := (rankT_bd hY id).1; omega)
  | q + 1, id, w, h, hP, hq => by
    have ih := textT_any p T S hY q
    have hb1 := (Below.refl w.heap.size w).alloc (Nat.le_refl _) (.cells #[.pointer p] 34)
    have hat := at_any p T S id _ (h.step hb1).tab
    have hra := h.tab.reads id
    have hla := hra.len
    have hrk := rankT_part hY (id := id)
    have hrks := rankT_parts hY (id := id)
    have htl := text_le hY (q + 1) id
    have htx : textT T (q + 1) id = if (T id).kind = 1 then [118, 111, 105, 100]
      else if (T id).kind = 2 then [98, 111, 111, 108]
      else if (T id).kind = 3 then (if (T id).signed = true then [105, 110, 116] else [117, 105, 110, 116])
      else if (T id).kind = 4 then ofL ([118, 101, 99] ++ Lib.itoa (T id).times) [textT T q (T id).part]
      else if (T id).kind = 5 then ofL ([97, 114, 114, 97, 121] ++ Lib.itoa (T id).times) [textT T q (T id).part]
      else if (T id).kind = 6 then ofL [115, 116, 114, 117, 99, 116] ((T id).parts.map (textT T q))
      else if (T id).kind = 7 then ofL (enumN 99 (T id).cls) ((T id).parts.map (textT T q))
      else if (T id).kind = 8 then ofL [102, 110] ((T id).parts.map (textT T q))
      else [] := rfl
    have hok := hY.ok id
    unfold TextIs
    obtain ⟨v, hv⟩ : ∃ v, v = textT T (q + 1) id := ⟨_, rfl⟩
    rw [← hv] at htl htx ⊢
    have HV := Lib.hid htx
    have HL := Lib.hid htl
    clear hv htx htl
    have hpb := @Blk.new w 34 #[.pointer p]
    have c0 : (w.alloc (.cells #[.pointer p] 34)).cell? ⟨w.heap.size, 0, none⟩ = some (.pointer p) := hpb.cell 0
    generalize hx : T id = x at *
    generalize S id = s at *
    obtain ⟨sA, sn, sc⟩ := s
    dsimp only at hra hla
    have HH := Lib.hid (And.intro h hP)
    clear h hP
    go_enter Tryz.func39, Tryz.ntmps39
    go_wp2_with fail
    refine hat.mono ?_
    rintro e w2 ⟨rfl, hb2⟩
    have hb3 := below_cut hb1 hb2 (Nat.le_refl _)
    have c2 := (hb2.cell (p := ⟨w.heap.size, 0, none⟩) (by simp)).trans c0
    clear hat c0
    rcases hok with rfl | ⟨b, hok⟩
    · have hb4 := hb3.alloc hb3.size (.cells (tyV ty0 (sA, sn, sc)) 81)
      have hv1 : v = [] := HV.out
      clear HV
      unfold tyV ty0 at hb4 ⊢
      go_wp2_with fail
      go_ret2
      exact ⟨by first | rfl | (rw [hv1]; rfl), hb4⟩
    · cases hok with
      | void =>
        have hb4 := hb3.alloc hb3.size (.cells (tyV { ty0 with kind := 1 } (sA, sn, sc)) 81)
        have hv1 : v = [118, 111, 105, 100] := HV.out
        clear HV
        unfold tyV ty0 at hb4 ⊢
        go_wp2_with fail
        go_ret2
        exact ⟨by first | rfl | (rw [hv1]; rfl), hb4⟩
      | bool =>
        have hb4 := hb3.alloc hb3.size (.cells (tyV { ty0 with kind := 2, size := 1, depth := 1 } (sA, sn, sc)) 81)
        have hv1 : v = [98, 111, 111, 108] := HV.out
        clear HV
        unfold tyV ty0 at hb4 ⊢
        go_wp2_with fail
        go_ret2
        exact ⟨by first | rfl | (rw [hv1]; rfl), hb4⟩
      | int s =>
        have hb4 := hb3.alloc hb3.size (.cells (tyV { ty0 with kind := 3, size := 1, depth := 1, signed := s } (sA, sn, sc)) 81)
        cases s with
        | true =>
          have hv1 : v = [105, 110, 116] := HV.out
          clear HV
          unfold tyV ty0 at hb4 ⊢
          go_wp2_with fail
          go_ret2
          exact ⟨by first | rfl | (rw [hv1]; rfl), hb4⟩
        | false =>
          have hv1 : v = [117, 105, 110, 116] := HV.out
          clear HV
          unfold tyV ty0 at hb4 ⊢
          go_wp2_with fail
          go_ret2
          exact ⟨by first | rfl | (rw [hv1]; rfl), hb4⟩
      | vec pp n h1 h2 h3 h4 =>
        have hb4 := hb3.alloc hb3.size (.cells (tyV { ty0 with kind := 4, part := pp, times := n, size := n, depth := (T pp).depth + 1 } (sA, sn, sc)) 81)
        have kx := Blk.new w2 81 (tyV { ty0 with kind := 4, part := pp, times := n, size := n, depth := (T pp).depth + 1 } (sA, sn, sc))
        have hv1 : v = ofL ([118, 101, 99] ++ Lib.itoa n) ([pp].map (textT T q)) := HV.out
        have hlen := HL.out
        rw [hv1] at hlen
        have hgw : w.heap.size < (w2.alloc (.cells (tyV { ty0 with kind := 4, part := pp, times := n, size := n, depth := (T pp).depth + 1 } (sA, sn, sc)) 81)).heap.size := by have := hb2.size; simp at this ⊢; omega
        have c4 := (((Below.refl w2.heap.size w2).alloc (Nat.le_refl _) (.cells (tyV { ty0 with kind := 4, part := pp, times := n, size := n, depth := (T pp).depth + 1 } (sA, sn, sc)) 81)).cell (p := ⟨w.heap.size, 0, none⟩) (by have := hb2.size; simp at this; show w.heap.size < _; omega)).trans c2
        have hrp : rankT (T pp) < (q : Int) := Int.lt_of_lt_of_le (hrk (.inl rfl)) (by omega)
        have hit := fun w5 (hb : Below (w2.alloc (.cells (tyV { ty0 with kind := 4, part := pp, times := n, size := n, depth := (T pp).depth + 1 } (sA, sn, sc)) 81)).heap.size (w2.alloc (.cells (tyV { ty0 with kind := 4, part := pp, times := n, size := n, depth := (T pp).depth + 1 } (sA, sn, sc)) 81)) w5) => itoa_any n w5 (HH.out.2.step (below_cut hb4 hb (Nat.le_refl _))) (by omega)
        have hof := fun w5 (hb : Below (w2.alloc (.cells (tyV { ty0 with kind := 4, part := pp, times := n, size := n, depth := (T pp).depth + 1 } (sA, sn, sc)) 81)).heap.size (w2.alloc (.cells (tyV { ty0 with kind := 4, part := pp, times := n, size := n, depth := (T pp).depth + 1 } (sA, sn, sc)) 81)) w5) b9 (hrd : Reads w5 w5.heap.size 1 (some ⟨b9, 0, none⟩) 1 (Ints .u32 [pp])) =>
          have hb5 := below_cut hb4 hb (Nat.le_refl _)
          ofp_any p T q w.heap.size ([118, 101, 99] ++ Lib.itoa n) (some ⟨b9, 0, none⟩) 1 1 [pp] w5 ((hb.cell (p := ⟨w.heap.size, 0, none⟩) hgw).trans c4) hrd (by omega) (by omega) (by omega) (fun id hid w' hw' => by
            have hbw := below_cut hb5 hw' (Nat.le_refl _)
            rw [List.mem_singleton] at hid
            subst hid
            exact ih id w' (HH.out.1.step hbw) (HH.out.2.step hbw) hrp)
        have hnm : (⟨#[118, 101, 99]⟩ : ByteArray) ++ ⟨(Lib.itoa n).toArray⟩ = bs ([118, 101, 99] ++ Lib.itoa n) := by
          apply ByteArray.ext
          simp [bs]
        have hil := Lib.itoa_length_le n (by omega) (by omega)
        have hs0 : ¬ 9223372036854775807 < 3 + (Lib.itoa n).length := by omega
        rw [← hnm] at hof
        have HV1 := Lib.hid hv1
        clear HV hv1 hlen HL hrk hrks c2 c4 hgw hrp hnm h1 h2 h3 h4
        unfold StrIs at hof
        generalize ofL ([118, 101, 99] ++ Lib.itoa n) ([pp].map (textT T q)) = z at *
        generalize (T pp).depth + 1 = dd at *
        unfold tyV ty0 at hb4 hof hit kx ⊢
        go_wp2_with fail
        generalize (w2.alloc (.cells #[.int .u8 4, .int .i64 n, .int .i64 dd, .bool false, .int .u32 0, .int .u32 pp, .int .i64 n, .slice sA sn sc] 81)) = W at *
        have hS0 : TyS W w2.heap.size n pp W := ⟨(ty8_ kx).2.2.2.2.2.2.1, (ty8_ kx).2.2.2.2.2.1, Below.refl _ _⟩
        have hlt := World.block_lt_of_cell? W _ hS0.1
        simp only at hlt
        clear kx hb2 hb3
        go_region_held3 (TyS W w2.heap.size n pp) (first | with_reducible exact hS0.drew_ | with_reducible exact TyS.call hlt (by assumption) hbq | with_reducible exact TyS.new (by assumption) | with_reducible exact (TyS.new hS0).drew_ | fail) ((first | (go_at_call 79; refine (hit _ (TyS.is (by assumption))).mono ?_; rintro e w' ⟨rfl, hbq⟩) | (go_at_call 80; refine (hof _ (TyS.is (by assumption)) _ (by first | exact litR _ _ | exact ((litR _ _).below hbq).more hbq.size | exact ((litR_drew _ _).below hbq).more hbq.size)).mono ?_; rintro e w' ⟨rfl, hbq⟩)))
        all_goals
          go_wp2_with fail
          go_ret2
          exact ⟨by rw [HV1.out]; rfl, below_cut hb4 (TyS.is (by assumption)) (Nat.le_refl _)⟩
      | arr pp n h1 h2 h3 h4 h5 h6 =>
        have hb4 := hb3.alloc hb3.size (.cells (tyV { ty0 with kind := 5, part := pp, times := n, size := n * (T pp).size, depth := (T pp).depth + 1 } (sA, sn, sc)) 81)
        have kx := Blk.new w2 81 (tyV { ty0 with kind := 5, part := pp, times := n, size := n * (T pp).size, depth := (T pp).depth + 1 } (sA, sn, sc))
        have hv1 : v = ofL ([97, 114, 114, 97, 121] ++ Lib.itoa n) ([pp].map (textT T q)) := HV.out
        have hlen := HL.out
        rw [hv1] at hlen
        have hgw : w.heap.size < (w2.alloc (.cells (tyV { ty0 with kind := 5, part := pp, times := n, size := n * (T pp).size, depth := (T pp).depth + 1 } (sA, sn, sc)) 81)).heap.size := by have := hb2.size; simp at this ⊢; omega
        have c4 := (((Below.refl w2.heap.size w2).alloc (Nat.le_refl _) (.cells (tyV { ty0 with kind := 5, part := pp, times := n, size := n * (T pp).size, depth := (T pp).depth + 1 } (sA, sn, sc)) 81)).cell (p := ⟨w.heap.size, 0, none⟩) (by have := hb2.size; simp at this; show w.heap.size < _; omega)).trans c2
        have hrp : rankT (T pp) < (q : Int) := Int.lt_of_lt_of_le (hrk (.inr rfl)) (by omega)
        have hit := fun w5 (hb : Below (w2.alloc (.cells (tyV { ty0 with kind := 5, part := pp, times := n, size := n * (T pp).size, depth := (T pp).depth + 1 } (sA, sn, sc)) 81)).heap.size (w2.alloc (.cells (tyV { ty0 with kind := 5, part := pp, times := n, size := n * (T pp).size, depth := (T pp).depth + 1 } (sA, sn, sc)) 81)) w5) => itoa_any n w5 (HH.out.2.step (below_cut hb4 hb (Nat.le_refl _))) (by omega)
        have hof := fun w5 (hb : Below (w2.alloc (.cells (tyV { ty0 with kind := 5, part := pp, times := n, size := n * (T pp).size, depth := (T pp).depth + 1 } (sA, sn, sc)) 81)).heap.size (w2.alloc (.cells (tyV { ty0 with kind := 5, part := pp, times := n, size := n * (T pp).size, depth := (T pp).depth + 1 } (sA, sn, sc)) 81)) w5) b9 (hrd : Reads w5 w5.heap.size 1 (some ⟨b9, 0, none⟩) 1 (Ints .u32 [pp])) =>
          have hb5 := below_cut hb4 hb (Nat.le_refl _)
          ofp_any p T q w.heap.size ([97, 114, 114, 97, 121] ++ Lib.itoa n) (some ⟨b9, 0, none⟩) 1 1 [pp] w5 ((hb.cell (p := ⟨w.heap.size, 0, none⟩) hgw).trans c4) hrd (by omega) (by omega) (by omega) (fun id hid w' hw' => by
            have hbw := below_cut hb5 hw' (Nat.le_refl _)
            rw [List.mem_singleton] at hid
            subst hid
            exact ih id w' (HH.out.1.step hbw) (HH.out.2.step hbw) hrp)
        have hnm : (⟨#[97, 114, 114, 97, 121]⟩ : ByteArray) ++ ⟨(Lib.itoa n).toArray⟩ = bs ([97, 114, 114, 97, 121] ++ Lib.itoa n) := by
          apply ByteArray.ext
          simp [bs]
        have hil := Lib.itoa_length_le n (by omega) (by omega)
        have hs0 : ¬ 9223372036854775807 < 5 + (Lib.itoa n).length := by omega
        rw [← hnm] at hof
        have HV1 := Lib.hid hv1
        clear HV hv1 hlen HL hrk hrks c2 c4 hgw hrp hnm h1 h2 h3 h4 h5 h6
        unfold StrIs at hof
        generalize ofL ([97, 114, 114, 97, 121] ++ Lib.itoa n) ([pp].map (textT T q)) = z at *
        generalize n * (T pp).size = sz at *
        generalize (T pp).depth + 1 = dd at *
        unfold tyV ty0 at hb4 hof hit kx ⊢
        go_wp2_with fail
        generalize (w2.alloc (.cells #[.int .u8 5, .int .i64 sz, .int .i64 dd, .bool false, .int .u32 0, .int .u32 pp, .int .i64 n, .slice sA sn sc] 81)) = W at *
        have hS0 : TyS W w2.heap.size n pp W := ⟨(ty8_ kx).2.2.2.2.2.2.1, (ty8_ kx).2.2.2.2.2.1, Below.refl _ _⟩
        have hlt := World.block_lt_of_cell? W _ hS0.1
        simp only at hlt
        clear kx hb2 hb3
        go_region_held3 (TyS W w2.heap.size n pp) (first | with_reducible exact hS0.drew_ | with_reducible exact TyS.call hlt (by assumption) hbq | with_reducible exact TyS.new (by assumption) | with_reducible exact (TyS.new hS0).drew_ | fail) ((first | (go_at_call 79; refine (hit _ (TyS.is (by assumption))).mono ?_; rintro e w' ⟨rfl, hbq⟩) | (go_at_call 80; refine (hof _ (TyS.is (by assumption)) _ (by first | exact litR _ _ | exact ((litR _ _).below hbq).more hbq.size | exact ((litR_drew _ _).below hbq).more hbq.size)).mono ?_; rintro e w' ⟨rfl, hbq⟩)))
        all_goals
          go_wp2_with fail
          go_ret2
          exact ⟨by rw [HV1.out]; rfl, below_cut hb4 (TyS.is (by assumption)) (Nat.le_refl _)⟩
      | str l s d h1 h2 h3 h4 h5 h6 =>
        have hb4 := hb3.alloc hb3.size (.cells (tyV { ty0 with kind := 6, parts := l, size := s, depth := d + 1 } (sA, sn, sc)) 81)
        have kx := Blk.new w2 81 (tyV { ty0 with kind := 6, parts := l, size := s, depth := d + 1 } (sA, sn, sc))
        have hv1 : v = ofL [115, 116, 114, 117, 99, 116] (l.map (textT T q)) := HV.out
        have hlen := HL.out
        rw [hv1] at hlen
        have c4 := (((Below.refl w2.heap.size w2).alloc (Nat.le_refl _) (.cells (tyV { ty0 with kind := 6, parts := l, size := s, depth := d + 1 } (sA, sn, sc)) 81)).cell (p := ⟨w.heap.size, 0, none⟩) (by have := hb2.size; simp at this; show w.heap.size < _; omega)).trans c2
        have hof := ofp_any p T q w.heap.size [115, 116, 114, 117, 99, 116] sA sn sc l _ c4 ((hra.below hb4).more hb4.size) (by dsimp only at hla; omega) (by dsimp only at hla; omega) (by omega) (fun id hid w' hw' => by
          have hbw := below_cut hb4 hw' (Nat.le_refl _)
          exact ih id w' (HH.out.1.step hbw) (HH.out.2.step hbw) (by have := hrks id hid; omega))
        have HV1 := Lib.hid hv1
        clear HV hv1 hlen HL hrk hrks
        unfold StrIs at hof
        generalize ofL [115, 116, 114, 117, 99, 116] (l.map (textT T q)) = z at *
        unfold tyV ty0 at hb4 hof ⊢
        go_wp2_with fail
        refine hof.mono ?_
        rintro e w4 ⟨rfl, hb6⟩
        have hb7 := below_cut hb4 hb6 (Nat.le_refl _)
        go_wp2_with fail
        go_ret2
        exact ⟨by rw [HV1.out]; rfl, hb7⟩
      | ptr c pp h1 h2 h3 =>
        have hb4 := hb3.alloc hb3.size (.cells (tyV { ty0 with kind := 7, cls := c, parts := [pp] } (sA, sn, sc)) 81)
        have kx := Blk.new w2 81 (tyV { ty0 with kind := 7, cls := c, parts := [pp] } (sA, sn, sc))
        have hv1 : v = ofL (enumN 99 c) ([pp].map (textT T q)) := HV.out
        have hlen := HL.out
        rw [hv1] at hlen
        have c4 := (((Below.refl w2.heap.size w2).alloc (Nat.le_refl _) (.cells (tyV { ty0 with kind := 7, cls := c, parts := [pp] } (sA, sn, sc)) 81)).cell (p := ⟨w.heap.size, 0, none⟩) (by have := hb2.size; simp at this; show w.heap.size < _; omega)).trans c2
        have hen := enum_any 99 c (w2.alloc (.cells (tyV { ty0 with kind := 7, cls := c, parts := [pp] } (sA, sn, sc)) 81))
        have hgw : w.heap.size < (w2.alloc (.cells (tyV { ty0 with kind := 7, cls := c, parts := [pp] } (sA, sn, sc)) 81)).heap.size := by have := hb2.size; simp at this ⊢; omega
        have hof := fun w5 (hb : Below (w2.alloc (.cells (tyV { ty0 with kind := 7, cls := c, parts := [pp] } (sA, sn, sc)) 81)).heap.size (w2.alloc (.cells (tyV { ty0 with kind := 7, cls := c, parts := [pp] } (sA, sn, sc)) 81)) w5) =>
          have hb5 := below_cut hb4 hb (Nat.le_refl _)
          ofp_any p T q w.heap.size (enumN 99 c) sA sn sc [pp] w5 ((hb.cell (p := ⟨w.heap.size, 0, none⟩) hgw).trans c4) ((hra.below hb5).more hb5.size) (by dsimp only [List.length_singleton] at hla; omega) (by dsimp only [List.length_singleton] at hla; omega) (by omega) (fun id hid w' hw' => by
            have hbw := below_cut hb5 hw' (Nat.le_refl _)
            exact ih id w' (HH.out.1.step hbw) (HH.out.2.step hbw) (by have := hrks id hid; omega))
        have HV1 := Lib.hid hv1
        clear HV hv1 hlen HL hrk hrks c2 c4 hgw
        unfold StrIs at hof
        unfold EnumIs at hen
        generalize ofL (enumN 99 c) ([pp].map (textT T q)) = z at *
        generalize bs (enumN 99 c) = NM at *
        generalize enumB 99 c = nb at *
        unfold tyV ty0 at hb4 hof hen kx ⊢
        go_wp2_with fail
        generalize (w2.alloc (.cells #[.int .u8 7, .int .i64 0, .int .i64 0, .bool false, .int .u32 c, .int .u32 0, .int .i64 0, .slice sA sn sc] 81)) = W at *
        refine hen.mono ?_
        rintro e w4 ⟨rfl, hb6⟩
        have kx4 := kx.step hb6
        have hb7 := below_cut hb4 hb6 (Nat.le_refl _)
        have ho4 := hof _ hb6
        clear hof
        obtain ⟨z0, z1, z2, z3, z4, z5, z6, z7⟩ := ty8_ kx4
        go_wp2_with fail
        refine ho4.mono ?_
        rintro e w5 ⟨rfl, hb8⟩
        have hb9 := below_cut hb7 hb8 (Nat.le_refl _)
        clear z0 z1 z2 z3 z4 z5 z6 z7
        go_wp2_with fail
        go_ret2
        exact ⟨by rw [HV1.out]; rfl, hb9⟩
      | fn l h1 h2 h3 h4 =>
        have hb4 := hb3.alloc hb3.size (.cells (tyV { ty0 with kind := 8, parts := l } (sA, sn, sc)) 81)
        have hv1 : v = ofL [102, 110] (l.map (textT T q)) := HV.out
        have hlen := HL.out
        rw [hv1] at hlen
        have c4 := (((Below.refl w2.heap.size w2).alloc (Nat.le_refl _) (.cells (tyV { ty0 with kind := 8, parts := l } (sA, sn, sc)) 81)).cell (p := ⟨w.heap.size, 0, none⟩) (by have := hb2.size; simp at this; show w.heap.size < _; omega)).trans c2
        have hof := ofp_any p T q w.heap.size [102, 110] sA sn sc l _ c4 ((hra.below hb4).more hb4.size) (by dsimp only at hla; omega) (by dsimp only at hla; omega) (by omega) (fun id hid w' hw' => by
          have hbw := below_cut hb4 hw' (Nat.le_refl _)
          exact ih id w' (HH.out.1.step hbw) (HH.out.2.step hbw) (by have := hrks id hid; omega))
        have HV1 := Lib.hid hv1
        clear HV hv1 hlen HL hrk hrks
        unfold StrIs at hof
        generalize ofL [102, 110] (l.map (textT T q)) = z at *
        unfold tyV ty0 at hb4 hof ⊢
        go_wp2_with fail
        refine hof.mono ?_
        rintro e w4 ⟨rfl, hb6⟩
        have hb7 := below_cut hb4 hb6 (Nat.le_refl _)
        go_wp2_with fail
        go_ret2
        exact ⟨by rw [HV1.out]; rfl, hb7⟩
end Go.Proofs.YtnhpjheiihiepaaGreatDoor
