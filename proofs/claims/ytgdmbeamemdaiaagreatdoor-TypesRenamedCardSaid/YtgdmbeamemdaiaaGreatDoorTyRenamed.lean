/- Walks: TypesRenamed. -/
import Derived.Deep.RegionHeld3
import Derived.Test.YtgdmbeamemdaiaaGreatDoorTyEqual
import Derived.Test.YtgdmbeamemdaiaaGreatDoorTyRnum
import Derived.Test.YtgdmbeamemdaiaaGreatDoorTyTextsLaw
namespace Go.Proofs.YtgdmbeamemdaiaaGreatDoor
open Go.RowKit

theorem shapeR_count {bound : Int} : ∀ {l : List InstI} {k : Nat} {left : Int}, 0 ≤ left → (shapeR bound l k left).1 = 0 → (l.length : Int) ≤ left
  | [], _, left, h, _ => h
  | i :: r, k, left, h, h0 => by
    unfold shapeR at h0
    by_cases h1 : (rawR i bound).1 ≠ 0
    · rw [if_pos h1] at h0; exact absurd h0 h1
    · rw [if_neg h1] at h0
      by_cases h2 : left - (1 + (rawR i bound).2.length) < 0
      · rw [if_pos h2] at h0; cases h0
      · rw [if_neg h2] at h0
        have := shapeR_count (by omega) h0
        rw [List.length_cons]
        omega
/-- what the statement asks of a module with other ids -/
structure RenW (l : List InstI) (s s' : StN) : Prop where
  ord : s'.ord = s.ord.map (toF l)
  text : ∀ x ∈ s.ord, ∀ q, textT s'.T q (toF l x) = textT s.T q x
  kind : ∀ x ∈ s.ord, (s'.T (toF l x)).kind = (s.T x).kind
  size : ∀ x ∈ s.ord, (s'.T (toF l x)).size = (s.T x).size
theorem renamed_ok {bound : Int} {l : List InstI} {s : StN} {at_ : Int} (hop : ∀ i ∈ l, 0 ≤ i.1 ∧ i.1 < 65536) (hrs : ∀ i ∈ l, 0 ≤ i.2.2.1) (hu : ∀ i ∈ l, ∀ a ∈ i.2.2.2, 0 ≤ a.2.1 ∧ a.2.1 < 4294967296) (hn : newM bound l = (0, at_, s)) :
    l.length ≤ 2000000 ∧ (∀ i ∈ l, i.2.2.2.length ≤ 65535) ∧ (idsM bound l).1 = 0 ∧ (∃ s', newM (cntN l l.length : Int) (l.map (renI (toF l))) = (0, at_, s') ∧ RenW l s s') ∧
      (∀ i ∈ l.map (renI (toF l)), ∀ a ∈ i.2.2.2, 0 ≤ a.2.1 ∧ a.2.1 < 4294967296) ∧ (∀ i ∈ l.map (renI (toF l)), 0 ≤ i.1 ∧ i.1 < 65536) := by
  have hp : ∀ i ∈ l, ∀ x ∈ nums i.2.2.2, 0 ≤ x := fun i hi x hx => by
    unfold nums at hx
    obtain ⟨y, hy, rfl⟩ := List.mem_map.1 hx
    exact (hu i hi y hy).1
  have hi : (idsM bound l).1 = 0 := by
    unfold newM at hn
    by_cases hi : (idsM bound l).1 = 0
    · exact hi
    · exfalso
      rw [if_pos hi] at hn
      exact hi (congrArg Prod.fst hn)
  have hshape : (shapeM bound l).1 = 0 := by
    have h := hi
    unfold idsM layM at h
    by_cases hs : (shapeM bound l).1 = 0
    · exact hs
    · rw [if_pos hs, if_pos hs] at h
      exact h
  have hlen : l.length ≤ 2000000 := by
    unfold shapeM at hshape
    split at hshape
    · cases hshape
    · have := shapeR_count (by decide) hshape
      omega
  have hraw := ids_shape hi
  have hused := ids_used hi
  have hR := toF_ok (ids_once hi)
  obtain ⟨hcnt, s', h1, h2⟩ := renumber_new (fun i hi => (hop i hi).1) hrs hp hn
  have hw := (newM_well hn).1
  refine ⟨hlen, fun i hil => Nat.le_of_lt (rawR_args (hraw i hil)), hi, ⟨s', h1, h2.ord, fun x hx q => text_ren h2 hw (.inl rfl) q x (h2.ordU x hx), fun x hx => ?_, fun x hx => ?_⟩, fun i hil a ha => ?_, fun i hil => ?_⟩
  · rw [h2.T x (h2.ordU x hx)]; rfl
  · rw [h2.T x (h2.ordU x hx)]; rfl
  · obtain ⟨j, hj, rfl⟩ := List.mem_map.1 hil
    have ha : a ∈ j.2.2.2.map (renA (toF l)) := ha
    obtain ⟨y, hy, rfl⟩ := List.mem_map.1 ha
    have hyu := hu j hj y hy
    by_cases h0 : y.1 = 1
    · rw [renA_id h0]
      have hU := (hused j hj).args y hy h0
      by_cases hz : y.2.1 = 0
      · rw [hz, hR.zero]; decide
      · have := hR.bd _ hU hz
        omega
    · rw [renA_other h0]; exact hyu
  · obtain ⟨j, hj, rfl⟩ := List.mem_map.1 hil
    exact hop j hj
/-- two cells in two places, and nothing else turned -/
abbrev D2 (w1 : World) (p1 p2 : Addr) (x y : Int) (w' : World) : Prop := w'.cell? p1 = some (.int .u32 x) ∧ w'.cell? p2 = some (.int .u32 y) ∧ Below w1.heap.size w1 w'
section
variable {w1 w2 w3 : World} {p1 p2 : Addr} {x y : Int}
theorem D2.drew_ (h : D2 w1 p1 p2 x y w2) : D2 w1 p1 p2 x y w2.drew := ⟨h.1, h.2.1, h.2.2.drew⟩
theorem D2.call (h1 : p1.block < w1.heap.size) (h2 : p2.block < w1.heap.size) (h : D2 w1 p1 p2 x y w2) (hq : Below w2.heap.size w2 w3) : D2 w1 p1 p2 x y w3 :=
  ⟨(hq.cell (p := p1) (Nat.lt_of_lt_of_le h1 h.2.2.size)).trans h.1, (hq.cell (p := p2) (Nat.lt_of_lt_of_le h2 h.2.2.size)).trans h.2.1, below_cut h.2.2 hq (Nat.le_refl _)⟩
theorem D2.is (h : D2 w1 p1 p2 x y w2) : Below w1.heap.size w1 w2 := h.2.2
end
set_option maxRecDepth 100000 in
set_option maxHeartbeats 4000000 in
theorem law_renamed (gen bound : Int) (A : Option Addr) (n c : Nat) (ls : List InstA) (w : World) (hM : ModS w w.heap.size A n ls) (hn : n ≤ 3600000000000) (hP : Pow w)
    (hN : ∀ x ∈ ls, (∀ a ∈ x.1.2.2.2, 0 ≤ a.2.1 ∧ a.2.1 < 4294967296) ∧ (0 ≤ x.1.1 ∧ x.1.1 < 65536) ∧ 0 ≤ x.1.2.2.1) :
    Calls Tryz.prog 9 #[.agg (modC gen bound A n c)] w (BoolIs true w) := by
  have hb1 := (Below.refl w.heap.size w).alloc (Nat.le_refl _) (.cells (modC gen bound A n c) 25)
  have k1 := Blk.new w 25 (modC gen bound A n c)
  have hcp := copyModule_any gen bound A n c ls _ (hM.step hb1) hn
  obtain ⟨L, hL⟩ : ∃ L, L = ls.map (·.1) := ⟨_, rfl⟩
  have hu : ∀ i ∈ L, ∀ a ∈ i.2.2.2, 0 ≤ a.2.1 ∧ a.2.1 < 4294967296 := fun i hi => by
    rw [hL] at hi
    obtain ⟨x, hx, rfl⟩ := List.mem_map.1 hi
    exact (hN x hx).1
  have hop : ∀ i ∈ L, 0 ≤ i.1 ∧ i.1 < 65536 := fun i hi => by
    rw [hL] at hi
    obtain ⟨x, hx, rfl⟩ := List.mem_map.1 hi
    exact (hN x hx).2.1
  have hrs : ∀ i ∈ L, 0 ≤ i.2.2.1 := fun i hi => by
    rw [hL] at hi
    obtain ⟨x, hx, rfl⟩ := List.mem_map.1 hi
    exact (hN x hx).2.2
  rw [← hL] at hcp
  clear hN
  unfold modC at *
  obtain ⟨z0, z1, z2⟩ := three_ k1
  go_enter Tryz.func9, Tryz.ntmps9
  go_wp2_with fail
  refine hcp.mono ?_
  rintro e w2 ⟨A', c', ls', rfl, hM', hL', hb2⟩
  have hb3 := below_cut hb1 hb2 (Nat.le_refl _)
  have hnw := new_copied (gen := gen) (bound := bound) (c := c') hM' hL' (hP.step hb3) hu hop
  have hren := Lib.hid (fun at_ s (h : newM bound L = (0, at_, s)) => renamed_ok (s := s) hop hrs hu h)
  have HL := Lib.hid hL
  have HcM := Lib.hid hM
  generalize newM bound L = r at *
  obtain ⟨r1, r2, s⟩ := r
  clear hcp hM' hL' hu hop hrs hM hL
  go_wp2_with fail
  refine hnw.mono ?_
  rintro e w3 ⟨hb4, ⟨h0, hw, gt, rfl, hG⟩ | ⟨h0, rfl⟩⟩
  · have h0 : r1 = 0 := h0
    have HO := Lib.hid (hren.out r2 s (by rw [h0]))
    clear hren
    have hw : WellS s := hw
    have hG : TabG w3 (some ⟨gt, 0, none⟩) s := hG
    have hb5 := below_cut hb3 hb4 (Nat.le_refl _)
    have hbs := (Below.refl w3.heap.size w3).alloc (Nat.le_refl _) (.cells #[.int .i64 0, .int .i64 0] 29)
    have hb6 := hb5.alloc hb5.size (.cells #[.int .i64 0, .int .i64 0] 29)
    have kS := Blk.new w3 29 #[.int .i64 0, .int .i64 0]
    obtain ⟨S, hT, hI⟩ := hG.step hbs
    obtain ⟨q0, q1⟩ := two_ kS
    have hids := idsT_any (some ⟨gt, 0, none⟩) s.ord _ hI
    have hor : s.ord.length ≤ 7100000000000 := by
      rcases hI with ⟨h, -⟩ | ⟨g, A, m, c, -, -, h, hm⟩
      · cases h
      · have := h.len; omega
    clear hnw hG h0
    have k1W := ((k1.step hb2).step hb4).step hbs
    obtain ⟨z0, z1, z2⟩ := three_ k1W
    have hcp2 := copyModule_any gen bound A n c ls _ (HcM.out.step hb6) hn
    rw [← HL.out] at hcp2
    unfold ModIs at hcp2
    clear hids
    go_wp2_with fail
    have hw3 : (w3.alloc (.cells #[.int .i64 0, .int .i64 0] 29)).heap.size = w3.heap.size + 1 := by simp
    generalize (w3.alloc (.cells #[.int .i64 0, .int .i64 0] 29)) = W at *
    clear q0 q1 z0 z1 z2 k1W
    obtain ⟨hlen, hargs, hids0, ⟨s2, hn2, HRW⟩, hu2, hop2⟩ := HO.out
    refine hcp2.mono ?_
    rintro e w4 ⟨A3, c3, ls3, rfl, hM3, hL3, hb7⟩
    have hb8 := below_cut hb6 hb7 (Nat.le_refl _)
    have hrn := renumber_any gen bound A3 L.length c3 ls3 w4 hM3 hlen (fun x hx => hargs x.1 (hL3 ▸ List.mem_map.2 ⟨x, hx, rfl⟩)) (by rw [hL3]; exact hids0)
    rw [hL3] at hrn
    unfold RenumIs modC at hrn
    clear hcp2 hM3 hargs hids0 HO
    go_wp2_with fail
    refine hrn.mono ?_
    rintro e w5 ⟨A5, c5, ls5, rfl, hL5, hM5, hb9⟩
    clear hrn hL3
    have hb10 := below_cut hb8 hb9 (Nat.le_refl _)
    have hbA := below_cut hb7 hb9 (Nat.le_refl _)
    have hbm := (Below.refl w5.heap.size w5).alloc (Nat.le_refl _) (.cells #[.int .u32 gen, .int .u32 (cntN L L.length : Nat), .slice A5 L.length c5] 25)
    have hbn := hbm.alloc (by simp) (.cells #[.int .i64 0, .int .i64 0] 29)
    have hb11 := below_cut hb10 hbn (Nat.le_refl _)
    have km := (Blk.new w5 25 #[.int .u32 gen, .int .u32 (cntN L L.length : Nat), .slice A5 L.length c5]).alloc (.cells #[.int .i64 0, .int .i64 0] 29)
    have ks := Blk.new (w5.alloc (.cells #[.int .u32 gen, .int .u32 (cntN L L.length : Nat), .slice A5 L.length c5] 25)) 29 #[.int .i64 0, .int .i64 0]
    rw [World.size_alloc] at ks
    have hnw2 := new_copied (gen := gen) (bound := (cntN L L.length : Nat)) (c := c5) (hM5.step hbn) hL5 (hP.step hb11) hu2 hop2
    rw [hn2] at hnw2
    unfold modC at hnw2
    have hbB := below_cut hbA hbn (Nat.le_refl _)
    clear hM5 hL5 hu2 hop2 hb10 hbm hbA hb9 hb8 hb7 hb6
    obtain ⟨z0, z1, z2⟩ := three_ km
    go_wp2_with fail
    refine hnw2.mono ?_
    rintro e w6 ⟨hb12, ⟨-, hw2, gt2, rfl, hG2⟩ | ⟨h0', -⟩⟩
    · have hw2 : WellS s2 := hw2
      have hG2 : TabG w6 (some ⟨gt2, 0, none⟩) s2 := hG2
      have hb13 := below_cut hb11 hb12 (Nat.le_refl _)
      have hbC := below_cut hbB hb12 (Nat.le_refl _)
      have hbs6 := (Below.refl w6.heap.size w6).alloc (Nat.le_refl _) (.cells #[.int .i64 0, .int .i64 0] 29)
      have hb14 := below_cut hb13 hbs6 (Nat.le_refl _)
      have hbD := below_cut hbC hbs6 (Nat.le_refl _)
      have k6 := (ks.step hb12).alloc (.cells #[.int .i64 0, .int .i64 0] 29)
      have k8 := Blk.new w6 29 #[.int .i64 0, .int .i64 0]
      obtain ⟨S2, hT2, hI2⟩ := hG2.step hbs6
      have hT1 := hT.step hbD
      have hI1 := hI.step hbD
      have hids1 := idsT_any (some ⟨gt, 0, none⟩) s.ord _ hI1
      obtain ⟨v0, v1⟩ := two_ k6
      obtain ⟨u0, u1⟩ := two_ k8
      clear hnw2 hG2 hT hI ks km hbB hbC hbD hb12 hb13 hb11 z0 z1 z2
      go_wp2_with fail
      generalize (w6.alloc (.cells #[.int .i64 0, .int .i64 0] 29)) = W7 at *
      clear v0 v1 u0 u1
      refine hids1.mono ?_
      rintro e w8 ⟨Ai, ci, rfl, ho1, hb15⟩
      have hids2 := idsT_any (some ⟨gt2, 0, none⟩) s2.ord _ (hI2.step hb15)
      have hl2 : s2.ord.length = s.ord.length := by rw [HRW.ord, List.length_map]
      clear hids1 hI1 k6 k8
      go_wp2_with fail
      refine hids2.mono ?_
      rintro e w9 ⟨Bi, di, rfl, ho2, hb16⟩
      have hb17 := below_cut (below_cut hb14 hb15 (Nat.le_refl _)) hb16 (Nat.le_refl _)
      have hTA := Lib.hid ((hT1.step hb15).step hb16)
      have hTB := Lib.hid ((hT2.step hb15).step hb16)
      have hrA := Reads.of_own (own_below ho1 hb16)
      have hrB := Reads.of_own ho2
      have HW1 := Lib.hid hw
      have HW2 := Lib.hid hw2
      rw [hl2] at hrB ⊢
      have hcellA : ∀ k, k < s.ord.length → ∃ b off, Ai = some ⟨b, off, none⟩ ∧ b < w9.heap.size ∧ ∀ k, k < s.ord.length → w9.cell? ⟨b, off + k, none⟩ = some (.int .u32 (ix s.ord k)) := fun k hk => by
        obtain ⟨b, off, h1, h2, h3⟩ := hrA.ints (by omega)
        exact ⟨b, off, h1, h2, h3⟩
      have hcellB : ∀ k, k < s.ord.length → ∃ b off, Bi = some ⟨b, off, none⟩ ∧ b < w9.heap.size ∧ ∀ k, k < s.ord.length → w9.cell? ⟨b, off + k, none⟩ = some (.int .u32 (ix s2.ord k)) := fun k hk => by
        obtain ⟨b, off, h1, h2, h3⟩ := hrB.ints (by omega)
        exact ⟨b, off, h1, h2, h3⟩
      have hixs : ∀ k, k < s.ord.length → ix s2.ord k = toF L (ix s.ord k) := fun k hk => by
        rw [ix_of (by omega), ix_of hk]
        have := HRW.ord
        simp only [this, List.getElem_map]
      have HCA := Lib.hid hcellA
      have HCB := Lib.hid hcellB
      have HIX := Lib.hid hixs
      have HR2 := Lib.hid HRW
      have haw2 := fun (w' : World) (h : Below w.heap.size w w') => awake_any w' (hP.step h)
      have hY1 := hw.typed
      have hY2 := hw2.typed
      have htx1 := fun (u : Int) (w' : World) (h : Below w9.heap.size w9 w') => textT_any (some ⟨gt, 0, none⟩) s.T S hY1 19 u w' (hTA.out.step h) ((hP.step hb17).step h) (by have := (rankT_bd hY1 u).2; omega)
      have htx2 := fun (u : Int) (w' : World) (h : Below w9.heap.size w9 w') => textT_any (some ⟨gt2, 0, none⟩) s2.T S2 hY2 19 u w' (hTB.out.step h) ((hP.step hb17).step h) (by have := (rankT_bd hY2 u).2; omega)
      unfold TextIs at htx1 htx2
      obtain ⟨m, hm⟩ : ∃ m, m = s.ord.length := ⟨_, rfl⟩
      rw [← hm] at HCA HCB HIX hor ⊢
      have HM := Lib.hid hm
      have el : (((m : Nat) : Int) != (m : Nat)) = false := by simp
      clear hids2 hw hw2 hrA hrB ho1 ho2 hcellA hcellB hixs HRW hY1 hY2 hT1 hT2 hI2 hl2 hm hb14 hb15 hb16 hn2
      go_wp2_with fail
      go_loopg [11] m (fun qq i wr => ∃ k : Nat, k + qq = m ∧ i = .int .i64 (k : Nat) ∧ Below w9.heap.size w9 wr)
      case atStart => exact ⟨0, by omega, rfl, Below.refl _ _⟩
      case round =>
        obtain ⟨k, hkq, rfl, hbr⟩ := hrel
        by_cases hlt : k < m
        · have d1 : decide (((k : Nat) : Int) < (m : Nat)) = true := by rw [decide_eq_true_eq]; omega
          have hlt2 : ((k : Nat) : Int) < (m : Nat) := by omega
          obtain ⟨b1, off1, rfl, hbb1, hcc1⟩ := HCA.out k hlt
          obtain ⟨b2, off2, rfl, hbb2, hcc2⟩ := HCB.out k hlt
          have hx2 := HIX.out k hlt
          have hin := ix_in (show k < s.ord.length by have := HM.out; omega)
          have r1 := HR2.out.text _ hin 19
          have r2' := HR2.out.kind _ hin
          have r3 := HR2.out.size _ hin
          have hK1 := fun (w' : World) (h : TabW w' (some ⟨gt, 0, none⟩) s.T S) => kindM_any _ _ _ (ix s.ord k) w' h.tab
          have hK2 := fun (w' : World) (h : TabW w' (some ⟨gt2, 0, none⟩) s2.T S2) => kindM_any _ _ _ (ix s2.ord k) w' h.tab
          have hS1 := fun (w' : World) (h : TabW w' (some ⟨gt, 0, none⟩) s.T S) => sizeM_any _ _ _ (ix s.ord k) w' h.tab
          have hS2 := fun (w' : World) (h : TabW w' (some ⟨gt2, 0, none⟩) s2.T S2) => sizeM_any _ _ _ (ix s2.ord k) w' h.tab
          have hx1t := htx1 (ix s.ord k)
          have hx2t := htx2 (ix s2.ord k)
          have HC1 := Lib.hid (fun (w' : World) (h : Below w9.heap.size w9 w') => (h.cell (p := ⟨b1, off1 + k, none⟩) hbb1).trans (hcc1 k hlt))
          have HC2 := Lib.hid (fun (w' : World) (h : Below w9.heap.size w9 w') => (h.cell (p := ⟨b2, off2 + k, none⟩) hbb2).trans (hcc2 k hlt))
          rw [hx2] at hK2 hS2 hx2t HC2
          rw [r1] at hx2t
          rw [r2'] at hK2 hx2t
          rw [r3] at hS2
          clear hcc1 hcc2 hx2 hin r1 r2' r3
          generalize bs (textT s.T 19 (ix s.ord k)) = sx at *
          generalize kindB (s.T (ix s.ord k)).kind = kb at *
          generalize (s.T (ix s.ord k)).kind = v3 at *
          generalize (s.T (ix s.ord k)).size = v4 at *
          generalize toF L (ix s.ord k) = y at *
          generalize ix s.ord k = x at *
          have e13 : (!(sx.toList == sx.toList)) = false := by simp
          have e14 : (sx.toList == sx.toList) = true := by simp
          have e15 : (sx != sx) = false := by show (!(sx.data == sx.data)) = false; simp
          have f3 : (v3 != v3) = false := by simp
          have f4 : (v4 != v4) = false := by simp
          have c0 := HC1.out _ hbr
          clear htx1 htx2
          go_wp2_with fail
          refine (hx1t wr hbr).mono ?_
          rintro e w10 ⟨rfl, g10⟩
          have B10 := below_cut hbr g10 (Nat.le_refl _)
          have c1 := HC2.out _ B10
          clear g10 hx1t c0
          go_wp2_with fail
          refine (hx2t w10 B10).mono ?_
          rintro e w11 ⟨rfl, g11⟩
          have B11 := below_cut B10 g11 (Nat.le_refl _)
          clear g11 hx2t c1
          have c0 := HC1.out _ B11
          have c1 := HC2.out _ B11
          have hl1 : (⟨b1, off1 + k, none⟩ : Addr).block < w11.heap.size := Nat.lt_of_lt_of_le hbb1 B11.size
          have hl2 : (⟨b2, off2 + k, none⟩ : Addr).block < w11.heap.size := Nat.lt_of_lt_of_le hbb2 B11.size
          have hS0 : D2 w11 ⟨b1, off1 + k, none⟩ ⟨b2, off2 + k, none⟩ x y w11 := ⟨c0, c1, Below.refl _ _⟩
          have hT6 := hTA.out.step B11
          have hT7 := hTB.out.step B11
          clear HC1 HC2 hlt
          go_upto_region 17 with fail
          go_region_held3 (D2 w11 ⟨b1, off1 + k, none⟩ ⟨b2, off2 + k, none⟩ x y) (first | with_reducible exact hS0.drew_ | with_reducible assumption | with_reducible exact D2.call hl1 hl2 (by assumption) hbq | fail) ((first | (go_at_call 19; (first | with_reducible refine (hK1 _ (hT6.step (D2.is (by assumption)))).mono ?_ | with_reducible refine (hK2 _ (hT7.step (D2.is (by assumption)))).mono ?_); rintro e w' ⟨rfl, hbq⟩) | (go_at_call 20; (first | with_reducible refine (hS1 _ (hT6.step (D2.is (by assumption)))).mono ?_ | with_reducible refine (hS2 _ (hT7.step (D2.is (by assumption)))).mono ?_); rintro e w' ⟨rfl, hbq⟩)))
          all_goals
            have B12 := below_cut B11 (D2.is (by assumption)) (Nat.le_refl _)
            go_wp2_with fail
            go_roundg (m - (k + 1))
            case measure => omega
            case rel => exact ⟨k + 1, by omega, by go_num, B12⟩
        · have d1 : decide (((k : Nat) : Int) < (m : Nat)) = false := by rw [decide_eq_false_iff_not]; omega
          go_wp2_with fail
          refine (haw2 wr (below_cut hb17 hbr (Nat.le_refl _))).mono ?_
          rintro e w10 ⟨rfl, g10⟩
          have B10 := below_cut (below_cut hb17 hbr (Nat.le_refl _)) g10 (Nat.le_refl _)
          clear g10
          go_wp2_with fail
          go_ret
          exact ⟨rfl, B10⟩
    · exact absurd rfl h0'
  · have h0 : r1 ≠ 0 := h0
    have hb5 := below_cut hb3 hb4 (Nat.le_refl _)
    have hb6 := hb5.alloc hb5.size (.cells #[.int .i64 r1, .int .i64 r2] 29)
    have kS := Blk.new w3 29 #[.int .i64 r1, .int .i64 r2]
    obtain ⟨q0, q1⟩ := two_ kS
    have e0 : (r1 != 0) = true := by simpa using h0
    have haw := awake_any _ (hP.step hb6)
    clear hnw h0
    go_wp2_with fail
    generalize (w3.alloc (.cells #[.int .i64 r1, .int .i64 r2] 29)) = W at *
    refine haw.mono ?_
    rintro e w5 ⟨rfl, hb9⟩
    have hb10 := below_cut hb6 hb9 (Nat.le_refl _)
    clear q0 q1
    go_wp2_with fail
    go_ret
    exact ⟨rfl, hb10⟩
end Go.Proofs.YtgdmbeamemdaiaaGreatDoor
