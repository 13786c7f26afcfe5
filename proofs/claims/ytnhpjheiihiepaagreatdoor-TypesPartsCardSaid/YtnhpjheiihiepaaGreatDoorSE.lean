/- Walks. -/
import Derived.Test.YtnhpjheiihiepaaGreatDoorSA
import Derived.Test.YtnhpjheiihiepaaGreatDoorTyText
import Derived.Test.YtnhpjheiihiepaaGreatDoorRA
import Derived.Test.YtnhpjheiihiepaaGreatDoorTR
namespace Go.Proofs.YtnhpjheiihiepaaGreatDoor
open Go.RowKit

end Go.Proofs.YtnhpjheiihiepaaGreatDoor

namespace Go.Proofs.YtnhpjheiihiepaaGreatDoor
open Go.RowKit

end Go.Proofs.YtnhpjheiihiepaaGreatDoor

namespace Go.Proofs.YtnhpjheiihiepaaGreatDoor
open Go.RowKit

theorem eg_ids {es : List RtE} {ord : List Int} (h : es.map (·.1) = ord) {k : Nat} (hk : k < es.length) : ord.take (k + 1) = ord.take k ++ [(eg es k).1] := by
  subst h
  rw [List.take_succ_eq_append_getElem (by rw [List.length_map]; exact hk), List.getElem_map, eg_of hk]
set_option maxRecDepth 100000 in
set_option maxHeartbeats 2000000 in
theorem rids_any (p : Option Addr) (T : Int → TyI) (ord : List Int) (w : World) (h : RTab w p T ord) :
    Calls Tryz.prog 14 #[.pointer p] w (WordsIs ord w) := by
  rcases h with ⟨rfl, rfl⟩ | ⟨g, A, n, c, es, rfl, hA⟩
  · go_enter Tryz.func14, Tryz.ntmps14
    go_wp2_with fail
    go_ret
    exact ⟨none, 0, rfl, World.ownsRow_nil _ _ _ _, Below.refl _ _⟩
  · obtain ⟨hc, hr, ho, hn, -⟩ := hA
    have hlen := hr.rts_len
    have hlo : ord.length = n := by rw [← ho, List.length_map]; exact hlen
    have hgl := World.block_lt_of_cell? w _ hc
    simp only at hgl
    have HR := Lib.hid hr
    have HO := Lib.hid ho
    have HLO := Lib.hid hlo
    clear hr ho hlo
    go_enter Tryz.func14, Tryz.ntmps14
    go_wp2_with fail
    go_loopg [3, 4] n (fun q u i wr => ∃ (k : Nat) (A' : Option Addr) (c' : Nat), k + q = n ∧ i = .int .i64 (k : Nat) ∧ u = .slice A' k c' ∧ wr.ownsRow w.heap.size 22 1 (.slice A' k c') k (Ints .u32 (ord.take k)) ∧ Below w.heap.size w wr)
    case atStart => exact ⟨0, none, 0, by omega, rfl, rfl, World.ownsRow_nil _ _ _ _, Below.refl _ _⟩
    case round =>
      obtain ⟨k, A', c', hq, rfl, rfl, hor, hbr⟩ := hrel
      have c1 := (hbr.cell (p := ⟨g, 0, none⟩) hgl).trans hc
      by_cases hlt : k < n
      · obtain ⟨b, off, rfl, hbb, hcc⟩ := (HR.out.below hbr).rts (by omega)
        obtain ⟨x0, -⟩ := hcc k hlt
        have htk := eg_ids HO.out (k := k) (by omega)
        generalize (eg es k).1 = x at *
        have HT := Lib.hid htk
        have hsz := hbr.size
        clear hcc htk
        go_wp2_with (at_builtin; refine ap_one sl32 _ rfl _ _ rfl w.heap.size _ _ _ rfl hor _ _ rfl rfl (by omega) (by omega) hsz ?_; intro v' w5 ho5 hgr5 _; obtain ⟨A3, c3, rfl⟩ := own_shape ho5; have hb8 := (hbr.alloc hbr.size (.cells #[.int .u32 x] 22)).grown hgr5 (by simp; omega) (fun j hj => (hor.lt j hj).1); have HO5 := Lib.hid ho5; clear ho5)
        go_roundg (n - (k + 1))
        case measure => omega
        case rel => exact ⟨k + 1, A3, c3, by omega, by go_num, rfl, by rw [HT.out, Ints_append]; exact HO5.out, hb8⟩
      · obtain rfl : k = n := by omega
        have hta : ord.take k = ord := by rw [← HLO.out]; exact List.take_length
        rw [hta] at hor
        have HOR := Lib.hid hor
        have HM := Lib.hid HLO.out.symm
        clear hor hta
        go_wp2_with fail
        go_ret
        refine ⟨A', c', by rw [← HM.out]; rfl, ?_, hbr⟩
        rw [← HM.out]
        exact HOR.out

set_option maxRecDepth 100000 in
set_option maxHeartbeats 4000000 in
theorem roff_any (p : Option Addr) (T : Int → TyI) (ord : List Int) (hY : Typed T) (h00 : T 0 = ty0) (hout : ∀ id, id ∉ ord → T id = ty0) (id j : Int) (w : World) (h : RTab w p T ord) (hj : j < 9223372036854775808) :
    Calls Tryz.prog 55 #[.pointer p, .int .u32 id, .int .i64 j] w fun e w' => e = .returned (.tuple #[.int .i64 (offT T (T id) j).1, .bool (offT T (T id) j).2]) ∧ Below w.heap.size w w' := by
  have hf := rfind_any p T ord id w h hout
  unfold FindIs rtV at hf
  have hof := hY.rp_off id j
  have hpp := fun (hk : 4 ≤ (T id).kind ∧ (T id).kind ≤ 6) i hi => hY.rp_plain (id := id) ((hY.size id).2.1.2 (by omega)) (j := i) hi
  have hsz := fun q w' (hb : Below w.heap.size w w') => rsize_any p T ord hY hout 17 q w' (h.step hb) (by have := (hY.deep q).2; omega)
  have hbd := hY.sz0
  have hfew := hY.rp_few id
  have HSZ := Lib.hid hsz
  have H00 := Lib.hid h00
  obtain ⟨v, hv⟩ : ∃ v, v = offT T (T id) j := ⟨_, rfl⟩
  rw [← hv] at hof ⊢
  have HV := Lib.hid hof
  have HPP := Lib.hid hpp
  clear h hout hY h00 hsz hof hv hpp
  generalize decide (id ∈ ord) = d at *
  generalize T id = x at *
  go_enter Tryz.func55, Tryz.ntmps55
  go_wp2_with fail
  refine hf.mono ?_
  rintro e w2 ⟨i, ⟨A, n, c⟩, rfl, hr, hsc, hb⟩
  have hl := hr.len
  dsimp only at *
  have hb3 := hb.alloc hb.size (.cells #[.int .u32 i, .int .u8 x.kind, .bool x.signed, .int .u32 x.cls, .slice A n c] 65)
  have kb := Blk.new w2 65 #[.int .u32 i, .int .u8 x.kind, .bool x.signed, .int .u32 x.cls, .slice A n c]
  have hra := (hr.alloc (Nat.le_refl _) (.cells #[.int .u32 i, .int .u8 x.kind, .bool x.signed, .int .u32 x.cls, .slice A n c] 65)).more (show w2.heap.size ≤ (w2.alloc (.cells #[.int .u32 i, .int .u8 x.kind, .bool x.signed, .int .u32 x.cls, .slice A n c] 65)).heap.size by simp)
  have hv := HV.out
  have hpp := HPP.out
  rw [hl] at hv hpp hfew
  obtain ⟨l, hll⟩ : ∃ l, l = rparts x := ⟨_, rfl⟩
  rw [← hll] at hv hpp hra hl
  have HR := Lib.hid hra
  have HW := Lib.hid hv
  have HP := Lib.hid hpp
  obtain ⟨z0, z1, z2, z3, z4⟩ := five_ kb
  clear hr hsc hra hv hpp hll HPP HV hf hb
  by_cases h4 : x.kind < 4
  · have d4 : decide (x.kind < 4) = true := decide_eq_true h4
    obtain rfl := HW.out.trans (if_pos (.inl h4))
    clear h4 HW
    go_wp2_with fail
    go_ret2
    exact ⟨rfl, hb3⟩
  have d4 : decide (x.kind < 4) = false := decide_eq_false h4
  by_cases h6 : 6 < x.kind
  · have d6 : decide (x.kind > 6) = true := decide_eq_true h6
    obtain rfl := HW.out.trans (if_pos (.inr (.inl h6)))
    clear h4 h6 HW
    go_wp2_with fail
    go_ret2
    exact ⟨rfl, hb3⟩
  have d6 : decide (x.kind > 6) = false := decide_eq_false h6
  by_cases h0 : j < 0
  · have d0 : decide (j < 0) = true := decide_eq_true h0
    obtain rfl := HW.out.trans (if_pos (.inr (.inr (.inl h0))))
    clear h4 h6 h0 HW
    go_wp2_with fail
    go_ret2
    exact ⟨rfl, hb3⟩
  have d0 : decide (j < 0) = false := decide_eq_false h0
  by_cases h1 : (n : Int) ≤ j
  · have d1 : decide (j ≥ (n : Int)) = true := decide_eq_true h1
    obtain rfl := HW.out.trans (if_pos (.inr (.inr (.inr h1))))
    clear h4 h6 h0 h1 HW
    go_wp2_with fail
    go_ret2
    exact ⟨rfl, hb3⟩
  have d1 : decide (j ≥ (n : Int)) = false := decide_eq_false h1
  have hpp := HP.out ⟨by omega, by omega⟩
  have hw := HW.out.trans (if_neg (by omega))
  obtain ⟨m, rfl⟩ : ∃ m : Nat, j = m := ⟨j.toNat, by omega⟩
  have hmn : m < n := by omega
  have ej : ((m : Nat) : Int).toNat = m := rfl
  rw [ej] at hw
  have HV2 := Lib.hid hw
  have HP2 := Lib.hid hpp
  clear HW HP hw hpp ej
  go_wp2_with fail
  clear z0 z1 z2 z3 z4 d4 d6 d0 d1 h4 h6 h0 h1
  generalize (w2.alloc (.cells #[.int .u32 i, .int .u8 x.kind, .bool x.signed, .int .u32 x.cls, .slice A n c] 65)) = W at *
  generalize w2.heap.size = g at *
  go_loopg [10, 11, 12, 13] m (fun q a t s i wr => ∃ k : Nat, k + q = m ∧ i = .int .i64 (k : Nat) ∧ a = .int .i64 (sumN T l k) ∧ t = .int .u32 (lastN l k) ∧ s = .int .i64 (T (lastN l k)).size ∧ Below W.heap.size W wr)
  case atStart => exact ⟨0, by omega, rfl, rfl, rfl, by show _ = Value.int _ (T 0).size; rw [H00.out]; rfl, Below.refl _ _⟩
  case round =>
    obtain ⟨k, hkq, rfl, rfl, rfl, rfl, hbr⟩ := hrel
    obtain ⟨z0, z1, z2, z3, z4⟩ := five_ (kb.step hbr)
    have hbw := below_cut hb3 hbr (Nat.le_refl _)
    by_cases hlt : k < m
    · obtain ⟨b, off, rfl, hbb, hcc⟩ := (HR.out.below hbr).ints (by omega)
      have c0 := hcc k (by omega)
      have hlt2 : ((k : Nat) : Int) < (n : Int) := by omega
      have hpk := HP2.out k (by omega)
      have hne := plain_ne H00.out hpk
      have hsm := sumN_step (T := T) (l := l) (k := k) (by omega)
      have hs0 := sumN_bd hbd l k
      have hbp := hbd (ix l k)
      have hls := lastN_step l k
      have hsl := HSZ.out (ix l k)
      clear hcc
      rw [← hls] at hsl hsm hpk hne hbp c0
      have hle := lastN_eq (l := l) (k := k) (by rw [← hls]; exact hne)
      by_cases he : ix l k = lastN l k
      · have hl2 : lastN l k = lastN l (k + 1) := by rw [hls, he]
        rw [hl2]
        clear hls he hsl hle hl2
        generalize hz : (T (lastN l (k + 1))).size = z at *
        generalize hpk2 : lastN l (k + 1) = pk at *
        obtain ⟨sm, hsm2⟩ : ∃ sm, sm = sumN T l k := ⟨_, rfl⟩
        rw [← hsm2] at hsm hs0 ⊢
        have HSM := Lib.hid hsm
        have HZ := Lib.hid hz
        have HPK := Lib.hid hpk2
        have hwr : IntKind.i64.wrap (sm + z) = sm + z := IntWalk.i64_in _ (by omega)
        have e1 : (pk != pk) = false := by simp
        clear hsm hsm2 hs0 hbp hpk hne hz hpk2
        go_wp2_with fail
        go_roundg (m - (k + 1))
        case measure => omega
        case rel => exact ⟨k + 1, by omega, by go_num, by rw [HSM.out], by rw [HPK.out], by rw [HPK.out, HZ.out], hbr⟩
      · have e1 : (lastN l (k + 1) != lastN l k) = true := by rw [hls]; simpa using he
        obtain ⟨sm, hsm2⟩ : ∃ sm, sm = sumN T l k := ⟨_, rfl⟩
        rw [← hsm2] at hsm hs0 ⊢
        have HSM := Lib.hid hsm
        have hs1 := hsl wr hbw
        clear hls he hsm hsm2 hpk hne hsl hle
        generalize (T (lastN l k)).size = z0' at *
        generalize lastN l k = pl at *
        generalize hz : (T (lastN l (k + 1))).size = z at *
        generalize hpk : lastN l (k + 1) = pk at *
        have HZ := Lib.hid hz
        have HPK := Lib.hid hpk
        have hwr : IntKind.i64.wrap (sm + z) = sm + z := IntWalk.i64_in _ (by omega)
        clear hpk hz hs0 hbp
        go_wp2_with fail
        refine hs1.mono ?_
        rintro e w4 ⟨rfl, hb6⟩
        have hb7 := below_cut hbr hb6 (Nat.le_refl _)
        go_wp2_with fail
        go_roundg (m - (k + 1))
        case measure => omega
        case rel => exact ⟨k + 1, by omega, by go_num, by rw [HSM.out], by rw [HPK.out], by rw [HPK.out, HZ.out], hb7⟩
    · obtain rfl : k = m := by omega
      go_wp2_with fail
      go_ret2
      exact ⟨by rw [HV2.out]; rfl, hbw⟩

theorem allN_again {f : Int → Int → Bool} {l m : List Int} {k : Nat} (h : allN f l m k = true) (hk : k ≠ 0) (h1 : ix l (k - 1) = ix l k) (h2 : ix m (k - 1) = ix m k) : allN f l m (k + 1) = true := by
  have h3 := allN_true.1 h (k - 1) (by omega)
  rw [h1, h2] at h3
  show (allN f l m k && f (ix l k) (ix m k)) = true
  rw [h, h3]
  rfl
set_option maxRecDepth 100000 in
set_option maxHeartbeats 4000000 in
theorem ralike_any (p : Option Addr) (T : Int → TyI) (ord : List Int) (hY : Typed T) (h00 : T 0 = ty0) (hout : ∀ id, id ∉ ord → T id = ty0) : ∀ (q : Nat) (a b : Int) (w : World), RTab w p T ord → (T a).depth < (q : Int) → 0 < q →
    Calls Tryz.prog 22 #[.pointer p, .int .u32 a, .int .u32 b] w (BoolIs (alikeR T q a b) w)
  | 0, a, b, w, h, hq, h0 => absurd h0 (Nat.lt_irrefl 0)
  | q + 1, a, b, w, h, hq, h0 => by
    have ih := ralike_any p T ord hY h00 hout q
    have hfa := rfind_any p T ord a w h hout
    have hfb := fun w1 (hb : Below w.heap.size w w1) => rfind_any p T ord b w1 (h.step hb) hout
    have hpl := fun w1 (hb : Below w.heap.size w w1) => rplain_any p T ord hY a w1 (h.step hb) hout
    unfold FindIs rtV at hfa hfb
    have hdp := fun (hp : 0 < (T a).size) j hj => hY.rp_depth (id := a) hp (j := j) hj
    have hpp := fun (hp : 0 < (T a).size) j hj => hY.rp_plain (id := a) hp (j := j) hj
    have hfew := hY.rp_few a
    obtain ⟨v, hv⟩ : ∃ v, v = alikeR T (q + 1) a b := ⟨_, rfl⟩
    rw [← hv]
    replace hv : v = if ¬ 0 < (T a).size ∨ (T a).kind ≠ (T b).kind ∨ (rparts (T a)).length ≠ (rparts (T b)).length then false else allN (alikeR T q) (rparts (T a)) (rparts (T b)) (rparts (T a)).length := hv
    have HV := Lib.hid hv
    have HT := Lib.hid h
    have H00 := Lib.hid h00
    have HDP := Lib.hid hdp
    have HPP := Lib.hid hpp
    have hd16 := fun id => hY.deep id
    clear h hout hY h00 hv hdp hpp
    generalize decide (a ∈ ord) = d at *
    generalize decide (b ∈ ord) = d' at *
    generalize T a = x at *
    generalize T b = y at *
    go_enter Tryz.func22, Tryz.ntmps22
    go_wp2_with fail
    refine hfa.mono ?_
    rintro e w2 ⟨i, ⟨A, n, c⟩, rfl, hr, hsc, hb⟩
    have hl := hr.len
    dsimp only at *
    have hb3 := hb.alloc hb.size (.cells #[.int .u32 i, .int .u8 x.kind, .bool x.signed, .int .u32 x.cls, .slice A n c] 65)
    have kx := Blk.new w2 65 #[.int .u32 i, .int .u8 x.kind, .bool x.signed, .int .u32 x.cls, .slice A n c]
    have hra := (hr.alloc (Nat.le_refl _) (.cells #[.int .u32 i, .int .u8 x.kind, .bool x.signed, .int .u32 x.cls, .slice A n c] 65)).more (show w2.heap.size ≤ (w2.alloc (.cells #[.int .u32 i, .int .u8 x.kind, .bool x.signed, .int .u32 x.cls, .slice A n c] 65)).heap.size by simp)
    have hfb1 := hfb _ hb3
    clear hr hsc hb hfa hfb
    go_wp2_with fail
    generalize (w2.alloc (.cells #[.int .u32 i, .int .u8 x.kind, .bool x.signed, .int .u32 x.cls, .slice A n c] 65)) = W3 at *
    generalize w2.heap.size = gx at *
    refine hfb1.mono ?_
    rintro e w4 ⟨i', ⟨A', n', c'⟩, rfl, hr', hsc', hb4⟩
    have hl' := hr'.len
    dsimp only at *
    have hb5 := below_cut hb3 hb4 (Nat.le_refl _)
    have hb6 := hb5.alloc hb5.size (.cells #[.int .u32 i', .int .u8 y.kind, .bool y.signed, .int .u32 y.cls, .slice A' n' c'] 65)
    have ky := Blk.new w4 65 #[.int .u32 i', .int .u8 y.kind, .bool y.signed, .int .u32 y.cls, .slice A' n' c']
    have hba := (Below.refl w4.heap.size w4).alloc (Nat.le_refl _) (.cells #[.int .u32 i', .int .u8 y.kind, .bool y.signed, .int .u32 y.cls, .slice A' n' c'] 65)
    have kx2 := (kx.step hb4).step hba
    have hra2 := (((hra.below hb4).more hb4.size).below hba).more hba.size
    have hrb := (hr'.below hba).more hba.size
    have hp1 := hpl _ hb6
    have hv := HV.out
    have hdp := HDP.out
    have hpp := HPP.out
    rw [hl, hl'] at hv
    rw [hl] at hdp hpp hfew
    obtain ⟨l, hll⟩ : ∃ l, l = rparts x := ⟨_, rfl⟩
    obtain ⟨l', hll'⟩ : ∃ l', l' = rparts y := ⟨_, rfl⟩
    rw [← hll] at hv hdp hpp hra2 hl
    rw [← hll'] at hv hrb hl'
    have HR := Lib.hid hra2
    have HR2 := Lib.hid hrb
    have HW := Lib.hid hv
    have HD := Lib.hid hdp
    have HP := Lib.hid hpp
    clear hra hra2 hrb hr' hsc' hv hdp hpp hll hll' HV HDP HPP hba hb4 hb5 hfb1 hpl kx
    go_wp2_with fail
    generalize (w4.alloc (.cells #[.int .u32 i', .int .u8 y.kind, .bool y.signed, .int .u32 y.cls, .slice A' n' c'] 65)) = W at *
    generalize w4.heap.size = gy at *
    refine hp1.mono ?_
    rintro e w5 ⟨rfl, hb7⟩
    have hb8 := below_cut hb6 hb7 (Nat.le_refl _)
    replace kx2 := kx2.step hb7
    replace ky := ky.step hb7
    obtain ⟨z0, z1, z2, z3, z4⟩ := five_ kx2
    obtain ⟨q0, q1, q2, q3, q4⟩ := five_ ky
    by_cases hz : 0 < x.size
    case neg =>
      have dz : decide (0 < x.size) = false := decide_eq_false hz
      obtain rfl := HW.out.trans (if_pos (.inl (by omega)))
      rw [dz]
      clear HW dz hz
      go_wp2_with fail
      go_ret
      exact ⟨rfl, hb8⟩
    have dz : decide (0 < x.size) = true := decide_eq_true hz
    rw [dz]
    by_cases hk : x.kind = y.kind
    case neg =>
      have ek : (x.kind != y.kind) = true := by simpa using hk
      obtain rfl := HW.out.trans (if_pos (.inr (.inl hk)))
      clear HW dz hz hk
      go_wp2_with fail
      go_ret
      exact ⟨rfl, hb8⟩
    have ek : (x.kind != y.kind) = false := by simpa using hk
    by_cases hnn : n = n'
    case neg =>
      have en : (((n : Nat) : Int) != (n' : Nat)) = true := by simp; omega
      obtain rfl := HW.out.trans (if_pos (.inr (.inr hnn)))
      clear HW dz hz hk hnn
      go_wp2_with fail
      go_ret
      exact ⟨rfl, hb8⟩
    subst hnn
    have en : (((n : Nat) : Int) != (n : Nat)) = false := by simp
    have HV2 := Lib.hid (HW.out.trans (if_neg (by rintro (h | h | h); omega; exact h hk; exact h rfl)))
    have hdp := HD.out hz
    have hpp := HP.out hz
    have HDP := Lib.hid hdp
    have HPP := Lib.hid hpp
    have HRx := Lib.hid ((HR.out.below hb7).more hb7.size)
    have HRy := Lib.hid ((HR2.out.below hb7).more hb7.size)
    clear HW HD HP hdp hpp HR HR2 hz
    go_wp2_with fail
    clear z0 z1 z2 z3 z4 q0 q1 q2 q3 q4 dz ek hk en
    go_loopg [11, 12, 13] n (fun qq s t i wr => ∃ k : Nat, k + qq = n ∧ i = .int .i64 (k : Nat) ∧ s = .int .u32 (lastN l k) ∧ t = .int .u32 (lastN l' k) ∧ Hid (allN (alikeR T q) l l' k = true) ∧ Below w5.heap.size w5 wr)
    case atStart => exact ⟨0, by omega, rfl, rfl, rfl, Lib.hid rfl, Below.refl _ _⟩
    case round =>
      obtain ⟨k, hkq, rfl, rfl, rfl, HA, hbr⟩ := hrel
      obtain ⟨z0, z1, z2, z3, z4⟩ := five_ (kx2.step hbr)
      obtain ⟨q0, q1, q2, q3, q4⟩ := five_ (ky.step hbr)
      have hbw := below_cut hb8 hbr (Nat.le_refl _)
      by_cases hlt : k < n
      · obtain ⟨b1, off, rfl, hbb, hcc⟩ := (HRx.out.below hbr).ints (by omega)
        obtain ⟨b2, off2, rfl, hbb2, hcc2⟩ := (HRy.out.below hbr).ints (by omega)
        have c0 := hcc k hlt
        have c2 := hcc2 k hlt
        have hlt2 : ((k : Nat) : Int) < (n : Int) := by omega
        have hpk := HPP.out k hlt
        have hne := plain_ne H00.out hpk
        have hle := lastN_eq (l := l) (k := k) hne
        have hls := lastN_step l k
        have hls' := lastN_step l' k
        have hag := fun hk h1 h2 => allN_again HA.out (k := k) hk h1 h2
        have hnx : ∀ z, alikeR T q (ix l k) (ix l' k) = z → allN (alikeR T q) l l' (k + 1) = z := fun z hz => by
          show (allN (alikeR T q) l l' k && alikeR T q (ix l k) (ix l' k)) = z
          rw [HA.out, hz]
          rfl
        have hvf : alikeR T q (ix l k) (ix l' k) = false → v = false := fun hz => by
          rw [HV2.out]
          exact allN_false (hnx _ hz) n (by omega)
        have hdk := HDP.out k hlt
        have hih := ih (ix l k) (ix l' k) wr (HT.out.step hbw) (by omega) (by have := (hd16 (ix l k)).1; omega)
        have HAG := Lib.hid hag
        have HNX := Lib.hid hnx
        have HVF := Lib.hid hvf
        have HLE := Lib.hid hle
        clear hcc hcc2 hag hnx hvf hle HA hdk hpk hne
        have hl2e : ix l' k = lastN l' k → k ≠ 0 → ix l' (k - 1) = ix l' k := fun h h0 => by
          unfold lastN at h
          rw [if_neg h0] at h
          exact h.symm
        by_cases he : ix l k = lastN l k ∧ ix l' k = lastN l' k
        · obtain ⟨he1, he2⟩ := he
          obtain ⟨u1, u2⟩ := HLE.out he1
          have HA2 := Lib.hid (HAG.out u1 u2 (hl2e he2 u1))
          rw [← he1, ← he2]
          clear HAG HNX HVF HLE hl2e u1 u2 he1 he2 hih
          generalize ix l k = pk at *
          generalize ix l' k = pk' at *
          have HL := Lib.hid hls
          have HL' := Lib.hid hls'
          have e1 : (pk == pk) = true := by simp
          have e2 : (pk' == pk') = true := by simp
          clear hls hls'
          go_wp2_with fail
          go_roundg (n - (k + 1))
          case measure => omega
          case rel => exact ⟨k + 1, by omega, by go_num, by rw [HL.out], by rw [HL'.out], HA2, hbr⟩
        · cases hz : alikeR T q (ix l k) (ix l' k) with
          | true =>
            have HA2 := Lib.hid (HNX.out _ hz)
            rw [hz] at hih
            have HL := Lib.hid hls
            have HL' := Lib.hid hls'
            clear HAG HNX HVF HLE hl2e hz hls hls'
            by_cases h1 : ix l k = lastN l k
            · have e1 : (ix l k == lastN l k) = true := by simpa using h1
              have e2 : (ix l' k == lastN l' k) = false := by simpa using fun h => he ⟨h1, h⟩
              clear he h1
              generalize lastN l k = la at *
              generalize lastN l' k = lb at *
              generalize ix l k = pk at *
              generalize ix l' k = pk' at *
              go_wp2_with fail
              refine hih.mono ?_
              rintro e w6 ⟨rfl, hb9⟩
              go_wp2_with fail
              go_roundg (n - (k + 1))
              case measure => omega
              case rel => exact ⟨k + 1, by omega, by go_num, by rw [HL.out], by rw [HL'.out], HA2, below_cut hbr hb9 (Nat.le_refl _)⟩
            · have e1 : (ix l k == lastN l k) = false := by simpa using h1
              clear he h1
              generalize lastN l k = la at *
              generalize lastN l' k = lb at *
              generalize ix l k = pk at *
              generalize ix l' k = pk' at *
              go_wp2_with fail
              refine hih.mono ?_
              rintro e w6 ⟨rfl, hb9⟩
              go_wp2_with fail
              go_roundg (n - (k + 1))
              case measure => omega
              case rel => exact ⟨k + 1, by omega, by go_num, by rw [HL.out], by rw [HL'.out], HA2, below_cut hbr hb9 (Nat.le_refl _)⟩
          | false =>
            obtain rfl := HVF.out hz
            rw [hz] at hih
            clear HAG HNX HVF HLE hl2e hz hls hls' HV2
            by_cases h1 : ix l k = lastN l k
            · have e1 : (ix l k == lastN l k) = true := by simpa using h1
              have e2 : (ix l' k == lastN l' k) = false := by simpa using fun h => he ⟨h1, h⟩
              clear he h1
              generalize lastN l k = la at *
              generalize lastN l' k = lb at *
              generalize ix l k = pk at *
              generalize ix l' k = pk' at *
              go_wp2_with fail
              refine hih.mono ?_
              rintro e w6 ⟨rfl, hb9⟩
              go_wp2_with fail
              go_ret
              exact ⟨rfl, below_cut hbw hb9 (Nat.le_refl _)⟩
            · have e1 : (ix l k == lastN l k) = false := by simpa using h1
              clear he h1
              generalize lastN l k = la at *
              generalize lastN l' k = lb at *
              generalize ix l k = pk at *
              generalize ix l' k = pk' at *
              go_wp2_with fail
              refine hih.mono ?_
              rintro e w6 ⟨rfl, hb9⟩
              go_wp2_with fail
              go_ret
              exact ⟨rfl, below_cut hbw hb9 (Nat.le_refl _)⟩
      · obtain rfl : k = n := by omega
        obtain rfl : v = true := HV2.out.trans HA.out
        clear HA HV2
        go_wp2_with fail
        go_ret
        exact ⟨rfl, hbw⟩
end Go.Proofs.YtnhpjheiihiepaaGreatDoor
