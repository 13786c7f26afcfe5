/- Walks. -/
import Derived.Test.YtnhpjheiihiepaaGreatDoorSA
import Derived.Test.YtnhpjheiihiepaaGreatDoorTyText
import Derived.Test.YtnhpjheiihiepaaGreatDoorRA
import Derived.Test.YtnhpjheiihiepaaGreatDoorTR
namespace Go.Proofs.YtnhpjheiihiepaaGreatDoor
open Go.RowKit

theorem join_snoc (sep y : List UInt8) : ∀ xs : List (List UInt8), xs ≠ [] → Lib.join (xs ++ [y]) sep = Lib.join xs sep ++ sep ++ y
  | [], h => absurd rfl h
  | [a], _ => by
    unfold Lib.join
    show List.intercalate sep [a, y] = List.intercalate sep [a] ++ sep ++ y
    rw [List.intercalate_cons_cons]
    simp [List.intercalate]
  | a :: b :: r, _ => by
    have ih := join_snoc sep y (b :: r) (by simp)
    unfold Lib.join at *
    show List.intercalate sep (a :: b :: (r ++ [y])) = _
    rw [List.intercalate_cons_cons, List.intercalate_cons_cons]
    have e : b :: (r ++ [y]) = (b :: r) ++ [y] := rfl
    rw [e, ih]
    simp [List.append_assoc]
def jn (f : Int → List UInt8) (l : List Int) (k : Nat) : List UInt8 := Lib.join ((l.take k).map f) [44]
theorem jn_zero (f : Int → List UInt8) (l : List Int) : jn f l 0 = [] := by unfold jn; simp [Lib.join]
theorem jn_one {f : Int → List UInt8} {l : List Int} (h : 0 < l.length) : jn f l 1 = f (ix l 0) := by
  unfold jn
  have e : l.take 1 = [ix l 0] := by
    have := take_snoc_ix (l := l) (k := 0) h
    simpa using this
  rw [e]
  simp [Lib.join]
theorem jn_step {f : Int → List UInt8} {l : List Int} {k : Nat} (h : k < l.length) (h0 : 0 < k) : jn f l (k + 1) = jn f l k ++ [44] ++ f (ix l k) := by
  unfold jn
  rw [take_snoc_ix h, List.map_append]
  refine join_snoc _ _ _ (fun hc => ?_)
  have := congrArg List.length hc
  rw [List.length_map, List.length_take, List.length_nil] at this
  omega
theorem jn_all {f : Int → List UInt8} {l : List Int} : jn f l l.length = Lib.join (l.map f) [44] := by unfold jn; rw [List.take_length]
theorem jn_le {f : Int → List UInt8} {l : List Int} : ∀ {m k : Nat}, k + m ≤ l.length → (jn f l k).length ≤ (jn f l (k + m)).length
  | 0, k, _ => Nat.le_refl _
  | m + 1, k, h => by
    have ih := jn_le (f := f) (l := l) (m := m) (k := k) (by omega)
    rcases Nat.eq_zero_or_pos (k + m) with h0 | h0
    · have hk : k = 0 := by omega
      subst hk
      rw [jn_zero]
      exact Nat.zero_le _
    · rw [show k + (m + 1) = k + m + 1 by omega, jn_step (by omega) h0]
      simp only [List.length_append]
      omega

set_option maxRecDepth 100000 in
set_option maxHeartbeats 4000000 in
theorem rlisted_any (p : Option Addr) (T : Int → TyI) (q : Nat) (A : Option Addr) (n c : Nat) (l : List Int) (w : World) (hr : Reads w w.heap.size 1 A n (Ints .u32 l)) (hn : n ≤ 70000) (hlen : (Lib.join (l.map (textT T q)) [44]).length ≤ 140737488355328)
    (ih : ∀ id, id ∈ l → ∀ w', Below w.heap.size w w' → Calls Tryz.prog 40 #[.pointer p, .int .u32 id] w' (TextIs T q id w')) :
    Calls Tryz.prog 83 #[.pointer p, .slice A n c] w (StrIs (Lib.join (l.map (textT T q)) [44]) w) := by
  have hl := hr.len
  rw [← jn_all] at hlen ⊢
  rw [hl] at hlen ⊢
  obtain ⟨v, hv⟩ : ∃ v, v = jn (textT T q) l n := ⟨_, rfl⟩
  rw [← hv]
  have HV := Lib.hid hv
  have HR := Lib.hid hr
  have HIH := Lib.hid ih
  have HLE := Lib.hid (show ∀ k, k ≤ n → (jn (textT T q) l k).length ≤ 140737488355328 from fun k hk => by
    have := jn_le (f := textT T q) (l := l) (m := n - k) (k := k) (by omega)
    rw [show k + (n - k) = n by omega] at this
    omega)
  clear hv hr ih hlen
  go_enter Tryz.func83, Tryz.ntmps83
  go_wp2_with fail
  go_loopg [5, 6, 7, 8] n (fun qq s i u t wr => ∃ k : Nat, k + qq = n ∧ i = .int .i64 (k : Nat) ∧ s = .string (bs (jn (textT T q) l k)) ∧ Below w.heap.size w wr)
  case atStart => exact ⟨0, by omega, rfl, by rw [jn_zero]; rfl, Below.refl _ _⟩
  case round =>
    obtain ⟨k, hkq, rfl, rfl, hbr⟩ := hrel
    by_cases hlt : k < n
    · obtain ⟨b, off, rfl, hbb, hcc⟩ := (HR.out.below hbr).ints (by omega)
      have c0 := hcc k hlt
      have hlt2 : ((k : Nat) : Int) < (n : Int) := by omega
      have hmem : ix l k ∈ l := ix_mem (by omega)
      have hih := HIH.out (ix l k) hmem wr hbr
      unfold TextIs at hih
      have hle := HLE.out (k + 1) (by omega)
      by_cases h0 : k = 0
      · subst h0
        simp only [Nat.add_zero] at c0
        have hj := jn_one (f := textT T q) (l := l) (by omega)
        have HJ := Lib.hid hj
        rw [jn_zero]
        have e0 : bs ([] : List UInt8) = ⟨#[]⟩ := rfl
        rw [e0]
        rw [hj] at hle
        obtain ⟨z, hz⟩ : ∃ z, z = bs (textT T q (ix l 0)) := ⟨_, rfl⟩
        have hzs : z.size = (textT T q (ix l 0)).length := by rw [hz]; exact bs_size _
        have HZ := Lib.hid hz
        have hs1 : ¬ 9223372036854775807 < z.size := by omega
        rw [← hz] at hih
        clear hj hcc hmem hz hle hzs
        generalize kindB (T (ix l 0)).kind = kb at *
        generalize hpk : ix l 0 = pk at *
        clear hpk
        go_wp2_with fail
        refine hih.mono ?_
        rintro e w4 ⟨rfl, hb6⟩
        go_wp2_with fail
        go_roundg (n - (0 + 1))
        case measure => omega
        case rel =>
          refine ⟨0 + 1, by omega, by go_num, ?_, below_cut hbr hb6 (Nat.le_refl _)⟩
          rw [HJ.out, ← HZ.out]
          congr 1
          try (apply ByteArray.ext; simp)
      · have hk0 : 0 < k := by omega
        have dk : decide (((k : Nat) : Int) > 0) = true := by rw [decide_eq_true_eq]; omega
        have dk2 : decide (0 < k) = true := decide_eq_true hk0
        have hj := jn_step (f := textT T q) (l := l) (k := k) (by omega) hk0
        have HJ := Lib.hid hj
        rw [hj] at hle
        simp only [List.length_append, List.length_singleton] at hle
        obtain ⟨z, hz⟩ : ∃ z, z = bs (textT T q (ix l k)) := ⟨_, rfl⟩
        have hzs : z.size = (textT T q (ix l k)).length := by rw [hz]; exact bs_size _
        obtain ⟨S, hS⟩ : ∃ S, S = bs (jn (textT T q) l k) := ⟨_, rfl⟩
        have hSs : S.size = (jn (textT T q) l k).length := by rw [hS]; exact bs_size _
        rw [← hz] at hih
        rw [← hS]
        have HZ := Lib.hid hz
        have HS := Lib.hid hS
        have hs1 : ¬ 9223372036854775807 < S.size + 1 := by omega
        have hs2 : ¬ 9223372036854775807 < S.size + (1 + z.size) := by omega
        have hs3 : ¬ 9223372036854775807 < S.size + 1 + z.size := by omega
        clear hj hcc hmem hz hS hle hzs hSs h0
        generalize kindB (T (ix l k)).kind = kb at *
        generalize hpk : ix l k = pk at *
        clear hpk
        go_wp2_with fail
        refine hih.mono ?_
        rintro e w4 ⟨rfl, hb6⟩
        go_wp2_with fail
        go_roundg (n - (k + 1))
        case measure => omega
        case rel =>
          refine ⟨k + 1, by omega, by go_num, ?_, below_cut hbr hb6 (Nat.le_refl _)⟩
          rw [HJ.out, HZ.out, HS.out]
          congr 1
          try (apply ByteArray.ext; simp [bs])
    · obtain rfl : k = n := by omega
      go_wp2_with fail
      go_ret
      exact ⟨by rw [HV.out]; rfl, hbr⟩
end Go.Proofs.YtnhpjheiihiepaaGreatDoor

namespace Go.Proofs.YtnhpjheiihiepaaGreatDoor
open Go.RowKit

theorem Reads.cut_take {w : World} {B n : Nat} {A : Option Addr} {xs : List Value} (h : Reads w B 1 A n xs) {k : Nat} (hk : k ≤ n) : Reads w B 1 A k (xs.take k) := by
  refine ⟨by rw [List.length_take, h.1]; omega, fun hn => ?_⟩
  obtain ⟨ad, rfl, hb, hc⟩ := h.2 (by omega)
  refine ⟨ad, rfl, hb, fun j u hu => hc j u ?_⟩
  rw [List.getElem?_take] at hu
  split at hu
  · exact hu
  · cases hu
theorem joined_one (x : List UInt8) : Lib.join [x] [44] = x := Lib.join_one x [44]
set_option maxRecDepth 100000 in
set_option maxHeartbeats 8000000 in
theorem rtext_any (p : Option Addr) (T : Int → TyI) (ord : List Int) (hY : Typed T) (hin : ∀ id, id ∈ ord → 1 ≤ (T id).kind ∧ (T id).kind ≤ 8) (hout : ∀ id, id ∉ ord → T id = ty0) : ∀ (q : Nat) (id : Int) (w : World), RTab w p T ord → Pow w → rankT (T id) < (q : Int) →
    Calls Tryz.prog 40 #[.pointer p, .int .u32 id] w (TextIs T q id w)
  | 0, id, w, h, _, hq => absurd hq (by have := (rankT_bd hY id).1; omega)
  | q + 1, id, w, h, hP, hq => by
    have ih := rtext_any p T ord hY hin hout q
    have hf := rfind_any p T ord id w h hout
    unfold FindIs rtV at hf
    obtain ⟨v, hv⟩ : ∃ v, v = textT T (q + 1) id := ⟨_, rfl⟩
    have hvl := text_le hY (q + 1) id
    unfold TextIs
    rw [← hv] at hvl ⊢
    by_cases hio : id ∈ ord
    case neg =>
      have hd : decide (id ∈ ord) = false := decide_eq_false hio
      have h1 := hout id hio
      obtain rfl : v = [] := by rw [hv]; unfold textT; rw [h1]; rfl
      rw [hd, h1] at hf
      rw [h1]
      clear h hin hout hY ih hv hvl hio hd h1 hq hP
      unfold ty0 at hf
      dsimp only at hf
      go_enter Tryz.func40, Tryz.ntmps40
      go_wp2_with fail
      refine hf.mono ?_
      rintro e w1 ⟨i, s, rfl, -, -, hb⟩
      have hb2 := hb.alloc hb.size (.cells #[.int .u32 i, .int .u8 0, .bool false, .int .u32 0, .slice s.1 s.2.1 s.2.2] 65)
      go_wp2_with fail
      go_ret2
      exact ⟨rfl, hb2⟩
    have hd : decide (id ∈ ord) = true := decide_eq_true hio
    rw [hd] at hf
    have hk8 := hin id hio
    have hkb : kindB (T id).kind = true := kindB_in hk8
    have hrep := fun hk => textT_rep hY (id := id) hk
    have hlst := fun hk => rparts_list hY (id := id) hk
    have hrk := fun hk => rankT_part hY (id := id) hk
    have hrks := rankT_parts hY (id := id)
    have hfew := hY.rp_few id
    have htm := (hY.shape id).few
    rw [hkb]
    unfold textT at hv
    have HIH := Lib.hid (fun id' w' (hw : Below w.heap.size w w') (hr : rankT (T id') < (q : Int)) => ih id' w' (h.step hw) (hP.step hw) hr)
    have HP := Lib.hid hP
    clear h hin hout hY ih hio hd hkb hP
    generalize hx : T id = x at *
    obtain ⟨k, z, dp, sg, cl, pa, tm, ps⟩ := x
    dsimp only at *
    have HV := Lib.hid hv
    have HREP := Lib.hid hrep
    have HLST := Lib.hid hlst
    have HRK := Lib.hid hrk
    have HRKS := Lib.hid hrks
    clear hv hrep hlst hrk hrks hx
    have hkk : k = 1 ∨ k = 2 ∨ k = 3 ∨ k = 4 ∨ k = 5 ∨ k = 6 ∨ k = 7 ∨ k = 8 := by omega
    clear hk8
    rcases hkk with rfl | rfl | rfl | rfl | rfl | rfl | rfl | rfl
    · obtain rfl : v = [118, 111, 105, 100] := HV.out
      clear HV HREP HLST HRK HRKS hvl
      go_enter Tryz.func40, Tryz.ntmps40
      go_wp2_with fail
      refine hf.mono ?_
      rintro e w1 ⟨i, s, rfl, -, -, hb⟩
      have hb2 := hb.alloc hb.size (.cells #[.int .u32 i, .int .u8 1, .bool sg, .int .u32 cl, .slice s.1 s.2.1 s.2.2] 65)
      have kb := Blk.new w1 65 #[.int .u32 i, .int .u8 1, .bool sg, .int .u32 cl, .slice s.1 s.2.1 s.2.2]
      obtain ⟨z0, z1, z2, z3, z4⟩ := five_ kb
      go_wp2_with fail
      go_ret2
      exact ⟨rfl, hb2⟩
    · obtain rfl : v = [98, 111, 111, 108] := HV.out
      clear HV HREP HLST HRK HRKS hvl
      go_enter Tryz.func40, Tryz.ntmps40
      go_wp2_with fail
      refine hf.mono ?_
      rintro e w1 ⟨i, s, rfl, -, -, hb⟩
      have hb2 := hb.alloc hb.size (.cells #[.int .u32 i, .int .u8 2, .bool sg, .int .u32 cl, .slice s.1 s.2.1 s.2.2] 65)
      have kb := Blk.new w1 65 #[.int .u32 i, .int .u8 2, .bool sg, .int .u32 cl, .slice s.1 s.2.1 s.2.2]
      obtain ⟨z0, z1, z2, z3, z4⟩ := five_ kb
      go_wp2_with fail
      go_ret2
      exact ⟨rfl, hb2⟩
    · have hv : v = if sg = true then [105, 110, 116] else [117, 105, 110, 116] := HV.out
      clear HV HREP HLST HRK HRKS hvl
      cases sg with
      | true =>
        obtain rfl : v = [105, 110, 116] := hv
        go_enter Tryz.func40, Tryz.ntmps40
        go_wp2_with fail
        refine hf.mono ?_
        rintro e w1 ⟨i, s, rfl, -, -, hb⟩
        have hb2 := hb.alloc hb.size (.cells #[.int .u32 i, .int .u8 3, .bool true, .int .u32 cl, .slice s.1 s.2.1 s.2.2] 65)
        have kb := Blk.new w1 65 #[.int .u32 i, .int .u8 3, .bool true, .int .u32 cl, .slice s.1 s.2.1 s.2.2]
        obtain ⟨z0, z1, z2, z3, z4⟩ := five_ kb
        go_wp2_with fail
        go_ret2
        exact ⟨rfl, hb2⟩
      | false =>
        obtain rfl : v = [117, 105, 110, 116] := hv
        go_enter Tryz.func40, Tryz.ntmps40
        go_wp2_with fail
        refine hf.mono ?_
        rintro e w1 ⟨i, s, rfl, -, -, hb⟩
        have hb2 := hb.alloc hb.size (.cells #[.int .u32 i, .int .u8 3, .bool false, .int .u32 cl, .slice s.1 s.2.1 s.2.2] 65)
        have kb := Blk.new w1 65 #[.int .u32 i, .int .u8 3, .bool false, .int .u32 cl, .slice s.1 s.2.1 s.2.2]
        obtain ⟨z0, z1, z2, z3, z4⟩ := five_ kb
        go_wp2_with fail
        go_ret2
        exact ⟨rfl, hb2⟩
    · have hv : v = ofL ([118, 101, 99] ++ Lib.itoa tm) [textT T q pa] := HV.out
      obtain ⟨r1, r2, r3⟩ := HREP.out (.inl rfl)
      have hrk := HRK.out (.inl rfl)
      have hrq : rankT (T pa) < (q : Int) := by omega
      rw [hv] at hvl
      have HV2 := Lib.hid hv
      unfold ofL at hvl
      rw [joined_one] at hvl
      simp only [List.length_append, List.length_cons, List.length_nil] at hvl
      have HP3 := Lib.hid r3
      clear HV HREP HLST HRK HRKS hv hrk r3
      go_enter Tryz.func40, Tryz.ntmps40
      go_wp2_with fail
      refine hf.mono ?_
      rintro e w1 ⟨i, ⟨A, n, c⟩, rfl, hr, hsc, hb⟩
      have hl := hr.len
      dsimp only at *
      have hb2 := hb.alloc hb.size (.cells #[.int .u32 i, .int .u8 4, .bool sg, .int .u32 cl, .slice A n c] 65)
      have kb := Blk.new w1 65 #[.int .u32 i, .int .u8 4, .bool sg, .int .u32 cl, .slice A n c]
      have hra := ((hr.below ((Below.refl w1.heap.size w1).alloc (Nat.le_refl _) (.cells #[.int .u32 i, .int .u8 4, .bool sg, .int .u32 cl, .slice A n c] 65))).more (show w1.heap.size ≤ (w1.alloc (.cells #[.int .u32 i, .int .u8 4, .bool sg, .int .u32 cl, .slice A n c] 65)).heap.size by simp))
      rw [hl] at r1 r2
      obtain ⟨b, off, rfl, hbb, -⟩ := hra.ints (by omega)
      have htn : tm = (n : Int) := r2.symm
      subst htn
      obtain ⟨z0, z1, z2, z3, z4⟩ := five_ kb
      clear hf hr hl hb
      go_upto_region 14 with fail
      generalize (w1.alloc (.cells #[.int .u32 i, .int .u8 4, .bool sg, .int .u32 cl, .slice (some ⟨b, off, none⟩) n c] 65)) = W at *
      generalize w1.heap.size = g at *
      clear z0 z1 z2 z3
      have hra1 : Reads W W.heap.size 1 (some ⟨b, off, none⟩) 1 (Ints .u32 [pa]) := by
        have := hra.cut_take (k := 1) r1
        rw [← Ints_take, HP3.out] at this
        exact this
      have hit := fun w' (hb : Below W.heap.size W w') => itoa_any (n : Int) w' (HP.out.step (below_cut hb2 hb (Nat.le_refl _))) (by omega)
      have hls := fun w' (hb : Below W.heap.size W w') => rlisted_any p T q (some ⟨b, off, none⟩) 1 c [pa] w' ((hra1.below hb).more hb.size) (by decide) (by show (Lib.join [textT T q pa] [44]).length ≤ _; rw [joined_one]; omega) (fun id' hid w2 hw2 => by
        rw [List.mem_singleton] at hid
        subst hid
        exact HIH.out id' w2 (below_cut (below_cut hb2 hb (Nat.le_refl _)) hw2 (Nat.le_refl _)) hrq)
      have hjo : Lib.join ([pa].map (textT T q)) [44] = textT T q pa := joined_one _
      rw [hjo] at hls
      unfold StrIs at hls
      obtain ⟨Z, hZ⟩ : ∃ Z, Z = bs (textT T q pa) := ⟨_, rfl⟩
      have hZs : Z.size = (textT T q pa).length := by rw [hZ]; exact bs_size _
      rw [← hZ] at hls
      have HZ := Lib.hid hZ
      rw [← hZs] at hvl
      have hs0 : ¬ 9223372036854775807 < 3 + (Lib.itoa (n : Int)).length := by omega
      have hs1 : ¬ 9223372036854775807 < 3 + ((Lib.itoa (n : Int)).length + 1) := by omega
      have hs2 : ¬ 9223372036854775807 < 3 + ((Lib.itoa (n : Int)).length + (1 + Z.size)) := by omega
      have hs3 : ¬ 9223372036854775807 < 3 + ((Lib.itoa (n : Int)).length + (1 + (Z.size + 1))) := by omega
      have hs4 : ¬ 9223372036854775807 < 3 + (Lib.itoa (n : Int)).length + 1 := by omega
      have hs5 : ¬ 9223372036854775807 < 3 + (Lib.itoa (n : Int)).length + 1 + Z.size := by omega
      have hs6 : ¬ 9223372036854775807 < 3 + (Lib.itoa (n : Int)).length + 1 + Z.size + 1 := by omega
      have hc1 : 1 ≤ c := by omega
      have hc2 : (1 : Int) ≤ (c : Int) := by omega
      have hc0 : ¬ c = 0 := by omega
      have hS0 : H1 W ⟨g, 4, none⟩ (.slice (some ⟨b, off, none⟩) n c) W := ⟨z4, Below.refl _ _⟩
      clear hjo hZ hra hra1 hvl hZs htm hrq kb r2
      go_region_held3 (H1 W ⟨g, 4, none⟩ (.slice (some ⟨b, off, none⟩) n c)) (first | with_reducible exact hS0.drew_ | with_reducible exact H1.call (by assumption) hbq | fail) ((first | (go_at_call 79; refine (hit _ (H1.is (by assumption))).mono ?_; rintro e w' ⟨rfl, hbq⟩) | (go_at_call 83; refine (hls _ (H1.is (by assumption))).mono ?_; rintro e w' ⟨rfl, hbq⟩)))
      all_goals
        have B1 := H1.is (w1 := W) (a1 := ⟨g, 4, none⟩) (v1 := .slice (some ⟨b, off, none⟩) n c) (by assumption)
        go_wp2_with fail
        go_ret2
        refine ⟨?_, below_cut hb2 B1 (Nat.le_refl _)⟩
        rw [HV2.out]
        show Ending.returned (.tuple #[.string _, .bool true]) = _
        congr 5
        rw [HZ.out]
        apply ByteArray.ext
        simp [bs, ofL, Lib.join_one]
    · have hv : v = ofL ([97, 114, 114, 97, 121] ++ Lib.itoa tm) [textT T q pa] := HV.out
      obtain ⟨r1, r2, r3⟩ := HREP.out (.inr rfl)
      have hrk := HRK.out (.inr rfl)
      have hrq : rankT (T pa) < (q : Int) := by omega
      rw [hv] at hvl
      have HV2 := Lib.hid hv
      unfold ofL at hvl
      rw [joined_one] at hvl
      simp only [List.length_append, List.length_cons, List.length_nil] at hvl
      have HP3 := Lib.hid r3
      clear HV HREP HLST HRK HRKS hv hrk r3
      go_enter Tryz.func40, Tryz.ntmps40
      go_wp2_with fail
      refine hf.mono ?_
      rintro e w1 ⟨i, ⟨A, n, c⟩, rfl, hr, hsc, hb⟩
      have hl := hr.len
      dsimp only at *
      have hb2 := hb.alloc hb.size (.cells #[.int .u32 i, .int .u8 5, .bool sg, .int .u32 cl, .slice A n c] 65)
      have kb := Blk.new w1 65 #[.int .u32 i, .int .u8 5, .bool sg, .int .u32 cl, .slice A n c]
      have hra := ((hr.below ((Below.refl w1.heap.size w1).alloc (Nat.le_refl _) (.cells #[.int .u32 i, .int .u8 5, .bool sg, .int .u32 cl, .slice A n c] 65))).more (show w1.heap.size ≤ (w1.alloc (.cells #[.int .u32 i, .int .u8 5, .bool sg, .int .u32 cl, .slice A n c] 65)).heap.size by simp))
      rw [hl] at r1 r2
      obtain ⟨b, off, rfl, hbb, -⟩ := hra.ints (by omega)
      have htn : tm = (n : Int) := r2.symm
      subst htn
      obtain ⟨z0, z1, z2, z3, z4⟩ := five_ kb
      clear hf hr hl hb
      go_upto_region 16 with fail
      generalize (w1.alloc (.cells #[.int .u32 i, .int .u8 5, .bool sg, .int .u32 cl, .slice (some ⟨b, off, none⟩) n c] 65)) = W at *
      generalize w1.heap.size = g at *
      clear z0 z1 z2 z3
      have hra1 : Reads W W.heap.size 1 (some ⟨b, off, none⟩) 1 (Ints .u32 [pa]) := by
        have := hra.cut_take (k := 1) r1
        rw [← Ints_take, HP3.out] at this
        exact this
      have hit := fun w' (hb : Below W.heap.size W w') => itoa_any (n : Int) w' (HP.out.step (below_cut hb2 hb (Nat.le_refl _))) (by omega)
      have hls := fun w' (hb : Below W.heap.size W w') => rlisted_any p T q (some ⟨b, off, none⟩) 1 c [pa] w' ((hra1.below hb).more hb.size) (by decide) (by show (Lib.join [textT T q pa] [44]).length ≤ _; rw [joined_one]; omega) (fun id' hid w2 hw2 => by
        rw [List.mem_singleton] at hid
        subst hid
        exact HIH.out id' w2 (below_cut (below_cut hb2 hb (Nat.le_refl _)) hw2 (Nat.le_refl _)) hrq)
      have hjo : Lib.join ([pa].map (textT T q)) [44] = textT T q pa := joined_one _
      rw [hjo] at hls
      unfold StrIs at hls
      obtain ⟨Z, hZ⟩ : ∃ Z, Z = bs (textT T q pa) := ⟨_, rfl⟩
      have hZs : Z.size = (textT T q pa).length := by rw [hZ]; exact bs_size _
      rw [← hZ] at hls
      have HZ := Lib.hid hZ
      rw [← hZs] at hvl
      have hs0 : ¬ 9223372036854775807 < 5 + (Lib.itoa (n : Int)).length := by omega
      have hs1 : ¬ 9223372036854775807 < 5 + ((Lib.itoa (n : Int)).length + 1) := by omega
      have hs2 : ¬ 9223372036854775807 < 5 + ((Lib.itoa (n : Int)).length + (1 + Z.size)) := by omega
      have hs3 : ¬ 9223372036854775807 < 5 + ((Lib.itoa (n : Int)).length + (1 + (Z.size + 1))) := by omega
      have hs4 : ¬ 9223372036854775807 < 5 + (Lib.itoa (n : Int)).length + 1 := by omega
      have hs5 : ¬ 9223372036854775807 < 5 + (Lib.itoa (n : Int)).length + 1 + Z.size := by omega
      have hs6 : ¬ 9223372036854775807 < 5 + (Lib.itoa (n : Int)).length + 1 + Z.size + 1 := by omega
      have hc1 : 1 ≤ c := by omega
      have hc2 : (1 : Int) ≤ (c : Int) := by omega
      have hc0 : ¬ c = 0 := by omega
      have hS0 : H1 W ⟨g, 4, none⟩ (.slice (some ⟨b, off, none⟩) n c) W := ⟨z4, Below.refl _ _⟩
      clear hjo hZ hra hra1 hvl hZs htm hrq kb r2
      go_region_held3 (H1 W ⟨g, 4, none⟩ (.slice (some ⟨b, off, none⟩) n c)) (first | with_reducible exact hS0.drew_ | with_reducible exact H1.call (by assumption) hbq | fail) ((first | (go_at_call 79; refine (hit _ (H1.is (by assumption))).mono ?_; rintro e w' ⟨rfl, hbq⟩) | (go_at_call 83; refine (hls _ (H1.is (by assumption))).mono ?_; rintro e w' ⟨rfl, hbq⟩)))
      all_goals
        have B1 := H1.is (w1 := W) (a1 := ⟨g, 4, none⟩) (v1 := .slice (some ⟨b, off, none⟩) n c) (by assumption)
        go_wp2_with fail
        go_ret2
        refine ⟨?_, below_cut hb2 B1 (Nat.le_refl _)⟩
        rw [HV2.out]
        show Ending.returned (.tuple #[.string _, .bool true]) = _
        congr 5
        rw [HZ.out]
        apply ByteArray.ext
        simp [bs, ofL, Lib.join_one]
    · have hv : v = ofL [115, 116, 114, 117, 99, 116] (ps.map (textT T q)) := HV.out
      have hrp := HLST.out ⟨by decide, by decide⟩
      have hrks := HRKS.out
      rw [hv] at hvl
      have HV2 := Lib.hid hv
      have hrq : ∀ id' ∈ ps, rankT (T id') < (q : Int) := fun id' hid => by have := hrks id' hid; omega
      unfold ofL at hvl
      simp only [List.length_append, List.length_cons, List.length_nil] at hvl
      have HRP := Lib.hid hrp
      clear HV HREP HLST HRK HRKS hv hrks hrp
      go_enter Tryz.func40, Tryz.ntmps40
      go_wp2_with fail
      refine hf.mono ?_
      rintro e w1 ⟨i, ⟨A, n, c⟩, rfl, hr, hsc, hb⟩
      rw [HRP.out] at hr hfew
      have hl := hr.len
      dsimp only at *
      have hb2 := hb.alloc hb.size (.cells #[.int .u32 i, .int .u8 6, .bool sg, .int .u32 cl, .slice A n c] 65)
      have kb := Blk.new w1 65 #[.int .u32 i, .int .u8 6, .bool sg, .int .u32 cl, .slice A n c]
      have hra := ((hr.below ((Below.refl w1.heap.size w1).alloc (Nat.le_refl _) (.cells #[.int .u32 i, .int .u8 6, .bool sg, .int .u32 cl, .slice A n c] 65))).more (show w1.heap.size ≤ (w1.alloc (.cells #[.int .u32 i, .int .u8 6, .bool sg, .int .u32 cl, .slice A n c] 65)).heap.size by simp))
      have hls := rlisted_any p T q A n c ps _ hra (by omega) (by omega) (fun id' hid w2 hw2 => HIH.out id' w2 (below_cut hb2 hw2 (Nat.le_refl _)) (hrq id' hid))
      unfold StrIs at hls
      obtain ⟨J, hJ⟩ : ∃ J, J = Lib.join (ps.map (textT T q)) [44] := ⟨_, rfl⟩
      rw [← hJ] at hls hvl
      obtain ⟨Z, hZ⟩ : ∃ Z, Z = bs J := ⟨_, rfl⟩
      have hZs : Z.size = J.length := by rw [hZ]; exact bs_size _
      rw [← hZ] at hls
      have HZ := Lib.hid hZ
      have HJ := Lib.hid hJ
      have hs0 : ¬ 9223372036854775807 < 7 + Z.size := by omega
      have hs1 : ¬ 9223372036854775807 < 7 + (Z.size + 1) := by omega
      have hs2 : ¬ 9223372036854775807 < 7 + Z.size + 1 := by omega
      obtain ⟨z0, z1, z2, z3, z4⟩ := five_ kb
      clear hf hr hl hb hra hJ hZ hvl hZs htm hrq hfew
      go_wp2_with fail
      refine hls.mono ?_
      rintro e w' ⟨rfl, hbq⟩
      go_wp2_with fail
      go_ret2
      refine ⟨?_, below_cut hb2 hbq (Nat.le_refl _)⟩
      rw [HV2.out]
      show Ending.returned (.tuple #[.string _, .bool true]) = _
      congr 5
      rw [HZ.out]
      unfold ofL
      rw [← HJ.out]
      apply ByteArray.ext
      simp [bs]
    · have hv : v = ofL (enumN 99 cl) (ps.map (textT T q)) := HV.out
      have hrp := HLST.out ⟨by decide, by decide⟩
      have hrks := HRKS.out
      rw [hv] at hvl
      have HV2 := Lib.hid hv
      have hrq : ∀ id' ∈ ps, rankT (T id') < (q : Int) := fun id' hid => by have := hrks id' hid; omega
      unfold ofL at hvl
      simp only [List.length_append, List.length_cons, List.length_nil] at hvl
      have HRP := Lib.hid hrp
      clear HV HREP HLST HRK HRKS hv hrks hrp
      go_enter Tryz.func40, Tryz.ntmps40
      go_wp2_with fail
      refine hf.mono ?_
      rintro e w1 ⟨i, ⟨A, n, c⟩, rfl, hr, hsc, hb⟩
      rw [HRP.out] at hr hfew
      have hl := hr.len
      dsimp only at *
      have hb2 := hb.alloc hb.size (.cells #[.int .u32 i, .int .u8 7, .bool sg, .int .u32 cl, .slice A n c] 65)
      have kb := Blk.new w1 65 #[.int .u32 i, .int .u8 7, .bool sg, .int .u32 cl, .slice A n c]
      have hra := ((hr.below ((Below.refl w1.heap.size w1).alloc (Nat.le_refl _) (.cells #[.int .u32 i, .int .u8 7, .bool sg, .int .u32 cl, .slice A n c] 65))).more (show w1.heap.size ≤ (w1.alloc (.cells #[.int .u32 i, .int .u8 7, .bool sg, .int .u32 cl, .slice A n c] 65)).heap.size by simp))
      have hls := fun w' (hbw : Below w.heap.size w w') (hrw : Reads w' w'.heap.size 1 A n (Ints .u32 ps)) => rlisted_any p T q A n c ps w' hrw (by omega) (by omega) (fun id' hid w2 hw2 => HIH.out id' w2 (below_cut hbw hw2 (Nat.le_refl _)) (hrq id' hid))
      have hen := refEnum_any 99 cl (w1.alloc (.cells #[.int .u32 i, .int .u8 7, .bool sg, .int .u32 cl, .slice A n c] 65))
      unfold StrIs at hls
      obtain ⟨J, hJ⟩ : ∃ J, J = Lib.join (ps.map (textT T q)) [44] := ⟨_, rfl⟩
      rw [← hJ] at hls hvl
      obtain ⟨Z, hZ⟩ : ∃ Z, Z = bs J := ⟨_, rfl⟩
      have hZs : Z.size = J.length := by rw [hZ]; exact bs_size _
      obtain ⟨N, hN⟩ : ∃ N, N = bs (enumN 99 cl) := ⟨_, rfl⟩
      have hNs : N.size = (enumN 99 cl).length := by rw [hN]; exact bs_size _
      rw [← hZ] at hls
      rw [← hN] at hen
      rw [← hZs, ← hNs] at hvl
      have HZ := Lib.hid hZ
      have HJ := Lib.hid hJ
      have HN := Lib.hid hN
      have hs0 : ¬ 9223372036854775807 < N.size + 1 := by omega
      have hs1 : ¬ 9223372036854775807 < N.size + (1 + Z.size) := by omega
      have hs2 : ¬ 9223372036854775807 < N.size + (1 + (Z.size + 1)) := by omega
      have hs3 : ¬ 9223372036854775807 < N.size + 1 + Z.size := by omega
      have hs4 : ¬ 9223372036854775807 < N.size + 1 + Z.size + 1 := by omega
      obtain ⟨z0, z1, z2, z3, z4⟩ := five_ kb
      have HLS := Lib.hid hls
      have HRA := Lib.hid hra
      clear hf hr hl hb hra hJ hZ hN hvl hZs hNs htm hrq hfew hls
      go_wp2_with fail
      generalize (w1.alloc (.cells #[.int .u32 i, .int .u8 7, .bool sg, .int .u32 cl, .slice A n c] 65)) = W at *
      refine hen.mono ?_
      rintro e w4 ⟨rfl, hb6⟩
      have hb7 := below_cut hb2 hb6 (Nat.le_refl _)
      have hls4 := HLS.out w4 hb7 ((HRA.out.below hb6).more hb6.size)
      clear z0 z1 z2 z3 z4
      obtain ⟨z0, z1, z2, z3, z4⟩ := five_ (kb.step hb6)
      go_wp2_with fail
      refine hls4.mono ?_
      rintro e w' ⟨rfl, hbq⟩
      go_wp2_with fail
      go_ret2
      refine ⟨?_, below_cut hb7 hbq (Nat.le_refl _)⟩
      rw [HV2.out]
      show Ending.returned (.tuple #[.string _, .bool true]) = _
      congr 5
      rw [HZ.out, HN.out]
      unfold ofL
      rw [← HJ.out]
      apply ByteArray.ext
      simp [bs]
    · have hv : v = ofL [102, 110] (ps.map (textT T q)) := HV.out
      have hrp := HLST.out ⟨by decide, by decide⟩
      have hrks := HRKS.out
      rw [hv] at hvl
      have HV2 := Lib.hid hv
      have hrq : ∀ id' ∈ ps, rankT (T id') < (q : Int) := fun id' hid => by have := hrks id' hid; omega
      unfold ofL at hvl
      simp only [List.length_append, List.length_cons, List.length_nil] at hvl
      have HRP := Lib.hid hrp
      clear HV HREP HLST HRK HRKS hv hrks hrp
      go_enter Tryz.func40, Tryz.ntmps40
      go_wp2_with fail
      refine hf.mono ?_
      rintro e w1 ⟨i, ⟨A, n, c⟩, rfl, hr, hsc, hb⟩
      rw [HRP.out] at hr hfew
      have hl := hr.len
      dsimp only at *
      have hb2 := hb.alloc hb.size (.cells #[.int .u32 i, .int .u8 8, .bool sg, .int .u32 cl, .slice A n c] 65)
      have kb := Blk.new w1 65 #[.int .u32 i, .int .u8 8, .bool sg, .int .u32 cl, .slice A n c]
      have hra := ((hr.below ((Below.refl w1.heap.size w1).alloc (Nat.le_refl _) (.cells #[.int .u32 i, .int .u8 8, .bool sg, .int .u32 cl, .slice A n c] 65))).more (show w1.heap.size ≤ (w1.alloc (.cells #[.int .u32 i, .int .u8 8, .bool sg, .int .u32 cl, .slice A n c] 65)).heap.size by simp))
      have hls := rlisted_any p T q A n c ps _ hra (by omega) (by omega) (fun id' hid w2 hw2 => HIH.out id' w2 (below_cut hb2 hw2 (Nat.le_refl _)) (hrq id' hid))
      unfold StrIs at hls
      obtain ⟨J, hJ⟩ : ∃ J, J = Lib.join (ps.map (textT T q)) [44] := ⟨_, rfl⟩
      rw [← hJ] at hls hvl
      obtain ⟨Z, hZ⟩ : ∃ Z, Z = bs J := ⟨_, rfl⟩
      have hZs : Z.size = J.length := by rw [hZ]; exact bs_size _
      rw [← hZ] at hls
      have HZ := Lib.hid hZ
      have HJ := Lib.hid hJ
      have hs0 : ¬ 9223372036854775807 < 3 + Z.size := by omega
      have hs1 : ¬ 9223372036854775807 < 3 + (Z.size + 1) := by omega
      have hs2 : ¬ 9223372036854775807 < 3 + Z.size + 1 := by omega
      obtain ⟨z0, z1, z2, z3, z4⟩ := five_ kb
      clear hf hr hl hb hra hJ hZ hvl hZs htm hrq hfew
      go_wp2_with fail
      refine hls.mono ?_
      rintro e w' ⟨rfl, hbq⟩
      go_wp2_with fail
      go_ret2
      refine ⟨?_, below_cut hb2 hbq (Nat.le_refl _)⟩
      rw [HV2.out]
      show Ending.returned (.tuple #[.string _, .bool true]) = _
      congr 5
      rw [HZ.out]
      unfold ofL
      rw [← HJ.out]
      apply ByteArray.ext
      simp [bs]
end Go.Proofs.YtnhpjheiihiepaaGreatDoor

namespace Go.Proofs.YtnhpjheiihiepaaGreatDoor
open Go.RowKit

theorem eg_ids {es : List RtE} {ord : List Int} (h : es.map (·.1) = ord) {k : Nat} (hk : k < es.length) : ord.take (k + 1) = ord.take k ++ [(eg es k).1] := by
  subst h
  rw [List.take_succ_eq_append_getElem (by rw [List.length_map]; exact hk), List.getElem_map, eg_of hk]
set_option maxRecDepth 100000 in
set_option maxHeartbeats 2000000 in
theorem rids_any (p : Option Addr) (T : Int → TyI) (ord : List Int) (w : World) (h : RTab w p T ord) :
    Calls Tryz.prog 14 #[.pointer p] w (WordsIs ord w) := by
  rcases h with ⟨rfl, rfl⟩ | ⟨g, A, n, c, es, rfl, hA⟩
  · go_enter Tryz.func14, Tryz.ntmps14
    go_wp2_with fail
    go_ret
    exact ⟨none, 0, rfl, World.ownsRow_nil _ _ _ _, Below.refl _ _⟩
  · obtain ⟨hc, hr, ho, hn, -⟩ := hA
    have hlen := hr.rts_len
    have hlo : ord.length = n := by rw [← ho, List.length_map]; exact hlen
    have hgl := World.block_lt_of_cell? w _ hc
    simp only at hgl
    have HR := Lib.hid hr
    have HO := Lib.hid ho
    have HLO := Lib.hid hlo
    clear hr ho hlo
    go_enter Tryz.func14, Tryz.ntmps14
    go_wp2_with fail
    go_loopg [3, 4] n (fun q u i wr => ∃ (k : Nat) (A' : Option Addr) (c' : Nat), k + q = n ∧ i = .int .i64 (k : Nat) ∧ u = .slice A' k c' ∧ wr.ownsRow w.heap.size 22 1 (.slice A' k c') k (Ints .u32 (ord.take k)) ∧ Below w.heap.size w wr)
    case atStart => exact ⟨0, none, 0, by omega, rfl, rfl, World.ownsRow_nil _ _ _ _, Below.refl _ _⟩
    case round =>
      obtain ⟨k, A', c', hq, rfl, rfl, hor, hbr⟩ := hrel
      have c1 := (hbr.cell (p := ⟨g, 0, none⟩) hgl).trans hc
      by_cases hlt : k < n
      · obtain ⟨b, off, rfl, hbb, hcc⟩ := (HR.out.below hbr).rts (by omega)
        obtain ⟨x0, -⟩ := hcc k hlt
        have htk := eg_ids HO.out (k := k) (by omega)
        generalize (eg es k).1 = x at *
        have HT := Lib.hid htk
        have hsz := hbr.size
        clear hcc htk
        go_wp2_with (at_builtin; refine ap_one sl32 _ rfl _ _ rfl w.heap.size _ _ _ rfl hor _ _ rfl rfl (by omega) (by omega) hsz ?_; intro v' w5 ho5 hgr5 _; obtain ⟨A3, c3, rfl⟩ := own_shape ho5; have hb8 := (hbr.alloc hbr.size (.cells #[.int .u32 x] 22)).grown hgr5 (by simp; omega) (fun j hj => (hor.lt j hj).1); have HO5 := Lib.hid ho5; clear ho5)
        go_roundg (n - (k + 1))
        case measure => omega
        case rel => exact ⟨k + 1, A3, c3, by omega, by go_num, rfl, by rw [HT.out, Ints_append]; exact HO5.out, hb8⟩
      · obtain rfl : k = n := by omega
        have hta : ord.take k = ord := by rw [← HLO.out]; exact List.take_length
        rw [hta] at hor
        have HOR := Lib.hid hor
        have HM := Lib.hid HLO.out.symm
        clear hor hta
        go_wp2_with fail
        go_ret
        refine ⟨A', c', by rw [← HM.out]; rfl, ?_, hbr⟩
        rw [← HM.out]
        exact HOR.out

end Go.Proofs.YtnhpjheiihiepaaGreatDoor
