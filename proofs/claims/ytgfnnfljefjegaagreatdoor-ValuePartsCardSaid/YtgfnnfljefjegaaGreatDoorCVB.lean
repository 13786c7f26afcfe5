/- Walks: a value's text is read: Atoi, blanks, sign. Walks: a value's text is read: a truth. (printed by wip/tools/genvlread.py). -/
import Derived.BigQuiet
import Derived.Lib.Bytes2
import Derived.Deep.DeepCutAuto
import Derived.Deep.RegionLaw
import Derived.Test.YtgfnnfljefjegaaGreatDoorCTB
import Derived.Test.YtgfnnfljefjegaaGreatDoorCTF
import Derived.Test.YtgfnnfljefjegaaGreatDoorCTG
import Derived.Test.YtgfnnfljefjegaaGreatDoorCUL
import Derived.Test.YtgfnnfljefjegaaGreatDoorCVA
namespace Go.Proofs.YtgfnnfljefjegaaGreatDoor
open Go.RowKit

/-- the two errors of strconv lie where the program keeps them -/
def Errs (w : World) : Prop := (∃ tp p, w.var? Tryz.prog "strconv.ErrSyntax" = some #[.iface tp p]) ∧ (∃ tp p, w.var? Tryz.prog "strconv.ErrRange" = some #[.iface tp p])
theorem var_lt {w : World} {n : String} {g : Nat} {cs : Array Value} (hg : Tryz.prog.globalNamed n = some g) (h : w.var? Tryz.prog n = some cs) : g < w.heap.size := by
  rcases Nat.lt_or_ge g w.heap.size with hl | hl
  · exact hl
  · exfalso
    have e : w.heap[g]? = none := by simp [hl]
    simp [World.var?, hg, e] at h
theorem Errs.step {w w' : World} (h : Errs w) (hb : Below w.heap.size w w') : Errs w' := by
  obtain ⟨⟨tp, p, h1⟩, ⟨tp', p', h2⟩⟩ := h
  have g1 : ∃ g, Tryz.prog.globalNamed "strconv.ErrSyntax" = some g := Option.isSome_iff_exists.1 (by kernel_rfl)
  have g2 : ∃ g, Tryz.prog.globalNamed "strconv.ErrRange" = some g := Option.isSome_iff_exists.1 (by kernel_rfl)
  obtain ⟨g, hg⟩ := g1
  obtain ⟨g', hg'⟩ := g2
  exact ⟨⟨tp, p, var?_below hb hg (var_lt hg h1) h1⟩, ⟨tp', p', var?_below hb hg' (var_lt hg' h2) h2⟩⟩
theorem atoi_ok (s : ByteArray) (hs : s.size ≤ 140737488351232) (v : Int) (h : Lib.atoiAll s.data.toList = .ok v) (w : World) :
    Calls Tryz.prog 65 #[.string s] w fun e w' => e = .returned (.tuple #[.int .i64 v, .nilIface]) ∧ Below w.heap.size w w' := by
  refine (Tryz.strconv_Atoi_ok s (by omega) v h w).mono ?_
  rintro e w' ⟨rfl, rfl | ⟨t, rfl⟩⟩
  · exact ⟨rfl, Below.refl _ _⟩
  · exact ⟨rfl, Lib.bytesWorld_below _ _ _⟩
theorem atoi_bad (s : ByteArray) (hs : s.size ≤ 140737488351232) (h : ∀ v, Lib.atoiAll s.data.toList ≠ .ok v) (w : World) (hE : Errs w) :
    Calls Tryz.prog 65 #[.string s] w fun e w' => ∃ x tp N, e = .returned (.tuple #[.int .i64 x, .iface tp (.pointer (some ⟨N, 0, none⟩))]) ∧ Below w.heap.size w w' := by
  obtain ⟨⟨tp, p, h1⟩, ⟨tp', p', h2⟩⟩ := hE
  cases he : Lib.atoiAll s.data.toList with
  | ok v => exact absurd he (h v)
  | «syntax» =>
    refine (Tryz.strconv_Atoi_syntax_var s (by omega) he tp p w h1).mono ?_
    rintro e w' ⟨N, rfl, -, -, hb⟩
    exact ⟨_, _, N, rfl, hb⟩
  | range =>
    refine (Tryz.strconv_Atoi_range_var s (by omega) he tp' p' w h2).mono ?_
    rintro e w' ⟨N, rfl, -, -, hb⟩
    exact ⟨_, _, N, rfl, hb⟩
/-- a reader under way -/
structure RdS (w0 w : World) (g : Nat) (p : Option Addr) (s : ByteArray) (a : Nat) (ws : List Int) : Prop where
  blk : ∃ A c, Blk w g 82 #[.pointer p, .string s, .int .i64 (a : Nat), .slice A ws.length c] ∧ w.ownsRow w0.heap.size 22 1 (.slice A ws.length c) ws.length (Ints .u32 ws)
  low : w0.heap.size ≤ g
  at_ : a ≤ s.size
  few : s.size ≤ 140737488351232
  below : Below w0.heap.size w0 w
section
variable {w0 w w' : World} {g : Nat} {p : Option Addr} {s : ByteArray} {a : Nat} {ws : List Int}
theorem RdS.step (h : RdS w0 w g p s a ws) (hb : Below w.heap.size w w') : RdS w0 w' g p s a ws := by
  obtain ⟨A, c, h1, h2⟩ := h.blk
  exact ⟨⟨A, c, h1.step hb, own_below h2 hb⟩, h.low, h.at_, h.few, below_cut h.below hb (Nat.le_refl _)⟩
theorem RdS.move (h : RdS w0 w g p s a ws) {a' : Nat} (ha : a' ≤ s.size) : RdS w0 (w.setCell ⟨g, 2, none⟩ (.int .i64 (a' : Nat))) g p s a' ws := by
  obtain ⟨A, c, h1, h2⟩ := h.blk
  exact ⟨⟨A, c, by simpa using h1.set_ 2 (.int .i64 (a' : Nat)), own_set_other h2 (p := ⟨g, 2, none⟩) (own_blk_ne h2 h1 (by decide)) _⟩, h.low, ha, h.few, h.below.setCell (p := ⟨g, 2, none⟩) h.low _⟩
theorem RdS.moveI (h : RdS w0 w g p s a ws) {a' : Nat} {v : Int} (hv : v = (a' : Nat)) (ha : a' ≤ s.size) : RdS w0 (w.setCell ⟨g, 2, none⟩ (.int .i64 v)) g p s a' ws := by
  subst hv
  exact h.move ha
end
theorem ba_drop (s : ByteArray) (k : Nat) (h : k < s.size) : s.data.toList.drop k = s[k] :: s.data.toList.drop (k + 1) := by
  have hl : k < s.data.toList.length := by simpa using h
  rw [List.drop_eq_getElem_cons hl]
  rfl
set_option maxRecDepth 100000 in
set_option maxHeartbeats 4000000 in
theorem blanks_any (w0 w : World) (g : Nat) (p : Option Addr) (s : ByteArray) (a : Nat) (ws : List Int) (h : RdS w0 w g p s a ws) :
    Calls Tryz.prog 30 #[.pointer (some ⟨g, 0, none⟩)] w fun e w' => e = .returned (.tuple #[]) ∧ ∃ a', RdS w0 w' g p s a' ws ∧ s.data.toList.drop a' = blanksL (s.data.toList.drop a) := by
  have hfew := h.few
  go_enter Tryz.func30, Tryz.ntmps30
  go_wp2_with fail
  go_loopg [] (s.size - a) (fun q wr => ∃ k : Nat, k + q = s.size ∧ RdS w0 wr g p s k ws ∧ Hid (blanksL (s.data.toList.drop k) = blanksL (s.data.toList.drop a)))
  case atStart => exact ⟨a, by have := h.at_; omega, h, Lib.hid rfl⟩
  case round =>
    obtain ⟨k, hq, hr, HB⟩ := hrel
    obtain ⟨A, c, hk, -⟩ := hr.blk
    obtain ⟨z0, z1, z2, z3⟩ := four_ hk
    by_cases hlt : k < s.size
    · have hd := ba_drop s k hlt
      have hi1 : ((k : Nat) : Int) < (s.size : Nat) := by omega
      have d1 : decide (((k : Nat) : Int) < (s.size : Nat)) = true := by rw [decide_eq_true_eq]; omega
      obtain ⟨x, hx⟩ : ∃ x, x = s[k] := ⟨_, rfl⟩
      by_cases h32 : x = 32
      · have e32 : ((s[k].toNat : Int) == 32) = true := by rw [← hx, h32]; rfl
        have HB2 : Hid (blanksL (s.data.toList.drop (k + 1)) = blanksL (s.data.toList.drop a)) := Lib.hid (by
          rw [← HB.out, hd, ← hx, h32]
          unfold blanksL
          rw [List.dropWhile_cons]
          rfl)
        have hr2 := fun nq => (hr.step (below_drewN (Below.refl wr.heap.size wr) nq)).moveI (a' := k + 1) (v := ((k : Nat) : Int) + 1) (by omega) (by omega)
        have fz := hk.frozen 2
        clear hx hd
        go_upto_region 0 with fail
        go_quiet (fail)
        go_wp2_with fail
        go_roundg (s.size - (k + 1))
        case measure => omega
        case rel => exact ⟨k + 1, by omega, hr2 _, HB2⟩
      · have e32 : ((s[k].toNat : Int) == 32) = false := by
          rw [← hx]
          simp only [beq_eq_false_iff_ne, ne_eq]
          intro e
          exact h32 (UInt8.toNat_inj.1 (by have h9 : (UInt8.toNat 32) = 32 := rfl; omega))
        have HB2 : Hid (s.data.toList.drop k = blanksL (s.data.toList.drop a)) := Lib.hid (by
          rw [← HB.out, hd, ← hx]
          unfold blanksL
          rw [List.dropWhile_cons]
          simp [h32])
        clear hx hd
        go_upto_region 0 with fail
        go_quiet (fail)
        go_wp2_with fail
        go_end0
        exact ⟨rfl, k, hr.step (below_drewN (Below.refl wr.heap.size wr) _), HB2.out⟩
    · have d1 : decide (((k : Nat) : Int) < (s.size : Nat)) = false := by rw [decide_eq_false_iff_not]; omega
      have HB2 : Hid (s.data.toList.drop k = blanksL (s.data.toList.drop a)) := Lib.hid (by
        rw [← HB.out, List.drop_of_length_le (by simp; omega)]
        rfl)
      go_upto_region 0 with fail
      go_quiet (fail)
      go_wp2_with fail
      go_end0
      exact ⟨rfl, k, hr.step (below_drewN (Below.refl wr.heap.size wr) _), HB2.out⟩
theorem ext_drop (s : ByteArray) (k : Nat) : (s.extract k s.size).data.toList = s.data.toList.drop k := by
  rw [Lib.extract_data]
  rw [List.take_of_length_le (by simp)]
/-- what sign answers -/
def SignIs (w0 : World) (g : Nat) (p : Option Addr) (s : ByteArray) (a : Nat) (ws : List Int) (sg : List UInt8) (e : Ending) (w' : World) : Prop :=
  ∃ a', RdS w0 w' g p s a' ws ∧ ((e = .returned (.bool true) ∧ signR sg (s.data.toList.drop a) = some (s.data.toList.drop a')) ∨ (e = .returned (.bool false) ∧ signR sg (s.data.toList.drop a) = none ∧ s.data.toList.drop a' = blanksL (s.data.toList.drop a)))
set_option maxRecDepth 100000 in
set_option maxHeartbeats 4000000 in
theorem sign_any (w0 w : World) (g : Nat) (p : Option Addr) (s : ByteArray) (a : Nat) (ws : List Int) (sg : ByteArray) (h : RdS w0 w g p s a ws) (hsg : sg.size ≤ 100) :
    Calls Tryz.prog 63 #[.pointer (some ⟨g, 0, none⟩), .string sg] w (SignIs w0 g p s a ws sg.data.toList) := by
  have hfew := h.few
  have hbk := blanks_any w0 w g p s a ws h
  clear h
  go_enter Tryz.func63, Tryz.ntmps63
  go_wp2_with fail
  refine hbk.mono ?_
  rintro e w1 ⟨rfl, a1, hr, hda⟩
  have HD := Lib.hid hda
  clear hbk hda
  have ha1 := hr.at_
  obtain ⟨A, c, hk, -⟩ := hr.blk
  obtain ⟨z0, z1, z2, z3⟩ := four_ hk
  have hi0 : ((a1 : Nat) : Int) ≤ (s.size : Nat) := by omega
  go_upto_region 2 with fail
  refine wp_region_tail 10 (by kernel_rfl) (by kernel_rfl) ?_
  simp only [List.take_succ_cons, List.take_zero, List.drop_succ_cons, List.drop_zero]
  repeat (go_big_quiet_step (fail))
  refine wpQuiet_nil ?_
  have hrd := hr.step (Below.refl w1.heap.size w1).drew
  obtain ⟨x, hx⟩ : ∃ x, x = s.extract a1 s.size := ⟨_, rfl⟩
  have hxl : x.data.toList = s.data.toList.drop a1 := by rw [hx, ext_drop]
  rw [← hx]
  have hpf := Tryz.strings_HasPrefix x sg w1.drew
  rw [hxl] at hpf
  have HX := Lib.hid hxl
  clear hx hxl z0 z1 z2 z3 hk hr
  generalize w1.drew = W at *
  by_cases hp : Lib.hasPrefix (s.data.toList.drop a1) sg.data.toList = true
  · rw [hp] at hpf
    have hle := Lib.hasPrefix_le hp
    have hsz : sg.data.toList.length = sg.size := by simp
    have hsz2 : s.data.toList.length = s.size := by simp
    rw [List.length_drop] at hle
    have hs : Hid (signR sg.data.toList (s.data.toList.drop a) = some (s.data.toList.drop (a1 + sg.size))) := Lib.hid (by
      unfold signR
      rw [← HD.out]
      unfold Lib.hasPrefix at hp
      rw [if_pos hp, List.drop_drop, hsz])
    have hr2 := hrd.move (a' := a1 + sg.size) (by omega)
    obtain ⟨A2, c2, hk2, -⟩ := hrd.blk
    obtain ⟨y0, y1, y2, y3⟩ := four_ hk2
    have fz := hk2.frozen 2
    have hw : IntKind.i64.wrap (((a1 : Nat) : Int) + (sg.size : Nat)) = ((a1 + sg.size : Nat) : Int) := by
      rw [IntWalk.i64_in _ (by omega)]
      omega
    have HR2 := Lib.hid hr2
    clear hp hle hr2 hrd hk2
    go_wp2_with fail
    refine hpf.mono ?_
    rintro e w2 ⟨rfl, rfl⟩
    clear hpf
    go_wp2_with fail
    go_ret
    exact ⟨a1 + sg.size, HR2.out, .inl ⟨rfl, hs.out⟩⟩
  · have hp2 : Lib.hasPrefix (s.data.toList.drop a1) sg.data.toList = false := by simpa using hp
    rw [hp2] at hpf
    have hs : Hid (signR sg.data.toList (s.data.toList.drop a) = none) := Lib.hid (by
      unfold signR
      rw [← HD.out]
      unfold Lib.hasPrefix at hp
      rw [if_neg hp])
    clear hp hp2
    go_wp2_with fail
    refine hpf.mono ?_
    rintro e w2 ⟨rfl, rfl⟩
    clear hpf
    go_wp2_with fail
    go_ret
    exact ⟨a1, hrd, .inr ⟨rfl, hs.out, HD.out⟩⟩
end Go.Proofs.YtgfnnfljefjegaaGreatDoor

namespace Go.Proofs.YtgfnnfljefjegaaGreatDoor
open Go.RowKit

theorem RdS.push {w0 w1 w2 : World} {g : Nat} {p : Option Addr} {s : ByteArray} {a : Nat} {ws : List Int} {v : Int} {A' : Option Addr} {c c' : Nat} {A : Option Addr} (h : RdS w0 w1 g p s a ws) (k2 : Blk w2 g 82 #[.pointer p, .string s, .int .i64 (a : Nat), .slice A ws.length c])
    (ho : w2.ownsRow w0.heap.size 22 1 (.slice A' (ws.length + 1) c') (ws.length + 1) (Ints .u32 ws ++ [.int .u32 v])) (hb : Below w0.heap.size w0 w2) : RdS w0 (w2.setCell ⟨g, 3, none⟩ (.slice A' (ws.length + 1) c')) g p s a (ws ++ [v]) := by
  refine ⟨⟨A', c', ?_, ?_⟩, h.low, h.at_, h.few, hb.setCell (p := ⟨g, 3, none⟩) h.low _⟩
  · rw [List.length_append]
    simpa using k2.set_ 3 (.slice A' (ws.length + 1) c')
  · rw [List.length_append, Ints_append]
    exact own_set_other ho (p := ⟨g, 3, none⟩) (own_blk_ne ho k2 (by decide)) _
/-- what a part of the reader answers -/
def RdIs (w0 : World) (g : Nat) (p : Option Addr) (s : ByteArray) (ws : List Int) (R : List UInt8 × Option (List Int)) (e : Ending) (w' : World) : Prop :=
  ∃ a' ws' ok, e = .returned (.bool ok) ∧ RdS w0 w' g p s a' ws' ∧ s.data.toList.drop a' = R.1 ∧ ((ok = true ∧ ∃ vs, R.2 = some vs ∧ ws' = ws ++ vs) ∨ (ok = false ∧ R.2 = none))
def truthR (l : List UInt8) : List UInt8 × Option (List Int) :=
  match signR trueB l with
  | some r => (r, some [1])
  | none => match signR falseB l with
    | some r => (r, some [0])
    | none => (blanksL l, none)
set_option maxRecDepth 100000 in
set_option maxHeartbeats 4000000 in
theorem truth_any (w0 w : World) (g : Nat) (p : Option Addr) (s : ByteArray) (a : Nat) (ws : List Int) (ty : Int) (h : RdS w0 w g p s a ws) (hl : ws.length ≤ 8796093022208) :
    Calls Tryz.prog 52 #[.pointer (some ⟨g, 0, none⟩), .int .u32 ty] w (RdIs w0 g p s ws (truthR (s.data.toList.drop a))) := by
  have h1 := sign_any w0 w g p s a ws ⟨#[116, 114, 117, 101]⟩ h (by decide)
  obtain ⟨R, hR⟩ : ∃ R, R = truthR (s.data.toList.drop a) := ⟨_, rfl⟩
  rw [← hR]
  have HR := Lib.hid hR
  clear hR h
  go_enter Tryz.func52, Tryz.ntmps52
  go_wp2_with fail
  refine h1.mono ?_
  rintro e w1 ⟨a1, hr, ⟨rfl, hs⟩ | ⟨rfl, hs, hd⟩⟩
  · have HS := Lib.hid (show R = (s.data.toList.drop a1, some [1]) by rw [HR.out]; unfold truthR; rw [show signR trueB _ = some _ from hs])
    clear hs h1
    obtain ⟨A, c, hk, ho⟩ := hr.blk
    obtain ⟨z0, z1, z2, z3⟩ := four_ hk
    have fz := hk.frozen
    have hB := hr.below.size
    have hne := Ne.symm (own_blk_ne ho hk (by decide))
    go_wp2_with (at_builtin; refine ap_one sl32 _ rfl _ _ rfl w0.heap.size _ _ _ rfl ho _ _ rfl rfl (by omega) (by omega) hB ?_; intro v' w2 ho2 hgr2 _; obtain ⟨A', c', rfl⟩ := own_shape ho2; have k2 := (hk.alloc (.cells #[.int .u32 1] 22)).grown hgr2 hne; have hb2 := (hr.below.alloc hB (.cells #[.int .u32 1] 22)).grown hgr2 (by simp; omega) (fun j hj => (ho.lt j hj).1); obtain ⟨y0, y1, y2, y3⟩ := four_ k2; have fz2 := k2.frozen; have HP := Lib.hid (RdS.push (v := 1) hr k2 ho2 hb2); clear hgr2 hne)
    go_ret
    exact ⟨_, _, true, rfl, HP.out, by rw [HS.out], .inl ⟨rfl, _, by rw [HS.out], rfl⟩⟩
  · have h2 := sign_any w0 w1 g p s a1 ws ⟨#[102, 97, 108, 115, 101]⟩ hr (by decide)
    have HS0 := Lib.hid (show signR trueB (s.data.toList.drop a) = none from hs)
    have HD := Lib.hid hd
    clear hs hd h1 hr
    go_wp2_with fail
    refine h2.mono ?_
    rintro e w2 ⟨a2, hr, ⟨rfl, hs⟩ | ⟨rfl, hs, hd⟩⟩
    · have HS := Lib.hid (show R = (s.data.toList.drop a2, some [0]) by
        have e2 : signR falseB (s.data.toList.drop a) = some (s.data.toList.drop a2) := by
          rw [HD.out] at hs
          rw [← signR_blanks]
          exact hs
        rw [HR.out]
        unfold truthR
        rw [HS0.out]
        simp only
        rw [e2])
      clear hs h2
      obtain ⟨A, c, hk, ho⟩ := hr.blk
      obtain ⟨z0, z1, z2, z3⟩ := four_ hk
      have fz := hk.frozen
      have hB := hr.below.size
      have hne := Ne.symm (own_blk_ne ho hk (by decide))
      go_wp2_with (at_builtin; refine ap_one sl32 _ rfl _ _ rfl w0.heap.size _ _ _ rfl ho _ _ rfl rfl (by omega) (by omega) hB ?_; intro v' w3 ho2 hgr2 _; obtain ⟨A', c', rfl⟩ := own_shape ho2; have k2 := (hk.alloc (.cells #[.int .u32 0] 22)).grown hgr2 hne; have hb2 := (hr.below.alloc hB (.cells #[.int .u32 0] 22)).grown hgr2 (by simp; omega) (fun j hj => (ho.lt j hj).1); obtain ⟨y0, y1, y2, y3⟩ := four_ k2; have fz2 := k2.frozen; have HP := Lib.hid (RdS.push (v := 0) hr k2 ho2 hb2); clear hgr2 hne)
      go_ret
      exact ⟨_, _, true, rfl, HP.out, by rw [HS.out], .inl ⟨rfl, _, by rw [HS.out], rfl⟩⟩
    · have HS := Lib.hid (show R = (s.data.toList.drop a2, none) by
        have e2 : signR falseB (s.data.toList.drop a) = none := by
          rw [HD.out] at hs
          rw [← signR_blanks]
          exact hs
        rw [HR.out]
        unfold truthR
        rw [HS0.out]
        simp only
        rw [e2, hd, HD.out, blanks_idem])
      clear hs hd h2
      go_wp2_with fail
      go_ret
      exact ⟨a2, ws, false, rfl, hr, by rw [HS.out], .inr ⟨rfl, by rw [HS.out]⟩⟩
end Go.Proofs.YtgfnnfljefjegaaGreatDoor
