/- Walks: the law of ValueBack: a value is written, and read as it was; zero is a value; its text has no blank at its ends. -/
import Derived.Test.YtgfnnfljefjegaaGreatDoorCVH
namespace Go.Proofs.YtgfnnfljefjegaaGreatDoor
open Go.RowKit

theorem loop_len (b : ByteArray) : ∀ (k i : Nat) (r : List UInt8), b.size - i = k → (ByteArray.toList.loop b i r).length = r.length + k
  | 0, i, r, h => by unfold ByteArray.toList.loop; rw [if_neg (by omega)]; simp
  | k + 1, i, r, h => by unfold ByteArray.toList.loop; rw [if_pos (by omega), loop_len b k (i + 1) _ (by omega)]; simp; omega
theorem list_ne {b : ByteArray} (h : 0 < b.size) : ¬ b.toList = [] := fun e => by
  have h1 := loop_len b b.size 0 [] (by omega)
  have h2 : b.toList = ByteArray.toList.loop b 0 [] := rfl
  rw [← h2, e] at h1
  simp at h1
  omega
theorem ba_get {b : ByteArray} {l : List UInt8} (h : b.data.toList = l) {k : Nat} (hk : k < b.size) {x : UInt8} (hx : l[k]? = some x) : b[k] = x := by
  have hl : k < b.data.toList.length := by simpa using hk
  have e : b.data.toList[k]? = some (b.data.toList[k]) := List.getElem?_eq_getElem hl
  subst h
  rw [e] at hx
  injection hx
theorem u8_ne {x : UInt8} (h : x ≠ 32) : ¬ ((x.toNat : Nat) : Int) = 32 := fun e => h (UInt8.toNat_inj.1 (by have h9 : (UInt8.toNat 32) = 32 := rfl; omega))
theorem zeros_at (n k : Nat) (hk : k < n) : ix (List.replicate n (0 : Int)) k = 0 := by
  rw [ix_of (by rw [List.length_replicate]; exact hk), List.getElem_replicate]
theorem zeros_fit {T : Int → TyI} {ty : Int} {n : Nat} (hp : 0 < (T ty).size) (hn : (n : Int) = (T ty).size) : fitsV T ty (List.replicate n 0) = true :=
  (okV_fits hp ⟨by rw [List.length_replicate]; exact hn, fun k hk => by rw [List.length_replicate] at hk; rw [zeros_at n k hk]; exact ⟨by decide, fun _ => by decide⟩⟩).2.1
set_option maxRecDepth 100000 in
set_option maxHeartbeats 4000000 in
theorem law_back (gen bound : Int) (A : Option Addr) (n c : Nat) (ls : List InstA) (ty : Int) (A2 : Option Addr) (n2 c2 : Nat) (ws : List Int) (w : World) (hM : ModS w w.heap.size A n ls) (hn : n ≤ 3600000000000) (hP : Pow w) (hE : Errs w)
    (hN : ∀ x ∈ ls, (∀ a ∈ x.1.2.2.2, 0 ≤ a.2.1 ∧ a.2.1 < 4294967296) ∧ (0 ≤ x.1.1 ∧ x.1.1 < 65536)) (hn2 : n2 ≤ 35184372087808) (hr2 : Reads w w.heap.size 1 A2 n2 (Ints .u32 ws)) (hu2 : Under 4294967296 ws) :
    Calls Tryz.prog 4 #[.agg (modC gen bound A n c), .int .u32 ty, .slice A2 n2 c2] w (BoolIs true w) := by
  have hb1 := (Below.refl w.heap.size w).alloc (Nat.le_refl _) (.cells (modC gen bound A n c) 25)
  have k1 := Blk.new w 25 (modC gen bound A n c)
  have hcp := copyModule_any gen bound A n c ls _ (hM.step hb1) hn
  obtain ⟨L, hL⟩ : ∃ L, L = ls.map (·.1) := ⟨_, rfl⟩
  obtain ⟨hu, hop⟩ := use_ hL hN
  rw [← hL] at hcp
  clear hL hM hN
  unfold modC at *
  obtain ⟨z0, z1, z2⟩ := three_ k1
  have HR2 := Lib.hid hr2
  have hlen2 := hr2.len
  have hu2' : ∀ k, k < ws.length → 0 ≤ ix ws k ∧ ix ws k < 4294967296 := fun k hk => hu2 _ (ix_in hk)
  clear hr2 hu2
  go_enter Tryz.func4, Tryz.ntmps4
  go_wp2_with fail
  refine hcp.mono ?_
  rintro e w2 ⟨A', c', ls', rfl, hM', hL', hb2⟩
  have hb3 := below_cut hb1 hb2 (Nat.le_refl _)
  have hnw := new_copied (gen := gen) (bound := bound) (c := c') hM' hL' (hP.step hb3) hu hop
  generalize newM bound L = r at *
  obtain ⟨r1, r2, s⟩ := r
  clear hcp hM' hL' hu hop z0 z1 z2 k1
  go_wp2_with fail
  refine hnw.mono ?_
  rintro e w3 ⟨hb4, ⟨h0, hw, gt, rfl, hG⟩ | ⟨h0, rfl⟩⟩
  · have hw : WellS s := hw
    have hG : TabG w3 (some ⟨gt, 0, none⟩) s := hG
    have hb5 := below_cut hb3 hb4 (Nat.le_refl _)
    have hbs := (Below.refl w3.heap.size w3).alloc (Nat.le_refl _) (.cells #[.int .i64 0, .int .i64 0] 29)
    have hb6 := hb5.alloc hb5.size (.cells #[.int .i64 0, .int .i64 0] 29)
    have kS := Blk.new w3 29 #[.int .i64 0, .int .i64 0]
    obtain ⟨S, hT, -⟩ := hG.step hbs
    obtain ⟨q0, q1⟩ := two_ kS
    have hO : RdOk (w3.alloc (.cells #[.int .i64 0, .int .i64 0] 29)) gt s.T S := ⟨well_typed hw, hT, hP.step hb6, hE.step hb6⟩
    have hzr := zero_any gt s.T S hO.ty ty _ hO.tab
    have HO := Lib.hid hO
    have HW := Lib.hid (And.intro hP hE)
    have HR := Lib.hid (rd_on HR2.out hb6)
    clear hnw hG h0 hw hT hO hP hE hbs HR2
    go_wp2_with fail
    generalize (w3.alloc (.cells #[.int .i64 0, .int .i64 0] 29)) = W at *
    clear q0 q1
    have hpl := fun (w' : World) (h : Below W.heap.size W w') => plainM_any _ _ _ ty w' (HO.out.on h).tab.tab
    have hsz := fun (w' : World) (h : Below W.heap.size W w') => sizeM_any _ _ _ ty w' (HO.out.on h).tab.tab
    have hcw := fun (w' : World) (h : Below W.heap.size W w') => copyWords A2 n2 c2 ws w' hn2 (rd_on HR.out h)
    refine hzr.mono ?_
    rintro e w4 ⟨hb7, ⟨hp, rfl⟩ | ⟨hp, gz, z, hz, rfl, hoz⟩⟩
    · have dp : decide (0 < (s.T ty).size) = false := by rw [decide_eq_false_iff_not]; exact hp
      have h0 : (s.T ty).size = 0 := by have := (HO.out.tab.tab).size ty; omega
      rw [dp] at hpl
      rw [h0] at hsz
      have hfz := fun (w' : World) (h : Below W.heap.size W w') => fits_all gt s.T S HO.out.ty ty none 0 0 [] w' (HO.out.on h).tab Reads.none_
      have ef : ∀ l, fitsV s.T ty l = false := fun l => by unfold fitsV; rw [dp, Bool.false_and]
      have eg : gvE s.T ty ws = 100 := if_neg hp
      simp only [ef] at hfz
      unfold BoolIs at hfz
      clear hzr
      go_wp2_with fail
      refine (hpl w4 hb7).mono ?_
      rintro e w5 ⟨rfl, hb8⟩
      have hb9 := below_cut hb7 hb8 (Nat.le_refl _)
      go_wp2_with fail
      refine (hsz w5 hb9).mono ?_
      rintro e w6 ⟨rfl, hb10⟩
      have hb11 := below_cut hb9 hb10 (Nat.le_refl _)
      go_wp2_with fail
      refine (hfz w6 hb11).mono ?_
      rintro e w7 ⟨rfl, hb12⟩
      have hb13 := below_cut hb11 hb12 (Nat.le_refl _)
      go_wp2_with fail
      refine (hpl w7 hb13).mono ?_
      rintro e w8 ⟨rfl, hb14⟩
      have hb15 := below_cut hb13 hb14 (Nat.le_refl _)
      go_wp2_with fail
      refine (hcw w8 hb15).mono ?_
      rintro e w9 ⟨g9, rfl, ho9, hb16⟩
      have hb17 := below_cut hb15 hb16 (Nat.le_refl _)
      have htx := text_all gt s.T S ty (some ⟨g9, 0, none⟩) n2 n2 ws w9 (HO.out.on hb17) (Reads.of_own ho9) (Nat.le_refl _) hu2'
      unfold TextA at htx
      rw [eg] at htx
      go_wp2_with fail
      refine htx.mono ?_
      rintro e w10 ⟨hb18, ⟨h, -⟩ | ⟨-, rfl⟩⟩
      · cases h
      · have hb19 := below_cut hb17 hb18 (Nat.le_refl _)
        clear ho9 htx
        go_wp2_with fail
        refine (hcw w10 hb19).mono ?_
        rintro e w11 ⟨g11, rfl, ho11, hb20⟩
        have hb21 := below_cut hb19 hb20 (Nat.le_refl _)
        have hft := fits_all gt s.T S HO.out.ty ty (some ⟨g11, 0, none⟩) n2 n2 ws w11 (HO.out.on hb21).tab (Reads.of_own ho11)
        rw [ef] at hft
        unfold BoolIs at hft
        go_wp2_with fail
        refine hft.mono ?_
        rintro e w12 ⟨rfl, hb22⟩
        have hb23 := below_cut hb6 (below_cut hb21 hb22 (Nat.le_refl _)) (Nat.le_refl _)
        have haw := awake12_any w12 (HW.out.1.step hb23) (HW.out.2.step hb23)
        go_wp2_with fail
        refine haw.mono ?_
        rintro e w13 ⟨rfl, hb24⟩
        go_wp2_with fail
        go_ret
        exact ⟨rfl, below_cut hb23 hb24 (Nat.le_refl _)⟩
    · have dp : decide (0 < (s.T ty).size) = true := by rw [decide_eq_true_eq]; exact hp
      rw [dp] at hpl
      rw [← hz] at hsz
      have hrz := Reads.of_own hoz
      have efz : fitsV s.T ty (List.replicate z 0) = true := zeros_fit hp hz
      have hfz := fun (w' : World) (h : Below w4.heap.size w4 w') => fits_all gt s.T S HO.out.ty ty (some ⟨gz, 0, none⟩) z z _ w' (HO.out.on (below_cut hb7 h (Nat.le_refl _))).tab (rd_on hrz h)
      rw [efz] at hfz
      unfold BoolIs at hfz
      clear hzr hoz hrz
      go_wp2_with fail
      refine (hpl w4 hb7).mono ?_
      rintro e w5 ⟨rfl, hb8⟩
      have hb9 := below_cut hb7 hb8 (Nat.le_refl _)
      go_wp2_with fail
      refine (hsz w5 hb9).mono ?_
      rintro e w6 ⟨rfl, hb10⟩
      have hb11 := below_cut hb9 hb10 (Nat.le_refl _)
      go_wp2_with fail
      refine (hfz w6 (below_cut hb8 hb10 (Nat.le_refl _))).mono ?_
      rintro e w7 ⟨rfl, hb12⟩
      have hb13 := below_cut hb11 hb12 (Nat.le_refl _)
      go_wp2_with fail
      refine (hpl w7 hb13).mono ?_
      rintro e w8 ⟨rfl, hb14⟩
      have hb15 := below_cut hb13 hb14 (Nat.le_refl _)
      clear hpl hsz hfz
      go_wp2_with fail
      refine (hcw w8 hb15).mono ?_
      rintro e w9 ⟨g9, rfl, ho9, hb16⟩
      have hb17 := below_cut hb15 hb16 (Nat.le_refl _)
      have htx := text_all gt s.T S ty (some ⟨g9, 0, none⟩) n2 n2 ws w9 (HO.out.on hb17) (Reads.of_own ho9) (Nat.le_refl _) hu2'
      unfold TextA at htx
      go_wp2_with fail
      refine htx.mono ?_
      rintro e w10 ⟨hb18, ⟨hg, rfl⟩ | ⟨hg, rfl⟩⟩
      · obtain ⟨-, hfv, hlw⟩ := gvE_zero hg
        have hok := ((fitsV_ok hu2').1 hfv).2
        have hb19 := below_cut hb17 hb18 (Nat.le_refl _)
        have HTL := Lib.hid (And.intro (text_head (T := s.T) (q := 18) (ty := ty) (ws := ws) []) (And.intro (text_last (T := s.T) (q := 18) (ty := ty) (ws := ws)) (And.intro (text_few HO.out.ty (Nat.le_refl 19) hp (rank19 HO.out.ty ty) hok)
          (parse_text HO.out.ty 19 ty ws [32] [32] hp (rank19 HO.out.ty ty) hok (fun c h => by simpa using h) (fun c r h => by injection h with h _; subst h; decide)))))
        clear htx
        generalize textV s.T 19 ty ws = tl at *
        have hbl : (bs tl).size = tl.length := bs_siz tl
        obtain ⟨tx, htx⟩ : ∃ tx, tx = bs tl := ⟨_, rfl⟩
        rw [← htx] at hbl ⊢
        have HTX := Lib.hid htx
        have hx0 : tx.size ≠ 0 := by rw [hbl]; intro h; exact HTL.out.1.2 (List.eq_nil_of_length_eq_zero h)
        have hx4 : tx.size ≤ 400000 := by rw [hbl]; exact HTL.out.2.2.1
        have HBL := Lib.hid hbl
        clear htx hbl hok
        clear ho9
        go_wp2_with fail
        refine (hcw w10 hb19).mono ?_
        rintro e w11 ⟨g11, rfl, ho11, hb20⟩
        have hb21 := below_cut hb19 hb20 (Nat.le_refl _)
        have hft := fits_all gt s.T S HO.out.ty ty (some ⟨g11, 0, none⟩) n2 n2 ws w11 (HO.out.on hb21).tab (Reads.of_own ho11)
        rw [hfv] at hft
        unfold BoolIs at hft
        have hps := fun (w' : World) (h : Below W.heap.size W w') (str : ByteArray) (hs : str.size ≤ 140737488351232) => parsed_any gt s.T S ty str w' (HO.out.on h) hs
        clear ho11
        go_wp2_with fail
        refine hft.mono ?_
        rintro e w12 ⟨rfl, hb22⟩
        have hb23 := below_cut hb21 hb22 (Nat.le_refl _)
        have hs1 : ¬ 9223372036854775807 < 1 + (tx.size + 1) := by omega
        have hs2 : ¬ 9223372036854775807 < 1 + tx.size := by omega
        have hs3 : ¬ 9223372036854775807 < 1 + tx.size + 1 := by omega
        have hs4 : ¬ 9223372036854775807 < tx.size + 1 := by omega
        clear hft hcw
        go_wp2_with fail
        have hstr : (⟨#[32]⟩ ++ tx ++ ⟨#[32]⟩ : ByteArray).data.toList = [32] ++ (tl ++ [32]) := by rw [HTX.out]; simp [bs]
        have hsiz : (⟨#[32]⟩ ++ tx ++ ⟨#[32]⟩ : ByteArray).size ≤ 140737488351232 := by
          have h1 : (⟨#[32]⟩ ++ tx ++ ⟨#[32]⟩ : ByteArray).size = 1 + tx.size + 1 := by rw [ByteArray.size_append, ByteArray.size_append]; rfl
          omega
        have HST := Lib.hid hstr
        have hp12 := hps w12 hb23 _ hsiz
        clear hstr hsiz hps
        generalize (⟨#[32]⟩ ++ tx ++ ⟨#[32]⟩ : ByteArray) = ty2 at *
        refine hp12.mono ?_
        rintro e w13 (⟨-, hb24, ⟨r, vs, A13, c13, hpr, -, rfl, ho13⟩ | ⟨a, -, -, hno⟩⟩ | ⟨h, -, -⟩)
        · rw [HST.out, HTL.out.2.2.2] at hpr
          injection hpr with hr hws
          injection hws with hws
          subst hws
          have k5 := Blk.new w13 29 #[.int .i64 0, .int .i64 0]
          have hbt := (Below.refl w13.heap.size w13).alloc (Nat.le_refl _) (.cells #[.int .i64 0, .int .i64 0] 29)
          have hb25 := below_cut (below_cut hb23 hb24 (Nat.le_refl _)) hbt (Nat.le_refl _)
          have hr13 := rd_on (Reads.of_own ho13) hbt
          rw [hlen2] at hr13 ⊢
          obtain ⟨y0, y1⟩ := two_ k5
          have hsm := words_same A13 A2 n2 n2 c13 c2 ws ws _ (by omega) hr13 (rd_on HR.out hb25)
          rw [same_refl] at hsm
          clear hp12 ho13 hr13
          have hs0 : 0 < tx.size := by omega
          have htn := list_ne hs0
          have htd : tx.data.toList = tl := by rw [HTX.out]; simp [bs]
          have hn0 : ¬ ((tx[0].toNat : Nat) : Int) = 32 := by
            obtain ⟨x, r, hxr⟩ := List.exists_cons_of_ne_nil HTL.out.1.2
            rw [ba_get htd hs0 (x := x) (by rw [hxr]; rfl)]
            exact u8_ne (HTL.out.1.1 x r (by rw [List.append_nil]; exact hxr))
          have hn1 : ¬ ((tx[tx.size - 1].toNat : Nat) : Int) = 32 := by
            obtain ⟨l, ch, hlc, h32⟩ := HTL.out.2.1
            rw [ba_get htd (by omega) (x := ch) (by rw [HBL.out, hlc, List.length_append, List.length_singleton, Nat.add_sub_cancel]; simp)]
            exact u8_ne h32
          have hi1 : 1 ≤ ((tx.size : Nat) : Int) := by omega
          have hi2 : ((tx.size : Nat) : Int) - 1 < (tx.size : Nat) := by omega
          clear htd
          go_wp2_with fail
          refine hsm.mono ?_
          rintro e w14 ⟨rfl, hd14⟩
          have hb26 := below_cut hb6 (below_cut hb25 (hd14.below _) (Nat.le_refl _)) (Nat.le_refl _)
          have haw := awake12_any w14 (HW.out.1.step hb26) (HW.out.2.step hb26)
          clear hsm
          go_wp2_with fail
          refine haw.mono ?_
          rintro e w15 ⟨rfl, hb27⟩
          go_wp2_with fail
          go_ret
          have hv : (!tx.toList.isEmpty && ((tx[0].toNat : Nat) : Int) != 32 && ((tx[tx.size - 1].toNat : Nat) : Int) != 32) = true := by
            rw [Bool.and_eq_true, Bool.and_eq_true]
            exact ⟨⟨by simpa using htn, by simpa using hn0⟩, by simpa using hn1⟩
          refine ⟨?_, below_cut hb26 hb27 (Nat.le_refl _)⟩
          show Ending.returned (.bool (!tx.toList.isEmpty && ((tx[0].toNat : Nat) : Int) != 32 && ((tx[tx.size - 1].toNat : Nat) : Int) != 32)) = _
          rw [hv]
        · exact absurd ⟨_, _, by rw [HST.out]; exact HTL.out.2.2.2, rfl⟩ hno
        · exact absurd hp h
      · have efv : fitsV s.T ty ws = false := by
          cases h : fitsV s.T ty ws with
          | false => rfl
          | true => exact absurd (by unfold gvE; rw [if_pos hp, if_pos h]) hg
        have hb19 := below_cut hb17 hb18 (Nat.le_refl _)
        have dg : (gvE s.T ty ws != 0) = true := by simpa using hg
        clear ho9 htx
        generalize gvE s.T ty ws = E at *
        go_wp2_with fail
        refine (hcw w10 hb19).mono ?_
        rintro e w11 ⟨g11, rfl, ho11, hb20⟩
        have hb21 := below_cut hb19 hb20 (Nat.le_refl _)
        have hft := fits_all gt s.T S HO.out.ty ty (some ⟨g11, 0, none⟩) n2 n2 ws w11 (HO.out.on hb21).tab (Reads.of_own ho11)
        rw [efv] at hft
        unfold BoolIs at hft
        go_wp2_with fail
        refine hft.mono ?_
        rintro e w12 ⟨rfl, hb22⟩
        have hb23 := below_cut hb6 (below_cut hb21 hb22 (Nat.le_refl _)) (Nat.le_refl _)
        have haw := awake12_any w12 (HW.out.1.step hb23) (HW.out.2.step hb23)
        go_wp2_with fail
        refine haw.mono ?_
        rintro e w13 ⟨rfl, hb24⟩
        go_wp2_with fail
        go_ret
        exact ⟨rfl, below_cut hb23 hb24 (Nat.le_refl _)⟩
  · have h0 : r1 ≠ 0 := h0
    have hb5 := below_cut hb3 hb4 (Nat.le_refl _)
    have hb6 := hb5.alloc hb5.size (.cells #[.int .i64 r1, .int .i64 r2] 29)
    have kS := Blk.new w3 29 #[.int .i64 r1, .int .i64 r2]
    obtain ⟨q0, q1⟩ := two_ kS
    have e0 : (r1 != 0) = true := by simpa using h0
    have haw := awake12_any _ (hP.step hb6) (hE.step hb6)
    clear hnw h0
    go_wp2_with fail
    generalize (w3.alloc (.cells #[.int .i64 r1, .int .i64 r2] 29)) = W at *
    refine haw.mono ?_
    rintro e w5 ⟨rfl, hb9⟩
    have hb10 := below_cut hb6 hb9 (Nat.le_refl _)
    clear q0 q1
    go_wp2_with fail
    go_ret
    exact ⟨rfl, hb10⟩
end Go.Proofs.YtgfnnfljefjegaaGreatDoor
