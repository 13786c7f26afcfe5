/- Walks: value.Put, whatever the type, the words, the path and the part. -/
import Derived.Test.YtgfnnfljefjegaaGreatDoorCVF
namespace Go.Proofs.YtgfnnfljefjegaaGreatDoor
open Go.RowKit

/-- what Put says of it -/
def putE (T : Int → TyI) (ty : Int) (ws l part : List Int) : Int := if gvE T ty ws ≠ 0 then gvE T ty ws else if (wkW T 0 ty l).2 = 0 then 121 else if fitsV T (wkW T 0 ty l).2 part = true then 0 else 2
/-- what Put answers -/
def PutA (T : Int → TyI) (ty : Int) (ws l part : List Int) (w : World) (e : Ending) (w' : World) : Prop :=
  Below w.heap.size w w' ∧ ((putE T ty ws l part ≠ 0 ∧ e = .returned (.tuple #[.slice none 0 0, .int .i64 (putE T ty ws l part)])) ∨
    (putE T ty ws l part = 0 ∧ ∃ A' c', ws.length ≤ c' ∧ e = .returned (.tuple #[.slice A' ws.length c', .int .i64 0]) ∧ w'.ownsRow w.heap.size 22 1 (.slice A' ws.length c') ws.length (Ints .u32 (putV ws (wkW T 0 ty l).1 part))))
set_option maxRecDepth 100000 in
set_option maxHeartbeats 2000000 in
theorem put_all (gt : Nat) (T : Int → TyI) (S : Int → SlI) (hY : Typed T) (ty : Int) (A : Option Addr) (n c : Nat) (ws : List Int) (A2 : Option Addr) (n2 c2 : Nat) (l : List Int) (A3 : Option Addr) (n3 c3 : Nat) (part : List Int) (w : World) (hT : TabW w (some ⟨gt, 0, none⟩) T S)
    (hr : Reads w w.heap.size 1 A n (Ints .u32 ws)) (hr2 : Reads w w.heap.size 1 A2 n2 (Ints .u32 l)) (hr3 : Reads w w.heap.size 1 A3 n3 (Ints .u32 part)) (hn2 : n2 ≤ 4611686018427387904) (hl : ∀ x ∈ l, 0 ≤ x ∧ x < 4294967296) :
    Calls Tryz.prog 19 #[.pointer (some ⟨gt, 0, none⟩), .int .u32 ty, .slice A n c, .slice A2 n2 c2, .slice A3 n3 c3] w (PutA T ty ws l part w) := by
  have hlen := hr.len
  have hlen3 := hr3.len
  by_cases h0 : gvE T ty ws = 0
  · obtain ⟨hp, hf, hn⟩ := gvE_zero h0
    have hgv := given_any gt T S hY ty A n c ws w hT hr w (Below.refl _ _)
    rw [h0] at hgv
    have hwk := fun (w' : World) (h : Below w.heap.size w w') => walk_well gt T S hY ty A2 n2 c2 l w' (hT.step h) hn2 ((hr2.below h).more h.size) hl hp
    have hin := wkW_in hY (l := l) (a := 0) (ty := ty) (fun k hk => (hl k hk).1) hp
    have hn4 := (hY.size ty).2.2
    have hE : putE T ty ws l part = if (wkW T 0 ty l).2 = 0 then 121 else if fitsV T (wkW T 0 ty l).2 part = true then 0 else 2 := by unfold putE; rw [h0, if_neg (by decide)]
    unfold PutA
    generalize putE T ty ws l part = E at *
    generalize wkW T 0 ty l = r at *
    obtain ⟨r1, r2⟩ := r
    dsimp only at hwk hin hE ⊢
    have HE := Lib.hid hE
    have hft := fun (w' : World) (h : Below w.heap.size w w') => fits_all gt T S hY r2 A3 n3 c3 part w' (hT.step h) ((hr3.below h).more h.size)
    have hcl := fun (w' : World) (h : Below w.heap.size w w') => clone_any A n c ws w' (by omega) ((hr.below h).more h.size)
    have HR3 := Lib.hid hr3
    have HI := Lib.hid hin
    have HF := Lib.hid hf
    have HLN := Lib.hid (And.intro hlen hlen3)
    have HS := Lib.hid (show fitsV T r2 part = true → (part.length : Int) = (T r2).size ∧ 0 < (T r2).size from fun h => by
      unfold fitsV at h
      simp only [Bool.and_eq_true, decide_eq_true_eq] at h
      exact ⟨h.2.1, h.1⟩)
    unfold BoolIs at hft
    clear hT hr hr2 hr3 hf hY hl hE h0 hlen3 hin
    go_enter Tryz.func19, Tryz.ntmps19
    go_wp2_with fail
    refine hgv.mono ?_
    rintro e w1 ⟨rfl, hb1⟩
    have hw1 := hwk w1 hb1
    clear hgv hwk
    by_cases h0 : r2 = 0
    · have d0 : (r2 != 0) = false := by rw [h0]; rfl
      rw [d0] at hw1
      have HE1 : Hid (E = 121) := Lib.hid (by rw [HE.out, if_pos h0])
      clear hft hcl
      go_wp2_with fail
      refine hw1.mono ?_
      rintro e w2 ⟨rfl, hb2⟩
      have hb3 := below_cut hb1 hb2 (Nat.le_refl _)
      go_wp2_with fail
      go_ret2
      exact ⟨hb3, .inl (by rw [HE1.out]; exact ⟨by decide, rfl⟩)⟩
    · have d0 : (r2 != 0) = true := by simpa using h0
      rw [d0] at hw1
      have HE1 : Hid (E = if fitsV T r2 part = true then 0 else 2) := Lib.hid (by rw [HE.out, if_neg h0])
      obtain ⟨q1, q2, q3⟩ : 0 < (T r2).size ∧ 0 ≤ r1 ∧ r1 + (T r2).size ≤ 0 + (T ty).size := by
        rcases HI.out with e | e
        · injection e with _ e; exact absurd e h0
        · exact e
      obtain ⟨p, rfl⟩ : ∃ p : Nat, r1 = p := ⟨r1.toNat, by omega⟩
      have H0 := Lib.hid h0
      clear h0 HI
      go_wp2_with fail
      refine hw1.mono ?_
      rintro e w2 ⟨rfl, hb2⟩
      have hb3 := below_cut hb1 hb2 (Nat.le_refl _)
      have hf2 := hft w2 hb3
      clear hw1 hft
      cases hfp : fitsV T r2 part with
      | false =>
        rw [hfp] at hf2
        have HE2 : Hid (E = 2) := Lib.hid (by rw [HE1.out, hfp]; rfl)
        clear hfp hcl
        go_wp2_with fail
        refine hf2.mono ?_
        rintro e w3 ⟨rfl, hb4⟩
        have hb5 := below_cut hb3 hb4 (Nat.le_refl _)
        go_wp2_with fail
        go_ret2
        exact ⟨hb5, .inl (by rw [HE2.out]; exact ⟨by decide, rfl⟩)⟩
      | true =>
        rw [hfp] at hf2
        obtain ⟨s1, s2⟩ := HS.out hfp
        have HE2 : Hid (E = 0) := Lib.hid (by rw [HE1.out, hfp]; rfl)
        clear hfp HS
        go_wp2_with fail
        refine hf2.mono ?_
        rintro e w3 ⟨rfl, hb4⟩
        have hb5 := below_cut hb3 hb4 (Nat.le_refl _)
        have hc3 := hcl w3 hb5
        clear hf2 hcl
        go_wp2_with fail
        refine hc3.mono ?_
        rintro e w4 ⟨A4, c4, rfl, ho, hb6⟩
        have hb7 := below_cut hb5 hb6 (Nat.le_refl _)
        have hs7 := hb5.size
        have hr4 := (HR3.out.below hb7).more hb7.size
        obtain ⟨ad, rfl, -, hc4⟩ := hr4.2 (by have := HLN.out; omega)
        have hg4 : ∃ g, A4 = some ⟨g, 0, none⟩ := by
          rcases ho.2 with ⟨hv, hz⟩ | ⟨g, cap, cur, hv, -⟩
          · exfalso; have := HLN.out.1; cases hv; omega
          · cases hv; exact ⟨g, rfl⟩
        obtain ⟨g, rfl⟩ := hg4
        obtain ⟨cur, hg, hfit, hbg, hnc, hown⟩ := own_put (x := part) (p := p) ho (by have := HLN.out; omega)
        have hsz : Option.map (fun x => x.size) (Tryz.prog.info? 22) = some 1 := by kernel_rfl
        have hpn : p < n := by have := HLN.out; omega
        have hcp : ¬ c4 = p := by omega
        have hpc : p ≤ c4 := by omega
        have hpn2 : p ≤ n := by omega
        have hml : n3 ≤ n - p := by have := HLN.out; omega
        have hbE := below_setRow (g := g) hb7 (by omega) (cur.toList.take p ++ (Ints .u32 part ++ cur.toList.drop (p + part.length))).toArray
        have HO := Lib.hid (own_base hown hs7)
        have HLE := Lib.hid hnc
        clear hc3 hr4 ho hown hs7
        go_wp2_with (with_reducible refine wpList_copy_own rfl _ _ 34 34 rfl 22 Tryz.underlying34 hsz g p (n - p) (c4 - p) ad n3 c3 rfl rfl cur _ hg (Ints .u32 part) ?_ hc4 ?_ Ints_oneCell ?_)
        · rw [Ints_length, HLN.out.2]; exact (Nat.min_eq_left hml).symm
        · rw [Ints_length]; exact hfit
        rw [Ints_length]
        generalize w4.setRow g (cur.toList.take p ++ (Ints .u32 part ++ cur.toList.drop (p + part.length))).toArray = w5 at *
        go_wp2_with fail
        go_ret2
        have e1 := HLN.out.1
        exact ⟨hbE, .inr ⟨HE2.out, some ⟨g, 0, none⟩, c4, by rw [e1]; exact HLE.out, by rw [e1]; rfl, by rw [e1]; exact HO.out⟩⟩
  · have hE : putE T ty ws l part = gvE T ty ws := by unfold putE; rw [if_pos h0]
    refine (put_out _ ty _ A n c _ _ w (given_any gt T S hY ty A n c ws w hT hr) h0).mono ?_
    rintro e w' ⟨h1, h2⟩
    exact ⟨h2, .inl (by rw [hE]; exact ⟨h0, h1⟩)⟩
end Go.Proofs.YtgfnnfljefjegaaGreatDoor
