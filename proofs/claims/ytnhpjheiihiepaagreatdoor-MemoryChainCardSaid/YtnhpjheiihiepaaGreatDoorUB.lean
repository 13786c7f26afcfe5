/- Plain: a module with other ids: its shape, how it stands, its ids. No program is named. Plain: the types of a module with other ids. No program is named. Walks: memory.Chain. -/
import Derived.Test.YtnhpjheiihiepaaGreatDoorTN
import Derived.Test.YtnhpjheiihiepaaGreatDoorUA
import Derived.Test.YtnhpjheiihiepaaGreatDoorTyAwake
namespace Go.Proofs.YtnhpjheiihiepaaGreatDoor

/-! Other ids. -/
/-- other ids for those that are used, below a bound -/
structure RenOk (tq : Int → Int) (U : Int → Prop) (b : Int) : Prop where
  zero : tq 0 = 0
  u0 : U 0
  inj : ∀ x y, U x → U y → tq x = tq y → x = y
  bd : ∀ x, U x → x ≠ 0 → 1 ≤ tq x ∧ tq x < b
structure Used (U : Int → Prop) (i : InstI) : Prop where
  ty : U i.2.1
  res : U i.2.2.1
  args : ∀ a ∈ i.2.2.2, a.1 = 1 → U a.2.1
theorem RenOk.ne {tq : Int → Int} {U : Int → Prop} {b : Int} (h : RenOk tq U b) {x : Int} (hx : U x) : (tq x != 0) = (x != 0) := by
  by_cases e : x = 0
  · rw [e, h.zero]
  · have h1 := h.bd x hx e
    have e1 : (tq x != 0) = true := by simpa using (show tq x ≠ 0 by omega)
    have e2 : (x != 0) = true := by simpa using e
    rw [e1, e2]
/-! How a module stands. -/
/-- modules whose instructions stand alike -/
structure SameL (l' l : List InstI) : Prop where
  len : l'.length = l.length
  nx : ∀ k, nx l' k = nx l k
  op : ∀ k, opAt l' k = opAt l k
  part : ∀ k, partAt l' k = partAt l k
theorem SameL.rowTo {l' l : List InstI} (h : SameL l' l) (kd : Int) : ∀ q k, Go.Proofs.YtnhpjheiihiepaaGreatDoor.rowTo l' kd q k = Go.Proofs.YtnhpjheiihiepaaGreatDoor.rowTo l kd q k
  | 0, k => rfl
  | q + 1, k => by
    unfold Go.Proofs.YtnhpjheiihiepaaGreatDoor.rowTo
    rw [h.nx k, h.rowTo kd q (k + 1)]
theorem SameL.rowEnd {l' l : List InstI} (h : SameL l' l) (kd : Int) (k : Nat) : Go.Proofs.YtnhpjheiihiepaaGreatDoor.rowEnd l' kd k = Go.Proofs.YtnhpjheiihiepaaGreatDoor.rowEnd l kd k := by
  unfold Go.Proofs.YtnhpjheiihiepaaGreatDoor.rowEnd
  rw [h.len, h.rowTo]
theorem SameL.topTo {l' l : List InstI} (h : SameL l' l) (p : Int) : ∀ q k, Go.Proofs.YtnhpjheiihiepaaGreatDoor.topTo l' p q k = Go.Proofs.YtnhpjheiihiepaaGreatDoor.topTo l p q k
  | 0, k => rfl
  | q + 1, k => by
    unfold Go.Proofs.YtnhpjheiihiepaaGreatDoor.topTo
    rw [h.nx k, h.part k, h.topTo p q (k + 1)]
theorem SameL.topEnd {l' l : List InstI} (h : SameL l' l) (p : Int) (k : Nat) : Go.Proofs.YtnhpjheiihiepaaGreatDoor.topEnd l' p k = Go.Proofs.YtnhpjheiihiepaaGreatDoor.topEnd l p k := by
  unfold Go.Proofs.YtnhpjheiihiepaaGreatDoor.topEnd
  rw [h.len, h.topTo]
theorem SameL.topR {l' l : List InstI} (h : SameL l' l) : ∀ r p k f, Go.Proofs.YtnhpjheiihiepaaGreatDoor.topR l' r p k f = Go.Proofs.YtnhpjheiihiepaaGreatDoor.topR l r p k f
  | 0, _, _, _ => rfl
  | r + 1, p, k, f => by
    unfold Go.Proofs.YtnhpjheiihiepaaGreatDoor.topR
    rw [h.topEnd, h.topR]
theorem SameL.blockR {l' l : List InstI} (h : SameL l' l) (first : Bool) (k : Nat) : Go.Proofs.YtnhpjheiihiepaaGreatDoor.blockR l' first k = Go.Proofs.YtnhpjheiihiepaaGreatDoor.blockR l first k := by
  unfold Go.Proofs.YtnhpjheiihiepaaGreatDoor.blockR
  simp only [h.rowEnd, h.nx, h.op]
theorem SameL.blocksR {l' l : List InstI} (h : SameL l' l) : ∀ q first k, Go.Proofs.YtnhpjheiihiepaaGreatDoor.blocksR l' q first k = Go.Proofs.YtnhpjheiihiepaaGreatDoor.blocksR l q first k
  | 0, _, _ => rfl
  | q + 1, first, k => by
    unfold Go.Proofs.YtnhpjheiihiepaaGreatDoor.blocksR
    rw [h.nx, h.blockR, h.blocksR q]
theorem SameL.funcsR {l' l : List InstI} (h : SameL l' l) : ∀ q k, Go.Proofs.YtnhpjheiihiepaaGreatDoor.funcsR l' q k = Go.Proofs.YtnhpjheiihiepaaGreatDoor.funcsR l q k
  | 0, _ => rfl
  | q + 1, k => by
    unfold Go.Proofs.YtnhpjheiihiepaaGreatDoor.funcsR
    simp only [h.nx, h.rowEnd, h.blocksR, h.len, h.funcsR q]
theorem SameL.cutR {l' l : List InstI} (h : SameL l' l) : Go.Proofs.YtnhpjheiihiepaaGreatDoor.cutR l' = Go.Proofs.YtnhpjheiihiepaaGreatDoor.cutR l := by
  unfold Go.Proofs.YtnhpjheiihiepaaGreatDoor.cutR
  simp only [h.topR, h.funcsR, h.len]
/-! The ids. -/
theorem idsF_mem {l : List ArgI} {x : Int} (h : x ∈ idsF l) : ∃ a ∈ l, a.1 = 1 ∧ a.2.1 = x := by
  unfold idsF at h
  obtain ⟨a, ha, rfl⟩ := List.mem_map.1 h
  obtain ⟨h1, h2⟩ := List.mem_filter.1 ha
  exact ⟨a, h1, by simpa using h2, rfl⟩
theorem idsOf_mem {i : InstI} {x : Int} (h : x ∈ idsOf i) : x = i.2.1 ∨ ∃ a ∈ i.2.2.2, a.1 = 1 ∧ a.2.1 = x := by
  unfold idsOf at h
  rcases List.mem_append.1 h with h | h
  · split at h
    · cases h
    · exact .inl (List.mem_singleton.1 h)
  · exact .inr (idsF_mem h)
theorem Used.ids {U : Int → Prop} {i : InstI} (h : Used U i) : ∀ x ∈ idsOf i, U x := fun x hx => by
  rcases idsOf_mem hx with rfl | ⟨a, ha, h1, rfl⟩
  · exact h.ty
  · exact h.args a ha h1
end Go.Proofs.YtnhpjheiihiepaaGreatDoor

namespace Go.Proofs.YtnhpjheiihiepaaGreatDoor

/-! The key by which a type is known tells its operation and its numbers. -/
def NoSp (l : List UInt8) : Prop := ∀ c ∈ l, c ≠ 32
theorem nosp_digit {u : Nat} (h : u < 10) : UInt8.ofNat (48 + u) ≠ 32 := by
  have e : (UInt8.ofNat (48 + u)).toNat = 48 + u := by rw [UInt8.toNat_ofNat']; omega
  intro hc
  rw [hc] at e
  have e2 : (32 : UInt8).toNat = 32 := rfl
  omega
theorem nosp_dec (u : Nat) : NoSp (Lib.decDigits u) := by
  induction u using Nat.strongRecOn with
  | _ u ih =>
    rw [Lib.decDigits]
    split
    · rename_i h
      intro c hc
      obtain rfl := List.mem_singleton.1 hc
      exact nosp_digit h
    · rename_i h
      intro c hc
      rcases List.mem_append.1 hc with hc | hc
      · exact ih (u / 10) (by omega) c hc
      · obtain rfl := List.mem_singleton.1 hc
        exact nosp_digit (by omega)
theorem nosp_itoa {n : Int} (hn : 0 ≤ n) : NoSp (Lib.itoa n) := by
  obtain ⟨a, rfl⟩ : ∃ a : Nat, n = a := ⟨n.toNat, by omega⟩
  rw [Lib.itoa_nonneg]
  exact nosp_dec a
/-- empty, or a space stands first -/
def SpAhead : List UInt8 → Prop
  | [] => True
  | c :: _ => c = 32
theorem sp_inj : ∀ {a b x y : List UInt8}, NoSp a → NoSp b → SpAhead x → SpAhead y → a ++ x = b ++ y → a = b ∧ x = y
  | [], [], x, y, _, _, _, _, h => ⟨rfl, h⟩
  | [], d :: b, x, y, _, hb, hx, _, h => by
    exfalso
    rw [List.nil_append, List.cons_append] at h
    rw [h] at hx
    exact hb d List.mem_cons_self hx
  | c :: a, [], x, y, ha, _, _, hy, h => by
    exfalso
    rw [List.nil_append, List.cons_append] at h
    rw [← h] at hy
    exact ha c List.mem_cons_self hy
  | c :: a, d :: b, x, y, ha, hb, hx, hy, h => by
    rw [List.cons_append, List.cons_append] at h
    injection h with h1 h2
    obtain ⟨e1, e2⟩ := sp_inj (fun z hz => ha z (List.mem_cons_of_mem _ hz)) (fun z hz => hb z (List.mem_cons_of_mem _ hz)) hx hy h2
    exact ⟨by rw [h1, e1], e2⟩
def tailL (l : List Int) : List UInt8 := (l.map fun n => 32 :: Lib.itoa n).flatten
theorem tailL_sp : ∀ l : List Int, SpAhead (tailL l)
  | [] => trivial
  | _ :: _ => rfl
theorem tailL_cons (n : Int) (l : List Int) : tailL (n :: l) = 32 :: (Lib.itoa n ++ tailL l) := by
  unfold tailL
  simp
theorem tailL_inj : ∀ {l m : List Int}, (∀ x ∈ l, 0 ≤ x) → (∀ x ∈ m, 0 ≤ x) → tailL l = tailL m → l = m
  | [], [], _, _, _ => rfl
  | [], y :: m, _, _, h => by rw [tailL_cons] at h; cases h
  | x :: l, [], _, _, h => by rw [tailL_cons] at h; cases h
  | x :: l, y :: m, hl, hm, h => by
    rw [tailL_cons, tailL_cons] at h
    injection h with _ h
    have hx := hl x List.mem_cons_self
    have hy := hm y List.mem_cons_self
    obtain ⟨e1, e2⟩ := sp_inj (nosp_itoa hx) (nosp_itoa hy) (tailL_sp l) (tailL_sp m) h
    rw [itoa_inj hx hy e1, tailL_inj (fun z hz => hl z (List.mem_cons_of_mem _ hz)) (fun z hz => hm z (List.mem_cons_of_mem _ hz)) e2]
theorem keyL_inj {op op' : Int} {l m : List Int} (h0 : 0 ≤ op) (h1 : 0 ≤ op') (hl : ∀ x ∈ l, 0 ≤ x) (hm : ∀ x ∈ m, 0 ≤ x) (h : keyL op l = keyL op' m) : op = op' ∧ l = m := by
  obtain ⟨e1, e2⟩ := sp_inj (nosp_itoa h0) (nosp_itoa h1) (tailL_sp l) (tailL_sp m) h
  exact ⟨itoa_inj h0 h1 e1, tailL_inj hl hm e2⟩
theorem keyB_iff {i j : InstI} (h0 : 0 ≤ i.1) (h1 : 0 ≤ j.1) (hi : ∀ x ∈ nums i.2.2.2, 0 ≤ x) (hj : ∀ x ∈ nums j.2.2.2, 0 ≤ x) : keyB i = keyB j ↔ i.1 = j.1 ∧ nums i.2.2.2 = nums j.2.2.2 := by
  constructor
  · intro h
    unfold keyB at h
    injection h with h
    have h2 := congrArg Array.toList h
    rw [List.toList_toArray, List.toList_toArray] at h2
    exact keyL_inj h0 h1 hi hj h2
  · rintro ⟨e1, e2⟩
    unfold keyB
    rw [e1, e2]
/-! The kinds of the arguments of the operations that make types. -/
theorem letter_in {op : Int} {f : FormI} (hf : formOf op = some f) (k : Nat) : letterOf op k = 0 ∨ ∃ c ∈ f.fixed ++ f.rest, letterOf op k = (c.toNat : Int) := by
  unfold letterOf
  rw [hf]
  show letterB (bs f.fixed) (bs f.rest) f.most k = 0 ∨ ∃ c ∈ f.fixed ++ f.rest, letterB (bs f.fixed) (bs f.rest) f.most k = (c.toNat : Int)
  have hm : ∀ (l : List UInt8) (j : Nat) (h : j < (bs l).size), (bs l)[j] ∈ l := fun l j h => by
    have h2 : (bs l)[j] ∈ (bs l).data.toList := by rw [Array.mem_toList_iff]; exact Array.getElem_mem _
    exact h2
  unfold letterB
  split
  · unfold restB
    split
    · exact .inl rfl
    · split
      · exact .inr ⟨_, List.mem_append_right _ (hm _ _ _), rfl⟩
      · exact .inl rfl
  · unfold fixedB
    split
    · exact .inr ⟨_, List.mem_append_left _ (hm _ _ _), rfl⟩
    · rename_i h1 h2
      exact absurd (dif_neg h2) h1
theorem ids_forms : ([28, 30, 33].all fun op => match formOf op with | some f => (f.fixed ++ f.rest).all (fun c => decide (kindT (c.toNat : Int) = 1)) | none => false) = true := by decide +kernel
theorem InstW.all_ids {i : InstI} {bound : Int} {f : FormI} (h : InstW i bound f) (ho : i.1 ∈ [(28 : Int), 30, 33]) : ∀ a ∈ i.2.2.2, a.1 = 1 := by
  intro a ha
  obtain ⟨k, hk, rfl⟩ := List.getElem_of_mem ha
  have h1 := argE_ok (h.args k hk)
  rw [ag_of hk] at h1
  have h2 := ids_forms
  rw [List.all_eq_true] at h2
  have h3 := h2 _ ho
  rw [h.form] at h3
  dsimp only at h3
  rw [List.all_eq_true] at h3
  rcases letter_in h.form k with h4 | ⟨c, hc, h4⟩
  · exact absurd h4 h1.1
  · have h5 := h3 c hc
    rw [decide_eq_true_eq] at h5
    rw [h1.2.1, h4, h5]
/-! A type with other ids. -/
section
variable {tq : Int → Int} {U : Int → Prop} {b : Int} {T T' : Int → TyI}
end
end Go.Proofs.YtnhpjheiihiepaaGreatDoor

namespace Go.Proofs.YtnhpjheiihiepaaGreatDoor
open Go.RowKit

theorem cnt_bd {T : Int → TyI} (hT : Typed T) (id : Int) : 0 ≤ cntT (T id) ∧ cntT (T id) ≤ 65535 := by
  rcases hT.ok id with h | ⟨b, h⟩
  · rw [h]; decide
  · generalize T id = x at *
    unfold cntT
    cases h <;> simp [ty0] <;> omega
set_option maxRecDepth 100000 in
set_option maxHeartbeats 4000000 in
theorem chain_any (gt : Nat) (T : Int → TyI) (S : Int → SlI) (hY : Typed T) (ty : Int) (A : Option Addr) (n c : Nat) (l : List Int) (w : World) (h : TabW w (some ⟨gt, 0, none⟩) T S) (hn : n ≤ 35184372087808)
    (hr : Reads w w.heap.size 1 A n (Ints .u32 l)) (hl : ∀ x ∈ l, 0 ≤ x ∧ x < 4294967296) :
    Calls Tryz.prog 25 #[.pointer (some ⟨gt, 0, none⟩), .int .u32 ty, .slice A n c] w fun e w' => e = .returned (.tuple #[.int .i64 (chM T ty l).1, .int .u32 (chM T ty l).2.1, .int .i64 (chM T ty l).2.2]) ∧ Below w.heap.size w w' := by
  have hpl := plainM_any _ _ _ ty w h.tab
  have hlen := hr.len
  by_cases hp : 0 < (T ty).size
  · have hv : chM T ty l = chW T 0 ty l := if_pos hp
    have dp : decide (0 < (T ty).size) = true := by rw [decide_eq_true_eq]; exact hp
    rw [hv]
    rw [dp] at hpl
    obtain ⟨v, hvv⟩ : ∃ v, v = chW T 0 ty l := ⟨_, rfl⟩
    rw [← hvv]
    have HV := Lib.hid hvv
    have HT := Lib.hid h
    have HR := Lib.hid hr
    have HY := Lib.hid hY
    have HL := Lib.hid hl
    have HP := Lib.hid hp
    have hcnt := fun (u : Int) (w' : World) (h : TabW w' (some ⟨gt, 0, none⟩) T S) => countM_any _ _ _ u w' h.tab (h.mild _)
    have hprt := fun (u j : Int) (w' : World) (h : TabW w' (some ⟨gt, 0, none⟩) T S) => partM_any _ _ _ u j w' h.tab (h.mild _)
    have hoff := fun (u j : Int) (w' : World) (h : TabW w' (some ⟨gt, 0, none⟩) T S) => offM_any _ _ _ u j w' h
    have hsb := (hY.size ty).2.2
    clear hv hvv h hr hY hl hp dp
    go_enter Tryz.func25, Tryz.ntmps25
    go_wp2_with fail
    go_step3
    go_wp2_with fail
    refine hpl.mono ?_
    rintro e w1 ⟨rfl, hb1⟩
    clear hpl
    go_wp2_with fail
    go_step3
    go_wp2_with fail
    go_loopg [1, 9, 10, 27] n (fun q t a e i wr => ∃ (k : Nat) (u av : Int), k + q = n ∧ t = .int .u32 u ∧ a = .int .i64 av ∧ e = .int .i64 0 ∧ i = .int .i64 (k : Nat) ∧ Hid (v = chW T av u (l.drop k)) ∧ Hid (0 < (T u).size) ∧ 0 ≤ av ∧ av + (T u).size ≤ (T ty).size ∧ Below w.heap.size w wr)
    case atStart => exact ⟨0, ty, 0, by omega, rfl, rfl, rfl, rfl, HV, HP, Int.le_refl _, by omega, hb1⟩
    case round =>
      obtain ⟨k, u, av, hkq, rfl, rfl, rfl, rfl, HK, HU, ha0, ha1, hbr⟩ := hrel
      by_cases hlt : k < n
      · have d1 : decide (((k : Nat) : Int) < (n : Nat)) = true := by rw [decide_eq_true_eq]; omega
        have hlt2 : ((k : Nat) : Int) < (n : Nat) := by omega
        obtain ⟨b, off, rfl, hbb, hcc⟩ := (HR.out.below hbr).ints (by omega)
        have c0 := hcc k hlt
        have hdk : l.drop k = ix l k :: l.drop (k + 1) := by rw [ix_of (by omega)]; exact List.drop_eq_getElem_cons (by omega)
        have hk1 := HK.out
        rw [hdk] at hk1
        unfold chW at hk1
        have hxl := HL.out (ix l k) (ix_in (by omega))
        have hcb := cnt_bd HY.out u
        have hcn := hcnt u
        generalize ix l k = x at *
        by_cases h0 : cntT (T u) = 0
        · rw [if_pos h0] at hk1
          rw [h0] at hcn
          have HK1 := Lib.hid hk1
          clear hk1 hdk h0 hcc HK hcb
          go_wp2_with fail
          refine (hcn wr (HT.out.step hbr)).mono ?_
          rintro e w2 ⟨rfl, hb2⟩
          have hb3 := below_cut hbr hb2 (Nat.le_refl _)
          clear hcn hb2
          go_wp2_with fail
          rw [Exit.noGoto_ret]
          go_ret3
          exact ⟨by rw [HK1.out]; rfl, hb3⟩
        · rw [if_neg h0] at hk1
          have hpi := part_in HY.out HU.out (k := min x (cntT (T u) - 1)) (by omega) (by omega)
          have hof := hoff u (min x (cntT (T u) - 1))
          have hpt := hprt u (min x (cntT (T u) - 1))
          have HK1 := Lib.hid hk1
          have HPI := Lib.hid hpi.1
          obtain ⟨-, hp2, hp3⟩ := hpi
          have z0 : (cntT (T u) == 0) = false := by rw [beq_eq_false_iff_ne]; exact h0
          have hc1 : 1 ≤ cntT (T u) := by omega
          clear hk1 hdk hcc HK h0
          generalize cntT (T u) = N at *
          have wN : IntKind.i64.wrap (N - 1) = N - 1 := IntWalk.i64_in _ (by omega)
          have wM : IntKind.u32.wrap (N - 1) = N - 1 := IntWalk.u32_in _ (by omega)
          have wM2 : (N - 1) % 4294967296 = N - 1 := by omega
          go_wp2_with fail
          refine (hcn wr (HT.out.step hbr)).mono ?_
          rintro e w2 ⟨rfl, hb2⟩
          have hb3 := below_cut hbr hb2 (Nat.le_refl _)
          clear hcn hb2
          go_wp2_with fail
          refine (hof w2 (HT.out.step hb3)).mono ?_
          rintro e w3 ⟨rfl, hb4⟩
          have hb5 := below_cut hb3 hb4 (Nat.le_refl _)
          clear hof hb4
          go_wp2_with fail
          refine (hpt w3 (HT.out.step hb5)).mono ?_
          rintro e w4 ⟨rfl, hb6⟩
          have hb7 := below_cut hb5 hb6 (Nat.le_refl _)
          clear hpt hb6
          generalize (offT T (T u) (min x (N - 1))).1 = o at *
          generalize (partT (T u) (min x (N - 1))).1 = u2 at *
          have wS : IntKind.i64.wrap (av + o) = av + o := IntWalk.i64_in _ (by have := HPI.out; omega)
          go_wp2_with fail
          go_roundg (n - (k + 1))
          case measure => omega
          case rel => exact ⟨k + 1, u2, av + o, by omega, rfl, rfl, rfl, by go_num, HK1, HPI, by omega, by omega, hb7⟩
      · have d1 : decide (((k : Nat) : Int) < (n : Nat)) = false := by rw [decide_eq_false_iff_not]; omega
        have hk1 := HK.out
        rw [List.drop_of_length_le (by omega)] at hk1
        have HK1 := Lib.hid hk1
        clear hk1 HK
        go_wp2_with fail
        rw [Exit.noGoto_ret]
        go_ret3
        exact ⟨by rw [HK1.out]; rfl, hbr⟩
  · have hv : chM T ty l = (0, 0, 100) := if_neg hp
    have dp : decide (0 < (T ty).size) = false := by rw [decide_eq_false_iff_not]; exact hp
    rw [hv]
    rw [dp] at hpl
    clear hv h hr hY hl hp dp
    go_enter Tryz.func25, Tryz.ntmps25
    go_wp2_with fail
    go_step3
    go_wp2_with fail
    refine hpl.mono ?_
    rintro e w1 ⟨rfl, hb1⟩
    go_wp2_with fail
    rw [Exit.noGoto_ret]
    go_ret3
    exact ⟨rfl, hb1⟩
end Go.Proofs.YtnhpjheiihiepaaGreatDoor
