/- Plain: what types of one text have in common. No program is named. -/
import Derived.Test.YtgdmbeamemdaiaaGreatDoorTyScan
import Derived.Test.YtgdmbeamemdaiaaGreatDoorTyForm
import Derived.Test.YtgdmbeamemdaiaaGreatDoorTO
namespace Go.Proofs.YtgdmbeamemdaiaaGreatDoor

/-! Numerals. -/
def valD (l : List UInt8) : Nat := l.foldl (fun v c => v * 10 + (c.toNat - 48)) 0
theorem valD_dec (u : Nat) : valD (Lib.decDigits u) = u := by
  induction u using Nat.strongRecOn with
  | _ u ih =>
    rw [Lib.decDigits]
    split
    · rename_i h
      show 0 * 10 + ((UInt8.ofNat (48 + u)).toNat - 48) = u
      rw [UInt8.toNat_ofNat']
      omega
    · rename_i h
      unfold valD
      rw [List.foldl_append]
      have := ih (u / 10) (by omega)
      unfold valD at this
      rw [this]
      show u / 10 * 10 + ((UInt8.ofNat (48 + u % 10)).toNat - 48) = u
      rw [UInt8.toNat_ofNat']
      omega
theorem itoa_inj {n m : Int} (hn : 0 ≤ n) (hm : 0 ≤ m) (h : Lib.itoa n = Lib.itoa m) : n = m := by
  obtain ⟨a, rfl⟩ : ∃ a : Nat, n = a := ⟨n.toNat, by omega⟩
  obtain ⟨b, rfl⟩ : ∃ b : Nat, m = b := ⟨m.toNat, by omega⟩
  rw [Lib.itoa_nonneg, Lib.itoa_nonneg] at h
  have := congrArg valD h
  rw [valD_dec, valD_dec] at this
  omega
theorem plain_digit {u : Nat} (h : u < 10) : UInt8.ofNat (48 + u) ≠ 40 ∧ UInt8.ofNat (48 + u) ≠ 41 ∧ UInt8.ofNat (48 + u) ≠ 44 := by
  have e : (UInt8.ofNat (48 + u)).toNat = 48 + u := by rw [UInt8.toNat_ofNat']; omega
  refine ⟨fun hc => ?_, fun hc => ?_, fun hc => ?_⟩
  · rw [hc] at e; have e2 : (40 : UInt8).toNat = 40 := rfl; omega
  · rw [hc] at e; have e2 : (41 : UInt8).toNat = 41 := rfl; omega
  · rw [hc] at e; have e2 : (44 : UInt8).toNat = 44 := rfl; omega
theorem plain_dec (u : Nat) : PlainW (Lib.decDigits u) := by
  induction u using Nat.strongRecOn with
  | _ u ih =>
    rw [Lib.decDigits]
    split
    · rename_i h
      intro c hc
      obtain rfl := List.mem_singleton.1 hc
      exact plain_digit h
    · rename_i h
      intro c hc
      rcases List.mem_append.1 hc with hc | hc
      · exact ih (u / 10) (by omega) c hc
      · obtain rfl := List.mem_singleton.1 hc
        exact plain_digit (by omega)
theorem plain_app {a b : List UInt8} (ha : PlainW a) (hb : PlainW b) : PlainW (a ++ b) := fun c hc => (List.mem_append.1 hc).elim (ha c) (hb c)
theorem plain_itoa {n : Int} (hn : 0 ≤ n) : PlainW (Lib.itoa n) := by
  obtain ⟨a, rfl⟩ : ∃ a : Nat, n = a := ⟨n.toNat, by omega⟩
  rw [Lib.itoa_nonneg]
  exact plain_dec a
theorem plain_vec : PlainW [118, 101, 99] := by unfold PlainW; decide
theorem plain_arr : PlainW [97, 114, 114, 97, 121] := by unfold PlainW; decide
theorem plain_str : PlainW [115, 116, 114, 117, 99, 116] := by unfold PlainW; decide
theorem plain_fn : PlainW [102, 110] := by unfold PlainW; decide
/-! The classes' names. -/
theorem class_plain : ((enumsOf 99).all fun x => x.2.all fun c => decide (c ≠ 40 ∧ c ≠ 41 ∧ c ≠ 44)) = true := by decide +kernel
theorem class_heads : ((enumsOf 99).all fun x => match x.2 with | c :: _ => decide (c ∉ [118, 98, 105, 117, 97, 115, 102]) | [] => false) = true := by decide +kernel
theorem class_apart : ((enumsOf 99).all fun x => (enumsOf 99).all fun y => decide (x.2 = y.2 → x.1 = y.1)) = true := by decide +kernel
theorem class_of {c : Int} (h : namedE 99 c = 0) : ∃ x ∈ enumsOf 99, x.1 = c ∧ enumN 99 c = x.2 := by
  unfold namedE at h
  split at h
  · rename_i h1
    unfold enumB at h1
    unfold enumN
    cases hf : (enumsOf 99).find? (fun x => x.1 == c) with
    | none =>
      rw [List.any_eq_true] at h1
      obtain ⟨x, hx, hc⟩ := h1
      exact absurd hc (List.find?_eq_none.1 hf x hx)
    | some x => exact ⟨x, List.mem_of_find?_eq_some hf, by simpa using List.find?_some hf, rfl⟩
  · cases h
theorem enumN_plain {c : Int} (h : namedE 99 c = 0) : PlainW (enumN 99 c) := by
  obtain ⟨x, hx, -, e⟩ := class_of h
  have h1 := class_plain
  rw [List.all_eq_true] at h1
  have h2 := h1 x hx
  rw [List.all_eq_true] at h2
  rw [e]
  intro k hk
  simpa using h2 k hk
theorem enumN_inj {c d : Int} (h : namedE 99 c = 0) (h' : namedE 99 d = 0) (he : enumN 99 c = enumN 99 d) : c = d := by
  obtain ⟨x, hx, rfl, e⟩ := class_of h
  obtain ⟨y, hy, rfl, e'⟩ := class_of h'
  have h1 := class_apart
  rw [List.all_eq_true] at h1
  have h2 := h1 x hx
  rw [List.all_eq_true] at h2
  have h3 := h2 y hy
  rw [decide_eq_true_eq] at h3
  exact h3 (by rw [← e, ← e', he])
/-! A text tells its kind. -/
def headK (l : List UInt8) : Int :=
  if l.getD 0 0 = 118 then (if l.getD 1 0 = 111 then 1 else 4) else if l.getD 0 0 = 98 then 2 else if l.getD 0 0 = 105 ∨ l.getD 0 0 = 117 then 3
  else if l.getD 0 0 = 97 then 5 else if l.getD 0 0 = 115 then 6 else if l.getD 0 0 = 102 then 8 else if l = [] then 0 else 7
theorem headK_cons {c : UInt8} {r : List UInt8} (h : c ∉ [118, 98, 105, 117, 97, 115, 102]) : headK (c :: r) = 7 := by
  simp only [List.mem_cons, List.not_mem_nil, or_false, not_or] at h
  obtain ⟨h1, h2, h3, h4, h5, h6, h7⟩ := h
  have e : (c :: r).getD 0 0 = c := rfl
  unfold headK
  rw [e, if_neg h1, if_neg h2, if_neg (by rintro (h | h); exact h3 h; exact h4 h), if_neg h5, if_neg h6, if_neg h7, if_neg (by simp)]
theorem Typed.head {T : Int → TyI} (h : Typed T) (q : Nat) (id : Int) : headK (textT T (q + 1) id) = (T id).kind := by
  rcases h.ok id with h1 | ⟨b, h1⟩
  · unfold textT
    rw [h1]
    rfl
  · unfold textT
    generalize hx : T id = x at *
    cases h1 with
    | void => rfl
    | bool => rfl
    | int s => cases s <;> rfl
    | vec p n h1 h2 h3 h4 => rfl
    | arr p n h1 h2 h3 h4 h5 h6 => rfl
    | str l s d h1 h2 h3 h4 h5 h6 => rfl
    | ptr c p h1 h2 h3 =>
      obtain ⟨x, hx, -, e⟩ := class_of h3
      have h4 := class_heads
      rw [List.all_eq_true] at h4
      have h5 := h4 x hx
      show headK (ofL (enumN 99 c) [textT T q p]) = 7
      rw [e]
      cases hs : x.2 with
      | nil => rw [hs] at h5; cases h5
      | cons k r =>
        rw [hs] at h5
        exact headK_cons (by simpa using h5)
    | fn l h1 h2 h3 h4 => rfl
theorem text_shut {T : Int → TyI} (h : Typed T) : ∀ (q : Nat) (id : Int), Shut (textT T q id)
  | 0, _ => rfl
  | q + 1, id => by
    have ih := text_shut h q
    rcases h.ok id with h1 | ⟨b, h1⟩
    · unfold textT
      rw [h1]
      rfl
    · unfold textT
      generalize hx : T id = x at *
      cases h1 with
      | void => rfl
      | bool => rfl
      | int s => cases s <;> rfl
      | vec p n h1 h2 h3 h4 => exact ofL_shut (plain_app plain_vec (plain_itoa (show 0 ≤ n by omega))) (fun a ha => by obtain rfl := List.mem_singleton.1 ha; exact ih p)
      | arr p n h1 h2 h3 h4 h5 h6 => exact ofL_shut (plain_app plain_arr (plain_itoa (show 0 ≤ n by omega))) (fun a ha => by obtain rfl := List.mem_singleton.1 ha; exact ih p)
      | str l s d h1 h2 h3 h4 h5 h6 => exact ofL_shut plain_str (fun a ha => by obtain ⟨p, -, rfl⟩ := List.mem_map.1 ha; exact ih p)
      | ptr c p h1 h2 h3 => exact ofL_shut (enumN_plain h3) (fun a ha => by obtain ⟨p, -, rfl⟩ := List.mem_map.1 ha; exact ih p)
      | fn l h1 h2 h3 h4 => exact ofL_shut plain_fn (fun a ha => by obtain ⟨p, -, rfl⟩ := List.mem_map.1 ha; exact ih p)
/-- what two types of one text have in common -/
structure SameT (T : Int → TyI) (q : Nat) (x y : TyI) : Prop where
  kind : x.kind = y.kind
  sign : x.signed = y.signed
  times : x.times = y.times
  cls : x.cls = y.cls
  part : x.kind = 4 ∨ x.kind = 5 → textT T q x.part = textT T q y.part
  parts : x.parts.map (textT T q) = y.parts.map (textT T q)
theorem text_same {T : Int → TyI} (h : Typed T) {q : Nat} {a b : Int} (he : textT T (q + 1) a = textT T (q + 1) b) : SameT T q (T a) (T b) := by
  have hk : (T a).kind = (T b).kind := by rw [← h.head q a, ← h.head q b, he]
  have hS := text_shut h q
  have one : ∀ p (t : List UInt8), t ∈ [textT T q p] → Shut t := fun p t ht => by obtain rfl := List.mem_singleton.1 ht; exact hS p
  have all : ∀ (l : List Int) (t : List UInt8), t ∈ l.map (textT T q) → Shut t := fun l t ht => by obtain ⟨p, -, rfl⟩ := List.mem_map.1 ht; exact hS p
  have ne : ∀ l : List Int, 1 ≤ l.length → l.map (textT T q) ≠ [] := fun l hl hc => by rw [List.map_eq_nil_iff] at hc; rw [hc] at hl; exact absurd hl (by decide)
  unfold textT at he
  rcases h.ok a with h1 | ⟨b1, h1⟩
  · rcases h.ok b with h2 | ⟨b2, h2⟩
    · rw [h1, h2]
      exact ⟨rfl, rfl, rfl, rfl, fun h => rfl, rfl⟩
    · have := h2.kind
      rw [h1] at hk
      have e : ty0.kind = 0 := rfl
      omega
  · rcases h.ok b with h2 | ⟨b2, h2⟩
    · have := h1.kind
      rw [h2] at hk
      have e : ty0.kind = 0 := rfl
      omega
    · generalize hx : T a = x at *
      generalize hy : T b = y at *
      cases h1 <;> cases h2 <;> try (simp at hk; done)
      · exact ⟨rfl, rfl, rfl, rfl, fun h => rfl, rfl⟩
      · exact ⟨rfl, rfl, rfl, rfl, fun h => rfl, rfl⟩
      · rename_i s s'
        have : s = s' := by
          have e9 : (if s = true then [105, 110, 116] else [117, 105, 110, 116] : List UInt8) = (if s' = true then [105, 110, 116] else [117, 105, 110, 116]) := he
          cases s <;> cases s' <;> first | rfl | (exact absurd e9 (by decide))
        subst this
        exact ⟨rfl, rfl, rfl, rfl, fun h => rfl, rfl⟩
      · rename_i p n g1 g2 g3 g4 p' n' k1 k2 k3 k4
        obtain ⟨e1, e2⟩ := ofL_inj (plain_app plain_vec (plain_itoa (show 0 ≤ n by omega))) (plain_app plain_vec (plain_itoa (show 0 ≤ n' by omega))) (by simp) (by simp) (one p) (one p') he
        obtain rfl := itoa_inj (by omega) (by omega) (List.append_cancel_left e1)
        exact ⟨rfl, rfl, rfl, rfl, fun h => by injection e2, rfl⟩
      · rename_i p n g1 g2 g3 g4 g5 g6 p' n' k1 k2 k3 k4 k5 k6
        obtain ⟨e1, e2⟩ := ofL_inj (plain_app plain_arr (plain_itoa (show 0 ≤ n by omega))) (plain_app plain_arr (plain_itoa (show 0 ≤ n' by omega))) (by simp) (by simp) (one p) (one p') he
        obtain rfl := itoa_inj (by omega) (by omega) (List.append_cancel_left e1)
        exact ⟨rfl, rfl, rfl, rfl, fun h => by injection e2, rfl⟩
      · rename_i l s d g1 g2 g3 g4 g5 g6 l' s' d' k1 k2 k3 k4 k5 k6
        obtain ⟨e1, e2⟩ := ofL_inj plain_str plain_str (ne l g3) (ne l' k3) (all l) (all l') he
        exact ⟨rfl, rfl, rfl, rfl, fun h => absurd h (by show ¬ ((6 : Int) = 4 ∨ (6 : Int) = 5); decide), e2⟩
      · rename_i c p g1 g2 g3 c' p' k1 k2 k3
        obtain ⟨e1, e2⟩ := ofL_inj (enumN_plain g3) (enumN_plain k3) (ne [p] (by simp)) (ne [p'] (by simp)) (all [p]) (all [p']) he
        obtain rfl := enumN_inj g3 k3 e1
        exact ⟨rfl, rfl, rfl, rfl, fun h => absurd h (by show ¬ ((7 : Int) = 4 ∨ (7 : Int) = 5); decide), e2⟩
      · rename_i l g1 g2 g3 g4 l' k1 k2 k3 k4
        obtain ⟨e1, e2⟩ := ofL_inj plain_fn plain_fn (ne l g3) (ne l' k3) (all l) (all l') he
        exact ⟨rfl, rfl, rfl, rfl, fun h => absurd h (by show ¬ ((8 : Int) = 4 ∨ (8 : Int) = 5); decide), e2⟩
theorem sum_same {f : Int → List UInt8} {g : Int → Int} : ∀ {l m : List Int}, l.map f = m.map f → (∀ p ∈ l, ∀ r ∈ m, f p = f r → g p = g r) → (l.map g).sum = (m.map g).sum
  | [], [], _, _ => rfl
  | [], _ :: _, h, _ => by cases h
  | _ :: _, [], h, _ => by cases h
  | x :: l, y :: m, h, hg => by
    rw [List.map_cons, List.map_cons] at h
    injection h with h1 h2
    rw [List.map_cons, List.map_cons, List.sum_cons, List.sum_cons, hg x List.mem_cons_self y List.mem_cons_self h1, sum_same h2 (fun p hp r hr => hg p (List.mem_cons_of_mem _ hp) r (List.mem_cons_of_mem _ hr))]
theorem map_same {f : Int → List UInt8} : ∀ {l m : List Int}, l.map f = m.map f → (∀ p ∈ l, ∀ r ∈ m, f p = f r → p = r) → l = m
  | [], [], _, _ => rfl
  | [], _ :: _, h, _ => by cases h
  | _ :: _, [], h, _ => by cases h
  | x :: l, y :: m, h, hg => by
    rw [List.map_cons, List.map_cons] at h
    injection h with h1 h2
    rw [hg x List.mem_cons_self y List.mem_cons_self h1, map_same h2 (fun p hp r hr => hg p (List.mem_cons_of_mem _ hp) r (List.mem_cons_of_mem _ hr))]
/-- sizes by kinds -/
theorem Typed.sizeK {T : Int → TyI} (h : Typed T) (a : Int) :
    (T a).size = if (T a).kind = 2 ∨ (T a).kind = 3 then 1 else if (T a).kind = 4 then (T a).times else if (T a).kind = 5 then (T a).times * (T (T a).part).size else if (T a).kind = 6 then ((T a).parts.map fun p => (T p).size).sum else 0 := by
  rcases h.ok a with h1 | ⟨b, h1⟩
  · rw [h1]; rfl
  · generalize hx : T a = x at *
    cases h1 with
    | void => rfl
    | bool => rfl
    | int s => rfl
    | vec p n h1 h2 h3 h4 => rfl
    | arr p n h1 h2 h3 h4 h5 h6 => rfl
    | str l s d h1 h2 h3 h4 h5 h6 =>
      have := (memR_sum h1).1
      show s = (l.map fun p => (T p).size).sum
      omega
    | ptr c p h1 h2 h3 => rfl
    | fn l h1 h2 h3 h4 => rfl
theorem size_same {T : Int → TyI} (h : Typed T) : ∀ {q : Nat} {a b : Int}, rankT (T a) < (q : Int) → textT T q a = textT T q b → (T a).size = (T b).size
  | 0, a, b, hq, _ => absurd hq (by have := (rankT_bd h a).1; omega)
  | q + 1, a, b, hq, he => by
    have hS := text_same h he
    have ih := fun p (hp : rankT (T p) < rankT (T a)) r (e : textT T q p = textT T q r) => size_same h (q := q) (a := p) (b := r) (by omega) e
    rw [h.sizeK a, h.sizeK b, ← hS.kind, ← hS.times]
    by_cases h1 : (T a).kind = 2 ∨ (T a).kind = 3
    · rw [if_pos h1, if_pos h1]
    rw [if_neg h1, if_neg h1]
    by_cases h2 : (T a).kind = 4
    · rw [if_pos h2, if_pos h2]
    rw [if_neg h2, if_neg h2]
    by_cases h3 : (T a).kind = 5
    · rw [if_pos h3, if_pos h3, ih _ (rankT_part h (.inr h3)) _ (hS.part (.inr h3))]
    rw [if_neg h3, if_neg h3]
    by_cases h4 : (T a).kind = 6
    · rw [if_pos h4, if_pos h4]
      exact sum_same hS.parts (fun p hp r _ e => ih p (rankT_parts h p hp) r e)
    · rw [if_neg h4, if_neg h4]
theorem cnt_same {T : Int → TyI} {q : Nat} {x y : TyI} (h : SameT T q x y) : cntT x = cntT y := by
  have := congrArg List.length h.parts
  rw [List.length_map, List.length_map] at this
  unfold cntT
  rw [h.times, this]
/-- more calls do not change a text -/
theorem text_fuel {T : Int → TyI} (h : Typed T) : ∀ (q r : Nat) (id : Int), rankT (T id) < (q : Int) → q ≤ r → textT T r id = textT T q id
  | 0, r, id, hq, _ => absurd hq (by have := (rankT_bd h id).1; omega)
  | q + 1, r, id, hq, hr => by
    obtain ⟨r', rfl⟩ : ∃ r', r = r' + 1 := ⟨r - 1, by omega⟩
    have ih := fun p (hp : rankT (T p) < rankT (T id)) => text_fuel h q r' p (by omega) (by omega)
    have e1 : (T id).kind = 4 ∨ (T id).kind = 5 → textT T r' (T id).part = textT T q (T id).part := fun hk => ih _ (rankT_part h hk)
    have e2 : (T id).parts.map (textT T r') = (T id).parts.map (textT T q) := List.map_congr_left (fun p hp => ih p (rankT_parts h p hp))
    unfold textT
    rw [e2]
    by_cases h4 : (T id).kind = 4
    · rw [e1 (.inl h4)]
    by_cases h5 : (T id).kind = 5
    · rw [e1 (.inr h5)]
    simp only [h4, h5, if_false]
theorem times_kind {T : Int → TyI} (h : Typed T) (a : Int) : 0 < (T a).times ↔ (T a).kind = 4 ∨ (T a).kind = 5 := by
  rcases h.ok a with h1 | ⟨b, h1⟩
  · rw [h1]; simp [ty0]
  · generalize hx : T a = x at *
    cases h1 <;> simp [ty0] <;> omega
/-- the first parts of types of one text are of one text -/
theorem first_same {T : Int → TyI} (h : Typed T) {q : Nat} {a b : Int} (hq : rankT (T a) < ((q + 1 : Nat) : Int)) (hq' : rankT (T b) < ((q + 1 : Nat) : Int)) (he : textT T (q + 1) a = textT T (q + 1) b) :
    textT T (q + 1) (partT (T a) 0).1 = textT T (q + 1) (partT (T b) 0).1 := by
  have hS := text_same h he
  unfold partT
  rw [← cnt_same hS, ← hS.times]
  split
  · rfl
  · rename_i h1
    have hup : ∀ p r, rankT (T p) < rankT (T a) → rankT (T r) < rankT (T b) → textT T q p = textT T q r → textT T (q + 1) p = textT T (q + 1) r := fun p r hp hr e => by
      rw [text_fuel h q (q + 1) p (by omega) (by omega), text_fuel h q (q + 1) r (by omega) (by omega), e]
    split
    · rename_i h2
      have hk := (times_kind h a).1 h2
      exact hup _ _ (rankT_part h hk) (rankT_part h (by rw [← hS.kind]; exact hk)) (hS.part hk)
    · rename_i h2
      have hp := hS.parts
      have hra := rankT_parts h (id := a)
      have hrb := rankT_parts h (id := b)
      have hc : 0 < (T a).parts.length := by unfold cntT at h1; omega
      show textT T (q + 1) (ix (T a).parts 0) = textT T (q + 1) (ix (T b).parts 0)
      generalize (T a).parts = l at *
      generalize (T b).parts = m at *
      cases l with
      | nil => exact absurd hc (Nat.lt_irrefl 0)
      | cons x r =>
        cases m with
        | nil => cases hp
        | cons y s =>
          rw [List.map_cons, List.map_cons] at hp
          injection hp with e1 e2
          exact hup x y (hra x List.mem_cons_self) (hrb y List.mem_cons_self) e1
/-- is a type neither an array nor a struct, nor are its parts -/
def allS (f : Int → Bool) (x : TyI) : Nat → Bool
  | 0 => true
  | n + 1 => allS f x n && f (partT x (n : Nat)).1
def simpleT (T : Int → TyI) : Nat → Int → Bool
  | 0, _ => false
  | q + 1, id => if (T id).kind = 5 ∨ (T id).kind = 6 then false else allS (simpleT T q) (T id) (cntT (T id)).toNat
theorem allS_true {f : Int → Bool} {x : TyI} : ∀ {n : Nat}, allS f x n = true → ∀ k, k < n → f (partT x (k : Nat)).1 = true
  | 0, _, k, hk => absurd hk (Nat.not_lt_zero k)
  | n + 1, h, k, hk => by
    unfold allS at h
    rw [Bool.and_eq_true] at h
    rcases Nat.lt_succ_iff_lt_or_eq.1 hk with h1 | rfl
    · exact allS_true h.1 k h1
    · exact h.2
theorem allS_false {f : Int → Bool} {x : TyI} {j : Nat} (h : f (partT x (j : Nat)).1 = false) : ∀ n, j < n → allS f x n = false
  | 0, hk => absurd hk (Nat.not_lt_zero j)
  | n + 1, hk => by
    unfold allS
    rcases Nat.lt_succ_iff_lt_or_eq.1 hk with h1 | rfl
    · rw [allS_false h n h1]; rfl
    · rw [h, Bool.and_false]
theorem partT_list {x : TyI} {j : Nat} (ht : x.times = 0) (hj : j < x.parts.length) : (partT x (j : Nat)).1 = x.parts[j] := by
  unfold partT cntT
  rw [ht, if_neg (by omega), if_neg (by omega)]
  exact ix_of hj
/-- types of one text, of which one is simple, are one -/
theorem simple_same {s : StN} (hw : WellS s) (ho : OnceF s) : ∀ {q : Nat} {a b : Int}, textT s.T q a = textT s.T q b → simpleT s.T q a = true → a ∈ s.ord → b ∈ s.ord → a = b
  | 0, _, _, _, h, _, _ => by cases h
  | q + 1, a, b, he, hs, ha, hb => by
    have hY := hw.typed
    have hS := text_same hY he
    unfold simpleT at hs
    by_cases h56 : (s.T a).kind = 5 ∨ (s.T a).kind = 6
    · rw [if_pos h56] at hs; cases hs
    rw [if_neg h56] at hs
    have hal := allS_true hs
    have h5 : (s.T a).kind ≠ 5 := fun h => h56 (.inl h)
    have h6 : (s.T a).kind ≠ 6 := fun h => h56 (.inr h)
    have ih := fun p r => simple_same hw ho (q := q) (a := p) (b := r)
    refine ho.one a ha b hb h5 h6 ?_
    clear hs h56
    have inn : ∀ k (hk : k < s.ord.length) p, p ∈ s.ord.take k → p ∈ s.ord := fun k hk p hp => List.mem_of_mem_take hp
    obtain ⟨ka, hka, -, h1⟩ := (hw.ok a).resolve_left (fun h0 => by
      obtain ⟨k, hk, rfl⟩ := List.getElem_of_mem ha
      have := (hw.made k hk).kind
      rw [h0] at this
      exact absurd this.1 (by decide))
    obtain ⟨kb, hkb, -, h2⟩ := (hw.ok b).resolve_left (fun h0 => by
      obtain ⟨k, hk, rfl⟩ := List.getElem_of_mem hb
      have := (hw.made k hk).kind
      rw [h0] at this
      exact absurd this.1 (by decide))
    have ia := inn ka hka
    have ib := inn kb hkb
    generalize s.ord.take ka = la at *
    generalize s.ord.take kb = lb at *
    have hk := hS.kind
    generalize hx : s.T a = x at *
    generalize hy : s.T b = y at *
    cases h1 <;> cases h2 <;> try (simp at hk h5 h6; done)
    · rfl
    · rfl
    · have := hS.sign
      dsimp only at this
      rw [this]
    · rename_i p n g1 g2 g3 g4 p' n' k1 k2 k3 k4
      have e := hS.times
      dsimp only at e
      subst e
      have hp0 : (partT { ty0 with kind := 4, part := p, times := n, size := n, depth := (s.T p).depth + 1 } ((0 : Nat) : Int)).1 = p := by
        unfold partT cntT
        rw [if_neg (by dsimp only [ty0]; simp; omega), if_pos (by dsimp only; omega)]
      have hsp := hal 0 (by unfold cntT; dsimp only [ty0]; simp; omega)
      rw [hp0] at hsp
      obtain rfl := ih p p' (hS.part (.inl rfl)) hsp (ia _ g1) (ib _ k1)
      rfl
    · rename_i c p g1 g2 g3 c' p' k1 k2 k3
      have e := hS.cls
      dsimp only at e
      subst e
      have e2 := hS.parts
      injection e2 with e2 _
      have hsp : simpleT s.T q p = true := hal 0 (by show (0 : Nat) < 1; decide)
      obtain rfl := ih p p' e2 hsp (ia _ g1) (ib _ k1)
      rfl
    · rename_i l g1 g2 g3 g4 l' k1 k2 k3 k4
      have e : l = l' := map_same hS.parts (fun p hp r hr e => by
        obtain ⟨j, hj, rfl⟩ := List.getElem_of_mem hp
        have hsp := hal j (by unfold cntT; dsimp only [ty0]; omega)
        have hpj : (partT { ty0 with kind := 8, parts := l } ((j : Nat) : Int)).1 = l[j] := by
          exact partT_list rfl hj
        rw [hpj] at hsp
        exact ih _ _ e hsp (ia _ (g2 _ hp)) (ib _ (k2 _ hr)))
      subst e
      rfl
end Go.Proofs.YtgdmbeamemdaiaaGreatDoor
