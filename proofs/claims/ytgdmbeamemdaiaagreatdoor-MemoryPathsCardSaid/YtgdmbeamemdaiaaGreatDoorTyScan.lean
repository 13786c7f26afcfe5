/- Plain: a list of closed words is read off its text in one way. No program is named. -/
import Derived.Test.YtgdmbeamemdaiaaGreatDoorTN
namespace Go.Proofs.YtgdmbeamemdaiaaGreatDoor

/-- how deep brackets stand behind a word; none: a comma or a bracket stands outside -/
def scanW : Nat → List UInt8 → Option Nat
  | d, [] => some d
  | d, c :: r => if c = 40 then scanW (d + 1) r else if c = 41 then (if d = 0 then none else scanW (d - 1) r) else if c = 44 ∧ d = 0 then none else scanW d r
theorem scanW_cons (d : Nat) (c : UInt8) (r : List UInt8) :
    scanW d (c :: r) = if c = 40 then scanW (d + 1) r else if c = 41 then (if d = 0 then none else scanW (d - 1) r) else if c = 44 ∧ d = 0 then none else scanW d r := rfl
theorem scanW_append : ∀ (a b : List UInt8) (d : Nat), scanW d (a ++ b) = (scanW d a).bind fun e => scanW e b
  | [], b, d => rfl
  | c :: r, b, d => by
    rw [show c :: r ++ b = c :: (r ++ b) from rfl, scanW_cons, scanW_cons]
    split
    · exact scanW_append r b _
    · split
      · split
        · rfl
        · exact scanW_append r b _
      · split
        · rfl
        · exact scanW_append r b _
theorem scanW_deeper : ∀ (a : List UInt8) (d e : Nat), scanW d a = some e → scanW (d + 1) a = some (e + 1)
  | [], d, e, h => by
    have h1 : some d = some e := h
    cases h1
    rfl
  | c :: r, d, e, h => by
    unfold scanW at h ⊢
    split at h
    · rename_i h1; rw [if_pos h1]; exact scanW_deeper r _ _ h
    · rename_i h1
      rw [if_neg h1]
      split at h
      · rename_i h2
        rw [if_pos h2, if_neg (by omega)]
        split at h
        · cases h
        · rename_i h3
          have := scanW_deeper r _ _ h
          rwa [show d - 1 + 1 = d + 1 - 1 by omega] at this
      · rename_i h2
        rw [if_neg h2, if_neg (by rintro ⟨-, h4⟩; omega)]
        split at h
        · cases h
        · exact scanW_deeper r _ _ h
/-- a word whose brackets are shut, with no comma outside -/
def Shut (a : List UInt8) : Prop := scanW 0 a = some 0
theorem Shut.no_comma {a x : List UInt8} (h : Shut a) (h' : Shut (a ++ 44 :: x)) : False := by
  unfold Shut at h h'
  rw [scanW_append, h] at h'
  change scanW 0 (44 :: x) = some 0 at h'
  unfold scanW at h'
  simp at h'
theorem join_one (x : List UInt8) : Lib.join [x] [44] = x := by simp [Lib.join]
theorem join_more (x y : List UInt8) (r : List (List UInt8)) : Lib.join (x :: y :: r) [44] = x ++ 44 :: Lib.join (y :: r) [44] := by
  unfold Lib.join
  rw [List.intercalate_cons_cons]
  simp
/-- the words are read off -/
theorem join_inj : ∀ {l m : List (List UInt8)}, l ≠ [] → m ≠ [] → (∀ a ∈ l, Shut a) → (∀ a ∈ m, Shut a) → Lib.join l [44] = Lib.join m [44] → l = m
  | [], _, h, _, _, _, _ => absurd rfl h
  | _, [], _, h, _, _, _ => absurd rfl h
  | [x], [y], _, _, _, _, h => by rw [join_one, join_one] at h; rw [h]
  | [x], y :: z :: r, _, _, hl, hm, h => by
    rw [join_one, join_more] at h
    have h1 := hl x List.mem_cons_self
    rw [h] at h1
    exact ((hm y List.mem_cons_self).no_comma h1).elim
  | x :: z :: r, [y], _, _, hl, hm, h => by
    rw [join_one, join_more] at h
    have h1 := hm y List.mem_cons_self
    rw [← h] at h1
    exact ((hl x List.mem_cons_self).no_comma h1).elim
  | x :: z :: r, y :: u :: s, _, _, hl, hm, h => by
    rw [join_more, join_more] at h
    have hx := hl x List.mem_cons_self
    have hy := hm y List.mem_cons_self
    have hxy : x = y ∧ Lib.join (z :: r) [44] = Lib.join (u :: s) [44] := by
      rcases List.append_eq_append_iff.1 h with ⟨c, h1, h2⟩ | ⟨c, h1, h2⟩
      · cases c with
        | nil => simp at h1 h2; exact ⟨h1.symm, h2⟩
        | cons k t =>
          simp at h2
          obtain ⟨rfl, -⟩ := h2
          rw [h1] at hy
          exact (hx.no_comma hy).elim
      · cases c with
        | nil => simp at h1 h2; exact ⟨h1, h2.symm⟩
        | cons k t =>
          simp at h2
          obtain ⟨rfl, -⟩ := h2
          rw [h1] at hx
          exact (hy.no_comma hx).elim
    rw [hxy.1, join_inj (by simp) (by simp) (fun a ha => hl a (List.mem_cons_of_mem _ ha)) (fun a ha => hm a (List.mem_cons_of_mem _ ha)) hxy.2]
/-- a name bears no sign -/
def PlainW (a : List UInt8) : Prop := ∀ c ∈ a, c ≠ 40 ∧ c ≠ 41 ∧ c ≠ 44
theorem PlainW.scan : ∀ {a : List UInt8} {d : Nat}, PlainW a → scanW d a = some d
  | [], _, _ => rfl
  | c :: r, d, h => by
    have h1 := h c List.mem_cons_self
    unfold scanW
    rw [if_neg h1.1, if_neg h1.2.1, if_neg (by rintro ⟨h2, -⟩; exact h1.2.2 h2)]
    exact PlainW.scan (fun c hc => h c (List.mem_cons_of_mem _ hc))
theorem scanW_join : ∀ {l : List (List UInt8)}, (∀ a ∈ l, Shut a) → scanW 1 (Lib.join l [44]) = some 1
  | [], _ => rfl
  | [x], h => by rw [join_one]; exact scanW_deeper _ _ _ (h x List.mem_cons_self)
  | x :: y :: r, h => by
    have ih := scanW_join (l := y :: r) (fun a ha => h a (List.mem_cons_of_mem _ ha))
    rw [join_more, scanW_append, scanW_deeper _ _ _ (h x List.mem_cons_self)]
    show scanW 1 (44 :: Lib.join (y :: r) [44]) = some 1
    unfold scanW
    simp
    exact ih
theorem ofL_shut {name : List UInt8} {l : List (List UInt8)} (hn : PlainW name) (hl : ∀ a ∈ l, Shut a) : Shut (ofL name l) := by
  unfold Shut ofL
  rw [scanW_append, scanW_append, scanW_append, hn.scan]
  show ((scanW 0 [40]).bind fun e => scanW e (Lib.join l [44])).bind (fun e => scanW e [41]) = some 0
  have e1 : scanW 0 [40] = some 1 := rfl
  rw [e1]
  show (scanW 1 (Lib.join l [44])).bind (fun e => scanW e [41]) = some 0
  rw [scanW_join hl]
  rfl
/-- a name and its words are read off -/
theorem ofL_inj {n m : List UInt8} {l k : List (List UInt8)} (hn : PlainW n) (hm : PlainW m) (hl : l ≠ []) (hk : k ≠ []) (h1 : ∀ a ∈ l, Shut a) (h2 : ∀ a ∈ k, Shut a) (h : ofL n l = ofL m k) : n = m ∧ l = k := by
  unfold ofL at h
  have h3 := List.append_cancel_right h
  simp only [List.append_assoc, List.singleton_append] at h3
  have hxy : n = m ∧ Lib.join l [44] = Lib.join k [44] := by
    rcases List.append_eq_append_iff.1 h3 with ⟨c, g1, g2⟩ | ⟨c, g1, g2⟩
    · cases c with
      | nil => simp at g1 g2; exact ⟨g1.symm, g2⟩
      | cons x t =>
        simp at g2
        obtain ⟨rfl, -⟩ := g2
        exact absurd rfl (hm 40 (by rw [g1]; simp)).1
    · cases c with
      | nil => simp at g1 g2; exact ⟨g1, g2.symm⟩
      | cons x t =>
        simp at g2
        obtain ⟨rfl, -⟩ := g2
        exact absurd rfl (hn 40 (by rw [g1]; simp)).1
  exact ⟨hxy.1, join_inj hl hk h1 h2 hxy.2⟩
end Go.Proofs.YtgdmbeamemdaiaaGreatDoor
