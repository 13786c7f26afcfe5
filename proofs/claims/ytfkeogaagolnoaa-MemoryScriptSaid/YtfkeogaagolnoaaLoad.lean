/- Walks: words of a room loaded and stored. -/
import Derived.Test.YtfkeogaagolnoaaWithin
import Derived.Laws.CopyOwn
namespace Go.Proofs.Ytfkeogaagolnoaa
open Go.RowKit

theorem ent_load : ∀ (w : World) (args : Array Value), (callFunc 27 args).run Try.prog w = .ok (.enter 27 args) w := fun w args => by kernel_rfl
theorem ent_store : ∀ (w : World) (args : Array Value), (callFunc 26 args).run Try.prog w = .ok (.enter 26 args) w := fun w args => by kernel_rfl

/-- what the closure of Load leaves -/
def Loaded (w : World) (go m : Nat) (x : List Int) (w' : World) : Prop := ∃ A' c', Blk w' go 28 #[.slice A' m c'] ∧ w'.ownsRow w.heap.size 36 1 (.slice A' m c') m (Ints .u32 x) ∧ Off (fun k => k = go) w w'

theorem load_clo (w : World) (go : Nat) (A0 : Option Addr) (m c0 : Nat) (x : List Int) (hm : m ≤ 35184372087808) (hb : Blk w go 28 #[.slice none 0 0]) (hr : Reads w w.heap.size 1 A0 m (Ints .u32 x)) :
    Calls Try.prog 27 #[.slice A0 m c0, .pointer (some ⟨go, 0, none⟩)] w fun e w' => e = .returned (.tuple #[]) ∧ Loaded w go m x w' := by
  go_enter Try.func27, Try.ntmps27
  go_wp2_with fail
  refine (clone_any A0 m c0 x _ hm hr).mono ?_
  rintro e w1 ⟨A1, c1, rfl, ho, hb1⟩
  have kb := hb.below hb1 hb.lt
  have p0 := kb.cell 0
  have p1 := kb.frozen 0
  simp at p0
  have hlt := hb.lt
  go_wp2
  go_end0
  refine ⟨rfl, A1, c1, by simpa using kb.set_ 0 (.slice A1 m c1), own_set_other ho (own_ne_low ho hlt) _, (Off.of_below (fun k => k = go) hb1).set_ (p := ⟨go, 0, none⟩) (.inl rfl) _⟩

set_option maxHeartbeats 1000000 in
theorem load_ok {w : World} {base g n c : Nat} {A : Option Addr} {bs : List (Nat × Nat)} {ls : List (List Int)} (h : MemS w base g A n c bs ls) (i : Nat) (l : List Int) (p m : Nat) (hl : ls[i]? = some l) (hm : p + m ≤ l.length) :
    Calls Try.prog 14 #[.pointer (some ⟨g, 0, none⟩), .int .i64 i, .int .i64 p, .int .i64 m] w fun e w' =>
      ∃ A' c', e = .returned (.tuple #[.slice A' m c', .int .i64 0]) ∧ w'.ownsRow w.heap.size 36 1 (.slice A' m c') m (Ints .u32 ((l.drop p).take m)) ∧ Below w.heap.size w w' := by
  have hjb : i < bs.length := by have := (List.getElem?_eq_some_iff.1 hl).1; have := h.rooms.len; omega
  have hb : bs[i]? = some bs[i] := List.getElem?_eq_getElem hjb
  have hll := total_mem (List.mem_of_getElem? hl)
  have htl := h.le
  have hO := Below.refl w.heap.size w |>.alloc (Nat.le_refl _) (.cells #[.slice none 0 0] 28)
  have h' := h.below hO
  go_enter Try.func14, Try.ntmps14
  go_wp2_with fail
  refine (within_ok h' i bs[i] l p m hb hl hm 27 _ (Loaded _ w.heap.size m ((l.drop p).take m)) ent_load (fun A0 hr _ => load_clo _ _ A0 m _ _ (by omega) (Blk.new _ _ _) hr)).mono ?_
  rintro e w1 ⟨rfl, A1, c1, kb, ho, hoff⟩
  have p0 := kb.cell 0
  simp at p0
  go_wp2
  go_ret2
  exact ⟨A1, c1, rfl, own_base ho (by simp), hO.trans (hoff.to_below _ (by simp) (fun k _ hk => by omega))⟩

theorem load_bad {w : World} {base g n c : Nat} {A : Option Addr} {bs : List (Nat × Nat)} {ls : List (List Int)} (h : MemS w base g A n c bs ls) (i p m : Int) (hi : -9223372036854775808 ≤ i ∧ i ≤ 9223372036854775807) (hp : -9223372036854775808 ≤ p ∧ p ≤ 9223372036854775807) (hm : -9223372036854775808 ≤ m ∧ m ≤ 9223372036854775807) (hbad : ¬ Fit ls i p m) :
    Calls Try.prog 14 #[.pointer (some ⟨g, 0, none⟩), .int .i64 i, .int .i64 p, .int .i64 m] w fun e w' => e = .returned (.tuple #[.slice none 0 0, .int .i64 220]) ∧ Below w.heap.size w w' := by
  have hO := Below.refl w.heap.size w |>.alloc (Nat.le_refl _) (.cells #[.slice none 0 0] 28)
  have h' := h.below hO
  go_enter Try.func14, Try.ntmps14
  go_wp2_with fail
  refine (within_bad h' i p m hi hp hm hbad _).mono ?_
  rintro e w1 ⟨rfl, rfl⟩
  go_wp2
  go_ret2
  exact ⟨rfl, hO⟩
/-- x laid over l from p on -/
def over (l : List Int) (p : Nat) (x : List Int) : List Int := l.take p ++ x ++ l.drop (p + x.length)
theorem over_length {l x : List Int} {p : Nat} (h : p + x.length ≤ l.length) : (over l p x).length = l.length := by
  simp only [over, List.length_append, List.length_take, List.length_drop]; omega
theorem over_nil (l : List Int) (p : Nat) : over l p [] = l := by simp [over]

theorem take_three {α : Type} {n : Nat} (P X D : List α) (h : P.length + X.length ≤ n) : (P ++ (X ++ D)).take n = P ++ (X ++ D.take (n - (P.length + X.length))) := by
  rw [List.take_append, List.take_append, List.take_of_length_le (by omega : P.length ≤ n), List.take_of_length_le (by omega : X.length ≤ n - P.length), Nat.sub_sub]
/-- a row of the call's own behind a copy into it -/
theorem own_over {w : World} {base g n c : Nat} {e : TypeId} {l x : List Int} {p : Nat} (h : w.ownsRow base e 1 (.slice (some ⟨g, 0, none⟩) n c) n (Ints .u32 l)) (hp : p + x.length ≤ n) :
    ∃ cur, w.heap[g]? = some (.cells cur e) ∧ p + x.length ≤ cur.size ∧
      (w.setRow g (cur.toList.take p ++ (Ints .u32 x ++ cur.toList.drop (p + x.length))).toArray).ownsRow base e 1 (.slice (some ⟨g, 0, none⟩) n c) n (Ints .u32 (over l p x)) := by
  have hl := own_len h
  rcases h.2 with ⟨hv, _⟩ | ⟨g', cap, cur, hv, hbg, hg, hnc, hcm, hcs, htake⟩
  · cases hv
  · cases hv
    have hsz : cur.toList.length = c := by rw [Array.length_toList]; omega
    refine ⟨cur, hg, by omega, ?_, .inr ⟨g, c, _, rfl, hbg, setRow_heap w g cur _ e _ hg, hnc, hcm, ?_, ?_⟩⟩
    · rw [Ints_length, over_length (by omega), hl, Nat.mul_one]
    · simp only [List.size_toArray, List.length_append, List.length_take, List.length_drop, hsz, Ints_length]
      omega
    · have ht : cur.toList.take n = Ints .u32 l := by rw [← htake, Nat.mul_one]
      have e1 : cur.toList.take p = Ints .u32 (l.take p) := by
        rw [Ints_take, ← ht, List.take_take, Nat.min_eq_left (by omega)]
      have e2 : (cur.toList.drop (p + x.length)).take (n - (p + x.length)) = Ints .u32 (l.drop (p + x.length)) := by
        rw [Ints_drop, ← ht, List.drop_take]
      have l1 : (cur.toList.take p).length = p := by rw [List.length_take]; omega
      simp only [Nat.mul_one]
      rw [take_three _ _ _ (by rw [l1, Ints_length]; exact hp), l1, Ints_length, e2, e1]
      unfold over
      rw [Ints_append, Ints_append, List.append_assoc]

/-- what the closure of Store leaves -/
def Stored (w : World) (base g c n : Nat) (l : List Int) (w' : World) : Prop := w'.ownsRow base 36 1 (.slice (some ⟨g, 0, none⟩) n c) n (Ints .u32 l) ∧ Off (fun k => k = g) w w'

theorem store_clo (w : World) (gw base g c n : Nat) (l x : List Int) (A0 Aw : Option Addr) (p c0 cw : Nat) (ho : w.ownsRow base 36 1 (.slice (some ⟨g, 0, none⟩) n c) n (Ints .u32 l)) (hp : p + x.length ≤ n) (hb : Blk w gw 28 #[.slice Aw x.length cw])
    (hr : Reads w w.heap.size 1 Aw x.length (Ints .u32 x)) (hA : 0 < x.length → A0 = some ⟨g, p, none⟩) :
    Calls Try.prog 26 #[.slice A0 x.length c0, .pointer (some ⟨gw, 0, none⟩)] w fun e w' => e = .returned (.tuple #[]) ∧ Stored w base g c n (over l p x) w' := by
  have p0 := hb.cell 0
  simp at p0
  have hsz : Option.map (fun x => x.size) (Try.prog.info? 36) = some 1 := by kernel_rfl
  rcases Nat.eq_zero_or_pos x.length with h0 | h0
  · have hx : x = [] := List.eq_nil_of_length_eq_zero h0
    subst hx
    go_enter Try.func26, Try.ntmps26
    go_wp2_with (with_reducible refine wpList_copy_nothing rfl _ _ 28 28 rfl 36 Try.underlying28 hsz A0 Aw _ c0 _ cw rfl rfl rfl ?_)
    go_end0
    exact ⟨rfl, by rw [over_nil]; exact ho, Off.refl _ _⟩
  · obtain ⟨cur, hg, hfit, hown⟩ := own_over ho hp
    obtain ⟨ad, rfl, _, hc⟩ := hr.2 h0
    have hA' := hA h0
    subst hA'
    go_enter Try.func26, Try.ntmps26
    go_wp2_with (with_reducible refine wpList_copy_own rfl _ _ 28 28 rfl 36 Try.underlying28 hsz g p x.length c0 ad x.length cw rfl rfl cur _ hg (Ints .u32 x) ?_ hc ?_ Ints_oneCell ?_)
    · simp [Ints_length]
    · rw [Ints_length]; exact hfit
    rw [Ints_length]
    go_wp2
    go_end0
    exact ⟨rfl, hown, Off.of_grown (row := some g) ⟨rfl, rfl, rfl, by simp, fun k _ hk => setRow_other _ g k _ (fun e => hk (by rw [e]))⟩ (fun k hk => by cases hk; rfl)⟩
theorem heads_set : ∀ {bs : List (Nat × Nat)} {ls : List (List Int)} {i : Nat} {l l' : List Int}, ls[i]? = some l → l'.length = l.length → heads bs (ls.set i l') = heads bs ls
  | [], [], _, _, _, h, _ => by simp at h
  | [], _ :: _, 0, _, _, _, _ => rfl
  | [], _ :: _, _ + 1, _, _, _, _ => rfl
  | _ :: _, [], _, _, _, h, _ => by simp at h
  | b :: bs, x :: ls, 0, l, l', h, hl => by simp at h; subst h; simp [heads, headV, hl]
  | b :: bs, x :: ls, i + 1, l, l', h, hl => by simp only [List.set_cons_succ, heads]; rw [heads_set (by simpa using h) hl]
theorem total_set : ∀ {ls : List (List Int)} {i : Nat} {l l' : List Int}, ls[i]? = some l → l'.length = l.length → total (ls.set i l') = total ls
  | [], _, _, _, h, _ => by simp at h
  | x :: ls, 0, l, l', h, hl => by simp at h; subst h; rw [List.set_cons_zero, total_cons, total_cons, hl]
  | x :: ls, i + 1, l, l', h, hl => by rw [List.set_cons_succ, total_cons, total_cons, total_set (by simpa using h) hl]

/-- one room's words have changed -/
theorem MemS.stored {w w' : World} {base g n c : Nat} {A : Option Addr} {bs : List (Nat × Nat)} {ls : List (List Int)} (h : MemS w base g A n c bs ls) {i : Nat} {b : Nat × Nat} {l l' : List Int} (hb : bs[i]? = some b) (hl : ls[i]? = some l) (hlen : l'.length = l.length) (hu : Under 4294967296 l')
    (ho : w'.ownsRow base 36 1 (headV b l) l.length (Ints .u32 l')) (hoff : Off (fun k => k = b.1) w w') : MemS w' base g A n c bs (ls.set i l') := by
  have hbm := List.mem_of_getElem? hb
  have hlm := List.mem_of_getElem? hl
  refine ⟨?_, ?_, ⟨by rw [List.length_set]; exact h.rooms.len, fun j b' l2 hb' hl' => ?_, h.rooms.ne⟩, h.low, by rw [total_set hl hlen]; exact h.le, fun l2 hl2 => ?_, fun l2 hl2 => ?_, h.apart, h.off_g⟩
  · rw [total_set hl hlen]
    exact h.blk.off hoff (fun e => h.off_g b hbm e.symm)
  · rw [heads_set hl hlen]
    exact h.row.off hoff (fun a ha e => (h.apart a ha).2 b hbm e.symm)
  · by_cases hj : i = j
    · subst hj
      rw [hb] at hb'
      cases hb'
      rw [List.getElem?_set_self (List.getElem?_eq_some_iff.1 hl).1] at hl'
      cases hl'
      unfold headV at *
      rw [hlen]
      exact ho
    · rw [List.getElem?_set_ne hj] at hl'
      exact own_off (h.rooms.own j b' l2 hb' hl') hoff (fun k hk e => by
        cases hk
        exact h.rooms.ne j i b' b (Ne.symm hj) hb' hb e)
  · rcases List.mem_or_eq_of_mem_set hl2 with h2 | h2
    · exact h.pos l2 h2
    · subst h2; rw [hlen]; exact h.pos l hlm
  · rcases List.mem_or_eq_of_mem_set hl2 with h2 | h2
    · exact h.u32 l2 h2
    · subst h2; exact hu
theorem over_under {l x : List Int} {p : Nat} (h : Under 4294967296 l) (h' : Under 4294967296 x) : Under 4294967296 (over l p x) := ((h.take p).append h').append (h.drop _)

set_option maxHeartbeats 1000000 in
theorem store_ok {w : World} {base g n c : Nat} {A : Option Addr} {bs : List (Nat × Nat)} {ls : List (List Int)} (h : MemS w base g A n c bs ls) (i : Nat) (l x : List Int) (p : Nat) (Aw : Option Addr) (cw : Nat) (hl : ls[i]? = some l) (hm : p + x.length ≤ l.length) (hx : Under 4294967296 x) (hr : Reads w w.heap.size 1 Aw x.length (Ints .u32 x)) :
    Calls Try.prog 13 #[.pointer (some ⟨g, 0, none⟩), .int .i64 i, .int .i64 p, .slice Aw x.length cw] w fun e w' =>
      e = .returned (.int .i64 0) ∧ MemS w' base g A n c bs (ls.set i (over l p x)) ∧ Off (fun k => foot g A bs k) w w' := by
  have hjb : i < bs.length := by have := (List.getElem?_eq_some_iff.1 hl).1; have := h.rooms.len; omega
  have hb : bs[i]? = some bs[i] := List.getElem?_eq_getElem hjb
  have hll := total_mem (List.mem_of_getElem? hl)
  have htl := h.le
  have hO := Below.refl w.heap.size w |>.alloc (Nat.le_refl _) (.cells #[.slice Aw x.length cw] 28)
  have h' := h.below hO
  have hr' := (hr.alloc (Nat.le_refl _) (.cells #[.slice Aw x.length cw] 28)).more (B' := (w.alloc (.cells #[.slice Aw x.length cw] 28)).heap.size) (by simp)
  go_enter Try.func13, Try.ntmps13
  go_wp2_with fail
  refine (within_ok h' i bs[i] l p x.length hb hl hm 26 _ (Stored _ base bs[i].1 bs[i].2 l.length (over l p x)) ent_store (fun A0 _ hA => store_clo _ w.heap.size base _ _ _ _ _ A0 Aw p _ cw (h'.rooms.own i _ l hb hl) hm (Blk.new _ _ _) hr' hA)).mono ?_
  rintro e w1 ⟨rfl, ho, hoff⟩
  go_wp2
  go_ret
  refine ⟨rfl, h'.stored hb hl (over_length hm) (over_under (h.u32 l (List.mem_of_getElem? hl)) hx) ho hoff, (Off.of_below _ hO).trans (hoff.mono (fun k _ hk => .inr (.inr ⟨_, List.mem_of_getElem? hb, hk⟩)))⟩

theorem store_bad {w : World} {base g n c : Nat} {A : Option Addr} {bs : List (Nat × Nat)} {ls : List (List Int)} (h : MemS w base g A n c bs ls) (i p : Int) (Aw : Option Addr) (nw cw : Nat) (hi : -9223372036854775808 ≤ i ∧ i ≤ 9223372036854775807) (hp : -9223372036854775808 ≤ p ∧ p ≤ 9223372036854775807) (hm : nw ≤ 35184372087808) (hbad : ¬ Fit ls i p nw) :
    Calls Try.prog 13 #[.pointer (some ⟨g, 0, none⟩), .int .i64 i, .int .i64 p, .slice Aw nw cw] w fun e w' => e = .returned (.int .i64 220) ∧ Below w.heap.size w w' := by
  have hO := Below.refl w.heap.size w |>.alloc (Nat.le_refl _) (.cells #[.slice Aw nw cw] 28)
  have h' := h.below hO
  go_enter Try.func13, Try.ntmps13
  go_wp2_with fail
  refine (within_bad h' i p nw hi hp (by omega) hbad _).mono ?_
  rintro e w1 ⟨rfl, rfl⟩
  go_wp2
  go_ret
  exact ⟨rfl, hO⟩
end Go.Proofs.Ytfkeogaagolnoaa
