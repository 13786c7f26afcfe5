/- Walks: within: a room's words handed on. Walks: words of a room loaded and stored. Walks: a row of two words; whether a small memory works. -/
import Derived.Test.YtnhpjheiihiepaaGreatDoorTW
import Derived.Laws.CopyOwn
namespace Go.Proofs.YtnhpjheiihiepaaGreatDoor
open Go.RowKit

/-- the head of room i, where it lies -/
theorem MemS.head {w : World} {base g n c : Nat} {A : Option Addr} {bs : List (Nat × Nat)} {ls : List (List Int)} (h : MemS w base g A n c bs ls) {i : Nat} {b : Nat × Nat} {l : List Int} (hb : bs[i]? = some b) (hl : ls[i]? = some l) :
    i < n ∧ ∃ ab off, A = some ⟨ab, off, none⟩ ∧ w.cell? ⟨ab, off + i, none⟩ = some (headV b l) := by
  have hi : i < n := by rw [h.n_eq]; exact (List.getElem?_eq_some_iff.1 hl).1
  obtain ⟨ad, u, hA, _, hu, hc⟩ := h.row.reads.at_ hi
  rw [heads_at hb hl] at hu
  cases hu
  obtain ⟨ab, off, spot⟩ := ad
  have hs : spot = none := by
    have h0 := World.cell?_spot hc
    unfold Addr.add at h0
    split at h0
    · exact h0
    · rcases Nat.eq_zero_or_pos i with h' | h'
      · subst h'; rename_i hn; exact absurd rfl hn
      · obtain ⟨ad0, u0, e0, _, _, hc0⟩ := h.row.reads.at_ (k := 0) (by omega)
        rw [hA] at e0
        cases e0
        simpa [Addr.add] using World.cell?_spot hc0
  subst hs
  exact ⟨hi, ab, off, hA, by rw [← Go.WideShapes.add_plain]; exact hc⟩
/-- what a room is good for, from p on -/
theorem MemS.cut {w : World} {base g n c : Nat} {A : Option Addr} {bs : List (Nat × Nat)} {ls : List (List Int)} (h : MemS w base g A n c bs ls) {i : Nat} {b : Nat × Nat} {l : List Int} (hb : bs[i]? = some b) (hl : ls[i]? = some l) :
    l.length ≤ b.2 ∧ Reads w w.heap.size 1 (some ⟨b.1, 0, none⟩) l.length (Ints .u32 l) :=
  ⟨own_cap (h.rooms.own i b l hb hl), Reads.of_own (h.rooms.own i b l hb hl)⟩

set_option maxRecDepth 100000 in
set_option maxHeartbeats 1000000 in
theorem within_ok {w : World} {base g n c : Nat} {A : Option Addr} {bs : List (Nat × Nat)} {ls : List (List Int)} (h : MemS w base g A n c bs ls) (i : Nat) (b : Nat × Nat) (l : List Int) (p m : Nat) (hb : bs[i]? = some b) (hl : ls[i]? = some l) (hm : p + m ≤ l.length)
    (F : FuncId) (q : Value) (R : World → Prop) (hent : ∀ (w : World) (args : Array Value), (callFunc F args).run Tryz.prog w = .ok (.enter F args) w) (hF : ∀ A0 : Option Addr, Reads w w.heap.size 1 A0 m (Ints .u32 ((l.drop p).take m)) → (0 < m → A0 = some ⟨b.1, p, none⟩) → Calls Tryz.prog F #[.slice A0 m (b.2 - p), q] w fun e w' => e = .returned (.tuple #[]) ∧ R w') :
    Calls Tryz.prog 88 #[.pointer (some ⟨g, 0, none⟩), .int .i64 i, .int .i64 p, .int .i64 m, .func (.func F) #[] #[q]] w fun e w' => e = .returned (.int .i64 0) ∧ R w' := by
  obtain ⟨hi, ab, off, rfl, hc⟩ := h.head hb hl
  obtain ⟨hcap, hrd⟩ := h.cut hb hl
  have hnle := h.n_le
  have hll := total_mem (List.mem_of_getElem? hl)
  have htl := h.le
  have k0 := h.blk.cell 0
  simp at k0
  have HF := Lib.hid hF
  have Hl := Lib.hid hl
  have Hb := Lib.hid hb
  clear hF hl hb
  unfold headV at hc
  have g1 : decide ((i : Int) < 0) = false := by simp
  have g2 : decide ((p : Int) < 0) = false := by simp
  have g3 : decide ((m : Int) < 0) = false := by simp
  have g4 : decide ((l.length : Int) - (p : Int) < (m : Int)) = false := by simp; omega
  have hcut := (hrd.mid_ (p := p) (m := m) hm hcap)
  rw [Nat.add_sub_cancel_left] at hcut
  obtain ⟨A0, hA0⟩ : ∃ A0, (if b.2 = p then (some ⟨b.1, 0, none⟩ : Option Addr) else some ⟨b.1, p, none⟩) = A0 := ⟨_, rfl⟩
  have hA0' : (if b.2 = p then some (⟨b.1, 0, none⟩ : Addr) else Option.map (fun x : Addr => x.add p) (some ⟨b.1, 0, none⟩)) = A0 := by
    rw [← hA0]
    simp [Go.WideShapes.add_plain]
  rw [hA0'] at hcut
  have hpos : 0 < m → A0 = some ⟨b.1, p, none⟩ := fun h0 => by rw [← hA0, if_neg (by omega)]
  have HA := Lib.hid hpos
  clear hA0' hpos
  go_enter Tryz.func88, Tryz.ntmps88
  go_wp2_with fail
  refine (HF.out A0 hcut HA.out).mono ?_
  rintro e w' ⟨rfl, hR⟩
  go_wp2
  go_ret
  exact ⟨rfl, hR⟩
end Go.Proofs.YtnhpjheiihiepaaGreatDoor

namespace Go.Proofs.YtnhpjheiihiepaaGreatDoor
open Go.RowKit

theorem ent_load : ∀ (w : World) (args : Array Value), (callFunc 90 args).run Tryz.prog w = .ok (.enter 90 args) w := fun w args => by kernel_rfl
theorem ent_store : ∀ (w : World) (args : Array Value), (callFunc 89 args).run Tryz.prog w = .ok (.enter 89 args) w := fun w args => by kernel_rfl

/-- what the closure of Load leaves -/
def Loaded (w : World) (go m : Nat) (x : List Int) (w' : World) : Prop := ∃ A' c', Blk w' go 26 #[.slice A' m c'] ∧ w'.ownsRow w.heap.size 22 1 (.slice A' m c') m (Ints .u32 x) ∧ Off (fun k => k = go) w w'

theorem load_clo (w : World) (go : Nat) (A0 : Option Addr) (m c0 : Nat) (x : List Int) (hm : m ≤ 35184372087808) (hb : Blk w go 26 #[.slice none 0 0]) (hr : Reads w w.heap.size 1 A0 m (Ints .u32 x)) :
    Calls Tryz.prog 90 #[.slice A0 m c0, .pointer (some ⟨go, 0, none⟩)] w fun e w' => e = .returned (.tuple #[]) ∧ Loaded w go m x w' := by
  go_enter Tryz.func90, Tryz.ntmps90
  go_wp2_with fail
  refine (clone_any A0 m c0 x _ hm hr).mono ?_
  rintro e w1 ⟨A1, c1, rfl, ho, hb1⟩
  have kb := hb.below hb1 hb.lt
  have p0 := kb.cell 0
  have p1 := kb.frozen 0
  simp at p0
  have hlt := hb.lt
  go_wp2
  go_end0
  refine ⟨rfl, A1, c1, by simpa using kb.set_ 0 (.slice A1 m c1), own_set_other ho (own_ne_low ho hlt) _, (Off.of_below (fun k => k = go) hb1).set_ (p := ⟨go, 0, none⟩) (.inl rfl) _⟩

set_option maxRecDepth 100000 in
set_option maxHeartbeats 1000000 in
theorem load_ok {w : World} {base g n c : Nat} {A : Option Addr} {bs : List (Nat × Nat)} {ls : List (List Int)} (h : MemS w base g A n c bs ls) (i : Nat) (l : List Int) (p m : Nat) (hl : ls[i]? = some l) (hm : p + m ≤ l.length) :
    Calls Tryz.prog 61 #[.pointer (some ⟨g, 0, none⟩), .int .i64 i, .int .i64 p, .int .i64 m] w fun e w' =>
      ∃ A' c', e = .returned (.tuple #[.slice A' m c', .int .i64 0]) ∧ w'.ownsRow w.heap.size 22 1 (.slice A' m c') m (Ints .u32 ((l.drop p).take m)) ∧ Below w.heap.size w w' := by
  have hjb : i < bs.length := by have := (List.getElem?_eq_some_iff.1 hl).1; have := h.rooms.len; omega
  have hb : bs[i]? = some bs[i] := List.getElem?_eq_getElem hjb
  have hll := total_mem (List.mem_of_getElem? hl)
  have htl := h.le
  have hO := Below.refl w.heap.size w |>.alloc (Nat.le_refl _) (.cells #[.slice none 0 0] 26)
  have h' := h.below hO
  go_enter Tryz.func61, Tryz.ntmps61
  go_wp2_with fail
  refine (within_ok h' i bs[i] l p m hb hl hm 90 _ (Loaded _ w.heap.size m ((l.drop p).take m)) ent_load (fun A0 hr _ => load_clo _ _ A0 m _ _ (by omega) (Blk.new _ _ _) hr)).mono ?_
  rintro e w1 ⟨rfl, A1, c1, kb, ho, hoff⟩
  have p0 := kb.cell 0
  simp at p0
  go_wp2
  go_ret2
  exact ⟨A1, c1, rfl, own_base ho (by simp), hO.trans (hoff.to_below _ (by simp) (fun k _ hk => by omega))⟩

/-- x laid over l from p on -/
def over (l : List Int) (p : Nat) (x : List Int) : List Int := l.take p ++ x ++ l.drop (p + x.length)
theorem over_length {l x : List Int} {p : Nat} (h : p + x.length ≤ l.length) : (over l p x).length = l.length := by
  simp only [over, List.length_append, List.length_take, List.length_drop]; omega
theorem over_nil (l : List Int) (p : Nat) : over l p [] = l := by simp [over]

theorem take_three {α : Type} {n : Nat} (P X D : List α) (h : P.length + X.length ≤ n) : (P ++ (X ++ D)).take n = P ++ (X ++ D.take (n - (P.length + X.length))) := by
  rw [List.take_append, List.take_append, List.take_of_length_le (by omega : P.length ≤ n), List.take_of_length_le (by omega : X.length ≤ n - P.length), Nat.sub_sub]
/-- a row of the call's own behind a copy into it -/
theorem own_over {w : World} {base g n c : Nat} {e : TypeId} {l x : List Int} {p : Nat} (h : w.ownsRow base e 1 (.slice (some ⟨g, 0, none⟩) n c) n (Ints .u32 l)) (hp : p + x.length ≤ n) :
    ∃ cur, w.heap[g]? = some (.cells cur e) ∧ p + x.length ≤ cur.size ∧
      (w.setRow g (cur.toList.take p ++ (Ints .u32 x ++ cur.toList.drop (p + x.length))).toArray).ownsRow base e 1 (.slice (some ⟨g, 0, none⟩) n c) n (Ints .u32 (over l p x)) := by
  have hl := own_len h
  rcases h.2 with ⟨hv, _⟩ | ⟨g', cap, cur, hv, hbg, hg, hnc, hcm, hcs, htake⟩
  · cases hv
  · cases hv
    have hsz : cur.toList.length = c := by rw [Array.length_toList]; omega
    refine ⟨cur, hg, by omega, ?_, .inr ⟨g, c, _, rfl, hbg, setRow_heap w g cur _ e _ hg, hnc, hcm, ?_, ?_⟩⟩
    · rw [Ints_length, over_length (by omega), hl, Nat.mul_one]
    · simp only [List.size_toArray, List.length_append, List.length_take, List.length_drop, hsz, Ints_length]
      omega
    · have ht : cur.toList.take n = Ints .u32 l := by rw [← htake, Nat.mul_one]
      have e1 : cur.toList.take p = Ints .u32 (l.take p) := by
        rw [Ints_take, ← ht, List.take_take, Nat.min_eq_left (by omega)]
      have e2 : (cur.toList.drop (p + x.length)).take (n - (p + x.length)) = Ints .u32 (l.drop (p + x.length)) := by
        rw [Ints_drop, ← ht, List.drop_take]
      have l1 : (cur.toList.take p).length = p := by rw [List.length_take]; omega
      simp only [Nat.mul_one]
      rw [take_three _ _ _ (by rw [l1, Ints_length]; exact hp), l1, Ints_length, e2, e1]
      unfold over
      rw [Ints_append, Ints_append, List.append_assoc]

/-- what the closure of Store leaves -/
def Stored (w : World) (base g c n : Nat) (l : List Int) (w' : World) : Prop := w'.ownsRow base 22 1 (.slice (some ⟨g, 0, none⟩) n c) n (Ints .u32 l) ∧ Off (fun k => k = g) w w'

theorem store_clo (w : World) (gw base g c n : Nat) (l x : List Int) (A0 Aw : Option Addr) (p c0 cw : Nat) (ho : w.ownsRow base 22 1 (.slice (some ⟨g, 0, none⟩) n c) n (Ints .u32 l)) (hp : p + x.length ≤ n) (hb : Blk w gw 26 #[.slice Aw x.length cw])
    (hr : Reads w w.heap.size 1 Aw x.length (Ints .u32 x)) (hA : 0 < x.length → A0 = some ⟨g, p, none⟩) :
    Calls Tryz.prog 89 #[.slice A0 x.length c0, .pointer (some ⟨gw, 0, none⟩)] w fun e w' => e = .returned (.tuple #[]) ∧ Stored w base g c n (over l p x) w' := by
  have p0 := hb.cell 0
  simp at p0
  have hsz : Option.map (fun x => x.size) (Tryz.prog.info? 22) = some 1 := by kernel_rfl
  rcases Nat.eq_zero_or_pos x.length with h0 | h0
  · have hx : x = [] := List.eq_nil_of_length_eq_zero h0
    subst hx
    go_enter Tryz.func89, Tryz.ntmps89
    go_wp2_with (with_reducible refine wpList_copy_nothing rfl _ _ 26 26 rfl 22 Tryz.underlying26 hsz A0 Aw _ c0 _ cw rfl rfl rfl ?_)
    go_end0
    exact ⟨rfl, by rw [over_nil]; exact ho, Off.refl _ _⟩
  · obtain ⟨cur, hg, hfit, hown⟩ := own_over ho hp
    obtain ⟨ad, rfl, _, hc⟩ := hr.2 h0
    have hA' := hA h0
    subst hA'
    go_enter Tryz.func89, Tryz.ntmps89
    go_wp2_with (with_reducible refine wpList_copy_own rfl _ _ 26 26 rfl 22 Tryz.underlying26 hsz g p x.length c0 ad x.length cw rfl rfl cur _ hg (Ints .u32 x) ?_ hc ?_ Ints_oneCell ?_)
    · simp [Ints_length]
    · rw [Ints_length]; exact hfit
    rw [Ints_length]
    go_wp2
    go_end0
    exact ⟨rfl, hown, Off.of_grown (row := some g) ⟨rfl, rfl, rfl, by simp, fun k _ hk => setRow_other _ g k _ (fun e => hk (by rw [e]))⟩ (fun k hk => by cases hk; rfl)⟩
theorem heads_set : ∀ {bs : List (Nat × Nat)} {ls : List (List Int)} {i : Nat} {l l' : List Int}, ls[i]? = some l → l'.length = l.length → heads bs (ls.set i l') = heads bs ls
  | [], [], _, _, _, h, _ => by simp at h
  | [], _ :: _, 0, _, _, _, _ => rfl
  | [], _ :: _, _ + 1, _, _, _, _ => rfl
  | _ :: _, [], _, _, _, h, _ => by simp at h
  | b :: bs, x :: ls, 0, l, l', h, hl => by simp at h; subst h; simp [heads, headV, hl]
  | b :: bs, x :: ls, i + 1, l, l', h, hl => by simp only [List.set_cons_succ, heads]; rw [heads_set (by simpa using h) hl]
theorem total_set : ∀ {ls : List (List Int)} {i : Nat} {l l' : List Int}, ls[i]? = some l → l'.length = l.length → total (ls.set i l') = total ls
  | [], _, _, _, h, _ => by simp at h
  | x :: ls, 0, l, l', h, hl => by simp at h; subst h; rw [List.set_cons_zero, total_cons, total_cons, hl]
  | x :: ls, i + 1, l, l', h, hl => by rw [List.set_cons_succ, total_cons, total_cons, total_set (by simpa using h) hl]

/-- one room's words have changed -/
theorem MemS.stored {w w' : World} {base g n c : Nat} {A : Option Addr} {bs : List (Nat × Nat)} {ls : List (List Int)} (h : MemS w base g A n c bs ls) {i : Nat} {b : Nat × Nat} {l l' : List Int} (hb : bs[i]? = some b) (hl : ls[i]? = some l) (hlen : l'.length = l.length) (hu : Under 4294967296 l')
    (ho : w'.ownsRow base 22 1 (headV b l) l.length (Ints .u32 l')) (hoff : Off (fun k => k = b.1) w w') : MemS w' base g A n c bs (ls.set i l') := by
  have hbm := List.mem_of_getElem? hb
  have hlm := List.mem_of_getElem? hl
  refine ⟨?_, ?_, ⟨by rw [List.length_set]; exact h.rooms.len, fun j b' l2 hb' hl' => ?_, h.rooms.ne⟩, h.low, by rw [total_set hl hlen]; exact h.le, fun l2 hl2 => ?_, fun l2 hl2 => ?_, h.apart, h.off_g⟩
  · rw [total_set hl hlen]
    exact h.blk.off hoff (fun e => h.off_g b hbm e.symm)
  · rw [heads_set hl hlen]
    exact h.row.off hoff (fun a ha e => (h.apart a ha).2 b hbm e.symm)
  · by_cases hj : i = j
    · subst hj
      rw [hb] at hb'
      cases hb'
      rw [List.getElem?_set_self (List.getElem?_eq_some_iff.1 hl).1] at hl'
      cases hl'
      unfold headV at *
      rw [hlen]
      exact ho
    · rw [List.getElem?_set_ne hj] at hl'
      exact own_off (h.rooms.own j b' l2 hb' hl') hoff (fun k hk e => by
        cases hk
        exact h.rooms.ne j i b' b (Ne.symm hj) hb' hb e)
  · rcases List.mem_or_eq_of_mem_set hl2 with h2 | h2
    · exact h.pos l2 h2
    · subst h2; rw [hlen]; exact h.pos l hlm
  · rcases List.mem_or_eq_of_mem_set hl2 with h2 | h2
    · exact h.u32 l2 h2
    · subst h2; exact hu
theorem over_under {l x : List Int} {p : Nat} (h : Under 4294967296 l) (h' : Under 4294967296 x) : Under 4294967296 (over l p x) := ((h.take p).append h').append (h.drop _)

set_option maxRecDepth 100000 in
set_option maxHeartbeats 1000000 in
theorem store_ok {w : World} {base g n c : Nat} {A : Option Addr} {bs : List (Nat × Nat)} {ls : List (List Int)} (h : MemS w base g A n c bs ls) (i : Nat) (l x : List Int) (p : Nat) (Aw : Option Addr) (cw : Nat) (hl : ls[i]? = some l) (hm : p + x.length ≤ l.length) (hx : Under 4294967296 x) (hr : Reads w w.heap.size 1 Aw x.length (Ints .u32 x)) :
    Calls Tryz.prog 60 #[.pointer (some ⟨g, 0, none⟩), .int .i64 i, .int .i64 p, .slice Aw x.length cw] w fun e w' =>
      e = .returned (.int .i64 0) ∧ MemS w' base g A n c bs (ls.set i (over l p x)) ∧ Off (fun k => foot g A bs k) w w' := by
  have hjb : i < bs.length := by have := (List.getElem?_eq_some_iff.1 hl).1; have := h.rooms.len; omega
  have hb : bs[i]? = some bs[i] := List.getElem?_eq_getElem hjb
  have hll := total_mem (List.mem_of_getElem? hl)
  have htl := h.le
  have hO := Below.refl w.heap.size w |>.alloc (Nat.le_refl _) (.cells #[.slice Aw x.length cw] 26)
  have h' := h.below hO
  have hr' := (hr.alloc (Nat.le_refl _) (.cells #[.slice Aw x.length cw] 26)).more (B' := (w.alloc (.cells #[.slice Aw x.length cw] 26)).heap.size) (by simp)
  go_enter Tryz.func60, Tryz.ntmps60
  go_wp2_with fail
  refine (within_ok h' i bs[i] l p x.length hb hl hm 89 _ (Stored _ base bs[i].1 bs[i].2 l.length (over l p x)) ent_store (fun A0 _ hA => store_clo _ w.heap.size base _ _ _ _ _ A0 Aw p _ cw (h'.rooms.own i _ l hb hl) hm (Blk.new _ _ _) hr' hA)).mono ?_
  rintro e w1 ⟨rfl, ho, hoff⟩
  go_wp2
  go_ret
  refine ⟨rfl, h'.stored hb hl (over_length hm) (over_under (h.u32 l (List.mem_of_getElem? hl)) hx) ho hoff, (Off.of_below _ hO).trans (hoff.mono (fun k _ hk => .inr (.inr ⟨_, List.mem_of_getElem? hb, hk⟩)))⟩

end Go.Proofs.YtnhpjheiihiepaaGreatDoor

namespace Go.Proofs.YtnhpjheiihiepaaGreatDoor
open Go.RowKit

theorem mrow_any (a b : Int) (w : World) :
    Calls Tryz.prog 59 #[.int .u32 a, .int .u32 b] w fun e w' => ∃ A', e = .returned (.slice A' 2 2) ∧ w'.ownsRow w.heap.size 22 1 (.slice A' 2 2) 2 (Ints .u32 [a, b]) ∧ Below w.heap.size w w' := by
  go_enter Tryz.func59, Tryz.ntmps59
  go_wp2_with (at_make; refine mk_full sl32 rfl _ rfl _ _ rfl w.heap.size 2 rfl rfl rfl rfl (by omega) (by omega) (Nat.le_refl _) ?_; intro w1 hown hgr; rw [← Ints_replicate] at hown; have hb := (Below.refl w.heap.size w).grown hgr (Nat.le_refl _) (fun _ h => by cases h); have p0 := own_int_at hown (k := 0) (by omega); have o1 := own_int_set hown 0 a; have q1 := own_int_at o1 (k := 1) (by omega); have o2 := own_int_set o1 1 b; have f0 := hown.frozenAt 0; have f2 := o1.frozenAt 1)
  go_ret
  exact ⟨_, rfl, o2, (hb.setCell (Nat.le_refl _) _).setCell (Nat.le_refl _) _⟩

theorem MemS.base_le {w : World} {base g n c : Nat} {A : Option Addr} {bs : List (Nat × Nat)} {ls : List (List Int)} (h : MemS w base g A n c bs ls) : base ≤ w.heap.size := Nat.le_of_lt (Nat.lt_of_le_of_lt h.low h.blk.lt)
theorem MemS.off_below {w w' : World} {base g n c : Nat} {A : Option Addr} {bs : List (Nat × Nat)} {ls : List (List Int)} (h : MemS w base g A n c bs ls) (ho : Off (fun k => foot g A bs k) w w') : Below base w w' :=
  ho.to_below _ h.base_le fun _ _ hk => (h.foot_lt hk).1
theorem MemS.made_below {w w' : World} {base g n c : Nat} {A : Option Addr} {bs : List (Nat × Nat)} {ls : List (List Int)} (h : MemS w base g A n c bs ls) (ho : Off (fun k => k = g ∨ some k = A.map (·.block)) w w') : Below base w w' :=
  h.off_below (ho.mono fun k _ hk => by
    rcases hk with hk | hk
    · exact .inl hk
    · rcases A with _ | a
      · cases hk
      · simp at hk; exact .inr (.inl ⟨a, rfl, hk⟩))

set_option maxRecDepth 100000 in
set_option maxHeartbeats 1000000 in
theorem mawake_ok (w : World) : Calls Tryz.prog 26 #[] w fun e w' => e = .returned (.bool true) ∧ Below w.heap.size w w' := by
  have hcut : ∀ (A : Option Addr), (2 : Nat) = 2 := fun _ => rfl
  go_enter Tryz.func26, Tryz.ntmps26
  go_wp2_with fail
  refine (mnew_any _).mono ?_
  rintro e w1 ⟨g, rfl, hM, hb1⟩
  go_wp2_with fail
  refine (mrow_any 5 6 _).mono ?_
  rintro e w2 ⟨A2, rfl, ho2, hb2⟩
  have hM2 := hM.below hb2
  have hB2 := hb1.trans (hb2.mono hb1.size)
  go_wp2_with fail
  refine (make_ok hM2 A2 2 2 [5, 6] (by omega) (by simp [total_nil]) (by intro x hx; simp at hx; omega) (Reads.of_own ho2)).mono ?_
  rintro e w3 ⟨rfl, A3, c3, b3, hM3, hoff3, hb3, hA3⟩
  have hB3 := hB2.trans (hM2.made_below hoff3)
  clear hM hM2 ho2 hb1 hb2 hB2 hoff3 hb3 hA3
  go_wp2_with fail
  refine (mrow_any 7 8 _).mono ?_
  rintro e w4 ⟨A4, rfl, ho4, hb4⟩
  have hM4 := hM3.below hb4
  have hB4 := hB3.trans (hb4.mono (Nat.le_trans hB3.size (Nat.le_refl _)))
  have hr4 := (Reads.of_own ho4).prefix_ (m := 1) (by omega)
  rw [← Ints_take] at hr4
  go_wp2_with fail
  refine (store_ok hM4 0 [5, 6] [7] 1 A4 2 rfl (by simp) (by intro x hx; simp at hx; omega) hr4).mono ?_
  rintro e w5 ⟨rfl, hM5, hoff5⟩
  have hB5 := hB4.trans (hM4.off_below hoff5)
  clear hM3 hM4 ho4 hb4 hB3 hB4 hoff5 hr4
  go_wp2_with fail
  refine (load_ok hM5 0 [5, 7] 0 2 rfl (by simp)).mono ?_
  rintro e w6 ⟨A6, c6, rfl, ho6, hb6⟩
  have hM6 := hM5.below hb6
  have hB6 := hB5.trans (hb6.mono hB5.size)
  go_wp2_with fail
  refine (mrow_any 5 7 _).mono ?_
  rintro e w7 ⟨A7, rfl, ho7, hb7⟩
  have hM7 := hM6.below hb7
  have hB7 := hB6.trans (hb7.mono hB6.size)
  have ho6' := own_below ho6 hb7
  go_wp2_with fail
  refine (words_same A6 A7 2 2 c6 2 [5, 7] [5, 7] _ (by omega) (Reads.of_own ho6') (Reads.of_own ho7)).mono ?_
  rintro e w8 ⟨rfl, hd8⟩
  rw [sameB_refl]
  obtain ⟨q8, rfl⟩ := hd8
  have hM8 := hM7.drewN q8
  have hB8 := below_drewN hB7 q8
  clear hM5 hM6 hM7 ho6 ho6' ho7 hb6 hb7 hB5 hB6 hB7
  go_wp2_with fail
  refine (mlen_any hM8).mono ?_
  rintro e w9 ⟨rfl, rfl⟩
  go_wp2_with fail
  refine (msize_any hM8).mono ?_
  rintro e w9 ⟨rfl, rfl⟩
  go_wp2
  go_ret
  exact ⟨rfl, hB8⟩
end Go.Proofs.YtnhpjheiihiepaaGreatDoor
