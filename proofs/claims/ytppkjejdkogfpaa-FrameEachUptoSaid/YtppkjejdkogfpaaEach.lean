/- Walks: Each and its iterator. -/
import Derived.RangeFuncNested
import Derived.RangeFuncBound
import Derived.RangeFuncCalls
import Derived.RangeFuncLeaves
import Derived.Shelf.Abstract
import Derived.Shelf.RegionOpen
import Derived.WalkKit
import Derived.OwnWalkIn
import Derived.TacticsInMore
import Derived.LoopNIn
import Derived.LoopIn
import Derived.Sort.QuietTacIn
import Derived.Test.YtppkjejdkogfpaaRangeG
import Derived.Test.YtppkjejdkogfpaaNext
namespace Go.Proofs.Ytppkjejdkogfpaa
open Go.RowKit Go.Shelf
attribute [local go_sem] Oper.semAt_some

/-- what is told: a place, and the instruction there -/
abbrev PI := Nat × RI
def PI.pi (x : PI) : Nat × Ins := (x.1, x.2.1)
def eachV (x : PI) : Array Value := #[.int .i64 x.1, .agg #[.int .u16 x.2.1.1, .slice x.2.2.1 x.2.1.2.length x.2.2.2]]
/-- what lies below n₀, and the box Bs, lie as they lay; the memory has not shrunk -/
structure KeepE (n₀ Bs : Nat) (A B : World) : Prop where
  cell : ∀ p : Addr, p.block < n₀ ∨ p.block = Bs → B.cell? p = A.cell? p
  size : A.heap.size ≤ B.heap.size
theorem KeepE.refl (n₀ Bs : Nat) (A : World) : KeepE n₀ Bs A A := ⟨fun _ _ => rfl, Nat.le_refl _⟩
theorem KeepE.trans {n₀ Bs : Nat} {A B C : World} (h : KeepE n₀ Bs A B) (k : KeepE n₀ Bs B C) : KeepE n₀ Bs A C := ⟨fun p hp => (k.cell p hp).trans (h.cell p hp), Nat.le_trans h.size k.size⟩
theorem KeepE.below {n₀ Bs b : Nat} {A B : World} (h : Below b A B) (h1 : n₀ ≤ b) (h2 : Bs < b) : KeepE n₀ Bs A B := ⟨fun p hp => h.cell (by rcases hp with hp | hp <;> omega), h.size⟩
theorem KeepE.put {n₀ Bs l : Nat} (W : World) (o' : Obj) (h1 : n₀ ≤ l) (h2 : Bs < l) : KeepE n₀ Bs W (W.putObj l o') :=
  ⟨fun p hp => World.cell?_of_block (by rw [World.putObj_heap_other (by rcases hp with hp | hp <;> omega)]), by rw [World.putObj_size]; exact Nat.le_refl _⟩
/-- what is handed out: it is the next instruction, its words lie in a row of their own that no earlier one has -/
structure Handed (base : Nat) (L : List (Nat × Ins)) (pre : List PI) (x : PI) (W : World) : Prop where
  is : ∃ rest, L = pre.map PI.pi ++ x.pi :: rest
  row : W.ownsRow base 23 1 x.2.sl x.2.1.2.length (Ints .u32 x.2.1.2)
  apart : ∀ y ∈ pre, ∀ k, y.2.sl.ownBlock = some k → x.2.sl.ownBlock ≠ some k
theorem abides_below {β : Type} {B : Nat} {J : β → World → Prop} (hJ : AbidesFrom B J) {s : β} {w w' : World} (h : J s w) (hb : Below w.heap.size w w') : J s w' := hJ s _ _ none h (only_of_below hb none) (fun r e => by cases e)

set_option maxRecDepth 100000 in
set_option maxHeartbeats 2000000 in
theorem each1_in (Wd : World) (m : Nat) (hm : 1 ≤ m) (l Bs n₀ n c E base : Nat) (A : Option Addr) (ws : List Int) (L : List (Nat × Ins)) (hn : n ≤ 35184372087808) (hcap : n ≤ c) (hu : Under 4294967296 ws) (hL : Goes ws 5 L E) (hn₀ : n₀ ≤ Wd.heap.size) (hBs : Bs < Wd.heap.size) (hbase : base ≤ Wd.heap.size) (J Jx : List PI → World → Prop)
    (hJ : AbidesFrom Wd.heap.size J)
    (hY : ∀ pre x W1, J pre W1 → Handed base L pre x W1 → YieldAt Fence.wide (m - 1) Try.prog l (eachV x) W1 fun e W' =>
      (e = .returned (.bool true) ∧ J (pre ++ [x]) W' ∧ KeepE n₀ Bs W1 W') ∨ (e = .returned (.bool false) ∧ Jx (pre ++ [x]) W'))
    (hbox : Wd.cell? ⟨Bs, 0, none⟩ = some (.slice A n c)) (hR : Reads Wd n₀ 1 A n (Ints .u32 ws)) (h0 : J [] Wd) :
    CallsIn Fence.wide m Try.prog 34 #[.func (.yield l) #[] #[], .pointer (some ⟨Bs, 0, none⟩)] Wd fun e W' => (∃ v, e = .returned v) ∧
      ((∃ ys, ys.map PI.pi = L ∧ J ys W') ∨ (∃ pre, (∃ rest, L = pre.map PI.pi ++ rest) ∧ Jx pre W')) := by
  have hlen := hR.len
  refine callsIn_of_wp Try.func34 rfl trivial ?_ rfl
  simp only [Try.ntmps34, List.size_toArray, List.length_cons, List.length_nil, Nat.reduceAdd, Nat.reduceSub, Array.replicate_succ, Array.replicate_zero, List.push_toArray, List.append_toArray, List.nil_append, List.cons_append]
  gi_wp2
  gi_loopw [3] (fun i wr => ∃ (p : Nat) (pre : List PI) (rest : List (Nat × Ins)), i = .int .i64 p ∧ p ≤ n + 5 ∧ Goes ws p rest E ∧ L = pre.map PI.pi ++ rest ∧ J pre wr ∧ KeepE n₀ Bs Wd wr ∧ (∀ y ∈ pre, ∀ k, y.2.sl.ownBlock = some k → k < wr.heap.size)) (fun i _ => n + 5 - (intOf i).toNat)
  case atStart => exact ⟨5, [], L, rfl, by omega, hL, rfl, h0, KeepE.refl _ _ _, by simp⟩
  case round =>
    obtain ⟨p, pre, rest, rfl, hpn, hgo, hLe, hJk, hK, hlow⟩ := hrel
    have hbox1 := (hK.cell ⟨Bs, 0, none⟩ (.inr rfl)).trans hbox
    have hR1 : Reads wr n₀ 1 A n (Ints .u32 ws) := hR.keep (fun q hq => hK.cell q (.inl hq))
    have hsz := hK.size
    have hR2 := hR1.more (B' := wr.heap.size) (by omega)
    by_cases hlt : p < n
    · have hltI : decide ((p : Int) < (n : Int)) = true := by simp; omega
      cases hgo with
      | stop hno =>
        gi_wp2_with fail
        refine ⟨trivial, (callsIn_wide.2 (next_none wr hR2 hu hlt hn hno)).mono ?_⟩
        rintro e w' ⟨rfl, hb⟩
        have hb2 := hb.alloc hb.size (.cells #[.int .u16 0, .slice none 0 0] 45)
        gi_wp2_with fail
        refine ⟨fun _ h => (by cases h), ?_⟩
        gi_wp2_with fail
        refine bodyPost_ret (results_none rfl _ _ _) rfl ?_
        exact ⟨⟨_, rfl⟩, .inl ⟨pre, by rw [hLe, List.append_nil], abides_below hJ hJk hb2⟩⟩
      | @step _ _ rest hcan hgo' =>
        have hstep : p + cntW (ix ws p) ≤ n ∧ 1 ≤ cntW (ix ws p) := by
          obtain ⟨c1, c2, c3⟩ := hcan
          omega
        have Hstep := Lib.hid hstep
        gi_wp2_with fail
        refine ⟨trivial, (callsIn_wide.2 (next_ok wr hR2 hu hn hcap hcan)).mono ?_⟩
        rintro e w' ⟨x, hx, rfl, ho, hb⟩
        have hnz : ((cntW (ix ws p) : Int) == 0) = false := by simpa using hcan.2.1
        have hxsl : x.sl = .slice x.2.1 x.1.2.length x.2.2 := rfl
        have hb2 := hb.alloc hb.size (.cells #[.int .u16 x.1.1, .slice x.2.1 x.1.2.length x.2.2] 45)
        have hnk := Blk.new w' 45 #[.int .u16 x.1.1, .slice x.2.1 x.1.2.length x.2.2]
        have ho2 := ho.alloc (.cells #[.int .u16 x.1.1, .slice x.2.1 x.1.2.length x.2.2] 45)
        obtain ⟨k0, k1⟩ := hnk.read2
        rw [hxsl]
        have hlow2 : ∀ y ∈ pre ++ [(p, x)], ∀ k, y.2.sl.ownBlock = some k → k < (w'.alloc (.cells #[.int .u16 x.1.1, .slice x.2.1 x.1.2.length x.2.2] 45)).heap.size := by
          intro y hy k hk
          rcases List.mem_append.1 hy with hy | hy
          · have := hlow y hy k hk
            have := hb2.size
            omega
          · rw [List.mem_singleton] at hy
            subst hy
            exact (ho2.lt k hk).2
        have hand : Handed base L pre (p, x) (w'.alloc (.cells #[.int .u16 x.1.1, .slice x.2.1 x.1.2.length x.2.2] 45)) :=
          ⟨⟨rest, by rw [hLe]; simp only [PI.pi, hx]⟩, own_base ho2 (by omega), fun y hy k hk hk2 => by
            have h1 := hlow y hy k hk
            have h2 := (ho2.lt k hk2).1
            omega⟩
        have hJ2 := abides_below hJ hJk hb2
        have hsz2 := hb2.size
        have hK2 : KeepE n₀ Bs wr (w'.alloc (.cells #[.int .u16 x.1.1, .slice x.2.1 x.1.2.length x.2.2] 45)) := KeepE.below hb2 (by omega) (by omega)
        obtain ⟨fn, tmps, assign, body, hy, hRd⟩ := hY pre (p, x) _ hJ2 hand
        dsimp only [eachV] at hy
        have Hx := Lib.hid hx
        clear ho ho2 hnk hand hb hb2 hx
        gi_wp2_with fail
        refine hRd.mono ?_
        rintro e W3 (⟨rfl, hJ3, hk3⟩ | ⟨rfl, hJx3⟩)
        · have hbox3 := (hk3.cell ⟨Bs, 0, none⟩ (.inr rfl)).trans ((hK2.cell ⟨Bs, 0, none⟩ (.inr rfl)).trans hbox1)
          clear hy hRd
          gi_wp2_with fail
          go_roundw
          case rel => exact ⟨p + cntW (ix ws p), _, rest, by go_num, by have := Hstep.out.1; omega, hgo', by rw [hLe, List.map_append, List.append_assoc]; simp only [List.map_cons, List.map_nil, PI.pi, Hx.out, List.cons_append, List.nil_append], hJ3, (hK.trans hK2).trans hk3, fun y hy k hk => Nat.lt_of_lt_of_le (hlow2 y hy k hk) hk3.size⟩
          case measure => have h1 := Hstep.out; simp [intOf]; omega
        · gi_wp2_with fail
          refine bodyPost_ret (results_none rfl _ _ _) rfl ?_
          exact ⟨⟨_, rfl⟩, .inr ⟨_, ⟨rest, by rw [hLe, List.map_append, List.append_assoc]; simp only [List.map_cons, List.map_nil, PI.pi, Hx.out, List.cons_append, List.nil_append]⟩, hJx3⟩⟩
    · have hltI : decide ((p : Int) < (n : Int)) = false := by simp; omega
      have hrest : rest = [] := by
        cases hgo with
        | stop _ => rfl
        | step hc _ => have := hc.1; omega
      subst hrest
      gi_wp2
      go_end0
      exact ⟨⟨_, rfl⟩, .inl ⟨pre, by rw [hLe, List.append_nil], hJk⟩⟩

theorem each_in (m : Nat) (v : Value) (A : Option Addr) (n c : Nat) (hv : v = .slice A n c) (w : World) :
    CallsIn Fence.wide m Try.prog 19 #[v] w fun e w' => e = .returned (.func (.func 34) #[] #[.pointer (some ⟨w.heap.size, 0, none⟩)]) ∧ w' = w.alloc (.cells #[v] 22) := by
  subst hv
  refine callsIn_of_wp Try.func19 rfl trivial ?_ rfl
  simp only [Try.ntmps19, List.size_toArray, List.length_cons, List.length_nil, Nat.reduceAdd, Nat.reduceSub, Array.replicate_succ, Array.replicate_zero, List.push_toArray, List.append_toArray, List.nil_append, List.cons_append]
  gi_wp2
  go_ret
  exact ⟨rfl, rfl⟩
theorem each_stops (m : Nat) (hm : 1 ≤ m) (Bs n₀ n c E base : Nat) (A : Option Addr) (ws : List Int) (L : List (Nat × Ins)) (w : World) (hn : n ≤ 35184372087808) (hcap : n ≤ c) (hu : Under 4294967296 ws) (hL : Goes ws 5 L E) (hn₀ : n₀ ≤ w.heap.size) (hBs : Bs < w.heap.size) (hbase : base ≤ w.heap.size)
    (hbox : w.cell? ⟨Bs, 0, none⟩ = some (.slice A n c)) (hR : Reads w n₀ 1 A n (Ints .u32 ws)) :
    SeqG Fence.wide m Try.prog 34 #[.pointer (some ⟨Bs, 0, none⟩)] eachV (Handed base L) (KeepE n₀ Bs) (fun ys => ys.map PI.pi = L) (fun pre => ∃ rest, L = pre.map PI.pi ++ rest) w := fun l J Jx W hW hJ hY h0 =>
  each1_in W m hm l Bs n₀ n c E base A ws L hn hcap hu hL (by have := hW.size; omega) (by have := hW.size; omega) (by have := hW.size; omega) J Jx hJ hY ((hW.cell hBs).trans hbox) (hR.keep fun p hp => hW.cell (by omega)) h0

/-- where the instructions told end -/
def atEnd (pre : List PI) : Nat := pre.foldl (fun _ x => x.1 + 1 + x.2.1.2.length) 5
theorem atEnd_snoc (pre : List PI) (x : PI) : atEnd (pre ++ [x]) = x.1 + 1 + x.2.1.2.length := by simp [atEnd]
theorem Goes.cons_inv {ws : List Int} {p E : Nat} {q : Nat × Ins} {l : List (Nat × Ins)} (h : Goes ws p (q :: l) E) : q = (p, insAt ws p) ∧ can ws p ∧ Goes ws (p + cntW (ix ws p)) l E := by
  cases h with
  | step hc h' => exact ⟨rfl, hc, h'⟩
theorem goes_end {ws : List Int} : ∀ {p E : Nat} {L : List (Nat × Ins)} (ys : List PI), Goes ws p L E → ys.map PI.pi = L → ys.foldl (fun _ x => x.1 + 1 + x.2.1.2.length) p = E
  | p, E, L, [], h, e => by
    subst e
    cases h
    rfl
  | p, E, L, y :: ys, h, e => by
    subst e
    obtain ⟨hq, hc, h'⟩ := h.cons_inv
    have h1 := goes_end ys h' rfl
    have h2 := insAt_length hc
    have e1 : y.1 = p := congrArg Prod.fst hq
    have e2 : y.2.1 = insAt ws p := congrArg Prod.snd hq
    have h3 : y.1 + 1 + y.2.1.2.length = p + cntW (ix ws p) := by rw [e1, e2]; omega
    simp only [List.foldl_cons]
    rw [h3]
    exact h1

section
variable {W W' : World} {row : Option Nat}
theorem noncells (hr : ∀ r, row = some r → ∃ o : Obj, W.heap[r]? = some o ∧ o.isCells = false) {g : Nat} {t : TypeId} {cs : Array Value} {z : Nat × Nat} (h : W.heap[g]? = some (.cells cs t z)) : some g ≠ row := fun e => by
  obtain ⟨o, ho, hc⟩ := hr g e.symm
  rw [h] at ho
  cases ho
  cases hc
theorem Blk.kept_ {g : Nat} {t : TypeId} {cs : Array Value} (h : Blk W g t cs) (hg : W.grownBy W' row) (hr : ∀ r, row = some r → ∃ o : Obj, W.heap[r]? = some o ∧ o.isCells = false) : Blk W' g t cs := h.grown hg (noncells hr h)
theorem own_kept_ {base size n : Nat} {e : TypeId} {v : Value} {xs : List Value} (h : W.ownsRow base e size v n xs) (hg : W.grownBy W' row) (hr : ∀ r, row = some r → ∃ o : Obj, W.heap[r]? = some o ∧ o.isCells = false) : W'.ownsRow base e size v n xs := by
  refine h.kept hg ?_
  cases hrow : row with
  | none => cases hv : v.ownBlock <;> simp
  | some r =>
    right
    intro e
    rcases h.2 with ⟨rfl, _⟩ | ⟨g, cap, cur, rfl, _, hh, _⟩
    · cases e
    · have e1 : g = r := by simpa [Value.ownBlock] using e
      subst e1
      exact noncells hr hh hrow.symm
theorem RawO.kept_ {base c : Nat} {A : Option Addr} {l : List RI} (h : RawO W base A c l) (hg : W.grownBy W' row) (hr : ∀ r, row = some r → ∃ o : Obj, W.heap[r]? = some o ∧ o.isCells = false) : RawO W' base A c l :=
  ⟨own_kept_ h.row hg hr, fun x hx => own_kept_ (h.ws x hx) hg hr, h.apart, h.len, h.op⟩
theorem own_types_ne {base base' size size' n n' : Nat} {e e' : TypeId} {v v' : Value} {xs xs' : List Value} (h : W.ownsRow base e size v n xs) (h' : W.ownsRow base' e' size' v' n' xs') (hne : e ≠ e') (k : Nat) (hk : v.ownBlock = some k) : v'.ownBlock ≠ some k := by
  rcases h.2 with ⟨rfl, _⟩ | ⟨g, cap, cur, rfl, _, hh, _⟩
  · cases hk
  · have e1 : g = k := by simpa [Value.ownBlock] using hk
    subst e1
    exact own_blk_ne h' (t := e) (cs := cur) hh (fun e2 => hne e2.symm)
end
/-- an instruction appended to a list of the call's own -/
theorem RawO.snoc {W W3 : World} {base c c' : Nat} {A A' : Option Addr} {l : List RI} {x : RI} {o : Obj} (h : RawO W base A c l) (hx : W.ownsRow base 23 1 x.sl x.1.2.length (Ints .u32 x.1.2)) (ha : ∀ y ∈ l, ∀ k, y.sl.ownBlock = some k → x.sl.ownBlock ≠ some k)
    (hlen : x.1.2.length ≤ 35184372087808) (hop : 0 ≤ x.1.1 ∧ x.1.1 < 65536)
    (hg : (W.alloc o).grownBy W3 (Value.slice A l.length c).ownBlock) (ho : W3.ownsRow base 45 2 (.slice A' (l.length + 1) c') (l.length + 1) (Rcells l ++ [.int .u16 x.1.1, x.sl])) : RawO W3 base A' c' (l ++ [x]) := by
  have kp : ∀ y : RI, W.ownsRow base 23 1 y.sl y.1.2.length (Ints .u32 y.1.2) → W3.ownsRow base 23 1 y.sl y.1.2.length (Ints .u32 y.1.2) := fun y hy => by
    refine (hy.alloc o).kept hg ?_
    cases hb : (Value.slice A l.length c).ownBlock with
    | none => cases hv : y.sl.ownBlock <;> simp
    | some k => exact .inr (own_types_ne h.row hy (by decide) k hb)
  refine ⟨by rw [List.length_append, Rcells_append]; exact ho, fun y hy => ?_, ?_, fun y hy => ?_, fun y hy => ?_⟩
  · rcases List.mem_append.1 hy with hy | hy
    · exact kp y (h.ws y hy)
    · rw [List.mem_singleton] at hy
      subst hy
      exact kp y hx
  · refine List.pairwise_append.2 ⟨h.apart, by simp, fun y hy z hz k hk => ?_⟩
    rw [List.mem_singleton] at hz
    subst hz
    exact ha y hy k hk
  · rcases List.mem_append.1 hy with hy | hy
    · exact h.len y hy
    · rw [List.mem_singleton] at hy
      subst hy
      exact hlen
  · rcases List.mem_append.1 hy with hy | hy
    · exact h.op y hy
    · rw [List.mem_singleton] at hy
      subst hy
      exact hop
end Go.Proofs.Ytppkjejdkogfpaa
