/- Walks: Each's iterator, whose words lie in one block: nothing else that was there is wanted to stay. -/
import Derived.Test.YtppkjejdkogfpaaEach
namespace Go.Proofs.Ytppkjejdkogfpaa
open Go.RowKit Go.Shelf
attribute [local go_sem] Oper.semAt_some

theorem Reads.keepA {w w' : World} {B size n : Nat} {A : Option Addr} {xs : List Value} (h : Reads w B size A n xs) (hk : ∀ ad, A = some ad → ∀ p : Addr, p.block = ad.block → w'.cell? p = w.cell? p) : Reads w' B size A n xs :=
  ⟨h.1, fun hn => by
    obtain ⟨ad, e, hb, hc⟩ := h.2 hn
    exact ⟨ad, e, hb, fun j u hu => (hk ad e _ (by rw [block_of_add])).trans (hc j u hu)⟩⟩
/-- what lies in the two blocks lies as it lay; the memory has not shrunk -/
structure KeepB (gb Bs : Nat) (A B : World) : Prop where
  cell : ∀ p : Addr, p.block = gb ∨ p.block = Bs → B.cell? p = A.cell? p
  size : A.heap.size ≤ B.heap.size
theorem KeepB.refl (gb Bs : Nat) (A : World) : KeepB gb Bs A A := ⟨fun _ _ => rfl, Nat.le_refl _⟩
theorem KeepB.trans {gb Bs : Nat} {A B C : World} (h : KeepB gb Bs A B) (k : KeepB gb Bs B C) : KeepB gb Bs A C := ⟨fun p hp => (k.cell p hp).trans (h.cell p hp), Nat.le_trans h.size k.size⟩
theorem KeepB.below {gb Bs b : Nat} {A B : World} (h : Below b A B) (h1 : gb < b) (h2 : Bs < b) : KeepB gb Bs A B := ⟨fun p hp => h.cell (by rcases hp with hp | hp <;> omega), h.size⟩
theorem KeepB.put {gb Bs l : Nat} (W : World) (o' : Obj) (h1 : gb < l) (h2 : Bs < l) : KeepB gb Bs W (W.putObj l o') :=
  ⟨fun p hp => World.cell?_of_block (by rw [World.putObj_heap_other (by rcases hp with hp | hp <;> omega)]), by rw [World.putObj_size]; exact Nat.le_refl _⟩
theorem KeepB.set {gb Bs : Nat} (W : World) (p : Addr) (v : Value) (h1 : p.block ≠ gb) (h2 : p.block ≠ Bs) : KeepB gb Bs W (W.setCell p v) :=
  ⟨fun q hq => World.cell?_setCell_other _ _ _ _ (fun e => by subst e; rcases hq with hq | hq; exact h1 hq; exact h2 hq), by simp [World.setCell]⟩
theorem KeepB.off {S : Nat → Prop} {gb Bs : Nat} {A B : World} (h : Off S A B) (h1 : gb < A.heap.size) (h2 : Bs < A.heap.size) (h3 : ¬ S gb) (h4 : ¬ S Bs) : KeepB gb Bs A B :=
  ⟨fun p hp => World.cell?_of_block (h.block _ (by rcases hp with hp | hp <;> omega) (by rcases hp with hp | hp <;> (rw [hp]; assumption))), h.size⟩

set_option maxRecDepth 100000 in
set_option maxHeartbeats 2000000 in
theorem eachB_in (Wd : World) (m : Nat) (hm : 1 ≤ m) (l Bs gb n₀ n c E base : Nat) (A : Option Addr) (ws : List Int) (L : List (Nat × Ins)) (hn : n ≤ 35184372087808) (hcap : n ≤ c) (hu : Under 4294967296 ws) (hL : Goes ws 5 L E) (hA : ∀ ad, A = some ad → ad.block = gb) (hgb : gb < Wd.heap.size) (hn₀ : n₀ ≤ Wd.heap.size) (hBs : Bs < Wd.heap.size) (hbase : base ≤ Wd.heap.size) (J Jx : List PI → World → Prop)
    (hJ : AbidesFrom Wd.heap.size J)
    (hY : ∀ pre x W1, J pre W1 → Handed base L pre x W1 → YieldAt Fence.wide (m - 1) Try.prog l (eachV x) W1 fun e W' =>
      (e = .returned (.bool true) ∧ J (pre ++ [x]) W' ∧ KeepB gb Bs W1 W') ∨ (e = .returned (.bool false) ∧ Jx (pre ++ [x]) W'))
    (hbox : Wd.cell? ⟨Bs, 0, none⟩ = some (.slice A n c)) (hR : Reads Wd n₀ 1 A n (Ints .u32 ws)) (h0 : J [] Wd) :
    CallsIn Fence.wide m Try.prog 34 #[.func (.yield l) #[] #[], .pointer (some ⟨Bs, 0, none⟩)] Wd fun e W' => (∃ v, e = .returned v) ∧
      ((∃ ys, ys.map PI.pi = L ∧ J ys W') ∨ (∃ pre, (∃ rest, L = pre.map PI.pi ++ rest) ∧ Jx pre W')) := by
  have hlen := hR.len
  refine callsIn_of_wp Try.func34 rfl trivial ?_ rfl
  simp only [Try.ntmps34, List.size_toArray, List.length_cons, List.length_nil, Nat.reduceAdd, Nat.reduceSub, Array.replicate_succ, Array.replicate_zero, List.push_toArray, List.append_toArray, List.nil_append, List.cons_append]
  gi_wp2
  gi_loopw [3] (fun i wr => ∃ (p : Nat) (pre : List PI) (rest : List (Nat × Ins)), i = .int .i64 p ∧ p ≤ n + 5 ∧ Goes ws p rest E ∧ L = pre.map PI.pi ++ rest ∧ J pre wr ∧ KeepB gb Bs Wd wr ∧ (∀ y ∈ pre, ∀ k, y.2.sl.ownBlock = some k → k < wr.heap.size)) (fun i _ => n + 5 - (intOf i).toNat)
  case atStart => exact ⟨5, [], L, rfl, by omega, hL, rfl, h0, KeepB.refl _ _ _, by simp⟩
  case round =>
    obtain ⟨p, pre, rest, rfl, hpn, hgo, hLe, hJk, hK, hlow⟩ := hrel
    have hbox1 := (hK.cell ⟨Bs, 0, none⟩ (.inr rfl)).trans hbox
    have hR1 : Reads wr n₀ 1 A n (Ints .u32 ws) := hR.keepA (fun ad ha q hq => hK.cell q (.inl (hq.trans (hA ad ha))))
    have hsz := hK.size
    have hszg := hgb
    have hR2 := hR1.more (B' := wr.heap.size) (by omega)
    by_cases hlt : p < n
    · have hltI : decide ((p : Int) < (n : Int)) = true := by simp; omega
      cases hgo with
      | stop hno =>
        gi_wp2_with fail
        refine ⟨trivial, (callsIn_wide.2 (next_none wr hR2 hu hlt hn hno)).mono ?_⟩
        rintro e w' ⟨rfl, hb⟩
        have hb2 := hb.alloc hb.size (.cells #[.int .u16 0, .slice none 0 0] 45)
        gi_wp2_with fail
        refine ⟨fun _ h => (by cases h), ?_⟩
        gi_wp2_with fail
        refine bodyPost_ret (results_none rfl _ _ _) rfl ?_
        exact ⟨⟨_, rfl⟩, .inl ⟨pre, by rw [hLe, List.append_nil], abides_below hJ hJk hb2⟩⟩
      | @step _ _ rest hcan hgo' =>
        have hstep : p + cntW (ix ws p) ≤ n ∧ 1 ≤ cntW (ix ws p) := by
          obtain ⟨c1, c2, c3⟩ := hcan
          omega
        have Hstep := Lib.hid hstep
        gi_wp2_with fail
        refine ⟨trivial, (callsIn_wide.2 (next_ok wr hR2 hu hn hcap hcan)).mono ?_⟩
        rintro e w' ⟨x, hx, rfl, ho, hb⟩
        have hnz : ((cntW (ix ws p) : Int) == 0) = false := by simpa using hcan.2.1
        have hxsl : x.sl = .slice x.2.1 x.1.2.length x.2.2 := rfl
        have hb2 := hb.alloc hb.size (.cells #[.int .u16 x.1.1, .slice x.2.1 x.1.2.length x.2.2] 45)
        have hnk := Blk.new w' 45 #[.int .u16 x.1.1, .slice x.2.1 x.1.2.length x.2.2]
        have ho2 := ho.alloc (.cells #[.int .u16 x.1.1, .slice x.2.1 x.1.2.length x.2.2] 45)
        obtain ⟨k0, k1⟩ := hnk.read2
        rw [hxsl]
        have hlow2 : ∀ y ∈ pre ++ [(p, x)], ∀ k, y.2.sl.ownBlock = some k → k < (w'.alloc (.cells #[.int .u16 x.1.1, .slice x.2.1 x.1.2.length x.2.2] 45)).heap.size := by
          intro y hy k hk
          rcases List.mem_append.1 hy with hy | hy
          · have := hlow y hy k hk
            have := hb2.size
            omega
          · rw [List.mem_singleton] at hy
            subst hy
            exact (ho2.lt k hk).2
        have hand : Handed base L pre (p, x) (w'.alloc (.cells #[.int .u16 x.1.1, .slice x.2.1 x.1.2.length x.2.2] 45)) :=
          ⟨⟨rest, by rw [hLe]; simp only [PI.pi, hx]⟩, own_base ho2 (by omega), fun y hy k hk hk2 => by
            have h1 := hlow y hy k hk
            have h2 := (ho2.lt k hk2).1
            omega⟩
        have hJ2 := abides_below hJ hJk hb2
        have hsz2 := hb2.size
        have hK2 : KeepB gb Bs wr (w'.alloc (.cells #[.int .u16 x.1.1, .slice x.2.1 x.1.2.length x.2.2] 45)) := KeepB.below hb2 (by omega) (by omega)
        obtain ⟨fn, tmps, assign, body, hy, hRd⟩ := hY pre (p, x) _ hJ2 hand
        dsimp only [eachV] at hy
        have Hx := Lib.hid hx
        clear ho ho2 hnk hand hb hb2 hx
        gi_wp2_with fail
        refine hRd.mono ?_
        rintro e W3 (⟨rfl, hJ3, hk3⟩ | ⟨rfl, hJx3⟩)
        · have hbox3 := (hk3.cell ⟨Bs, 0, none⟩ (.inr rfl)).trans ((hK2.cell ⟨Bs, 0, none⟩ (.inr rfl)).trans hbox1)
          clear hy hRd
          gi_wp2_with fail
          go_roundw
          case rel => exact ⟨p + cntW (ix ws p), _, rest, by go_num, by have := Hstep.out.1; omega, hgo', by rw [hLe, List.map_append, List.append_assoc]; simp only [List.map_cons, List.map_nil, PI.pi, Hx.out, List.cons_append, List.nil_append], hJ3, (hK.trans hK2).trans hk3, fun y hy k hk => Nat.lt_of_lt_of_le (hlow2 y hy k hk) hk3.size⟩
          case measure => have h1 := Hstep.out; simp [intOf]; omega
        · gi_wp2_with fail
          refine bodyPost_ret (results_none rfl _ _ _) rfl ?_
          exact ⟨⟨_, rfl⟩, .inr ⟨_, ⟨rest, by rw [hLe, List.map_append, List.append_assoc]; simp only [List.map_cons, List.map_nil, PI.pi, Hx.out, List.cons_append, List.nil_append]⟩, hJx3⟩⟩
    · have hltI : decide ((p : Int) < (n : Int)) = false := by simp; omega
      have hrest : rest = [] := by
        cases hgo with
        | stop _ => rfl
        | step hc _ => have := hc.1; omega
      subst hrest
      gi_wp2
      go_end0
      exact ⟨⟨_, rfl⟩, .inl ⟨pre, by rw [hLe, List.append_nil], hJk⟩⟩

theorem eachB_stops (m : Nat) (hm : 1 ≤ m) (Bs gb n₀ n c E base : Nat) (A : Option Addr) (ws : List Int) (L : List (Nat × Ins)) (w : World) (hn : n ≤ 35184372087808) (hcap : n ≤ c) (hu : Under 4294967296 ws) (hL : Goes ws 5 L E) (hA : ∀ ad, A = some ad → ad.block = gb) (hgb : gb < w.heap.size) (hn₀ : n₀ ≤ w.heap.size) (hBs : Bs < w.heap.size) (hbase : base ≤ w.heap.size)
    (hbox : w.cell? ⟨Bs, 0, none⟩ = some (.slice A n c)) (hR : Reads w n₀ 1 A n (Ints .u32 ws)) :
    SeqG Fence.wide m Try.prog 34 #[.pointer (some ⟨Bs, 0, none⟩)] eachV (Handed base L) (KeepB gb Bs) (fun ys => ys.map PI.pi = L) (fun pre => ∃ rest, L = pre.map PI.pi ++ rest) w := fun l J Jx W hW hJ hY h0 =>
  eachB_in W m hm l Bs gb n₀ n c E base A ws L hn hcap hu hL hA (by have := hW.size; omega) (by have := hW.size; omega) (by have := hW.size; omega) (by have := hW.size; omega) J Jx hJ hY ((hW.cell hBs).trans hbox) (hR.keep fun p hp => hW.cell (by omega)) h0

end Go.Proofs.Ytppkjejdkogfpaa
