/- Walks: the document's answer for frames: At. -/
import Derived.Test.YtppkjejdkogfpaaRefa
import Derived.Deep.RegionLaw
namespace Go.Proofs.Ytppkjejdkogfpaa
open Go.RowKit

theorem results_c {fn : Func} {p : Tmp} {ty : TypeId} (h : fn.results = #[.cell p ty]) (tmps : Array Value) (P : Program) (w : World) :
    (results fn tmps).run P w = ((asAddr (tmps.getD p undef)).run P w).andThen fun ad w₁ => (loadVar ty ad).run P w₁ := by
  simp only [results, h]
  simp [Sem.run_bind, Result.andThen]
theorem step_ap1 {P : Program} {t e : TypeId} {z : Value} {bytes : Nat} {ops : Array Oper} {o : Oper} {a : Act} {K : Act → World → Prop} {Q : Exit → Act → World → Prop} {E : Prop} (T : SliceOf P t e z 1 bytes) (w : World) (hgd : o.guard = none) (s x : Operand)
    (ho : o.op = .call { callee := .builtin .append, args := #[s, x], argTypes := #[t, t] }) {base n c : Nat} {A : Option Addr} {xs : List Value} (h : w.ownsRow base e 1 (.slice A n c) n xs) (u : Value) (te : TypeId) (hu : u.oneCell' = true)
    (hs : a.eval s = .slice A n c) (hx : a.eval x = .slice (some ⟨w.heap.size, 0, none⟩) 1 1) (h63 : n + 1 ≤ 9223372036854775807) (hb : (n + 1) * bytes ≤ 140737488355328) (hbase : base ≤ w.heap.size)
    (hK : ∀ A' c' w', w'.ownsRow base e 1 (.slice A' (n + 1) c') (n + 1) (xs ++ [u]) → (w.alloc (.cells #[u] te)).grownBy w' (Value.slice A n c).ownBlock → K (a.put o.dst (.slice A' (n + 1) c')) w') :
    if Region.wanted o (yielded ops a.tmps) = true then Oper.wp P o a (w.alloc (.cells #[u] te)) K Q else E := by
  obtain ⟨i, h2, h3, h4, rfl⟩ := info_parts T.hi
  refine step_append_any _ hgd s x t ho base e i z 1 i.bytes T.ht h2 h3 h4 rfl T.hs (by decide) _ n xs hs (h.alloc _) (w.heap.size + 1) _ 1 1 [u] hx (Reads.lit w #[u] te 1 rfl (by omega)) (fun q hq => by simp at hq; subst hq; exact hu) (by unfold maxLen; omega) hb (by rw [World.size_alloc]; omega) ?_
  intro v' w' ho' hg' _
  obtain ⟨A', c', rfl⟩ := own_shape ho'
  exact hK A' c' w' ho' hg'
/-- what At answers -/
def AtIs (ws : List Int) (p E : Nat) (w : World) (e : Ending) (w' : World) : Prop := ∃ x : RI, x.1 = (ix ws p % 65536, (ws.drop (p + 1)).take (E - (p + 1))) ∧
  e = .returned (.agg #[.int .u16 x.1.1, .slice x.2.1 x.1.2.length x.2.2]) ∧ w'.ownsRow w.heap.size 23 1 x.sl x.1.2.length (Ints .u32 x.1.2) ∧ Below w.heap.size w w'

set_option maxRecDepth 100000 in
set_option maxHeartbeats 2000000 in
theorem at_any (A : Option Addr) (n c : Nat) (ws : List Int) (p E : Nat) (w : World) (hn : n ≤ 35184372087808) (hp : p < E) (hE : E ≤ n) (hu : Under 4294967296 ws) (hr : Reads w w.heap.size 1 A n (Ints .u32 ws)) :
    Calls Try.prog 20 #[.slice A n c, .int .i64 p, .int .i64 E] w (AtIs ws p E w) := by
  have hlen := hr.len
  obtain ⟨b, off, rfl, hb, hc⟩ := hr.ints (by omega)
  have hcp := hc p (by omega)
  have hx := hu.ix (by decide) p
  have hop : IntKind.u16.wrap (ix ws p % 65536) = ix ws p % 65536 := by simp [IntKind.wrap, IntKind.signed, IntKind.bits]
  have k6 := (Blk.new w 45 #[.int .u16 0, .slice none 0 0]).alloc (.cells #[.int .u16 (ix ws p % 65536), .slice none 0 0] 45)
  have k7 := Blk.new (w.alloc (.cells #[.int .u16 0, .slice none 0 0] 45)) 45 #[.int .u16 (ix ws p % 65536), .slice none 0 0]
  rw [World.size_alloc] at k7
  have hbl := ((Below.refl w.heap.size w).alloc (Nat.le_refl _) (.cells #[.int .u16 0, .slice none 0 0] 45)).alloc (by simp) (.cells #[.int .u16 (ix ws p % 65536), .slice none 0 0] 45)
  have hlt7 : ∀ k, k < (ws.drop (p + 1)).length → (ws.drop (p + 1)).take (k + 1) = (ws.drop (p + 1)).take k ++ [ix ws (p + 1 + k)] := fun k hk => by
    rw [List.take_succ_eq_append_getElem hk, ← ix_of hk, ix_drop]
  go_enter Try.func20, Try.ntmps20
  go_wp2_with fail
  go_loopw [8] (fun i wr => ∃ (q k : Nat) (A' : Option Addr) (c' : Nat), p + 1 + k = q ∧ q ≤ E ∧ i = .int .i64 q ∧ Blk wr (w.heap.size + 1) 45 #[.int .u16 (ix ws p % 65536), .slice A' k c'] ∧ Blk wr w.heap.size 45 #[.int .u16 0, .slice none 0 0] ∧
    wr.ownsRow (w.heap.size + 2) 23 1 (.slice A' k c') k (Ints .u32 ((ws.drop (p + 1)).take k)) ∧ Below w.heap.size w wr ∧ w.heap.size + 2 ≤ wr.heap.size) (fun i _ => E - (intOf i).toNat)
  case atStart => exact ⟨p + 1, 0, none, 0, by omega, by omega, rfl, k7, k6, World.ownsRow_nil _ _ _ _, hbl, by simp⟩
  case round =>
    obtain ⟨q, k, A', c', hq, hk, rfl, h7, h6, hown, hbw, hsw⟩ := hrel
    clear k6 k7 hbl
    obtain ⟨r0, r1⟩ := h7.read2
    by_cases hlt : q < E
    · have hck := (hbw.cell (p := ⟨b, off + q, none⟩) hb).trans (hc q (by omega))
      go_wp2_with fail
      have hqn : q < n := by omega
      have hkn : k < n := by omega
      have r2 := fun o => (World.cell?_alloc_lt wr o ⟨w.heap.size + 1, 1, none⟩ (by simp; omega)).trans r1
      have r3 := fun o => (World.cell?_alloc_lt wr o ⟨b, off + q, none⟩ (by simp; omega)).trans hck
      have hne7 : some (w.heap.size + 1) ≠ (Value.slice A' k c').ownBlock := fun e => own_ne_low hown (g := w.heap.size + 1) (by omega) e.symm
      have hne6 : some w.heap.size ≠ (Value.slice A' k c').ownBlock := fun e => own_ne_low hown (g := w.heap.size) (by omega) e.symm
      have hlx := hlt7 k (by rw [List.length_drop]; omega)
      rw [hq] at hlx
      have Hlx := Lib.hid hlx
      have Hq := Lib.hid hq
      clear hlx hlt7 hq
      go_region_law (first
        | (refine step_ap1 sl32 wr.drew rfl _ _ rfl hown.drew _ _ rfl rfl rfl (by omega) (by omega) (by simp; omega) ?_; intro A8 c8 w8 hown8 hgr8; have h78 := (h7.drew.alloc (.cells #[.int .u32 (ix ws q)] 23)).grown hgr8 hne7; have h68 := (h6.drew.alloc (.cells #[.int .u32 (ix ws q)] 23)).grown hgr8 hne6; have q0 := h78.cell 1; have q1 := h78.frozen 1; simp at q0))
      all_goals
        have h79 : Blk (w8.setCell ⟨w.heap.size + 1, 1, none⟩ (.slice A8 (k + 1) c8)) (w.heap.size + 1) 45 #[.int .u16 (ix ws p % 65536), .slice A8 (k + 1) c8] := by simpa using h78.set_ 1 (.slice A8 (k + 1) c8)
        have h69 := h68.far (p := ⟨w.heap.size + 1, 1, none⟩) (by simp) (.slice A8 (k + 1) c8)
        have ho9 := own_set_other hown8 (p := ⟨w.heap.size + 1, 1, none⟩) (own_ne_low hown8 (by simp)) (.slice A8 (k + 1) c8)
        have hb9 := (below_ap hbw.drew (own_base hown.drew (Nat.le_trans (Nat.le_add_right _ 2) (Nat.le_refl _))) hgr8 (by simp; omega)).setCell (p := ⟨w.heap.size + 1, 1, none⟩) (by simp) (.slice A8 (k + 1) c8)
        have hs9 := hgr8.size
        simp only [World.size_alloc, World.size_drew] at hs9
        clear q0 q1 r0 r1 r2 r3
        go_wp2
        go_roundw
        case rel =>
          refine ⟨q + 1, k + 1, A8, c8, by have := Hq.out; omega, by omega, by go_num, h79, h69, ?_, hb9, by simp; omega⟩
          rw [Hlx.out, Ints_append]
          exact ho9
        case measure => simp [intOf]; omega
    · obtain rfl : q = E := by omega
      have Hq := Lib.hid hq
      clear hq hlt7
      obtain ⟨s0, s1, s2, s3, s4, s5⟩ := h6.store2
      go_wp2_with fail
      refine bodyPost_ret (v := .agg #[.int .u16 (ix ws p % 65536), .slice A' k c']) (by rw [results_c rfl]; go_simp) rfl ?_
      have hq := Hq.out
      have ht : ((ws.drop (p + 1)).take (q - (p + 1))) = (ws.drop (p + 1)).take k := by rw [show q - (p + 1) = k from by omega]
      have hkl : ((ws.drop (p + 1)).take k).length = k := by rw [List.length_take, List.length_drop]; omega
      refine ⟨((ix ws p % 65536, (ws.drop (p + 1)).take k), A', c'), by rw [ht], by rw [hkl], ?_, below_put2 hbw (Nat.le_refl _)⟩
      show World.ownsRow _ _ _ _ (.slice A' _ c') _ _
      rw [hkl]
      have hn1 := own_ne_low hown (g := w.heap.size) (by omega)
      exact own_base (own_set_other (own_set_other hown (p := ⟨w.heap.size, 0, none⟩) hn1 _) (p := ⟨w.heap.size, 1, none⟩) hn1 _) (by omega)
end Go.Proofs.Ytppkjejdkogfpaa
