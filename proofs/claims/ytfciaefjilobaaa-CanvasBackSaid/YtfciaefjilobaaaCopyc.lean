/- Walks: a canvas copied. -/
import Derived.Test.YtfciaefjilobaaaRnew
namespace Go.Proofs.Ytfciaefjilobaaa
open Go.RowKit

set_option maxHeartbeats 400000 in
theorem clonep_any (g n c : Nat) (ps : List Pix) (w : World) (hn : n ≤ 1048576) (hr : Reads w w.heap.size 3 (some ⟨g, 0, none⟩) n (Pixs ps)) :
    Calls Try.prog 32 #[.slice (some ⟨g, 0, none⟩) n c] w fun e w' => ∃ A' c', e = .returned (.slice A' n c') ∧ w'.ownsRow w.heap.size 82 3 (.slice A' n c') n (Pixs ps) ∧ Below w.heap.size w w' := by
  have h1 := fun x => Lib.run_eql_slice_nil (P := Try.prog) x 79 82 (some ⟨g, 0, none⟩) n c 0 0 Try.underlying79
  go_enter Try.func32, Try.ntmps32
  have he : (w.alloc (.cells #[] 82)).ownsRow w.heap.size 82 3 (.slice (some ⟨w.heap.size, 0, none⟩) 0 0) 0 [] := World.ownsRow_made w #[] 0 (Nat.le_refl _) (by unfold maxLen; omega) rfl
  go_wp2_with (at_builtin; refine ap_any slPix _ rfl _ _ rfl w.heap.size (.slice (some ⟨w.heap.size, 0, none⟩) 0 0) 0 [] rfl he w.heap.size _ n c _ rfl (hr.alloc (Nat.le_refl _) _) Pixs_oneCell (by omega) (by omega) (by simp) ?_; intro A' c' w1 ho hgr hat)
  go_ret
  rw [Nat.zero_add, List.nil_append] at ho
  exact ⟨A', c', rfl, ho, ((Below.refl _ _).alloc (Nat.le_refl _) _).grown hgr (by simp) (fun k hk => by simp [Value.ownBlock] at hk; omega)⟩

section
variable {w : World} {base g gp n c W H : Nat} {back : Int} {ps : List Pix}
set_option maxHeartbeats 1000000 in
theorem copy_any (h : CanS w base g gp n c W H back ps) :
    Calls Try.prog 23 #[.pointer (some ⟨g, 0, none⟩)] w fun e w' => ∃ g' gp' c', e = .returned (.pointer (some ⟨g', 0, none⟩)) ∧ CanS w' w.heap.size g' gp' n c' W H back ps ∧ Below w.heap.size w w' := by
  obtain ⟨p0, p1, p2, p3⟩ := h.blk.read4
  have hb := fun cs => (Below.refl w.heap.size w).alloc (Nat.le_refl _) (.cells cs 84)
  have q3 := fun o => (h.blk.alloc o).cell 3
  simp at q3
  have hn := h.sz.le
  have hpos := h.sz.pos
  have hsz := h.sz
  have hrd := fun w' (hb : Below w.heap.size w w') => Reads.of_own (h.below hb).row
  have kb := Blk.new w 84 #[.int .i64 W, .int .i64 H, .int .u32 back, .slice (some ⟨gp, 0, none⟩) n c]
  go_enter Try.func23, Try.ntmps23
  go_wp2_with fail
  refine (clonep_any gp n c ps _ hn (hrd _ (hb _))).mono ?_
  rintro e w1 ⟨A', c', rfl, ho, hb1⟩
  have hb2 := below_cut (hb _) hb1 (Nat.le_refl _)
  have kb1 := kb.below hb1 kb.lt
  clear q3 hb hrd
  obtain ⟨gp', cap, hv, hlt⟩ := ho.form (by omega)
  cases hv
  have f3 := kb1.frozen 3
  have r3 := kb1.cell 3
  simp at r3
  go_wp2
  go_ret
  have hs := kb1.set_ 3 (.slice (some ⟨gp', 0, none⟩) n c')
  have hgp : w.heap.size < gp' := by have := hlt.1; simp at this; omega
  exact ⟨_, _, _, rfl, ⟨by simpa using hs, own_base (own_set_other ho (fun e => by simp [Value.ownBlock] at e; omega) _) (by simp), Nat.le_refl _, hsz⟩, hb2.setCell (p := ⟨w.heap.size, 3, none⟩) (Nat.le_refl _) _⟩
end
end Go.Proofs.Ytfciaefjilobaaa
