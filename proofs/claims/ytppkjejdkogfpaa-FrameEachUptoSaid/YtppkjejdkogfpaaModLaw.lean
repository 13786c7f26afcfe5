/- What was written is read as it was. No program is named. -/
import Derived.Test.YtppkjejdkogfpaaFrameOne
namespace Go.Proofs.Ytppkjejdkogfpaa
open Go.RowKit

/-- an instruction that may be written -/
def wfIns (x : Ins) : Prop := x.2.length < 65535 ∧ (0 ≤ x.1 ∧ x.1 < 65536) ∧ Under 4294967296 x.2
theorem ix_mid (pre post : List Int) (v : Int) : ix (pre ++ v :: post) pre.length = v := by simp [ix]
theorem goes_enc : ∀ (L : List Ins) (pre : List Int), (∀ x ∈ L, wfIns x) → ∃ P, Goes (pre ++ encL L) pre.length P (pre.length + sz L) ∧ P.map (·.2) = L
  | [], pre, _ => ⟨[], by simpa [encL, sz] using Goes.nil_of_le (ws := pre) (Nat.le_refl _), rfl⟩
  | x :: r, pre, h => by
    obtain ⟨h1, h2, h3⟩ := h x (List.mem_cons_self ..)
    obtain ⟨P, hg, hp⟩ := goes_enc r (pre ++ encI x) (fun y hy => h y (List.mem_cons_of_mem _ hy))
    have e : pre ++ encL (x :: r) = (pre ++ encI x) ++ encL r := by simp [encL]
    have hlen : (pre ++ encI x).length = pre.length + (1 + x.2.length) := by simp [encI]; omega
    have e2 : (pre ++ encI x) ++ encL r = pre ++ ((((x.2.length + 1 : Nat) : Int) * 65536 + x.1) :: (x.2 ++ encL r)) := by simp [encI]
    have hix : ix ((pre ++ encI x) ++ encL r) pre.length = ((x.2.length + 1 : Nat) : Int) * 65536 + x.1 := by rw [e2, ix_mid]
    have hcnt : cntW (ix ((pre ++ encI x) ++ encL r) pre.length) = x.2.length + 1 := by rw [hix]; unfold cntW; omega
    have hins : insAt ((pre ++ encI x) ++ encL r) pre.length = x := by
      unfold insAt
      rw [hcnt, hix]
      refine Prod.ext ?_ ?_
      · show (((x.2.length + 1 : Nat) : Int) * 65536 + x.1) % 65536 = x.1
        omega
      · show List.take (x.2.length + 1 - 1) (List.drop (pre.length + 1) ((pre ++ encI x) ++ encL r)) = x.2
        rw [e2, List.drop_append, List.drop_eq_nil_of_le (by omega), show pre.length + 1 - pre.length = 1 from by omega]
        simp
    have htot : ((pre ++ encI x) ++ encL r).length = pre.length + (1 + x.2.length) + (encL r).length := by rw [List.length_append, hlen]
    rw [hlen] at hg
    refine ⟨(pre.length, x) :: P, ?_, by simp [hp]⟩
    rw [e]
    have hstep := Goes.step (ws := (pre ++ encI x) ++ encL r) (p := pre.length) (e := pre.length + (1 + x.2.length) + sz r) (l := P) ⟨by omega, by rw [hcnt]; omega, by rw [hcnt]; omega⟩ (by rw [hcnt]; rw [show pre.length + (x.2.length + 1) = pre.length + (1 + x.2.length) from by omega]; exact hg)
    rw [hins] at hstep
    rw [show pre.length + sz (x :: r) = pre.length + (1 + x.2.length) + sz r from by simp only [sz]; omega]
    exact hstep
theorem headTo_mod {g b : Int} (h0 : b ≠ 0) (h1 : b ≤ 65536) (L : List Ins) : HeadTo (modW g b L) 5 := fun j hj => by
  refine ⟨by rw [modW_length]; omega, ?_⟩
  have hj' : j = 0 ∨ j = 1 ∨ j = 2 ∨ j = 3 ∨ j = 4 := by omega
  rcases hj' with rfl | rfl | rfl | rfl | rfl <;> simp [modW, headW, wrongW, ix]
  omega
theorem readTo_mod {g b : Int} (h0 : b ≠ 0) (h1 : b ≤ 65536) {L : List Ins} (hw : ∀ x ∈ L, wfIns x) (hF : FaultTo L L.length) : ReadTo (modW g b L) g b L 0 0 := by
  obtain ⟨P, hg, hp⟩ := goes_enc L (headW g b) hw
  have hl := modW_length g b L
  have hall := hF.all
  have h := ReadTo.ok (ws := modW g b L) (l := P) (p := 5 + sz L) (by omega) (headTo_mod h0 h1 L) hg (by omega)
  rw [hp] at h
  simpa [modW, headW, ix] using h
theorem under_mod {g b : Int} (hg : 0 ≤ g ∧ g < 4294967296) (hb : 0 ≤ b ∧ b < 4294967296) {L : List Ins} (hw : ∀ x ∈ L, wfIns x) : Under 4294967296 (modW g b L) := fun v hv => by
  unfold modW at hv
  rcases List.mem_append.1 hv with hv | hv
  · simp [headW] at hv
    rcases hv with rfl | rfl | rfl | rfl | rfl <;> omega
  · obtain ⟨x, hx, hv⟩ := List.mem_flatMap.1 hv
    obtain ⟨h1, h2, h3⟩ := hw x hx
    simp only [encI, List.mem_cons] at hv
    rcases hv with rfl | hv
    · omega
    · exact h3 v hv
end Go.Proofs.Ytppkjejdkogfpaa
