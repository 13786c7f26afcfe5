/- The row's frame for a statement of the second form: whoever walks a law where what came in is of bulk at most 1048576 has its row. -/
import Derived.Test.YtppkjejdkogfpaaRow
import Derived.JoinedCond
namespace Go.Proofs.Ytppkjejdkogfpaa
open Go.ChangeShapes Go.WideShapes Go.ChangeAt Go.RowKit

section
variable {H : Type} {enc : TypeId × Value → H}

theorem upto_one_le (d : DataW H) : 1 ≤ Rows.uptoBulk d := by
  cases d with
  | lit l => cases l <;> simp [Rows.uptoBulk]
  | nil => simp [Rows.uptoBulk]
  | ptr d => simp [Rows.uptoBulk]
  | slice elems spare => simp [Rows.uptoBulk]
  | agg parts => simp [Rows.uptoBulk]
  | iface t d => simp [Rows.uptoBulk]
  | map entries => simp [Rows.uptoBulk]
  | held h => simp [Rows.uptoBulk]
theorem upto_part {d : DataW H} {l : List (DataW H)} (h : d ∈ l) : Rows.uptoBulk d ≤ Rows.uptoBulkAll l := by
  induction l with
  | nil => cases h
  | cons x r ih =>
    simp only [Rows.uptoBulkAll]
    cases List.mem_cons.1 h with
    | inl e => subst e; omega
    | inr e => have := ih e; omega
theorem upto_length (l : List (DataW H)) : l.length ≤ Rows.uptoBulkAll l := by
  induction l with
  | nil => simp [Rows.uptoBulkAll]
  | cons x r ih => have := upto_one_le x; simp only [Rows.uptoBulkAll, List.length_cons]; omega
theorem upto_slice (elems spare : List (DataW H)) : elems.length + spare.length + 1 ≤ Rows.uptoBulk (.slice elems spare) := by
  have h1 := upto_length elems
  have h2 := upto_length spare
  simp only [Rows.uptoBulk]
  omega
theorem upto_bound {l : List (DataW H)} (hk : Rows.uptoSmall H l = true) : Rows.uptoBulkAll l ≤ 1048576 := by
  simpa [Rows.uptoSmall] using hk
theorem upto_room {l : List (DataW H)} (hk : Rows.uptoSmall H l = true) {d : DataW H} (hd : d ∈ l) {elems spare : List (DataW H)} (e : d = .slice elems spare) : elems.length + spare.length ≤ 1048576 := by
  have h1 := upto_part hd
  have h2 := upto_bound hk
  subst e
  have h3 := upto_slice elems spare
  omega

theorem law_lifted_upto {f : FuncId} {fn : Func} {cs : ChangeSpec} {conds : List PathCond} {apart fresh handsOn again : Bool} {tb : TypeId} {os : Os} {F : Stop.Interp}
    (started : os.Started) (noInit : Try.checked.prog.inits.idxOf? f = none) (hfn : Try.checked.prog.funcs[f]? = some fn)
    (hts : paramsFit Try.prog fn.params.toList = true) (hrt : fn.resultTypes = #[tb]) (hbool : Try.prog.underlying tb = some .bool) (hsv : cs.vars = [])
    (hspec : ∀ ds : List (DataW H), ds.length = fn.params.toList.length → (cs.fn H ds).results = [.lit (.bool true)] ∧ (cs.fn H ds).args = ds ∧ (cs.fn H ds).vars = [])
    (witness : ∃ (w : World) (tape : Tape) (i : Input), w.os = os ∧ (w.forCall tape i).Shaped Try.checked.prog ∧ i.vars = [] ∧ Input.okWide Try.checked.prog (w.forCall tape i) .any w.heap.size f i ∧
      (Rows.OpenSpec.upto cs).pre6 enc Try.checked.prog fn conds apart (w.forCall tape i).memory i.args ∧ ({} : Assume).holds Try.checked.prog (lone (Frame.enter Try.checked.prog f i.args .normal) [] (w.forCall tape i)))
    (walk : ∀ (W : World) (base : Nat) (args : Array Value) (ds : List (DataW H)) (p : List MemPlace),
      (∀ (j : Nat) t v, fn.params[j]? = some t → args[j]? = some v → Value.okWide Try.prog W .any base t v) →
      DataW.TrodAll enc Try.prog W 0 (fun _ => true) true fn.params.toList args.toList ds p →
      Rows.uptoSmall H ds = true → (∀ x ∈ p, x.block < W.heap.size) →
      Calls Try.prog f args W fun e W' => e = .returned (.bool true) ∧ Below W.heap.size W W') :
    ReturnsInHanded {} Try.checked os f .any ((Rows.OpenSpec.upto cs).pre6 enc Try.prog fn conds apart) (((Rows.OpenSpec.upto cs).at F).post enc Try.prog fn apart fresh handsOn again) := by
  refine returnsInHanded_of_cond (C := Try.checked) (s := Rows.OpenSpec.upto cs) (k := Rows.uptoSmall) rfl own_knob started noInit hfn witness ?_
  intro W base args ds gs before hval hW _ hk _
  have hW0 : DataW.Whole enc Try.prog fn.params.toList cs.vars apart W args.toList ds gs before := hW
  have hW1 := hW0
  obtain ⟨p, q, hA, hV, rfl, _, _⟩ := hW1
  rw [hsv] at hV
  obtain ⟨rfl, rfl⟩ := trodVars_none hV
  rw [List.append_nil] at hk
  refine (walk W base args ds p hval hA hk (fun x hx => hW0.lt x (by simpa using hx))).mono fun e W' ⟨he, hb⟩ => ?_
  subst he
  exact ⟨_, rfl, law_post (s := cs) laid_out hts hrt hbool hsv hspec hW0 hb⟩

/-- a slice of integers among the arguments, of so many places at the most -/
theorem open_reads_small {P : Program} {W : World} {t e : TypeId} {k : IntKind} {v : Value} {d : DataW H} {p : List MemPlace} {base M : Nat} (ht : P.underlying t = some (.slice e)) (he : P.underlying e = some (.int k)) (hc : P.cellsOf e = 1)
    (hv : Value.okWide P W .any base t v) (h : DataW.Trod enc P W 0 (fun _ => true) true t v d p) (hlt : ∀ x ∈ p, x.block < W.heap.size) (hsz : ∀ elems spare, d = .slice elems spare → elems.length + spare.length ≤ M) :
    ∃ (A : Option Addr) (n c : Nat) (l : List Int), v = .slice A n c ∧ n ≤ c ∧ c ≤ M ∧ (∀ x ∈ l, (Lit.int k x).wf = true) ∧ Reads W W.heap.size 1 A n (Ints k l) := by
  obtain ⟨A, n, c, rfl⟩ := okWide_slice ht hv
  obtain ⟨fuel, hf⟩ := h
  rcases open_ints ht he hc hf with ⟨hcs, hx⟩ | ⟨a, len', cap', zs, hcs, _, hl, hm, hz, hx, hcell, hwz⟩
  · simp [Value.cells] at hcs
    obtain ⟨rfl, rfl, rfl⟩ := hcs
    exact ⟨none, 0, 0, [], rfl, Nat.le_refl _, by omega, by simp, Reads.none_⟩
  · simp [Value.cells] at hcs
    obtain ⟨rfl, rfl, rfl⟩ := hcs
    simp only [Prod.mk.injEq] at hx
    obtain ⟨rfl, rfl⟩ := hx
    simp only [if_true] at hz
    have hcap := hsz _ _ rfl
    simp only [lits, List.length_map, List.length_take, List.length_drop] at hcap
    rw [show min n zs.length + (zs.length - n) = c from by omega] at hcap
    refine ⟨some a, n, c, zs.take n, rfl, hl, hcap, fun x hx => hwz x (List.mem_of_mem_take hx), ?_, fun hn => ⟨a, rfl, ?_, fun j u hu => ?_⟩⟩
    · rw [Ints_length, List.length_take]; omega
    · exact hlt (.cell a.block a.off) (MemPlace.mem_row.2 ⟨0, by omega, by simp⟩)
    · have hj : j < (zs.take n).length := by
        have := (List.getElem?_eq_some_iff.1 hu).1
        rwa [Ints_length] at this
      have hj' : j < n := by rw [List.length_take] at hj; omega
      rw [Ints_at hj, ix_take hj'] at hu
      cases hu
      exact hcell j (by omega)
end
end Go.Proofs.Ytppkjejdkogfpaa
