/-
  An argument, opened: its value's form and what it reads as. No statement in sight.
-/
import Derived.Test.YtbflmipddiaiaaaTrd
namespace Go.Proofs.Ytbflmipddiaiaaa
open Go.RowKit Go.ChangeShapes Go.WideShapes Go.Deep

section
variable {H : Type} {enc : TypeId × Value → H} {P : Program} {W : World} {base : Nat}

theorem arg_slice {α : Type} {size : Nat} {R : Rd α} {t e : TypeId} {v : Value} {d : DataW H} {p : List MemPlace} (hT : Tr P t (RSl size R)) (hu : P.underlying t = some (.slice e)) (hv : Value.okWide P W .any base t v)
    (h : DataW.Trod enc P W 0 (fun _ => true) true t v d p) (hw : ∀ n ∈ d.weights P t, n ≤ reachBytes) : ∃ ys, Sl size R W W.heap.size v ys := by
  obtain ⟨a, len, cap, rfl⟩ := okWide_slice hu hv
  obtain ⟨fuel, hf⟩ := h
  obtain ⟨ys, v', e1, h1⟩ := hT H enc W fuel _ _ hf hw
  have e2 : Value.slice a len cap = v' := by simpa [Value.cells] using e1
  exact ⟨ys, by rw [e2]; exact h1⟩

theorem arg_struct {α : Type} {R : Rd α} {t : TypeId} {fs : Array Field} {v : Value} {d : DataW H} {p : List MemPlace} (hT : Tr P t R) (hu : P.underlying t = some (.struct fs)) (hv : Value.okWide P W .any base t v)
    (h : DataW.Trod enc P W 0 (fun _ => true) true t v d p) (hw : ∀ n ∈ d.weights P t, n ≤ reachBytes) : ∃ cs y, v = .agg (List.toArray cs) ∧ R W W.heap.size cs y := by
  obtain ⟨cs, rfl, _⟩ := okWide_struct hu hv
  obtain ⟨fuel, hf⟩ := h
  obtain ⟨y, h1⟩ := hT H enc W fuel _ _ hf hw
  exact ⟨cs.toList, y, by simp, h1⟩

/-- What the reach says of each argument. -/
theorem reach_at {ts : List TypeId} {ds : List (DataW H)} (hz : (DataW.weightsEach P ts ds).all (· ≤ reachBytes) = true) {j : Nat} {t : TypeId} {d : DataW H} (ht : ts[j]? = some t) (hd : ds[j]? = some d) : ∀ n ∈ d.weights P t, n ≤ reachBytes := fun n hn => by
  have := List.all_eq_true.1 hz n (DataW.weights_mem_each ht hd n hn)
  simpa using this
end

theorem own : ownKnob Try.prog.godebug = none := by kernel_rfl
theorem kids : Kids Try.prog (· < Try.prog.types.size) := kids_rows (by kernel_rfl) (by kernel_rfl)
theorem full : ∀ t e, t < Try.prog.types.size → Try.prog.underlying t = some (.slice e) → 0 < Try.prog.cellsOf e := slices_full_of Try.prog (by kernel_rfl)

end Go.Proofs.Ytbflmipddiaiaaa
