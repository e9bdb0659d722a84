/-
  Structs put together and stored, their cells known as lists; one more driver for a drawn region: two operations may come up.
-/
import Derived.Test.YtbflmipddiaiaaaLoad
import Derived.Great.Walk
namespace Go.Proofs.Ytbflmipddiaiaaa
open Go.RowKit

section
variable {P : Program}

theorem wp_store_list {o : Oper} {a : Act} {w : World} {K : Act → World → Prop} {Q : Exit → Act → World → Prop} (ty : TypeId) (x v : Operand) (ho : o.op = .store ty x v)
    (g : Nat) (hx : a.eval x = .pointer (some ⟨g, 0, none⟩)) (old : Array Value) (cells : List Value) (t : TypeId) (hv : a.eval v = .agg cells.toArray) (hb : Box w g old t) (hsz : old.size = cells.length)
    (hi : (P.info? ty).map (·.size) = some cells.length) (h1 : cells.all (·.oneCell') = true)
    (h : ∀ w', Box w' g cells.toArray t → w.grownBy w' (some g) → K (a.put o.dst undef) w') : o.wp P a w K Q := by
  have hr := run_storeVar_row (P := P) w g t ty old cells.toArray hb (by simpa using hi) (by simpa using hsz) (by simpa using h1)
  unfold Oper.wp execOp
  simp only [ho, hx, hv, Instr.storeAt, Instr.sureAddr, Sem.run_bind, Sem.run_pure, Result.andThen_ok, hr]
  exact h _ (setRow_heap w g old cells.toArray t (0, 0) hb) ⟨rfl, rfl, rfl, by simp, fun k _ hk => setRow_other w g k cells.toArray (fun e => hk (by rw [e]))⟩

theorem wp_load_at {o : Oper} {a : Act} {w : World} {K : Act → World → Prop} {Q : Exit → Act → World → Prop} (ty : TypeId) (x : Operand) (ho : o.op = .load ty x)
    (b off : Nat) (hx : a.eval x = .pointer (some ⟨b, off, none⟩)) (cs : List Value) (d : TypeDesc) (hc : At w b off cs)
    (hu : P.underlying ty = some d) (hd : (match d with | .struct _ | .array _ _ => true | _ => false) = true) (hi : (P.info? ty).map (·.size) = some cs.length)
    (h : K (a.put o.dst (.agg cs.toArray)) w) : o.wp P a w K Q := by
  unfold Oper.wp
  rw [exec_load_at ty x ho b off hx cs d hc hu hd hi]
  exact h

/-- A struct put together: the caller says the cells. -/
theorem wp_build_to {o : Oper} {a : Act} {w : World} {K : Act → World → Prop} {Q : Exit → Act → World → Prop} (t : TypeId) (parts : List (Nat × Operand)) (ho : o.op = .build t parts.toArray)
    (cells : Array Value) (hf' : P.built t (parts.map fun (i, x) => (i, a.eval x)) = some cells)
    (h : K (a.put o.dst (.agg cells)) w) : o.wp P a w K Q :=
  have hf : P.built t (parts.toArray.map fun (i, x) => (i, a.eval x)).toList = some cells := by rw [Array.toList_map]; exact hf'
  wp_build t parts.toArray ho (by rw [hf]; rfl) (by rw [hf]; exact h)

theorem exec_build_to {o : Oper} {a : Act} {w : World} (t : TypeId) (parts : List (Nat × Operand)) (ho : o.op = .build t parts.toArray)
    (cells : Array Value) (hf' : P.built t (parts.map fun (i, x) => (i, a.eval x)) = some cells) : (execOp a.eval o).run P w = .ok (.value (.agg cells)) w := by
  have hf : P.built t (parts.toArray.map fun (i, x) => (i, a.eval x)).toList = some cells := by rw [Array.toList_map]; exact hf'
  unfold execOp
  simp only [ho, Sem.run_bind, run_build w t _ cells hf, Result.andThen_ok]
  rfl
/-- A slice literal: the caller says the cells. -/
theorem wp_buildSlice_to {o : Oper} {a : Act} {w : World} {K : Act → World → Prop} {Q : Exit → Act → World → Prop} (t e : TypeId) (len : Nat) (parts : List (Nat × Operand)) (ho : o.op = .buildSlice t len parts.toArray)
    (hu : P.underlying t = some (.slice e)) (cells : Array Value)
    (hf' : P.builtSlice e len (parts.map fun (i, x) => (i, a.eval x)) = some cells)
    (h : K (a.put o.dst (.slice (some ⟨w.heap.size, 0, none⟩) len len)) (w.alloc (.cells cells e))) : o.wp P a w K Q := by
  have hf : P.builtSlice e len (parts.toArray.map fun (i, x) => (i, a.eval x)).toList = some cells := by rw [Array.toList_map]; exact hf'
  unfold Program.builtSlice at hf
  cases hie : P.info? e with
  | none => simp [hie] at hf
  | some ie =>
    simp only [hie] at hf
    cases hz : ie.zero with
    | none => simp [hz] at hf
    | some z =>
      simp only [hz] at hf
      by_cases hc : len * ie.size > 2 ^ 24 ∨ len * ie.size = 0
      · simp [hc] at hf
      · rw [if_neg hc] at hf
        exact wp_buildSlice t e len parts.toArray ho cells ie z hu hie hz (fun h => hc (.inl h)) (fun h => hc (.inr h)) hf h

variable {ops : Array Oper} {Q : Exit → Act → World → Prop} {N : Act → World → Prop} {md : Region.Mode} {C : World → Prop} {s : Nat}
/-- One of two may come up. -/
theorem anyL_two (i j : Nat) {oi oj : Oper} {n : Nat} {listed : Array Bool} {a : Act} {w : World} (hi : ops[i]? = some oi) (hj : ops[j]? = some oj) (hr : Region.ready md ops listed = [i, j])
    (hw : Region.wanted oi (yielded ops a.tmps) = true) (hw' : Region.wanted oj (yielded ops a.tmps) = true)
    (h1 : ∀ K : Act → World → Prop, (∀ a' w', ((listed.setIfInBounds i true).getD s true = false → C w') → anyL P md ops Q N C s n (listed.setIfInBounds i true) a' w' → K a' w') → oi.wp P a w K Q)
    (h2 : ∀ K : Act → World → Prop, (∀ a' w', ((listed.setIfInBounds j true).getD s true = false → C w') → anyL P md ops Q N C s n (listed.setIfInBounds j true) a' w' → K a' w') → oj.wp P a w K Q) :
    anyL P md ops Q N C s (n + 1) listed a w := by
  refine ⟨fun h0 => (by rw [hr] at h0; cases h0), fun k hk => ?_⟩
  rw [hr] at hk
  rcases List.mem_cons.1 hk with rfl | hk
  · have := h1 (fun a' w' => ((listed.setIfInBounds k true).getD s true = false → C w') ∧ anyL P md ops Q N C s n (listed.setIfInBounds k true) a' w') (fun a' w' h1 h2 => ⟨h1, h2⟩)
    unfold wpOp
    simp only [hi, hw, if_true]
    exact .inl this
  · obtain rfl := List.mem_singleton.1 hk
    have := h2 (fun a' w' => ((listed.setIfInBounds k true).getD s true = false → C w') ∧ anyL P md ops Q N C s n (listed.setIfInBounds k true) a' w') (fun a' w' h1 h2 => ⟨h1, h2⟩)
    unfold wpOp
    simp only [hj, hw', if_true]
    exact .inl this

/-- Where two orders meet again: what is put behind the frame as it stands. -/
theorem anyL_meet' {β : Type} (F : Act → β → Act) (R : β → World → Prop) {n : Nat} {listed : Array Bool} {a : Act} {w : World}
    (h : anyL P md ops Q (fun a' w' => ∃ x, a' = F a x ∧ R x w') C s n listed a w) (hN : ∀ x w', R x w' → N (F a x) w') : anyL P md ops Q N C s n listed a w :=
  anyL_meet (F a) R h hN

theorem wpList_buildSlice_to {rest : List Oper} {o : Oper} {a : Act} {w : World} (t e : TypeId) (len : Nat) (parts : List (Nat × Operand)) (ho : o.op = .buildSlice t len parts.toArray) (hgd : o.guard = none)
    (hu : P.underlying t = some (.slice e)) (cells : Array Value)
    (hf' : P.builtSlice e len (parts.map fun (i, x) => (i, a.eval x)) = some cells)
    (h : wpList P ops Q rest (a.put o.dst (.slice (some ⟨w.heap.size, 0, none⟩) len len)) (w.alloc (.cells cells e))) : wpList P ops Q (o :: rest) a w :=
  wpList_plain hgd fun _ hK => wp_buildSlice_to t e len parts ho hu cells hf' (hK _ _ h)

end
end Go.Proofs.Ytbflmipddiaiaaa
