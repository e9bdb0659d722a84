/-
  A region whose order is drawn, in which loads stand beside calls that make memory, and stores behind both: what the loads want of the world is asked only until operation s (the first store) has come up.
-/
import Derived.Test.YtbflmipddiaiaaaBox
import Derived.OrdersHeld
import Derived.BigFrame
namespace Go.Proofs.Ytbflmipddiaiaaa
open Go.RowKit

section
variable {P : Program} {ops : Array Oper} {Q : Exit → Act → World → Prop} {N : Act → World → Prop} {md : Region.Mode} {C : World → Prop} {s : Nat}

/-- Whatever order is picked from here on; until operation s has come up, C holds behind every operation. -/
def anyL (P : Program) (md : Region.Mode) (ops : Array Oper) (Q : Exit → Act → World → Prop) (N : Act → World → Prop) (C : World → Prop) (s : Nat) : Nat → Array Bool → Act → World → Prop
  | 0, listed, a, w => Region.ready md ops listed = [] ∧ N a w
  | n + 1, listed, a, w => (Region.ready md ops listed = [] → N a w) ∧
      ∀ i ∈ Region.ready md ops listed, wpOp P ops Q i (fun a' w' => ((listed.setIfInBounds i true).getD s true = false → C w') ∧ anyL P md ops Q N C s n (listed.setIfInBounds i true) a' w') a w

theorem anyL_any : ∀ (n : Nat) (listed : Array Bool) (a : Act) (w : World), anyL P md ops Q (Q .normal) C s n listed a w → wpAny P md ops Q n listed a w
  | 0, _, _, _, h => h
  | n + 1, _, _, _, h => ⟨h.1, fun i hi => wpOp_mono (fun a' w' k => anyL_any n _ a' w' k.2) (h.2 i hi)⟩
theorem anyL_mono {N N' : Act → World → Prop} (hN : ∀ a w, N' a w → N a w) : ∀ (n : Nat) (listed : Array Bool) (a : Act) (w : World), anyL P md ops Q N' C s n listed a w → anyL P md ops Q N C s n listed a w
  | 0, _, a, w, h => ⟨h.1, hN a w h.2⟩
  | n + 1, _, a, w, h => ⟨fun h0 => hN a w (h.1 h0), fun i hi => wpOp_mono (fun a' w' k => ⟨k.1, anyL_mono hN n _ a' w' k.2⟩) (h.2 i hi)⟩
/-- Where several orders meet again: the frame is F x, the world one that x fits; what follows is shown once. -/
theorem anyL_meet {β : Type} (F : β → Act) (R : β → World → Prop) {N : Act → World → Prop} {n : Nat} {listed : Array Bool} {a : Act} {w : World}
    (h : anyL P md ops Q (fun a' w' => ∃ x, a' = F x ∧ R x w') C s n listed a w) (hN : ∀ x w', R x w' → N (F x) w') : anyL P md ops Q N C s n listed a w :=
  anyL_mono (fun a' w' ⟨x, he, hr⟩ => he ▸ hN x w' hr) n listed a w h

/-- Operation s waits for operation i. -/
def Waits (md : Region.Mode) (ops : Array Oper) (s i : Nat) : Bool := ((ops[s]?).map fun o => o.after.any fun e => Region.binds md e && e.on == i).getD false

theorem not_ready {i j : Nat} {listed : Array Bool} (hw : Waits md ops j i = true) (hi : listed.getD i false = false) : j ∉ Region.ready md ops listed := by
  intro hj
  obtain ⟨_, o, ho, hall⟩ := mem_ready.1 hj
  simp only [Waits, ho, Option.map_some, Option.getD_some] at hw
  obtain ⟨e, he, hb⟩ := Array.any_eq_true'.1 hw
  simp only [Bool.and_eq_true, beq_iff_eq] at hb
  have := hall e he hb.1
  rw [hb.2, hi] at this
  cases this

theorem getD_flip {listed : Array Bool} {i : Nat} (h : listed.getD i true = false) : listed.getD i false = false := by
  by_cases hlt : i < listed.size
  · simpa [hlt] using h
  · simp [hlt] at h

theorem anyL_first {i : Nat} {oi : Oper} {v : Value} (hi : ops[i]? = some oi) (hsel : ∀ (j : Nat) (o : Oper) cs b, ops[j]? = some o → o.op ≠ .select cs b)
    (hQ : ∀ c a w, Q (.panic c) (a.put oi.dst v) w → Q (.panic c) a w) (hw : Waits md ops s i = true) (hsi : s ≠ i) : ∀ (n : Nat) (listed : Array Bool) (a : Act) (w : World),
      (∀ j oj, ops[j]? = some oj → j ≠ i → listed.getD j true = false → (∀ e ∈ oj.after, Region.binds md e = true → e.on ≠ i) → oi.apart ops oj = true) →
      i ∈ Region.ready md ops listed → YieldsIf P ops C oi v a → listed.getD s true = false → C w →
      anyL P md ops Q N C s n (listed.setIfInBounds i true) (a.put oi.dst v) w → anyL P md ops Q N C s (n + 1) listed a w := by
  intro n
  induction n with
  | zero =>
    intro listed a w _ hr hy _ hS H
    refine ⟨fun h0 => absurd hr (by rw [h0]; exact List.not_mem_nil), fun j hj => ?_⟩
    by_cases hji : j = i
    · subst hji
      exact hy.wpOp hi hS ⟨fun _ => hS, H⟩
    · have hn := ready_mono hj hji
      rw [H.1] at hn
      exact absurd hn List.not_mem_nil
  | succ n ih =>
    intro listed a w hfree hr hy hs hS H
    refine ⟨fun h0 => absurd hr (by rw [h0]; exact List.not_mem_nil), fun j hj => ?_⟩
    by_cases hji : j = i
    · subst hji
      exact hy.wpOp hi hS ⟨fun _ => hS, H⟩
    · obtain ⟨hjun, oj, hoj, hall⟩ := mem_ready.1 hj
      have hun : listed.getD i true = false := (mem_ready.1 hr).1
      have hjs : j ≠ s := fun e => not_ready (listed := listed) hw (getD_flip hun) (e ▸ hj)
      have hnot : ∀ e ∈ oj.after, Region.binds md e = true → e.on ≠ i := by
        intro e he hb heq
        have hl := hall e he hb
        rw [heq, getD_flip hun] at hl
        cases hl
      have hstep := wpOp_putIf hoj (hfree j oj hoj hji hjun hnot) (fun cs b => hsel i oi cs b hi) (fun cs b => hsel j oj cs b hoj) hQ hy (H.2 j (ready_mono hj hji))
      have hs1 : (listed.setIfInBounds j true).getD s true = false := by rw [getD_set_ne true hjs]; exact hs
      refine wpOp_mono (fun a' w' ⟨hy', hS', hrest⟩ => ?_) hstep
      have hC' : C w' := hS' (by rw [getD_set_ne true hjs, getD_set_ne true (fun e => hsi e.symm)]; exact hs)
      refine ⟨fun _ => hC', ih (listed.setIfInBounds j true) a' w' ?_ (ready_mono hr (Ne.symm hji)) hy' hs1 hC' ?_⟩
      · intro k ok hk hki hkun hkno
        refine hfree k ok hk hki ?_ hkno
        by_cases hjk : j = k
        · subst hjk; exact hjun
        · rw [getD_set_ne true hjk] at hkun; exact hkun
      · rw [Array.setIfInBounds_comm _ _ hji]
        exact hrest

/-- Take number i first. -/
theorem anyL_take (i : Nat) {oi : Oper} {v : Value} {n : Nat} {listed : Array Bool} {a : Act} {w : World} (hi : ops[i]? = some oi)
    (hB : (Region.noSelect ops && Region.free md ops listed i && (Region.ready md ops listed).contains i && Waits md ops s i && (s != i) && !listed.getD s true) = true)
    (hQ : ∀ c a w, Q (.panic c) (a.put oi.dst v) w → Q (.panic c) a w) (hC : C w) (hy : YieldsIf P ops C oi v a)
    (h : anyL P md ops Q N C s n (listed.setIfInBounds i true) (a.put oi.dst v) w) : anyL P md ops Q N C s (n + 1) listed a w := by
  simp only [Bool.and_eq_true, bne_iff_ne, Bool.not_eq_true'] at hB
  obtain ⟨⟨⟨⟨⟨b1, b2⟩, b3⟩, b4⟩, b5⟩, b6⟩ := hB
  exact anyL_first hi (Region.noSelect_spec b1) hQ b4 b5 n listed a w (Region.free_spec hi b2) (by simpa using b3) hy b6 hC h

/-- Only number i may come up. -/
theorem anyL_one (i : Nat) {oi : Oper} {n : Nat} {listed : Array Bool} {a : Act} {w : World} (hi : ops[i]? = some oi) (hr : Region.ready md ops listed = [i])
    (hw : Region.wanted oi (yielded ops a.tmps) = true)
    (h : ∀ K : Act → World → Prop, (∀ a' w', ((listed.setIfInBounds i true).getD s true = false → C w') → anyL P md ops Q N C s n (listed.setIfInBounds i true) a' w' → K a' w') → oi.wp P a w K Q) :
    anyL P md ops Q N C s (n + 1) listed a w := by
  refine ⟨fun h0 => (by rw [hr] at h0; cases h0), fun j hj => ?_⟩
  rw [hr] at hj
  obtain rfl := List.mem_singleton.1 hj
  have := h (fun a' w' => ((listed.setIfInBounds j true).getD s true = false → C w') ∧ anyL P md ops Q N C s n (listed.setIfInBounds j true) a' w') (fun a' w' h1 h2 => ⟨h1, h2⟩)
  unfold wpOp
  simp only [hi, hw, if_true]
  exact .inl this

theorem anyL_done {n : Nat} {listed : Array Bool} {a : Act} {w : World} (hr : Region.ready md ops listed = []) (h : N a w) : anyL P md ops Q N C s n listed a w := by
  cases n with
  | zero => exact ⟨hr, h⟩
  | succ n => exact ⟨fun _ => h, by rw [hr]; simp⟩

/-- The beginning: a region whose operations are written out. -/
theorem wp_region_L (C : World → Prop) (s : Nat) {id : Nat} {l : List Oper} {a : Act} {w : World} (hm : P.follows .mixedOrders = true)
    (h : anyL P .any l.toArray Q (Q .normal) C s l.length (Array.replicate l.length false) a w.drew) : (Code.region id l.toArray true).wp P Q a w :=
  wp_region_any hm (by simpa using anyL_any _ _ _ _ h : wpAny P .any l.toArray Q l.toArray.size (Array.replicate l.toArray.size false) a w.drew)

/-- An operation that reads, in every world that C lets in. -/
theorem yieldsIf_of {oi : Oper} {v : Value} {a : Act} (hw : Region.wanted oi (yielded ops a.tmps) = true) (h : ∀ w, C w → (execOp a.eval oi).run P w = .ok (.value v) w) : YieldsIf P ops C oi v a := .inl ⟨hw, h⟩

end
end Go.Proofs.Ytbflmipddiaiaaa
