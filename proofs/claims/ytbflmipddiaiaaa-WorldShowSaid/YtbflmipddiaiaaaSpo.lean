/-
  What is one's own, written over: blocks of some types below a number stay, all blocks keep their type and their size. Plain Lean over the library.
-/
import Derived.Test.YtbflmipddiaiaaaBox
namespace Go.Proofs.Ytbflmipddiaiaaa
open Go.RowKit

/-- From w to w' blocks below lo, and blocks of types in S, are as they were; every block of cells keeps its type and its number of cells. -/
def Spo (lo : Nat) (S : TypeId → Prop) (w w' : World) : Prop :=
  Below lo w w' ∧ Kp S w w' ∧ ∀ (g : Nat) (cur : Array Value) (t : TypeId), Box w g cur t → ∃ cur', Box w' g cur' t ∧ cur'.size = cur.size
theorem Spo.refl (lo : Nat) (S : TypeId → Prop) (w : World) : Spo lo S w w := ⟨Below.refl _ _, Kp.refl _ _, fun _ cur _ h => ⟨cur, h, rfl⟩⟩
theorem Spo.trans {lo : Nat} {S : TypeId → Prop} {a b c : World} (h : Spo lo S a b) (k : Spo lo S b c) : Spo lo S a c :=
  ⟨h.1.trans k.1, h.2.1.trans k.2.1, fun g cur t hb => by
    obtain ⟨c1, h1, e1⟩ := h.2.2 g cur t hb
    obtain ⟨c2, h2, e2⟩ := k.2.2 g c1 t h1
    exact ⟨c2, h2, e2.trans e1⟩⟩
theorem Spo.drew {lo : Nat} {S : TypeId → Prop} {w0 w : World} (h : Spo lo S w0 w) : Spo lo S w0 w.drew := ⟨h.1.drew, h.2.1, h.2.2⟩
theorem Spo.drewN {lo : Nat} {S : TypeId → Prop} {w0 w : World} (h : Spo lo S w0 w) (n : Nat) : Spo lo S w0 (w.drewN n) := ⟨below_drewN h.1 n, h.2.1, h.2.2⟩
theorem Spo.set {lo : Nat} {S : TypeId → Prop} {w0 w : World} (h : Spo lo S w0 w) {g i : Nat} {t : TypeId} (hlo : lo ≤ g) (hb : IsBox w g t) (hS : ¬ S t) (u : Value) : Spo lo S w0 (w.setCell ⟨g, i, none⟩ u) := by
  refine ⟨h.1.setCell hlo u, h.2.1.set hb hS u, fun k cur t' hk => ?_⟩
  obtain ⟨c1, h1, e1⟩ := h.2.2 k cur t' hk
  by_cases hkg : k = g
  · subst hkg
    exact ⟨_, h1.set i u, by simpa using e1⟩
  · exact ⟨c1, h1.far (p := ⟨g, i, none⟩) hkg u, e1⟩
theorem Spo.below {lo : Nat} {S : TypeId → Prop} {w w' : World} (h : Below w.heap.size w w') (hlo : lo ≤ w.heap.size) : Spo lo S w w' :=
  ⟨h.mono hlo, Kp.below h S, fun g cur t hb => ⟨cur, hb.below h, rfl⟩⟩

/-- A slice of one's own, its cells written over since: where its elements lie. -/
theorem Ow.spoilt {α : Type} {e size : Nat} {O : Ro α} {w : World} {lo : Nat} {v : Value} {xs : List α} (h : Ow e size O w lo v xs) :
    ∃ A c, v = .slice A xs.length c ∧ xs.length ≤ 140737488355328 ∧ ∀ k, k < xs.length → ∃ g o, A = some ⟨g, o, none⟩ ∧ lo ≤ g ∧
      ∀ W lo' S, Spo lo' S w W → IsBox W g e ∧ ∀ j, j < size → (∃ u, W.cell? ⟨g, o + k * size + j, none⟩ = some u) ∧ W.frozen? ⟨g, o + k * size + j, none⟩ = false := by
  obtain ⟨css, h1, h0, h2, h3⟩ := h
  rcases h2.2 with ⟨rfl, hn⟩ | ⟨g, cap, cur, rfl, hlo, hg, hnc, hcm, hsz, _⟩
  · exact ⟨none, 0, by rw [hn], h0, fun k hk => by omega⟩
  · refine ⟨some ⟨g, 0, none⟩, cap, rfl, h0, fun k hk => ⟨g, 0, rfl, hlo, fun W lo' S hs => ?_⟩⟩
    obtain ⟨c1, hb, e1⟩ := hs.2.2 g cur e hg
    refine ⟨hb.is, fun j hj => ⟨?_, Box.frozen hb _⟩⟩
    rw [Box.cell hb]
    have hlt : 0 + k * size + j < c1.size := by
      rw [e1, hsz]
      have : (k + 1) * size ≤ cap * size := Nat.mul_le_mul_right _ (by omega)
      rw [Nat.add_mul] at this
      omega
    exact ⟨_, Array.getElem?_eq_getElem hlt⟩

/-- .. its own block not written: its elements' cells are as they were. -/
theorem Ow.whole {α : Type} {e size : Nat} {O : Ro α} {w : World} {lo : Nat} {v : Value} {xs : List α} (h : Ow e size O w lo v xs) :
    ∃ A c, v = .slice A xs.length c ∧ xs.length ≤ 140737488355328 ∧ ∀ (k : Nat) (hk : k < xs.length), ∃ g o cs, A = some ⟨g, o, none⟩ ∧ lo ≤ g ∧ cs.length = size ∧ O w lo cs xs[k] ∧
      ∀ W S, Kp S w W → S e → At W g (o + k * size) cs := by
  obtain ⟨css, h1, h0, h2, h3⟩ := h
  have hall : ∀ cs ∈ css, cs.length = size := fun cs hcs => by
    obtain ⟨i, hi, rfl⟩ := List.getElem_of_mem hcs
    exact (h3 i css[i] (xs[i]'(by omega)) (by simp [hi]) (by simp [show i < xs.length by omega])).1
  rcases h2.2 with ⟨rfl, hn⟩ | ⟨g, cap, cur, rfl, hlo, hg, hnc, hcm, hsz, ht⟩
  · exact ⟨none, 0, by rw [hn], h0, fun k hk => by omega⟩
  · refine ⟨some ⟨g, 0, none⟩, cap, rfl, h0, fun k hk => ?_⟩
    have hk' : k < css.length := by omega
    obtain ⟨hl, ho⟩ := h3 k css[k] xs[k] (by simp [hk']) (by simp [hk])
    refine ⟨g, 0, css[k], rfl, hlo, hl, ho, fun W S hK hS j u hj => ?_⟩
    have hjl : j < size := by rw [← hl]; exact (List.getElem?_eq_some_iff.1 hj).1
    have hf := flatten_get css hall k j css[k] (by simp [hk']) hjl
    rw [hj] at hf
    have hr : W.ownsRow lo e size (.slice (some ⟨g, 0, none⟩) xs.length cap) xs.length css.flatten := ownsRow_kp h2 hK hS (Nat.le_refl _)
    have := hr.cells (g := g) rfl _ _ hf
    rwa [add_mk, ← Nat.add_assoc] at this

end Go.Proofs.Ytbflmipddiaiaaa
