/-
  More words on boxes and on what is one's own: what a store into a box leaves as it is.
-/
import Derived.Test.YtbflmipddiaiaaaApp
namespace Go.Proofs.Ytbflmipddiaiaaa
open Go.RowKit

theorem flat_ostays {α : Type} (S : TypeId → Prop) (enc : α → List Value) (ok : α → Prop) : OStays S (FlatOk enc ok) := fun _ _ _ _ _ _ h _ _ => h

/-- Block g is a block of cells of type t, none frozen. -/
def IsBox (w : World) (g : Nat) (t : TypeId) : Prop := ∃ cs, Box w g cs t
theorem Box.is {w : World} {g : Nat} {cs : Array Value} {t : TypeId} (h : Box w g cs t) : IsBox w g t := ⟨_, h⟩
theorem IsBox.set {w : World} {g : Nat} {t : TypeId} (h : IsBox w g t) (a : Addr) (u : Value) : IsBox (w.setCell a u) g t := by
  obtain ⟨cs, hb⟩ := h
  by_cases hg : g = a.block
  · subst hg
    obtain ⟨b, o, s⟩ := a
    unfold Box at hb
    refine ⟨if s.isSome then cs else cs.setIfInBounds o u, ?_⟩
    unfold Box
    simp only [World.setCell, Array.getElem?_modify, if_true]
    rw [hb]
    rfl
  · exact ⟨cs, hb.far hg u⟩
theorem IsBox.below {w w' : World} {g : Nat} {t : TypeId} (h : IsBox w g t) (hb : Below w.heap.size w w') : IsBox w' g t := by
  obtain ⟨cs, h⟩ := h
  exact ⟨cs, h.below hb⟩
theorem IsBox.alloc {w : World} {g : Nat} {t : TypeId} (h : IsBox w g t) (o : Obj) : IsBox (w.alloc o) g t := by
  obtain ⟨cs, h⟩ := h
  exact ⟨cs, h.alloc o⟩

theorem Kp.set {S : TypeId → Prop} {w0 w : World} (h : Kp S w0 w) {g i : Nat} {t : TypeId} (hb : IsBox w g t) (hS : ¬ S t) (u : Value) : Kp S w0 (w.setCell ⟨g, i, none⟩ u) := by
  obtain ⟨cs, hb⟩ := hb
  exact h.trans (Kp.mono (Kp.setCell (a := ⟨g, i, none⟩) u ⟨cs, _, hb⟩) (fun t' hs e => hS (e ▸ hs)))
theorem Kp.alloc {S : TypeId → Prop} {w0 w : World} (h : Kp S w0 w) (o : Obj) : Kp S w0 (w.alloc o) := h.trans (Kp.below ((Below.refl _ _).alloc (Nat.le_refl _) o) S)
theorem Kp.drewN {S : TypeId → Prop} {w0 w : World} (h : Kp S w0 w) (n : Nat) : Kp S w0 (w.drewN n) := h
theorem Kp.drew {S : TypeId → Prop} {w0 w : World} (h : Kp S w0 w) : Kp S w0 w.drew := h
theorem Kp.bel {S : TypeId → Prop} {w0 w w' : World} (h : Kp S w0 w) (hb : Below w.heap.size w w') : Kp S w0 w' := h.trans (Kp.below hb S)
/-- Behind an append onto a row of elements of type e. -/
theorem Kp.row {α : Type} {S : TypeId → Prop} {w0 w w' : World} (h : Kp S w0 w) {e size : Nat} {O : Ro α} {lo : Nat} {v : Value} {xs : List α} (ho : Ow e size O w lo v xs) (hg : w.grownBy w' v.ownBlock) (hS : ¬ S e) : Kp S w0 w' :=
  h.trans (Kp.mono (Kp.grown hg ho.rowTy) (fun t' hs e => hS (e ▸ hs)))
theorem IsBox.row {α : Type} {w w' : World} {g : Nat} {t : TypeId} {e size : Nat} {O : Ro α} {lo : Nat} {v : Value} {xs : List α} (h : IsBox w g t) (ho : Ow e size O w lo v xs) (hg : w.grownBy w' v.ownBlock) (hne : e ≠ t) : IsBox w' g t := by
  obtain ⟨cs, h⟩ := h
  exact ⟨cs, h.row ho hg hne⟩
/-- Below, behind an append onto a row of one's own. -/
theorem below_row {α : Type} {w0 w w' : World} {e size : Nat} {O : Ro α} {lo : Nat} {v : Value} {xs : List α} (h : Below w0.heap.size w0 w) (ho : Ow e size O w lo v xs) (hg : w.grownBy w' v.ownBlock) (hlo : w0.heap.size ≤ lo) : Below w0.heap.size w0 w' :=
  h.grown hg h.size (fun g hg => Nat.le_trans hlo (ho.lo g hg))

theorem Box.of_grown {w w' : World} {row : Option Nat} (hg : w.grownBy w' row) {g : Nat} {cs : Array Value} {t : TypeId} (h : Box w g cs t) (hne : row ≠ some g) : Box w' g cs t := h.grown hg hne
theorem Box.of_below {w w' : World} (hb : Below w.heap.size w w') {g : Nat} {cs : Array Value} {t : TypeId} (h : Box w g cs t) : Box w' g cs t := h.below hb

/-- An append onto nil only makes memory. -/
theorem below_none {w w' : World} (hg : w.grownBy w' (Value.slice none 0 0).ownBlock) : Below w.heap.size w w' :=
  ⟨hg.os, hg.tape, hg.output, hg.size, fun k hk => hg.block k hk (by simp [Value.ownBlock])⟩

/-! ### A struct stored whole into a box -/
theorem wpList_store_box {P : Program} {ops : Array Oper} {rest : List Oper} {o : Oper} {a : Act} {w : World} {Q : Exit → Act → World → Prop} (hgd : o.guard = none) (ty : TypeId) (x v : Operand) (ho : o.op = .store ty x v)
    (g : Nat) (hx : a.eval x = .pointer (some ⟨g, 0, none⟩)) (old cells : Array Value) (t : TypeId) (hv : a.eval v = .agg cells) (hb : Box w g old t) (hsz : old.size = cells.size)
    (hi : (P.info? ty).map (·.size) = some cells.size) (h1 : cells.all (·.oneCell') = true)
    (h : ∀ w', Box w' g cells t → w.grownBy w' (some g) → wpList P ops Q rest (a.put o.dst undef) w') : wpList P ops Q (o :: rest) a w :=
  wpList_plain hgd fun K hK => by
    have hr := run_storeVar_row (P := P) w g t ty old cells hb hi hsz h1
    unfold Oper.wp execOp
    simp only [ho, hx, hv, Instr.storeAt, Instr.sureAddr, Sem.run_bind, Sem.run_pure, Result.andThen_ok, hr]
    exact hK _ _ (h _ (setRow_heap w g old cells t (0, 0) hb) ⟨rfl, rfl, rfl, by simp, fun k _ hk => setRow_other w g k cells (fun e => hk (by rw [e]))⟩)

theorem Kp.gr {S : TypeId → Prop} {w0 w w' : World} (h : Kp S w0 w) {g : Nat} {t : TypeId} (hg : w.grownBy w' (some g)) (hb : IsBox w g t) (hS : ¬ S t) : Kp S w0 w' := by
  obtain ⟨cs, hb⟩ := hb
  exact h.trans (Kp.mono (Kp.grown (e := t) hg (fun g' e => by injection e with e; subst e; exact ⟨cs, _, hb⟩)) (fun t' hs e => hS (e ▸ hs)))
theorem below_gr {w0 w w' : World} {g : Nat} (h : Below w0.heap.size w0 w) (hg : w.grownBy w' (some g)) (hlo : w0.heap.size ≤ g) : Below w0.heap.size w0 w' :=
  h.grown hg h.size (fun k e => by injection e with e; omega)
theorem IsBox.gr {w w' : World} {g g' : Nat} {t : TypeId} (h : IsBox w g t) (hg : w.grownBy w' (some g')) (hne : g ≠ g') : IsBox w' g t := by
  obtain ⟨cs, h⟩ := h
  exact ⟨cs, h.grown hg (fun e => hne (by injection e with e; exact e.symm))⟩

theorem ne_opt {a b : Nat} (h : a ≠ b) : some a ≠ some b := fun e => h (by injection e)
theorem al1_below (w : World) (A : Obj) : Below w.heap.size w (w.alloc A) := (Below.refl _ _).alloc (Nat.le_refl _) A
theorem al2_below (w : World) (A B : Obj) : Below w.heap.size w ((w.alloc A).alloc B) := (al1_below w A).alloc (by simp) B
theorem al3_below (w : World) (A B C : Obj) : Below w.heap.size w (((w.alloc A).alloc B).alloc C) := (al2_below w A B).alloc (by simp; omega) C

end Go.Proofs.Ytbflmipddiaiaaa
