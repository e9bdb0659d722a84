/-
  A struct loaded whole, its cells known as a list: by hand into a walk, a lexical walk of a drawn region.
-/
import Derived.Test.YtbflmipddiaiaaaOrd
import Derived.BigQuiet
namespace Go.Proofs.Ytbflmipddiaiaaa
open Go.RowKit

section
variable {P : Program}

theorem run_loadVar_at (w : World) (b off : Nat) (ty : TypeId) (cs : List Value) (d : TypeDesc) (hc : At w b off cs)
    (hu : P.underlying ty = some d) (hd : (match d with | .struct _ | .array _ _ => true | _ => false) = true) (hi : (P.info? ty).map (·.size) = some cs.length) :
    (loadVar ty ⟨b, off, none⟩).run P w = .ok (.agg cs.toArray) w := by
  have hl : (loadCells ⟨b, off, none⟩ cs.length).run P w = .ok cs.toArray w :=
    run_loadCells_list (P := P) w ⟨b, off, none⟩ cs (fun j v hv => by rw [add_mk]; exact hc j v hv)
  cases hq : P.info? ty with
  | none => simp [hq] at hi
  | some i =>
    have hs : i.size = cs.length := by simpa [hq] using hi
    have hagg : (isAgg ty).run P w = .ok true w := by
      unfold isAgg
      rw [Sem.run_bind, run_underlying hu w]
      cases d <;> simp_all
    simp [loadVar, Sem.run_bind, hagg, sizeOf, typeInfo, hq, hs, hl]

theorem exec_load_at {o : Oper} {a : Act} {w : World} (ty : TypeId) (x : Operand) (ho : o.op = .load ty x)
    (b off : Nat) (hx : a.eval x = .pointer (some ⟨b, off, none⟩)) (cs : List Value) (d : TypeDesc) (hc : At w b off cs)
    (hu : P.underlying ty = some d) (hd : (match d with | .struct _ | .array _ _ => true | _ => false) = true) (hi : (P.info? ty).map (·.size) = some cs.length) :
    (execOp a.eval o).run P w = .ok (.value (.agg cs.toArray)) w := by
  unfold execOp
  simp only [ho, hx, Instr.loadAt, Instr.sureAddr, Sem.run_bind, Sem.run_pure, Result.andThen_ok, run_loadVar_at w b off ty cs d hc hu hd hi]

theorem wpList_load_at {ops : Array Oper} {rest : List Oper} {o : Oper} {a : Act} {w : World} {Q : Exit → Act → World → Prop} (hgd : o.guard = none) (ty : TypeId) (x : Operand) (ho : o.op = .load ty x)
    (b off : Nat) (hx : a.eval x = .pointer (some ⟨b, off, none⟩)) (cs : List Value) (d : TypeDesc) (hc : At w b off cs)
    (hu : P.underlying ty = some d) (hd : (match d with | .struct _ | .array _ _ => true | _ => false) = true) (hi : (P.info? ty).map (·.size) = some cs.length)
    (h : wpList P ops Q rest (a.put o.dst (.agg cs.toArray)) w) : wpList P ops Q (o :: rest) a w :=
  wpList_plain hgd fun K hK => by
    unfold Oper.wp
    rw [exec_load_at ty x ho b off hx cs d hc hu hd hi]
    exact hK _ _ h

/-- The same behind a guard that holds. -/
theorem wpList_load_atg {ops : Array Oper} {rest : List Oper} {o : Oper} {a : Act} {w : World} {Q : Exit → Act → World → Prop} (ty : TypeId) (x : Operand) (ho : o.op = .load ty x) (hgd : Region.wanted o (yielded ops a.tmps) = true)
    (b off : Nat) (hx : a.eval x = .pointer (some ⟨b, off, none⟩)) (cs : List Value) (d : TypeDesc) (hc : At w b off cs)
    (hu : P.underlying ty = some d) (hd : (match d with | .struct _ | .array _ _ => true | _ => false) = true) (hi : (P.info? ty).map (·.size) = some cs.length)
    (h : wpList P ops Q rest (a.put o.dst (.agg cs.toArray)) w) : wpList P ops Q (o :: rest) a w :=
  BigFrame.wpList_want hgd fun K hK => by
    unfold Oper.wp
    rw [exec_load_at ty x ho b off hx cs d hc hu hd hi]
    exact hK _ _ h

theorem quiet_load_at {C : World → Prop} {K : Act → Prop} {o : Oper} {a : Act} (ty : TypeId) (x : Operand) (ho : o.op = .load ty x)
    (b off : Nat) (hx : a.eval x = .pointer (some ⟨b, off, none⟩)) (cs : List Value) (d : TypeDesc) (hc : ∀ w, C w → At w b off cs)
    (hu : P.underlying ty = some d) (hd : (match d with | .struct _ | .array _ _ => true | _ => false) = true) (hi : (P.info? ty).map (·.size) = some cs.length)
    (h : K (a.put o.dst (.agg cs.toArray))) : o.quiet P a C K :=
  ⟨_, fun w hw => by unfold Oper.quietAt; rw [exec_load_at ty x ho b off hx cs d (hc w hw) hu hd hi]; exact ⟨rfl, rfl⟩, h⟩

/-- A struct stored whole into a box, its cells known as a list. -/
theorem wpList_store_list {ops : Array Oper} {rest : List Oper} {o : Oper} {a : Act} {w : World} {Q : Exit → Act → World → Prop} (hgd : o.guard = none) (ty : TypeId) (x v : Operand) (ho : o.op = .store ty x v)
    (g : Nat) (hx : a.eval x = .pointer (some ⟨g, 0, none⟩)) (old : Array Value) (cells : List Value) (t : TypeId) (hv : a.eval v = .agg cells.toArray) (hb : Box w g old t) (hsz : old.size = cells.length)
    (hi : (P.info? ty).map (·.size) = some cells.length) (h1 : cells.all (·.oneCell') = true)
    (h : ∀ w', Box w' g cells.toArray t → w.grownBy w' (some g) → wpList P ops Q rest (a.put o.dst undef) w') : wpList P ops Q (o :: rest) a w :=
  wpList_store_box hgd ty x v ho g hx old cells.toArray t hv hb (by simpa using hsz) (by simpa using hi) (by simpa using h1) h

end

theorem At.append {w : World} {b o : Nat} {xs ys : List Value} (h : At w b o (xs ++ ys)) : At w b o xs ∧ At w b (o + xs.length) ys := by
  refine ⟨fun j u hj => h j u ?_, fun j u hj => ?_⟩
  · have hl : j < xs.length := (List.getElem?_eq_some_iff.1 hj).1
    rw [List.getElem?_append_left hl]; exact hj
  · have := h (xs.length + j) u (by rw [List.getElem?_append_right (by omega), Nat.add_sub_cancel_left]; exact hj)
    rw [← this, Nat.add_assoc]
theorem At.agree {w w' : World} {b o B : Nat} {cs : List Value} (h : At w b o cs) (ha : Agree B w w') (hb : b < B) : At w' b o cs := h.same (ha b hb)
theorem At.below {w w' : World} {b o B : Nat} {cs : List Value} (h : At w b o cs) (ha : Below B w w') (hb : b < B) : At w' b o cs := h.same (ha.block b hb)
theorem Box.at {w : World} {g : Nat} {cs : List Value} {t : TypeId} (h : Box w g cs.toArray t) : At w g 0 cs := fun j u hj => by
  rw [Nat.zero_add, Box.cell h]; simpa using hj

end Go.Proofs.Ytbflmipddiaiaaa
