/-
  append onto what the call itself has made, as one law: the source any slice that reads as flat elements (nil, empty or not). Plain Lean over the library.
-/
import Derived.Test.YtbflmipddiaiaaaKit
import Derived.Maps.AppendAt
import Derived.Deep.AppendLies
import Derived.RegionTactic
import Derived.OwnWalk
namespace Go.Proofs.Ytbflmipddiaiaaa
open Go.RowKit

theorem map_flatten_append {α : Type} (enc : α → List Value) (xs ys : List α) : (xs.map enc).flatten ++ (ys.map enc).flatten = ((xs ++ ys).map enc).flatten := by simp

/-- A row of flat elements of one's own. -/
theorem Ow.of_row {α : Type} {e : TypeId} {size : Nat} {enc : α → List Value} {ok : α → Prop} {w : World} {lo : Nat} {v : Value} {xs : List α} (hlen : ∀ x, (enc x).length = size) (hok : ∀ x ∈ xs, ok x)
    (hn : xs.length ≤ 140737488355328) (h : w.ownsRow lo e size v xs.length (xs.map enc).flatten) : Ow e size (FlatOk enc ok) w lo v xs :=
  ⟨xs.map enc, by simp, hn, h, fun k cs x hc hx => by
    rw [List.getElem?_map, hx] at hc
    simp at hc
    subst hc
    exact ⟨hlen x, rfl, hok x (List.mem_of_getElem? hx)⟩⟩

theorem Ow.row {α : Type} {e : TypeId} {size : Nat} {enc : α → List Value} {ok : α → Prop} {w : World} {lo : Nat} {v : Value} {xs : List α} (h : Ow e size (FlatOk enc ok) w lo v xs) :
    (∀ x ∈ xs, ok x) ∧ xs.length ≤ 140737488355328 ∧ w.ownsRow lo e size v xs.length (xs.map enc).flatten := by
  obtain ⟨css, h1, h0, h2, h3⟩ := h
  have hc : css = xs.map enc := by
    apply List.ext_getElem?
    intro k
    rw [List.getElem?_map]
    by_cases hk : k < css.length
    · have hx : xs[k]? = some (xs[k]'(by omega)) := List.getElem?_eq_getElem _
      rw [List.getElem?_eq_getElem hk, hx]
      exact congrArg some (h3 k css[k] _ (List.getElem?_eq_getElem hk) hx).2.1
    · rw [List.getElem?_eq_none (by omega), List.getElem?_eq_none (by omega)]; rfl
  subst hc
  refine ⟨fun x hx => ?_, h0, h2⟩
  obtain ⟨k, hk, rfl⟩ := List.getElem_of_mem hx
  exact (h3 k (enc xs[k]) xs[k] (by simp [hk]) (by simp [hk])).2.2

/-- WHAT THE PROGRAM's TABLES SAY of a slice type t and its element type e. -/
structure ET (P : Program) (t e size bytes : Nat) : Prop where
  under : P.underlying t = some (.slice e)
  info : ∃ i z, P.info? e = some i ∧ i.zero = some z ∧ i.size = size ∧ i.bytes = bytes ∧ z.cells.size = size
  pos : 0 < size

theorem ET.mk' {P : Program} {t e size bytes : Nat} {z : Value} (hu : P.underlying t = some (.slice e)) (hi : (P.info? e).map (fun i => (i.zero, i.size, i.bytes)) = some (some z, size, bytes)) (hz : z.cells.size = size) (hp : 0 < size) : ET P t e size bytes := by
  obtain ⟨i, h1, h2, h3, h4⟩ := info_parts hi
  exact ⟨hu, ⟨i, z, h1, h2, h3, h4, hz⟩, hp⟩

/-- An encoding: so many cells, each of one cell. -/
structure Enc {α : Type} (size : Nat) (enc : α → List Value) : Prop where
  len : ∀ x, (enc x).length = size
  one : ∀ x, ∀ u ∈ enc x, u.oneCell' = true

section
variable {P : Program} (w : World)

theorem run_append_sl {α : Type} {enc : α → List Value} {ok : α → Prop} (lo : Nat) (t ty e size bytes : Nat) (T : ET P t e size bytes) (E : Enc size enc)
    (v : Value) (ys : List α) (hown : Ow e size (FlatOk enc ok) w lo v ys) (B : Nat) (A : Option Addr) (m c : Nat) (xs : List α) (hr : Sl size (FlatOk enc ok) w B (.slice A m c) xs)
    (hbytes : Hid ((ys.length + xs.length) * bytes ≤ 140737488355328 ∧ ys.length + xs.length ≤ 140737488355328)) (hbase : lo ≤ w.heap.size) :
    ∃ v' w', (Builtin.append_ #[t, t] ty #[v, .slice A m c]).run P w = .ok v' w' ∧ Ow e size (FlatOk enc ok) w' lo v' (ys ++ xs) ∧ w.grownBy w' v.ownBlock := by
  obtain ⟨i, z, hi, hz, hsize, hby, hzs⟩ := T.info
  have ht := T.under
  obtain ⟨hoky, hny, hrow⟩ := hown.row
  obtain ⟨hm, hokx, hl, hnil, hcell⟩ := hr.flat_cells E.len T.pos
  obtain ⟨hb, h63⟩ := hbytes.out
  subst hm
  rcases A with _ | ad
  · have hx := hnil rfl
    subst hx
    refine ⟨v, w, ?_, by simpa using hown, World.grownBy.refl w _⟩
    rcases hrow.2 with ⟨rfl, hn0⟩ | ⟨g, cap, cur, rfl, _, _, hnc, _⟩
    · simp [Builtin.append_, run_underlying ht, sizeOf, typeInfo, hi, Builtin.lenOf, Builtin.firstCells]
    · simp [Builtin.append_, run_underlying ht, sizeOf, typeInfo, hi, Builtin.lenOf, Builtin.firstCells, hnc, storeCells]
  · have h1 : ∀ u ∈ (xs.map enc).flatten, u.oneCell' = true := fun u hu => by
      obtain ⟨cs, hcs, hu⟩ := List.mem_flatten.1 hu
      obtain ⟨x, _, rfl⟩ := List.mem_map.1 hcs
      exact E.one x u hu
    obtain ⟨v', w', hrun, h2, h3, _⟩ := run_append_own (P := P) w lo t ty e i z size bytes ht hi hz hsize hby hzs T.pos v ys.length _ hrow ad xs.length c _ hl (hcell ad rfl) h1 (by simp only [maxLen]; omega) hb hbase
    refine ⟨v', w', hrun, Ow.of_row E.len (fun x hx => ?_) (by simpa using h63) ?_, h3⟩
    · rcases List.mem_append.1 hx with h | h
      · exact hoky x h
      · exact hokx x h
    · rw [map_flatten_append] at h2
      simpa using h2

theorem Ow.rowTy {α : Type} {e size : Nat} {O : Ro α} {w : World} {lo : Nat} {v : Value} {ys : List α} (h : Ow e size O w lo v ys) : ∀ g, v.ownBlock = some g → ∃ cur fr, w.heap[g]? = some (.cells cur e fr) := by
  intro g hg
  obtain ⟨css, h1, h0, h2, h3⟩ := h
  rcases h2.2 with ⟨rfl, _⟩ | ⟨g', cap, cur, rfl, _, hh, _⟩
  · simp [Value.ownBlock] at hg
  · simp [Value.ownBlock] at hg
    subst hg
    exact ⟨cur, _, hh⟩

/-- One element, which may lead to more of one's own. -/
theorem run_append_one {α : Type} {O : Ro α} (lo : Nat) (t ty e size bytes : Nat) (T : ET P t e size bytes) (hO : OStays (· ≠ e) O)
    (v : Value) (ys : List α) (hown : Ow e size O w lo v ys) (ad : Addr) (c : Nat) (cs : List Value) (x : α) (hl : cs.length = size) (hcell : ∀ j u, cs[j]? = some u → w.cell? (ad.add j) = some u)
    (h1 : ∀ u ∈ cs, u.oneCell' = true) (ho : O w lo cs x)
    (hbytes : Hid ((ys.length + 1) * bytes ≤ 140737488355328 ∧ ys.length + 1 ≤ 140737488355328)) (hbase : lo ≤ w.heap.size) :
    ∃ v' w', (Builtin.append_ #[t, t] ty #[v, .slice (some ad) 1 c]).run P w = .ok v' w' ∧ Ow e size O w' lo v' (ys ++ [x]) ∧ w.grownBy w' v.ownBlock := by
  obtain ⟨i, z, hi, hz, hsize, hby, hzs⟩ := T.info
  obtain ⟨hb, h63⟩ := hbytes.out
  have hty := hown.rowTy
  obtain ⟨css, e1, e0, e2, e3⟩ := hown
  obtain ⟨v', w', hrun, h2, h3, _⟩ := run_append_own (P := P) w lo t ty e i z size bytes T.under hi hz hsize hby hzs T.pos v ys.length _ e2 ad 1 c cs (by simpa using hl) hcell h1 (by simp only [maxLen]; omega) hb hbase
  have hk : Kp (· ≠ e) w w' := Kp.grown h3 hty
  exact ⟨v', w', hrun, Ow.snoc e1 h63 (fun k cs' x' hc hx => ⟨(e3 k cs' x' hc hx).1, hO _ _ _ _ _ _ (e3 k cs' x' hc hx).2 hk (Nat.le_refl _)⟩) h2 hl (hO _ _ _ _ _ _ ho hk (Nat.le_refl _)), h3⟩

theorem wp_append_sl {α : Type} {enc : α → List Value} {ok : α → Prop} {o : Oper} {a : Act} {K : Act → World → Prop} {Q : Exit → Act → World → Prop} {t e size bytes : Nat} (T : ET P t e size bytes) (E : Enc size enc) (s x : Operand)
    (ho : o.op = .call { callee := .builtin .append, args := #[s, x], argTypes := #[t, t] })
    (lo : Nat) (v : Value) (ys : List α) (hs : a.eval s = v) (hown : Ow e size (FlatOk enc ok) w lo v ys) (B : Nat) (A : Option Addr) (m c : Nat) (xs : List α) (hx : a.eval x = .slice A m c) (hr : Sl size (FlatOk enc ok) w B (.slice A m c) xs)
    (hbytes : Hid ((ys.length + xs.length) * bytes ≤ 140737488355328 ∧ ys.length + xs.length ≤ 140737488355328)) (hbase : lo ≤ w.heap.size)
    (h : ∀ v' w', Ow e size (FlatOk enc ok) w' lo v' (ys ++ xs) → w.grownBy w' v.ownBlock → K (a.put o.dst v') w') : o.wp P a w K Q := by
  obtain ⟨v', w', hrun, h2, h3⟩ := run_append_sl (P := P) w lo t o.type e size bytes T E v ys hown B A m c xs hr hbytes hbase
  unfold Oper.wp execOp
  simp only [ho, resolve, invoke, builtin, Sem.run_bind, Sem.run_pure, Result.andThen_ok, List.map_toArray, List.map_cons, List.map_nil, hs, hx, hrun]
  exact h v' w' h2 h3

theorem wpList_append_sl {α : Type} {enc : α → List Value} {ok : α → Prop} {ops : Array Oper} {rest : List Oper} {o : Oper} {a : Act} {Q : Exit → Act → World → Prop} {t e size bytes : Nat} (T : ET P t e size bytes) (E : Enc size enc) (hgd : o.guard = none) (s x : Operand)
    (ho : o.op = .call { callee := .builtin .append, args := #[s, x], argTypes := #[t, t] })
    (lo : Nat) (v : Value) (ys : List α) (hs : a.eval s = v) (hown : Ow e size (FlatOk enc ok) w lo v ys) (B : Nat) (A : Option Addr) (m c : Nat) (xs : List α) (hx : a.eval x = .slice A m c) (hr : Sl size (FlatOk enc ok) w B (.slice A m c) xs)
    (hbytes : Hid ((ys.length + xs.length) * bytes ≤ 140737488355328 ∧ ys.length + xs.length ≤ 140737488355328)) (hbase : lo ≤ w.heap.size)
    (h : ∀ v' w', Ow e size (FlatOk enc ok) w' lo v' (ys ++ xs) → w.grownBy w' v.ownBlock → wpList P ops Q rest (a.put o.dst v') w') : wpList P ops Q (o :: rest) a w :=
  wpList_plain hgd fun _ hK => wp_append_sl w T E s x ho lo v ys hs hown B A m c xs hx hr hbytes hbase fun v' w' h2 h3 => hK _ _ (h v' w' h2 h3)

theorem step_append_sl {α : Type} {enc : α → List Value} {ok : α → Prop} {ops : Array Oper} {o : Oper} {a : Act} {K : Act → World → Prop} {Q : Exit → Act → World → Prop} {E' : Prop} {t e size bytes : Nat} (T : ET P t e size bytes) (E : Enc size enc) (hgd : o.guard = none) (s x : Operand)
    (ho : o.op = .call { callee := .builtin .append, args := #[s, x], argTypes := #[t, t] })
    (lo : Nat) (v : Value) (ys : List α) (hs : a.eval s = v) (hown : Ow e size (FlatOk enc ok) w lo v ys) (B : Nat) (A : Option Addr) (m c : Nat) (xs : List α) (hx : a.eval x = .slice A m c) (hr : Sl size (FlatOk enc ok) w B (.slice A m c) xs)
    (hbytes : Hid ((ys.length + xs.length) * bytes ≤ 140737488355328 ∧ ys.length + xs.length ≤ 140737488355328)) (hbase : lo ≤ w.heap.size)
    (h : ∀ v' w', Ow e size (FlatOk enc ok) w' lo v' (ys ++ xs) → w.grownBy w' v.ownBlock → K (a.put o.dst v') w') :
    if Region.wanted o (yielded ops a.tmps) = true then Oper.wp P o a w K Q else E' := by
  have hw : Region.wanted o (yielded ops a.tmps) = true := by simp [Region.wanted, hgd]
  rw [if_pos hw]
  exact wp_append_sl w T E s x ho lo v ys hs hown B A m c xs hx hr hbytes hbase h

theorem wp_append_one {α : Type} {O : Ro α} {o : Oper} {a : Act} {K : Act → World → Prop} {Q : Exit → Act → World → Prop} {t e size bytes : Nat} (T : ET P t e size bytes) (hO : OStays (· ≠ e) O) (s x : Operand)
    (ho : o.op = .call { callee := .builtin .append, args := #[s, x], argTypes := #[t, t] })
    (lo : Nat) (v : Value) (ys : List α) (hs : a.eval s = v) (hown : Ow e size O w lo v ys) (ad : Addr) (c : Nat) (cs : List Value) (d : α) (hx : a.eval x = .slice (some ad) 1 c) (hl : cs.length = size)
    (hcell : ∀ j u, cs[j]? = some u → w.cell? (ad.add j) = some u) (h1 : ∀ u ∈ cs, u.oneCell' = true) (hd : O w lo cs d)
    (hbytes : Hid ((ys.length + 1) * bytes ≤ 140737488355328 ∧ ys.length + 1 ≤ 140737488355328)) (hbase : lo ≤ w.heap.size)
    (h : ∀ v' w', Ow e size O w' lo v' (ys ++ [d]) → w.grownBy w' v.ownBlock → K (a.put o.dst v') w') : o.wp P a w K Q := by
  obtain ⟨v', w', hrun, h2, h3⟩ := run_append_one (P := P) w lo t o.type e size bytes T hO v ys hown ad c cs d hl hcell h1 hd hbytes hbase
  unfold Oper.wp execOp
  simp only [ho, resolve, invoke, builtin, Sem.run_bind, Sem.run_pure, Result.andThen_ok, List.map_toArray, List.map_cons, List.map_nil, hs, hx, hrun]
  exact h v' w' h2 h3

theorem wpList_append_one {α : Type} {O : Ro α} {ops : Array Oper} {rest : List Oper} {o : Oper} {a : Act} {Q : Exit → Act → World → Prop} {t e size bytes : Nat} (T : ET P t e size bytes) (hO : OStays (· ≠ e) O) (hgd : o.guard = none) (s x : Operand)
    (ho : o.op = .call { callee := .builtin .append, args := #[s, x], argTypes := #[t, t] })
    (lo : Nat) (v : Value) (ys : List α) (hs : a.eval s = v) (hown : Ow e size O w lo v ys) (ad : Addr) (c : Nat) (cs : List Value) (d : α) (hx : a.eval x = .slice (some ad) 1 c) (hl : cs.length = size)
    (hcell : ∀ j u, cs[j]? = some u → w.cell? (ad.add j) = some u) (h1 : ∀ u ∈ cs, u.oneCell' = true) (hd : O w lo cs d)
    (hbytes : Hid ((ys.length + 1) * bytes ≤ 140737488355328 ∧ ys.length + 1 ≤ 140737488355328)) (hbase : lo ≤ w.heap.size)
    (h : ∀ v' w', Ow e size O w' lo v' (ys ++ [d]) → w.grownBy w' v.ownBlock → wpList P ops Q rest (a.put o.dst v') w') : wpList P ops Q (o :: rest) a w :=
  wpList_plain hgd fun _ hK => wp_append_one w T hO s x ho lo v ys hs hown ad c cs d hx hl hcell h1 hd hbytes hbase fun v' w' h2 h3 => hK _ _ (h v' w' h2 h3)

theorem step_append_one {α : Type} {O : Ro α} {ops : Array Oper} {o : Oper} {a : Act} {K : Act → World → Prop} {Q : Exit → Act → World → Prop} {E' : Prop} {t e size bytes : Nat} (T : ET P t e size bytes) (hO : OStays (· ≠ e) O) (hgd : o.guard = none) (s x : Operand)
    (ho : o.op = .call { callee := .builtin .append, args := #[s, x], argTypes := #[t, t] })
    (lo : Nat) (v : Value) (ys : List α) (hs : a.eval s = v) (hown : Ow e size O w lo v ys) (ad : Addr) (c : Nat) (cs : List Value) (d : α) (hx : a.eval x = .slice (some ad) 1 c) (hl : cs.length = size)
    (hcell : ∀ j u, cs[j]? = some u → w.cell? (ad.add j) = some u) (h1 : ∀ u ∈ cs, u.oneCell' = true) (hd : O w lo cs d)
    (hbytes : Hid ((ys.length + 1) * bytes ≤ 140737488355328 ∧ ys.length + 1 ≤ 140737488355328)) (hbase : lo ≤ w.heap.size)
    (h : ∀ v' w', Ow e size O w' lo v' (ys ++ [d]) → w.grownBy w' v.ownBlock → K (a.put o.dst v') w') :
    if Region.wanted o (yielded ops a.tmps) = true then Oper.wp P o a w K Q else E' := by
  have hw : Region.wanted o (yielded ops a.tmps) = true := by simp [Region.wanted, hgd]
  rw [if_pos hw]
  exact wp_append_one w T hO s x ho lo v ys hs hown ad c cs d hx hl hcell h1 hd hbytes hbase h

end

/-- What a call that copies hands back. -/
def OwRet {α : Type} (e size : Nat) (O : Ro α) (xs : List α) (w : World) : Ending → World → Prop := RetIs (fun v w' => Ow e size O w' w.heap.size v xs) w

/-- The empty slice that 'S{}' makes. -/
theorem Ow.made0 {α : Type} (e size : Nat) (O : Ro α) (w : World) {lo : Nat} (hlo : lo ≤ w.heap.size) : Ow e size O (w.alloc (.cells #[] e)) lo (.slice (some ⟨w.heap.size, 0, none⟩) 0 0) ([] : List α) :=
  ⟨[], rfl, by simp, World.ownsRow_made w #[] 0 hlo (by simp [maxLen]) (by simp), fun k cs x h => by simp at h⟩

/-- Behind an append onto what begins at block lo, below lo all is as it was. -/
theorem below_grown {lo : Nat} {w w1 w' : World} {v : Value} (hb : Below lo w w1) (hg : w1.grownBy w' v.ownBlock) (hlo : lo ≤ w1.heap.size) (hv : ∀ g, v.ownBlock = some g → lo ≤ g) : Below lo w w' :=
  hb.grown hg hlo hv
theorem Ow.lo {α : Type} {e size : Nat} {O : Ro α} {w : World} {lo : Nat} {v : Value} {xs : List α} (h : Ow e size O w lo v xs) : ∀ g, v.ownBlock = some g → lo ≤ g := fun g hg => by
  obtain ⟨css, h1, h0, h2, h3⟩ := h
  exact (h2.lt g hg).1

end Go.Proofs.Ytbflmipddiaiaaa
