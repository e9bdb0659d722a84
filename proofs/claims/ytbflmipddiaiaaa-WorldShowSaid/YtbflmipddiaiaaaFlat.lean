/-
  The flat types of this program: their tables' facts, '==' on them; slices.Clone, slices.Equal and the references' comparisons at slices of them.
-/
import Derived.Test.YtbflmipddiaiaaaProg
import Derived.Test.YtbflmipddiaiaaaData
import Derived.Test.YtbflmipddiaiaaaApp
import Derived.BigQuiet
import Derived.WalkSpells
import Derived.WalkLawsBesides
namespace Go.Proofs.Ytbflmipddiaiaaa
open Go.RowKit


/-! ### '==' on an array -/
def eqElems (d e n : Nat) (xs ys : Array Value) : List Nat → Sem Bool
  | [] => pure true
  | i :: is => do
    let a ← part e xs (i * n)
    let b ← part e ys (i * n)
    let r ← Op.equalIn d e a b
    if (!r) = true then pure false else eqElems d e n xs ys is

theorem run_equalIn_array {P : Program} (w : World) (d : Nat) (t e n : Nat) (len : Nat) (xs ys : Array Value) (ht : P.underlying t = some (.array len e)) (hn : ∀ w, (sizeOf e).run P w = .ok n w) :
    (Op.equalIn (d + 1) t (.agg xs) (.agg ys)).run P w = (eqElems d e n xs ys (List.range len)).run P w := by
  simp only [Op.equalIn, Sem.run_bind, run_underlying ht, Result.andThen_ok, hn]
  rw [Std.Legacy.Range.forIn_eq_forIn_range']
  simp only [Std.Legacy.Range.size, Nat.sub_zero, Nat.add_sub_cancel, Nat.div_one, List.range_eq_range']
  generalize List.range' 0 len = is
  induction is generalizing w with
  | nil => simp [eqElems]
  | cons i is ih =>
    simp only [List.forIn_cons, eqElems, Sem.run_bind, Sem.run_ite]
    generalize (part e xs (i * n)).run P w = r1
    cases r1 with
    | halt x w1 => simp [Result.andThen]
    | ok a w1 =>
      simp only [Result.andThen_ok]
      generalize (part e ys (i * n)).run P w1 = r2
      cases r2 with
      | halt x w2 => simp [Result.andThen]
      | ok b w2 =>
        simp only [Result.andThen_ok]
        generalize (Op.equalIn d e a b).run P w2 = r3
        cases r3 with
        | halt x w3 => simp [Result.andThen]
        | ok r w3 =>
          cases r
          · simp only [Result.andThen_ok, Bool.not_false, if_true, Sem.run_pure]
          · simp only [Result.andThen_ok, Bool.not_true, Bool.false_eq_true, if_false, Sem.run_pure]
            exact ih w3

/-- '==' on values of type t that stand for x and y says whether x = y. -/
def EqLaw (D : Nat) {α : Type} [DecidableEq α] (P : Program) (t : TypeId) (val : α → Value) : Prop := ∀ (d : Nat) (x y : α) (w : World), D ≤ d → (Op.equalIn d t (val x) (val y)).run P w = .ok (decide (x = y)) w
theorem EqLaw.at {D : Nat} {α : Type} [DecidableEq α] {P : Program} {t : TypeId} {val : α → Value} (h : EqLaw D P t val) {d : Nat} (hd : D ≤ d) (x y : α) (w : World) : (Op.equalIn d t (val x) (val y)).run P w = .ok (decide (x = y)) w := h d x y w hd
theorem EqLaw.neq {D : Nat} {α : Type} [DecidableEq α] {P : Program} {t : TypeId} {val : α → Value} (h : EqLaw D P t val) (hD : D ≤ 10000) (hv : ∀ x, ∃ a, val x = .agg a) (x y : α) (w : World) : (binOp .neq t (val x) (val y)).run P w = .ok (.bool (!decide (x = y))) w := by
  have hh := h.at hD x y w
  obtain ⟨a, ha⟩ := hv x
  obtain ⟨b, hb⟩ := hv y
  rw [ha, hb] at hh ⊢
  rw [run_neq_struct, hh]
  rfl
theorem EqLaw.eql {D : Nat} {α : Type} [DecidableEq α] {P : Program} {t : TypeId} {val : α → Value} (h : EqLaw D P t val) (hD : D ≤ 10000) (hv : ∀ x, ∃ a, val x = .agg a) (x y : α) (w : World) : (binOp .eql t (val x) (val y)).run P w = .ok (.bool (decide (x = y))) w := by
  have hh := h.at hD x y w
  obtain ⟨a, ha⟩ := hv x
  obtain ⟨b, hb⟩ := hv y
  rw [ha, hb] at hh ⊢
  rw [run_eql_struct, hh]
  rfl


def DVec.val (v : DVec) : Value := .agg #[.int .i64 v.x, .int .i64 v.y, .int .i64 v.z]
/-- '==' at api.Vec, a struct. -/
theorem eqVec : EqLaw 3 Try.prog 25 DVec.val := by
  intro d x y w hd
  obtain ⟨d, rfl⟩ : ∃ k, d = k + 3 := ⟨d - 3, by omega⟩
  have hS : Try.prog.underlying 25 = some (.struct (Try.prog.fieldsOf 25)) := by kernel_rfl
  have hp : Try.prog.stoodInHeld 25 = false := by kernel_rfl
  unfold DVec.val
  rw [run_equalIn_agg w (d + (3 - 1)) 25 _ _ hS hp]
  simp only [Program.fieldsOf, Try.underlying25]
  clear hS hp hd
  skip
  go_simp
  rcases x with ⟨a, b, c⟩
  rcases y with ⟨a, b, c⟩
  simp only [DVec.mk.injEq]
  repeat' split
  all_goals simp_all
def D2.val (v : D2) : Value := .agg #[.int .i64 v.u, .int .i64 v.v]
/-- '==' at [2]int, an array of 2 integers. -/
theorem eq2 : EqLaw 2 Try.prog 143 D2.val := by
  intro d x y w hd
  obtain ⟨d, rfl⟩ : ∃ k, d = k + 2 := ⟨d - 2, by omega⟩
  have hn : ∀ w, (sizeOf 3).run Try.prog w = .ok 1 w := fun w => by kernel_rfl
  unfold D2.val
  rw [run_equalIn_array w (d + 1) 143 3 1 2 _ _ Try.underlying143 hn]
  simp only [show List.range 2 = [0, 1] from rfl, eqElems]
  clear hn hd
  go_simp
  cases x
  cases y
  simp only [D2.mk.injEq]
  repeat' split
  all_goals simp_all
def D3.val (v : D3) : Value := .agg #[.int .i64 v.a, .int .i64 v.b, .int .i64 v.c]
/-- '==' at [3]int, an array of 3 integers. -/
theorem eq3 : EqLaw 2 Try.prog 55 D3.val := by
  intro d x y w hd
  obtain ⟨d, rfl⟩ : ∃ k, d = k + 2 := ⟨d - 2, by omega⟩
  have hn : ∀ w, (sizeOf 3).run Try.prog w = .ok 1 w := fun w => by kernel_rfl
  unfold D3.val
  rw [run_equalIn_array w (d + 1) 55 3 1 3 _ _ Try.underlying55 hn]
  simp only [show List.range 3 = [0, 1, 2] from rfl, eqElems]
  clear hn hd
  go_simp
  cases x
  cases y
  simp only [D3.mk.injEq]
  repeat' split
  all_goals simp_all
def DColor.val (c : DColor) : Value := .agg #[.int .u8 c.r, .int .u8 c.g, .int .u8 c.b, .int .u8 c.a]
/-- '==' at api.Color, an array of 4 integers. -/
theorem eqColor : EqLaw 2 Try.prog 47 DColor.val := by
  intro d x y w hd
  obtain ⟨d, rfl⟩ : ∃ k, d = k + 2 := ⟨d - 2, by omega⟩
  have hn : ∀ w, (sizeOf 5).run Try.prog w = .ok 1 w := fun w => by kernel_rfl
  unfold DColor.val
  rw [run_equalIn_array w (d + 1) 47 5 1 4 _ _ Try.underlying47 hn]
  simp only [show List.range 4 = [0, 1, 2, 3] from rfl, eqElems]
  clear hn hd
  go_simp
  cases x
  cases y
  simp only [DColor.mk.injEq]
  repeat' split
  all_goals simp_all
def DGate.val (g : DGate) : Value := .agg #[.int .i64 g.center.x, .int .i64 g.center.y, .int .i64 g.center.z, .int .i64 g.lo, .int .i64 g.hi]
/-- '==' at api.Gate, a struct. -/
theorem eqGate : EqLaw 3 Try.prog 27 DGate.val := by
  intro d x y w hd
  obtain ⟨d, rfl⟩ : ∃ k, d = k + 3 := ⟨d - 3, by omega⟩
  have hS : Try.prog.underlying 27 = some (.struct (Try.prog.fieldsOf 27)) := by kernel_rfl
  have hp : Try.prog.stoodInHeld 27 = false := by kernel_rfl
  unfold DGate.val
  rw [run_equalIn_agg w (d + (3 - 1)) 27 _ _ hS hp]
  simp only [Program.fieldsOf, Try.underlying27]
  clear hS hp hd
  skip
  go_simp
  rcases x with ⟨⟨a, b, c⟩, d, e⟩
  rcases y with ⟨⟨a, b, c⟩, d, e⟩
  simp only [DGate.mk.injEq, DVec.mk.injEq]
  repeat' split
  all_goals simp_all
def DBox.val (g : DBox) : Value := .agg #[.int .i64 g.low.x, .int .i64 g.low.y, .int .i64 g.low.z, .int .i64 g.high.x, .int .i64 g.high.y, .int .i64 g.high.z]
/-- '==' at api.Box, a struct. -/
theorem eqBox : EqLaw 3 Try.prog 51 DBox.val := by
  intro d x y w hd
  obtain ⟨d, rfl⟩ : ∃ k, d = k + 3 := ⟨d - 3, by omega⟩
  have hS : Try.prog.underlying 51 = some (.struct (Try.prog.fieldsOf 51)) := by kernel_rfl
  have hp : Try.prog.stoodInHeld 51 = false := by kernel_rfl
  unfold DBox.val
  rw [run_equalIn_agg w (d + (3 - 1)) 51 _ _ hS hp]
  simp only [Program.fieldsOf, Try.underlying51]
  clear hS hp hd
  skip
  go_simp
  rcases x with ⟨⟨a, b, c⟩, ⟨d, e, f⟩⟩
  rcases y with ⟨⟨a, b, c⟩, ⟨d, e, f⟩⟩
  simp only [DBox.mk.injEq, DVec.mk.injEq]
  repeat' split
  all_goals simp_all
def DLook.val (l : DLook) : Value := .agg #[.int .u8 l.color.r, .int .u8 l.color.g, .int .u8 l.color.b, .int .u8 l.color.a, .int .i64 l.texture, .int .u8 l.cull, .int .i64 l.bias, .bool l.blend, .int .i64 l.bin]
/-- '==' at api.Look, a struct. -/
theorem eqLook : EqLaw 3 Try.prog 49 DLook.val := by
  intro d x y w hd
  obtain ⟨d, rfl⟩ : ∃ k, d = k + 3 := ⟨d - 3, by omega⟩
  have hS : Try.prog.underlying 49 = some (.struct (Try.prog.fieldsOf 49)) := by kernel_rfl
  have hp : Try.prog.stoodInHeld 49 = false := by kernel_rfl
  unfold DLook.val
  rw [run_equalIn_agg w (d + (3 - 1)) 49 _ _ hS hp]
  simp only [Program.fieldsOf, Try.underlying49]
  clear hS hp hd
  have e3 := fun (d : Nat) (x y : DColor) (w : World) (h : 2 ≤ d) => (eqColor.at (d := d) h x y w); unfold DColor.val at e3; have e4 := fun w => e3 (d + 2) x.color y.color w (by omega)
  go_simp
  rcases x with ⟨⟨a, b, c, d⟩, e, f, g, h, i⟩
  rcases y with ⟨⟨a, b, c, d⟩, e, f, g, h, i⟩
  simp only [DLook.mk.injEq, DColor.mk.injEq]
  repeat' split
  all_goals simp_all

abbrev DInt := Int
def DInt.enc (n : DInt) : List Value := [.int .i64 n]
def DInt.ok (n : DInt) : Prop := I64 n

theorem ETVec : ET Try.prog 43 25 3 24 := ET.mk' (z := .agg #[.int .i64 0, .int .i64 0, .int .i64 0]) Try.underlying43 (by kernel_rfl) rfl (by omega)
theorem DVec.Enc : Enc 3 DVec.enc := ⟨fun _ => rfl, fun x u hu => by simp [DVec.enc] at hu; rcases hu with rfl | rfl | rfl <;> rfl⟩
theorem neqVec (x y : DVec) (w : World) : (binOp .neq 25 (.agg #[.int .i64 x.x, .int .i64 x.y, .int .i64 x.z]) (.agg #[.int .i64 y.x, .int .i64 y.y, .int .i64 y.z])).run Try.prog w = .ok (.bool (!decide (x = y))) w := eqVec.neq (by omega) (fun _ => ⟨_, rfl⟩) x y w
theorem eqlVec (x y : DVec) (w : World) : (binOp .eql 25 (.agg #[.int .i64 x.x, .int .i64 x.y, .int .i64 x.z]) (.agg #[.int .i64 y.x, .int .i64 y.y, .int .i64 y.z])).run Try.prog w = .ok (.bool (decide (x = y))) w := eqVec.eql (by omega) (fun _ => ⟨_, rfl⟩) x y w
theorem DVec.at {w : World} {b o : Nat} {x : DVec} (h : At w b o x.enc) : w.cell? ⟨b, o, none⟩ = some (.int .i64 x.x) ∧ w.cell? ⟨b, o + 1, none⟩ = some (.int .i64 x.y) ∧ w.cell? ⟨b, o + 2, none⟩ = some (.int .i64 x.z) :=
  ⟨h 0 _ rfl, h 1 _ rfl, h 2 _ rfl⟩

/-- slices.Clone at []api.Vec. -/
theorem cloneVec (a : Value) (xs : List DVec) (w : World) (B : Nat) (ha : Sl 3 (FlatOk DVec.enc DVec.ok) w B a xs) (hB : B ≤ w.heap.size) (hn : Hid (xs.length * 24 ≤ 140737488355328)) :
    Calls Try.prog 72 #[a] w (OwRet 25 3 (FlatOk DVec.enc DVec.ok) xs w) := by
  obtain ⟨A, c, rfl, _, _, hr⟩ := ha.form
  have heq := Lib.run_eql_slice_nil (P := Try.prog) (t := 43)
  cases A with
  | none =>
    have hx := (ha.flat_cells DVec.Enc.len ETVec.pos).2.2.2.1 rfl
    subst hx
    go_enter Try.func72, Try.ntmps72
    go_wp2
    go_ret
    exact ⟨_, rfl, Ow.nil _ _ _ _ _, Below.refl _ _⟩
  | some ad =>
    have ha1 := Sl.stays (FlatOk.stays _ _) _ (w.alloc (.cells #[] 25)) _ _ _ _ ha (Agree.of ((Below.refl w.heap.size w).alloc (Nat.le_refl _) _) hB) (Nat.le_refl _)
    have hd := Ow.made0 (α := DVec) 25 3 (FlatOk DVec.enc DVec.ok) w (Nat.le_refl _)
    have hbn : Hid ((([] : List DVec).length + xs.length) * 24 ≤ 140737488355328 ∧ ([] : List DVec).length + xs.length ≤ 140737488355328) := ⟨by simpa using hn.out, by simpa using hr⟩
    go_enter Try.func72, Try.ntmps72
    go_wp2_with (at_builtin; refine wpList_append_sl (enc := DVec.enc) (ok := DVec.ok) _ ETVec DVec.Enc rfl _ _ rfl w.heap.size (.slice (some ⟨w.heap.size, 0, none⟩) 0 0) ([] : List DVec) rfl hd B _ _ _ xs rfl ha1 hbn (by simp) ?_; intro v' w' hown hgrow)
    go_ret
    exact ⟨_, rfl, by simpa using hown, below_grown ((Below.refl _ _).alloc (Nat.le_refl _) _) hgrow (by simp) (by simp [Value.ownBlock])⟩
/-- slices.Equal at []api.Vec. -/
theorem equalVec (a b : Value) (xs ys : List DVec) (w : World) (B : Nat) (ha : Sl 3 (FlatOk DVec.enc DVec.ok) w B a xs) (hb : Sl 3 (FlatOk DVec.enc DVec.ok) w B b ys) (hB : B ≤ w.heap.size) :
    Calls Try.prog 105 #[a, b] w (Ret (.bool (decide (xs = ys))) w) := by
  obtain ⟨A, c, rfl, _, _, hr⟩ := ha.form
  obtain ⟨A', c', rfl, _, _, hr'⟩ := hb.form
  by_cases hl : xs.length = ys.length
  · have hB' : ((xs.length : Int) != (ys.length : Int)) = false := by rw [hl]; simp
    have HL := hide hl
    clear hl
    go_enter Try.func105, Try.ntmps105
    go_wp2
    go_loopw [5, 13] (fun _ i wr => ∃ k : Nat, k ≤ xs.length ∧ i = .int .i64 k ∧ Hid (xs.take k = ys.take k) ∧ Below w.heap.size w wr) (fun _ i _ => xs.length - (intOf i).toNat)
    case atStart => exact ⟨0, Nat.zero_le _, rfl, hide (by simp), Below.refl _ _⟩
    case round =>
      obtain ⟨k, hk, rfl, HT, hbw⟩ := hrel
      by_cases hlt : k < xs.length
      · have hlt' : k < ys.length := by rw [← HL.out]; exact hlt
        have ha' := Sl.stays (FlatOk.stays _ _) _ wr _ _ _ _ ha (Agree.of hbw hB) (Nat.le_refl _)
        have hb' := Sl.stays (FlatOk.stays _ _) _ wr _ _ _ _ hb (Agree.of hbw hB) (Nat.le_refl _)
        obtain ⟨b1, o1, _, rfl, hb1, _, hat1, rfl, _⟩ := ha'.elem hlt
        obtain ⟨b2, o2, _, rfl, hb2, _, hat2, rfl, _⟩ := hb'.elem hlt'
        have f := DVec.at hat1
        have g := DVec.at hat2
        have hq := neqVec xs[k] ys[k]
        obtain ⟨x, hx⟩ : ∃ x, x = xs[k] := ⟨_, rfl⟩
        obtain ⟨y, hy⟩ : ∃ y, y = ys[k] := ⟨_, rfl⟩
        rw [← hx] at f hq
        rw [← hy] at g hq
        have HX := hide hx
        have HY := hide hy
        clear hx hy ha' hb' hat1 hat2 ha hb
        by_cases hxy : x = y
        · have hd : decide (x = y) = true := by simpa using hxy
          have HE := hide hxy
          clear hxy
          go_wp2
          go_quiet (fail)
          go_wp2
          go_roundw
          case rel => exact ⟨k + 1, by omega, by go_num, hide (by rw [List.take_succ_eq_append_getElem hlt, List.take_succ_eq_append_getElem hlt', HT.out, ← HX.out, ← HY.out, HE.out]), by repeat (first | exact hbw | apply Below.drew | apply below_drewN)⟩
          case measure => simp [intOf]; omega
        · have hd : decide (x = y) = false := by simpa using hxy
          have HE := hide hxy
          clear hxy
          go_wp2
          go_quiet (fail)
          go_wp2
          go_ret
          refine ⟨congrArg (fun b => Ending.returned (.bool b)) (Eq.symm ?_), by repeat (first | exact hbw | apply Below.drew | apply below_drewN)⟩
          exact decide_eq_false (fun h => HE.out (by rw [HX.out, HY.out]; simp only [h]))
      · have hk' : k = xs.length := by omega
        subst hk'
        go_wp2
        go_ret
        refine ⟨congrArg (fun b => Ending.returned (.bool b)) (Eq.symm ?_), by repeat (first | exact hbw | apply Below.drew)⟩
        have := HT.out
        rw [List.take_of_length_le (Nat.le_refl _), List.take_of_length_le (by rw [← HL.out]; exact Nat.le_refl _)] at this
        exact decide_eq_true this
  · have hB' : ((xs.length : Int) != (ys.length : Int)) = true := by simp; omega
    have HL := hide hl
    clear hl
    go_enter Try.func105, Try.ntmps105
    go_wp2
    go_ret
    exact ⟨congrArg (fun b => Ending.returned (.bool b)) (Eq.symm (decide_eq_false (fun h => HL.out (by rw [h])))), Below.refl _ _⟩

theorem ET2 : ET Try.prog 44 143 2 16 := ET.mk' (z := .agg #[.int .i64 0, .int .i64 0]) Try.underlying44 (by kernel_rfl) rfl (by omega)
theorem D2.Enc : Enc 2 D2.enc := ⟨fun _ => rfl, fun x u hu => by simp [D2.enc] at hu; rcases hu with rfl | rfl <;> rfl⟩
theorem neq2 (x y : D2) (w : World) : (binOp .neq 143 (.agg #[.int .i64 x.u, .int .i64 x.v]) (.agg #[.int .i64 y.u, .int .i64 y.v])).run Try.prog w = .ok (.bool (!decide (x = y))) w := eq2.neq (by omega) (fun _ => ⟨_, rfl⟩) x y w
theorem eql2 (x y : D2) (w : World) : (binOp .eql 143 (.agg #[.int .i64 x.u, .int .i64 x.v]) (.agg #[.int .i64 y.u, .int .i64 y.v])).run Try.prog w = .ok (.bool (decide (x = y))) w := eq2.eql (by omega) (fun _ => ⟨_, rfl⟩) x y w
theorem D2.at {w : World} {b o : Nat} {x : D2} (h : At w b o x.enc) : w.cell? ⟨b, o, none⟩ = some (.int .i64 x.u) ∧ w.cell? ⟨b, o + 1, none⟩ = some (.int .i64 x.v) :=
  ⟨h 0 _ rfl, h 1 _ rfl⟩
/-- slices.Clone at [][2]int. -/
theorem clone2 (a : Value) (xs : List D2) (w : World) (B : Nat) (ha : Sl 2 (FlatOk D2.enc D2.ok) w B a xs) (hB : B ≤ w.heap.size) (hn : Hid (xs.length * 16 ≤ 140737488355328)) :
    Calls Try.prog 73 #[a] w (OwRet 143 2 (FlatOk D2.enc D2.ok) xs w) := by
  obtain ⟨A, c, rfl, _, _, hr⟩ := ha.form
  have heq := Lib.run_eql_slice_nil (P := Try.prog) (t := 44)
  cases A with
  | none =>
    have hx := (ha.flat_cells D2.Enc.len ET2.pos).2.2.2.1 rfl
    subst hx
    go_enter Try.func73, Try.ntmps73
    go_wp2
    go_ret
    exact ⟨_, rfl, Ow.nil _ _ _ _ _, Below.refl _ _⟩
  | some ad =>
    have ha1 := Sl.stays (FlatOk.stays _ _) _ (w.alloc (.cells #[] 143)) _ _ _ _ ha (Agree.of ((Below.refl w.heap.size w).alloc (Nat.le_refl _) _) hB) (Nat.le_refl _)
    have hd := Ow.made0 (α := D2) 143 2 (FlatOk D2.enc D2.ok) w (Nat.le_refl _)
    have hbn : Hid ((([] : List D2).length + xs.length) * 16 ≤ 140737488355328 ∧ ([] : List D2).length + xs.length ≤ 140737488355328) := ⟨by simpa using hn.out, by simpa using hr⟩
    go_enter Try.func73, Try.ntmps73
    go_wp2_with (at_builtin; refine wpList_append_sl (enc := D2.enc) (ok := D2.ok) _ ET2 D2.Enc rfl _ _ rfl w.heap.size (.slice (some ⟨w.heap.size, 0, none⟩) 0 0) ([] : List D2) rfl hd B _ _ _ xs rfl ha1 hbn (by simp) ?_; intro v' w' hown hgrow)
    go_ret
    exact ⟨_, rfl, by simpa using hown, below_grown ((Below.refl _ _).alloc (Nat.le_refl _) _) hgrow (by simp) (by simp [Value.ownBlock])⟩
/-- slices.Equal at [][2]int. -/
theorem equal2 (a b : Value) (xs ys : List D2) (w : World) (B : Nat) (ha : Sl 2 (FlatOk D2.enc D2.ok) w B a xs) (hb : Sl 2 (FlatOk D2.enc D2.ok) w B b ys) (hB : B ≤ w.heap.size) :
    Calls Try.prog 106 #[a, b] w (Ret (.bool (decide (xs = ys))) w) := by
  obtain ⟨A, c, rfl, _, _, hr⟩ := ha.form
  obtain ⟨A', c', rfl, _, _, hr'⟩ := hb.form
  by_cases hl : xs.length = ys.length
  · have hB' : ((xs.length : Int) != (ys.length : Int)) = false := by rw [hl]; simp
    have HL := hide hl
    clear hl
    go_enter Try.func106, Try.ntmps106
    go_wp2
    go_loopw [5, 13] (fun _ i wr => ∃ k : Nat, k ≤ xs.length ∧ i = .int .i64 k ∧ Hid (xs.take k = ys.take k) ∧ Below w.heap.size w wr) (fun _ i _ => xs.length - (intOf i).toNat)
    case atStart => exact ⟨0, Nat.zero_le _, rfl, hide (by simp), Below.refl _ _⟩
    case round =>
      obtain ⟨k, hk, rfl, HT, hbw⟩ := hrel
      by_cases hlt : k < xs.length
      · have hlt' : k < ys.length := by rw [← HL.out]; exact hlt
        have ha' := Sl.stays (FlatOk.stays _ _) _ wr _ _ _ _ ha (Agree.of hbw hB) (Nat.le_refl _)
        have hb' := Sl.stays (FlatOk.stays _ _) _ wr _ _ _ _ hb (Agree.of hbw hB) (Nat.le_refl _)
        obtain ⟨b1, o1, _, rfl, hb1, _, hat1, rfl, _⟩ := ha'.elem hlt
        obtain ⟨b2, o2, _, rfl, hb2, _, hat2, rfl, _⟩ := hb'.elem hlt'
        have f := D2.at hat1
        have g := D2.at hat2
        have hq := neq2 xs[k] ys[k]
        obtain ⟨x, hx⟩ : ∃ x, x = xs[k] := ⟨_, rfl⟩
        obtain ⟨y, hy⟩ : ∃ y, y = ys[k] := ⟨_, rfl⟩
        rw [← hx] at f hq
        rw [← hy] at g hq
        have HX := hide hx
        have HY := hide hy
        clear hx hy ha' hb' hat1 hat2 ha hb
        by_cases hxy : x = y
        · have hd : decide (x = y) = true := by simpa using hxy
          have HE := hide hxy
          clear hxy
          go_wp2
          go_quiet (fail)
          go_wp2
          go_roundw
          case rel => exact ⟨k + 1, by omega, by go_num, hide (by rw [List.take_succ_eq_append_getElem hlt, List.take_succ_eq_append_getElem hlt', HT.out, ← HX.out, ← HY.out, HE.out]), by repeat (first | exact hbw | apply Below.drew | apply below_drewN)⟩
          case measure => simp [intOf]; omega
        · have hd : decide (x = y) = false := by simpa using hxy
          have HE := hide hxy
          clear hxy
          go_wp2
          go_quiet (fail)
          go_wp2
          go_ret
          refine ⟨congrArg (fun b => Ending.returned (.bool b)) (Eq.symm ?_), by repeat (first | exact hbw | apply Below.drew | apply below_drewN)⟩
          exact decide_eq_false (fun h => HE.out (by rw [HX.out, HY.out]; simp only [h]))
      · have hk' : k = xs.length := by omega
        subst hk'
        go_wp2
        go_ret
        refine ⟨congrArg (fun b => Ending.returned (.bool b)) (Eq.symm ?_), by repeat (first | exact hbw | apply Below.drew)⟩
        have := HT.out
        rw [List.take_of_length_le (Nat.le_refl _), List.take_of_length_le (by rw [← HL.out]; exact Nat.le_refl _)] at this
        exact decide_eq_true this
  · have hB' : ((xs.length : Int) != (ys.length : Int)) = true := by simp; omega
    have HL := hide hl
    clear hl
    go_enter Try.func106, Try.ntmps106
    go_wp2
    go_ret
    exact ⟨congrArg (fun b => Ending.returned (.bool b)) (Eq.symm (decide_eq_false (fun h => HL.out (by rw [h])))), Below.refl _ _⟩

theorem ET3 : ET Try.prog 45 55 3 24 := ET.mk' (z := .agg #[.int .i64 0, .int .i64 0, .int .i64 0]) Try.underlying45 (by kernel_rfl) rfl (by omega)
theorem D3.Enc : Enc 3 D3.enc := ⟨fun _ => rfl, fun x u hu => by simp [D3.enc] at hu; rcases hu with rfl | rfl | rfl <;> rfl⟩
theorem neq3 (x y : D3) (w : World) : (binOp .neq 55 (.agg #[.int .i64 x.a, .int .i64 x.b, .int .i64 x.c]) (.agg #[.int .i64 y.a, .int .i64 y.b, .int .i64 y.c])).run Try.prog w = .ok (.bool (!decide (x = y))) w := eq3.neq (by omega) (fun _ => ⟨_, rfl⟩) x y w
theorem eql3 (x y : D3) (w : World) : (binOp .eql 55 (.agg #[.int .i64 x.a, .int .i64 x.b, .int .i64 x.c]) (.agg #[.int .i64 y.a, .int .i64 y.b, .int .i64 y.c])).run Try.prog w = .ok (.bool (decide (x = y))) w := eq3.eql (by omega) (fun _ => ⟨_, rfl⟩) x y w
theorem D3.at {w : World} {b o : Nat} {x : D3} (h : At w b o x.enc) : w.cell? ⟨b, o, none⟩ = some (.int .i64 x.a) ∧ w.cell? ⟨b, o + 1, none⟩ = some (.int .i64 x.b) ∧ w.cell? ⟨b, o + 2, none⟩ = some (.int .i64 x.c) :=
  ⟨h 0 _ rfl, h 1 _ rfl, h 2 _ rfl⟩
/-- slices.Clone at [][3]int. -/
theorem clone3 (a : Value) (xs : List D3) (w : World) (B : Nat) (ha : Sl 3 (FlatOk D3.enc D3.ok) w B a xs) (hB : B ≤ w.heap.size) (hn : Hid (xs.length * 24 ≤ 140737488355328)) :
    Calls Try.prog 74 #[a] w (OwRet 55 3 (FlatOk D3.enc D3.ok) xs w) := by
  obtain ⟨A, c, rfl, _, _, hr⟩ := ha.form
  have heq := Lib.run_eql_slice_nil (P := Try.prog) (t := 45)
  cases A with
  | none =>
    have hx := (ha.flat_cells D3.Enc.len ET3.pos).2.2.2.1 rfl
    subst hx
    go_enter Try.func74, Try.ntmps74
    go_wp2
    go_ret
    exact ⟨_, rfl, Ow.nil _ _ _ _ _, Below.refl _ _⟩
  | some ad =>
    have ha1 := Sl.stays (FlatOk.stays _ _) _ (w.alloc (.cells #[] 55)) _ _ _ _ ha (Agree.of ((Below.refl w.heap.size w).alloc (Nat.le_refl _) _) hB) (Nat.le_refl _)
    have hd := Ow.made0 (α := D3) 55 3 (FlatOk D3.enc D3.ok) w (Nat.le_refl _)
    have hbn : Hid ((([] : List D3).length + xs.length) * 24 ≤ 140737488355328 ∧ ([] : List D3).length + xs.length ≤ 140737488355328) := ⟨by simpa using hn.out, by simpa using hr⟩
    go_enter Try.func74, Try.ntmps74
    go_wp2_with (at_builtin; refine wpList_append_sl (enc := D3.enc) (ok := D3.ok) _ ET3 D3.Enc rfl _ _ rfl w.heap.size (.slice (some ⟨w.heap.size, 0, none⟩) 0 0) ([] : List D3) rfl hd B _ _ _ xs rfl ha1 hbn (by simp) ?_; intro v' w' hown hgrow)
    go_ret
    exact ⟨_, rfl, by simpa using hown, below_grown ((Below.refl _ _).alloc (Nat.le_refl _) _) hgrow (by simp) (by simp [Value.ownBlock])⟩
/-- slices.Equal at [][3]int. -/
theorem equal3 (a b : Value) (xs ys : List D3) (w : World) (B : Nat) (ha : Sl 3 (FlatOk D3.enc D3.ok) w B a xs) (hb : Sl 3 (FlatOk D3.enc D3.ok) w B b ys) (hB : B ≤ w.heap.size) :
    Calls Try.prog 107 #[a, b] w (Ret (.bool (decide (xs = ys))) w) := by
  obtain ⟨A, c, rfl, _, _, hr⟩ := ha.form
  obtain ⟨A', c', rfl, _, _, hr'⟩ := hb.form
  by_cases hl : xs.length = ys.length
  · have hB' : ((xs.length : Int) != (ys.length : Int)) = false := by rw [hl]; simp
    have HL := hide hl
    clear hl
    go_enter Try.func107, Try.ntmps107
    go_wp2
    go_loopw [5, 13] (fun _ i wr => ∃ k : Nat, k ≤ xs.length ∧ i = .int .i64 k ∧ Hid (xs.take k = ys.take k) ∧ Below w.heap.size w wr) (fun _ i _ => xs.length - (intOf i).toNat)
    case atStart => exact ⟨0, Nat.zero_le _, rfl, hide (by simp), Below.refl _ _⟩
    case round =>
      obtain ⟨k, hk, rfl, HT, hbw⟩ := hrel
      by_cases hlt : k < xs.length
      · have hlt' : k < ys.length := by rw [← HL.out]; exact hlt
        have ha' := Sl.stays (FlatOk.stays _ _) _ wr _ _ _ _ ha (Agree.of hbw hB) (Nat.le_refl _)
        have hb' := Sl.stays (FlatOk.stays _ _) _ wr _ _ _ _ hb (Agree.of hbw hB) (Nat.le_refl _)
        obtain ⟨b1, o1, _, rfl, hb1, _, hat1, rfl, _⟩ := ha'.elem hlt
        obtain ⟨b2, o2, _, rfl, hb2, _, hat2, rfl, _⟩ := hb'.elem hlt'
        have f := D3.at hat1
        have g := D3.at hat2
        have hq := neq3 xs[k] ys[k]
        obtain ⟨x, hx⟩ : ∃ x, x = xs[k] := ⟨_, rfl⟩
        obtain ⟨y, hy⟩ : ∃ y, y = ys[k] := ⟨_, rfl⟩
        rw [← hx] at f hq
        rw [← hy] at g hq
        have HX := hide hx
        have HY := hide hy
        clear hx hy ha' hb' hat1 hat2 ha hb
        by_cases hxy : x = y
        · have hd : decide (x = y) = true := by simpa using hxy
          have HE := hide hxy
          clear hxy
          go_wp2
          go_quiet (fail)
          go_wp2
          go_roundw
          case rel => exact ⟨k + 1, by omega, by go_num, hide (by rw [List.take_succ_eq_append_getElem hlt, List.take_succ_eq_append_getElem hlt', HT.out, ← HX.out, ← HY.out, HE.out]), by repeat (first | exact hbw | apply Below.drew | apply below_drewN)⟩
          case measure => simp [intOf]; omega
        · have hd : decide (x = y) = false := by simpa using hxy
          have HE := hide hxy
          clear hxy
          go_wp2
          go_quiet (fail)
          go_wp2
          go_ret
          refine ⟨congrArg (fun b => Ending.returned (.bool b)) (Eq.symm ?_), by repeat (first | exact hbw | apply Below.drew | apply below_drewN)⟩
          exact decide_eq_false (fun h => HE.out (by rw [HX.out, HY.out]; simp only [h]))
      · have hk' : k = xs.length := by omega
        subst hk'
        go_wp2
        go_ret
        refine ⟨congrArg (fun b => Ending.returned (.bool b)) (Eq.symm ?_), by repeat (first | exact hbw | apply Below.drew)⟩
        have := HT.out
        rw [List.take_of_length_le (Nat.le_refl _), List.take_of_length_le (by rw [← HL.out]; exact Nat.le_refl _)] at this
        exact decide_eq_true this
  · have hB' : ((xs.length : Int) != (ys.length : Int)) = true := by simp; omega
    have HL := hide hl
    clear hl
    go_enter Try.func107, Try.ntmps107
    go_wp2
    go_ret
    exact ⟨congrArg (fun b => Ending.returned (.bool b)) (Eq.symm (decide_eq_false (fun h => HL.out (by rw [h])))), Below.refl _ _⟩
/-- 'sameTris': the reference's own comparison of two triangles. -/
theorem sameTris (a b : Value) (xs ys : List D3) (w : World) (B : Nat) (ha : Sl 3 (FlatOk D3.enc D3.ok) w B a xs) (hb : Sl 3 (FlatOk D3.enc D3.ok) w B b ys) (hB : B ≤ w.heap.size) :
    Calls Try.prog 103 #[a, b] w (Ret (.bool (decide (xs = ys))) w) := by
  obtain ⟨A, c, rfl, _, _, hr⟩ := ha.form
  obtain ⟨A', c', rfl, _, _, hr'⟩ := hb.form
  by_cases hl : xs.length = ys.length
  · have hB' : ((xs.length : Int) != (ys.length : Int)) = false := by rw [hl]; simp
    have HL := hide hl
    clear hl
    go_enter Try.func103, Try.ntmps103
    go_wp2
    go_loopw [5] (fun i wr => ∃ k : Nat, k ≤ xs.length ∧ i = .int .i64 k ∧ Hid (xs.take k = ys.take k) ∧ Below w.heap.size w wr) (fun i _ => xs.length - (intOf i).toNat)
    case atStart => exact ⟨0, Nat.zero_le _, rfl, hide (by simp), Below.refl _ _⟩
    case round =>
      obtain ⟨k, hk, rfl, HT, hbw⟩ := hrel
      by_cases hlt : k < xs.length
      · have hlt' : k < ys.length := by rw [← HL.out]; exact hlt
        have ha' := Sl.stays (FlatOk.stays _ _) _ wr _ _ _ _ ha (Agree.of hbw hB) (Nat.le_refl _)
        have hb' := Sl.stays (FlatOk.stays _ _) _ wr _ _ _ _ hb (Agree.of hbw hB) (Nat.le_refl _)
        obtain ⟨b1, o1, _, rfl, hb1, _, hat1, rfl, _⟩ := ha'.elem hlt
        obtain ⟨b2, o2, _, rfl, hb2, _, hat2, rfl, _⟩ := hb'.elem hlt'
        have f := D3.at hat1
        have g := D3.at hat2
        have hq := neq3 xs[k] ys[k]
        obtain ⟨x, hx⟩ : ∃ x, x = xs[k] := ⟨_, rfl⟩
        obtain ⟨y, hy⟩ : ∃ y, y = ys[k] := ⟨_, rfl⟩
        rw [← hx] at f hq
        rw [← hy] at g hq
        have HX := hide hx
        have HY := hide hy
        clear hx hy ha' hb' hat1 hat2 ha hb
        by_cases hxy : x = y
        · have hd : decide (x = y) = true := by simpa using hxy
          have HE := hide hxy
          clear hxy
          go_wp2
          go_quiet (fail)
          go_wp2
          go_roundw
          case rel => exact ⟨k + 1, by omega, by go_num, hide (by rw [List.take_succ_eq_append_getElem hlt, List.take_succ_eq_append_getElem hlt', HT.out, ← HX.out, ← HY.out, HE.out]), by repeat (first | exact hbw | apply Below.drew | apply below_drewN)⟩
          case measure => simp [intOf]; omega
        · have hd : decide (x = y) = false := by simpa using hxy
          have HE := hide hxy
          clear hxy
          go_wp2
          go_quiet (fail)
          go_wp2
          go_ret
          refine ⟨congrArg (fun b => Ending.returned (.bool b)) (Eq.symm ?_), by repeat (first | exact hbw | apply Below.drew | apply below_drewN)⟩
          exact decide_eq_false (fun h => HE.out (by rw [HX.out, HY.out]; simp only [h]))
      · have hk' : k = xs.length := by omega
        subst hk'
        go_wp2
        go_ret
        refine ⟨congrArg (fun b => Ending.returned (.bool b)) (Eq.symm ?_), by repeat (first | exact hbw | apply Below.drew)⟩
        have := HT.out
        rw [List.take_of_length_le (Nat.le_refl _), List.take_of_length_le (by rw [← HL.out]; exact Nat.le_refl _)] at this
        exact decide_eq_true this
  · have hB' : ((xs.length : Int) != (ys.length : Int)) = true := by simp; omega
    have HL := hide hl
    clear hl
    go_enter Try.func103, Try.ntmps103
    go_wp2
    go_ret
    exact ⟨congrArg (fun b => Ending.returned (.bool b)) (Eq.symm (decide_eq_false (fun h => HL.out (by rw [h])))), Below.refl _ _⟩

theorem ETGate : ET Try.prog 114 27 5 40 := ET.mk' (z := .agg #[.int .i64 0, .int .i64 0, .int .i64 0, .int .i64 0, .int .i64 0]) Try.underlying114 (by kernel_rfl) rfl (by omega)
theorem DGate.Enc : Enc 5 DGate.enc := ⟨fun _ => rfl, fun x u hu => by simp [DGate.enc, DVec.enc] at hu; rcases hu with rfl | rfl | rfl | rfl | rfl <;> rfl⟩
theorem neqGate (x y : DGate) (w : World) : (binOp .neq 27 (.agg #[.int .i64 x.center.x, .int .i64 x.center.y, .int .i64 x.center.z, .int .i64 x.lo, .int .i64 x.hi]) (.agg #[.int .i64 y.center.x, .int .i64 y.center.y, .int .i64 y.center.z, .int .i64 y.lo, .int .i64 y.hi])).run Try.prog w = .ok (.bool (!decide (x = y))) w := eqGate.neq (by omega) (fun _ => ⟨_, rfl⟩) x y w
theorem eqlGate (x y : DGate) (w : World) : (binOp .eql 27 (.agg #[.int .i64 x.center.x, .int .i64 x.center.y, .int .i64 x.center.z, .int .i64 x.lo, .int .i64 x.hi]) (.agg #[.int .i64 y.center.x, .int .i64 y.center.y, .int .i64 y.center.z, .int .i64 y.lo, .int .i64 y.hi])).run Try.prog w = .ok (.bool (decide (x = y))) w := eqGate.eql (by omega) (fun _ => ⟨_, rfl⟩) x y w
theorem DGate.at {w : World} {b o : Nat} {x : DGate} (h : At w b o x.enc) : w.cell? ⟨b, o, none⟩ = some (.int .i64 x.center.x) ∧ w.cell? ⟨b, o + 1, none⟩ = some (.int .i64 x.center.y) ∧ w.cell? ⟨b, o + 2, none⟩ = some (.int .i64 x.center.z) ∧
    w.cell? ⟨b, o + 3, none⟩ = some (.int .i64 x.lo) ∧ w.cell? ⟨b, o + 4, none⟩ = some (.int .i64 x.hi) :=
  ⟨h 0 _ rfl, h 1 _ rfl, h 2 _ rfl, h 3 _ rfl, h 4 _ rfl⟩
/-- slices.Clone at []api.Gate. -/
theorem cloneGate (a : Value) (xs : List DGate) (w : World) (B : Nat) (ha : Sl 5 (FlatOk DGate.enc DGate.ok) w B a xs) (hB : B ≤ w.heap.size) (hn : Hid (xs.length * 40 ≤ 140737488355328)) :
    Calls Try.prog 50 #[a] w (OwRet 27 5 (FlatOk DGate.enc DGate.ok) xs w) := by
  obtain ⟨A, c, rfl, _, _, hr⟩ := ha.form
  have heq := Lib.run_eql_slice_nil (P := Try.prog) (t := 114)
  cases A with
  | none =>
    have hx := (ha.flat_cells DGate.Enc.len ETGate.pos).2.2.2.1 rfl
    subst hx
    go_enter Try.func50, Try.ntmps50
    go_wp2
    go_ret
    exact ⟨_, rfl, Ow.nil _ _ _ _ _, Below.refl _ _⟩
  | some ad =>
    have ha1 := Sl.stays (FlatOk.stays _ _) _ (w.alloc (.cells #[] 27)) _ _ _ _ ha (Agree.of ((Below.refl w.heap.size w).alloc (Nat.le_refl _) _) hB) (Nat.le_refl _)
    have hd := Ow.made0 (α := DGate) 27 5 (FlatOk DGate.enc DGate.ok) w (Nat.le_refl _)
    have hbn : Hid ((([] : List DGate).length + xs.length) * 40 ≤ 140737488355328 ∧ ([] : List DGate).length + xs.length ≤ 140737488355328) := ⟨by simpa using hn.out, by simpa using hr⟩
    go_enter Try.func50, Try.ntmps50
    go_wp2_with (at_builtin; refine wpList_append_sl (enc := DGate.enc) (ok := DGate.ok) _ ETGate DGate.Enc rfl _ _ rfl w.heap.size (.slice (some ⟨w.heap.size, 0, none⟩) 0 0) ([] : List DGate) rfl hd B _ _ _ xs rfl ha1 hbn (by simp) ?_; intro v' w' hown hgrow)
    go_ret
    exact ⟨_, rfl, by simpa using hown, below_grown ((Below.refl _ _).alloc (Nat.le_refl _) _) hgrow (by simp) (by simp [Value.ownBlock])⟩
/-- slices.Equal at []api.Gate. -/
theorem equalGate (a b : Value) (xs ys : List DGate) (w : World) (B : Nat) (ha : Sl 5 (FlatOk DGate.enc DGate.ok) w B a xs) (hb : Sl 5 (FlatOk DGate.enc DGate.ok) w B b ys) (hB : B ≤ w.heap.size) :
    Calls Try.prog 108 #[a, b] w (Ret (.bool (decide (xs = ys))) w) := by
  obtain ⟨A, c, rfl, _, _, hr⟩ := ha.form
  obtain ⟨A', c', rfl, _, _, hr'⟩ := hb.form
  by_cases hl : xs.length = ys.length
  · have hB' : ((xs.length : Int) != (ys.length : Int)) = false := by rw [hl]; simp
    have HL := hide hl
    clear hl
    go_enter Try.func108, Try.ntmps108
    go_wp2
    go_loopw [5, 13] (fun _ i wr => ∃ k : Nat, k ≤ xs.length ∧ i = .int .i64 k ∧ Hid (xs.take k = ys.take k) ∧ Below w.heap.size w wr) (fun _ i _ => xs.length - (intOf i).toNat)
    case atStart => exact ⟨0, Nat.zero_le _, rfl, hide (by simp), Below.refl _ _⟩
    case round =>
      obtain ⟨k, hk, rfl, HT, hbw⟩ := hrel
      by_cases hlt : k < xs.length
      · have hlt' : k < ys.length := by rw [← HL.out]; exact hlt
        have ha' := Sl.stays (FlatOk.stays _ _) _ wr _ _ _ _ ha (Agree.of hbw hB) (Nat.le_refl _)
        have hb' := Sl.stays (FlatOk.stays _ _) _ wr _ _ _ _ hb (Agree.of hbw hB) (Nat.le_refl _)
        obtain ⟨b1, o1, _, rfl, hb1, _, hat1, rfl, _⟩ := ha'.elem hlt
        obtain ⟨b2, o2, _, rfl, hb2, _, hat2, rfl, _⟩ := hb'.elem hlt'
        have f := DGate.at hat1
        have g := DGate.at hat2
        have hq := neqGate xs[k] ys[k]
        obtain ⟨x, hx⟩ : ∃ x, x = xs[k] := ⟨_, rfl⟩
        obtain ⟨y, hy⟩ : ∃ y, y = ys[k] := ⟨_, rfl⟩
        rw [← hx] at f hq
        rw [← hy] at g hq
        have HX := hide hx
        have HY := hide hy
        clear hx hy ha' hb' hat1 hat2 ha hb
        by_cases hxy : x = y
        · have hd : decide (x = y) = true := by simpa using hxy
          have HE := hide hxy
          clear hxy
          go_wp2
          go_quiet (fail)
          go_wp2
          go_roundw
          case rel => exact ⟨k + 1, by omega, by go_num, hide (by rw [List.take_succ_eq_append_getElem hlt, List.take_succ_eq_append_getElem hlt', HT.out, ← HX.out, ← HY.out, HE.out]), by repeat (first | exact hbw | apply Below.drew | apply below_drewN)⟩
          case measure => simp [intOf]; omega
        · have hd : decide (x = y) = false := by simpa using hxy
          have HE := hide hxy
          clear hxy
          go_wp2
          go_quiet (fail)
          go_wp2
          go_ret
          refine ⟨congrArg (fun b => Ending.returned (.bool b)) (Eq.symm ?_), by repeat (first | exact hbw | apply Below.drew | apply below_drewN)⟩
          exact decide_eq_false (fun h => HE.out (by rw [HX.out, HY.out]; simp only [h]))
      · have hk' : k = xs.length := by omega
        subst hk'
        go_wp2
        go_ret
        refine ⟨congrArg (fun b => Ending.returned (.bool b)) (Eq.symm ?_), by repeat (first | exact hbw | apply Below.drew)⟩
        have := HT.out
        rw [List.take_of_length_le (Nat.le_refl _), List.take_of_length_le (by rw [← HL.out]; exact Nat.le_refl _)] at this
        exact decide_eq_true this
  · have hB' : ((xs.length : Int) != (ys.length : Int)) = true := by simp; omega
    have HL := hide hl
    clear hl
    go_enter Try.func108, Try.ntmps108
    go_wp2
    go_ret
    exact ⟨congrArg (fun b => Ending.returned (.bool b)) (Eq.symm (decide_eq_false (fun h => HL.out (by rw [h])))), Below.refl _ _⟩

theorem ETColor : ET Try.prog 64 47 4 4 := ET.mk' (z := .agg #[.int .u8 0, .int .u8 0, .int .u8 0, .int .u8 0]) Try.underlying64 (by kernel_rfl) rfl (by omega)
theorem DColor.Enc : Enc 4 DColor.enc := ⟨fun _ => rfl, fun x u hu => by simp [DColor.enc] at hu; rcases hu with rfl | rfl | rfl | rfl <;> rfl⟩
theorem neqColor (x y : DColor) (w : World) : (binOp .neq 47 (.agg #[.int .u8 x.r, .int .u8 x.g, .int .u8 x.b, .int .u8 x.a]) (.agg #[.int .u8 y.r, .int .u8 y.g, .int .u8 y.b, .int .u8 y.a])).run Try.prog w = .ok (.bool (!decide (x = y))) w := eqColor.neq (by omega) (fun _ => ⟨_, rfl⟩) x y w
theorem eqlColor (x y : DColor) (w : World) : (binOp .eql 47 (.agg #[.int .u8 x.r, .int .u8 x.g, .int .u8 x.b, .int .u8 x.a]) (.agg #[.int .u8 y.r, .int .u8 y.g, .int .u8 y.b, .int .u8 y.a])).run Try.prog w = .ok (.bool (decide (x = y))) w := eqColor.eql (by omega) (fun _ => ⟨_, rfl⟩) x y w
theorem DColor.at {w : World} {b o : Nat} {x : DColor} (h : At w b o x.enc) : w.cell? ⟨b, o, none⟩ = some (.int .u8 x.r) ∧ w.cell? ⟨b, o + 1, none⟩ = some (.int .u8 x.g) ∧ w.cell? ⟨b, o + 2, none⟩ = some (.int .u8 x.b) ∧ w.cell? ⟨b, o + 3, none⟩ = some (.int .u8 x.a) :=
  ⟨h 0 _ rfl, h 1 _ rfl, h 2 _ rfl, h 3 _ rfl⟩
/-- slices.Clone at []api.Color. -/
theorem cloneColor (a : Value) (xs : List DColor) (w : World) (B : Nat) (ha : Sl 4 (FlatOk DColor.enc DColor.ok) w B a xs) (hB : B ≤ w.heap.size) (hn : Hid (xs.length * 4 ≤ 140737488355328)) :
    Calls Try.prog 76 #[a] w (OwRet 47 4 (FlatOk DColor.enc DColor.ok) xs w) := by
  obtain ⟨A, c, rfl, _, _, hr⟩ := ha.form
  have heq := Lib.run_eql_slice_nil (P := Try.prog) (t := 64)
  cases A with
  | none =>
    have hx := (ha.flat_cells DColor.Enc.len ETColor.pos).2.2.2.1 rfl
    subst hx
    go_enter Try.func76, Try.ntmps76
    go_wp2
    go_ret
    exact ⟨_, rfl, Ow.nil _ _ _ _ _, Below.refl _ _⟩
  | some ad =>
    have ha1 := Sl.stays (FlatOk.stays _ _) _ (w.alloc (.cells #[] 47)) _ _ _ _ ha (Agree.of ((Below.refl w.heap.size w).alloc (Nat.le_refl _) _) hB) (Nat.le_refl _)
    have hd := Ow.made0 (α := DColor) 47 4 (FlatOk DColor.enc DColor.ok) w (Nat.le_refl _)
    have hbn : Hid ((([] : List DColor).length + xs.length) * 4 ≤ 140737488355328 ∧ ([] : List DColor).length + xs.length ≤ 140737488355328) := ⟨by simpa using hn.out, by simpa using hr⟩
    go_enter Try.func76, Try.ntmps76
    go_wp2_with (at_builtin; refine wpList_append_sl (enc := DColor.enc) (ok := DColor.ok) _ ETColor DColor.Enc rfl _ _ rfl w.heap.size (.slice (some ⟨w.heap.size, 0, none⟩) 0 0) ([] : List DColor) rfl hd B _ _ _ xs rfl ha1 hbn (by simp) ?_; intro v' w' hown hgrow)
    go_ret
    exact ⟨_, rfl, by simpa using hown, below_grown ((Below.refl _ _).alloc (Nat.le_refl _) _) hgrow (by simp) (by simp [Value.ownBlock])⟩

end Go.Proofs.Ytbflmipddiaiaaa
