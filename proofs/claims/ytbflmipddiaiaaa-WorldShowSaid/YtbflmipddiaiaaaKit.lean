/-
  Words on memory for this seat's proofs: a slice that reads as a list of elements, each of several cells; worlds that agree below a block. Plain Lean over the library; no program in sight.
-/
import Derived.WalkKit
import Derived.Deep.Slices
import Derived.Deep.QuietTactic
import Derived.Deep.Draws
namespace Go.Proofs.Ytbflmipddiaiaaa
open Go.RowKit

/-! ### Addresses -/
theorem add_zero' (a : Addr) : a.add 0 = a := by simp [Addr.add]
theorem add_mk (b o n : Nat) : (⟨b, o, none⟩ : Addr).add n = ⟨b, o + n, none⟩ := by
  unfold Addr.add; split <;> simp_all

/-! ### Cells that lie at a place -/
/-- The cells cs lie in block b from o on. -/
def At (w : World) (b o : Nat) (cs : List Value) : Prop := ∀ j u, cs[j]? = some u → w.cell? ⟨b, o + j, none⟩ = some u

theorem At.get {w : World} {b o : Nat} {cs : List Value} (h : At w b o cs) (j : Nat) (hj : j < cs.length) : w.cell? ⟨b, o + j, none⟩ = some cs[j] := h j _ (by simp [hj])
theorem At.nil (w : World) (b o : Nat) : At w b o [] := fun j u h => by simp at h
theorem At.sub {w : World} {b o : Nat} {xs ys zs : List Value} (h : At w b o (xs ++ ys ++ zs)) : At w b (o + xs.length) ys := by
  intro j u hj
  have hl : j < ys.length := (List.getElem?_eq_some_iff.1 hj).1
  have := h (xs.length + j) u (by rw [List.append_assoc, List.getElem?_append_right (by omega), Nat.add_sub_cancel_left, List.getElem?_append_left hl]; exact hj)
  rw [← this, Nat.add_assoc]
theorem At.same {w w' : World} {b o : Nat} {cs : List Value} (h : At w b o cs) (hb : w'.heap[b]? = w.heap[b]?) : At w' b o cs := fun j u hj =>
  (World.cell?_of_block (a := ⟨b, o + j, none⟩) hb).trans (h j u hj)

/-! ### Worlds that agree below a block -/
def Agree (B : Nat) (w w' : World) : Prop := ∀ k, k < B → w'.heap[k]? = w.heap[k]?
theorem Agree.refl (B : Nat) (w : World) : Agree B w w := fun _ _ => rfl
theorem Agree.of {B B' : Nat} {w w' : World} (h : Below B' w w') (hB : B ≤ B') : Agree B w w' := fun k hk => h.block k (by omega)
theorem Agree.mono {B B' : Nat} {w w' : World} (h : Agree B' w w') (hB : B ≤ B') : Agree B w w' := fun k hk => h k (by omega)
theorem Agree.trans {B : Nat} {a b c : World} (h : Agree B a b) (k : Agree B b c) : Agree B a c := fun i hi => (k i hi).trans (h i hi)

/-! ### Slices -/
/-- HOW AN ELEMENT READS: its cells cs, with what they lead to in blocks below B of w, read as x. -/
abbrev Rd (α : Type) := World → Nat → List Value → α → Prop

/-- The slice value v reads as the list xs in w, below block B; an element has 'size' cells. -/
def Sl {α : Type} (size : Nat) (R : Rd α) (w : World) (B : Nat) (v : Value) (xs : List α) : Prop :=
  ∃ A n c, v = .slice A n c ∧ xs.length = n ∧ n ≤ c ∧ c ≤ maxLen ∧ n ≤ 140737488355328 ∧
    (0 < n → ∃ b o, A = some ⟨b, o, none⟩ ∧ b < B ∧ ∀ k x, xs[k]? = some x → ∃ cs, cs.length = size ∧ At w b (o + k * size) cs ∧ R w B cs x)

/-- A reading that more memory does not turn. -/
def Stays {α : Type} (R : Rd α) : Prop := ∀ w w' B B' cs x, R w B cs x → Agree B w w' → B ≤ B' → R w' B' cs x

theorem Sl.stays {α : Type} {size : Nat} {R : Rd α} (hR : Stays R) : ∀ w w' B B' v (xs : List α), Sl size R w B v xs → Agree B w w' → B ≤ B' → Sl size R w' B' v xs := by
  rintro w w' B B' v xs ⟨A, n, c, rfl, hl, hc, hm, hr, hA⟩ ha hB
  refine ⟨A, n, c, rfl, hl, hc, hm, hr, fun hn => ?_⟩
  obtain ⟨b, o, rfl, hb, hk⟩ := hA hn
  refine ⟨b, o, rfl, by omega, fun k x hx => ?_⟩
  obtain ⟨cs, h1, h2, h3⟩ := hk k x hx
  exact ⟨cs, h1, h2.same (ha b hb), hR _ _ _ _ _ _ h3 ha hB⟩

theorem Sl.nil {α : Type} (size : Nat) (R : Rd α) (w : World) (B : Nat) : Sl size R w B (.slice none 0 0) ([] : List α) :=
  ⟨none, 0, 0, rfl, rfl, Nat.le_refl _, by simp [maxLen], by omega, fun h => absurd h (by omega)⟩

/-- The value's shape. -/
theorem Sl.form {α : Type} {size : Nat} {R : Rd α} {w : World} {B : Nat} {v : Value} {xs : List α} (h : Sl size R w B v xs) :
    ∃ A c, v = .slice A xs.length c ∧ xs.length ≤ c ∧ c ≤ maxLen ∧ xs.length ≤ 140737488355328 := by
  obtain ⟨A, n, c, rfl, rfl, hc, hm, hr, _⟩ := h
  exact ⟨A, c, rfl, hc, hm, hr⟩

/-- Element k. -/
theorem Sl.elem {α : Type} {size : Nat} {R : Rd α} {w : World} {B : Nat} {A : Option Addr} {n c : Nat} {xs : List α} (h : Sl size R w B (.slice A n c) xs) {k : Nat} (hk : k < xs.length) :
    ∃ b o cs, A = some ⟨b, o, none⟩ ∧ b < B ∧ cs.length = size ∧ At w b (o + k * size) cs ∧ R w B cs xs[k] := by
  obtain ⟨A', n', c', hv, hl, hc, hm, hr, hA⟩ := h
  injection hv with h1 h2 h3
  subst h1; subst h2; subst h3
  obtain ⟨b, o, rfl, hb, hk'⟩ := hA (by omega)
  obtain ⟨cs, h1, h2, h3⟩ := hk' k xs[k] (by simp [hk])
  exact ⟨b, o, cs, rfl, hb, h1, h2, h3⟩

/-- An element that is nothing but its cells. -/
def Flat {α : Type} (enc : α → List Value) : Rd α := fun _ _ cs x => cs = enc x
theorem Flat.stays {α : Type} (enc : α → List Value) : Stays (Flat enc) := fun _ _ _ _ _ _ h _ _ => h

/-- An element that is nothing but its cells, and is as it should be. -/
def FlatOk {α : Type} (enc : α → List Value) (ok : α → Prop) : Rd α := fun _ _ cs x => cs = enc x ∧ ok x
theorem FlatOk.stays {α : Type} (enc : α → List Value) (ok : α → Prop) : Stays (FlatOk enc ok) := fun _ _ _ _ _ _ h _ _ => h

theorem hide {p : Prop} (h : p) : Hid p := h

/-- THE END OF A CALL THAT LEAVES OLD MEMORY ALONE. -/
def Ret (v : Value) (w : World) (e : Ending) (w' : World) : Prop := e = .returned v ∧ Below w.heap.size w w'
/-- The same, the value known by a property alone. -/
def RetIs (P : Value → World → Prop) (w : World) (e : Ending) (w' : World) : Prop := ∃ v, e = .returned v ∧ P v w' ∧ Below w.heap.size w w'

/-! ### Lists of rows -/
theorem flatten_get {size : Nat} (css : List (List Value)) (h : ∀ cs ∈ css, cs.length = size) (k j : Nat) (cs : List Value) (hk : css[k]? = some cs) (hj : j < size) : css.flatten[k * size + j]? = cs[j]? := by
  induction css generalizing k with
  | nil => simp at hk
  | cons a l ih =>
    have ha : a.length = size := h a (by simp)
    have hl : ∀ cs ∈ l, cs.length = size := fun c hc => h c (by simp [hc])
    cases k with
    | zero =>
      simp at hk
      subst hk
      simp only [List.flatten_cons, Nat.zero_mul, Nat.zero_add]
      rw [List.getElem?_append_left (by omega)]
    | succ k =>
      simp only [List.getElem?_cons_succ] at hk
      simp only [List.flatten_cons]
      rw [List.getElem?_append_right (by rw [ha, Nat.add_mul]; omega), ha, show (k + 1) * size + j - size = k * size + j by rw [Nat.add_mul]; omega]
      exact ih hl k hk
theorem flatten_length {size : Nat} (css : List (List Value)) (h : ∀ cs ∈ css, cs.length = size) : css.flatten.length = css.length * size := by
  induction css with
  | nil => simp
  | cons a l ih => rw [List.flatten_cons, List.length_append, ih (fun c hc => h c (by simp [hc])), h a (by simp), List.length_cons, Nat.add_mul]; omega

/-! ### What stays where only blocks of some types are written -/
/-- Every block of cells, none frozen, whose element type is in S, is as it was. -/
def Kp (S : TypeId → Prop) (w w' : World) : Prop := ∀ (g : Nat) (cur : Array Value) (t : TypeId), w.heap[g]? = some (.cells cur t (0, 0)) → S t → w'.heap[g]? = some (.cells cur t (0, 0))
theorem Kp.refl (S : TypeId → Prop) (w : World) : Kp S w w := fun _ _ _ h _ => h
theorem Kp.trans {S : TypeId → Prop} {a b c : World} (h : Kp S a b) (k : Kp S b c) : Kp S a c := fun g cur t hg hS => k g cur t (h g cur t hg hS) hS
theorem Kp.mono {S S' : TypeId → Prop} {a b : World} (h : Kp S a b) (hS : ∀ t, S' t → S t) : Kp S' a b := fun g cur t hg hs => h g cur t hg (hS t hs)
theorem Kp.below {w w' : World} (h : Below w.heap.size w w') (S : TypeId → Prop) : Kp S w w' := fun g cur t hg _ => by
  have hlt : g < w.heap.size := (Array.getElem?_eq_some_iff.1 hg).1
  rw [h.block g hlt]; exact hg
theorem Kp.grown {w w' : World} {row : Option Nat} {e : TypeId} (h : w.grownBy w' row) (hr : ∀ g, row = some g → ∃ cur fr, w.heap[g]? = some (.cells cur e fr)) : Kp (· ≠ e) w w' := fun g cur t hg ht => by
  have hlt : g < w.heap.size := (Array.getElem?_eq_some_iff.1 hg).1
  rw [h.block g hlt ?_]; exact hg
  intro hrow
  obtain ⟨cur', fr, hh⟩ := hr g hrow.symm
  rw [hh] at hg
  injection hg with hg
  injection hg with _ h2
  exact ht h2.symm
theorem Kp.setCell {w : World} {a : Addr} {e : TypeId} (u : Value) (h : ∃ cur fr, w.heap[a.block]? = some (.cells cur e fr)) : Kp (· ≠ e) w (w.setCell a u) := fun g cur t hg ht => by
  rw [Below.heap_setCell w a u g]; exact hg
  rintro rfl
  obtain ⟨cur', fr, hh⟩ := h
  rw [hh] at hg
  injection hg with hg
  injection hg with _ h2
  exact ht h2.symm

/-! ### What the call itself has made -/
/-- HOW AN ELEMENT OF ONE'S OWN LIES: its cells cs, with what they lead to in blocks from lo on. -/
abbrev Ro (α : Type) := World → Nat → List Value → α → Prop

/-- The slice value v is the call's own (blocks from lo on; elements of type e, 'size' cells each) and reads as xs. -/
def Ow {α : Type} (e : TypeId) (size : Nat) (O : Ro α) (w : World) (lo : Nat) (v : Value) (xs : List α) : Prop :=
  ∃ css : List (List Value), css.length = xs.length ∧ xs.length ≤ 140737488355328 ∧ w.ownsRow lo e size v xs.length css.flatten ∧ ∀ (k : Nat) cs x, css[k]? = some cs → xs[k]? = some x → cs.length = size ∧ O w lo cs x

/-- Such an element stays where blocks of types in S stay. -/
def OStays {α : Type} (S : TypeId → Prop) (O : Ro α) : Prop := ∀ w w' lo lo' cs x, O w lo cs x → Kp S w w' → lo' ≤ lo → O w' lo' cs x

theorem ownsRow_kp {w w' : World} {lo lo' : Nat} {e : TypeId} {size : Nat} {v : Value} {n : Nat} {xs : List Value} {S : TypeId → Prop} (h : w.ownsRow lo e size v n xs) (hk : Kp S w w') (hS : S e) (hlo : lo' ≤ lo) : w'.ownsRow lo' e size v n xs := by
  refine ⟨h.1, ?_⟩
  rcases h.2 with h2 | ⟨g, cap, cur, rfl, hb, hg, r⟩
  · exact .inl h2
  · exact .inr ⟨g, cap, cur, rfl, by omega, hk g cur e hg hS, r⟩

theorem Ow.stays {α : Type} {e : TypeId} {size : Nat} {O : Ro α} {S : TypeId → Prop} (hO : OStays S O) (hS : S e) : ∀ w w' lo lo' v (xs : List α), Ow e size O w lo v xs → Kp S w w' → lo' ≤ lo → Ow e size O w' lo' v xs := by
  rintro w w' lo lo' v xs ⟨css, h1, h0, h2, h3⟩ hk hlo
  exact ⟨css, h1, h0, ownsRow_kp h2 hk hS hlo, fun k cs x hc hx => ⟨(h3 k cs x hc hx).1, hO _ _ _ _ _ _ (h3 k cs x hc hx).2 hk hlo⟩⟩

theorem Ow.nil {α : Type} (e : TypeId) (size : Nat) (O : Ro α) (w : World) (lo : Nat) : Ow e size O w lo (.slice none 0 0) ([] : List α) :=
  ⟨[], rfl, by simp, World.ownsRow_nil w lo e size, fun k cs x h => by simp at h⟩

theorem Ow.form {α : Type} {e : TypeId} {size : Nat} {O : Ro α} {w : World} {lo : Nat} {v : Value} {xs : List α} (h : Ow e size O w lo v xs) :
    ∃ A c, v = .slice A xs.length c ∧ xs.length ≤ c ∧ c ≤ maxLen ∧ xs.length ≤ 140737488355328 := by
  obtain ⟨css, h1, h0, h2, _⟩ := h
  rcases h2.2 with ⟨rfl, hn⟩ | ⟨g, cap, cur, rfl, _, _, hc, hm, _⟩
  · exact ⟨none, 0, by rw [hn], by omega, by simp [maxLen], h0⟩
  · exact ⟨_, cap, rfl, hc, hm, h0⟩

/-- What is one's own reads. -/
theorem Ow.sl {α : Type} {e : TypeId} {size : Nat} {O : Ro α} {R : Rd α} {w : World} {lo : Nat} {v : Value} {xs : List α} (hOR : ∀ cs x, O w lo cs x → R w w.heap.size cs x) (h : Ow e size O w lo v xs) : Sl size R w w.heap.size v xs := by
  obtain ⟨css, h1, h0, h2, h3⟩ := h
  rcases h2.2 with ⟨rfl, hn⟩ | ⟨g, cap, cur, rfl, _, hg, hc, hm, hcs, ht⟩
  · exact ⟨none, 0, 0, rfl, hn, Nat.le_refl _, by simp [maxLen], by omega, fun h => absurd h (by omega)⟩
  · refine ⟨_, _, _, rfl, rfl, hc, hm, h0, fun _ => ⟨g, 0, rfl, (Array.getElem?_eq_some_iff.1 hg).1, fun k x hx => ?_⟩⟩
    have hk : k < css.length := by rw [h1]; exact (List.getElem?_eq_some_iff.1 hx).1
    obtain ⟨hl, ho⟩ := h3 k css[k] x (by simp [hk]) hx
    have hall : ∀ cs ∈ css, cs.length = size := fun cs hcs => by
      obtain ⟨i, hi, rfl⟩ := List.getElem_of_mem hcs
      exact (h3 i css[i] (xs[i]'(by omega)) (by simp [hi]) (by simp [show i < xs.length by omega])).1
    refine ⟨css[k], hl, fun j u hj => ?_, hOR _ _ ho⟩
    have hjl : j < size := by rw [← hl]; exact (List.getElem?_eq_some_iff.1 hj).1
    have hf := flatten_get css hall k j css[k] (by simp [hk]) hjl
    rw [hj] at hf
    have := h2.cells (g := g) rfl _ _ hf
    rwa [add_mk, ← Nat.add_assoc] at this

/-- .. at flat elements. -/
theorem Ow.slf {α : Type} {e : TypeId} {size : Nat} {enc : α → List Value} {ok : α → Prop} {w : World} {lo : Nat} {v : Value} {xs : List α} (h : Ow e size (FlatOk enc ok) w lo v xs) : Sl size (FlatOk enc ok) w w.heap.size v xs :=
  Ow.sl (lo := lo) (O := FlatOk enc ok) (R := FlatOk enc ok) (fun _ _ h => h) h

/-- One element more, behind an append. -/
theorem Ow.snoc {α : Type} {e : TypeId} {size : Nat} {O : Ro α} {w' : World} {lo : Nat} {v' : Value} {xs : List α} {x : α} {cs : List Value} {css : List (List Value)}
    (h1 : css.length = xs.length) (hn : xs.length + 1 ≤ 140737488355328) (hold : ∀ (k : Nat) cs x, css[k]? = some cs → xs[k]? = some x → cs.length = size ∧ O w' lo cs x)
    (hown : w'.ownsRow lo e size v' (xs.length + 1) (css.flatten ++ cs)) (hl : cs.length = size) (ho : O w' lo cs x) : Ow e size O w' lo v' (xs ++ [x]) := by
  refine ⟨css ++ [cs], by simp [h1], by simpa using hn, by simpa using hown, fun k cs' x' hc hx => ?_⟩
  by_cases hk : k < css.length
  · rw [List.getElem?_append_left hk] at hc
    rw [List.getElem?_append_left (by omega)] at hx
    exact hold k cs' x' hc hx
  · rw [List.getElem?_append_right (by omega)] at hc
    rw [List.getElem?_append_right (by omega)] at hx
    have e1 : k - css.length = 0 := by
      have := (List.getElem?_eq_some_iff.1 hc).1
      simp at this; omega
    have e2 : k - xs.length = 0 := by omega
    rw [e1] at hc; rw [e2] at hx
    simp at hc hx
    subst hc; subst hx
    exact ⟨hl, ho⟩

/-! ### append onto what is one's own, in one law -/
/-- The cells behind a slice that reads as flat elements. -/
theorem Sl.flat_cells {α : Type} {size : Nat} {enc : α → List Value} {ok : α → Prop} {w : World} {B : Nat} {A : Option Addr} {n c : Nat} {xs : List α} (hlen : ∀ x, (enc x).length = size) (hs : 0 < size) (h : Sl size (FlatOk enc ok) w B (.slice A n c) xs) :
    n = xs.length ∧ (∀ x ∈ xs, ok x) ∧ ((xs.map enc).flatten).length = n * size ∧ (A = none → xs = []) ∧ ∀ ad, A = some ad → ∀ j u, ((xs.map enc).flatten)[j]? = some u → w.cell? (ad.add j) = some u := by
  obtain ⟨A', n', c', hv, hl, hc, hm, hr, hA⟩ := h
  injection hv with e1 e2 e3
  subst e1; subst e2; subst e3
  have hall : ∀ cs ∈ xs.map enc, cs.length = size := fun cs hcs => by
    obtain ⟨x, _, rfl⟩ := List.mem_map.1 hcs
    exact hlen x
  refine ⟨hl.symm, fun x hx => ?_, by rw [flatten_length _ hall]; simp [hl], fun hn => ?_, fun ad had j u hj => ?_⟩
  · obtain ⟨i, hi, rfl⟩ := List.getElem_of_mem hx
    obtain ⟨b, o, _, _, hk⟩ := hA (by omega)
    obtain ⟨cs, _, _, _, ho⟩ := hk i xs[i] (by simp [hi])
    exact ho
  · rcases Nat.eq_zero_or_pos n with h0 | h0
    · exact List.eq_nil_of_length_eq_zero (by omega)
    · obtain ⟨b, o, hA', _⟩ := hA h0
      rw [hn] at hA'; cases hA'
  · have hjl := (List.getElem?_eq_some_iff.1 hj).1
    rw [flatten_length _ hall, List.length_map] at hjl
    have hn0 : 0 < n := by
      rcases Nat.eq_zero_or_pos xs.length with h0 | h0
      · rw [h0] at hjl; simp at hjl
      · omega
    obtain ⟨b, o, hA', _, hk⟩ := hA hn0
    rw [had] at hA'
    injection hA' with hA'
    subst hA'
    have hq : j / size < xs.length := Nat.div_lt_of_lt_mul (by rw [Nat.mul_comm]; exact hjl)
    obtain ⟨cs, hcl, hat, hcs, _⟩ := hk (j / size) xs[j / size] (by simp [hq])
    have hmod : j % size < size := Nat.mod_lt _ hs
    have hdm : j / size * size + j % size = j := by rw [Nat.mul_comm]; exact Nat.div_add_mod j size
    have hf := flatten_get (xs.map enc) hall (j / size) (j % size) (enc xs[j / size]) (by simp [hq]) hmod
    rw [hdm, hj] at hf
    rw [hcs] at hat
    have := hat (j % size) u hf.symm
    rw [add_mk, ← hdm, ← Nat.add_assoc]
    exact this

/-! ### Behind a call that leaves old memory alone -/
theorem bcell {W w1 : World} (hb : Below W.heap.size W w1) : (∀ b o, b < W.heap.size → w1.cell? ⟨b, o, none⟩ = W.cell? ⟨b, o, none⟩) ∧ (∀ b o, b < W.heap.size → w1.frozen? ⟨b, o, none⟩ = W.frozen? ⟨b, o, none⟩) :=
  ⟨fun b o h => hb.cell (p := ⟨b, o, none⟩) h, fun b o h => hb.frozen (p := ⟨b, o, none⟩) h⟩
theorem bstep {w b c : World} (h1 : Below w.heap.size w b) (h2 : Below b.heap.size b c) : Below w.heap.size w c := h1.trans (h2.mono h1.size)
theorem below_drewN {B : Nat} {a w : World} (h : Below B a w) (n : Nat) : Below B a (w.drewN n) := ⟨h.os, h.tape, h.output, h.size, h.block⟩
theorem ret_bool {a b : Bool} (h : a = b) : Ending.returned (.bool a) = .returned (.bool b) := by rw [h]
theorem ret_int {k : IntKind} {a b : Int} (h : a = b) : Ending.returned (.int k a) = .returned (.int k b) := by rw [h]

/-- The end of a call that leaves the world as it is. -/
def Same (v : Value) (w : World) (e : Ending) (w' : World) : Prop := e = .returned v ∧ w' = w
theorem Same.quiet {P : Program} {f : FuncId} {args : Array Value} {w : World} {n : Nat} {v : Value} (h : Calls P f args (w.drewN n) (Same v (w.drewN n))) :
    Calls P f args (w.drewN n) fun e w'' => e = .returned v ∧ ∃ m, w'' = w.drewN m := Calls.quiet_of_same (h.mono fun _ _ h => h)
theorem Same.ret {P : Program} {f : FuncId} {args : Array Value} {w : World} {v : Value} (h : Calls P f args w (Same v w)) : Calls P f args w (Ret v w) :=
  h.mono fun _ _ h => ⟨h.1, by rw [h.2]; exact Below.refl _ _⟩

/-! ### A region whose order is drawn, whose own operations only read, and whose callees leave old memory alone: 'go_quiet''s walk over another class of worlds -/
/-- w itself, or any world that agrees with it below its own size. -/
noncomputable def ext (w u : World) : World := by
  classical exact if Below w.heap.size w u then u else w
theorem ext_below (w u : World) : Below w.heap.size w (ext w u) := by
  unfold ext
  split
  · assumption
  · exact Below.refl _ _
theorem ext_of {w u : World} (h : Below w.heap.size w u) : ext w u = u := by unfold ext; rw [if_pos h]
theorem ext_cell (w u : World) (b o : Nat) (h : b < w.heap.size) : (ext w u).cell? ⟨b, o, none⟩ = w.cell? ⟨b, o, none⟩ := (bcell (ext_below w u)).1 b o h

theorem wp_region_ext_lit {P : Program} {id : Nat} {Q : Exit → Act → World → Prop} {a : Act} {w : World} {l : List Oper} (hm : P.follows .mixedOrders = true) (hB : Region.lexB .any l.toArray = true)
    (h : wpQuiet P l.toArray (fun w' => ∃ u, w' = ext w u) (fun a' => ∀ w', (∃ u, w' = ext w u) → Q .normal a' w') l a) : (Code.region id l.toArray true).wp P Q a w :=
  wp_region_quiet (C := fun w' => ∃ u, w' = ext w u) hm hB ⟨w.drew, (ext_of ((Below.refl _ _).drew)).symm⟩ (by simpa using h)

/-- A callee's contract inside such a region. -/
theorem Ret.ext {P : Program} {f : FuncId} {args : Array Value} {w u : World} {v : Value} (h : Calls P f args (ext w u) (Ret v (ext w u))) :
    Calls P f args (ext w u) fun e w'' => e = .returned v ∧ ∃ u', w'' = ext w u' :=
  h.mono fun _ w'' ⟨he, hb⟩ => ⟨he, w'', (ext_of (bstep (ext_below w u) hb)).symm⟩

/-! ### Boxes: blocks that are known whole -/
theorem al1 (w : World) (A : Obj) : (w.alloc A).heap[w.heap.size]? = some A := heap_alloc_new w A
theorem al2a (w : World) (A B : Obj) : ((w.alloc A).alloc B).heap[w.heap.size]? = some A := heap_alloc2_old w A B
theorem al2b (w : World) (A B : Obj) : ((w.alloc A).alloc B).heap[w.heap.size + 1]? = some B := heap_alloc2_new w A B
theorem size_al (w : World) (A : Obj) : (w.alloc A).heap.size = w.heap.size + 1 := by simp
theorem al3a (w : World) (A B C : Obj) : (((w.alloc A).alloc B).alloc C).heap[w.heap.size]? = some A := by
  rw [Below.heap_alloc _ _ _ (by simp only [size_al]; omega)]; exact al2a w A B
theorem al3b (w : World) (A B C : Obj) : (((w.alloc A).alloc B).alloc C).heap[w.heap.size + 1]? = some B := by
  rw [Below.heap_alloc _ _ _ (by simp only [size_al]; omega)]; exact al2b w A B
theorem al3c (w : World) (A B C : Obj) : (((w.alloc A).alloc B).alloc C).heap[w.heap.size + 2]? = some C := by
  have h := heap_alloc_new ((w.alloc A).alloc B) C
  rw [size_al, size_al] at h
  exact h

/-- A block of cells, none frozen, in a later world. -/
def Box (w : World) (g : Nat) (cs : Array Value) (t : TypeId) : Prop := w.heap[g]? = some (.cells cs t (0, 0))
theorem Box.cell {w : World} {g : Nat} {cs : Array Value} {t : TypeId} (h : Box w g cs t) : ∀ j, w.cell? ⟨g, j, none⟩ = cs[j]? := fun j => cell_of_row w g j cs t (0, 0) h
theorem Box.frozen {w : World} {g : Nat} {cs : Array Value} {t : TypeId} (h : Box w g cs t) : ∀ j, w.frozen? ⟨g, j, none⟩ = false := fun j => frozen_of_row w g j cs t h
theorem Box.lt {w : World} {g : Nat} {cs : Array Value} {t : TypeId} (h : Box w g cs t) : g < w.heap.size := (Array.getElem?_eq_some_iff.1 h).1
theorem Box.below {w w' : World} {g : Nat} {cs : Array Value} {t : TypeId} (h : Box w g cs t) (hb : Below w.heap.size w w') : Box w' g cs t := (hb.block g h.lt).trans h
theorem Box.alloc {w : World} {g : Nat} {cs : Array Value} {t : TypeId} (h : Box w g cs t) (o : Obj) : Box (w.alloc o) g cs t := (Below.heap_alloc w o g h.lt).trans h
theorem Box.set {w : World} {g : Nat} {cs : Array Value} {t : TypeId} (h : Box w g cs t) (i : Nat) (u : Value) : Box (w.setCell ⟨g, i, none⟩ u) g (cs.setIfInBounds i u) t := heap_setCell_same w g i cs t u h
theorem Box.far {w : World} {g : Nat} {cs : Array Value} {t : TypeId} (h : Box w g cs t) {p : Addr} (hp : g ≠ p.block) (u : Value) : Box (w.setCell p u) g cs t := (heap_setCell_other w p g u hp).trans h
theorem Box.grown {w w' : World} {g : Nat} {cs : Array Value} {t : TypeId} {row : Option Nat} (h : Box w g cs t) (hg : w.grownBy w' row) (hne : row ≠ some g) : Box w' g cs t := (hg.block g h.lt (fun e => hne e.symm)).trans h
/-- An append onto a row of another element type leaves a box as it is. -/
theorem Box.row {α : Type} {w w' : World} {g : Nat} {cs : Array Value} {t : TypeId} {e size : Nat} {O : Ro α} {lo : Nat} {v : Value} {xs : List α} (h : Box w g cs t) (ho : Ow e size O w lo v xs) (hg : w.grownBy w' v.ownBlock) (hne : e ≠ t) : Box w' g cs t := by
  refine h.grown hg fun hrow => ?_
  obtain ⟨css, h1, h0, h2, h3⟩ := ho
  rcases h2.2 with ⟨rfl, _⟩ | ⟨g', cap, cur, rfl, _, hh, _⟩
  · simp [Value.ownBlock] at hrow
  · simp [Value.ownBlock] at hrow
    subst hrow
    unfold Box at h
    rw [h] at hh
    injection hh with hh
    injection hh with _ he
    exact hne he.symm

end Go.Proofs.Ytbflmipddiaiaaa
