/-
  From the row's reading of arguments (data) to this seat's readers (Sl and the like); the row's end where the call left old memory alone. No program in sight.
-/
import Derived.Test.YtbflmipddiaiaaaKit
import Derived.Deep.Slices
import Derived.SizedLaws
import Derived.OpenShut
import Derived.ReadAgain
import Derived.ChangeSame
import Derived.ProofKit
namespace Go.Proofs.Ytbflmipddiaiaaa
open Go.RowKit Go.ChangeShapes Go.WideShapes Go.Deep

/-- HOW A TYPE READS: whatever reads as data at type t, and takes no more than the reach, reads as R says. -/
def Tr {α : Type} (P : Program) (t : TypeId) (R : Rd α) : Prop :=
  ∀ (H : Type) (enc : TypeId × Value → H) (W : World) (fuel : Nat) (cs : List Value) (x : DataW H × List MemPlace),
    DataW.trod enc P W 0 (fun _ => true) true fuel t cs = some x → (∀ n ∈ x.1.weights P t, n ≤ reachBytes) → ∃ y, R W W.heap.size cs y

/-- One cell that holds a slice. -/
def RSl {α : Type} (size : Nat) (R : Rd α) : Rd (List α) := fun w B cs ys => ∃ v, cs = [v] ∧ Sl size R w B v ys
/-- One cell that holds an integer, a bool. -/
def RInt (k : IntKind) : Rd Int := fun _ _ cs n => cs = [.int k n] ∧ (Lit.int k n).wf = true
def RBool : Rd Bool := fun _ _ cs b => cs = [.bool b]

theorem Tr.int {P : Program} {t : TypeId} {k : IntKind} (hu : P.underlying t = some (.int k)) : Tr P t (RInt k) := by
  intro H enc W fuel cs x h _
  obtain ⟨n, rfl, _, hw⟩ := DataW.trod_int hu h
  exact ⟨n, rfl, hw⟩
theorem Tr.bool {P : Program} {t : TypeId} (hu : P.underlying t = some .bool) : Tr P t RBool := by
  intro H enc W fuel cs x h _
  obtain ⟨b, rfl, _⟩ := DataW.trod_bool hu h
  exact ⟨b, rfl⟩

theorem list_of {α : Type} {p : Nat → α → Prop} : ∀ n, (∀ i, i < n → ∃ y, p i y) → ∃ ys : List α, ys.length = n ∧ ∀ i y, ys[i]? = some y → p i y
  | 0, _ => ⟨[], rfl, fun i y h => by simp at h⟩
  | n + 1, h => by
    obtain ⟨ys, hl, hy⟩ := list_of n (fun i hi => h i (by omega))
    obtain ⟨z, hz⟩ := h n (by omega)
    refine ⟨ys ++ [z], by simp [hl], fun i y hi => ?_⟩
    by_cases hlt : i < ys.length
    · rw [List.getElem?_append_left hlt] at hi
      exact hy i y hi
    · rw [List.getElem?_append_right (by omega)] at hi
      have e : i - ys.length = 0 := by
        have := (List.getElem?_eq_some_iff.1 hi).1
        simp at this; omega
      rw [e] at hi
      simp at hi
      subst hi
      rwa [show i = n by omega]

theorem weightsAll_mem {H : Type} {P : Program} {e : TypeId} : ∀ {l : List (DataW H)} {d : DataW H}, d ∈ l → ∀ n ∈ d.weights P e, n ∈ DataW.weightsAll P e l
  | a :: l, d, hd, n, hn => by
    simp only [DataW.weightsAll, List.mem_append]
    rcases List.mem_cons.1 hd with rfl | hd
    · exact .inl hn
    · exact .inr (weightsAll_mem hd n hn)

theorem Tr.slice {α : Type} {P : Program} {t e : TypeId} {size : Nat} {R : Rd α} (hu : P.underlying t = some (.slice e)) (hc : P.cellsOf e = size) (hs : 0 < size) (hb : 0 < P.bytesOf e) (h : Tr P e R) : Tr P t (RSl size R) := by
  intro H enc W fuel cs x hx hw
  rcases open_slice hu hx with ⟨rfl, rfl⟩ | ⟨a, len, cap, m, n, D, Pl, rfl, hbase, hlc, hcm, hm, rfl, hel⟩
  · exact ⟨[], _, rfl, Sl.nil _ _ _ _⟩
  · simp only [if_true] at hm
    have hw1 : (len + (m - len)) * P.bytesOf e ≤ reachBytes := hw _ (by simp [DataW.weights, hu])
    have hlen : len ≤ 140737488355328 := by
      have h1 : len * 1 ≤ (len + (m - len)) * P.bytesOf e := Nat.mul_le_mul (by omega) hb
      have := reachBytes_lt
      omega
    obtain ⟨ys, hl, hy⟩ := list_of (α := α) (p := fun i y => ∃ cs', cs'.length = size ∧ (∀ j, j < size → W.cell? ((a.add (i * size)).add j) = cs'[j]?) ∧ R W W.heap.size cs' y) len (fun i hi => by
      obtain ⟨cs', h1, h2⟩ := hel i (by omega)
      obtain ⟨_, hcl, hat⟩ := World.cells?_some h1
      obtain ⟨y, hR⟩ := h H enc W n cs' _ h2 (fun q hq => hw q (by
        have : D i ∈ (List.range len).map D := List.mem_map.2 ⟨i, List.mem_range.2 hi, rfl⟩
        simp only [DataW.weights, hu, List.mem_cons, List.mem_append]
        exact .inr (.inl (weightsAll_mem this q hq))))
      rw [hc] at hcl hat
      exact ⟨y, cs', hcl, hat, hR⟩)
    refine ⟨ys, _, rfl, some a, len, cap, rfl, hl, hlc, hcm, hlen, fun h0 => ?_⟩
    obtain ⟨b, o, s⟩ := a
    have hcell0 : ∃ u, W.cell? ⟨b, o, s⟩ = some u := by
      obtain ⟨cs', hcl, hat, _⟩ := hy 0 (ys[0]'(by omega)) (by simp [show 0 < ys.length by omega])
      have := hat 0 hs
      rw [Nat.zero_mul] at this
      have e1 : ((⟨b, o, s⟩ : Addr).add 0).add 0 = ⟨b, o, s⟩ := by rw [add_zero', add_zero']
      rw [e1, List.getElem?_eq_getElem (by omega)] at this
      exact ⟨_, this⟩
    obtain ⟨u, hu0⟩ := hcell0
    have hsn : s = none := by
      cases s with
      | none => rfl
      | some q =>
        unfold World.cell? at hu0
        split at hu0 <;> simp at hu0
    subst hsn
    have hlt : b < W.heap.size := by
      unfold World.cell? at hu0
      split at hu0
      · rename_i hh
        exact (Array.getElem?_eq_some_iff.1 hh).1
      · cases hu0
    refine ⟨b, o, rfl, hlt, fun k y hk => ?_⟩
    obtain ⟨cs', hcl, hat, hR⟩ := hy k y hk
    refine ⟨cs', hcl, fun j v hj => ?_, hR⟩
    have hjl := (List.getElem?_eq_some_iff.1 hj).1
    have := hat j (by omega)
    rw [add_mk, add_mk] at this
    rw [this, hj]

/-- What is known of a struct: its number of cells, and each field's reading. -/
theorem Tr.fields {P : Program} {t : TypeId} {fs : Array Field} (hu : P.underlying t = some (.struct fs)) {H : Type} {enc : TypeId × Value → H} {W : World} {fuel : Nat} {cs : List Value} {x : DataW H × List MemPlace}
    (hx : DataW.trod enc P W 0 (fun _ => true) true fuel t cs = some x) (hw : ∀ n ∈ x.1.weights P t, n ≤ reachBytes) :
    cs.length = P.cellsOf t ∧ ∀ (j : Nat) (f : Field), fs[j]? = some f → ∀ (off n : Nat), f.offset = off → P.cellsOf f.type = n → ∀ {α : Type} {R : Rd α}, Tr P f.type R → ∃ y, R W W.heap.size ((cs.drop off).take n) y := by
  obtain ⟨xs, n, _, rfl, hl, hxl, hf⟩ := DataW.trod_struct hu hx
  refine ⟨hl, fun j f hj off n' ho hn' α R hT => ?_⟩
  subst ho; subst hn'
  have hjl : j < xs.length := by rw [hxl]; exact (Array.getElem?_eq_some_iff.1 hj).1
  have h1 := hf j f hj
  rw [List.getElem?_eq_getElem hjl] at h1
  refine hT H enc W n _ _ h1 (fun q hq => hw q ?_)
  simp only [DataW.weights, hu]
  refine DataW.weights_mem_each (j := j) (t := f.type) (d := xs[j].1) ?_ ?_ q hq
  · rw [List.getElem?_map, Array.getElem?_toList, hj]; rfl
  · rw [List.getElem?_map, List.getElem?_eq_getElem hjl]; rfl

/-- .. of an array. -/
theorem Tr.cells {P : Program} {t e : TypeId} {n : Nat} (hu : P.underlying t = some (.array n e)) {H : Type} {enc : TypeId × Value → H} {W : World} {fuel : Nat} {cs : List Value} {x : DataW H × List MemPlace}
    (hx : DataW.trod enc P W 0 (fun _ => true) true fuel t cs = some x) (hw : ∀ n ∈ x.1.weights P t, n ≤ reachBytes) :
    cs.length = P.cellsOf t ∧ ∀ (j : Nat), j < n → ∀ (off k : Nat), j * k = off → P.cellsOf e = k → ∀ {α : Type} {R : Rd α}, Tr P e R → ∃ y, R W W.heap.size ((cs.drop off).take k) y := by
  obtain ⟨xs, m, _, rfl, hl, hxl, hf⟩ := DataW.trod_array hu hx
  refine ⟨hl, fun j hj off k ho hk α R hT => ?_⟩
  subst hk; subst ho
  have hjl : j < xs.length := by omega
  have h1 := hf j hj
  rw [List.getElem?_eq_getElem hjl] at h1
  refine hT H enc W m _ _ h1 (fun q hq => hw q ?_)
  simp only [DataW.weights, hu]
  exact weightsAll_mem (List.mem_map.2 ⟨xs[j], List.getElem_mem hjl, rfl⟩) q hq

/-! ### The row's end -/
section
variable {H : Type} {enc : TypeId × Value → H} {P : Program}

theorem trodAll_carry {w w' : World} {base : Nat} {spare : Nat → Bool} {held : Bool} : ∀ {ts : List TypeId} {vs : List Value} {ds : List (DataW H)} {ps : List MemPlace},
    DataW.TrodAll enc P w base spare held ts vs ds ps → (∀ p ∈ ps, w.sameAt w' p) → DataW.TrodAll enc P w' base spare held ts vs ds ps
  | [], _, _, _, h, _ => by
    obtain ⟨rfl, rfl, rfl⟩ := trodAll_nil h
    exact trodAll_mk0
  | _ :: _, _, _, _, h, hs => by
    obtain ⟨v, vs1, d, ds1, a, b, rfl, rfl, rfl, ⟨n, hn⟩, h2⟩ := trodAll_cons h
    exact trodAll_cons_mk ⟨n, DataW.trod_carry n _ _ _ hn (fun p hp => hs p (List.mem_append_left _ hp))⟩ (trodAll_carry h2 (fun p hp => hs p (List.mem_append_right _ hp)))

theorem Below.sameAt {w w' : World} (hb : Below w.heap.size w w') {p : MemPlace} (hp : p.block < w.heap.size) : w.sameAt w' p := by
  cases p with
  | cell b off => exact hb.cell (p := ⟨b, off, none⟩) hp
  | map b => exact hb.block b hp

/-- THE END OF A ROW whose call answers one bool and leaves old memory alone; its specification says the bool, and the arguments as they were. -/
theorem row_end {f : Func} {s : ChangeSpec} {apart fresh handsOn again : Bool} {W W' : World} {args : Array Value} {b : Bool} {ds gs : List (DataW H)} {before : List MemPlace} {tb : TypeId}
    (K : Kids P (· < P.types.size)) (hz : ∀ t e, t < P.types.size → P.underlying t = some (.slice e) → 0 < P.cellsOf e) (hts : ∀ t ∈ f.params.toList, t < P.types.size)
    (hvar : s.vars = []) (hrt : f.resultTypes = #[tb]) (htb : P.underlying tb = some .bool)
    (hres : (s.fn H (ds ++ gs)).results = [.lit (.bool b)]) (hargs : (s.fn H (ds ++ gs)).args = ds) (hvars : (s.fn H (ds ++ gs)).vars = [])
    (hW : DataW.Whole enc P f.params.toList s.vars apart W args.toList ds gs before) (hb : Below W.heap.size W W') :
    s.post enc P f apart fresh handsOn again W args (.bool b) W' := by
  have hlt : ∀ p ∈ before, p.block < W.heap.size := fun p hp => hW.lt p hp
  have hold : ∀ p ∈ before, (fun b => decide (b < W.heap.size)) p.block = true := fun p hp => by simpa using hlt p hp
  have hW' := hW
  obtain ⟨p, q, hA, hV, hpq, hfz, hnd⟩ := hW'
  rw [hvar] at hV
  obtain ⟨hg0, hq0⟩ := trodVars_none hV
  subst hq0
  have hbp : before = p := by rw [hpq]; simp
  have hR : ∀ (b0 : Nat) (sp : Nat → Bool) (hd : Bool), DataW.TrodAll enc P W' b0 sp hd f.resultTypes.toList ((Value.bool b).resultList f.resultTypes.size) (s.fn H (ds ++ gs)).results [] := by
    intro b0 sp hd
    rw [hrt, hres]
    exact trodAll_cons_mk (shut_bool htb _) trodAll_mk0
  have hAg : ∀ sp : Nat → Bool, (∀ p ∈ before, sp p.block = true) → DataW.TrodAll enc P W' 0 sp true f.params.toList args.toList (s.fn H (ds ++ gs)).args p := by
    intro sp hsp
    rw [hargs]
    exact trodAll_carry (DataW.TrodAll.respare K hz hts hA (fun x hx => hsp x (by rw [hbp]; exact hx))) (fun x hx => Below.sameAt hb (hlt x (by rw [hbp]; exact hx)))
  have hVg : ∀ sp : Nat → Bool, DataW.TrodVars enc P W' sp s.vars (s.fn H (ds ++ gs)).vars [] := by
    intro sp
    rw [hvar, hvars]
    exact rfl
  refine ⟨ds, gs, before, [], p, [], hW, hR _ _ _, hAg _ hold, hVg _, World.keptBut_mono (fun x hx => ⟨hx, ?_⟩) (hb.frame (· ∈ before)), fun _ => ?_⟩
  · exact .inr (.inl (by rw [← hbp]; exact hx))
  · refine ⟨?_, _, _, ([] ++ p) ++ [], ⟨[] ++ p, [], trodAll_append (hAg _ (fun _ _ => rfl)) (hR _ _ _), hVg _, rfl, ?_, ?_⟩, ?_⟩
    · intro j t r h1 h2
      rw [hrt] at h1 h2
      exact ok_one hrt rfl (okWide_bool_mk htb _) j t r (by rw [hrt]; exact h1) (by rw [hrt]; exact h2)
    · intro b1 off hp
      have hin : MemPlace.cell b1 off ∈ before := by rw [hbp]; simpa using hp
      rw [hb.frozen (hlt _ hin)]
      exact hfz b1 off hin
    · intro ha
      have := hnd ha
      rw [hbp] at this
      simpa using this
    · intro x hx _
      rw [hbp]
      simpa using hx

end
end Go.Proofs.Ytbflmipddiaiaaa
