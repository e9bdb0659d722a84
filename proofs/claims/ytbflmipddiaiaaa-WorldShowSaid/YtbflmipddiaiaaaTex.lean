/-
  Textures: copies, comparisons, whether some are great.
-/
import Derived.Test.YtbflmipddiaiaaaRange
import Derived.Test.YtbflmipddiaiaaaBox
import Derived.Deep.RegionHeld3
import Derived.Deep.RegionLaw
namespace Go.Proofs.Ytbflmipddiaiaaa
open Go.RowKit

/-- A texture of one's own: its 3 cells. -/
def OTexture : Ro DTexture := fun w lo cs x => ∃ a, cs = [.int .i64 x.w, .int .i64 x.h, a] ∧ I64 x.w ∧ I64 x.h ∧ Ow 47 4 RColor w lo a x.texels
theorem OTexture.stays {S : TypeId → Prop} (hS : S 47) : OStays S OTexture := by
  rintro w w' lo lo' cs x ⟨a, rfl, h1, h2, h3⟩ hk hlo
  exact ⟨a, rfl, h1, h2, Ow.stays (fun _ _ _ _ _ _ h _ _ => h) hS _ _ _ _ _ _ h3 hk hlo⟩
theorem OTexture.rd {w : World} {lo : Nat} {cs : List Value} {x : DTexture} (h : OTexture w lo cs x) : RTexture w w.heap.size cs x := by
  obtain ⟨a, rfl, h1, h2, h3⟩ := h
  exact ⟨a, rfl, h1, h2, h3.slf⟩

theorem twinTex (x : DTexture) (a : Value) (w : World) (B : Nat) (hB : B ≤ w.heap.size) (h1 : I64 x.w) (h2 : I64 x.h) (ha : Sl 4 RColor w B a x.texels) (hn : Hid (x.texels.length * 4 ≤ 140737488355328)) :
    Calls Try.prog 43 #[.agg #[.int .i64 x.w, .int .i64 x.h, a]] w (RetIs (fun v w' => ∃ cs, v = .agg cs.toArray ∧ OTexture w' w.heap.size cs x) w) := by
  obtain ⟨A, c, rfl, _, _, hr⟩ := ha.form
  have H1 := hide h1; have H2 := hide h2
  clear h1 h2
  go_enter Try.func43, Try.ntmps43
  go_wp2_with fail
  refine Calls.mono (cloneColor _ x.texels _ w.heap.size (Sl.stays (FlatOk.stays _ _) _ _ _ _ _ _ ha (Agree.of (by (repeat (first | (with_reducible exact Below.refl _ _) | (with_reducible assumption) | (with_reducible apply Below.drew) | (with_reducible apply below_drewN) | ((with_reducible apply Below.alloc); rotate_left; (focus (first | omega | (simp <;> omega)))) | ((with_reducible apply Below.setCell); rotate_left; (focus (first | omega | (simp <;> omega)))) | ((with_reducible apply bstep); rotate_left; (focus with_reducible assumption)) | ((with_reducible apply below_gr); rotate_left; (focus with_reducible assumption); (focus (first | omega | (simp <;> omega)))))) : Below w.heap.size w _) hB) hB) ?_ hn) ?_
  · simp; omega
  rintro e w1 ⟨v1, rfl, hown, hb⟩
  obtain ⟨A1, c1, rfl, _⟩ := hown.form
  have B1 := Box.below (t := 128) (al2a w _ _) hb
  have B2 := Box.below (t := 128) (al2b w _ _) hb
  have bc1 := B1.cell; have bf1 := B1.frozen; have bc2 := B2.cell; have bf2 := B2.frozen
  have hz := hb.size
  go_wp2
  refine bodyPost_ret (v := .agg #[.int .i64 x.w, .int .i64 x.h, .slice A1 x.texels.length c1]) ?_ rfl ?_
  · simp [results, Try.results43, go_sem, bc2]
  exact ⟨_, rfl, ⟨[.int .i64 x.w, .int .i64 x.h, .slice A1 x.texels.length c1], rfl, _, rfl, H1.out, H2.out,
    Ow.stays (S := (· ≠ 128)) (flat_ostays _ _ _) (by decide) _ _ _ _ _ _ hown (by (repeat (first | (with_reducible exact Kp.refl _ _) | (with_reducible apply Kp.drewN) | (with_reducible apply Kp.drew) | (with_reducible apply Kp.alloc) | ((with_reducible apply Kp.set); rotate_left; (focus (repeat (first | (with_reducible assumption) | ((with_reducible apply Box.is); (focus with_reducible assumption)) | (with_reducible apply IsBox.set) | (with_reducible apply IsBox.alloc) | ((with_reducible apply IsBox.below); rotate_left; (focus with_reducible assumption))))); (focus decide)) | ((with_reducible apply Kp.bel); rotate_left; (focus with_reducible assumption)) | ((with_reducible apply Kp.gr); rotate_left; (focus with_reducible assumption); (focus (repeat (first | (with_reducible assumption) | ((with_reducible apply Box.is); (focus with_reducible assumption)) | (with_reducible apply IsBox.set) | (with_reducible apply IsBox.alloc) | ((with_reducible apply IsBox.below); rotate_left; (focus with_reducible assumption))))); (focus decide))))) (by simp; omega)⟩, by (repeat (first | (with_reducible exact Below.refl _ _) | (with_reducible assumption) | (with_reducible apply Below.drew) | (with_reducible apply below_drewN) | ((with_reducible apply Below.alloc); rotate_left; (focus (first | omega | (simp <;> omega)))) | ((with_reducible apply Below.setCell); rotate_left; (focus (first | omega | (simp <;> omega)))) | ((with_reducible apply bstep); rotate_left; (focus with_reducible assumption)) | ((with_reducible apply below_gr); rotate_left; (focus with_reducible assumption); (focus (first | omega | (simp <;> omega))))))⟩

theorem twinTex_ref (x : DTexture) (a : Value) (w : World) (B : Nat) (hB : B ≤ w.heap.size) (h1 : I64 x.w) (h2 : I64 x.h) (ha : Sl 4 RColor w B a x.texels) (hn : Hid (x.texels.length * 4 ≤ 140737488355328)) :
    Calls Try.prog 48 #[.agg #[.int .i64 x.w, .int .i64 x.h, a]] w (RetIs (fun v w' => ∃ cs, v = .agg cs.toArray ∧ OTexture w' w.heap.size cs x) w) := by
  obtain ⟨A, c, rfl, _, _, hr⟩ := ha.form
  have H1 := hide h1; have H2 := hide h2
  clear h1 h2
  have hs := fun W (h : Below w.heap.size w W) => Sl.stays (FlatOk.stays _ _) _ W _ _ _ _ ha (Agree.of h hB) hB
  have hbn : Hid ((([] : List DColor).length + x.texels.length) * 4 ≤ 140737488355328 ∧ ([] : List DColor).length + x.texels.length ≤ 140737488355328) := ⟨by simpa using hn.out, by simpa using hr⟩
  have HS := hide hs
  clear hs ha
  go_enter Try.func48, Try.ntmps48
  go_wp2_with fail
  go_region_held3 (fun w' => w'.cell? ⟨w.heap.size, 0, none⟩ = some (.int .i64 x.w) ∧ w'.cell? ⟨w.heap.size, 1, none⟩ = some (.int .i64 x.h) ∧ w'.cell? ⟨w.heap.size, 2, none⟩ = some (.slice A x.texels.length c))
    (first | go_keep | exact ⟨bc1 0, bc1 1, bc1 2⟩)
    (first | (refine step_append_sl (enc := DColor.enc) (ok := DColor.ok) _ ETColor DColor.Enc rfl _ _ rfl w.heap.size (.slice none 0 0) ([] : List DColor) rfl (Ow.nil _ _ _ _ _) w.heap.size A x.texels.length c x.texels (by rfl) (HS.out _ (by (repeat (first | (with_reducible exact Below.refl _ _) | (with_reducible assumption) | (with_reducible apply Below.drew) | (with_reducible apply below_drewN) | ((with_reducible apply Below.alloc); rotate_left; (focus (first | omega | (simp <;> omega)))) | ((with_reducible apply Below.setCell); rotate_left; (focus (first | omega | (simp <;> omega)))) | ((with_reducible apply bstep); rotate_left; (focus with_reducible assumption)) | ((with_reducible apply below_gr); rotate_left; (focus with_reducible assumption); (focus (first | omega | (simp <;> omega)))))))) hbn (by simp; omega) ?_; intro v1 w1 hown hg; simp only [List.nil_append] at hown; obtain ⟨A1, c1, hv1, _⟩ := hown.form; subst hv1; have hb1 := below_row (w0 := w) (by (repeat (first | (with_reducible exact Below.refl _ _) | (with_reducible assumption) | (with_reducible apply Below.drew) | (with_reducible apply below_drewN) | ((with_reducible apply Below.alloc); rotate_left; (focus (first | omega | (simp <;> omega)))) | ((with_reducible apply Below.setCell); rotate_left; (focus (first | omega | (simp <;> omega)))) | ((with_reducible apply bstep); rotate_left; (focus with_reducible assumption)) | ((with_reducible apply below_gr); rotate_left; (focus with_reducible assumption); (focus (first | omega | (simp <;> omega))))))) (Ow.nil (α := DColor) 47 4 RColor _ w.heap.size) hg (Nat.le_refl _); have B1 := Box.of_grown hg (t := 128) (al2a w _ _) (by simp [Value.ownBlock]); have B2 := Box.of_grown hg (t := 128) (al2b w _ _) (by simp [Value.ownBlock]); have bc1 := B1.cell; have bf1 := B1.frozen; have bc2 := B2.cell; have bf2 := B2.frozen))
  go_wp2
  refine bodyPost_ret (v := .agg #[.int .i64 x.w, .int .i64 x.h, .slice A1 x.texels.length c1]) ?_ rfl ?_
  · simp [results, Try.results48, go_sem, bc2]
  exact ⟨_, rfl, ⟨[.int .i64 x.w, .int .i64 x.h, .slice A1 x.texels.length c1], rfl, _, rfl, H1.out, H2.out,
    Ow.stays (S := (· ≠ 128)) (flat_ostays _ _ _) (by decide) _ _ _ _ _ _ hown (by (repeat (first | (with_reducible exact Kp.refl _ _) | (with_reducible apply Kp.drewN) | (with_reducible apply Kp.drew) | (with_reducible apply Kp.alloc) | ((with_reducible apply Kp.set); rotate_left; (focus (repeat (first | (with_reducible assumption) | ((with_reducible apply Box.is); (focus with_reducible assumption)) | (with_reducible apply IsBox.set) | (with_reducible apply IsBox.alloc) | ((with_reducible apply IsBox.below); rotate_left; (focus with_reducible assumption))))); (focus decide)) | ((with_reducible apply Kp.bel); rotate_left; (focus with_reducible assumption)) | ((with_reducible apply Kp.gr); rotate_left; (focus with_reducible assumption); (focus (repeat (first | (with_reducible assumption) | ((with_reducible apply Box.is); (focus with_reducible assumption)) | (with_reducible apply IsBox.set) | (with_reducible apply IsBox.alloc) | ((with_reducible apply IsBox.below); rotate_left; (focus with_reducible assumption))))); (focus decide))))) (Nat.le_refl _)⟩, by (repeat (first | (with_reducible exact Below.refl _ _) | (with_reducible assumption) | (with_reducible apply Below.drew) | (with_reducible apply below_drewN) | ((with_reducible apply Below.alloc); rotate_left; (focus (first | omega | (simp <;> omega)))) | ((with_reducible apply Below.setCell); rotate_left; (focus (first | omega | (simp <;> omega)))) | ((with_reducible apply bstep); rotate_left; (focus with_reducible assumption)) | ((with_reducible apply below_gr); rotate_left; (focus with_reducible assumption); (focus (first | omega | (simp <;> omega))))))⟩

/-- The reference's comparison of two textures. -/
theorem sameTex (x y : DTexture) (a b : Value) (w : World) (B : Nat) (hB : B ≤ w.heap.size) (ha : Sl 4 RColor w B a x.texels) (hb : Sl 4 RColor w B b y.texels) :
    Calls Try.prog 102 #[.agg #[.int .i64 x.w, .int .i64 x.h, a], .agg #[.int .i64 y.w, .int .i64 y.h, b]] w (Ret (.bool (decide (x = y))) w) := by
  obtain ⟨A, c, rfl, _, _, hr⟩ := ha.form
  obtain ⟨A', c', rfl, _, _, hr'⟩ := hb.form
  by_cases hw : x.w = y.w
  · by_cases hh : x.h = y.h
    · by_cases hl : x.texels.length = y.texels.length
      · have h1 : (x.w != y.w) = false := by simpa using hw
        have h2 : (x.h != y.h) = false := by simpa using hh
        have h3 : ((x.texels.length : Int) != (y.texels.length : Int)) = false := by simp; omega
        have HL := hide hl; have HW := hide hw; have HH := hide hh
        clear hl hw hh
        go_enter Try.func102, Try.ntmps102
        go_wp2
        go_loopw [5] (fun i wr => ∃ k : Nat, k ≤ x.texels.length ∧ i = .int .i64 k ∧ Hid (x.texels.take k = y.texels.take k) ∧ Below w.heap.size w wr ∧
          Box wr w.heap.size #[.int .i64 x.w, .int .i64 x.h, .slice A x.texels.length c] 128 ∧ Box wr (w.heap.size + 1) #[.int .i64 y.w, .int .i64 y.h, .slice A' y.texels.length c'] 128) (fun i _ => x.texels.length - (intOf i).toNat)
        case atStart => exact ⟨0, Nat.zero_le _, rfl, hide (by simp), by (repeat (first | (with_reducible exact Below.refl _ _) | (with_reducible assumption) | (with_reducible apply Below.drew) | (with_reducible apply below_drewN) | ((with_reducible apply Below.alloc); rotate_left; (focus (first | omega | (simp <;> omega)))) | ((with_reducible apply Below.setCell); rotate_left; (focus (first | omega | (simp <;> omega)))) | ((with_reducible apply bstep); rotate_left; (focus with_reducible assumption)) | ((with_reducible apply below_gr); rotate_left; (focus with_reducible assumption); (focus (first | omega | (simp <;> omega)))))), al2a w _ _, al2b w _ _⟩
        case round =>
          obtain ⟨k, hk, rfl, HT, hbw, B1, B2⟩ := hrel
          have bc1 := B1.cell; have bc2 := B2.cell
          by_cases hlt : k < x.texels.length
          · have hlt' : k < y.texels.length := by rw [← HL.out]; exact hlt
            have ha' := Sl.stays (FlatOk.stays _ _) _ wr _ _ _ _ ha (Agree.of hbw hB) (Nat.le_refl _)
            have hb' := Sl.stays (FlatOk.stays _ _) _ wr _ _ _ _ hb (Agree.of hbw hB) (Nat.le_refl _)
            obtain ⟨b1, o1, _, rfl, hb1, _, hat1, rfl, _⟩ := ha'.elem hlt
            obtain ⟨b2, o2, _, rfl, hb2, _, hat2, rfl, _⟩ := hb'.elem hlt'
            have f := DColor.at hat1
            have g := DColor.at hat2
            have hq := neqColor x.texels[k] y.texels[k]
            obtain ⟨p, hp⟩ : ∃ p, p = x.texels[k] := ⟨_, rfl⟩
            obtain ⟨q, hq'⟩ : ∃ q, q = y.texels[k] := ⟨_, rfl⟩
            rw [← hp] at f hq
            rw [← hq'] at g hq
            have HX := hide hp
            have HY := hide hq'
            clear hp hq' ha' hb' hat1 hat2 ha hb
            by_cases hxy : p = q
            · have hd : decide (p = q) = true := by simpa using hxy
              have HE := hide hxy
              clear hxy
              go_wp2
              go_quiet (fail)
              go_wp2
              go_roundw
              case rel => exact ⟨k + 1, by omega, by go_num, hide (by rw [List.take_succ_eq_append_getElem hlt, List.take_succ_eq_append_getElem hlt', HT.out, ← HX.out, ← HY.out, HE.out]), by (repeat (first | (with_reducible exact Below.refl _ _) | (with_reducible assumption) | (with_reducible apply Below.drew) | (with_reducible apply below_drewN) | ((with_reducible apply Below.alloc); rotate_left; (focus (first | omega | (simp <;> omega)))) | ((with_reducible apply Below.setCell); rotate_left; (focus (first | omega | (simp <;> omega)))) | ((with_reducible apply bstep); rotate_left; (focus with_reducible assumption)) | ((with_reducible apply below_gr); rotate_left; (focus with_reducible assumption); (focus (first | omega | (simp <;> omega)))))), B1, B2⟩
              case measure => simp [intOf]; omega
            · have hd : decide (p = q) = false := by simpa using hxy
              have HE := hide hxy
              clear hxy
              go_wp2
              go_quiet (fail)
              go_wp2
              go_ret
              refine ⟨ret_bool (Eq.symm ?_), by (repeat (first | (with_reducible exact Below.refl _ _) | (with_reducible assumption) | (with_reducible apply Below.drew) | (with_reducible apply below_drewN) | ((with_reducible apply Below.alloc); rotate_left; (focus (first | omega | (simp <;> omega)))) | ((with_reducible apply Below.setCell); rotate_left; (focus (first | omega | (simp <;> omega)))) | ((with_reducible apply bstep); rotate_left; (focus with_reducible assumption)) | ((with_reducible apply below_gr); rotate_left; (focus with_reducible assumption); (focus (first | omega | (simp <;> omega))))))⟩
              exact decide_eq_false (fun h => HE.out (by rw [HX.out, HY.out]; simp only [h]))
          · have hk' : k = x.texels.length := by omega
            subst hk'
            go_wp2
            go_ret
            refine ⟨ret_bool (Eq.symm ?_), by (repeat (first | (with_reducible exact Below.refl _ _) | (with_reducible assumption) | (with_reducible apply Below.drew) | (with_reducible apply below_drewN) | ((with_reducible apply Below.alloc); rotate_left; (focus (first | omega | (simp <;> omega)))) | ((with_reducible apply Below.setCell); rotate_left; (focus (first | omega | (simp <;> omega)))) | ((with_reducible apply bstep); rotate_left; (focus with_reducible assumption)) | ((with_reducible apply below_gr); rotate_left; (focus with_reducible assumption); (focus (first | omega | (simp <;> omega))))))⟩
            have := HT.out
            rw [List.take_of_length_le (Nat.le_refl _), List.take_of_length_le (by rw [← HL.out]; exact Nat.le_refl _)] at this
            have e1 := HW.out; have e2 := HH.out
            cases x; cases y
            simp only [DTexture.mk.injEq] at *
            simp [this, e1, e2]
      · have h1 : (x.w != y.w) = false := by simpa using hw
        have h2 : (x.h != y.h) = false := by simpa using hh
        have h3 : ((x.texels.length : Int) != (y.texels.length : Int)) = true := by simp; omega
        have HL := hide hl
        clear hl hw hh
        go_enter Try.func102, Try.ntmps102
        go_wp2
        go_ret
        exact ⟨ret_bool (Eq.symm (decide_eq_false (fun h => HL.out (by rw [h])))), by (repeat (first | (with_reducible exact Below.refl _ _) | (with_reducible assumption) | (with_reducible apply Below.drew) | (with_reducible apply below_drewN) | ((with_reducible apply Below.alloc); rotate_left; (focus (first | omega | (simp <;> omega)))) | ((with_reducible apply Below.setCell); rotate_left; (focus (first | omega | (simp <;> omega)))) | ((with_reducible apply bstep); rotate_left; (focus with_reducible assumption)) | ((with_reducible apply below_gr); rotate_left; (focus with_reducible assumption); (focus (first | omega | (simp <;> omega))))))⟩
    · have h1 : (x.w != y.w) = false := by simpa using hw
      have h2 : (x.h != y.h) = true := by simpa using hh
      have HL := hide hh
      clear hw hh
      go_enter Try.func102, Try.ntmps102
      go_wp2
      go_ret
      exact ⟨ret_bool (Eq.symm (decide_eq_false (fun h => HL.out (by rw [h])))), by (repeat (first | (with_reducible exact Below.refl _ _) | (with_reducible assumption) | (with_reducible apply Below.drew) | (with_reducible apply below_drewN) | ((with_reducible apply Below.alloc); rotate_left; (focus (first | omega | (simp <;> omega)))) | ((with_reducible apply Below.setCell); rotate_left; (focus (first | omega | (simp <;> omega)))) | ((with_reducible apply bstep); rotate_left; (focus with_reducible assumption)) | ((with_reducible apply below_gr); rotate_left; (focus with_reducible assumption); (focus (first | omega | (simp <;> omega))))))⟩
  · have h1 : (x.w != y.w) = true := by simpa using hw
    have HL := hide hw
    clear hw
    go_enter Try.func102, Try.ntmps102
    go_wp2
    go_ret
    exact ⟨ret_bool (Eq.symm (decide_eq_false (fun h => HL.out (by rw [h])))), by (repeat (first | (with_reducible exact Below.refl _ _) | (with_reducible assumption) | (with_reducible apply Below.drew) | (with_reducible apply below_drewN) | ((with_reducible apply Below.alloc); rotate_left; (focus (first | omega | (simp <;> omega)))) | ((with_reducible apply Below.setCell); rotate_left; (focus (first | omega | (simp <;> omega)))) | ((with_reducible apply bstep); rotate_left; (focus with_reducible assumption)) | ((with_reducible apply below_gr); rotate_left; (focus with_reducible assumption); (focus (first | omega | (simp <;> omega))))))⟩

/-- A texture's cells, one by one. -/
theorem RTexture.cells {w : World} {B b o : Nat} {cs : List Value} {x : DTexture} (h : RTexture w B cs x) (ha : At w b o cs) :
    ∃ A c, (w.cell? ⟨b, o, none⟩ = some (.int .i64 x.w) ∧ w.cell? ⟨b, o + 1, none⟩ = some (.int .i64 x.h) ∧ w.cell? ⟨b, o + 2, none⟩ = some (.slice A x.texels.length c)) ∧
      cs = [.int .i64 x.w, .int .i64 x.h, .slice A x.texels.length c] ∧ Sl 4 RColor w B (.slice A x.texels.length c) x.texels ∧ I64 x.w ∧ I64 x.h ∧ x.texels.length ≤ 140737488355328 := by
  obtain ⟨a, rfl, h1, h2, h3⟩ := h
  obtain ⟨A, c, rfl, _, _, hr⟩ := h3.form
  exact ⟨A, c, ⟨ha 0 _ rfl, ha 1 _ rfl, ha 2 _ rfl⟩, rfl, h3, h1, h2, hr⟩

theorem sameTexs (a b : Value) (xs ys : List DTexture) (w : World) (B : Nat) (hB : B ≤ w.heap.size) (ha : Sl 3 RTexture w B a xs) (hb : Sl 3 RTexture w B b ys) :
    Calls Try.prog 51 #[a, b] w (Ret (.bool (decide (xs = ys))) w) := by
  obtain ⟨A, c, rfl, _, _, hr⟩ := ha.form
  obtain ⟨A', c', rfl, _, _, hr'⟩ := hb.form
  by_cases hl : xs.length = ys.length
  · have hB' : ((xs.length : Int) != (ys.length : Int)) = false := by rw [hl]; simp
    have HL := hide hl
    clear hl
    go_enter Try.func51, Try.ntmps51
    go_wp2
    go_loopw [5] (fun i wr => ∃ k : Nat, k ≤ xs.length ∧ i = .int .i64 k ∧ Hid (xs.take k = ys.take k) ∧ Below w.heap.size w wr) (fun i _ => xs.length - (intOf i).toNat)
    case atStart => exact ⟨0, Nat.zero_le _, rfl, hide (by simp), Below.refl _ _⟩
    case round =>
      obtain ⟨k, hk, rfl, HT, hbw⟩ := hrel
      have hz := hbw.size
      by_cases hlt : k < xs.length
      · have hlt' : k < ys.length := by rw [← HL.out]; exact hlt
        have ha' := Sl.stays RTexture.stays _ wr _ wr.heap.size _ _ ha (Agree.of hbw hB) (by omega)
        have hb' := Sl.stays RTexture.stays _ wr _ wr.heap.size _ _ hb (Agree.of hbw hB) (by omega)
        obtain ⟨b1, o1, cs1, rfl, hb1, _, hat1, hR1⟩ := ha'.elem hlt
        obtain ⟨b2, o2, cs2, rfl, hb2, _, hat2, hR2⟩ := hb'.elem hlt'
        obtain ⟨A1, c1, f, rfl, s1, _⟩ := hR1.cells hat1
        obtain ⟨A2, c2, g, rfl, s2, _⟩ := hR2.cells hat2
        obtain ⟨p, hp⟩ : ∃ p, p = xs[k] := ⟨_, rfl⟩
        obtain ⟨q, hq'⟩ : ∃ q, q = ys[k] := ⟨_, rfl⟩
        rw [← hp] at f s1
        rw [← hq'] at g s2
        have HX := hide hp
        have HY := hide hq'
        clear hp hq' ha' hb' hat1 hat2 hR1 hR2 ha hb
        have hext := ext_cell wr
        have hcall := fun u => Ret.ext (sameTex p q _ _ (ext wr u) wr.heap.size (ext_below wr u).size (Sl.stays (FlatOk.stays _ _) _ _ _ _ _ _ s1 (Agree.of (ext_below wr u) (Nat.le_refl _)) (Nat.le_refl _)) (Sl.stays (FlatOk.stays _ _) _ _ _ _ _ _ s2 (Agree.of (ext_below wr u) (Nat.le_refl _)) (Nat.le_refl _)))
        have HC := hide hcall
        clear hcall
        by_cases hxy : p = q
        · have hd : decide (p = q) = true := by simpa using hxy
          have HE := hide hxy
          clear hxy
          go_wp2
          refine wp_region_ext_lit (by kernel_rfl) (by kernel_rfl) ?_
          repeat (go_big_quiet_step ((go_at_call 102; exact HC.out _)))
          refine wpQuiet_nil ?_
          intro _ hw'
          obtain ⟨uq, hw''⟩ := hw'
          subst hw''
          have hbx := ext_below wr uq
          go_wp2
          go_roundw
          case rel => exact ⟨k + 1, by omega, by go_num, hide (by rw [List.take_succ_eq_append_getElem hlt, List.take_succ_eq_append_getElem hlt', HT.out, ← HX.out, ← HY.out, HE.out]), by (repeat (first | (with_reducible exact Below.refl _ _) | (with_reducible assumption) | (with_reducible apply Below.drew) | (with_reducible apply below_drewN) | ((with_reducible apply Below.alloc); rotate_left; (focus (first | omega | (simp <;> omega)))) | ((with_reducible apply Below.setCell); rotate_left; (focus (first | omega | (simp <;> omega)))) | ((with_reducible apply bstep); rotate_left; (focus with_reducible assumption)) | ((with_reducible apply below_gr); rotate_left; (focus with_reducible assumption); (focus (first | omega | (simp <;> omega))))))⟩
          case measure => simp [intOf]; omega
        · have hd : decide (p = q) = false := by simpa using hxy
          have HE := hide hxy
          clear hxy
          go_wp2
          refine wp_region_ext_lit (by kernel_rfl) (by kernel_rfl) ?_
          repeat (go_big_quiet_step ((go_at_call 102; exact HC.out _)))
          refine wpQuiet_nil ?_
          intro _ hw'
          obtain ⟨uq, hw''⟩ := hw'
          subst hw''
          have hbx := ext_below wr uq
          go_wp2
          go_ret
          refine ⟨ret_bool (Eq.symm ?_), by (repeat (first | (with_reducible exact Below.refl _ _) | (with_reducible assumption) | (with_reducible apply Below.drew) | (with_reducible apply below_drewN) | ((with_reducible apply Below.alloc); rotate_left; (focus (first | omega | (simp <;> omega)))) | ((with_reducible apply Below.setCell); rotate_left; (focus (first | omega | (simp <;> omega)))) | ((with_reducible apply bstep); rotate_left; (focus with_reducible assumption)) | ((with_reducible apply below_gr); rotate_left; (focus with_reducible assumption); (focus (first | omega | (simp <;> omega))))))⟩
          exact decide_eq_false (fun h => HE.out (by rw [HX.out, HY.out]; simp only [h]))
      · have hk' : k = xs.length := by omega
        subst hk'
        go_wp2
        go_ret
        refine ⟨ret_bool (Eq.symm ?_), by (repeat (first | (with_reducible exact Below.refl _ _) | (with_reducible assumption) | (with_reducible apply Below.drew) | (with_reducible apply below_drewN) | ((with_reducible apply Below.alloc); rotate_left; (focus (first | omega | (simp <;> omega)))) | ((with_reducible apply Below.setCell); rotate_left; (focus (first | omega | (simp <;> omega)))) | ((with_reducible apply bstep); rotate_left; (focus with_reducible assumption)) | ((with_reducible apply below_gr); rotate_left; (focus with_reducible assumption); (focus (first | omega | (simp <;> omega))))))⟩
        have := HT.out
        rw [List.take_of_length_le (Nat.le_refl _), List.take_of_length_le (by rw [← HL.out]; exact Nat.le_refl _)] at this
        exact decide_eq_true this
  · have hB' : ((xs.length : Int) != (ys.length : Int)) = true := by simp; omega
    have HL := hide hl
    clear hl
    go_enter Try.func51, Try.ntmps51
    go_wp2
    go_ret
    exact ⟨ret_bool (Eq.symm (decide_eq_false (fun h => HL.out (by rw [h])))), Below.refl _ _⟩

/-! ### Whether some are great -/
def TexSum (l : List DTexture) : Nat := (l.map fun x => x.texels.length).sum
/-- What is known where a call says of textures that they are not great. -/
def GreatTexs (l : List DTexture) (w : World) (e : Ending) (w' : World) : Prop := ∃ b, e = .returned (.bool b) ∧ (b = false → l.length ≤ 40 ∧ TexSum l ≤ 20000) ∧ Below w.heap.size w w'

theorem great_texs (v : Value) (l : List DTexture) (w : World) (B : Nat) (hB : B ≤ w.heap.size) (h : Sl 3 RTexture w B v l) : Calls Try.prog 9 #[v] w (GreatTexs l w) := by
  obtain ⟨A, c, rfl, _, _, hr⟩ := h.form
  go_enter Try.func9, Try.ntmps9
  go_wp2
  go_loopw [3, 4] (fun n i wr => ∃ k m : Nat, k ≤ l.length ∧ k ≤ 100 ∧ i = .int .i64 k ∧ n = .int .i64 m ∧ m ≤ 100000 * k ∧ Hid (m ≤ 20000 → m = TexSum (l.take k)) ∧ Below w.heap.size w wr) (fun _ i _ => 100 - (intOf i).toNat)
  case atStart => exact ⟨0, 0, Nat.zero_le _, by omega, rfl, rfl, by omega, hide (fun _ => by simp [TexSum]), Below.refl _ _⟩
  case round =>
    obtain ⟨k, m, hk, hk2, rfl, rfl, hm, HM, hbw⟩ := hrel
    by_cases hlt : k < l.length
    · by_cases h100 : k < 100
      · have h' := Sl.stays RTexture.stays _ wr _ _ _ _ h (Agree.of hbw hB) (Nat.le_refl _)
        obtain ⟨b1, o1, cs1, rfl, hb1, _, hat1, hR1⟩ := h'.elem hlt
        obtain ⟨A1, c1, f, rfl, s1, _, _, r1⟩ := hR1.cells hat1
        have hs : TexSum (l.take (k + 1)) = TexSum (l.take k) + l[k].texels.length := by
          rw [List.take_succ_eq_append_getElem hlt]; simp only [TexSum, List.map_append, List.sum_append, List.map_cons, List.map_nil, List.sum_cons, List.sum_nil]; omega
        obtain ⟨n, hn⟩ : ∃ n, n = l[k].texels.length := ⟨_, rfl⟩
        rw [← hn] at f hs r1
        have HS := hide hs
        clear hn hs h' hat1 hR1 h s1
        by_cases hbig : n < 100000
        · go_wp2
          go_roundw
          case rel => exact ⟨k + 1, m + n, by omega, by omega, by go_num, by go_num, by omega, hide (fun hle => by rw [HS.out, ← HM.out (by omega)]), by (repeat (first | (with_reducible exact Below.refl _ _) | (with_reducible assumption) | (with_reducible apply Below.drew) | (with_reducible apply below_drewN) | ((with_reducible apply Below.alloc); rotate_left; (focus (first | omega | (simp <;> omega)))) | ((with_reducible apply Below.setCell); rotate_left; (focus (first | omega | (simp <;> omega)))) | ((with_reducible apply bstep); rotate_left; (focus with_reducible assumption)) | ((with_reducible apply below_gr); rotate_left; (focus with_reducible assumption); (focus (first | omega | (simp <;> omega))))))⟩
          case measure => simp [intOf]; omega
        · go_wp2
          go_roundw
          case rel => exact ⟨k + 1, m + 100000, by omega, by omega, by go_num, by go_num, by omega, hide (fun hle => by omega), by (repeat (first | (with_reducible exact Below.refl _ _) | (with_reducible assumption) | (with_reducible apply Below.drew) | (with_reducible apply below_drewN) | ((with_reducible apply Below.alloc); rotate_left; (focus (first | omega | (simp <;> omega)))) | ((with_reducible apply Below.setCell); rotate_left; (focus (first | omega | (simp <;> omega)))) | ((with_reducible apply bstep); rotate_left; (focus with_reducible assumption)) | ((with_reducible apply below_gr); rotate_left; (focus with_reducible assumption); (focus (first | omega | (simp <;> omega))))))⟩
          case measure => simp [intOf]; omega
      · have hl40 : 40 < l.length := by omega
        go_wp2
        go_ret
        exact ⟨_, rfl, by first | (simp; done) | (simp; omega), by (repeat (first | (with_reducible exact Below.refl _ _) | (with_reducible assumption) | (with_reducible apply Below.drew) | (with_reducible apply below_drewN) | ((with_reducible apply Below.alloc); rotate_left; (focus (first | omega | (simp <;> omega)))) | ((with_reducible apply Below.setCell); rotate_left; (focus (first | omega | (simp <;> omega)))) | ((with_reducible apply bstep); rotate_left; (focus with_reducible assumption)) | ((with_reducible apply below_gr); rotate_left; (focus with_reducible assumption); (focus (first | omega | (simp <;> omega))))))⟩
    · have hk' : k = l.length := by omega
      by_cases h40 : 40 < l.length
      · go_wp2
        go_ret
        exact ⟨_, rfl, by first | (simp; done) | (simp; omega), by (repeat (first | (with_reducible exact Below.refl _ _) | (with_reducible assumption) | (with_reducible apply Below.drew) | (with_reducible apply below_drewN) | ((with_reducible apply Below.alloc); rotate_left; (focus (first | omega | (simp <;> omega)))) | ((with_reducible apply Below.setCell); rotate_left; (focus (first | omega | (simp <;> omega)))) | ((with_reducible apply bstep); rotate_left; (focus with_reducible assumption)) | ((with_reducible apply below_gr); rotate_left; (focus with_reducible assumption); (focus (first | omega | (simp <;> omega))))))⟩
      · by_cases hm2 : 20000 < m
        · go_wp2
          go_ret
          exact ⟨_, rfl, by first | (simp; done) | (simp; omega), by (repeat (first | (with_reducible exact Below.refl _ _) | (with_reducible assumption) | (with_reducible apply Below.drew) | (with_reducible apply below_drewN) | ((with_reducible apply Below.alloc); rotate_left; (focus (first | omega | (simp <;> omega)))) | ((with_reducible apply Below.setCell); rotate_left; (focus (first | omega | (simp <;> omega)))) | ((with_reducible apply bstep); rotate_left; (focus with_reducible assumption)) | ((with_reducible apply below_gr); rotate_left; (focus with_reducible assumption); (focus (first | omega | (simp <;> omega))))))⟩
        · have HK := hide hk'
          clear hk'
          go_wp2
          go_ret
          refine ⟨_, rfl, fun _ => ⟨by omega, ?_⟩, by (repeat (first | (with_reducible exact Below.refl _ _) | (with_reducible assumption) | (with_reducible apply Below.drew) | (with_reducible apply below_drewN) | ((with_reducible apply Below.alloc); rotate_left; (focus (first | omega | (simp <;> omega)))) | ((with_reducible apply Below.setCell); rotate_left; (focus (first | omega | (simp <;> omega)))) | ((with_reducible apply bstep); rotate_left; (focus with_reducible assumption)) | ((with_reducible apply below_gr); rotate_left; (focus with_reducible assumption); (focus (first | omega | (simp <;> omega))))))⟩
          have := HM.out (by omega)
          rw [HK.out, List.take_of_length_le (Nat.le_refl _)] at this
          omega

end Go.Proofs.Ytbflmipddiaiaaa
