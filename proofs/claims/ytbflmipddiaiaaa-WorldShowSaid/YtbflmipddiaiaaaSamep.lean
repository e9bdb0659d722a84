/-
  The program's comparison of lists of places: slices.EqualFunc, world.Same.
-/
import Derived.Test.YtbflmipddiaiaaaSamew
namespace Go.Proofs.Ytbflmipddiaiaaa
open Go.RowKit

theorem RPlace.len {w : World} {B : Nat} {cs : List Value} {x : DPlace} (h : RPlace w B cs x) : cs.length = 20 := by
  obtain ⟨ics, g, rfl, h, _⟩ := h
  simp [h.len]
theorem RPlace.one {w : World} {B : Nat} {cs : List Value} {x : DPlace} (h : RPlace w B cs x) : cs.all (·.oneCell') = true := by
  obtain ⟨ics, g, rfl, ⟨a, b, c, rfl, h1, h2, h3, _⟩, h4⟩ := h
  obtain ⟨_, _, rfl, _⟩ := h1.form
  obtain ⟨_, _, rfl, _⟩ := h2.form
  obtain ⟨_, _, rfl, _⟩ := h3.form
  obtain ⟨_, _, rfl, _⟩ := h4.form
  simp [Value.oneCell', DLook.enc, DColor.enc, DBox.enc, DVec.enc]
/-- A place at its place, its cells as one list. -/
theorem Sl.place' {w : World} {B n c : Nat} {A : Option Addr} {xs : List DPlace} (h : Sl 20 RPlace w B (.slice A n c) xs) {k : Nat} (hk : k < xs.length) :
    ∃ b o cs, A = some ⟨b, o, none⟩ ∧ b < B ∧ cs.length = 20 ∧ At w b (o + k * 20) cs ∧ RPlace w B cs xs[k] ∧ cs.all (·.oneCell') = true := by
  obtain ⟨b, o, cs, rfl, hb, hl, ha, hR⟩ := h.elem hk
  exact ⟨b, o, cs, rfl, hb, hl, ha, hR, hR.one⟩
theorem infPlace : (Try.prog.info? 116).map (·.size) = some 20 := by kernel_rfl

set_option maxRecDepth 100000 in
set_option maxHeartbeats 2000000 in
theorem equalFunc (a b : Value) (xs ys : List DPlace) (w : World) (B : Nat) (hB : B ≤ w.heap.size) (ha : Sl 20 RPlace w B a xs) (hb : Sl 20 RPlace w B b ys) :
    Calls Try.prog 56 #[a, b, .func (.func 57) #[] #[]] w (Ret (.bool (decide (xs = ys))) w) := by
  obtain ⟨A, c, rfl, _, _, hr⟩ := ha.form
  obtain ⟨A', c', rfl, _, _, hr'⟩ := hb.form
  by_cases hl : xs.length = ys.length
  · have hB' : ((xs.length : Int) != (ys.length : Int)) = false := by rw [hl]; simp
    have HL := hide hl
    clear hl
    go_enter Try.func56, Try.ntmps56
    go_wp2
    go_loopw [17] (fun i wr => ∃ k : Nat, k ≤ xs.length ∧ i = .int .i64 k ∧ Hid (xs.take k = ys.take k) ∧ Below w.heap.size w wr) (fun i _ => xs.length - (intOf i).toNat)
    case atStart => exact ⟨0, Nat.zero_le _, rfl, hide (by simp), Below.refl _ _⟩
    case round =>
      obtain ⟨k, hk, rfl, HT, hbw⟩ := hrel
      by_cases hlt : k < xs.length
      · have hlt' : k < ys.length := by rw [← HL.out]; exact hlt
        obtain ⟨b1, o1, cs1, rfl, hb1, l1, hat1, hR1, one1⟩ := (Sl.stays RPlace.stays _ wr _ wr.heap.size _ _ ha (Agree.of hbw hB) (Nat.le_trans hB hbw.size)).place' hlt
        obtain ⟨b2, o2, cs2, rfl, hb2, l2, hat2, hR2, one2⟩ := (Sl.stays RPlace.stays _ wr _ wr.heap.size _ _ hb (Agree.of hbw hB) (Nat.le_trans hB hbw.size)).place' hlt'
        obtain ⟨p, hp⟩ : ∃ p, p = xs[k] := ⟨_, rfl⟩
        obtain ⟨q, hq'⟩ : ∃ q, q = ys[k] := ⟨_, rfl⟩
        rw [← hp] at hR1
        rw [← hq'] at hR2
        have HX := hide hp
        have HY := hide hq'
        have HA := hide ha
        have HB := hide hb
        have L1 := hide (infPlace.trans (congrArg some l1.symm))
        have L2 := hide (infPlace.trans (congrArg some l2.symm))
        have O1 := hide one1
        have O2 := hide one2
        have T1 := hide hat1
        have T2 := hide hat2
        have R1 := hide hR1
        have R2 := hide hR2
        have N1 := hide l1
        have N2 := hide l2
        clear hp hq' ha hb one1 one2 hat1 hat2 hR1 hR2 l1 l2
        go_wp2_with (first
          | (refine wpList_load_at rfl 116 (.tmp 20) rfl b1 (o1 + k * 20) rfl cs1 _ T1.out Try.underlying116 rfl L1.out ?_)
          | (refine wpList_store_list rfl 116 (.tmp 8) (.tmp 21) rfl wr.heap.size rfl _ cs1 _ rfl (al1 wr _) N1.out.symm L1.out O1.out ?_; intro w1 B1 g1; have n1 : Below wr.heap.size wr w1 := below_gr (al1_below wr _) g1 (Nat.le_refl _))
          | (refine wpList_load_at rfl 116 (.tmp 24) rfl b2 (o2 + k * 20) rfl cs2 _ (T2.out.below n1 hb2) Try.underlying116 rfl L2.out ?_)
          | (refine wpList_store_list rfl 116 (.tmp 9) (.tmp 25) rfl w1.heap.size rfl _ cs2 _ rfl (al1 w1 _) N2.out.symm L2.out O2.out ?_; intro w2 B2 g2; have hne := B1.lt; have B1' := Box.of_grown g2 (B1.alloc _) (ne_opt (by omega)); have n2 : Below wr.heap.size wr w2 := below_gr (n1.alloc n1.size _) g2 n1.size; have hS := samePlace p q cs1 cs2 w2 wr.heap.size n2.size (RPlace.stays _ _ _ _ _ _ R1.out (Agree.of n2 (Nat.le_refl _)) (Nat.le_refl _)) (RPlace.stays _ _ _ _ _ _ R2.out (Agree.of n2 (Nat.le_refl _)) (Nat.le_refl _)))
          | (refine wpList_load_at rfl 116 (.tmp 8) rfl wr.heap.size 0 rfl cs1 _ B1'.at Try.underlying116 rfl L1.out ?_)
          | (refine wpList_load_at rfl 116 (.tmp 9) rfl w1.heap.size 0 rfl cs2 _ B2.at Try.underlying116 rfl L2.out ?_)
          | (go_at_call 57; refine Calls.mono hS ?_; rintro _ w3 ⟨rfl, n3⟩; have h3 : Below w.heap.size w w3 := bstep (bstep hbw n2) n3; by_cases hxy : p = q; rotate_left; (focus (have d0 : decide (p = q) = false := (by simpa using hxy); have HE := hide hxy; clear hxy; go_wp2; go_ret; exact ⟨ret_bool (Eq.symm (decide_eq_false (fun h => HE.out (by rw [HX.out, HY.out]; simp only [h])))), h3⟩)); have d0 : decide (p = q) = true := (by simpa using hxy); have HE := hide hxy; clear hxy))
        go_roundw
        case rel => exact ⟨k + 1, by omega, by go_num, hide (by rw [List.take_succ_eq_append_getElem hlt, List.take_succ_eq_append_getElem hlt', HT.out, ← HX.out, ← HY.out, HE.out]), h3⟩
        case measure => simp [intOf]; omega
      · have hk' : k = xs.length := by omega
        subst hk'
        go_wp2
        go_ret
        refine ⟨ret_bool (Eq.symm ?_), by (repeat (first | (with_reducible exact Below.refl _ _) | (with_reducible assumption) | (with_reducible apply Below.drew) | (with_reducible apply below_drewN) | ((with_reducible apply Below.alloc); rotate_left; (focus (first | omega | (simp <;> omega)))) | ((with_reducible apply Below.setCell); rotate_left; (focus (first | omega | (simp <;> omega)))) | ((with_reducible apply bstep); rotate_left; (focus with_reducible assumption)) | ((with_reducible apply below_gr); rotate_left; (focus with_reducible assumption); (focus (first | omega | (simp <;> omega))))))⟩
        have := HT.out
        rw [List.take_of_length_le (Nat.le_refl _), List.take_of_length_le (by rw [← HL.out]; exact Nat.le_refl _)] at this
        exact decide_eq_true this
  · have hB' : ((xs.length : Int) != (ys.length : Int)) = true := by simp; omega
    have HL := hide hl
    clear hl
    go_enter Try.func56, Try.ntmps56
    go_wp2
    go_ret
    exact ⟨ret_bool (Eq.symm (decide_eq_false (fun h => HL.out (by rw [h])))), Below.refl _ _⟩

theorem samePlaces (a b : Value) (xs ys : List DPlace) (w : World) (B : Nat) (hB : B ≤ w.heap.size) (ha : Sl 20 RPlace w B a xs) (hb : Sl 20 RPlace w B b ys) :
    Calls Try.prog 18 #[a, b] w (Ret (.bool (decide (xs = ys))) w) := by
  have H := hide (equalFunc a b xs ys w B hB ha hb)
  clear ha hb
  go_enter Try.func18, Try.ntmps18
  go_wp2_with (go_at_call 56; refine Calls.mono H.out ?_; rintro _ w1 ⟨rfl, n1⟩)
  go_ret
  exact ⟨rfl, n1⟩

end Go.Proofs.Ytbflmipddiaiaaa
