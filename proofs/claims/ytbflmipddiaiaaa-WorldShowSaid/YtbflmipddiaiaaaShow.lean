/-
  What is drawn: shows, and the reference's comparison of two.
-/
import Derived.Test.YtbflmipddiaiaaaCont
namespace Go.Proofs.Ytbflmipddiaiaaa
open Go.RowKit

structure DShow where
  items : List DItem
  textures : List DTexture
deriving DecidableEq, Inhabited

set_option maxRecDepth 100000 in
set_option maxHeartbeats 2000000 in
theorem sameShow (x y : DShow) (a b a' b' : Value) (w : World) (B : Nat) (hB : B ≤ w.heap.size) (ha : Sl 18 RItem w B a x.items) (hb : Sl 3 RTexture w B b x.textures) (ha' : Sl 18 RItem w B a' y.items) (hb' : Sl 3 RTexture w B b' y.textures) :
    Calls Try.prog 14 #[.agg #[a, b], .agg #[a', b']] w (Ret (.bool (decide (x = y))) w) := by
  obtain ⟨A, c, rfl, _, _, hr⟩ := ha.form
  obtain ⟨A', c', rfl, _, _, _⟩ := hb.form
  obtain ⟨D, d, rfl, _, _, hr'⟩ := ha'.form
  obtain ⟨D', d', rfl, _, _, _⟩ := hb'.form
  have HA := hide (fun W (h : Below w.heap.size w W) => Sl.stays RItem.stays _ W _ W.heap.size _ _ ha (Agree.of h hB) (Nat.le_trans hB h.size))
  have HB := hide (fun W (h : Below w.heap.size w W) => Sl.stays RTexture.stays _ W _ W.heap.size _ _ hb (Agree.of h hB) (Nat.le_trans hB h.size))
  have HA' := hide (fun W (h : Below w.heap.size w W) => Sl.stays RItem.stays _ W _ W.heap.size _ _ ha' (Agree.of h hB) (Nat.le_trans hB h.size))
  have HB' := hide (fun W (h : Below w.heap.size w W) => Sl.stays RTexture.stays _ W _ W.heap.size _ _ hb' (Agree.of h hB) (Nat.le_trans hB h.size))
  clear ha hb ha' hb'
  by_cases hl : x.items.length = y.items.length
  · have hd1 : ((x.items.length : Int) != (y.items.length : Int)) = false := by rw [hl]; simp
    have HL := hide hl
    clear hl
    go_enter Try.func14, Try.ntmps14
    go_wp2_with (first | (go_at_call 51; refine Calls.mono (sameTexs _ _ x.textures y.textures _ _ (Nat.le_refl _) (HB.out _ (al2_below _ _ _)) (HB'.out _ (al2_below _ _ _))) ?_; rintro _ w1 ⟨rfl, n1⟩; have h1 : Below w.heap.size w w1 := bstep (al2_below _ _ _) n1; have B1 := Box.of_below n1 (al2a w _ _); have B2 := Box.of_below n1 (al2b w _ _); by_cases hc : x.textures = y.textures; rotate_left; (focus (have d0 : decide (x.textures = y.textures) = false := (by simpa using hc); have HN := hide hc; clear hc; go_wp2; go_ret; exact ⟨ret_bool (Eq.symm (decide_eq_false (fun h => HN.out (by rw [h])))), h1⟩)); have d0 : decide (x.textures = y.textures) = true := (by simpa using hc); have HC := hide hc; clear hc))
    go_loopw [5] (fun i wr => ∃ k : Nat, k ≤ x.items.length ∧ i = .int .i64 k ∧ Hid (x.items.take k = y.items.take k) ∧ Below w.heap.size w wr ∧
      Box wr w.heap.size #[.slice A x.items.length c, .slice A' x.textures.length c'] 33 ∧ Box wr (w.heap.size + 1) #[.slice D y.items.length d, .slice D' y.textures.length d'] 33) (fun i _ => x.items.length - (intOf i).toNat)
    case atStart => exact ⟨0, Nat.zero_le _, rfl, hide (by simp), h1, B1, B2⟩
    case round =>
      clear B1 B2 h1 n1
      obtain ⟨k, hk, rfl, HT, hbw, B1, B2⟩ := hrel
      have bc1 := B1.cell
      have bc2 := B2.cell
      have z1 := B1.lt
      have z2 := B2.lt
      by_cases hlt : k < x.items.length
      · have hlt' : k < y.items.length := by rw [← HL.out]; exact hlt
        obtain ⟨b1, o1, cs1, rfl, hb1, l1, hat1, hR1⟩ := (HA.out wr hbw).elem hlt
        obtain ⟨b2, o2, cs2, rfl, hb2, l2, hat2, hR2⟩ := (HA'.out wr hbw).elem hlt'
        obtain ⟨p, hp⟩ : ∃ p, p = x.items[k] := ⟨_, rfl⟩
        obtain ⟨q, hq'⟩ : ∃ q, q = y.items[k] := ⟨_, rfl⟩
        rw [← hp] at hR1
        rw [← hq'] at hR2
        have HX := hide hp
        have HY := hide hq'
        have L1 := hide (infItem.trans (congrArg some l1.symm))
        have L2 := hide (infItem.trans (congrArg some l2.symm))
        have HI1 : Hid (∀ w', (∃ u, w' = ext wr u) → At w' b1 (o1 + k * 18) cs1) := hide (fun w' hw => by obtain ⟨u, rfl⟩ := hw; exact hat1.below (ext_below wr u) hb1)
        have HI2 : Hid (∀ w', (∃ u, w' = ext wr u) → At w' b2 (o2 + k * 18) cs2) := hide (fun w' hw => by obtain ⟨u, rfl⟩ := hw; exact hat2.below (ext_below wr u) hb2)
        have hext := ext_cell wr
        have HCC := hide (fun u => Ret.ext (sameItem' p q _ _ (ext wr u) wr.heap.size (ext_below wr u).size (RItem.stays _ _ _ _ _ _ hR1 (Agree.of (ext_below wr u) (Nat.le_refl _)) (Nat.le_refl _)) (RItem.stays _ _ _ _ _ _ hR2 (Agree.of (ext_below wr u) (Nat.le_refl _)) (Nat.le_refl _))))
        clear hp hq' hat1 hat2 l1 l2 hR1 hR2
        by_cases hpq : p = q
        · have hd : decide (p = q) = true := by simpa using hpq
          have HE := hide hpq
          clear hpq
          go_wp2
          refine wp_region_ext_lit (by kernel_rfl) (by kernel_rfl) ?_
          repeat (first
            | (go_big_quiet_want; refine quiet_load_at 53 (.tmp 31) rfl b1 (o1 + k * 18) rfl cs1 _ (fun w' hw => HI1.out w' hw) Try.underlying53 rfl L1.out ?_; go_simp; go_big_quiet_on)
            | (go_big_quiet_want; refine quiet_load_at 53 (.tmp 36) rfl b2 (o2 + k * 18) rfl cs2 _ (fun w' hw => HI2.out w' hw) Try.underlying53 rfl L2.out ?_; go_simp; go_big_quiet_on)
            | go_big_quiet_step ((go_at_call 52; exact HCC.out _)))
          refine wpQuiet_nil ?_
          intro _ hw'
          obtain ⟨uq, hw''⟩ := hw'
          subst hw''
          have hbx := ext_below wr uq
          go_wp2
          go_roundw
          case rel => exact ⟨k + 1, by omega, by go_num, hide (by rw [List.take_succ_eq_append_getElem hlt, List.take_succ_eq_append_getElem hlt', HT.out, ← HX.out, ← HY.out, HE.out]), by (repeat (first | (with_reducible exact Below.refl _ _) | (with_reducible assumption) | (with_reducible apply Below.drew) | (with_reducible apply below_drewN) | ((with_reducible apply Below.alloc); rotate_left; (focus (first | omega | (simp <;> omega)))) | ((with_reducible apply Below.setCell); rotate_left; (focus (first | omega | (simp <;> omega)))) | ((with_reducible apply bstep); rotate_left; (focus with_reducible assumption)) | ((with_reducible apply below_gr); rotate_left; (focus with_reducible assumption); (focus (first | omega | (simp <;> omega)))))), Box.of_below hbx B1, Box.of_below hbx B2⟩
          case measure => simp [intOf]; omega
        · have hd : decide (p = q) = false := by simpa using hpq
          have HE := hide hpq
          clear hpq
          go_wp2
          refine wp_region_ext_lit (by kernel_rfl) (by kernel_rfl) ?_
          repeat (first
            | (go_big_quiet_want; refine quiet_load_at 53 (.tmp 31) rfl b1 (o1 + k * 18) rfl cs1 _ (fun w' hw => HI1.out w' hw) Try.underlying53 rfl L1.out ?_; go_simp; go_big_quiet_on)
            | (go_big_quiet_want; refine quiet_load_at 53 (.tmp 36) rfl b2 (o2 + k * 18) rfl cs2 _ (fun w' hw => HI2.out w' hw) Try.underlying53 rfl L2.out ?_; go_simp; go_big_quiet_on)
            | go_big_quiet_step ((go_at_call 52; exact HCC.out _)))
          refine wpQuiet_nil ?_
          intro _ hw'
          obtain ⟨uq, hw''⟩ := hw'
          subst hw''
          have hbx := ext_below wr uq
          go_wp2
          go_ret
          refine ⟨ret_bool (Eq.symm (decide_eq_false (fun h => HE.out (by rw [HX.out, HY.out]; simp only [h])))), by (repeat (first | (with_reducible exact Below.refl _ _) | (with_reducible assumption) | (with_reducible apply Below.drew) | (with_reducible apply below_drewN) | ((with_reducible apply Below.alloc); rotate_left; (focus (first | omega | (simp <;> omega)))) | ((with_reducible apply Below.setCell); rotate_left; (focus (first | omega | (simp <;> omega)))) | ((with_reducible apply bstep); rotate_left; (focus with_reducible assumption)) | ((with_reducible apply below_gr); rotate_left; (focus with_reducible assumption); (focus (first | omega | (simp <;> omega))))))⟩
      · have hk' : k = x.items.length := by omega
        have HK := hide hk'
        clear hk'
        go_wp2
        go_ret
        refine ⟨ret_bool (Eq.symm (decide_eq_true ?_)), by (repeat (first | (with_reducible exact Below.refl _ _) | (with_reducible assumption) | (with_reducible apply Below.drew) | (with_reducible apply below_drewN) | ((with_reducible apply Below.alloc); rotate_left; (focus (first | omega | (simp <;> omega)))) | ((with_reducible apply Below.setCell); rotate_left; (focus (first | omega | (simp <;> omega)))) | ((with_reducible apply bstep); rotate_left; (focus with_reducible assumption)) | ((with_reducible apply below_gr); rotate_left; (focus with_reducible assumption); (focus (first | omega | (simp <;> omega))))))⟩
        have := HT.out
        rw [HK.out, List.take_of_length_le (Nat.le_refl _), List.take_of_length_le (by rw [← HL.out]; exact Nat.le_refl _)] at this
        have e2 := HC.out
        cases x; cases y
        simp only [DShow.mk.injEq] at *
        exact ⟨this, e2⟩
  · have hd1 : ((x.items.length : Int) != (y.items.length : Int)) = true := by simp; omega
    have HN := hide hl
    clear hl
    go_enter Try.func14, Try.ntmps14
    go_wp2
    go_ret
    exact ⟨ret_bool (Eq.symm (decide_eq_false (fun h => HN.out (by rw [h])))), al2_below _ _ _⟩

end Go.Proofs.Ytbflmipddiaiaaa
