/-
  Places compared.
-/
import Derived.Test.YtbflmipddiaiaaaSame
import Derived.Test.YtbflmipddiaiaaaLoad
namespace Go.Proofs.Ytbflmipddiaiaaa
open Go.RowKit

/-- An item's 18 cells. -/
theorem RItem.len {w : World} {B : Nat} {cs : List Value} {x : DItem} (h : RItem w B cs x) : cs.length = 18 := by
  obtain ⟨a, b, c, rfl, _⟩ := h
  rfl
theorem infItem : (Try.prog.info? 53).map (·.size) = some 18 := by kernel_rfl

theorem sameItem' (x y : DItem) (cs ds : List Value) (w : World) (B : Nat) (hB : B ≤ w.heap.size) (hx : RItem w B cs x) (hy : RItem w B ds y) :
    Calls Try.prog 52 #[.agg cs.toArray, .agg ds.toArray] w (Ret (.bool (decide (x = y))) w) := by
  obtain ⟨a, b, c, rfl, h1, h2, h3, _⟩ := hx
  obtain ⟨a', b', c', rfl, k1, k2, k3, _⟩ := hy
  exact sameItem x y a b c a' b' c' w B hB h1 h2 h3 k1 k2 k3

/-- A place at its place. -/
theorem Sl.place {w : World} {B n c : Nat} {A : Option Addr} {xs : List DPlace} (h : Sl 20 RPlace w B (.slice A n c) xs) {k : Nat} (hk : k < xs.length) :
    ∃ b o ics Ag cg, A = some ⟨b, o, none⟩ ∧ b < B ∧ ics.length = 18 ∧ At w b (o + k * 20) ics ∧
      (w.cell? ⟨b, o + k * 20 + 18, none⟩ = some (.bool xs[k].on) ∧ w.cell? ⟨b, o + k * 20 + 19, none⟩ = some (.slice Ag xs[k].gates.length cg)) ∧
      RItem w B ics xs[k].item ∧ Sl 5 RGate w B (.slice Ag xs[k].gates.length cg) xs[k].gates := by
  obtain ⟨b, o, cs, rfl, hb, _, ha, ics, g, rfl, h1, h2⟩ := h.elem hk
  obtain ⟨Ag, cg, rfl, _⟩ := h2.form
  have hl := h1.len
  refine ⟨b, o, ics, Ag, cg, rfl, hb, hl, ha.append.1, ⟨?_, ?_⟩, h1, h2⟩
  · have := ha.append.2 0 _ rfl
    rw [hl] at this; exact this
  · have := ha.append.2 1 _ rfl
    rw [hl] at this; exact this

set_option maxRecDepth 100000 in
set_option maxHeartbeats 2000000 in
theorem samePlaces_ref (a b : Value) (xs ys : List DPlace) (w : World) (B : Nat) (hB : B ≤ w.heap.size) (ha : Sl 20 RPlace w B a xs) (hb : Sl 20 RPlace w B b ys) :
    Calls Try.prog 17 #[a, b] w (Ret (.bool (decide (xs = ys))) w) := by
  obtain ⟨A, c, rfl, _, _, hr⟩ := ha.form
  obtain ⟨A', c', rfl, _, _, hr'⟩ := hb.form
  have HA := hide (fun W (h : Below w.heap.size w W) => Sl.stays RPlace.stays _ W _ W.heap.size _ _ ha (Agree.of h hB) (Nat.le_trans hB h.size))
  have HB := hide (fun W (h : Below w.heap.size w W) => Sl.stays RPlace.stays _ W _ W.heap.size _ _ hb (Agree.of h hB) (Nat.le_trans hB h.size))
  clear ha hb
  by_cases hl : xs.length = ys.length
  · have hB' : ((xs.length : Int) != (ys.length : Int)) = false := by rw [hl]; simp
    have HL := hide hl
    clear hl
    go_enter Try.func17, Try.ntmps17
    go_wp2
    go_loopw [5] (fun i wr => ∃ k : Nat, k ≤ xs.length ∧ i = .int .i64 k ∧ Hid (xs.take k = ys.take k) ∧ Below w.heap.size w wr) (fun i _ => xs.length - (intOf i).toNat)
    case atStart => exact ⟨0, Nat.zero_le _, rfl, hide (by simp), Below.refl _ _⟩
    case round =>
      obtain ⟨k, hk, rfl, HT, hbw⟩ := hrel
      by_cases hlt : k < xs.length
      · have hlt' : k < ys.length := by rw [← HL.out]; exact hlt
        obtain ⟨b1, o1, cs1, A4, c4, rfl, hb1, l1, hat1, f, s1, s4⟩ := (HA.out wr hbw).place hlt
        obtain ⟨b2, o2, cs2, D4, d4, rfl, hb2, l2, hat2, g, t1, t4⟩ := (HB.out wr hbw).place hlt'
        obtain ⟨p, hp⟩ : ∃ p, p = xs[k] := ⟨_, rfl⟩
        obtain ⟨q, hq'⟩ : ∃ q, q = ys[k] := ⟨_, rfl⟩
        rw [← hp] at f s1 s4
        rw [← hq'] at g t1 t4
        have HX := hide hp
        have HY := hide hq'
        have HG1 : Hid (∀ W, Below w.heap.size w W → ∃ Ag cg, W.cell? ⟨b1, o1 + k * 20 + 19, none⟩ = some (.slice Ag p.gates.length cg) ∧ Sl 5 RGate W W.heap.size (.slice Ag p.gates.length cg) p.gates) := by
          refine hide (fun W hW => ?_)
          obtain ⟨b', o', _, Ag, cg, e, _, _, _, ⟨_, f'⟩, _, s'⟩ := (HA.out W hW).place hlt
          cases e
          rw [← HX.out] at f' s'
          exact ⟨Ag, cg, f', s'⟩
        have HG2 : Hid (∀ W, Below w.heap.size w W → ∃ Ag cg, W.cell? ⟨b2, o2 + k * 20 + 19, none⟩ = some (.slice Ag q.gates.length cg) ∧ Sl 5 RGate W W.heap.size (.slice Ag q.gates.length cg) q.gates) := by
          refine hide (fun W hW => ?_)
          obtain ⟨b', o', _, Ag, cg, e, _, _, _, ⟨_, f'⟩, _, s'⟩ := (HB.out W hW).place hlt'
          cases e
          rw [← HY.out] at f' s'
          exact ⟨Ag, cg, f', s'⟩
        have L1 := hide (infItem.trans (congrArg some l1.symm))
        have L2 := hide (infItem.trans (congrArg some l2.symm))
        have HI1 : Hid (∀ w', (∃ u, w' = ext wr u) → At w' b1 (o1 + k * 20) cs1) := hide (fun w' hw => by obtain ⟨u, rfl⟩ := hw; exact hat1.below (ext_below wr u) hb1)
        have HI2 : Hid (∀ w', (∃ u, w' = ext wr u) → At w' b2 (o2 + k * 20) cs2) := hide (fun w' hw => by obtain ⟨u, rfl⟩ := hw; exact hat2.below (ext_below wr u) hb2)
        have hext := ext_cell wr
        have HC := hide (fun u => Ret.ext (sameItem' p.item q.item _ _ (ext wr u) wr.heap.size (ext_below wr u).size (RItem.stays _ _ _ _ _ _ s1 (Agree.of (ext_below wr u) (Nat.le_refl _)) (Nat.le_refl _)) (RItem.stays _ _ _ _ _ _ t1 (Agree.of (ext_below wr u) (Nat.le_refl _)) (Nat.le_refl _))))
        clear hp hq' hat1 hat2 l1 l2 s1 t1 s4 t4
        by_cases hi : p.item = q.item
        · have h1 : decide (p.item = q.item) = true := by simpa using hi
          have HI := hide hi
          clear hi
          by_cases ho : p.on = q.on
          · have h2 : (p.on == q.on) = true := by simpa using ho
            have HO := hide ho
            clear ho
            by_cases hg : p.gates.length = q.gates.length
            · have h3 : ((p.gates.length : Int) != (q.gates.length : Int)) = false := by simp; omega
              have HG := hide hg
              clear hg
              go_wp2
              refine wp_region_ext_lit (by kernel_rfl) (by kernel_rfl) ?_
              repeat (first
                | (go_big_quiet_want; refine quiet_load_at 53 (.tmp 21) rfl b1 (o1 + k * 20) rfl cs1 _ (fun w' hw => HI1.out w' hw) Try.underlying53 rfl L1.out ?_; go_simp; go_big_quiet_on)
                | (go_big_quiet_want; refine quiet_load_at 53 (.tmp 26) rfl b2 (o2 + k * 20) rfl cs2 _ (fun w' hw => HI2.out w' hw) Try.underlying53 rfl L2.out ?_; go_simp; go_big_quiet_on)
                | go_big_quiet_step ((go_at_call 52; exact HC.out _)))
              refine wpQuiet_nil ?_
              intro _ hw'
              obtain ⟨uq, hw''⟩ := hw'
              subst hw''
              have hbx := ext_below wr uq
              go_wp2
              have hbw2 : Below w.heap.size w (ext wr uq) := bstep hbw hbx
              clear f g hext HC HI1 HI2 L1 L2 h1 h2 h3
              generalize ext wr uq = wq at *
              go_loopw [6] (fun i wr => ∃ m : Nat, m ≤ p.gates.length ∧ i = .int .i64 m ∧ Hid (p.gates.take m = q.gates.take m) ∧ Below w.heap.size w wr) (fun i _ => p.gates.length - (intOf i).toNat)
              case atStart => exact ⟨0, Nat.zero_le _, rfl, hide (by simp), hbw2⟩
              case round =>
                clear hbw hbx hbw2
                obtain ⟨m, hm, rfl, HT2, hbw⟩ := hrel
                obtain ⟨Ag, cg, f, sg⟩ := HG1.out _ hbw
                obtain ⟨Ah, ch, g, sh⟩ := HG2.out _ hbw
                obtain ⟨_, _, _, _, _, hgl⟩ := sg.form
                by_cases hlm : m < p.gates.length
                · have hlm' : m < q.gates.length := by rw [← HG.out]; exact hlm
                  obtain ⟨b3, o3, _, rfl, hb3, _, hat3, rfl, _⟩ := sg.elem hlm
                  obtain ⟨b4, o4, _, rfl, hb4, _, hat4, rfl, _⟩ := sh.elem hlm'
                  have f3 := DGate.at hat3
                  have g3 := DGate.at hat4
                  have hq := neqGate p.gates[m] q.gates[m]
                  obtain ⟨u, hu⟩ : ∃ u, u = p.gates[m] := ⟨_, rfl⟩
                  obtain ⟨v, hv⟩ : ∃ v, v = q.gates[m] := ⟨_, rfl⟩
                  rw [← hu] at f3 hq
                  rw [← hv] at g3 hq
                  have HU := hide hu
                  have HV := hide hv
                  clear hu hv hat3 hat4 sg sh
                  by_cases huv : u = v
                  · have hd : decide (u = v) = true := by simpa using huv
                    have HE := hide huv
                    clear huv
                    go_wp2
                    go_quiet (fail)
                    go_wp2
                    go_roundw
                    case rel => exact ⟨m + 1, by omega, by go_num, hide (by rw [List.take_succ_eq_append_getElem hlm, List.take_succ_eq_append_getElem hlm', HT2.out, ← HU.out, ← HV.out, HE.out]), by (repeat (first | (with_reducible exact Below.refl _ _) | (with_reducible assumption) | (with_reducible apply Below.drew) | (with_reducible apply below_drewN) | ((with_reducible apply Below.alloc); rotate_left; (focus (first | omega | (simp <;> omega)))) | ((with_reducible apply Below.setCell); rotate_left; (focus (first | omega | (simp <;> omega)))) | ((with_reducible apply bstep); rotate_left; (focus with_reducible assumption)) | ((with_reducible apply below_gr); rotate_left; (focus with_reducible assumption); (focus (first | omega | (simp <;> omega))))))⟩
                    case measure => simp [intOf]; omega
                  · have hd : decide (u = v) = false := by simpa using huv
                    have HE := hide huv
                    clear huv
                    go_wp2
                    go_quiet (fail)
                    go_wp2
                    go_ret
                    refine ⟨ret_bool (Eq.symm ?_), by (repeat (first | (with_reducible exact Below.refl _ _) | (with_reducible assumption) | (with_reducible apply Below.drew) | (with_reducible apply below_drewN) | ((with_reducible apply Below.alloc); rotate_left; (focus (first | omega | (simp <;> omega)))) | ((with_reducible apply Below.setCell); rotate_left; (focus (first | omega | (simp <;> omega)))) | ((with_reducible apply bstep); rotate_left; (focus with_reducible assumption)) | ((with_reducible apply below_gr); rotate_left; (focus with_reducible assumption); (focus (first | omega | (simp <;> omega))))))⟩
                    exact decide_eq_false (fun h => HE.out (by
                      have : p = q := by rw [HX.out, HY.out]; simp only [h]
                      rw [HU.out, HV.out]; simp only [this]))
                · have hm' : m = p.gates.length := by omega
                  have HGG : Hid (p = q) := by
                    have := HT2.out
                    rw [hm', List.take_of_length_le (Nat.le_refl _), List.take_of_length_le (by rw [← HG.out]; exact Nat.le_refl _)] at this
                    have e1 := HI.out; have e2 := HO.out
                    clear HX HY
                    cases p; cases q
                    simp only [DPlace.mk.injEq] at *
                    exact hide ⟨e1, e2, this⟩
                  subst hm'
                  clear sg sh
                  go_wp2
                  go_roundw
                  case rel => exact ⟨k + 1, by omega, by go_num, hide (by rw [List.take_succ_eq_append_getElem hlt, List.take_succ_eq_append_getElem hlt', HT.out, ← HX.out, ← HY.out, HGG.out]), by (repeat (first | (with_reducible exact Below.refl _ _) | (with_reducible assumption) | (with_reducible apply Below.drew) | (with_reducible apply below_drewN) | ((with_reducible apply Below.alloc); rotate_left; (focus (first | omega | (simp <;> omega)))) | ((with_reducible apply Below.setCell); rotate_left; (focus (first | omega | (simp <;> omega)))) | ((with_reducible apply bstep); rotate_left; (focus with_reducible assumption)) | ((with_reducible apply below_gr); rotate_left; (focus with_reducible assumption); (focus (first | omega | (simp <;> omega))))))⟩
                  case measure => simp [intOf]; omega
            · have h3 : ((p.gates.length : Int) != (q.gates.length : Int)) = true := by simp; omega
              have HN := hide hg
              clear hg
              go_wp2
              refine wp_region_ext_lit (by kernel_rfl) (by kernel_rfl) ?_
              repeat (first
                | (go_big_quiet_want; refine quiet_load_at 53 (.tmp 21) rfl b1 (o1 + k * 20) rfl cs1 _ (fun w' hw => HI1.out w' hw) Try.underlying53 rfl L1.out ?_; go_simp; go_big_quiet_on)
                | (go_big_quiet_want; refine quiet_load_at 53 (.tmp 26) rfl b2 (o2 + k * 20) rfl cs2 _ (fun w' hw => HI2.out w' hw) Try.underlying53 rfl L2.out ?_; go_simp; go_big_quiet_on)
                | go_big_quiet_step ((go_at_call 52; exact HC.out _)))
              refine wpQuiet_nil ?_
              intro _ hw'
              obtain ⟨uq, hw''⟩ := hw'
              subst hw''
              have hbx := ext_below wr uq
              go_wp2
              go_ret
              refine ⟨ret_bool (Eq.symm (decide_eq_false (fun h => HN.out (by rw [HX.out, HY.out]; simp only [h])))), by (repeat (first | (with_reducible exact Below.refl _ _) | (with_reducible assumption) | (with_reducible apply Below.drew) | (with_reducible apply below_drewN) | ((with_reducible apply Below.alloc); rotate_left; (focus (first | omega | (simp <;> omega)))) | ((with_reducible apply Below.setCell); rotate_left; (focus (first | omega | (simp <;> omega)))) | ((with_reducible apply bstep); rotate_left; (focus with_reducible assumption)) | ((with_reducible apply below_gr); rotate_left; (focus with_reducible assumption); (focus (first | omega | (simp <;> omega))))))⟩
          · have h2 : (p.on == q.on) = false := by simpa using ho
            have HN := hide ho
            clear ho
            go_wp2
            refine wp_region_ext_lit (by kernel_rfl) (by kernel_rfl) ?_
            repeat (first
              | (go_big_quiet_want; refine quiet_load_at 53 (.tmp 21) rfl b1 (o1 + k * 20) rfl cs1 _ (fun w' hw => HI1.out w' hw) Try.underlying53 rfl L1.out ?_; go_simp; go_big_quiet_on)
              | (go_big_quiet_want; refine quiet_load_at 53 (.tmp 26) rfl b2 (o2 + k * 20) rfl cs2 _ (fun w' hw => HI2.out w' hw) Try.underlying53 rfl L2.out ?_; go_simp; go_big_quiet_on)
              | go_big_quiet_step ((go_at_call 52; exact HC.out _)))
            refine wpQuiet_nil ?_
            intro _ hw'
            obtain ⟨uq, hw''⟩ := hw'
            subst hw''
            have hbx := ext_below wr uq
            go_wp2
            go_ret
            refine ⟨ret_bool (Eq.symm (decide_eq_false (fun h => HN.out (by rw [HX.out, HY.out]; simp only [h])))), by (repeat (first | (with_reducible exact Below.refl _ _) | (with_reducible assumption) | (with_reducible apply Below.drew) | (with_reducible apply below_drewN) | ((with_reducible apply Below.alloc); rotate_left; (focus (first | omega | (simp <;> omega)))) | ((with_reducible apply Below.setCell); rotate_left; (focus (first | omega | (simp <;> omega)))) | ((with_reducible apply bstep); rotate_left; (focus with_reducible assumption)) | ((with_reducible apply below_gr); rotate_left; (focus with_reducible assumption); (focus (first | omega | (simp <;> omega))))))⟩
        · have h1 : decide (p.item = q.item) = false := by simpa using hi
          have HN := hide hi
          clear hi
          go_wp2
          refine wp_region_ext_lit (by kernel_rfl) (by kernel_rfl) ?_
          repeat (first
            | (go_big_quiet_want; refine quiet_load_at 53 (.tmp 21) rfl b1 (o1 + k * 20) rfl cs1 _ (fun w' hw => HI1.out w' hw) Try.underlying53 rfl L1.out ?_; go_simp; go_big_quiet_on)
            | (go_big_quiet_want; refine quiet_load_at 53 (.tmp 26) rfl b2 (o2 + k * 20) rfl cs2 _ (fun w' hw => HI2.out w' hw) Try.underlying53 rfl L2.out ?_; go_simp; go_big_quiet_on)
            | go_big_quiet_step ((go_at_call 52; exact HC.out _)))
          refine wpQuiet_nil ?_
          intro _ hw'
          obtain ⟨uq, hw''⟩ := hw'
          subst hw''
          have hbx := ext_below wr uq
          go_wp2
          go_ret
          refine ⟨ret_bool (Eq.symm (decide_eq_false (fun h => HN.out (by rw [HX.out, HY.out]; simp only [h])))), by (repeat (first | (with_reducible exact Below.refl _ _) | (with_reducible assumption) | (with_reducible apply Below.drew) | (with_reducible apply below_drewN) | ((with_reducible apply Below.alloc); rotate_left; (focus (first | omega | (simp <;> omega)))) | ((with_reducible apply Below.setCell); rotate_left; (focus (first | omega | (simp <;> omega)))) | ((with_reducible apply bstep); rotate_left; (focus with_reducible assumption)) | ((with_reducible apply below_gr); rotate_left; (focus with_reducible assumption); (focus (first | omega | (simp <;> omega))))))⟩
      · have hk' : k = xs.length := by omega
        subst hk'
        go_wp2
        go_ret
        refine ⟨ret_bool (Eq.symm ?_), by (repeat (first | (with_reducible exact Below.refl _ _) | (with_reducible assumption) | (with_reducible apply Below.drew) | (with_reducible apply below_drewN) | ((with_reducible apply Below.alloc); rotate_left; (focus (first | omega | (simp <;> omega)))) | ((with_reducible apply Below.setCell); rotate_left; (focus (first | omega | (simp <;> omega)))) | ((with_reducible apply bstep); rotate_left; (focus with_reducible assumption)) | ((with_reducible apply below_gr); rotate_left; (focus with_reducible assumption); (focus (first | omega | (simp <;> omega))))))⟩
        have := HT.out
        rw [List.take_of_length_le (Nat.le_refl _), List.take_of_length_le (by rw [← HL.out]; exact Nat.le_refl _)] at this
        exact decide_eq_true this
  · have hB' : ((xs.length : Int) != (ys.length : Int)) = true := by simp; omega
    have HL := hide hl
    clear hl
    go_enter Try.func17, Try.ntmps17
    go_wp2
    go_ret
    exact ⟨ret_bool (Eq.symm (decide_eq_false (fun h => HL.out (by rw [h])))), Below.refl _ _⟩

end Go.Proofs.Ytbflmipddiaiaaa
