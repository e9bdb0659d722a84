/-
  Items and places compared.
-/
import Derived.Test.YtbflmipddiaiaaaItem
namespace Go.Proofs.Ytbflmipddiaiaaa
open Go.RowKit

theorem neqLook (x y : DLook) (w : World) : (binOp .neq 49 (.agg #[.int .u8 x.color.r, .int .u8 x.color.g, .int .u8 x.color.b, .int .u8 x.color.a, .int .i64 x.texture, .int .u8 x.cull, .int .i64 x.bias, .bool x.blend, .int .i64 x.bin]) (.agg #[.int .u8 y.color.r, .int .u8 y.color.g, .int .u8 y.color.b, .int .u8 y.color.a, .int .i64 y.texture, .int .u8 y.cull, .int .i64 y.bias, .bool y.blend, .int .i64 y.bin])).run Try.prog w = .ok (.bool (!decide (x = y))) w := eqLook.neq (by omega) (fun _ => ⟨_, rfl⟩) x y w
theorem eqlLook (x y : DLook) (w : World) : (binOp .eql 49 (.agg #[.int .u8 x.color.r, .int .u8 x.color.g, .int .u8 x.color.b, .int .u8 x.color.a, .int .i64 x.texture, .int .u8 x.cull, .int .i64 x.bias, .bool x.blend, .int .i64 x.bin]) (.agg #[.int .u8 y.color.r, .int .u8 y.color.g, .int .u8 y.color.b, .int .u8 y.color.a, .int .i64 y.texture, .int .u8 y.cull, .int .i64 y.bias, .bool y.blend, .int .i64 y.bin])).run Try.prog w = .ok (.bool (decide (x = y))) w := eqLook.eql (by omega) (fun _ => ⟨_, rfl⟩) x y w
theorem neqBox (x y : DBox) (w : World) : (binOp .neq 51 (.agg #[.int .i64 x.low.x, .int .i64 x.low.y, .int .i64 x.low.z, .int .i64 x.high.x, .int .i64 x.high.y, .int .i64 x.high.z]) (.agg #[.int .i64 y.low.x, .int .i64 y.low.y, .int .i64 y.low.z, .int .i64 y.high.x, .int .i64 y.high.y, .int .i64 y.high.z])).run Try.prog w = .ok (.bool (!decide (x = y))) w := eqBox.neq (by omega) (fun _ => ⟨_, rfl⟩) x y w
theorem eqlBox (x y : DBox) (w : World) : (binOp .eql 51 (.agg #[.int .i64 x.low.x, .int .i64 x.low.y, .int .i64 x.low.z, .int .i64 x.high.x, .int .i64 x.high.y, .int .i64 x.high.z]) (.agg #[.int .i64 y.low.x, .int .i64 y.low.y, .int .i64 y.low.z, .int .i64 y.high.x, .int .i64 y.high.y, .int .i64 y.high.z])).run Try.prog w = .ok (.bool (decide (x = y))) w := eqBox.eql (by omega) (fun _ => ⟨_, rfl⟩) x y w

set_option maxRecDepth 100000 in
set_option maxHeartbeats 2000000 in
theorem sameItem (x y : DItem) (a b c a' b' c' : Value) (w : World) (B : Nat) (hB : B ≤ w.heap.size) (ha : Sl 3 RVec w B a x.verts) (hb : Sl 2 R2 w B b x.uv) (hc : Sl 3 R3 w B c x.tris)
    (ha' : Sl 3 RVec w B a' y.verts) (hb' : Sl 2 R2 w B b' y.uv) (hc' : Sl 3 R3 w B c' y.tris) :
    Calls Try.prog 52 #[.agg #[a, b, c, .int .u8 x.look.color.r, .int .u8 x.look.color.g, .int .u8 x.look.color.b, .int .u8 x.look.color.a, .int .i64 x.look.texture, .int .u8 x.look.cull, .int .i64 x.look.bias, .bool x.look.blend, .int .i64 x.look.bin, .int .i64 x.box.low.x, .int .i64 x.box.low.y, .int .i64 x.box.low.z, .int .i64 x.box.high.x, .int .i64 x.box.high.y, .int .i64 x.box.high.z], .agg #[a', b', c', .int .u8 y.look.color.r, .int .u8 y.look.color.g, .int .u8 y.look.color.b, .int .u8 y.look.color.a, .int .i64 y.look.texture, .int .u8 y.look.cull, .int .i64 y.look.bias, .bool y.look.blend, .int .i64 y.look.bin, .int .i64 y.box.low.x, .int .i64 y.box.low.y, .int .i64 y.box.low.z, .int .i64 y.box.high.x, .int .i64 y.box.high.y, .int .i64 y.box.high.z]] w (Ret (.bool (decide (x = y))) w) := by
  obtain ⟨A, ca, rfl, _, _, _⟩ := ha.form
  obtain ⟨A', cb, rfl, _, _, _⟩ := hb.form
  obtain ⟨A'', cc, rfl, _, _, _⟩ := hc.form
  obtain ⟨D, da, rfl, _, _, _⟩ := ha'.form
  obtain ⟨D', db, rfl, _, _, _⟩ := hb'.form
  obtain ⟨D'', dc, rfl, _, _, _⟩ := hc'.form
  have HA := hide (fun W (h : Below w.heap.size w W) => Sl.stays (FlatOk.stays _ _) _ W _ w.heap.size _ _ ha (Agree.of h hB) hB)
  have HB := hide (fun W (h : Below w.heap.size w W) => Sl.stays (FlatOk.stays _ _) _ W _ w.heap.size _ _ hb (Agree.of h hB) hB)
  have HC := hide (fun W (h : Below w.heap.size w W) => Sl.stays (FlatOk.stays _ _) _ W _ w.heap.size _ _ hc (Agree.of h hB) hB)
  have HA' := hide (fun W (h : Below w.heap.size w W) => Sl.stays (FlatOk.stays _ _) _ W _ w.heap.size _ _ ha' (Agree.of h hB) hB)
  have HB' := hide (fun W (h : Below w.heap.size w W) => Sl.stays (FlatOk.stays _ _) _ W _ w.heap.size _ _ hb' (Agree.of h hB) hB)
  have HC' := hide (fun W (h : Below w.heap.size w W) => Sl.stays (FlatOk.stays _ _) _ W _ w.heap.size _ _ hc' (Agree.of h hB) hB)
  clear ha hb hc ha' hb' hc'
  by_cases hv : x.verts.length = y.verts.length
  · have h1 : ((x.verts.length : Int) != (y.verts.length : Int)) = false := by simp; omega
    have HV := hide hv
    clear hv
    by_cases hu : x.uv.length = y.uv.length
    · have h2 : ((x.uv.length : Int) != (y.uv.length : Int)) = false := by simp; omega
      have HU := hide hu
      clear hu
      by_cases ht : x.tris = y.tris
      · have h3 : decide (x.tris = y.tris) = true := by simpa using ht
        have HT' := hide ht
        clear ht
        have hqL := neqLook x.look y.look
        have hqB := neqBox x.box y.box
        by_cases hl : x.look = y.look
        · have h4 : decide (x.look = y.look) = true := by simpa using hl
          have HL := hide hl
          clear hl
          by_cases hx : x.box = y.box
          · have h5 : decide (x.box = y.box) = true := by simpa using hx
            have HX := hide hx
            clear hx
            go_enter Try.func52, Try.ntmps52
            go_wp2_with (first
              | (go_at_call 103; refine Calls.mono (sameTris _ _ x.tris y.tris _ w.heap.size (HC.out _ (al2_below w _ _)) (HC'.out _ (al2_below w _ _)) (al2_below w _ _).size) ?_; rintro _ w1 ⟨rfl, n1⟩; have B1 := Box.of_below n1 (al2a w _ _); have B2 := Box.of_below n1 (al2b w _ _); have bc1 := B1.cell; have bc2 := B2.cell))
            · clear h1 h2 h3 h4 h5 hqL hqB
              clear bc1 bc2
              have h01 := bstep (al2_below w _ _) n1
              clear n1
              go_loopw [5] (fun i wr => ∃ k : Nat, k ≤ x.verts.length ∧ i = .int .i64 k ∧ Hid (x.verts.take k = y.verts.take k) ∧ Below w.heap.size w wr ∧
                Box wr w.heap.size #[.slice A x.verts.length ca, .slice A' x.uv.length cb, .slice A'' x.tris.length cc, .int .u8 x.look.color.r, .int .u8 x.look.color.g, .int .u8 x.look.color.b, .int .u8 x.look.color.a, .int .i64 x.look.texture, .int .u8 x.look.cull, .int .i64 x.look.bias, .bool x.look.blend, .int .i64 x.look.bin, .int .i64 x.box.low.x, .int .i64 x.box.low.y, .int .i64 x.box.low.z, .int .i64 x.box.high.x, .int .i64 x.box.high.y, .int .i64 x.box.high.z] 53 ∧ Box wr (w.heap.size + 1) #[.slice D y.verts.length da, .slice D' y.uv.length db, .slice D'' y.tris.length dc, .int .u8 y.look.color.r, .int .u8 y.look.color.g, .int .u8 y.look.color.b, .int .u8 y.look.color.a, .int .i64 y.look.texture, .int .u8 y.look.cull, .int .i64 y.look.bias, .bool y.look.blend, .int .i64 y.look.bin, .int .i64 y.box.low.x, .int .i64 y.box.low.y, .int .i64 y.box.low.z, .int .i64 y.box.high.x, .int .i64 y.box.high.y, .int .i64 y.box.high.z] 53) (fun i _ => x.verts.length - (intOf i).toNat)
              case atStart => exact ⟨0, Nat.zero_le _, rfl, hide (by simp), h01, B1, B2⟩
              case round =>
                obtain ⟨k, hk, rfl, HT, hbw, B1, B2⟩ := hrel
                have bc1 := B1.cell; have bc2 := B2.cell
                by_cases hlt : k < x.verts.length
                · have hlt' : k < y.verts.length := by rw [← HV.out]; exact hlt
                  have ha' := HA.out wr hbw
                  have hb' := HA'.out wr hbw
                  obtain ⟨b1, o1, _, rfl, hb1, _, hat1, rfl, _⟩ := ha'.elem hlt
                  obtain ⟨b2, o2, _, rfl, hb2, _, hat2, rfl, _⟩ := hb'.elem hlt'
                  have f := DVec.at hat1
                  have g := DVec.at hat2
                  have hq := neqVec x.verts[k] y.verts[k]
                  obtain ⟨p, hp⟩ : ∃ p, p = x.verts[k] := ⟨_, rfl⟩
                  obtain ⟨q, hq'⟩ : ∃ q, q = y.verts[k] := ⟨_, rfl⟩
                  rw [← hp] at f hq
                  rw [← hq'] at g hq
                  have HX := hide hp
                  have HY := hide hq'
                  clear hp hq' ha' hb' hat1 hat2
                  by_cases hxy : p = q
                  · have hd : decide (p = q) = true := by simpa using hxy
                    have HE := hide hxy
                    clear hxy
                    go_wp2
                    go_quiet (fail)
                    go_wp2
                    go_roundw
                    case rel => exact ⟨k + 1, by omega, by go_num, hide (by rw [List.take_succ_eq_append_getElem hlt, List.take_succ_eq_append_getElem hlt', HT.out, ← HX.out, ← HY.out, HE.out]), by (repeat (first | (with_reducible exact Below.refl _ _) | (with_reducible assumption) | (with_reducible apply Below.drew) | (with_reducible apply below_drewN) | ((with_reducible apply Below.alloc); rotate_left; (focus (first | omega | (simp <;> omega)))) | ((with_reducible apply Below.setCell); rotate_left; (focus (first | omega | (simp <;> omega)))) | ((with_reducible apply bstep); rotate_left; (focus with_reducible assumption)) | ((with_reducible apply below_gr); rotate_left; (focus with_reducible assumption); (focus (first | omega | (simp <;> omega)))))), B1, B2⟩
                    case measure => simp [intOf]; omega
                  · have hd : decide (p = q) = false := by simpa using hxy
                    have HE := hide hxy
                    clear hxy
                    go_wp2
                    go_quiet (fail)
                    go_wp2
                    go_ret
                    refine ⟨ret_bool (Eq.symm ?_), by (repeat (first | (with_reducible exact Below.refl _ _) | (with_reducible assumption) | (with_reducible apply Below.drew) | (with_reducible apply below_drewN) | ((with_reducible apply Below.alloc); rotate_left; (focus (first | omega | (simp <;> omega)))) | ((with_reducible apply Below.setCell); rotate_left; (focus (first | omega | (simp <;> omega)))) | ((with_reducible apply bstep); rotate_left; (focus with_reducible assumption)) | ((with_reducible apply below_gr); rotate_left; (focus with_reducible assumption); (focus (first | omega | (simp <;> omega))))))⟩
                    exact decide_eq_false (fun h => HE.out (by rw [HX.out, HY.out]; simp only [h]))
                · have hk' : k = x.verts.length := by omega
                  have HVV : Hid (x.verts = y.verts) := by
                    have := HT.out
                    rw [hk', List.take_of_length_le (Nat.le_refl _), List.take_of_length_le (by rw [← HV.out]; exact Nat.le_refl _)] at this
                    exact hide this
                  subst hk'
                  clear HT
                  go_wp2
                  clear bc1 bc2
                  go_loopw [6] (fun i wr => ∃ k : Nat, k ≤ x.uv.length ∧ i = .int .i64 k ∧ Hid (x.uv.take k = y.uv.take k) ∧ Below w.heap.size w wr ∧
                    Box wr w.heap.size #[.slice A x.verts.length ca, .slice A' x.uv.length cb, .slice A'' x.tris.length cc, .int .u8 x.look.color.r, .int .u8 x.look.color.g, .int .u8 x.look.color.b, .int .u8 x.look.color.a, .int .i64 x.look.texture, .int .u8 x.look.cull, .int .i64 x.look.bias, .bool x.look.blend, .int .i64 x.look.bin, .int .i64 x.box.low.x, .int .i64 x.box.low.y, .int .i64 x.box.low.z, .int .i64 x.box.high.x, .int .i64 x.box.high.y, .int .i64 x.box.high.z] 53 ∧ Box wr (w.heap.size + 1) #[.slice D y.verts.length da, .slice D' y.uv.length db, .slice D'' y.tris.length dc, .int .u8 y.look.color.r, .int .u8 y.look.color.g, .int .u8 y.look.color.b, .int .u8 y.look.color.a, .int .i64 y.look.texture, .int .u8 y.look.cull, .int .i64 y.look.bias, .bool y.look.blend, .int .i64 y.look.bin, .int .i64 y.box.low.x, .int .i64 y.box.low.y, .int .i64 y.box.low.z, .int .i64 y.box.high.x, .int .i64 y.box.high.y, .int .i64 y.box.high.z] 53) (fun i _ => x.uv.length - (intOf i).toNat)
                  case atStart => exact ⟨0, Nat.zero_le _, rfl, hide (by simp), by (repeat (first | (with_reducible exact Below.refl _ _) | (with_reducible assumption) | (with_reducible apply Below.drew) | (with_reducible apply below_drewN) | ((with_reducible apply Below.alloc); rotate_left; (focus (first | omega | (simp <;> omega)))) | ((with_reducible apply Below.setCell); rotate_left; (focus (first | omega | (simp <;> omega)))) | ((with_reducible apply bstep); rotate_left; (focus with_reducible assumption)) | ((with_reducible apply below_gr); rotate_left; (focus with_reducible assumption); (focus (first | omega | (simp <;> omega)))))), B1, B2⟩
                  case round =>
                    clear B1 B2 hbw
                    obtain ⟨k, hk, rfl, HT, hbw, B1, B2⟩ := hrel
                    have bc1 := B1.cell; have bc2 := B2.cell
                    by_cases hlt : k < x.uv.length
                    · have hlt' : k < y.uv.length := by rw [← HU.out]; exact hlt
                      have ha' := HB.out wr hbw
                      have hb' := HB'.out wr hbw
                      obtain ⟨b1, o1, _, rfl, hb1, _, hat1, rfl, _⟩ := ha'.elem hlt
                      obtain ⟨b2, o2, _, rfl, hb2, _, hat2, rfl, _⟩ := hb'.elem hlt'
                      have f := D2.at hat1
                      have g := D2.at hat2
                      have hq := neq2 x.uv[k] y.uv[k]
                      obtain ⟨p, hp⟩ : ∃ p, p = x.uv[k] := ⟨_, rfl⟩
                      obtain ⟨q, hq'⟩ : ∃ q, q = y.uv[k] := ⟨_, rfl⟩
                      rw [← hp] at f hq
                      rw [← hq'] at g hq
                      have HX := hide hp
                      have HY := hide hq'
                      clear hp hq' ha' hb' hat1 hat2
                      by_cases hxy : p = q
                      · have hd : decide (p = q) = true := by simpa using hxy
                        have HE := hide hxy
                        clear hxy
                        go_wp2
                        go_quiet (fail)
                        go_wp2
                        go_roundw
                        case rel => exact ⟨k + 1, by omega, by go_num, hide (by rw [List.take_succ_eq_append_getElem hlt, List.take_succ_eq_append_getElem hlt', HT.out, ← HX.out, ← HY.out, HE.out]), by (repeat (first | (with_reducible exact Below.refl _ _) | (with_reducible assumption) | (with_reducible apply Below.drew) | (with_reducible apply below_drewN) | ((with_reducible apply Below.alloc); rotate_left; (focus (first | omega | (simp <;> omega)))) | ((with_reducible apply Below.setCell); rotate_left; (focus (first | omega | (simp <;> omega)))) | ((with_reducible apply bstep); rotate_left; (focus with_reducible assumption)) | ((with_reducible apply below_gr); rotate_left; (focus with_reducible assumption); (focus (first | omega | (simp <;> omega)))))), B1, B2⟩
                        case measure => simp [intOf]; omega
                      · have hd : decide (p = q) = false := by simpa using hxy
                        have HE := hide hxy
                        clear hxy
                        go_wp2
                        go_quiet (fail)
                        go_wp2
                        go_ret
                        refine ⟨ret_bool (Eq.symm ?_), by (repeat (first | (with_reducible exact Below.refl _ _) | (with_reducible assumption) | (with_reducible apply Below.drew) | (with_reducible apply below_drewN) | ((with_reducible apply Below.alloc); rotate_left; (focus (first | omega | (simp <;> omega)))) | ((with_reducible apply Below.setCell); rotate_left; (focus (first | omega | (simp <;> omega)))) | ((with_reducible apply bstep); rotate_left; (focus with_reducible assumption)) | ((with_reducible apply below_gr); rotate_left; (focus with_reducible assumption); (focus (first | omega | (simp <;> omega))))))⟩
                        exact decide_eq_false (fun h => HE.out (by rw [HX.out, HY.out]; simp only [h]))
                    · have hk' : k = x.uv.length := by omega
                      have HUU : Hid (x.uv = y.uv) := by
                        have := HT.out
                        rw [hk', List.take_of_length_le (Nat.le_refl _), List.take_of_length_le (by rw [← HU.out]; exact Nat.le_refl _)] at this
                        exact hide this
                      subst hk'
                      go_wp2
                      go_ret
                      refine ⟨ret_bool (Eq.symm (decide_eq_true ?_)), by (repeat (first | (with_reducible exact Below.refl _ _) | (with_reducible assumption) | (with_reducible apply Below.drew) | (with_reducible apply below_drewN) | ((with_reducible apply Below.alloc); rotate_left; (focus (first | omega | (simp <;> omega)))) | ((with_reducible apply Below.setCell); rotate_left; (focus (first | omega | (simp <;> omega)))) | ((with_reducible apply bstep); rotate_left; (focus with_reducible assumption)) | ((with_reducible apply below_gr); rotate_left; (focus with_reducible assumption); (focus (first | omega | (simp <;> omega))))))⟩
                      have e1 := HVV.out; have e2 := HUU.out; have e3 := HT'.out; have e4 := HL.out; have e5 := HX.out
                      cases x; cases y
                      simp only [DItem.mk.injEq] at *
                      exact ⟨e1, e2, e3, e4, e5⟩
          · have h5 : decide (x.box = y.box) = false := by simpa using hx
            have HN := hide hx
            clear hx
            go_enter Try.func52, Try.ntmps52
            go_wp2_with (first
              | (go_at_call 103; refine Calls.mono (sameTris _ _ x.tris y.tris _ w.heap.size (HC.out _ (al2_below w _ _)) (HC'.out _ (al2_below w _ _)) (al2_below w _ _).size) ?_; rintro _ w1 ⟨rfl, n1⟩; have B1 := Box.of_below n1 (al2a w _ _); have B2 := Box.of_below n1 (al2b w _ _); have bc1 := B1.cell; have bc2 := B2.cell))
            go_ret
            refine ⟨ret_bool (Eq.symm (decide_eq_false (fun h => HN.out (by rw [h])))), by (repeat (first | (with_reducible exact Below.refl _ _) | (with_reducible assumption) | (with_reducible apply Below.drew) | (with_reducible apply below_drewN) | ((with_reducible apply Below.alloc); rotate_left; (focus (first | omega | (simp <;> omega)))) | ((with_reducible apply Below.setCell); rotate_left; (focus (first | omega | (simp <;> omega)))) | ((with_reducible apply bstep); rotate_left; (focus with_reducible assumption)) | ((with_reducible apply below_gr); rotate_left; (focus with_reducible assumption); (focus (first | omega | (simp <;> omega))))))⟩
        · have h4 : decide (x.look = y.look) = false := by simpa using hl
          have HN := hide hl
          clear hl
          go_enter Try.func52, Try.ntmps52
          go_wp2_with (first
            | (go_at_call 103; refine Calls.mono (sameTris _ _ x.tris y.tris _ w.heap.size (HC.out _ (al2_below w _ _)) (HC'.out _ (al2_below w _ _)) (al2_below w _ _).size) ?_; rintro _ w1 ⟨rfl, n1⟩; have B1 := Box.of_below n1 (al2a w _ _); have B2 := Box.of_below n1 (al2b w _ _); have bc1 := B1.cell; have bc2 := B2.cell))
          go_ret
          refine ⟨ret_bool (Eq.symm (decide_eq_false (fun h => HN.out (by rw [h])))), by (repeat (first | (with_reducible exact Below.refl _ _) | (with_reducible assumption) | (with_reducible apply Below.drew) | (with_reducible apply below_drewN) | ((with_reducible apply Below.alloc); rotate_left; (focus (first | omega | (simp <;> omega)))) | ((with_reducible apply Below.setCell); rotate_left; (focus (first | omega | (simp <;> omega)))) | ((with_reducible apply bstep); rotate_left; (focus with_reducible assumption)) | ((with_reducible apply below_gr); rotate_left; (focus with_reducible assumption); (focus (first | omega | (simp <;> omega))))))⟩
      · have h3 : decide (x.tris = y.tris) = false := by simpa using ht
        have HN := hide ht
        clear ht
        go_enter Try.func52, Try.ntmps52
        go_wp2_with (first
          | (go_at_call 103; refine Calls.mono (sameTris _ _ x.tris y.tris _ w.heap.size (HC.out _ (al2_below w _ _)) (HC'.out _ (al2_below w _ _)) (al2_below w _ _).size) ?_; rintro _ w1 ⟨rfl, n1⟩; have B1 := Box.of_below n1 (al2a w _ _); have B2 := Box.of_below n1 (al2b w _ _); have bc1 := B1.cell; have bc2 := B2.cell))
        go_ret
        refine ⟨ret_bool (Eq.symm (decide_eq_false (fun h => HN.out (by rw [h])))), by (repeat (first | (with_reducible exact Below.refl _ _) | (with_reducible assumption) | (with_reducible apply Below.drew) | (with_reducible apply below_drewN) | ((with_reducible apply Below.alloc); rotate_left; (focus (first | omega | (simp <;> omega)))) | ((with_reducible apply Below.setCell); rotate_left; (focus (first | omega | (simp <;> omega)))) | ((with_reducible apply bstep); rotate_left; (focus with_reducible assumption)) | ((with_reducible apply below_gr); rotate_left; (focus with_reducible assumption); (focus (first | omega | (simp <;> omega))))))⟩
    · have h2 : ((x.uv.length : Int) != (y.uv.length : Int)) = true := by simp; omega
      have HN := hide hu
      clear hu
      go_enter Try.func52, Try.ntmps52
      go_wp2
      go_ret
      refine ⟨ret_bool (Eq.symm (decide_eq_false (fun h => HN.out (by rw [h])))), by (repeat (first | (with_reducible exact Below.refl _ _) | (with_reducible assumption) | (with_reducible apply Below.drew) | (with_reducible apply below_drewN) | ((with_reducible apply Below.alloc); rotate_left; (focus (first | omega | (simp <;> omega)))) | ((with_reducible apply Below.setCell); rotate_left; (focus (first | omega | (simp <;> omega)))) | ((with_reducible apply bstep); rotate_left; (focus with_reducible assumption)) | ((with_reducible apply below_gr); rotate_left; (focus with_reducible assumption); (focus (first | omega | (simp <;> omega))))))⟩
  · have h1 : ((x.verts.length : Int) != (y.verts.length : Int)) = true := by simp; omega
    have HN := hide hv
    clear hv
    go_enter Try.func52, Try.ntmps52
    go_wp2
    go_ret
    refine ⟨ret_bool (Eq.symm (decide_eq_false (fun h => HN.out (by rw [h])))), by (repeat (first | (with_reducible exact Below.refl _ _) | (with_reducible assumption) | (with_reducible apply Below.drew) | (with_reducible apply below_drewN) | ((with_reducible apply Below.alloc); rotate_left; (focus (first | omega | (simp <;> omega)))) | ((with_reducible apply Below.setCell); rotate_left; (focus (first | omega | (simp <;> omega)))) | ((with_reducible apply bstep); rotate_left; (focus with_reducible assumption)) | ((with_reducible apply below_gr); rotate_left; (focus with_reducible assumption); (focus (first | omega | (simp <;> omega))))))⟩

end Go.Proofs.Ytbflmipddiaiaaa
