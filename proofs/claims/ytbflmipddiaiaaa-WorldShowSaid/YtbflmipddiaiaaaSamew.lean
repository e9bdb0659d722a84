/-
  The program's comparison of places.
-/
import Derived.Test.YtbflmipddiaiaaaPlace
namespace Go.Proofs.Ytbflmipddiaiaaa
open Go.RowKit

theorem eqlLook' (x y : DLook) (w : World) : (binOp .eql 49 (.agg x.enc.toArray) (.agg y.enc.toArray)).run Try.prog w = .ok (.bool (decide (x = y))) w := eqlLook x y w
theorem eqlBox' (x y : DBox) (w : World) : (binOp .eql 51 (.agg x.enc.toArray) (.agg y.enc.toArray)).run Try.prog w = .ok (.bool (decide (x = y))) w := eqlBox x y w
theorem infLook (x : DLook) : (Try.prog.info? 49).map (·.size) = some x.enc.length := by
  have : (Try.prog.info? 49).map (·.size) = some 9 := by kernel_rfl
  exact this
theorem infBox (x : DBox) : (Try.prog.info? 51).map (·.size) = some x.enc.length := by
  have : (Try.prog.info? 51).map (·.size) = some 6 := by kernel_rfl
  exact this

/-- A place's cells, told apart. -/
theorem RPlace.parts {w : World} {B : Nat} {cs : List Value} {x : DPlace} (h : RPlace w B cs x) : ∃ Av cv Au cu At' ct Ag cg,
    (cs[0]? = some (.slice Av x.item.verts.length cv) ∧ cs[1]? = some (.slice Au x.item.uv.length cu) ∧ cs[2]? = some (.slice At' x.item.tris.length ct) ∧ cs[18]? = some (.bool x.on) ∧ cs[19]? = some (.slice Ag x.gates.length cg)) ∧
    (∀ W b o, At W b o cs → At W b (o + 3) x.item.look.enc ∧ At W b (o + 12) x.item.box.enc) ∧
    Sl 3 RVec w B (.slice Av x.item.verts.length cv) x.item.verts ∧ Sl 2 R2 w B (.slice Au x.item.uv.length cu) x.item.uv ∧
    Sl 3 R3 w B (.slice At' x.item.tris.length ct) x.item.tris ∧ Sl 5 RGate w B (.slice Ag x.gates.length cg) x.gates := by
  obtain ⟨ics, g, rfl, ⟨a, bb, c, rfl, h1, h2, h3, h4, h5⟩, h6⟩ := h
  obtain ⟨Av, cv, rfl, _⟩ := h1.form
  obtain ⟨Au, cu, rfl, _⟩ := h2.form
  obtain ⟨At', ct, rfl, _⟩ := h3.form
  obtain ⟨Ag, cg, rfl, _⟩ := h6.form
  refine ⟨Av, cv, Au, cu, At', ct, Ag, cg, ⟨rfl, rfl, rfl, rfl, rfl⟩, fun W b o ha => ?_, h1, h2, h3, h6⟩
  have h := (ha.append).1
  have k := (At.append (xs := [_, _, _]) (ys := x.item.look.enc ++ x.item.box.enc) h).2
  have l := k.append
  exact ⟨l.1, by have := l.2; rw [Nat.add_assoc] at this; exact this⟩

set_option maxRecDepth 100000 in
set_option maxHeartbeats 2000000 in
theorem samePlace (x y : DPlace) (cs ds : List Value) (w : World) (B : Nat) (hB : B ≤ w.heap.size) (hx : RPlace w B cs x) (hy : RPlace w B ds y) :
    Calls Try.prog 57 #[.agg cs.toArray, .agg ds.toArray] w (Ret (.bool (decide (x = y))) w) := by
  obtain ⟨A, ca, A', cb, A'', cc, Ag, cg, ⟨f1, f2, f3, f4, f5⟩, hp, s1, s2, s3, s4⟩ := hx.parts
  obtain ⟨D, da, D', db, D'', dc, Dg, dg, ⟨g1, g2, g3, g4, g5⟩, hq, t1, t2, t3, t4⟩ := hy.parts
  have HP := hide hp
  have HQ := hide hq
  have HF := hide (fun W g t (b : Box W g cs.toArray t) => (⟨(Box.at b 0 _ f1), (Box.at b 1 _ f2), (Box.at b 2 _ f3), (Box.at b 18 _ f4), (Box.at b 19 _ f5)⟩ : W.cell? ⟨g, 0 + 0, none⟩ = _ ∧ W.cell? ⟨g, 0 + 1, none⟩ = _ ∧ W.cell? ⟨g, 0 + 2, none⟩ = _ ∧ W.cell? ⟨g, 0 + 18, none⟩ = _ ∧ W.cell? ⟨g, 0 + 19, none⟩ = _))
  have HG := hide (fun W g t (b : Box W g ds.toArray t) => (⟨(Box.at b 0 _ g1), (Box.at b 1 _ g2), (Box.at b 2 _ g3), (Box.at b 18 _ g4), (Box.at b 19 _ g5)⟩ : W.cell? ⟨g, 0 + 0, none⟩ = _ ∧ W.cell? ⟨g, 0 + 1, none⟩ = _ ∧ W.cell? ⟨g, 0 + 2, none⟩ = _ ∧ W.cell? ⟨g, 0 + 18, none⟩ = _ ∧ W.cell? ⟨g, 0 + 19, none⟩ = _))
  simp only [Nat.zero_add] at HF HG
  have S1 := hide (fun W (h : Below w.heap.size w W) => Sl.stays (FlatOk.stays _ _) _ W _ w.heap.size _ _ s1 (Agree.of h hB) hB)
  have S2 := hide (fun W (h : Below w.heap.size w W) => Sl.stays (FlatOk.stays _ _) _ W _ w.heap.size _ _ s2 (Agree.of h hB) hB)
  have S3 := hide (fun W (h : Below w.heap.size w W) => Sl.stays (FlatOk.stays _ _) _ W _ w.heap.size _ _ s3 (Agree.of h hB) hB)
  have S4 := hide (fun W (h : Below w.heap.size w W) => Sl.stays (FlatOk.stays _ _) _ W _ w.heap.size _ _ s4 (Agree.of h hB) hB)
  have T1 := hide (fun W (h : Below w.heap.size w W) => Sl.stays (FlatOk.stays _ _) _ W _ w.heap.size _ _ t1 (Agree.of h hB) hB)
  have T2 := hide (fun W (h : Below w.heap.size w W) => Sl.stays (FlatOk.stays _ _) _ W _ w.heap.size _ _ t2 (Agree.of h hB) hB)
  have T3 := hide (fun W (h : Below w.heap.size w W) => Sl.stays (FlatOk.stays _ _) _ W _ w.heap.size _ _ t3 (Agree.of h hB) hB)
  have T4 := hide (fun W (h : Below w.heap.size w W) => Sl.stays (FlatOk.stays _ _) _ W _ w.heap.size _ _ t4 (Agree.of h hB) hB)
  clear s1 s2 s3 s4 t1 t2 t3 t4 hp hq hx hy
  have hqL := eqlLook' x.item.look y.item.look
  have hqB := eqlBox' x.item.box y.item.box
  go_enter Try.func57, Try.ntmps57
  go_wp2_with (first
    | (go_at_call 105; refine Calls.mono (equalVec _ _ x.item.verts y.item.verts _ w.heap.size (S1.out _ (al2_below w _ _)) (T1.out _ (al2_below w _ _)) (al2_below w _ _).size) ?_; rintro _ w1 ⟨rfl, n1⟩; have B1 := Box.of_below n1 (al2a w _ _); have B2 := Box.of_below n1 (al2b w _ _); have h1 : Below w.heap.size w w1 := bstep (al2_below w _ _) n1; have bc1 := HF.out _ _ _ B1; have bc2 := HG.out _ _ _ B2; by_cases hc : x.item.verts = y.item.verts; rotate_left; (focus (have d0 : decide (x.item.verts = y.item.verts) = false := (by simpa using hc); have HN := hide hc; clear hc; go_wp2; go_ret; exact ⟨ret_bool (Eq.symm (decide_eq_false (fun h => HN.out (by rw [h])))), h1⟩)); have d1 : decide (x.item.verts = y.item.verts) = true := (by simpa using hc); have H1 := hide hc; clear hc)
    | (go_at_call 106; refine Calls.mono (equal2 _ _ x.item.uv y.item.uv _ w.heap.size (S2.out _ h1) (T2.out _ h1) h1.size) ?_; rintro _ w2 ⟨rfl, n2⟩; have B3 := Box.of_below n2 B1; have B4 := Box.of_below n2 B2; have h2 : Below w.heap.size w w2 := bstep h1 n2; clear bc1 bc2; have bc1 := HF.out _ _ _ B3; have bc2 := HG.out _ _ _ B4; by_cases hc : x.item.uv = y.item.uv; rotate_left; (focus (have d0 : decide (x.item.uv = y.item.uv) = false := (by simpa using hc); have HN := hide hc; clear hc; go_wp2; go_ret; exact ⟨ret_bool (Eq.symm (decide_eq_false (fun h => HN.out (by rw [h])))), h2⟩)); have d2 : decide (x.item.uv = y.item.uv) = true := (by simpa using hc); have H2 := hide hc; clear hc)
    | (go_at_call 107; refine Calls.mono (equal3 _ _ x.item.tris y.item.tris _ w.heap.size (S3.out _ h2) (T3.out _ h2) h2.size) ?_; rintro _ w3 ⟨rfl, n3⟩; have B5 := Box.of_below n3 B3; have B6 := Box.of_below n3 B4; have h3 : Below w.heap.size w w3 := bstep h2 n3; clear bc1 bc2; have bc1 := HF.out _ _ _ B5; have bc2 := HG.out _ _ _ B6; by_cases hc : x.item.tris = y.item.tris; rotate_left; (focus (have d0 : decide (x.item.tris = y.item.tris) = false := (by simpa using hc); have HN := hide hc; clear hc; go_wp2; go_ret; exact ⟨ret_bool (Eq.symm (decide_eq_false (fun h => HN.out (by rw [h])))), h3⟩)); have d3 : decide (x.item.tris = y.item.tris) = true := (by simpa using hc); have H3 := hide hc; clear hc)
    | (refine wpList_load_atg 49 (.tmp 32) rfl (by kernel_rfl) w.heap.size 3 rfl x.item.look.enc _ (HP.out _ _ _ B5.at).1 Try.underlying49 rfl (infLook _) ?_)
    | (refine wpList_load_atg 49 (.tmp 35) rfl (by kernel_rfl) (w.heap.size + 1) 3 rfl y.item.look.enc _ (HQ.out _ _ _ B6.at).1 Try.underlying49 rfl (infLook _) ?_; by_cases hc : x.item.look = y.item.look; rotate_left; (focus (have d0 : decide (x.item.look = y.item.look) = false := (by simpa using hc); have HN := hide hc; clear hc; go_wp2; go_ret; exact ⟨ret_bool (Eq.symm (decide_eq_false (fun h => HN.out (by rw [h])))), h3⟩)); have d4 : decide (x.item.look = y.item.look) = true := (by simpa using hc); have H4 := hide hc; clear hc)
    | (refine wpList_load_atg 51 (.tmp 41) rfl (by kernel_rfl) w.heap.size 12 rfl x.item.box.enc _ (HP.out _ _ _ B5.at).2 Try.underlying51 rfl (infBox _) ?_)
    | (refine wpList_load_atg 51 (.tmp 44) rfl (by kernel_rfl) (w.heap.size + 1) 12 rfl y.item.box.enc _ (HQ.out _ _ _ B6.at).2 Try.underlying51 rfl (infBox _) ?_; by_cases hc : x.item.box = y.item.box; rotate_left; (focus (have d0 : decide (x.item.box = y.item.box) = false := (by simpa using hc); have HN := hide hc; clear hc; go_wp2; go_ret; exact ⟨ret_bool (Eq.symm (decide_eq_false (fun h => HN.out (by rw [h])))), h3⟩)); have d5 : decide (x.item.box = y.item.box) = true := (by simpa using hc); have H5 := hide hc; clear hc; by_cases hc : x.on = y.on; rotate_left; (focus (have d0 : (x.on == y.on) = false := (by simpa using hc); have HN := hide hc; clear hc; go_wp2; go_ret; exact ⟨ret_bool (Eq.symm (decide_eq_false (fun h => HN.out (by rw [h])))), h3⟩)); have d6 : (x.on == y.on) = true := (by simpa using hc); have H6 := hide hc; clear hc)
    | (go_at_call 108; refine Calls.mono (equalGate _ _ x.gates y.gates _ w.heap.size (S4.out _ h3) (T4.out _ h3) h3.size) ?_; rintro _ w4 ⟨rfl, n4⟩; have h4 : Below w.heap.size w w4 := bstep h3 n4; by_cases hc : x.gates = y.gates; rotate_left; (focus (have d0 : decide (x.gates = y.gates) = false := (by simpa using hc); have HN := hide hc; clear hc; go_wp2; go_ret; exact ⟨ret_bool (Eq.symm (decide_eq_false (fun h => HN.out (by rw [h])))), h4⟩)); have d7 : decide (x.gates = y.gates) = true := (by simpa using hc); have H7 := hide hc; clear hc))
  go_ret
  refine ⟨ret_bool (Eq.symm (decide_eq_true ?_)), h4⟩
  have e1 := H1.out; have e2 := H2.out; have e3 := H3.out; have e4 := H4.out; have e5 := H5.out; have e6 := H6.out; have e7 := H7.out
  rcases x with ⟨⟨_, _, _, _, _⟩, _, _⟩
  rcases y with ⟨⟨_, _, _, _, _⟩, _, _⟩
  simp only [DPlace.mk.injEq, DItem.mk.injEq] at *
  exact ⟨⟨e1, e2, e3, e4, e5⟩, e6, e7⟩

end Go.Proofs.Ytbflmipddiaiaaa
