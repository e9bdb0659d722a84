/-
  Items: copies and comparisons.
-/
import Derived.Test.YtbflmipddiaiaaaTex
import Derived.Test.YtbflmipddiaiaaaOrd
namespace Go.Proofs.Ytbflmipddiaiaaa
open Go.RowKit

/-- An item of one's own: its 18 cells. -/
def OItem : Ro DItem := fun w lo cs x => ∃ a b c, cs = a :: b :: c :: (x.look.enc ++ x.box.enc) ∧ Ow 25 3 RVec w lo a x.verts ∧ Ow 143 2 R2 w lo b x.uv ∧ Ow 55 3 R3 w lo c x.tris ∧ x.look.ok ∧ x.box.ok
theorem OItem.stays {S : TypeId → Prop} (h1 : S 25) (h2 : S 143) (h3 : S 55) : OStays S OItem := by
  rintro w w' lo lo' cs x ⟨a, b, c, rfl, o1, o2, o3, h⟩ hk hlo
  exact ⟨a, b, c, rfl, Ow.stays (flat_ostays _ _ _) h1 _ _ _ _ _ _ o1 hk hlo, Ow.stays (flat_ostays _ _ _) h2 _ _ _ _ _ _ o2 hk hlo, Ow.stays (flat_ostays _ _ _) h3 _ _ _ _ _ _ o3 hk hlo, h⟩
theorem OItem.rd {w : World} {lo : Nat} {cs : List Value} {x : DItem} (h : OItem w lo cs x) : RItem w w.heap.size cs x := by
  obtain ⟨a, b, c, rfl, o1, o2, o3, h1, h2⟩ := h
  exact ⟨a, b, c, rfl, o1.slf, o2.slf, o3.slf, h1, h2⟩
def DItem.small (x : DItem) : Prop := x.verts.length ≤ 20000 ∧ x.uv.length ≤ 20000 ∧ x.tris.length ≤ 20000

set_option maxHeartbeats 1000000 in
set_option maxRecDepth 100000 in
theorem item_ref (x : DItem) (a b c : Value) (w : World) (B : Nat) (hB : B ≤ w.heap.size) (ha : Sl 3 RVec w B a x.verts) (hb : Sl 2 R2 w B b x.uv) (hc : Sl 3 R3 w B c x.tris) (hl : x.look.ok) (hbx : x.box.ok) (hs : x.small) :
    Calls Try.prog 42 #[.agg #[a, b, c, .int .u8 x.look.color.r, .int .u8 x.look.color.g, .int .u8 x.look.color.b, .int .u8 x.look.color.a, .int .i64 x.look.texture, .int .u8 x.look.cull, .int .i64 x.look.bias, .bool x.look.blend, .int .i64 x.look.bin, .int .i64 x.box.low.x, .int .i64 x.box.low.y, .int .i64 x.box.low.z, .int .i64 x.box.high.x, .int .i64 x.box.high.y, .int .i64 x.box.high.z]] w (RetIs (fun v w' => ∃ cs, v = .agg cs.toArray ∧ OItem w' w.heap.size cs x) w) := by
  obtain ⟨A, ca, rfl, _, _, _⟩ := ha.form
  obtain ⟨A', cb, rfl, _, _, _⟩ := hb.form
  obtain ⟨A'', cc, rfl, _, _, _⟩ := hc.form
  have HA := hide (fun W (h : Below w.heap.size w W) => Sl.stays (FlatOk.stays _ _) _ W _ w.heap.size _ _ ha (Agree.of h hB) hB)
  have HB := hide (fun W (h : Below w.heap.size w W) => Sl.stays (FlatOk.stays _ _) _ W _ w.heap.size _ _ hb (Agree.of h hB) hB)
  have HC := hide (fun W (h : Below w.heap.size w W) => Sl.stays (FlatOk.stays _ _) _ W _ w.heap.size _ _ hc (Agree.of h hB) hB)
  have hn1 : Hid ((([] : List DVec).length + x.verts.length) * 24 ≤ 140737488355328 ∧ ([] : List DVec).length + x.verts.length ≤ 140737488355328) := by obtain ⟨h1, h2, h3⟩ := hs; exact ⟨by simp; omega, by simp; omega⟩
  have hn2 : Hid ((([] : List D2).length + x.uv.length) * 16 ≤ 140737488355328 ∧ ([] : List D2).length + x.uv.length ≤ 140737488355328) := by obtain ⟨h1, h2, h3⟩ := hs; exact ⟨by simp; omega, by simp; omega⟩
  have hn3 : Hid ((([] : List D3).length + x.tris.length) * 24 ≤ 140737488355328 ∧ ([] : List D3).length + x.tris.length ≤ 140737488355328) := by obtain ⟨h1, h2, h3⟩ := hs; exact ⟨by simp; omega, by simp; omega⟩
  have HL := hide hl; have HX := hide hbx
  clear hl hbx hs ha hb hc
  have one0 : (#[.slice none 0 0, .slice none 0 0, .slice none 0 0, .int .u8 x.look.color.r, .int .u8 x.look.color.g, .int .u8 x.look.color.b, .int .u8 x.look.color.a, .int .i64 x.look.texture, .int .u8 x.look.cull, .int .i64 x.look.bias, .bool x.look.blend, .int .i64 x.look.bin, .int .i64 x.box.low.x, .int .i64 x.box.low.y, .int .i64 x.box.low.z, .int .i64 x.box.high.x, .int .i64 x.box.high.y, .int .i64 x.box.high.z] : Array Value).all (·.oneCell') = true := by simp [Value.oneCell']
  have one3 : ∀ A1 c1 A2 c2 A3 c3, (#[.slice A1 x.verts.length c1, .slice A2 x.uv.length c2, .slice A3 x.tris.length c3, .int .u8 x.look.color.r, .int .u8 x.look.color.g, .int .u8 x.look.color.b, .int .u8 x.look.color.a, .int .i64 x.look.texture, .int .u8 x.look.cull, .int .i64 x.look.bias, .bool x.look.blend, .int .i64 x.look.bin, .int .i64 x.box.low.x, .int .i64 x.box.low.y, .int .i64 x.box.low.z, .int .i64 x.box.high.x, .int .i64 x.box.high.y, .int .i64 x.box.high.z] : Array Value).all (·.oneCell') = true := by intros; simp [Value.oneCell']
  have inf : (Try.prog.info? 53).map (·.size) = some 18 := by kernel_rfl
  have HO := hide one0; have HO3 := hide one3; have HI := hide inf
  clear one0 one3 inf
  go_enter Try.func42, Try.ntmps42
  go_wp2_with (first
    | (refine wpList_store_box rfl 53 (.tmp 3) (.tmp 8) rfl (w.heap.size + 1 + 1) rfl #[.slice none 0 0, .slice none 0 0, .slice none 0 0, .int .u8 0, .int .u8 0, .int .u8 0, .int .u8 0, .int .i64 0, .int .u8 0, .int .i64 0, .bool false, .int .i64 0, .int .i64 0, .int .i64 0, .int .i64 0, .int .i64 0, .int .i64 0, .int .i64 0] #[.slice none 0 0, .slice none 0 0, .slice none 0 0, .int .u8 x.look.color.r, .int .u8 x.look.color.g, .int .u8 x.look.color.b, .int .u8 x.look.color.a, .int .i64 x.look.texture, .int .u8 x.look.cull, .int .i64 x.look.bias, .bool x.look.blend, .int .i64 x.look.bin, .int .i64 x.box.low.x, .int .i64 x.box.low.y, .int .i64 x.box.low.z, .int .i64 x.box.high.x, .int .i64 x.box.high.y, .int .i64 x.box.high.z] 53 rfl (al3c w _ _ _) rfl HI.out HO.out ?_; intro w0 B03 g0; have B01 := Box.of_grown (t := 53) g0 (al3a w _ _ _) (ne_opt (by omega)); have B02 := Box.of_grown (t := 53) g0 (al3b w _ _ _) (ne_opt (by omega)); have hw0 := below_gr (al3_below w _ _ _) g0 (by omega); have bc1 := B01.cell; have bc3 := B03.cell; have bf3 := B03.frozen)
    | (at_builtin; refine wpList_append_sl (enc := DVec.enc) (ok := DVec.ok) _ ETVec DVec.Enc rfl (.tmp 10) (.tmp 12) rfl w.heap.size (.slice none 0 0) ([] : List DVec) rfl (Ow.nil _ _ _ _ _) w.heap.size A x.verts.length ca x.verts rfl (HA.out _ (by (repeat (first | (with_reducible exact Below.refl _ _) | (with_reducible assumption) | (with_reducible apply Below.drew) | (with_reducible apply below_drewN) | ((with_reducible apply Below.alloc); rotate_left; (focus (first | omega | (simp <;> omega)))) | ((with_reducible apply Below.setCell); rotate_left; (focus (first | omega | (simp <;> omega)))) | ((with_reducible apply bstep); rotate_left; (focus with_reducible assumption)) | ((with_reducible apply below_gr); rotate_left; (focus with_reducible assumption); (focus (first | omega | (simp <;> omega)))))))) hn1 hw0.size ?_; intro v1 w1 o1 g1; simp only [List.nil_append] at o1; obtain ⟨A1, c1, hv1, _⟩ := o1.form; subst hv1; have n1 := below_none g1; have B1 := Box.of_below n1 B01; have B3 := Box.of_below n1 B03; have B2 := Box.of_below n1 B02; clear bc1 bc3 bf3; have bc1 := B1.cell; have bc3 := B3.cell; have bf3 := B3.frozen)
    | (at_builtin; refine wpList_append_sl (enc := D2.enc) (ok := D2.ok) _ ET2 D2.Enc rfl (.tmp 16) (.tmp 18) rfl w.heap.size (.slice none 0 0) ([] : List D2) rfl (Ow.nil _ _ _ _ _) w.heap.size A' x.uv.length cb x.uv rfl (HB.out _ (by (repeat (first | (with_reducible exact Below.refl _ _) | (with_reducible assumption) | (with_reducible apply Below.drew) | (with_reducible apply below_drewN) | ((with_reducible apply Below.alloc); rotate_left; (focus (first | omega | (simp <;> omega)))) | ((with_reducible apply Below.setCell); rotate_left; (focus (first | omega | (simp <;> omega)))) | ((with_reducible apply bstep); rotate_left; (focus with_reducible assumption)) | ((with_reducible apply below_gr); rotate_left; (focus with_reducible assumption); (focus (first | omega | (simp <;> omega)))))))) hn2 (by have := n1.size; have := hw0.size; simp only [World.size_setCell]; omega) ?_; intro v2 w2 o2 g2; simp only [List.nil_append] at o2; obtain ⟨A2, c2, hv2, _⟩ := o2.form; subst hv2; have n2 := below_none g2; have B1' := Box.of_below n2 (B1.far (p := ⟨w.heap.size + 1 + 1, 0, none⟩) (by show _ ≠ w.heap.size + 1 + 1; omega) _); have B3' := Box.of_below n2 (B3.set 0 _); have B2' := Box.of_below n2 (B2.far (p := ⟨w.heap.size + 1 + 1, 0, none⟩) (by show _ ≠ w.heap.size + 1 + 1; omega) _); clear bc1 bc3 bf3; have bc1 := B1'.cell; have bc3 := B3'.cell; have bf3 := B3'.frozen)
    | (at_builtin; refine wpList_append_sl (enc := D3.enc) (ok := D3.ok) _ ET3 D3.Enc rfl (.tmp 22) (.tmp 24) rfl w.heap.size (.slice none 0 0) ([] : List D3) rfl (Ow.nil _ _ _ _ _) w.heap.size A'' x.tris.length cc x.tris rfl (HC.out _ (by (repeat (first | (with_reducible exact Below.refl _ _) | (with_reducible assumption) | (with_reducible apply Below.drew) | (with_reducible apply below_drewN) | ((with_reducible apply Below.alloc); rotate_left; (focus (first | omega | (simp <;> omega)))) | ((with_reducible apply Below.setCell); rotate_left; (focus (first | omega | (simp <;> omega)))) | ((with_reducible apply bstep); rotate_left; (focus with_reducible assumption)) | ((with_reducible apply below_gr); rotate_left; (focus with_reducible assumption); (focus (first | omega | (simp <;> omega)))))))) hn3 (by have := n1.size; have := n2.size; have := hw0.size; simp only [World.size_setCell] at *; omega) ?_; intro v3 w3 o3 g3; simp only [List.nil_append] at o3; obtain ⟨A3, c3, hv3, _⟩ := o3.form; subst hv3; have n3 := below_none g3; have B1'' := Box.of_below n3 (B1'.far (p := ⟨w.heap.size + 1 + 1, 1, none⟩) (by show _ ≠ w.heap.size + 1 + 1; omega) _); have B3'' := Box.of_below n3 (B3'.set 1 _); have B2'' := Box.of_below n3 (B2'.far (p := ⟨w.heap.size + 1 + 1, 1, none⟩) (by show _ ≠ w.heap.size + 1 + 1; omega) _); clear bc1 bc3 bf3; have bc1 := B1''.cell; have bc3 := B3''.cell; have bf3 := B3''.frozen; have B3f : Box (w3.setCell ⟨w.heap.size + 1 + 1, 2, none⟩ (.slice A3 x.tris.length c3)) (w.heap.size + 1 + 1) #[.slice A1 x.verts.length c1, .slice A2 x.uv.length c2, .slice A3 x.tris.length c3, .int .u8 x.look.color.r, .int .u8 x.look.color.g, .int .u8 x.look.color.b, .int .u8 x.look.color.a, .int .i64 x.look.texture, .int .u8 x.look.cull, .int .i64 x.look.bias, .bool x.look.blend, .int .i64 x.look.bin, .int .i64 x.box.low.x, .int .i64 x.box.low.y, .int .i64 x.box.low.z, .int .i64 x.box.high.x, .int .i64 x.box.high.y, .int .i64 x.box.high.z] 53 := B3''.set 2 _; have B2f := B2''.far (p := ⟨w.heap.size + 1 + 1, 2, none⟩) (by show _ ≠ w.heap.size + 1 + 1; omega) (.slice A3 x.tris.length c3))
    | (refine wpList_load_row rfl 53 (.tmp 3) rfl _ rfl _ _ _ _ B3f Try.underlying53 rfl (by kernel_rfl) ?_)
    | (refine wpList_store_box rfl 53 (.tmp 2) (.tmp 27) rfl _ rfl _ #[.slice A1 x.verts.length c1, .slice A2 x.uv.length c2, .slice A3 x.tris.length c3, .int .u8 x.look.color.r, .int .u8 x.look.color.g, .int .u8 x.look.color.b, .int .u8 x.look.color.a, .int .i64 x.look.texture, .int .u8 x.look.cull, .int .i64 x.look.bias, .bool x.look.blend, .int .i64 x.look.bin, .int .i64 x.box.low.x, .int .i64 x.box.low.y, .int .i64 x.box.low.z, .int .i64 x.box.high.x, .int .i64 x.box.high.y, .int .i64 x.box.high.z] _ rfl B2f rfl HI.out (HO3.out _ _ _ _ _ _) ?_; intro w4 B4 g4))
  refine bodyPost_ret (results_cell_row Try.results42 _ _ _ _ _ _ _ rfl B4 Try.underlying53 rfl (by kernel_rfl)) rfl ?_
  refine ⟨_, rfl, ⟨_ :: _ :: _ :: (x.look.enc ++ x.box.enc), rfl, _, _, _, rfl, ?_, ?_, ?_, HL.out, HX.out⟩, by (repeat (first | (with_reducible exact Below.refl _ _) | (with_reducible assumption) | (with_reducible apply Below.drew) | (with_reducible apply below_drewN) | ((with_reducible apply Below.alloc); rotate_left; (focus (first | omega | (simp <;> omega)))) | ((with_reducible apply Below.setCell); rotate_left; (focus (first | omega | (simp <;> omega)))) | ((with_reducible apply bstep); rotate_left; (focus with_reducible assumption)) | ((with_reducible apply below_gr); rotate_left; (focus with_reducible assumption); (focus (first | omega | (simp <;> omega))))))⟩
  · exact Ow.stays (S := (· ≠ 53)) (flat_ostays _ _ _) (by decide) _ _ _ _ _ _ o1 (by (repeat (first | (with_reducible exact Kp.refl _ _) | (with_reducible apply Kp.drewN) | (with_reducible apply Kp.drew) | (with_reducible apply Kp.alloc) | ((with_reducible apply Kp.set); rotate_left; (focus (repeat (first | (with_reducible assumption) | ((with_reducible apply Box.is); (focus with_reducible assumption)) | (with_reducible apply IsBox.set) | (with_reducible apply IsBox.alloc) | ((with_reducible apply IsBox.below); rotate_left; (focus with_reducible assumption))))); (focus decide)) | ((with_reducible apply Kp.bel); rotate_left; (focus with_reducible assumption)) | ((with_reducible apply Kp.gr); rotate_left; (focus with_reducible assumption); (focus (repeat (first | (with_reducible assumption) | ((with_reducible apply Box.is); (focus with_reducible assumption)) | (with_reducible apply IsBox.set) | (with_reducible apply IsBox.alloc) | ((with_reducible apply IsBox.below); rotate_left; (focus with_reducible assumption))))); (focus decide))))) (Nat.le_refl _)
  · exact Ow.stays (S := (· ≠ 53)) (flat_ostays _ _ _) (by decide) _ _ _ _ _ _ o2 (by (repeat (first | (with_reducible exact Kp.refl _ _) | (with_reducible apply Kp.drewN) | (with_reducible apply Kp.drew) | (with_reducible apply Kp.alloc) | ((with_reducible apply Kp.set); rotate_left; (focus (repeat (first | (with_reducible assumption) | ((with_reducible apply Box.is); (focus with_reducible assumption)) | (with_reducible apply IsBox.set) | (with_reducible apply IsBox.alloc) | ((with_reducible apply IsBox.below); rotate_left; (focus with_reducible assumption))))); (focus decide)) | ((with_reducible apply Kp.bel); rotate_left; (focus with_reducible assumption)) | ((with_reducible apply Kp.gr); rotate_left; (focus with_reducible assumption); (focus (repeat (first | (with_reducible assumption) | ((with_reducible apply Box.is); (focus with_reducible assumption)) | (with_reducible apply IsBox.set) | (with_reducible apply IsBox.alloc) | ((with_reducible apply IsBox.below); rotate_left; (focus with_reducible assumption))))); (focus decide))))) (Nat.le_refl _)
  · exact Ow.stays (S := (· ≠ 53)) (flat_ostays _ _ _) (by decide) _ _ _ _ _ _ o3 (by (repeat (first | (with_reducible exact Kp.refl _ _) | (with_reducible apply Kp.drewN) | (with_reducible apply Kp.drew) | (with_reducible apply Kp.alloc) | ((with_reducible apply Kp.set); rotate_left; (focus (repeat (first | (with_reducible assumption) | ((with_reducible apply Box.is); (focus with_reducible assumption)) | (with_reducible apply IsBox.set) | (with_reducible apply IsBox.alloc) | ((with_reducible apply IsBox.below); rotate_left; (focus with_reducible assumption))))); (focus decide)) | ((with_reducible apply Kp.bel); rotate_left; (focus with_reducible assumption)) | ((with_reducible apply Kp.gr); rotate_left; (focus with_reducible assumption); (focus (repeat (first | (with_reducible assumption) | ((with_reducible apply Box.is); (focus with_reducible assumption)) | (with_reducible apply IsBox.set) | (with_reducible apply IsBox.alloc) | ((with_reducible apply IsBox.below); rotate_left; (focus with_reducible assumption))))); (focus decide))))) (Nat.le_refl _)

set_option maxRecDepth 100000 in
set_option maxHeartbeats 1000000 in
theorem item_world (x : DItem) (a b c : Value) (w : World) (B : Nat) (hB : B ≤ w.heap.size) (ha : Sl 3 RVec w B a x.verts) (hb : Sl 2 R2 w B b x.uv) (hc : Sl 3 R3 w B c x.tris) (hl : x.look.ok) (hbx : x.box.ok) (hs : x.small) :
    Calls Try.prog 45 #[.agg #[a, b, c, .int .u8 x.look.color.r, .int .u8 x.look.color.g, .int .u8 x.look.color.b, .int .u8 x.look.color.a, .int .i64 x.look.texture, .int .u8 x.look.cull, .int .i64 x.look.bias, .bool x.look.blend, .int .i64 x.look.bin, .int .i64 x.box.low.x, .int .i64 x.box.low.y, .int .i64 x.box.low.z, .int .i64 x.box.high.x, .int .i64 x.box.high.y, .int .i64 x.box.high.z]] w (RetIs (fun v w' => ∃ cs, v = .agg cs.toArray ∧ OItem w' w.heap.size cs x) w) := by
  obtain ⟨A, ca, rfl, _, _, _⟩ := ha.form
  obtain ⟨A', cb, rfl, _, _, _⟩ := hb.form
  obtain ⟨A'', cc, rfl, _, _, _⟩ := hc.form
  have HA := hide (fun W (h : Below w.heap.size w W) => Sl.stays (FlatOk.stays _ _) _ W _ w.heap.size _ _ ha (Agree.of h hB) hB)
  have HB := hide (fun W (h : Below w.heap.size w W) => Sl.stays (FlatOk.stays _ _) _ W _ w.heap.size _ _ hb (Agree.of h hB) hB)
  have HC := hide (fun W (h : Below w.heap.size w W) => Sl.stays (FlatOk.stays _ _) _ W _ w.heap.size _ _ hc (Agree.of h hB) hB)
  have hn1 : Hid (x.verts.length * 24 ≤ 140737488355328) := by obtain ⟨h1, h2, h3⟩ := hs; exact hide (by omega)
  have hn2 : Hid (x.uv.length * 16 ≤ 140737488355328) := by obtain ⟨h1, h2, h3⟩ := hs; exact hide (by omega)
  have hn3 : Hid (x.tris.length * 24 ≤ 140737488355328) := by obtain ⟨h1, h2, h3⟩ := hs; exact hide (by omega)
  have HL := hide hl; have HX := hide hbx
  clear hl hbx hs ha hb hc
  have one3 : ∀ A1 c1 A2 c2 A3 c3, (#[.slice A1 x.verts.length c1, .slice A2 x.uv.length c2, .slice A3 x.tris.length c3, .int .u8 x.look.color.r, .int .u8 x.look.color.g, .int .u8 x.look.color.b, .int .u8 x.look.color.a, .int .i64 x.look.texture, .int .u8 x.look.cull, .int .i64 x.look.bias, .bool x.look.blend, .int .i64 x.look.bin, .int .i64 x.box.low.x, .int .i64 x.box.low.y, .int .i64 x.box.low.z, .int .i64 x.box.high.x, .int .i64 x.box.high.y, .int .i64 x.box.high.z] : Array Value).all (·.oneCell') = true := by intros; simp [Value.oneCell']
  have inf : (Try.prog.info? 53).map (·.size) = some 18 := by kernel_rfl
  have HO3 := hide one3; have HI := hide inf
  clear one3 inf
  go_enter Try.func45, Try.ntmps45
  go_wp2_with fail
  have B1 := al2a w (.cells #[.slice A x.verts.length ca, .slice A' x.uv.length cb, .slice A'' x.tris.length cc, .int .u8 x.look.color.r, .int .u8 x.look.color.g, .int .u8 x.look.color.b, .int .u8 x.look.color.a, .int .i64 x.look.texture, .int .u8 x.look.cull, .int .i64 x.look.bias, .bool x.look.blend, .int .i64 x.look.bin, .int .i64 x.box.low.x, .int .i64 x.box.low.y, .int .i64 x.box.low.z, .int .i64 x.box.high.x, .int .i64 x.box.high.y, .int .i64 x.box.high.z] 53) (.cells #[.slice none 0 0, .slice none 0 0, .slice none 0 0, .int .u8 0, .int .u8 0, .int .u8 0, .int .u8 0, .int .i64 0, .int .u8 0, .int .i64 0, .bool false, .int .i64 0, .int .i64 0, .int .i64 0, .int .i64 0, .int .i64 0, .int .i64 0, .int .i64 0] 53)
  have B2 := al2b w (.cells #[.slice A x.verts.length ca, .slice A' x.uv.length cb, .slice A'' x.tris.length cc, .int .u8 x.look.color.r, .int .u8 x.look.color.g, .int .u8 x.look.color.b, .int .u8 x.look.color.a, .int .i64 x.look.texture, .int .u8 x.look.cull, .int .i64 x.look.bias, .bool x.look.blend, .int .i64 x.look.bin, .int .i64 x.box.low.x, .int .i64 x.box.low.y, .int .i64 x.box.low.z, .int .i64 x.box.high.x, .int .i64 x.box.high.y, .int .i64 x.box.high.z] 53) (.cells #[.slice none 0 0, .slice none 0 0, .slice none 0 0, .int .u8 0, .int .u8 0, .int .u8 0, .int .u8 0, .int .i64 0, .int .u8 0, .int .i64 0, .bool false, .int .i64 0, .int .i64 0, .int .i64 0, .int .i64 0, .int .i64 0, .int .i64 0, .int .i64 0] 53)
  have hw0 := al2_below w (.cells #[.slice A x.verts.length ca, .slice A' x.uv.length cb, .slice A'' x.tris.length cc, .int .u8 x.look.color.r, .int .u8 x.look.color.g, .int .u8 x.look.color.b, .int .u8 x.look.color.a, .int .i64 x.look.texture, .int .u8 x.look.cull, .int .i64 x.look.bias, .bool x.look.blend, .int .i64 x.look.bin, .int .i64 x.box.low.x, .int .i64 x.box.low.y, .int .i64 x.box.low.z, .int .i64 x.box.high.x, .int .i64 x.box.high.y, .int .i64 x.box.high.z] 53) (.cells #[.slice none 0 0, .slice none 0 0, .slice none 0 0, .int .u8 0, .int .u8 0, .int .u8 0, .int .u8 0, .int .i64 0, .int .u8 0, .int .i64 0, .bool false, .int .i64 0, .int .i64 0, .int .i64 0, .int .i64 0, .int .i64 0, .int .i64 0, .int .i64 0] 53)
  have hz0 : w.heap.size + 1 < ((w.alloc (.cells #[.slice A x.verts.length ca, .slice A' x.uv.length cb, .slice A'' x.tris.length cc, .int .u8 x.look.color.r, .int .u8 x.look.color.g, .int .u8 x.look.color.b, .int .u8 x.look.color.a, .int .i64 x.look.texture, .int .u8 x.look.cull, .int .i64 x.look.bias, .bool x.look.blend, .int .i64 x.look.bin, .int .i64 x.box.low.x, .int .i64 x.box.low.y, .int .i64 x.box.low.z, .int .i64 x.box.high.x, .int .i64 x.box.high.y, .int .i64 x.box.high.z] 53)).alloc (.cells #[.slice none 0 0, .slice none 0 0, .slice none 0 0, .int .u8 0, .int .u8 0, .int .u8 0, .int .u8 0, .int .i64 0, .int .u8 0, .int .i64 0, .bool false, .int .i64 0, .int .i64 0, .int .i64 0, .int .i64 0, .int .i64 0, .int .i64 0, .int .i64 0] 53)).heap.size := Box.lt B2
  generalize ((w.alloc (.cells #[.slice A x.verts.length ca, .slice A' x.uv.length cb, .slice A'' x.tris.length cc, .int .u8 x.look.color.r, .int .u8 x.look.color.g, .int .u8 x.look.color.b, .int .u8 x.look.color.a, .int .i64 x.look.texture, .int .u8 x.look.cull, .int .i64 x.look.bias, .bool x.look.blend, .int .i64 x.look.bin, .int .i64 x.box.low.x, .int .i64 x.box.low.y, .int .i64 x.box.low.z, .int .i64 x.box.high.x, .int .i64 x.box.high.y, .int .i64 x.box.high.z] 53)).alloc (.cells #[.slice none 0 0, .slice none 0 0, .slice none 0 0, .int .u8 0, .int .u8 0, .int .u8 0, .int .u8 0, .int .i64 0, .int .u8 0, .int .i64 0, .bool false, .int .i64 0, .int .i64 0, .int .i64 0, .int .i64 0, .int .i64 0, .int .i64 0, .int .i64 0] 53)) = w0 at *
  have HC0 : (fun w' : World => w'.cell? ⟨w.heap.size, 0, none⟩ = some (.slice A x.verts.length ca) ∧ w'.cell? ⟨w.heap.size, 1, none⟩ = some (.slice A' x.uv.length cb) ∧ w'.cell? ⟨w.heap.size, 2, none⟩ = some (.slice A'' x.tris.length cc)) w0.drew := ⟨(Box.cell B1 0), (Box.cell B1 1), (Box.cell B1 2)⟩
  refine wp_region_L (fun w' => w'.cell? ⟨w.heap.size, 0, none⟩ = some (.slice A x.verts.length ca) ∧ w'.cell? ⟨w.heap.size, 1, none⟩ = some (.slice A' x.uv.length cb) ∧ w'.cell? ⟨w.heap.size, 2, none⟩ = some (.slice A'' x.tris.length cc)) 10 (by kernel_rfl) ?_
  refine anyL_take 0 (v := .pointer (some ⟨w.heap.size, 0, none⟩)) rfl (by kernel_rfl) (fun _ _ _ h => h) HC0 (yieldsIf_of rfl (fun w' hC => by go_simp)) ?_
  refine anyL_take 1 (v := .slice A x.verts.length ca) rfl (by kernel_rfl) (fun _ _ _ h => h) HC0 (yieldsIf_of rfl (fun w' hC => by go_simp)) ?_
  refine anyL_take 3 (v := .pointer (some ⟨w.heap.size, 1, none⟩)) rfl (by kernel_rfl) (fun _ _ _ h => h) HC0 (yieldsIf_of rfl (fun w' hC => by go_simp)) ?_
  refine anyL_take 4 (v := .slice A' x.uv.length cb) rfl (by kernel_rfl) (fun _ _ _ h => h) HC0 (yieldsIf_of rfl (fun w' hC => by go_simp)) ?_
  refine anyL_take 6 (v := .pointer (some ⟨w.heap.size, 2, none⟩)) rfl (by kernel_rfl) (fun _ _ _ h => h) HC0 (yieldsIf_of rfl (fun w' hC => by go_simp)) ?_
  refine anyL_take 7 (v := .slice A'' x.tris.length cc) rfl (by kernel_rfl) (fun _ _ _ h => h) HC0 (yieldsIf_of rfl (fun w' hC => by go_simp)) ?_
  refine anyL_one 2 rfl (by kernel_rfl) rfl (fun K hK => ?_)
  go_simp
  refine Calls.mono (cloneVec _ x.verts _ w.heap.size (HA.out _ ?_) ?_ hn1) ?_
  · exact hw0.drew
  · exact hw0.size
  rintro _ w1 ⟨v1, rfl, o1, n1⟩
  obtain ⟨A1, c1, rfl, _⟩ := o1.form
  have B1a := Box.of_below (w := w0.drew) n1 B1
  have B2a := Box.of_below (w := w0.drew) n1 B2
  have hz1 : w0.heap.size ≤ w1.heap.size := n1.size
  have h01 : Below w.heap.size w w1 := bstep (b := w0.drew) hw0.drew n1
  have HC0 : (fun w' : World => w'.cell? ⟨w.heap.size, 0, none⟩ = some (.slice A x.verts.length ca) ∧ w'.cell? ⟨w.heap.size, 1, none⟩ = some (.slice A' x.uv.length cb) ∧ w'.cell? ⟨w.heap.size, 2, none⟩ = some (.slice A'' x.tris.length cc)) w1 := ⟨(Box.cell B1a 0), (Box.cell B1a 1), (Box.cell B1a 2)⟩
  refine hK _ _ (fun _ => HC0) ?_
  refine anyL_take 9 (v := .pointer (some ⟨w.heap.size, 0, none⟩)) rfl (by kernel_rfl) (fun _ _ _ h => h) HC0 (yieldsIf_of rfl (fun w' hC => by go_simp)) ?_
  refine anyL_one 5 rfl (by kernel_rfl) rfl (fun K hK => ?_)
  go_simp
  refine Calls.mono (clone2 _ x.uv _ w.heap.size (HB.out _ h01) h01.size hn2) ?_
  rintro _ w2 ⟨v2, rfl, o2, n2⟩
  obtain ⟨A2, c2, rfl, _⟩ := o2.form
  have B1b := Box.of_below n2 B1a
  have B2b := Box.of_below n2 B2a
  have h02 : Below w.heap.size w w2 := bstep h01 n2
  refine hK _ _ (fun _ => ⟨(Box.cell B1b 0), (Box.cell B1b 1), (Box.cell B1b 2)⟩) ?_
  refine anyL_one 8 rfl (by kernel_rfl) rfl (fun K hK => ?_)
  go_simp
  refine Calls.mono (clone3 _ x.tris _ w.heap.size (HC.out _ h02) h02.size hn3) ?_
  rintro _ w3 ⟨v3, rfl, o3, n3⟩
  obtain ⟨A3, c3, rfl, _⟩ := o3.form
  have B1c := Box.of_below n3 B1b
  have B2c := Box.of_below n3 B2b
  have h03 : Below w.heap.size w w3 := bstep h02 n3
  refine hK _ _ (fun _ => ⟨(Box.cell B1c 0), (Box.cell B1c 1), (Box.cell B1c 2)⟩) ?_
  have bc1 := Box.cell B1c
  have bf1 := Box.frozen B1c
  refine anyL_one 10 rfl (by kernel_rfl) rfl (fun K hK => ?_)
  go_simp
  refine hK _ _ (fun h => by cases h) ?_
  have B1d := B1c.set 0 (.slice A1 x.verts.length c1)
  have B2d := B2c.far (p := ⟨w.heap.size, 0, none⟩) (by show _ ≠ w.heap.size; omega) (.slice A1 x.verts.length c1)
  clear bc1 bf1
  have bc1 := Box.cell B1d
  have bf1 := Box.frozen B1d
  refine anyL_one 11 rfl (by kernel_rfl) rfl (fun K hK => ?_)
  go_simp
  refine hK _ _ (fun h => by cases h) ?_
  refine anyL_one 12 rfl (by kernel_rfl) rfl (fun K hK => ?_)
  go_simp
  refine hK _ _ (fun h => by cases h) ?_
  have B1e := B1d.set 1 (.slice A2 x.uv.length c2)
  have B2e := B2d.far (p := ⟨w.heap.size, 1, none⟩) (by show _ ≠ w.heap.size; omega) (.slice A2 x.uv.length c2)
  clear bc1 bf1
  have bc1 := Box.cell B1e
  have bf1 := Box.frozen B1e
  refine anyL_one 13 rfl (by kernel_rfl) rfl (fun K hK => ?_)
  go_simp
  refine hK _ _ (fun h => by cases h) ?_
  refine anyL_one 14 rfl (by kernel_rfl) rfl (fun K hK => ?_)
  go_simp
  refine hK _ _ (fun h => by cases h) ?_
  have B1f : Box _ w.heap.size #[.slice A1 x.verts.length c1, .slice A2 x.uv.length c2, .slice A3 x.tris.length c3, .int .u8 x.look.color.r, .int .u8 x.look.color.g, .int .u8 x.look.color.b, .int .u8 x.look.color.a, .int .i64 x.look.texture, .int .u8 x.look.cull, .int .i64 x.look.bias, .bool x.look.blend, .int .i64 x.look.bin, .int .i64 x.box.low.x, .int .i64 x.box.low.y, .int .i64 x.box.low.z, .int .i64 x.box.high.x, .int .i64 x.box.high.y, .int .i64 x.box.high.z] 53 := B1e.set 2 (.slice A3 x.tris.length c3)
  have B2f := B2e.far (p := ⟨w.heap.size, 2, none⟩) (by show _ ≠ w.heap.size; omega) (.slice A3 x.tris.length c3)
  clear bc1 bf1
  refine anyL_done (by kernel_rfl) ?_
  go_wp2_with (first
    | (refine wpList_load_row rfl 53 (.tmp 1) rfl _ rfl _ _ _ _ B1f Try.underlying53 rfl (by kernel_rfl) ?_)
    | (refine wpList_store_box rfl 53 (.tmp 2) (.tmp 15) rfl _ rfl _ #[.slice A1 x.verts.length c1, .slice A2 x.uv.length c2, .slice A3 x.tris.length c3, .int .u8 x.look.color.r, .int .u8 x.look.color.g, .int .u8 x.look.color.b, .int .u8 x.look.color.a, .int .i64 x.look.texture, .int .u8 x.look.cull, .int .i64 x.look.bias, .bool x.look.blend, .int .i64 x.look.bin, .int .i64 x.box.low.x, .int .i64 x.box.low.y, .int .i64 x.box.low.z, .int .i64 x.box.high.x, .int .i64 x.box.high.y, .int .i64 x.box.high.z] _ rfl B2f rfl HI.out (HO3.out _ _ _ _ _ _) ?_; intro w4 B4 g4))
  refine bodyPost_ret (results_cell_row Try.results45 _ _ _ _ _ _ _ rfl B4 Try.underlying53 rfl (by kernel_rfl)) rfl ?_
  have K0 : Kp (· ≠ 53) w3 w4 := by
    refine Kp.trans (b := (((w3.setCell ⟨w.heap.size, 0, none⟩ (.slice A1 x.verts.length c1)).setCell ⟨w.heap.size, 1, none⟩ (.slice A2 x.uv.length c2)).setCell ⟨w.heap.size, 2, none⟩ (.slice A3 x.tris.length c3))) ?_ ?_
    · exact ((((Kp.refl _ _).set B1c.is (by decide) _).set B1d.is (by decide) _).set B1e.is (by decide) _)
    · exact (Kp.refl _ _).gr g4 B2f.is (by decide)
  refine ⟨_, rfl, ⟨_ :: _ :: _ :: (x.look.enc ++ x.box.enc), rfl, _, _, _, rfl, ?_, ?_, ?_, HL.out, HX.out⟩, ?_⟩
  · exact Ow.stays (S := (· ≠ 53)) (flat_ostays _ _ _) (by decide) _ _ _ _ _ _ o1 (((Kp.below n2 _).bel n3).trans K0) hw0.size
  · exact Ow.stays (S := (· ≠ 53)) (flat_ostays _ _ _) (by decide) _ _ _ _ _ _ o2 ((Kp.below n3 _).trans K0) h01.size
  · exact Ow.stays (S := (· ≠ 53)) (flat_ostays _ _ _) (by decide) _ _ _ _ _ _ o3 K0 h02.size
  · refine below_gr ?_ g4 (by omega)
    exact ((h03.setCell (by simp) _).setCell (by simp) _).setCell (by simp) _

end Go.Proofs.Ytbflmipddiaiaaa
