/-
  What is drawn of places: the reference's Show.
-/
import Derived.Test.YtbflmipddiaiaaaShow
import Derived.Laws.ResultCell
import Derived.Deep.Cut
namespace Go.Proofs.Ytbflmipddiaiaaa
open Go.RowKit

def showItem (p : DPlace) (v : DVec) : DItem := if shownB p v then p.item else { p.item with tris := [] }
def showOf (l : List DPlace) (t : List DTexture) (v : DVec) : DShow := ⟨l.map (showItem · v), t⟩

theorem RTexture.len {w : World} {B : Nat} {cs : List Value} {x : DTexture} (h : RTexture w B cs x) : cs.length = 3 := by
  obtain ⟨a, rfl, _⟩ := h
  rfl
theorem RTexture.one {w : World} {B : Nat} {cs : List Value} {x : DTexture} (h : RTexture w B cs x) : cs.all (·.oneCell') = true := by
  obtain ⟨a, rfl, _, _, h3⟩ := h
  obtain ⟨_, _, rfl, _⟩ := h3.form
  simp [Value.oneCell']
theorem infTex : (Try.prog.info? 128).map (·.size) = some 3 := by kernel_rfl
def DTexture.small (x : DTexture) : Prop := x.texels.length ≤ 20000

theorem twinTex' (x : DTexture) (cs : List Value) (w : World) (B : Nat) (hB : B ≤ w.heap.size) (h : RTexture w B cs x) (hs : x.small) :
    Calls Try.prog 43 #[.agg cs.toArray] w (RetIs (fun v w' => ∃ cs, v = .agg cs.toArray ∧ OTexture w' w.heap.size cs x) w) := by
  obtain ⟨a, rfl, h1, h2, h3⟩ := h
  exact twinTex x a w B hB h1 h2 h3 (hide (by unfold DTexture.small at hs; omega))
theorem twinTex_ref' (x : DTexture) (cs : List Value) (w : World) (B : Nat) (hB : B ≤ w.heap.size) (h : RTexture w B cs x) (hs : x.small) :
    Calls Try.prog 48 #[.agg cs.toArray] w (RetIs (fun v w' => ∃ cs, v = .agg cs.toArray ∧ OTexture w' w.heap.size cs x) w) := by
  obtain ⟨a, rfl, h1, h2, h3⟩ := h
  exact twinTex_ref x a w B hB h1 h2 h3 (hide (by unfold DTexture.small at hs; omega))

theorem Ow.shape {α : Type} {e size : Nat} {O : Ro α} {w : World} {lo : Nat} {v : Value} {xs : List α} (h : Ow e size O w lo v xs) : ∃ A n c, v = Value.slice A n c := by
  obtain ⟨A, c, h, _⟩ := h.form
  exact ⟨_, _, _, h⟩
/-- Two results, the first of them a struct in a box. -/
theorem results_box_tmp {P : Program} {fn : Func} {p u : Tmp} {ty : TypeId} (h : fn.results = #[.cell p ty, .tmp u]) (tmps : Array Value) (w : World) (g : Nat) (t : TypeId) (cs : List Value) (d : TypeDesc) (v : Value)
    (hp : tmps.getD p undef = .pointer (some ⟨g, 0, none⟩)) (hv : tmps.getD u undef = v) (hg : Box w g cs.toArray t)
    (hu : P.underlying ty = some d) (hd : (match d with | .struct _ | .array _ _ => true | _ => false) = true) (hi : (P.info? ty).map (·.size) = some cs.length) :
    (results fn tmps).run P w = .ok (.tuple #[.agg cs.toArray, v]) w := by
  have hp' : tmps[p]?.getD undef = .pointer (some ⟨g, 0, none⟩) := by simpa using hp
  have hv' : tmps[u]?.getD undef = v := by simpa using hv
  have := run_loadVar_at (P := P) w g 0 ty cs d hg.at hu hd hi
  simp [results, h, hp', hv', asAddr, this]

theorem infShow : (Try.prog.info? 33).map (·.size) = some 2 := by kernel_rfl
/-- A show of one's own: its two cells. -/
def OShow : Ro DShow := fun w lo cs s => ∃ a b, cs = [a, b] ∧ Ow 53 18 OItem w lo a s.items ∧ Ow 128 3 OTexture w lo b s.textures

set_option maxRecDepth 100000 in
set_option maxHeartbeats 2000000 in
theorem show_ref (l : List DPlace) (t : List DTexture) (v : DVec) (a b : Value) (w : World) (B : Nat) (hB : B ≤ w.heap.size) (ha : Sl 20 RPlace w B a l) (hb : Sl 3 RTexture w B b t) (hv : v.ok)
    (hn : l.length ≤ 300) (hs : ∀ x ∈ l, x.small) (hm : t.length ≤ 60) (hts : ∀ x ∈ t, x.small) :
    Calls Try.prog 12 #[a, b, .agg #[.int .i64 v.x, .int .i64 v.y, .int .i64 v.z]] w
      (RetIs (fun r w' => ∃ cs, r = .tuple #[.agg cs.toArray, .int .i64 (if v.inB 4096 then 0 else 20)] ∧ OShow w' w.heap.size cs (if v.inB 4096 then showOf l t v else ⟨[], []⟩)) w) := by
  obtain ⟨A, c, rfl, _, _, hr⟩ := ha.form
  obtain ⟨A', c', rfl, _, _, hr'⟩ := hb.form
  have HA := hide (fun W (h : Below w.heap.size w W) => Sl.stays RPlace.stays _ W _ W.heap.size _ _ ha (Agree.of h hB) (Nat.le_trans hB h.size))
  have HB := hide (fun W (h : Below w.heap.size w W) => Sl.stays RTexture.stays _ W _ W.heap.size _ _ hb (Agree.of h hB) (Nat.le_trans hB h.size))
  have HBL := hide (fun b o (e : A' = some ⟨b, o, none⟩) (k : Nat) (hk : k < t.length) => (by obtain ⟨b', o', _, e', hlt, _⟩ := hb.elem hk; rw [e] at e'; cases e'; exact hlt : b < B))
  have HS := hide hs
  have HTS := hide hts
  have HV := hide hv
  have HR := hide (fun W => all_ref v 4096 W (by omega) (by omega))
  clear ha hb hs hts hv
  cases hin : v.inB 4096
  · go_enter Try.func12, Try.ntmps12
    go_wp2_with (first
      | (go_at_call 47; refine Calls.mono (HR.out _) ?_; rintro _ w1 ⟨rfl, n1⟩; simp only [hin]; have B1 := Box.of_below n1 (al2a w _ _); have B2 := Box.of_below n1 (al2b w _ _); have h1 : Below w.heap.size w w1 := bstep (al2_below _ _ _) n1; clear n1)
      | (refine wpList_store_list rfl 33 (.tmp 6) (.tmp 15) rfl (w.heap.size + 1) rfl _ [.slice none 0 0, .slice none 0 0] _ rfl B2 rfl infShow rfl ?_; intro w2 B3 g3))
    refine bodyPost_ret (results_box_tmp Try.results12 _ _ _ _ [.slice none 0 0, .slice none 0 0] _ (.int .i64 20) rfl rfl B3 Try.underlying33 rfl infShow) rfl ?_
    exact ⟨_, rfl, ⟨_, rfl, ⟨_, _, rfl, Ow.nil _ _ _ _ _, Ow.nil _ _ _ _ _⟩⟩, below_gr h1 g3 (by omega)⟩
  · go_enter Try.func12, Try.ntmps12
    go_wp2_with (first | (go_at_call 47; refine Calls.mono (HR.out _) ?_; rintro _ w1 ⟨rfl, n1⟩; simp only [hin]; have B1 := Box.of_below n1 (al2a w _ _); have B2 := Box.of_below n1 (al2b w _ _); have h1 : Below w.heap.size w w1 := bstep (al2_below _ _ _) n1; clear n1))
    have hG : w.heap.size + 1 < w1.heap.size := B2.lt
    have B4 := al1 w1 (.cells [Value.slice none 0 0, Value.slice none 0 0].toArray 33)
    have B5 := Box.alloc B1 (.cells [Value.slice none 0 0, Value.slice none 0 0].toArray 33)
    have B6 := Box.alloc B2 (.cells [Value.slice none 0 0, Value.slice none 0 0].toArray 33)
    have h2 : Below w.heap.size w (w1.alloc (.cells [Value.slice none 0 0, Value.slice none 0 0].toArray 33)) := h1.alloc h1.size _
    generalize hGG : w1.heap.size = G at *
    go_loopw [9] (fun i wr => ∃ (k : Nat) (tv : Value), k ≤ t.length ∧ i = .int .i64 k ∧ Below w.heap.size w wr ∧ Box wr w.heap.size #[.int .i64 v.x, .int .i64 v.y, .int .i64 v.z] 25 ∧ Box wr (w.heap.size + 1) #[.slice none 0 0, .slice none 0 0] 33 ∧
      Box wr G #[.slice none 0 0, tv] 33 ∧ Ow 128 3 OTexture wr w.heap.size tv (t.take k)) (fun i _ => t.length - (intOf i).toNat)
    case atStart => exact ⟨0, _, Nat.zero_le _, rfl, h2, B5, B6, B4, by simpa using Ow.nil _ _ _ _ _⟩
    case round =>
      clear B1 B2 B4 B5 B6 h1 h2 hGG
      obtain ⟨k, tv, hk, rfl, hbw, B1, B2, B3, hown⟩ := hrel
      by_cases hlt : k < t.length
      · obtain ⟨b1, o1, cs1, rfl, hb1, l1, hat1, hR1⟩ := (HB.out wr hbw).elem hlt
        have hsm : t[k].small := HTS.out _ (List.getElem_mem hlt)
        have htk : t.take (k + 1) = t.take k ++ [t[k]] := List.take_succ_eq_append_getElem hlt
        obtain ⟨p, hp⟩ : ∃ p, p = t[k] := ⟨_, rfl⟩
        rw [← hp] at hsm htk hR1
        have HT := hide htk
        have hlk : (t.take k).length = k := by rw [List.length_take]; omega
        have LK := hide hlk
        obtain ⟨Av, cv, hv, _⟩ := hown.form
        rw [hlk] at hv
        subst hv
        have HO := hide hown
        have L2 := hide (infTex.trans (congrArg some l1.symm))
        have HSM := hide hsm
        have HR1 := hide hR1
        have hz := B3.lt
        have HC1 : Hid (∀ W, Below wr.heap.size wr W → (fun w' : World => At w' b1 (o1 + k * 3) cs1 ∧ w'.cell? ⟨G, 1, none⟩ = some (.slice Av k cv)) W) := hide (fun W h => ⟨hat1.below h hb1, (B3.below h).cell 1⟩)
        have HAT := hide hat1
        clear hp htk hlk hown hat1 l1 hsm hR1
        go_wp2_with fail
        have n0 : Below wr.heap.size wr wr.drew := (Below.refl _ _).drew
        have HC0 := HC1.out _ n0
        refine wp_region_L (fun w' => At w' b1 (o1 + k * 3) cs1 ∧ w'.cell? ⟨G, 1, none⟩ = some (.slice Av k cv)) 10 (by kernel_rfl) ?_
        generalize wr.drew = wd at *
        refine anyL_take 0 (v := .pointer (some ⟨G, 1, none⟩)) rfl (by kernel_rfl) (fun _ _ _ h => h) HC0 (yieldsIf_of rfl (fun w' hC => by go_simp)) ?_
        refine anyL_take 1 (v := .slice Av k cv) rfl (by kernel_rfl) (fun _ _ _ h => h) HC0 (yieldsIf_of rfl (fun w' hC => by go_simp)) ?_
        refine anyL_take 2 (v := .slice (some ⟨b1, o1, none⟩) t.length c') rfl (by kernel_rfl) (fun _ _ _ h => h) HC0 (yieldsIf_of rfl (fun w' hC => by go_simp)) ?_
        refine anyL_take 3 (v := .int .i64 k) rfl (by kernel_rfl) (fun _ _ _ h => h) HC0 (yieldsIf_of rfl (fun w' hC => by go_simp)) ?_
        refine anyL_take 4 (v := .pointer (some ⟨b1, o1 + k * 3, none⟩)) rfl (by kernel_rfl) (fun _ _ _ h => h) HC0 (yieldsIf_of rfl (fun w' hC => by go_simp)) ?_
        refine anyL_take 5 (v := .agg cs1.toArray) rfl (by kernel_rfl) (fun _ _ _ h => h) HC0 (yieldsIf_of rfl (fun w' hC => exec_load_at 128 (.tmp 26) rfl b1 (o1 + k * 3) rfl cs1 _ hC.1 Try.underlying128 rfl L2.out)) ?_
        refine anyL_one 6 rfl (by kernel_rfl) rfl (fun K hK => ?_)
        go_simp
        refine Calls.mono (twinTex_ref' p cs1 _ wr.heap.size n0.size (RTexture.stays _ _ _ _ _ _ HR1.out (Agree.of n0 (Nat.le_refl _)) (Nat.le_refl _)) HSM.out) ?_
        rintro _ w2 ⟨_, rfl, ⟨jcs, rfl, oT⟩, n2⟩
        have h2 : Below wr.heap.size wr w2 := bstep n0 n2
        have lj := oT.rd.len
        have onej := oT.rd.one
        refine hK _ _ (fun _ => HC1.out _ h2) ?_
        refine anyL_one 7 rfl (by kernel_rfl) rfl (fun K hK => ?_)
        refine wp_buildSlice_to 23 128 1 [(0, .tmp 28)] rfl Try.underlying23 _ (sliceTex _ lj) ?_
        have h3 : Below wr.heap.size wr (w2.alloc (.cells jcs.toArray 128)) := h2.alloc h2.size _
        refine hK _ _ (fun _ => HC1.out _ h3) ?_
        have oT3 : OTexture (w2.alloc (.cells jcs.toArray 128)) w.heap.size jcs p := OTexture.stays (S := fun _ => True) trivial _ _ _ _ _ _ oT (Kp.below (al1_below _ _) _) (by have := hbw.size; have := n0.size; omega)
        have hv3 : Ow 128 3 OTexture (w2.alloc (.cells jcs.toArray 128)) w.heap.size (.slice Av k cv) (t.take k) := Ow.stays (S := fun _ => True) (OTexture.stays trivial) trivial _ _ _ _ _ _ HO.out (Kp.below h3 _) (Nat.le_refl _)
        have hbytes : Hid (((t.take k).length + 1) * 40 ≤ 140737488355328 ∧ (t.take k).length + 1 ≤ 140737488355328) := hide ⟨by rw [LK.out]; omega, by rw [LK.out]; omega⟩
        have hz3 : w.heap.size ≤ (w2.alloc (.cells jcs.toArray 128)).heap.size := by have := hbw.size; have := h3.size; omega
        refine anyL_one 8 rfl (by kernel_rfl) rfl (fun K hK => ?_)
        refine wp_append_one _ ETTex (OTexture.stays (by decide)) (.tmp 23) (.tmp 29) rfl w.heap.size (.slice Av k cv) (t.take k) (by go_simp) hv3 ⟨w2.heap.size, 0, none⟩ 1 jcs p (by go_simp) lj (fun j u hj => by rw [add_mk]; exact Box.at (al1 w2 _) j u hj) (List.all_eq_true.1 onej) oT3 hbytes hz3 ?_
        intro v5 w5 o5 g5
        obtain ⟨A5, n5, c5, rfl⟩ : ∃ A n c, v5 = Value.slice A n c := by obtain ⟨A, c, h, _⟩ := o5.form; exact ⟨_, _, _, h⟩
        have h5 : Below w.heap.size w w5 := below_row (bstep hbw h3) hv3 g5 (Nat.le_refl _)
        have C1 := (B1.below h3).row hv3 g5 (by decide)
        have C2 := (B2.below h3).row hv3 g5 (by decide)
        have C3 := (B3.below h3).row hv3 g5 (by decide)
        have hbl : b1 < w.heap.size := by have := HBL.out _ _ rfl k hlt; omega
        have hC5 : (fun w' : World => At w' b1 (o1 + k * 3) cs1 ∧ w'.cell? ⟨G, 1, none⟩ = some (.slice Av k cv)) w5 := ⟨HAT.out.same ((h5.block b1 hbl).trans (hbw.block b1 hbl).symm), C3.cell 1⟩
        refine hK _ _ (fun _ => hC5) ?_
        refine anyL_one 9 rfl (by kernel_rfl) rfl (fun K hK => ?_)
        go_simp
        refine hK _ _ (fun _ => hC5) ?_
        have bc := C3.cell
        have bf := C3.frozen
        refine anyL_one 10 rfl (by kernel_rfl) rfl (fun K hK => ?_)
        go_simp
        refine hK _ _ (fun h => by cases h) ?_
        refine anyL_done (by kernel_rfl) ?_
        rw [← HT.out] at o5
        have K6 : Kp (· ≠ 33) w5 (w5.setCell ⟨G, 1, none⟩ (.slice A5 n5 c5)) := (Kp.refl _ _).set C3.is (by decide) _
        have o6 : Ow 128 3 OTexture (w5.setCell ⟨G, 1, none⟩ (.slice A5 n5 c5)) w.heap.size (.slice A5 n5 c5) (t.take (k + 1)) := Ow.stays (S := (· ≠ 33)) (OTexture.stays (by decide)) (by decide) _ _ _ _ _ _ o5 K6 (Nat.le_refl _)
        have D1 := C1.far (p := ⟨G, 1, none⟩) (by show _ ≠ G; omega) (.slice A5 n5 c5)
        have D2 := C2.far (p := ⟨G, 1, none⟩) (by show _ ≠ G; omega) (.slice A5 n5 c5)
        have D3 : Box _ G #[.slice none 0 0, .slice A5 n5 c5] 33 := C3.set 1 (.slice A5 n5 c5)
        have h6 : Below w.heap.size w (w5.setCell ⟨G, 1, none⟩ (.slice A5 n5 c5)) := h5.setCell (by show _ ≤ G; omega) _
        clear bc bf C1 C2 C3 hC5
        generalize w5.setCell ⟨G, 1, none⟩ (.slice A5 n5 c5) = w6 at *
        go_wp2
        go_roundw
        case rel => exact ⟨k + 1, .slice A5 n5 c5, by omega, by go_num, h6, D1, D2, D3, o6⟩
        case measure => simp [intOf]; omega
      · have hk' : k = t.length := by omega
        subst hk'
        rw [List.take_of_length_le (Nat.le_refl _)] at hown
        go_wp2
        obtain ⟨At', ct, htv, _⟩ := hown.form
        clear HB HTS HBL
        go_loopw [10] (fun i wr => ∃ (k : Nat) (iv : Value), k ≤ l.length ∧ i = .int .i64 k ∧ Below w.heap.size w wr ∧ Box wr w.heap.size #[.int .i64 v.x, .int .i64 v.y, .int .i64 v.z] 25 ∧ Box wr (w.heap.size + 1) #[.slice none 0 0, .slice none 0 0] 33 ∧
          Box wr G #[iv, tv] 33 ∧ Ow 128 3 OTexture wr w.heap.size tv t ∧ Ow 53 18 OItem wr w.heap.size iv ((l.take k).map (showItem · v))) (fun i _ => l.length - (intOf i).toNat)
        case atStart => exact ⟨0, _, Nat.zero_le _, rfl, hbw, B1, B2, B3, hown, by simpa using Ow.nil _ _ _ _ _⟩
        case round =>
          clear hbw B1 B2 B3 hown
          obtain ⟨k, iv, hk, rfl, hbw, B1, B2, B3, hownT, hown⟩ := hrel
          by_cases hlt : k < l.length
          · obtain ⟨b1, o1, ics, Ag, cg, rfl, hb1, l1, hat1, hI, hGt⟩ := (HA.out wr hbw).place2 hlt
            have hsm : l[k].small := HS.out _ (List.getElem_mem hlt)
            have htk : (l.take (k + 1)).map (showItem · v) = (l.take k).map (showItem · v) ++ [showItem l[k] v] := by rw [List.take_succ_eq_append_getElem hlt, List.map_append]; rfl
            have hpl : RPlace wr wr.heap.size (ics ++ [Value.bool l[k].on, Value.slice Ag l[k].gates.length cg]) l[k] := ⟨ics, _, rfl, hI, hGt⟩
            obtain ⟨p, hp⟩ : ∃ p, p = l[k] := ⟨_, rfl⟩
            rw [← hp] at hsm htk hI hGt hat1 hpl
            have HT := hide htk
            have hlk : ((l.take k).map (showItem · v)).length = k := by rw [List.length_map, List.length_take]; omega
            have LK := hide hlk
            obtain ⟨Ai, ci, hiv, _⟩ := hown.form
            rw [hlk] at hiv
            subst hiv
            subst htv
            have HO := hide hown
            have HOT := hide hownT
            have L2 := hide (infItem.trans (congrArg some l1.symm))
            have L3 := hide (infPlace.trans (congrArg some hpl.len.symm))
            have HI := hide hI
            have HSM := hide hsm
            have HPL := hide hpl
            have T1 := hide hat1
            have hz1 := B1.lt
            have hz3 := B3.lt
            clear hp htk hlk hown hownT hI hGt hat1 l1 hsm hpl
            go_wp2_with (first
              | (refine wpList_load_at rfl 53 (.tmp 41) rfl b1 (o1 + k * 20) rfl ics _ T1.out.append.1 Try.underlying53 rfl L2.out ?_)
              | (go_at_call 42; refine Calls.mono (item_ref' p.item ics _ wr.heap.size (Nat.le_refl _) HI.out HSM.out.1) ?_; rintro _ w1 ⟨_, rfl, ⟨jcs, rfl, oI⟩, n1⟩; have lj := oI.len; have onej := oI.rd.one)
              | (refine wpList_store_list rfl 53 (.tmp 11) (.tmp 43) rfl w1.heap.size rfl _ jcs _ rfl (al1 w1 _) lj.symm (infItem.trans (congrArg some lj.symm)) onej ?_; intro w2 Bi g2; have n2 : Below wr.heap.size wr w2 := below_gr (n1.alloc n1.size _) g2 n1.size))
            have B1w := B1.below n2
            have HI1 : Hid (∀ w', (∃ u, w' = ext w2 u) → At w' b1 (o1 + k * 20) (ics ++ [Value.bool p.on, Value.slice Ag p.gates.length cg])) := hide (fun w' hw => by obtain ⟨u, rfl⟩ := hw; exact T1.out.below (bstep n2 (ext_below w2 u)) hb1)
            have HI2 : Hid (∀ w', (∃ u, w' = ext w2 u) → At w' w.heap.size 0 [.int .i64 v.x, .int .i64 v.y, .int .i64 v.z]) := hide (fun w' hw => by obtain ⟨u, rfl⟩ := hw; exact Box.at (cs := [.int .i64 v.x, .int .i64 v.y, .int .i64 v.z]) (B1w.below (ext_below w2 u)))
            have infV : (Try.prog.info? 25).map (·.size) = some ([Value.int .i64 v.x, .int .i64 v.y, .int .i64 v.z]).length := by kernel_rfl
            have HIV := hide infV
            have HC := hide (fun u => Ret.ext (shown_ref p v _ (ext w2 u) wr.heap.size (bstep n2 (ext_below w2 u)).size (RPlace.stays _ _ _ _ _ _ HPL.out (Agree.of (bstep n2 (ext_below w2 u)) (Nat.le_refl _)) (Nat.le_refl _)) HV.out))
            clear infV
            dsimp only [Act.put]
            refine wp_region_ext_lit (by kernel_rfl) (by kernel_rfl) ?_
            repeat (first
              | (go_big_quiet_want; refine quiet_load_at 116 (.tmp 46) rfl b1 (o1 + k * 20) rfl (ics ++ [Value.bool p.on, Value.slice Ag p.gates.length cg]) _ (fun w' hw => HI1.out w' hw) Try.underlying116 rfl L3.out ?_; go_simp; go_big_quiet_on)
              | (go_big_quiet_want; refine quiet_load_at 25 (.tmp 5) rfl w.heap.size 0 rfl [.int .i64 v.x, .int .i64 v.y, .int .i64 v.z] _ (fun w' hw => HI2.out w' hw) Try.underlying25 rfl HIV.out ?_; go_simp; go_big_quiet_on)
              | go_big_quiet_step ((go_at_call 49; exact HC.out _)))
            refine wpQuiet_nil ?_
            intro _ hw'
            obtain ⟨uq, hw''⟩ := hw'
            subst hw''
            have hbx := ext_below w2 uq
            have he : Below wr.heap.size wr (ext w2 uq) := bstep n2 hbx
            have Bie := Box.of_below hbx Bi
            have oIe : OItem (ext w2 uq) w.heap.size jcs p.item := OItem.stays (S := (· ≠ 53)) (by decide) (by decide) (by decide) _ _ _ _ _ _ oI (((Kp.below (al1_below _ _) _).gr g2 (Box.is (al1 w1 _)) (by decide)).bel hbx) hbw.size
            have hgi : wr.heap.size ≤ w1.heap.size := n1.size
            clear HI1 HI2 HC HIV n2 Bi B1w hbx oI g2 onej
            generalize ext w2 uq = we at *
            generalize w1.heap.size = gi at *
            cases hsh : shownB p v
            · have hsi : showItem p v = { p.item with tris := [] } := by unfold showItem; rw [hsh]; rfl
              obtain ⟨ja, jb, jc, rfl, p1, p2, p3, p4, p5⟩ := oIe
              have bc := Box.cell Bie
              have bf := Box.frozen Bie
              have bc2 : we.cell? ⟨gi, 2, none⟩ = some jc := bc 2
              clear bc
              have Bk : Box (we.setCell ⟨gi, 2, none⟩ (.slice none 0 0)) gi (ja :: jb :: Value.slice none 0 0 :: (p.item.look.enc ++ p.item.box.enc)).toArray 53 := Bie.set 2 (.slice none 0 0)
              have Kk : Kp (· ≠ 53) we (we.setCell ⟨gi, 2, none⟩ (.slice none 0 0)) := (Kp.refl _ _).set Bie.is (by decide) _
              have hk2 : Below wr.heap.size wr (we.setCell ⟨gi, 2, none⟩ (.slice none 0 0)) := he.setCell hgi _
              have oIk : OItem (we.setCell ⟨gi, 2, none⟩ (.slice none 0 0)) w.heap.size (ja :: jb :: Value.slice none 0 0 :: (p.item.look.enc ++ p.item.box.enc)) (showItem p v) := by
                rw [hsi]
                exact ⟨ja, jb, _, rfl, Ow.stays (S := (· ≠ 53)) (flat_ostays _ _ _) (by decide) _ _ _ _ _ _ p1 Kk (Nat.le_refl _), Ow.stays (S := (· ≠ 53)) (flat_ostays _ _ _) (by decide) _ _ _ _ _ _ p2 Kk (Nat.le_refl _), Ow.nil _ _ _ _ _, p4, p5⟩
              have KS := hide hk2
              go_upto_region 14 with fail
              have B1e := B1.below hk2
              have B2e := B2.below hk2
              have B3e := B3.below hk2
              have bg := B3e.cell
              have bgf := B3e.frozen
              have lk := oIk.len
              have onek := oIk.rd.one
              have LKK := hide (infItem.trans (congrArg some lk.symm))
              have hv4 : Hid (Ow 53 18 OItem ((we.setCell ⟨gi, 2, none⟩ (.slice none 0 0)).alloc (.cells ((ja :: jb :: Value.slice none 0 0 :: (p.item.look.enc ++ p.item.box.enc))).toArray 53)) w.heap.size (.slice Ai k ci) ((l.take k).map (showItem · v))) := hide (Ow.stays (S := fun _ => True) (OItem.stays trivial trivial trivial) trivial _ _ _ _ _ _ HO.out ((Kp.below hk2 _).bel (al1_below _ _)) (Nat.le_refl _))
              have oK : Hid (OItem ((we.setCell ⟨gi, 2, none⟩ (.slice none 0 0)).alloc (.cells ((ja :: jb :: Value.slice none 0 0 :: (p.item.look.enc ++ p.item.box.enc))).toArray 53)) w.heap.size ((ja :: jb :: Value.slice none 0 0 :: (p.item.look.enc ++ p.item.box.enc))) (showItem p v)) := hide (OItem.stays (S := fun _ => True) trivial trivial trivial _ _ _ _ _ _ oIk (Kp.below (al1_below _ _) _) (Nat.le_refl _))
              go_wp2_with (first
                | (refine wpList_load_at rfl 53 (.tmp 11) rfl gi 0 rfl ((ja :: jb :: Value.slice none 0 0 :: (p.item.look.enc ++ p.item.box.enc))) _ (Box.at Bk) Try.underlying53 rfl LKK.out ?_)
                | (refine wpList_buildSlice_to 31 53 1 [(0, .tmp 54)] rfl rfl Try.underlying31 _ (sliceItem _ lk) ?_)
                | (at_builtin; refine wpList_append_one (O := OItem) _ ETItem (OItem.stays (by decide) (by decide) (by decide)) rfl (.tmp 53) (.tmp 55) rfl w.heap.size (.slice Ai k ci) ((l.take k).map (showItem · v)) rfl hv4.out ⟨((we.setCell ⟨gi, 2, none⟩ (.slice none 0 0))).heap.size, 0, none⟩ 1 ((ja :: jb :: Value.slice none 0 0 :: (p.item.look.enc ++ p.item.box.enc))) (showItem p v) rfl lk (fun j u hj => ?_) (List.all_eq_true.1 onek) oK.out (hide ⟨?_, ?_⟩) ?_ ?_; (rw [add_mk]; exact Box.at (al1 (we.setCell ⟨gi, 2, none⟩ (.slice none 0 0)) _) j u hj); (rw [LK.out]; omega); (rw [LK.out]; omega); (have := hbw.size; have := hk2.size; rw [size_al]; omega); intro v5 w5 o5 g5; obtain ⟨A5, n5, c5, rfl⟩ := o5.shape; have D1 := (B1e.alloc _).row hv4.out g5 (by decide); have D2 := (B2e.alloc _).row hv4.out g5 (by decide); have D3 := (B3e.alloc _).row hv4.out g5 (by decide); have h5 : Below w.heap.size w w5 := below_row ((bstep hbw hk2).alloc (bstep hbw hk2).size _) hv4.out g5 (Nat.le_refl _); clear bg bgf; have bg := D3.cell; have bgf := D3.frozen))
              have K6 : Kp (· ≠ 33) w5 (w5.setCell ⟨G, 0, none⟩ (.slice A5 n5 c5)) := (Kp.refl _ _).set D3.is (by decide) _
              have o6 := Ow.stays (S := (· ≠ 33)) (OItem.stays (by decide) (by decide) (by decide)) (by decide) _ _ _ _ _ _ o5 K6 (Nat.le_refl _)
              have hvT : Ow 128 3 OTexture w5 w.heap.size (.slice At' t.length ct) t := Ow.stays (S := (· ≠ 53)) (OTexture.stays (by decide)) (by decide) _ _ _ _ _ _ HOT.out (((Kp.below hk2 _).bel (al1_below _ _)).row hv4.out g5 (by decide)) (Nat.le_refl _)
              have o7 := Ow.stays (S := (· ≠ 33)) (OTexture.stays (by decide)) (by decide) _ _ _ _ _ _ hvT K6 (Nat.le_refl _)
              have E1 := D1.far (p := ⟨G, 0, none⟩) (by show _ ≠ G; omega) (.slice A5 n5 c5)
              have E2 := D2.far (p := ⟨G, 0, none⟩) (by show _ ≠ G; omega) (.slice A5 n5 c5)
              have E3 : Box _ G #[.slice A5 n5 c5, .slice At' t.length ct] 33 := D3.set 0 (.slice A5 n5 c5)
              have h6 : Below w.heap.size w (w5.setCell ⟨G, 0, none⟩ (.slice A5 n5 c5)) := h5.setCell (by show _ ≤ G; omega) _
              rw [← HT.out] at o6
              exact ⟨⟨k + 1, _, by omega, by go_num, h6, E1, E2, E3, o7, o6⟩, by simp [intOf]; omega⟩
            · have hsi : showItem p v = p.item := by unfold showItem; rw [hsh]; rfl
              rw [← hsi] at oIe
              have B1e := B1.below he
              have B2e := B2.below he
              have B3e := B3.below he
              have bg := B3e.cell
              have bgf := B3e.frozen
              have lk := oIe.len
              have onek := oIe.rd.one
              have LKK := hide (infItem.trans (congrArg some lk.symm))
              have hv4 : Hid (Ow 53 18 OItem (we.alloc (.cells (jcs).toArray 53)) w.heap.size (.slice Ai k ci) ((l.take k).map (showItem · v))) := hide (Ow.stays (S := fun _ => True) (OItem.stays trivial trivial trivial) trivial _ _ _ _ _ _ HO.out ((Kp.below he _).bel (al1_below _ _)) (Nat.le_refl _))
              have oK : Hid (OItem (we.alloc (.cells (jcs).toArray 53)) w.heap.size (jcs) (showItem p v)) := hide (OItem.stays (S := fun _ => True) trivial trivial trivial _ _ _ _ _ _ oIe (Kp.below (al1_below _ _) _) (Nat.le_refl _))
              go_wp2_with (first
                | (refine wpList_load_at rfl 53 (.tmp 11) rfl gi 0 rfl (jcs) _ (Box.at Bie) Try.underlying53 rfl LKK.out ?_)
                | (refine wpList_buildSlice_to 31 53 1 [(0, .tmp 54)] rfl rfl Try.underlying31 _ (sliceItem _ lk) ?_)
                | (at_builtin; refine wpList_append_one (O := OItem) _ ETItem (OItem.stays (by decide) (by decide) (by decide)) rfl (.tmp 53) (.tmp 55) rfl w.heap.size (.slice Ai k ci) ((l.take k).map (showItem · v)) rfl hv4.out ⟨(we).heap.size, 0, none⟩ 1 (jcs) (showItem p v) rfl lk (fun j u hj => ?_) (List.all_eq_true.1 onek) oK.out (hide ⟨?_, ?_⟩) ?_ ?_; (rw [add_mk]; exact Box.at (al1 we _) j u hj); (rw [LK.out]; omega); (rw [LK.out]; omega); (have := hbw.size; have := he.size; rw [size_al]; omega); intro v5 w5 o5 g5; obtain ⟨A5, n5, c5, rfl⟩ := o5.shape; have D1 := (B1e.alloc _).row hv4.out g5 (by decide); have D2 := (B2e.alloc _).row hv4.out g5 (by decide); have D3 := (B3e.alloc _).row hv4.out g5 (by decide); have h5 : Below w.heap.size w w5 := below_row ((bstep hbw he).alloc (bstep hbw he).size _) hv4.out g5 (Nat.le_refl _); clear bg bgf; have bg := D3.cell; have bgf := D3.frozen))
              have K6 : Kp (· ≠ 33) w5 (w5.setCell ⟨G, 0, none⟩ (.slice A5 n5 c5)) := (Kp.refl _ _).set D3.is (by decide) _
              have o6 := Ow.stays (S := (· ≠ 33)) (OItem.stays (by decide) (by decide) (by decide)) (by decide) _ _ _ _ _ _ o5 K6 (Nat.le_refl _)
              have hvT : Ow 128 3 OTexture w5 w.heap.size (.slice At' t.length ct) t := Ow.stays (S := (· ≠ 53)) (OTexture.stays (by decide)) (by decide) _ _ _ _ _ _ HOT.out (((Kp.below he _).bel (al1_below _ _)).row hv4.out g5 (by decide)) (Nat.le_refl _)
              have o7 := Ow.stays (S := (· ≠ 33)) (OTexture.stays (by decide)) (by decide) _ _ _ _ _ _ hvT K6 (Nat.le_refl _)
              have E1 := D1.far (p := ⟨G, 0, none⟩) (by show _ ≠ G; omega) (.slice A5 n5 c5)
              have E2 := D2.far (p := ⟨G, 0, none⟩) (by show _ ≠ G; omega) (.slice A5 n5 c5)
              have E3 : Box _ G #[.slice A5 n5 c5, .slice At' t.length ct] 33 := D3.set 0 (.slice A5 n5 c5)
              have h6 : Below w.heap.size w (w5.setCell ⟨G, 0, none⟩ (.slice A5 n5 c5)) := h5.setCell (by show _ ≤ G; omega) _
              rw [← HT.out] at o6
              exact ⟨⟨k + 1, _, by omega, by go_num, h6, E1, E2, E3, o7, o6⟩, by simp [intOf]; omega⟩
          · have hk' : k = l.length := by omega
            subst hk'
            rw [List.take_of_length_le (Nat.le_refl _)] at hown
            obtain ⟨Ai, ni, ci, rfl⟩ : ∃ A n c, iv = Value.slice A n c := by obtain ⟨A, c, h, _⟩ := hown.form; exact ⟨_, _, _, h⟩
            subst htv
            go_wp2_with (first
              | (refine wpList_load_at rfl 33 (.tmp 8) rfl G 0 rfl [.slice Ai ni ci, .slice At' t.length ct] _ (Box.at (cs := [.slice Ai ni ci, .slice At' t.length ct]) B3) Try.underlying33 rfl infShow ?_)
              | (refine wpList_store_list rfl 33 (.tmp 6) (.tmp 58) rfl (w.heap.size + 1) rfl _ [.slice Ai ni ci, .slice At' t.length ct] _ rfl B2 rfl infShow rfl ?_; intro w2 B4 g4))
            refine bodyPost_ret (results_box_tmp Try.results12 _ _ _ _ [.slice Ai ni ci, .slice At' t.length ct] _ (.int .i64 0) rfl rfl B4 Try.underlying33 rfl infShow) rfl ?_
            refine ⟨_, rfl, ⟨_, rfl, ⟨_, _, rfl, ?_, ?_⟩⟩, below_gr hbw g4 (by omega)⟩
            · exact Ow.stays (S := (· ≠ 33)) (OItem.stays (by decide) (by decide) (by decide)) (by decide) _ _ _ _ _ _ hown ((Kp.refl _ _).gr g4 B2.is (by decide)) (Nat.le_refl _)
            · exact Ow.stays (S := (· ≠ 33)) (OTexture.stays (by decide)) (by decide) _ _ _ _ _ _ hownT ((Kp.refl _ _).gr g4 B2.is (by decide)) (Nat.le_refl _)

end Go.Proofs.Ytbflmipddiaiaaa
