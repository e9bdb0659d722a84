/-
  What is drawn of places: the program's Show.
-/
import Derived.Test.YtbflmipddiaiaaaShowr
namespace Go.Proofs.Ytbflmipddiaiaaa
open Go.RowKit

set_option maxRecDepth 100000 in
set_option maxHeartbeats 2000000 in
theorem show_world (l : List DPlace) (t : List DTexture) (v : DVec) (a b : Value) (w : World) (B : Nat) (hB : B ≤ w.heap.size) (ha : Sl 20 RPlace w B a l) (hb : Sl 3 RTexture w B b t) (hv : v.ok)
    (hn : l.length ≤ 300) (hs : ∀ x ∈ l, x.small) (hm : t.length ≤ 60) (hts : ∀ x ∈ t, x.small) :
    Calls Try.prog 11 #[a, b, .agg #[.int .i64 v.x, .int .i64 v.y, .int .i64 v.z]] w
      (RetIs (fun r w' => ∃ cs, r = .tuple #[.agg cs.toArray, .int .i64 (if v.inB 4096 then 0 else 20)] ∧ OShow w' w.heap.size cs (if v.inB 4096 then showOf l t v else ⟨[], []⟩)) w) := by
  obtain ⟨A, c, rfl, _, _, hr⟩ := ha.form
  obtain ⟨A', c', rfl, _, _, hr'⟩ := hb.form
  have HA := hide (fun W (h : Below w.heap.size w W) => Sl.stays RPlace.stays _ W _ W.heap.size _ _ ha (Agree.of h hB) (Nat.le_trans hB h.size))
  have HB := hide (fun W (h : Below w.heap.size w W) => Sl.stays RTexture.stays _ W _ W.heap.size _ _ hb (Agree.of h hB) (Nat.le_trans hB h.size))
  have HS := hide hs
  have HTS := hide hts
  have HV := hide hv
  have HR := hide (fun W => check_vec v W hv)
  clear ha hb hs hts hv
  cases hin : v.inB 4096
  · simp only [hin] at HR
    go_enter Try.func11, Try.ntmps11
    go_wp2_with (first
      | (go_at_call 40; refine Calls.mono (HR.out _) ?_; rintro _ w1 ⟨rfl, n1⟩; have B1 := Box.of_below n1 (al2a w _ _); have B2 := Box.of_below n1 (al2b w _ _); have h1 : Below w.heap.size w w1 := bstep (al2_below _ _ _) n1; clear n1)
      | (refine wpList_store_list rfl 33 (.tmp 6) (.tmp 20) rfl (w.heap.size + 1) rfl _ [.slice none 0 0, .slice none 0 0] _ rfl B2 rfl infShow rfl ?_; intro w2 B3 g3))
    refine bodyPost_ret (results_box_tmp Try.results11 _ _ _ _ [.slice none 0 0, .slice none 0 0] _ (.int .i64 20) rfl rfl B3 Try.underlying33 rfl infShow) rfl ?_
    exact ⟨_, rfl, ⟨_, rfl, ⟨_, _, rfl, Ow.nil _ _ _ _ _, Ow.nil _ _ _ _ _⟩⟩, below_gr h1 g3 (by omega)⟩
  · simp only [hin] at HR
    go_enter Try.func11, Try.ntmps11
    go_wp2_with (first | (go_at_call 40; refine Calls.mono (HR.out _) ?_; rintro _ w1 ⟨rfl, n1⟩; have B1 := Box.of_below n1 (al2a w _ _); have B2 := Box.of_below n1 (al2b w _ _); have h1 : Below w.heap.size w w1 := bstep (al2_below _ _ _) n1; clear n1))
    have hG : w.heap.size + 1 < w1.heap.size := B2.lt
    have B4 := al1 w1 (.cells [Value.slice none 0 0, Value.slice none 0 0].toArray 33)
    have B5 := Box.alloc B1 (.cells [Value.slice none 0 0, Value.slice none 0 0].toArray 33)
    have B6 := Box.alloc B2 (.cells [Value.slice none 0 0, Value.slice none 0 0].toArray 33)
    have h2 : Below w.heap.size w (w1.alloc (.cells [Value.slice none 0 0, Value.slice none 0 0].toArray 33)) := h1.alloc h1.size _
    generalize hGG : w1.heap.size = G at *
    go_loopw [24] (fun i wr => ∃ (k : Nat) (tv : Value), k ≤ t.length ∧ i = .int .i64 k ∧ Below w.heap.size w wr ∧ Box wr w.heap.size #[.int .i64 v.x, .int .i64 v.y, .int .i64 v.z] 25 ∧ Box wr (w.heap.size + 1) #[.slice none 0 0, .slice none 0 0] 33 ∧
      Box wr G #[.slice none 0 0, tv] 33 ∧ Ow 128 3 OTexture wr w.heap.size tv (t.take k)) (fun i _ => t.length - (intOf i).toNat)
    case atStart => exact ⟨0, _, Nat.zero_le _, rfl, h2, B5, B6, B4, by simpa using Ow.nil _ _ _ _ _⟩
    case round =>
      clear B1 B2 B4 B5 B6 h1 h2 hGG
      obtain ⟨k, tv, hk, rfl, hbw, B1, B2, B3, hown⟩ := hrel
      by_cases hlt : k < t.length
      · obtain ⟨b1, o1, cs1, rfl, hb1, l1, hat1, hR1⟩ := (HB.out wr hbw).elem hlt
        have hsm : t[k].small := HTS.out _ (List.getElem_mem hlt)
        have htk : t.take (k + 1) = t.take k ++ [t[k]] := List.take_succ_eq_append_getElem hlt
        obtain ⟨p, hp⟩ : ∃ p, p = t[k] := ⟨_, rfl⟩
        rw [← hp] at hsm htk hR1
        have HT := hide htk
        have hlk : (t.take k).length = k := by rw [List.length_take]; omega
        have LK := hide hlk
        obtain ⟨Av, cv, hv, _⟩ := hown.form
        rw [hlk] at hv
        subst hv
        have HO := hide hown
        have L2 := hide (infTex.trans (congrArg some l1.symm))
        have N1 := hide l1
        have ONE := hide hR1.one
        have HSM := hide hsm
        have HR1 := hide hR1
        have hz := B3.lt
        have HAT := hide hat1
        clear hp htk hlk hown hat1 l1 hsm hR1
        go_wp2_with (first
          | (refine wpList_load_at rfl 128 (.tmp 26) rfl b1 (o1 + k * 3) rfl cs1 _ HAT.out Try.underlying128 rfl L2.out ?_)
          | (refine wpList_store_list rfl 128 (.tmp 11) (.tmp 27) rfl wr.heap.size rfl _ cs1 _ rfl (al1 wr _) N1.out.symm L2.out ONE.out ?_; intro w1 Bt g1; have n1 : Below wr.heap.size wr w1 := below_gr (al1_below wr _) g1 (Nat.le_refl _)))
        dsimp only [Act.put]
        have n0 : Below wr.heap.size wr w1.drew := n1.drew
        have Bt0 : Box w1.drew wr.heap.size cs1.toArray 128 := Bt
        have zt := Bt0.lt
        have HC1 : Hid (∀ W, Box W wr.heap.size cs1.toArray 128 → Box W G #[.slice none 0 0, .slice Av k cv] 33 → (fun w' : World => At w' wr.heap.size 0 cs1 ∧ w'.cell? ⟨G, 1, none⟩ = some (.slice Av k cv)) W) := hide (fun W h h' => ⟨h.at, h'.cell 1⟩)
        have HC0 := HC1.out _ Bt0 (B3.below n0)
        refine wp_region_L (fun w' => At w' wr.heap.size 0 cs1 ∧ w'.cell? ⟨G, 1, none⟩ = some (.slice Av k cv)) 7 (by kernel_rfl) ?_
        clear n1 Bt g1
        generalize w1.drew = wd at *
        refine anyL_take 0 (v := .pointer (some ⟨G, 1, none⟩)) rfl (by kernel_rfl) (fun _ _ _ h => h) HC0 (yieldsIf_of rfl (fun w' hC => by go_simp)) ?_
        refine anyL_take 1 (v := .slice Av k cv) rfl (by kernel_rfl) (fun _ _ _ h => h) HC0 (yieldsIf_of rfl (fun w' hC => by go_simp)) ?_
        refine anyL_take 2 (v := .agg cs1.toArray) rfl (by kernel_rfl) (fun _ _ _ h => h) HC0 (yieldsIf_of rfl (fun w' hC => exec_load_at 128 (.tmp 11) rfl wr.heap.size 0 rfl cs1 _ hC.1 Try.underlying128 rfl L2.out)) ?_
        refine anyL_one 3 rfl (by kernel_rfl) rfl (fun K hK => ?_)
        go_simp
        refine Calls.mono (twinTex' p cs1 _ wr.heap.size n0.size (RTexture.stays _ _ _ _ _ _ HR1.out (Agree.of n0 (Nat.le_refl _)) (Nat.le_refl _)) HSM.out) ?_
        rintro _ w2 ⟨_, rfl, ⟨jcs, rfl, oT⟩, n2⟩
        have h2 : Below wr.heap.size wr w2 := bstep n0 n2
        have Bt2 := Box.of_below n2 Bt0
        have lj := oT.rd.len
        have onej := oT.rd.one
        refine hK _ _ (fun _ => HC1.out _ Bt2 (B3.below h2)) ?_
        refine anyL_one 4 rfl (by kernel_rfl) rfl (fun K hK => ?_)
        refine wp_buildSlice_to 23 128 1 [(0, .tmp 31)] rfl Try.underlying23 _ (sliceTex _ lj) ?_
        have h3 : Below wr.heap.size wr (w2.alloc (.cells jcs.toArray 128)) := h2.alloc h2.size _
        have Bt3 := Box.alloc Bt2 (.cells jcs.toArray 128)
        refine hK _ _ (fun _ => HC1.out _ Bt3 (B3.below h3)) ?_
        have oT3 : OTexture (w2.alloc (.cells jcs.toArray 128)) w.heap.size jcs p := OTexture.stays (S := fun _ => True) trivial _ _ _ _ _ _ oT (Kp.below (al1_below _ _) _) (by have := hbw.size; have := n0.size; omega)
        have hv3 : Ow 128 3 OTexture (w2.alloc (.cells jcs.toArray 128)) w.heap.size (.slice Av k cv) (t.take k) := Ow.stays (S := fun _ => True) (OTexture.stays trivial) trivial _ _ _ _ _ _ HO.out (Kp.below h3 _) (Nat.le_refl _)
        have hbytes : Hid (((t.take k).length + 1) * 40 ≤ 140737488355328 ∧ (t.take k).length + 1 ≤ 140737488355328) := hide ⟨by rw [LK.out]; omega, by rw [LK.out]; omega⟩
        have hz3 : w.heap.size ≤ (w2.alloc (.cells jcs.toArray 128)).heap.size := by have := hbw.size; have := h3.size; omega
        refine anyL_one 5 rfl (by kernel_rfl) rfl (fun K hK => ?_)
        refine wp_append_one _ ETTex (OTexture.stays (by decide)) (.tmp 29) (.tmp 32) rfl w.heap.size (.slice Av k cv) (t.take k) (by go_simp) hv3 ⟨w2.heap.size, 0, none⟩ 1 jcs p (by go_simp) lj (fun j u hj => by rw [add_mk]; exact Box.at (al1 w2 _) j u hj) (List.all_eq_true.1 onej) oT3 hbytes hz3 ?_
        intro v5 w5 o5 g5
        obtain ⟨A5, n5, c5, rfl⟩ := o5.shape
        have h5 : Below w.heap.size w w5 := below_row (bstep hbw h3) hv3 g5 (Nat.le_refl _)
        have C1 := (B1.below h3).row hv3 g5 (by decide)
        have C2 := (B2.below h3).row hv3 g5 (by decide)
        have C3 := (B3.below h3).row hv3 g5 (by decide)
        have Bt5 : Box w5 wr.heap.size _ _ := Box.of_grown g5 Bt3 (fun e => by have := HO.out.lt _ e; omega)
        refine hK _ _ (fun _ => HC1.out _ Bt5 C3) ?_
        refine anyL_one 6 rfl (by kernel_rfl) rfl (fun K hK => ?_)
        go_simp
        refine hK _ _ (fun _ => HC1.out _ Bt5 C3) ?_
        have bc := C3.cell
        have bf := C3.frozen
        refine anyL_one 7 rfl (by kernel_rfl) rfl (fun K hK => ?_)
        go_simp
        refine hK _ _ (fun h => by cases h) ?_
        refine anyL_done (by kernel_rfl) ?_
        rw [← HT.out] at o5
        have K6 : Kp (· ≠ 33) w5 (w5.setCell ⟨G, 1, none⟩ (.slice A5 n5 c5)) := (Kp.refl _ _).set C3.is (by decide) _
        have o6 : Ow 128 3 OTexture (w5.setCell ⟨G, 1, none⟩ (.slice A5 n5 c5)) w.heap.size (.slice A5 n5 c5) (t.take (k + 1)) := Ow.stays (S := (· ≠ 33)) (OTexture.stays (by decide)) (by decide) _ _ _ _ _ _ o5 K6 (Nat.le_refl _)
        have D1 := C1.far (p := ⟨G, 1, none⟩) (by show _ ≠ G; omega) (.slice A5 n5 c5)
        have D2 := C2.far (p := ⟨G, 1, none⟩) (by show _ ≠ G; omega) (.slice A5 n5 c5)
        have D3 : Box _ G #[.slice none 0 0, .slice A5 n5 c5] 33 := C3.set 1 (.slice A5 n5 c5)
        have h6 : Below w.heap.size w (w5.setCell ⟨G, 1, none⟩ (.slice A5 n5 c5)) := h5.setCell (by show _ ≤ G; omega) _
        clear bc bf C1 C2 C3
        generalize w5.setCell ⟨G, 1, none⟩ (.slice A5 n5 c5) = w6 at *
        go_wp2
        go_roundw
        case rel => exact ⟨k + 1, .slice A5 n5 c5, by omega, by go_num, h6, D1, D2, D3, o6⟩
        case measure => simp [intOf]; omega
      · have hk' : k = t.length := by omega
        subst hk'
        rw [List.take_of_length_le (Nat.le_refl _)] at hown
        obtain ⟨At', ct, htv, _⟩ := hown.form
        clear HB HTS
        go_wp2
        go_loopw [38] (fun i wr => ∃ (k : Nat) (iv : Value), k ≤ l.length ∧ i = .int .i64 k ∧ Below w.heap.size w wr ∧ Box wr w.heap.size #[.int .i64 v.x, .int .i64 v.y, .int .i64 v.z] 25 ∧ Box wr (w.heap.size + 1) #[.slice none 0 0, .slice none 0 0] 33 ∧
          Box wr G #[iv, tv] 33 ∧ Ow 128 3 OTexture wr w.heap.size tv t ∧ Ow 53 18 OItem wr w.heap.size iv ((l.take k).map (showItem · v))) (fun i _ => l.length - (intOf i).toNat)
        case atStart => exact ⟨0, _, Nat.zero_le _, rfl, hbw, B1, B2, B3, hown, by simpa using Ow.nil _ _ _ _ _⟩
        case round =>
          clear hbw B1 B2 B3 hown
          obtain ⟨k, iv, hk, rfl, hbw, B1, B2, B3, hownT, hown⟩ := hrel
          by_cases hlt : k < l.length
          · obtain ⟨b1, o1, ics, Ag, cg, rfl, hb1, l1, hat1, hI, hGt⟩ := (HA.out wr hbw).place2 hlt
            have hsm : l[k].small := HS.out _ (List.getElem_mem hlt)
            have htk : (l.take (k + 1)).map (showItem · v) = (l.take k).map (showItem · v) ++ [showItem l[k] v] := by rw [List.take_succ_eq_append_getElem hlt, List.map_append]; rfl
            obtain ⟨p, hp⟩ : ∃ p, p = l[k] := ⟨_, rfl⟩
            rw [← hp] at hsm htk hI hGt hat1
            have HT := hide htk
            have hlk : ((l.take k).map (showItem · v)).length = k := by rw [List.length_map, List.length_take]; omega
            have LK := hide hlk
            obtain ⟨Ai, ci, hiv, _⟩ := hown.form
            rw [hlk] at hiv
            subst hiv
            subst htv
            have HO := hide hown
            have HOT := hide hownT
            have L1 : Hid ((Try.prog.info? 116).map (·.size) = some (ics ++ [Value.bool p.on, Value.slice Ag p.gates.length cg]).length) := hide (infPlace.trans (congrArg some (by simp [l1])))
            have L2 := hide (infItem.trans (congrArg some l1.symm))
            have N1 : Hid ((ics ++ [Value.bool p.on, Value.slice Ag p.gates.length cg]).length = 20) := hide (by simp [l1])
            have O1 : Hid ((ics ++ [Value.bool p.on, Value.slice Ag p.gates.length cg]).all (·.oneCell') = true) := hide (by simp [hI.one]; simp [Value.oneCell'])
            have HI := hide hI
            have HG := hide hGt
            have HSM := hide hsm
            have T1 := hide hat1
            have NI := hide l1
            have hz1 := B1.lt
            have hz3 := B3.lt
            clear hp htk hlk hown hownT hI hGt hat1 l1 hsm
            go_upto_region 15 with (first
              | (refine wpList_load_at rfl 116 (.tmp 40) rfl b1 (o1 + k * 20) rfl (ics ++ [Value.bool p.on, Value.slice Ag p.gates.length cg]) _ T1.out Try.underlying116 rfl L1.out ?_)
              | (refine wpList_store_list rfl 116 (.tmp 13) (.tmp 41) rfl wr.heap.size rfl _ (ics ++ [Value.bool p.on, Value.slice Ag p.gates.length cg]) _ rfl (al1 wr _) N1.out.symm L1.out O1.out ?_; intro w1 Bp g1; have n1 : Below wr.heap.size wr w1 := below_gr (al1_below wr _) g1 (Nat.le_refl _))
              | (refine wpList_load_at rfl 53 (.tmp 43) rfl wr.heap.size 0 rfl ics _ (place_box NI.out Bp).1 Try.underlying53 rfl L2.out ?_)
              | (go_at_call 45; refine Calls.mono (item_world' p.item ics _ wr.heap.size n1.size (RItem.stays _ _ _ _ _ _ HI.out (Agree.of n1 (Nat.le_refl _)) (Nat.le_refl _)) HSM.out.1) ?_; rintro _ w2 ⟨_, rfl, ⟨jcs, rfl, oI⟩, n2⟩; have lj := oI.len; have onej := oI.rd.one; have h2 : Below wr.heap.size wr w2 := bstep n1 n2)
              | (refine wpList_store_list rfl 53 (.tmp 15) (.tmp 45) rfl w2.heap.size rfl _ jcs _ rfl (al1 w2 _) lj.symm (infItem.trans (congrArg some lj.symm)) onej ?_; intro w3 Bi g3; have n3 : Below wr.heap.size wr w3 := below_gr (h2.alloc h2.size _) g3 h2.size))
            have hlt2 : wr.heap.size < w2.heap.size := Nat.lt_of_lt_of_le Bp.lt n2.size
            have Bpe : Box w3 wr.heap.size (ics ++ [Value.bool p.on, Value.slice Ag p.gates.length cg]).toArray 116 := ((Bp.below n2).alloc _).grown g3 (ne_opt (by omega))
            have oIe : OItem w3 w.heap.size jcs p.item := OItem.stays (S := (· ≠ 53)) (by decide) (by decide) (by decide) _ _ _ _ _ _ oI ((Kp.below (al1_below _ _) _).gr g3 (Box.is (al1 w2 _)) (by decide)) (Nat.le_trans hbw.size n1.size)
            have HPB := hide (place_box NI.out Bpe)
            have B1v := B1.below n3
            clear onej lj g1 g3 Bpe h2 n1 n2 Bp oI
            generalize w3 = we at *
            generalize w2.heap.size = gi at *
            cases hon : p.on
            · have hsh : shownB p v = false := by unfold shownB; rw [hon]; rfl
              have HPB' := HPB.out
              rw [hon] at HPB'
              obtain ⟨_, f18, f19⟩ := HPB'
              obtain ⟨ja, jb, jc, rfl, p1, p2, p3, p4, p5⟩ := oIe
              have hsi : showItem p v = { p.item with tris := [] } := by unfold showItem; rw [hsh]; rfl
              have bc2 : (we).cell? ⟨gi, 2, none⟩ = some jc := Box.cell Bi 2
              have bf := Box.frozen Bi
              have Bk : Box ((we).setCell ⟨gi, 2, none⟩ (.slice none 0 0)) gi (ja :: jb :: Value.slice none 0 0 :: (p.item.look.enc ++ p.item.box.enc)).toArray 53 := Box.set Bi 2 (.slice none 0 0)
              have Kk : Kp (· ≠ 53) (we) ((we).setCell ⟨gi, 2, none⟩ (.slice none 0 0)) := (Kp.refl _ _).set (Box.is Bi) (by decide) _
              have hk2 : Below wr.heap.size wr ((we).setCell ⟨gi, 2, none⟩ (.slice none 0 0)) := Below.setCell n3 (Nat.le_of_lt hlt2) _
              have oIk : OItem ((we).setCell ⟨gi, 2, none⟩ (.slice none 0 0)) w.heap.size (ja :: jb :: Value.slice none 0 0 :: (p.item.look.enc ++ p.item.box.enc)) (showItem p v) := by
                rw [hsi]
                exact ⟨ja, jb, _, rfl, Ow.stays (S := (· ≠ 53)) (flat_ostays _ _ _) (by decide) _ _ _ _ _ _ p1 Kk (Nat.le_refl _), Ow.stays (S := (· ≠ 53)) (flat_ostays _ _ _) (by decide) _ _ _ _ _ _ p2 Kk (Nat.le_refl _), Ow.nil _ _ _ _ _, p4, p5⟩
              go_upto_region 17 with fail
              have B1e := B1.below hk2
              have B2e := B2.below hk2
              have B3e := B3.below hk2
              have bg := B3e.cell
              have bgf := B3e.frozen
              have lk := oIk.len
              have onek := oIk.rd.one
              have LKK := hide (infItem.trans (congrArg some lk.symm))
              have hv4 : Hid (Ow 53 18 OItem (((we.setCell ⟨gi, 2, none⟩ (.slice none 0 0))).alloc (.cells ((ja :: jb :: Value.slice none 0 0 :: (p.item.look.enc ++ p.item.box.enc))).toArray 53)) w.heap.size (.slice Ai k ci) ((l.take k).map (showItem · v))) := hide (Ow.stays (S := fun _ => True) (OItem.stays trivial trivial trivial) trivial _ _ _ _ _ _ HO.out ((Kp.below hk2 _).bel (al1_below _ _)) (Nat.le_refl _))
              have oK : Hid (OItem (((we.setCell ⟨gi, 2, none⟩ (.slice none 0 0))).alloc (.cells ((ja :: jb :: Value.slice none 0 0 :: (p.item.look.enc ++ p.item.box.enc))).toArray 53)) w.heap.size ((ja :: jb :: Value.slice none 0 0 :: (p.item.look.enc ++ p.item.box.enc))) (showItem p v)) := hide (OItem.stays (S := fun _ => True) trivial trivial trivial _ _ _ _ _ _ oIk (Kp.below (al1_below _ _) _) (Nat.le_refl _))
              go_wp2_with (first
                | (refine wpList_load_at rfl 53 (.tmp 15) rfl gi 0 rfl ((ja :: jb :: Value.slice none 0 0 :: (p.item.look.enc ++ p.item.box.enc))) _ (Box.at Bk) Try.underlying53 rfl LKK.out ?_)
                | (refine wpList_buildSlice_to 31 53 1 [(0, .tmp 58)] rfl rfl Try.underlying31 _ (sliceItem _ lk) ?_)
                | (at_builtin; refine wpList_append_one (O := OItem) _ ETItem (OItem.stays (by decide) (by decide) (by decide)) rfl (.tmp 57) (.tmp 59) rfl w.heap.size (.slice Ai k ci) ((l.take k).map (showItem · v)) rfl hv4.out ⟨((we.setCell ⟨gi, 2, none⟩ (.slice none 0 0))).heap.size, 0, none⟩ 1 ((ja :: jb :: Value.slice none 0 0 :: (p.item.look.enc ++ p.item.box.enc))) (showItem p v) rfl lk (fun j u hj => ?_) (List.all_eq_true.1 onek) oK.out (hide ⟨?_, ?_⟩) ?_ ?_; (rw [add_mk]; exact Box.at (al1 ((we.setCell ⟨gi, 2, none⟩ (.slice none 0 0))) _) j u hj); (rw [LK.out]; omega); (rw [LK.out]; omega); (have := hbw.size; have := hk2.size; rw [size_al]; omega); intro v5 w5 o5 g5; obtain ⟨A5, n5', c5, rfl⟩ := o5.shape; have D1 := (B1e.alloc _).row hv4.out g5 (by decide); have D2 := (B2e.alloc _).row hv4.out g5 (by decide); have D3 := (B3e.alloc _).row hv4.out g5 (by decide); have h5 : Below w.heap.size w w5 := below_row ((bstep hbw hk2).alloc (bstep hbw hk2).size _) hv4.out g5 (Nat.le_refl _); clear bg bgf; have bg := D3.cell; have bgf := D3.frozen))
              have K6 : Kp (· ≠ 33) w5 (w5.setCell ⟨G, 0, none⟩ (.slice A5 n5' c5)) := (Kp.refl _ _).set D3.is (by decide) _
              have o6 := Ow.stays (S := (· ≠ 33)) (OItem.stays (by decide) (by decide) (by decide)) (by decide) _ _ _ _ _ _ o5 K6 (Nat.le_refl _)
              have hvT : Ow 128 3 OTexture w5 w.heap.size (.slice At' t.length ct) t := Ow.stays (S := (· ≠ 53)) (OTexture.stays (by decide)) (by decide) _ _ _ _ _ _ HOT.out (((Kp.below hk2 _).bel (al1_below _ _)).row hv4.out g5 (by decide)) (Nat.le_refl _)
              have o7 := Ow.stays (S := (· ≠ 33)) (OTexture.stays (by decide)) (by decide) _ _ _ _ _ _ hvT K6 (Nat.le_refl _)
              have E1 := D1.far (p := ⟨G, 0, none⟩) (by show _ ≠ G; omega) (.slice A5 n5' c5)
              have E2 := D2.far (p := ⟨G, 0, none⟩) (by show _ ≠ G; omega) (.slice A5 n5' c5)
              have E3 : Box _ G #[.slice A5 n5' c5, .slice At' t.length ct] 33 := D3.set 0 (.slice A5 n5' c5)
              have h6 : Below w.heap.size w (w5.setCell ⟨G, 0, none⟩ (.slice A5 n5' c5)) := h5.setCell (by show _ ≤ G; omega) _
              rw [← HT.out] at o6
              exact ⟨⟨k + 1, _, by omega, by go_num, h6, E1, E2, E3, o7, o6⟩, by simp [intOf]; omega⟩
            · have HPB' := HPB.out
              rw [hon] at HPB'
              obtain ⟨_, f18, f19⟩ := HPB'
              have HSL := hide (Sl.stays (FlatOk.stays _ _) _ we _ wr.heap.size _ _ HG.out (Agree.of n3 (Nat.le_refl _)) (Nat.le_refl _))
              cases hsu : shut p.gates v
              · have hsi : showItem p v = p.item := by unfold showItem shownB; rw [hon, hsu]; rfl
                go_upto_region 17 with (first
                  | (go_at_call 46; refine Calls.mono (contains_shut _ p.gates v _ _ wr.heap.size n3.size HSL.out HV.out B1v) ?_; rintro _ w4 ⟨rfl, n4⟩; simp only [hsu]; have Bi4 := Box.of_below n4 Bi; have n5 : Below wr.heap.size wr w4 := bstep n3 n4; have oI4 := OItem.stays (S := fun _ => True) trivial trivial trivial _ _ _ _ _ _ oIe (Kp.below n4 _) (Nat.le_refl _))
                  )
                rw [← hsi] at oI4
                have B1e := B1.below n5
                have B2e := B2.below n5
                have B3e := B3.below n5
                have bg := B3e.cell
                have bgf := B3e.frozen
                have lk := oI4.len
                have onek := oI4.rd.one
                have LKK := hide (infItem.trans (congrArg some lk.symm))
                have hv4 : Hid (Ow 53 18 OItem ((w4).alloc (.cells (jcs).toArray 53)) w.heap.size (.slice Ai k ci) ((l.take k).map (showItem · v))) := hide (Ow.stays (S := fun _ => True) (OItem.stays trivial trivial trivial) trivial _ _ _ _ _ _ HO.out ((Kp.below n5 _).bel (al1_below _ _)) (Nat.le_refl _))
                have oK : Hid (OItem ((w4).alloc (.cells (jcs).toArray 53)) w.heap.size (jcs) (showItem p v)) := hide (OItem.stays (S := fun _ => True) trivial trivial trivial _ _ _ _ _ _ oI4 (Kp.below (al1_below _ _) _) (Nat.le_refl _))
                go_wp2_with (first
                  | (refine wpList_load_at rfl 53 (.tmp 15) rfl gi 0 rfl (jcs) _ (Box.at Bi4) Try.underlying53 rfl LKK.out ?_)
                  | (refine wpList_buildSlice_to 31 53 1 [(0, .tmp 58)] rfl rfl Try.underlying31 _ (sliceItem _ lk) ?_)
                  | (at_builtin; refine wpList_append_one (O := OItem) _ ETItem (OItem.stays (by decide) (by decide) (by decide)) rfl (.tmp 57) (.tmp 59) rfl w.heap.size (.slice Ai k ci) ((l.take k).map (showItem · v)) rfl hv4.out ⟨(w4).heap.size, 0, none⟩ 1 (jcs) (showItem p v) rfl lk (fun j u hj => ?_) (List.all_eq_true.1 onek) oK.out (hide ⟨?_, ?_⟩) ?_ ?_; (rw [add_mk]; exact Box.at (al1 (w4) _) j u hj); (rw [LK.out]; omega); (rw [LK.out]; omega); (have := hbw.size; have := n5.size; rw [size_al]; omega); intro v5 w5 o5 g5; obtain ⟨A5, n5', c5, rfl⟩ := o5.shape; have D1 := (B1e.alloc _).row hv4.out g5 (by decide); have D2 := (B2e.alloc _).row hv4.out g5 (by decide); have D3 := (B3e.alloc _).row hv4.out g5 (by decide); have h5 : Below w.heap.size w w5 := below_row ((bstep hbw n5).alloc (bstep hbw n5).size _) hv4.out g5 (Nat.le_refl _); clear bg bgf; have bg := D3.cell; have bgf := D3.frozen))
                have K6 : Kp (· ≠ 33) w5 (w5.setCell ⟨G, 0, none⟩ (.slice A5 n5' c5)) := (Kp.refl _ _).set D3.is (by decide) _
                have o6 := Ow.stays (S := (· ≠ 33)) (OItem.stays (by decide) (by decide) (by decide)) (by decide) _ _ _ _ _ _ o5 K6 (Nat.le_refl _)
                have hvT : Ow 128 3 OTexture w5 w.heap.size (.slice At' t.length ct) t := Ow.stays (S := (· ≠ 53)) (OTexture.stays (by decide)) (by decide) _ _ _ _ _ _ HOT.out (((Kp.below n5 _).bel (al1_below _ _)).row hv4.out g5 (by decide)) (Nat.le_refl _)
                have o7 := Ow.stays (S := (· ≠ 33)) (OTexture.stays (by decide)) (by decide) _ _ _ _ _ _ hvT K6 (Nat.le_refl _)
                have E1 := D1.far (p := ⟨G, 0, none⟩) (by show _ ≠ G; omega) (.slice A5 n5' c5)
                have E2 := D2.far (p := ⟨G, 0, none⟩) (by show _ ≠ G; omega) (.slice A5 n5' c5)
                have E3 : Box _ G #[.slice A5 n5' c5, .slice At' t.length ct] 33 := D3.set 0 (.slice A5 n5' c5)
                have h6 : Below w.heap.size w (w5.setCell ⟨G, 0, none⟩ (.slice A5 n5' c5)) := h5.setCell (by show _ ≤ G; omega) _
                rw [← HT.out] at o6
                exact ⟨⟨k + 1, _, by omega, by go_num, h6, E1, E2, E3, o7, o6⟩, by simp [intOf]; omega⟩
              · have hsh : shownB p v = false := by unfold shownB; rw [hon, hsu]; rfl
                obtain ⟨ja, jb, jc, rfl, q1, q2, q3, q4, q5⟩ := oIe
                have oIe : OItem we w.heap.size (ja :: jb :: jc :: (p.item.look.enc ++ p.item.box.enc)) p.item := ⟨_, _, _, rfl, q1, q2, q3, q4, q5⟩
                clear q1 q2 q3 q4 q5
                go_upto_region 17 with (first
                  | (go_at_call 46; refine Calls.mono (contains_shut _ p.gates v _ _ wr.heap.size n3.size HSL.out HV.out B1v) ?_; rintro _ w4 ⟨rfl, n4⟩; simp only [hsu]; have Bi4 := Box.of_below n4 Bi; have n5 : Below wr.heap.size wr w4 := bstep n3 n4; have oI4 := OItem.stays (S := fun _ => True) trivial trivial trivial _ _ _ _ _ _ oIe (Kp.below n4 _) (Nat.le_refl _); have bc2 : w4.cell? ⟨gi, 2, none⟩ = some jc := Box.cell Bi4 2; have bf := Box.frozen Bi4)
                  )
                obtain ⟨ja', jb', jc', hjc, p1, p2, p3, p4, p5⟩ := oI4
                obtain ⟨rfl, rfl, rfl⟩ : ja = ja' ∧ jb = jb' ∧ jc = jc' := by simpa using hjc
                clear hjc
                have hsi : showItem p v = { p.item with tris := [] } := by unfold showItem; rw [hsh]; rfl
                have bc2 : (w4).cell? ⟨gi, 2, none⟩ = some jc := Box.cell Bi4 2
                have bf := Box.frozen Bi4
                have Bk : Box ((w4).setCell ⟨gi, 2, none⟩ (.slice none 0 0)) gi (ja :: jb :: Value.slice none 0 0 :: (p.item.look.enc ++ p.item.box.enc)).toArray 53 := Box.set Bi4 2 (.slice none 0 0)
                have Kk : Kp (· ≠ 53) (w4) ((w4).setCell ⟨gi, 2, none⟩ (.slice none 0 0)) := (Kp.refl _ _).set (Box.is Bi4) (by decide) _
                have hk2 : Below wr.heap.size wr ((w4).setCell ⟨gi, 2, none⟩ (.slice none 0 0)) := Below.setCell n5 (Nat.le_of_lt hlt2) _
                have oIk : OItem ((w4).setCell ⟨gi, 2, none⟩ (.slice none 0 0)) w.heap.size (ja :: jb :: Value.slice none 0 0 :: (p.item.look.enc ++ p.item.box.enc)) (showItem p v) := by
                  rw [hsi]
                  exact ⟨ja, jb, _, rfl, Ow.stays (S := (· ≠ 53)) (flat_ostays _ _ _) (by decide) _ _ _ _ _ _ p1 Kk (Nat.le_refl _), Ow.stays (S := (· ≠ 53)) (flat_ostays _ _ _) (by decide) _ _ _ _ _ _ p2 Kk (Nat.le_refl _), Ow.nil _ _ _ _ _, p4, p5⟩
                have B1e := B1.below hk2
                have B2e := B2.below hk2
                have B3e := B3.below hk2
                have bg := B3e.cell
                have bgf := B3e.frozen
                have lk := oIk.len
                have onek := oIk.rd.one
                have LKK := hide (infItem.trans (congrArg some lk.symm))
                have hv4 : Hid (Ow 53 18 OItem (((w4.setCell ⟨gi, 2, none⟩ (.slice none 0 0))).alloc (.cells ((ja :: jb :: Value.slice none 0 0 :: (p.item.look.enc ++ p.item.box.enc))).toArray 53)) w.heap.size (.slice Ai k ci) ((l.take k).map (showItem · v))) := hide (Ow.stays (S := fun _ => True) (OItem.stays trivial trivial trivial) trivial _ _ _ _ _ _ HO.out ((Kp.below hk2 _).bel (al1_below _ _)) (Nat.le_refl _))
                have oK : Hid (OItem (((w4.setCell ⟨gi, 2, none⟩ (.slice none 0 0))).alloc (.cells ((ja :: jb :: Value.slice none 0 0 :: (p.item.look.enc ++ p.item.box.enc))).toArray 53)) w.heap.size ((ja :: jb :: Value.slice none 0 0 :: (p.item.look.enc ++ p.item.box.enc))) (showItem p v)) := hide (OItem.stays (S := fun _ => True) trivial trivial trivial _ _ _ _ _ _ oIk (Kp.below (al1_below _ _) _) (Nat.le_refl _))
                go_wp2_with (first
                  | (refine wpList_load_at rfl 53 (.tmp 15) rfl gi 0 rfl ((ja :: jb :: Value.slice none 0 0 :: (p.item.look.enc ++ p.item.box.enc))) _ (Box.at Bk) Try.underlying53 rfl LKK.out ?_)
                  | (refine wpList_buildSlice_to 31 53 1 [(0, .tmp 58)] rfl rfl Try.underlying31 _ (sliceItem _ lk) ?_)
                  | (at_builtin; refine wpList_append_one (O := OItem) _ ETItem (OItem.stays (by decide) (by decide) (by decide)) rfl (.tmp 57) (.tmp 59) rfl w.heap.size (.slice Ai k ci) ((l.take k).map (showItem · v)) rfl hv4.out ⟨((w4.setCell ⟨gi, 2, none⟩ (.slice none 0 0))).heap.size, 0, none⟩ 1 ((ja :: jb :: Value.slice none 0 0 :: (p.item.look.enc ++ p.item.box.enc))) (showItem p v) rfl lk (fun j u hj => ?_) (List.all_eq_true.1 onek) oK.out (hide ⟨?_, ?_⟩) ?_ ?_; (rw [add_mk]; exact Box.at (al1 ((w4.setCell ⟨gi, 2, none⟩ (.slice none 0 0))) _) j u hj); (rw [LK.out]; omega); (rw [LK.out]; omega); (have := hbw.size; have := hk2.size; rw [size_al]; omega); intro v5 w5 o5 g5; obtain ⟨A5, n5', c5, rfl⟩ := o5.shape; have D1 := (B1e.alloc _).row hv4.out g5 (by decide); have D2 := (B2e.alloc _).row hv4.out g5 (by decide); have D3 := (B3e.alloc _).row hv4.out g5 (by decide); have h5 : Below w.heap.size w w5 := below_row ((bstep hbw hk2).alloc (bstep hbw hk2).size _) hv4.out g5 (Nat.le_refl _); clear bg bgf; have bg := D3.cell; have bgf := D3.frozen))
                have K6 : Kp (· ≠ 33) w5 (w5.setCell ⟨G, 0, none⟩ (.slice A5 n5' c5)) := (Kp.refl _ _).set D3.is (by decide) _
                have o6 := Ow.stays (S := (· ≠ 33)) (OItem.stays (by decide) (by decide) (by decide)) (by decide) _ _ _ _ _ _ o5 K6 (Nat.le_refl _)
                have hvT : Ow 128 3 OTexture w5 w.heap.size (.slice At' t.length ct) t := Ow.stays (S := (· ≠ 53)) (OTexture.stays (by decide)) (by decide) _ _ _ _ _ _ HOT.out (((Kp.below hk2 _).bel (al1_below _ _)).row hv4.out g5 (by decide)) (Nat.le_refl _)
                have o7 := Ow.stays (S := (· ≠ 33)) (OTexture.stays (by decide)) (by decide) _ _ _ _ _ _ hvT K6 (Nat.le_refl _)
                have E1 := D1.far (p := ⟨G, 0, none⟩) (by show _ ≠ G; omega) (.slice A5 n5' c5)
                have E2 := D2.far (p := ⟨G, 0, none⟩) (by show _ ≠ G; omega) (.slice A5 n5' c5)
                have E3 : Box _ G #[.slice A5 n5' c5, .slice At' t.length ct] 33 := D3.set 0 (.slice A5 n5' c5)
                have h6 : Below w.heap.size w (w5.setCell ⟨G, 0, none⟩ (.slice A5 n5' c5)) := h5.setCell (by show _ ≤ G; omega) _
                rw [← HT.out] at o6
                exact ⟨⟨k + 1, _, by omega, by go_num, h6, E1, E2, E3, o7, o6⟩, by simp [intOf]; omega⟩
          · have hk' : k = l.length := by omega
            subst hk'
            rw [List.take_of_length_le (Nat.le_refl _)] at hown
            obtain ⟨Ai, ni, ci, rfl⟩ : ∃ A n c, iv = Value.slice A n c := by obtain ⟨A, c, h, _⟩ := hown.form; exact ⟨_, _, _, h⟩
            subst htv
            go_wp2_with (first
              | (refine wpList_load_at rfl 33 (.tmp 9) rfl G 0 rfl [.slice Ai ni ci, .slice At' t.length ct] _ (Box.at (cs := [.slice Ai ni ci, .slice At' t.length ct]) B3) Try.underlying33 rfl infShow ?_)
              | (refine wpList_store_list rfl 33 (.tmp 6) (.tmp 63) rfl (w.heap.size + 1) rfl _ [.slice Ai ni ci, .slice At' t.length ct] _ rfl B2 rfl infShow rfl ?_; intro w2 B4 g4))
            refine bodyPost_ret (results_box_tmp Try.results11 _ _ _ _ [.slice Ai ni ci, .slice At' t.length ct] _ (.int .i64 0) rfl rfl B4 Try.underlying33 rfl infShow) rfl ?_
            refine ⟨_, rfl, ⟨_, rfl, ⟨_, _, rfl, ?_, ?_⟩⟩, below_gr hbw g4 (by omega)⟩
            · exact Ow.stays (S := (· ≠ 33)) (OItem.stays (by decide) (by decide) (by decide)) (by decide) _ _ _ _ _ _ hown ((Kp.refl _ _).gr g4 B2.is (by decide)) (Nat.le_refl _)
            · exact Ow.stays (S := (· ≠ 33)) (OTexture.stays (by decide)) (by decide) _ _ _ _ _ _ hownT ((Kp.refl _ _).gr g4 B2.is (by decide)) (Nat.le_refl _)

end Go.Proofs.Ytbflmipddiaiaaa
