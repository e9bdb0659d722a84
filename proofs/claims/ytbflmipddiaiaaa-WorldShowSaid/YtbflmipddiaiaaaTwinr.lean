/-
  Places copied by the reference.
-/
import Derived.Test.YtbflmipddiaiaaaTwin
namespace Go.Proofs.Ytbflmipddiaiaaa
open Go.RowKit

theorem place_set (ics : List Value) (hl : ics.length = 18) (b : Bool) (u v : Value) : (ics ++ [Value.bool b, u]).toArray.setIfInBounds 19 v = (ics ++ [Value.bool b, v]).toArray := by
  match ics, hl with
  | [a0, a1, a2, a3, a4, a5, a6, a7, a8, a9, a10, a11, a12, a13, a14, a15, a16, a17], _ => show _ = _; rfl

set_option maxRecDepth 100000 in
set_option maxHeartbeats 2000000 in
theorem twin_ref (a : Value) (xs : List DPlace) (w : World) (B : Nat) (hB : B ≤ w.heap.size) (ha : Sl 20 RPlace w B a xs) (hn : xs.length ≤ 300) (hs : ∀ x ∈ xs, x.small) :
    Calls Try.prog 10 #[a] w (OwRet 116 20 OPlace xs w) := by
  obtain ⟨A, c, rfl, _, _, hr⟩ := ha.form
  have HA := hide (fun W (h : Below w.heap.size w W) => Sl.stays RPlace.stays _ W _ W.heap.size _ _ ha (Agree.of h hB) (Nat.le_trans hB h.size))
  have HS := hide hs
  clear ha hs
  go_enter Try.func10, Try.ntmps10
  go_wp2
  go_loopw [3, 4] (fun v i wr => ∃ k : Nat, k ≤ xs.length ∧ i = .int .i64 k ∧ Below w.heap.size w wr ∧ Ow 116 20 OPlace wr w.heap.size v (xs.take k)) (fun _ i _ => xs.length - (intOf i).toNat)
  case atStart => exact ⟨0, Nat.zero_le _, rfl, Below.refl _ _, by simpa using Ow.nil _ _ _ _ _⟩
  case round =>
    obtain ⟨k, hk, rfl, hbw, hown⟩ := hrel
    by_cases hlt : k < xs.length
    · obtain ⟨b1, o1, ics, Ag, cg, rfl, hb1, l1, hat1, hI, hG⟩ := (HA.out wr hbw).place2 hlt
      have hsm : xs[k].small := HS.out _ (List.getElem_mem hlt)
      have htk : xs.take (k + 1) = xs.take k ++ [xs[k]] := List.take_succ_eq_append_getElem hlt
      obtain ⟨p, hp⟩ : ∃ p, p = xs[k] := ⟨_, rfl⟩
      rw [← hp] at hsm htk hI hG hat1
      have HT := hide htk
      have hlk : (xs.take k).length = k := by rw [List.length_take]; omega
      have LK := hide hlk
      obtain ⟨Av, cv, hv, _⟩ := hown.form
      rw [hlk] at hv
      subst hv
      have HO := hide hown
      have L2 := hide (infItem.trans (congrArg some l1.symm))
      have T1 := hide hat1
      have HI := hide hI
      have HG := hide hG
      have NI := hide l1
      have HSM := hide hsm
      have HC : Hid (∀ W, Below wr.heap.size wr W → At W b1 (o1 + k * 20) ics ∧ W.cell? ⟨b1, o1 + k * 20 + 18, none⟩ = some (.bool p.on) ∧ W.cell? ⟨b1, o1 + k * 20 + 19, none⟩ = some (.slice Ag p.gates.length cg)) := by
        refine hide (fun W hW => ?_)
        have h := hat1.below hW hb1
        refine ⟨h.append.1, ?_, ?_⟩
        · have := h.append.2 0 _ rfl
          rw [l1] at this; exact this
        · have := h.append.2 1 _ rfl
          rw [l1] at this; exact this
      clear hp htk hlk hown hat1 hI hG l1 hsm
      go_wp2_with fail
      have HC0 : (fun w' : World => At w' b1 (o1 + k * 20) ics ∧ w'.cell? ⟨b1, o1 + k * 20 + 18, none⟩ = some (.bool p.on) ∧ w'.cell? ⟨b1, o1 + k * 20 + 19, none⟩ = some (.slice Ag p.gates.length cg)) wr.drew := HC.out _ (Below.refl _ _).drew
      have n0 : Below wr.heap.size wr wr.drew := (Below.refl _ _).drew
      refine wp_region_L (fun w' => At w' b1 (o1 + k * 20) ics ∧ w'.cell? ⟨b1, o1 + k * 20 + 18, none⟩ = some (.bool p.on) ∧ w'.cell? ⟨b1, o1 + k * 20 + 19, none⟩ = some (.slice Ag p.gates.length cg)) 13 (by kernel_rfl) ?_
      generalize wr.drew = wd at *
      refine anyL_take 0 (v := .slice (some ⟨b1, o1, none⟩) xs.length c) rfl (by kernel_rfl) (fun _ _ _ h => h) HC0 (yieldsIf_of rfl (fun w' hC => by go_simp)) ?_
      refine anyL_take 1 (v := .int .i64 k) rfl (by kernel_rfl) (fun _ _ _ h => h) HC0 (yieldsIf_of rfl (fun w' hC => by go_simp)) ?_
      refine anyL_take 2 (v := .pointer (some ⟨b1, o1 + k * 20, none⟩)) rfl (by kernel_rfl) (fun _ _ _ h => h) HC0 (yieldsIf_of rfl (fun w' hC => by go_simp)) ?_
      refine anyL_take 3 (v := .pointer (some ⟨b1, o1 + k * 20, none⟩)) rfl (by kernel_rfl) (fun _ _ _ h => h) HC0 (yieldsIf_of rfl (fun w' hC => by go_simp)) ?_
      refine anyL_take 4 (v := .agg ics.toArray) rfl (by kernel_rfl) (fun _ _ _ h => h) HC0 (yieldsIf_of rfl (fun w' hC => exec_load_at 53 (.tmp 15) rfl b1 (o1 + k * 20) rfl ics _ hC.1 Try.underlying53 rfl L2.out)) ?_
      refine anyL_take 6 (v := .slice (some ⟨b1, o1, none⟩) xs.length c) rfl (by kernel_rfl) (fun _ _ _ h => h) HC0 (yieldsIf_of rfl (fun w' hC => by go_simp)) ?_
      refine anyL_take 7 (v := .int .i64 k) rfl (by kernel_rfl) (fun _ _ _ h => h) HC0 (yieldsIf_of rfl (fun w' hC => by go_simp)) ?_
      refine anyL_take 8 (v := .pointer (some ⟨b1, o1 + k * 20, none⟩)) rfl (by kernel_rfl) (fun _ _ _ h => h) HC0 (yieldsIf_of rfl (fun w' hC => by go_simp)) ?_
      refine anyL_take 9 (v := .pointer (some ⟨b1, o1 + k * 20 + 18, none⟩)) rfl (by kernel_rfl) (fun _ _ _ h => h) HC0 (yieldsIf_of rfl (fun w' hC => by go_simp)) ?_
      refine anyL_take 10 (v := .bool p.on) rfl (by kernel_rfl) (fun _ _ _ h => h) HC0 (yieldsIf_of rfl (fun w' hC => by go_simp)) ?_
      refine anyL_meet' (fun a (x : List Value × Nat) => ((a.put (some 17) (.agg x.1.toArray)).put (some 23) (.agg (x.1 ++ [Value.bool p.on, Value.slice none 0 0]).toArray)).put (some 5) (.pointer (some ⟨x.2, 0, none⟩)))
        (fun x w' => Box w' x.2 (x.1 ++ [Value.bool p.on, Value.slice none 0 0]).toArray 116 ∧ OItem w' w.heap.size x.1 p.item ∧ Below wr.heap.size wr w' ∧ wr.heap.size ≤ x.2) ?_ ?_
      · refine anyL_two 5 12 rfl rfl (by kernel_rfl) rfl rfl (fun K hK => ?_) (fun K hK => ?_)
        · go_simp
          refine Calls.mono (item_ref' p.item ics _ wr.heap.size n0.size (RItem.stays _ _ _ _ _ _ HI.out (Agree.of n0 (Nat.le_refl _)) (Nat.le_refl _)) HSM.out.1) ?_
          rintro _ w2 ⟨_, rfl, ⟨jcs, rfl, oI⟩, n2⟩
          have h2 : Below wr.heap.size wr w2 := bstep n0 n2
          refine hK _ _ (fun _ => HC.out _ h2) ?_
          refine anyL_take 11 (v := .agg (jcs ++ [Value.bool p.on, Value.slice none 0 0]).toArray) rfl (by kernel_rfl) (fun _ _ _ h => h) (HC.out _ h2) (yieldsIf_of rfl (fun w' hC => exec_build_to 116 [(0, .tmp 17), (1, .tmp 22)] rfl _ (builtPlace2 jcs oI.len p.on))) ?_
          refine anyL_one 12 rfl (by kernel_rfl) rfl (fun K hK => ?_)
          go_simp
          refine hK _ _ (fun _ => HC.out _ (h2.alloc h2.size _)) ?_
          refine anyL_one 13 rfl (by kernel_rfl) rfl (fun K hK => ?_)
          refine wp_store_list 116 (.tmp 5) (.tmp 23) rfl w2.heap.size rfl _ (jcs ++ [Value.bool p.on, Value.slice none 0 0]) _ rfl (al1 w2 _) (by simp [oI.len]) (infPlace.trans (congrArg some (by simp [oI.len]))) (by simp [oI.rd.one]; simp [Value.oneCell']) ?_
          intro w5 B5 g5
          refine hK _ _ (fun h => by cases h) ?_
          refine anyL_done (by kernel_rfl) ?_
          refine ⟨(jcs, w2.heap.size), ?_, B5, ?_, ?_, h2.size⟩
          · go_simp
          · exact OItem.stays (S := (· ≠ 116)) (by decide) (by decide) (by decide) _ _ _ _ _ _ oI ((Kp.below (al1_below _ _) _).gr g5 (Box.is (al1 w2 _)) (by decide)) (by have := hbw.size; have := n0.size; omega)
          · exact below_gr (h2.alloc h2.size _) g5 h2.size
        · go_simp
          refine hK _ _ (fun _ => HC.out _ (n0.alloc n0.size _)) ?_
          refine anyL_one 5 rfl (by kernel_rfl) rfl (fun K hK => ?_)
          go_simp
          refine Calls.mono (item_ref' p.item ics _ wr.heap.size (n0.alloc n0.size _).size (RItem.stays _ _ _ _ _ _ HI.out (Agree.of (n0.alloc n0.size _) (Nat.le_refl _)) (Nat.le_refl _)) HSM.out.1) ?_
          rintro _ w2 ⟨_, rfl, ⟨jcs, rfl, oI⟩, n2⟩
          have h2 : Below wr.heap.size wr w2 := bstep (n0.alloc n0.size _) n2
          have B2 := Box.of_below n2 (al1 wd _)
          refine hK _ _ (fun _ => HC.out _ h2) ?_
          refine anyL_one 11 rfl (by kernel_rfl) rfl (fun K hK => ?_)
          refine wp_build_to 116 [(0, .tmp 17), (1, .tmp 22)] rfl _ (builtPlace2 jcs oI.len p.on) ?_
          refine hK _ _ (fun _ => HC.out _ h2) ?_
          refine anyL_one 13 rfl (by kernel_rfl) rfl (fun K hK => ?_)
          refine wp_store_list 116 (.tmp 5) (.tmp 23) rfl wd.heap.size rfl _ (jcs ++ [Value.bool p.on, Value.slice none 0 0]) _ rfl B2 (by simp [oI.len]) (infPlace.trans (congrArg some (by simp [oI.len]))) (by simp [oI.rd.one]; simp [Value.oneCell']) ?_
          intro w5 B5 g5
          refine hK _ _ (fun h => by cases h) ?_
          refine anyL_done (by kernel_rfl) ?_
          refine ⟨(jcs, wd.heap.size), ?_, B5, ?_, ?_, n0.size⟩
          · go_simp
          · exact OItem.stays (S := (· ≠ 116)) (by decide) (by decide) (by decide) _ _ _ _ _ _ oI ((Kp.refl _ _).gr g5 B2.is (by decide)) (by have := hbw.size; have := n0.size; simp only [size_al]; omega)
          · exact below_gr h2 g5 n0.size
      · rintro ⟨jcs, g⟩ w2 ⟨B2, oI, n2, hg2⟩
        go_wp2_with fail
        have lj := oI.len
        have B2d : Box w2.drew g (jcs ++ [Value.bool p.on, Value.slice none 0 0]).toArray 116 := B2
        have n2d : Below wr.heap.size wr w2.drew := n2.drew
        have oId : OItem w2.drew w.heap.size jcs p.item := oI
        have HC1 : Hid (∀ W, Below wr.heap.size wr W → Box W g (jcs ++ [Value.bool p.on, Value.slice none 0 0]).toArray 116 → (fun w' : World => w'.cell? ⟨g, 19, none⟩ = some (.slice none 0 0) ∧ w'.cell? ⟨b1, o1 + k * 20 + 19, none⟩ = some (.slice Ag p.gates.length cg)) W) := hide (fun W h b => ⟨(place_box lj b).2.2, (HC.out W h).2.2⟩)
        have HC0 := HC1.out _ n2d B2d
        refine wp_region_L (fun w' => w'.cell? ⟨g, 19, none⟩ = some (.slice none 0 0) ∧ w'.cell? ⟨b1, o1 + k * 20 + 19, none⟩ = some (.slice Ag p.gates.length cg)) 9 (by kernel_rfl) ?_
        clear B2 n2 oI
        generalize w2.drew = w2d at *
        have LJ := hide lj
        clear lj
        refine anyL_take 0 (v := .pointer (some ⟨g, 19, none⟩)) rfl (by kernel_rfl) (fun _ _ _ h => h) HC0 (yieldsIf_of rfl (fun w' hC => by go_simp)) ?_
        refine anyL_take 1 (v := .slice none 0 0) rfl (by kernel_rfl) (fun _ _ _ h => h) HC0 (yieldsIf_of rfl (fun w' hC => by go_simp)) ?_
        refine anyL_take 2 (v := .slice (some ⟨b1, o1, none⟩) xs.length c) rfl (by kernel_rfl) (fun _ _ _ h => h) HC0 (yieldsIf_of rfl (fun w' hC => by go_simp)) ?_
        refine anyL_take 3 (v := .int .i64 k) rfl (by kernel_rfl) (fun _ _ _ h => h) HC0 (yieldsIf_of rfl (fun w' hC => by go_simp)) ?_
        refine anyL_take 4 (v := .pointer (some ⟨b1, o1 + k * 20, none⟩)) rfl (by kernel_rfl) (fun _ _ _ h => h) HC0 (yieldsIf_of rfl (fun w' hC => by go_simp)) ?_
        refine anyL_take 5 (v := .pointer (some ⟨b1, o1 + k * 20 + 19, none⟩)) rfl (by kernel_rfl) (fun _ _ _ h => h) HC0 (yieldsIf_of rfl (fun w' hC => by go_simp)) ?_
        refine anyL_take 6 (v := .slice Ag p.gates.length cg) rfl (by kernel_rfl) (fun _ _ _ h => h) HC0 (yieldsIf_of rfl (fun w' hC => by go_simp)) ?_
        refine anyL_one 7 rfl (by kernel_rfl) rfl (fun K hK => ?_)
        refine wp_append_sl (enc := DGate.enc) (ok := DGate.ok) _ ETGate DGate.Enc (.tmp 25) (.tmp 30) rfl w.heap.size (.slice none 0 0) ([] : List DGate) (by go_simp) (Ow.nil _ _ _ _ _) wr.heap.size Ag p.gates.length cg p.gates (by go_simp) (Sl.stays (FlatOk.stays _ _) _ _ _ _ _ _ HG.out (Agree.of n2d (Nat.le_refl _)) (Nat.le_refl _)) (hide ⟨?_, ?_⟩) (by have := hbw.size; have := n2d.size; omega) ?_
        · have := HSM.out.2; simp only [List.length_nil]; omega
        · have := HSM.out.2; simp only [List.length_nil]; omega
        intro v3 w3 o3 g3
        simp only [List.nil_append] at o3
        obtain ⟨Ah, ch, hv3, _⟩ := o3.form
        subst hv3
        have n3 := below_none g3
        have B3 := Box.of_below n3 B2d
        have h3 : Below wr.heap.size wr w3 := bstep n2d n3
        refine hK _ _ (fun _ => HC1.out _ h3 B3) ?_
        refine anyL_one 8 rfl (by kernel_rfl) rfl (fun K hK => ?_)
        go_simp
        refine hK _ _ (fun _ => HC1.out _ h3 B3) ?_
        have bc3 := (place_box LJ.out B3).2.2
        have bf3 := Box.frozen B3
        refine anyL_one 9 rfl (by kernel_rfl) rfl (fun K hK => ?_)
        go_simp
        refine hK _ _ (fun h => by cases h) ?_
        refine anyL_done (by kernel_rfl) ?_
        have B4 := B3.set 19 (.slice Ah p.gates.length ch)
        rw [place_set _ LJ.out] at B4
        have K4 : Kp (· ≠ 116) w3 (w3.setCell ⟨g, 19, none⟩ (.slice Ah p.gates.length ch)) := (Kp.refl _ _).set B3.is (by decide) _
        have h4 : Below wr.heap.size wr (w3.setCell ⟨g, 19, none⟩ (.slice Ah p.gates.length ch)) := h3.setCell hg2 _
        have oP : OPlace (w3.setCell ⟨g, 19, none⟩ (.slice Ah p.gates.length ch)) w.heap.size (jcs ++ [Value.bool p.on, Value.slice Ah p.gates.length ch]) p := ⟨jcs, _, rfl, OItem.stays (S := (· ≠ 116)) (by decide) (by decide) (by decide) _ _ _ _ _ _ oId ((Kp.below n3 _).trans K4) (Nat.le_refl _), Ow.stays (S := (· ≠ 116)) (flat_ostays _ _ _) (by decide) _ _ _ _ _ _ o3 K4 (Nat.le_refl _)⟩
        generalize w3.setCell ⟨g, 19, none⟩ (.slice Ah p.gates.length ch) = w4 at *
        have L4 : Hid ((Try.prog.info? 116).map (·.size) = some (jcs ++ [Value.bool p.on, Value.slice Ah p.gates.length ch]).length) := hide (infPlace.trans (congrArg some oP.len.symm))
        clear bc3 bf3 HC0 K4
        have hv4 : Ow 116 20 OPlace (w4.alloc (.cells (jcs ++ [Value.bool p.on, Value.slice Ah p.gates.length ch]).toArray 116)) w.heap.size (.slice Av k cv) (xs.take k) := Ow.stays (S := fun _ => True) (OPlace.stays trivial trivial trivial trivial) trivial _ _ _ _ _ _ HO.out ((Kp.below h4 _).bel (al1_below _ _)) (Nat.le_refl _)
        have HV4 := hide hv4
        clear hv4
        go_wp2_with (first
          | (refine wpList_load_at rfl 116 (.tmp 5) rfl g 0 rfl (jcs ++ [Value.bool p.on, Value.slice Ah p.gates.length ch]) _ B4.at Try.underlying116 rfl L4.out ?_)
          | (refine wpList_buildSlice_to 22 116 1 [(0, .tmp 34)] rfl rfl Try.underlying22 _ (slicePlace _ oP.len) ?_)
          | (at_builtin; refine wpList_append_one (O := OPlace) _ ETPlace (OPlace.stays (by decide) (by decide) (by decide) (by decide)) rfl (.tmp 33) (.tmp 35) rfl w.heap.size (.slice Av k cv) (xs.take k) rfl HV4.out ⟨w4.heap.size, 0, none⟩ 1 (jcs ++ [Value.bool p.on, Value.slice Ah p.gates.length ch]) p rfl oP.len (fun j u hj => ?_) (List.all_eq_true.1 oP.one) (OPlace.stays (S := fun _ => True) trivial trivial trivial trivial _ _ _ _ _ _ oP (Kp.below (al1_below _ _) _) (Nat.le_refl _)) (hide ⟨?_, ?_⟩) ?_ ?_; (rw [add_mk]; exact Box.at (al1 w4 _) j u hj); (rw [LK.out]; omega); (rw [LK.out]; omega); (have := hbw.size; have := h4.size; rw [size_al]; omega); intro v5 w5 o5 g5))
        have h5 : Below w.heap.size w w5 := below_row (bstep (bstep hbw h4) (al1_below _ _)) HV4.out g5 (Nat.le_refl _)
        rw [← HT.out] at o5
        exact ⟨⟨k + 1, by omega, by go_num, h5, o5⟩, by simp [intOf]; omega⟩
    · have hk' : k = xs.length := by omega
      subst hk'
      rw [List.take_of_length_le (Nat.le_refl _)] at hown
      go_wp2
      go_ret
      exact ⟨_, rfl, hown, hbw⟩

end Go.Proofs.Ytbflmipddiaiaaa
