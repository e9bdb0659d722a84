/-
  Places copied: the program's own way, the reference's.
-/
import Derived.Test.YtbflmipddiaiaaaOwn
namespace Go.Proofs.Ytbflmipddiaiaaa
open Go.RowKit

def DPlace.small (x : DPlace) : Prop := x.item.small ∧ x.gates.length ≤ 20000

theorem Ow.lt {α : Type} {e size : Nat} {O : Ro α} {w : World} {lo : Nat} {v : Value} {xs : List α} (h : Ow e size O w lo v xs) : ∀ g, v.ownBlock = some g → g < w.heap.size := fun g hg => by
  obtain ⟨cur, fr, hh⟩ := h.rowTy g hg
  exact (Array.getElem?_eq_some_iff.1 hh).1

theorem item_world' (x : DItem) (cs : List Value) (w : World) (B : Nat) (hB : B ≤ w.heap.size) (h : RItem w B cs x) (hs : x.small) :
    Calls Try.prog 45 #[.agg cs.toArray] w (RetIs (fun v w' => ∃ cs, v = .agg cs.toArray ∧ OItem w' w.heap.size cs x) w) := by
  obtain ⟨a, b, c, rfl, h1, h2, h3, h4, h5⟩ := h
  exact item_world x a b c w B hB h1 h2 h3 h4 h5 hs
theorem item_ref' (x : DItem) (cs : List Value) (w : World) (B : Nat) (hB : B ≤ w.heap.size) (h : RItem w B cs x) (hs : x.small) :
    Calls Try.prog 42 #[.agg cs.toArray] w (RetIs (fun v w' => ∃ cs, v = .agg cs.toArray ∧ OItem w' w.heap.size cs x) w) := by
  obtain ⟨a, b, c, rfl, h1, h2, h3, h4, h5⟩ := h
  exact item_ref x a b c w B hB h1 h2 h3 h4 h5 hs

/-- A place at its place, its two parts told apart. -/
theorem Sl.place2 {w : World} {B n c : Nat} {A : Option Addr} {xs : List DPlace} (h : Sl 20 RPlace w B (.slice A n c) xs) {k : Nat} (hk : k < xs.length) :
    ∃ b o ics Ag cg, A = some ⟨b, o, none⟩ ∧ b < B ∧ ics.length = 18 ∧ At w b (o + k * 20) (ics ++ [.bool xs[k].on, .slice Ag xs[k].gates.length cg]) ∧
      RItem w B ics xs[k].item ∧ Sl 5 RGate w B (.slice Ag xs[k].gates.length cg) xs[k].gates := by
  obtain ⟨b, o, cs, rfl, hb, _, ha, ics, g, rfl, h1, h2⟩ := h.elem hk
  obtain ⟨Ag, cg, rfl, _⟩ := h2.form
  exact ⟨b, o, ics, Ag, cg, rfl, hb, h1.len, ha, h1, h2⟩

theorem place_box {W : World} {g : Nat} {t : TypeId} {ics : List Value} {b : Bool} {v : Value} (hl : ics.length = 18) (h : Box W g (ics ++ [Value.bool b, v]).toArray t) : At W g 0 ics ∧ W.cell? ⟨g, 18, none⟩ = some (.bool b) ∧ W.cell? ⟨g, 19, none⟩ = some v := by
  have ha := h.at
  refine ⟨ha.append.1, ?_, ?_⟩
  · have := ha.append.2 0 _ rfl
    rw [hl] at this; exact this
  · have := ha.append.2 1 _ rfl
    rw [hl] at this; exact this

set_option maxRecDepth 100000 in
set_option maxHeartbeats 2000000 in
theorem twin_world (a : Value) (xs : List DPlace) (w : World) (B : Nat) (hB : B ≤ w.heap.size) (ha : Sl 20 RPlace w B a xs) (hn : xs.length ≤ 300) (hs : ∀ x ∈ xs, x.small) :
    Calls Try.prog 13 #[a] w (OwRet 116 20 OPlace xs w) := by
  obtain ⟨A, c, rfl, _, _, hr⟩ := ha.form
  have HA := hide (fun W (h : Below w.heap.size w W) => Sl.stays RPlace.stays _ W _ W.heap.size _ _ ha (Agree.of h hB) (Nat.le_trans hB h.size))
  have HS := hide hs
  clear ha hs
  go_enter Try.func13, Try.ntmps13
  go_wp2
  go_loopw [3, 8] (fun v i wr => ∃ k : Nat, k ≤ xs.length ∧ i = .int .i64 k ∧ Below w.heap.size w wr ∧ Ow 116 20 OPlace wr w.heap.size v (xs.take k)) (fun _ i _ => xs.length - (intOf i).toNat)
  case atStart => exact ⟨0, Nat.zero_le _, rfl, Below.refl _ _, by simpa using Ow.nil _ _ _ _ _⟩
  case round =>
    obtain ⟨k, hk, rfl, hbw, hown⟩ := hrel
    by_cases hlt : k < xs.length
    · obtain ⟨b1, o1, ics, Ag, cg, rfl, hb1, l1, hat1, hI, hG⟩ := (HA.out wr hbw).place2 hlt
      have hsm : xs[k].small := HS.out _ (List.getElem_mem hlt)
      have htk : xs.take (k + 1) = xs.take k ++ [xs[k]] := List.take_succ_eq_append_getElem hlt
      obtain ⟨p, hp⟩ : ∃ p, p = xs[k] := ⟨_, rfl⟩
      rw [← hp] at hsm htk hI hG hat1
      have HT := hide htk
      have hlk : (xs.take k).length = k := by rw [List.length_take]; omega
      have LK := hide hlk
      obtain ⟨Av, cv, hv, _⟩ := hown.form
      rw [hlk] at hv
      subst hv
      have HO := hide hown
      have L1 : Hid ((Try.prog.info? 116).map (·.size) = some (ics ++ [Value.bool p.on, Value.slice Ag p.gates.length cg]).length) := hide (infPlace.trans (congrArg some (by simp [l1])))
      have L2 := hide (infItem.trans (congrArg some l1.symm))
      have N1 : Hid ((ics ++ [Value.bool p.on, Value.slice Ag p.gates.length cg]).length = 20) := hide (by simp [l1])
      have O1 : Hid ((ics ++ [Value.bool p.on, Value.slice Ag p.gates.length cg]).all (·.oneCell') = true) := hide (by simp [hI.one]; simp [Value.oneCell'])
      have T1 := hide hat1
      have HI := hide hI
      have HG := hide hG
      have NI := hide l1
      have HSM := hide hsm
      clear hp htk hlk hown hat1 hI hG l1 hsm
      go_wp2_with (first
        | (refine wpList_load_at rfl 116 (.tmp 10) rfl b1 (o1 + k * 20) rfl (ics ++ [Value.bool p.on, Value.slice Ag p.gates.length cg]) _ T1.out Try.underlying116 rfl L1.out ?_)
        | (refine wpList_store_list rfl 116 (.tmp 5) (.tmp 11) rfl wr.heap.size rfl _ (ics ++ [Value.bool p.on, Value.slice Ag p.gates.length cg]) _ rfl (al1 wr _) N1.out.symm L1.out O1.out ?_; intro w1 B1 g1; have n1 : Below wr.heap.size wr w1 := below_gr (al1_below wr _) g1 (Nat.le_refl _)))
      have HC0 : (fun w' : World => At w' wr.heap.size 0 ics ∧ w'.cell? ⟨wr.heap.size, 18, none⟩ = some (.bool p.on) ∧ w'.cell? ⟨wr.heap.size, 19, none⟩ = some (.slice Ag p.gates.length cg)) w1.drew := place_box NI.out B1
      have B1d : Box w1.drew wr.heap.size (ics ++ [Value.bool p.on, Value.slice Ag p.gates.length cg]).toArray 116 := B1
      have n1d : Below wr.heap.size wr w1.drew := n1.drew
      have z1 : wr.heap.size < w1.drew.heap.size := B1d.lt
      refine wp_region_L (fun w' => At w' wr.heap.size 0 ics ∧ w'.cell? ⟨wr.heap.size, 18, none⟩ = some (.bool p.on) ∧ w'.cell? ⟨wr.heap.size, 19, none⟩ = some (.slice Ag p.gates.length cg)) 12 (by kernel_rfl) ?_
      generalize w1.drew = w1d at *
      refine anyL_take 0 (v := .slice Av k cv) rfl (by kernel_rfl) (fun _ _ _ h => h) HC0 (yieldsIf_of rfl (fun w' hC => by go_simp)) ?_
      refine anyL_take 1 (v := .pointer (some ⟨wr.heap.size, 0, none⟩)) rfl (by kernel_rfl) (fun _ _ _ h => h) HC0 (yieldsIf_of rfl (fun w' hC => by go_simp)) ?_
      refine anyL_take 2 (v := .agg ics.toArray) rfl (by kernel_rfl) (fun _ _ _ h => h) HC0 (yieldsIf_of rfl (fun w' hC => exec_load_at 53 (.tmp 13) rfl wr.heap.size 0 rfl ics _ hC.1 Try.underlying53 rfl L2.out)) ?_
      refine anyL_take 4 (v := .pointer (some ⟨wr.heap.size, 18, none⟩)) rfl (by kernel_rfl) (fun _ _ _ h => h) HC0 (yieldsIf_of rfl (fun w' hC => by go_simp)) ?_
      refine anyL_take 5 (v := .bool p.on) rfl (by kernel_rfl) (fun _ _ _ h => h) HC0 (yieldsIf_of rfl (fun w' hC => by go_simp)) ?_
      refine anyL_take 6 (v := .pointer (some ⟨wr.heap.size, 19, none⟩)) rfl (by kernel_rfl) (fun _ _ _ h => h) HC0 (yieldsIf_of rfl (fun w' hC => by go_simp)) ?_
      refine anyL_take 7 (v := .slice Ag p.gates.length cg) rfl (by kernel_rfl) (fun _ _ _ h => h) HC0 (yieldsIf_of rfl (fun w' hC => by go_simp)) ?_
      refine anyL_one 3 rfl (by kernel_rfl) rfl (fun K hK => ?_)
      go_simp
      refine Calls.mono (item_world' p.item ics _ wr.heap.size n1d.size (RItem.stays _ _ _ _ _ _ HI.out (Agree.of n1d (Nat.le_refl _)) (Nat.le_refl _)) HSM.out.1) ?_
      rintro _ w2 ⟨_, rfl, ⟨jcs, rfl, oI⟩, n2⟩
      have B2 := Box.of_below n2 B1d
      have h2 : Below wr.heap.size wr w2 := bstep n1d n2
      refine hK _ _ (fun _ => place_box NI.out B2) ?_
      refine anyL_one 8 rfl (by kernel_rfl) rfl (fun K hK => ?_)
      go_simp
      refine Calls.mono (cloneGate _ p.gates _ wr.heap.size (Sl.stays (FlatOk.stays _ _) _ _ _ _ _ _ HG.out (Agree.of h2 (Nat.le_refl _)) (Nat.le_refl _)) h2.size ?_) ?_
      · exact hide (by have := HSM.out.2; omega)
      rintro _ w3 ⟨_, rfl, oG, n3⟩
      obtain ⟨Ah, ch, rfl, _⟩ := oG.form
      have B3 := Box.of_below n3 B2
      have h3 : Below wr.heap.size wr w3 := bstep h2 n3
      refine hK _ _ (fun _ => place_box NI.out B3) ?_
      have oP : OPlace w3 w.heap.size (jcs ++ [Value.bool p.on, Value.slice Ah p.gates.length ch]) p := ⟨jcs, _, rfl, OItem.stays (S := fun _ => True) trivial trivial trivial _ _ _ _ _ _ oI (Kp.below n3 _) (by have := hbw.size; omega), Ow.stays (S := fun _ => True) (flat_ostays _ _ _) trivial _ _ _ _ _ _ oG (Kp.refl _ _) (by have := hbw.size; have := n2.size; omega)⟩
      refine anyL_one 9 rfl (by kernel_rfl) rfl (fun K hK => ?_)
      refine wp_build_to 116 [(0, .tmp 15), (1, .tmp 17), (2, .tmp 20)] rfl _ (builtPlace3 jcs oI.len p.on Ah p.gates.length ch) ?_
      refine hK _ _ (fun _ => place_box NI.out B3) ?_
      refine anyL_one 10 rfl (by kernel_rfl) rfl (fun K hK => ?_)
      refine wp_buildSlice_to 22 116 1 [(0, .tmp 21)] rfl Try.underlying22 _ (slicePlace _ oP.len) ?_
      refine hK _ _ (fun _ => place_box NI.out (B3.alloc _)) ?_
      refine anyL_one 11 rfl (by kernel_rfl) rfl (fun K hK => ?_)
      have oP4 : OPlace (w3.alloc (.cells (jcs ++ [Value.bool p.on, Value.slice Ah p.gates.length ch]).toArray 116)) w.heap.size (jcs ++ [Value.bool p.on, Value.slice Ah p.gates.length ch]) p := OPlace.stays (S := fun _ => True) trivial trivial trivial trivial _ _ _ _ _ _ oP (Kp.below (al1_below _ _) _) (Nat.le_refl _)
      have hv4 : Ow 116 20 OPlace (w3.alloc (.cells (jcs ++ [Value.bool p.on, Value.slice Ah p.gates.length ch]).toArray 116)) w.heap.size (.slice Av k cv) (xs.take k) := Ow.stays (S := fun _ => True) (OPlace.stays trivial trivial trivial trivial) trivial _ _ _ _ _ _ HO.out ((Kp.below h3 _).bel (al1_below _ _)) (Nat.le_refl _)
      have hcell : ∀ j u, (jcs ++ [Value.bool p.on, Value.slice Ah p.gates.length ch])[j]? = some u → (w3.alloc (.cells (jcs ++ [Value.bool p.on, Value.slice Ah p.gates.length ch]).toArray 116)).cell? ((⟨w3.heap.size, 0, none⟩ : Addr).add j) = some u := fun j u hj => by rw [add_mk]; exact Box.at (al1 w3 _) j u hj
      have hbytes : Hid (((xs.take k).length + 1) * 200 ≤ 140737488355328 ∧ (xs.take k).length + 1 ≤ 140737488355328) := hide ⟨by rw [LK.out]; omega, by rw [LK.out]; omega⟩
      have hz3 : w.heap.size ≤ (w3.alloc (.cells (jcs ++ [Value.bool p.on, Value.slice Ah p.gates.length ch]).toArray 116)).heap.size := by have := hbw.size; have := h3.size; rw [size_al]; omega
      refine wp_append_one _ ETPlace (OPlace.stays (by decide) (by decide) (by decide) (by decide)) (.tmp 12) (.tmp 22) rfl w.heap.size (.slice Av k cv) (xs.take k) rfl hv4 ⟨w3.heap.size, 0, none⟩ 1 (jcs ++ [Value.bool p.on, Value.slice Ah p.gates.length ch]) p rfl oP4.len hcell (List.all_eq_true.1 oP4.one) oP4 hbytes hz3 ?_
      intro v5 w5 o5 g5
      have h5 : Below w.heap.size w w5 := below_row (bstep (bstep hbw h3) (al1_below _ _)) hv4 g5 (Nat.le_refl _)
      have B5 : Box w5 wr.heap.size _ _ := Box.of_grown g5 (B3.alloc _) (fun e => by have := HO.out.lt _ e; omega)
      refine hK _ _ (fun _ => place_box NI.out B5) ?_
      refine anyL_one 12 rfl (by kernel_rfl) rfl (fun K hK => ?_)
      go_simp
      refine hK _ _ (fun h => by cases h) ?_
      refine anyL_done (by kernel_rfl) ?_
      rw [← HT.out] at o5
      go_wp2
      go_roundw
      case rel => exact ⟨k + 1, by omega, by go_num, h5, o5⟩
      case measure => simp [intOf]; omega
    · have hk' : k = xs.length := by omega
      subst hk'
      rw [List.take_of_length_le (Nat.le_refl _)] at hown
      go_wp2
      go_ret
      exact ⟨_, rfl, hown, hbw⟩

end Go.Proofs.Ytbflmipddiaiaaa
