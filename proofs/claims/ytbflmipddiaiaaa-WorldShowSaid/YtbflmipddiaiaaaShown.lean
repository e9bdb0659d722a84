/-
  Whether a place is shown: the reference's Shown; the program's ContainsFunc over a closure.
-/
import Derived.Test.YtbflmipddiaiaaaGreat
namespace Go.Proofs.Ytbflmipddiaiaaa
open Go.RowKit

/-- Some gate is shut. -/
def shut (l : List DGate) (v : DVec) : Bool := l.any (fun g => !openB g v)
def shownB (p : DPlace) (v : DVec) : Bool := p.on && !shut p.gates v

theorem shut_take (l : List DGate) (v : DVec) {k : Nat} (hk : k < l.length) (h : shut (l.take k) v = false) : shut (l.take (k + 1)) v = !openB l[k] v := by
  unfold shut at *
  rw [List.take_succ_eq_append_getElem hk, List.any_append, h]
  simp
theorem shut_of (l : List DGate) (v : DVec) {k : Nat} (hk : k < l.length) (h : openB l[k] v = false) : shut l v = true := by
  unfold shut
  rw [List.any_eq_true]
  exact ⟨l[k], List.getElem_mem hk, by rw [h]; rfl⟩

set_option maxRecDepth 100000 in
set_option maxHeartbeats 1000000 in
theorem shown_ref (p : DPlace) (v : DVec) (cs : List Value) (w : World) (B : Nat) (hB : B ≤ w.heap.size) (hp : RPlace w B cs p) (hv : v.ok) :
    Calls Try.prog 49 #[.agg cs.toArray, .agg #[.int .i64 v.x, .int .i64 v.y, .int .i64 v.z]] w (Ret (.bool (shownB p v)) w) := by
  obtain ⟨ics, gv, rfl, hI, hG⟩ := hp
  obtain ⟨Ag, cg, rfl, _, _, hgl⟩ := hG.form
  have NI := hide hI.len
  have HG := hide (fun W (h : Below w.heap.size w W) => Sl.stays (FlatOk.stays _ _) _ W _ W.heap.size _ _ hG (Agree.of h hB) (Nat.le_trans hB h.size))
  have HV := hide hv
  clear hI hG hv
  go_enter Try.func49, Try.ntmps49
  go_wp2
  go_loopw [5] (fun i wr => ∃ k : Nat, k ≤ p.gates.length ∧ i = .int .i64 k ∧ Hid (shut (p.gates.take k) v = false) ∧ Below w.heap.size w wr ∧
    Box wr w.heap.size (ics ++ [Value.bool p.on, Value.slice Ag p.gates.length cg]).toArray 116 ∧ Box wr (w.heap.size + 1) #[.int .i64 v.x, .int .i64 v.y, .int .i64 v.z] 25) (fun i _ => p.gates.length - (intOf i).toNat)
  case atStart => exact ⟨0, Nat.zero_le _, rfl, hide (by simp [shut]), al2_below _ _ _, al2a w _ _, al2b w _ _⟩
  case round =>
    obtain ⟨k, hk, rfl, HT, hbw, B1, B2⟩ := hrel
    obtain ⟨_, f1, f2⟩ := place_box NI.out B1
    have bc2 := B2.cell
    have z1 := B1.lt
    have z2 := B2.lt
    by_cases hlt : k < p.gates.length
    · obtain ⟨b3, o3, _, rfl, hb3, _, hat3, rfl, hok⟩ := (HG.out wr hbw).elem hlt
      have f3 := DGate.at hat3
      obtain ⟨g, hg⟩ : ∃ g, g = p.gates[k] := ⟨_, rfl⟩
      rw [← hg] at f3 hok
      have hcall := fun u => Ret.ext (open_ref g v (ext wr u) hok HV.out)
      have HC := hide hcall
      have HX := hide hg
      have hext := ext_cell wr
      clear hcall hok hat3 hg
      cases hop : openB g v
      · go_wp2
        refine wp_region_ext_lit (by kernel_rfl) (by kernel_rfl) ?_
        repeat (go_big_quiet_step ((go_at_call 16; exact HC.out _)))
        refine wpQuiet_nil ?_
        intro _ hw'
        obtain ⟨uq, hw''⟩ := hw'
        subst hw''
        have hbx := ext_below wr uq
        simp only [hop]
        go_wp2
        go_ret
        refine ⟨ret_bool (Eq.symm ?_), by (repeat (first | (with_reducible exact Below.refl _ _) | (with_reducible assumption) | (with_reducible apply Below.drew) | (with_reducible apply below_drewN) | ((with_reducible apply Below.alloc); rotate_left; (focus (first | omega | (simp <;> omega)))) | ((with_reducible apply Below.setCell); rotate_left; (focus (first | omega | (simp <;> omega)))) | ((with_reducible apply bstep); rotate_left; (focus with_reducible assumption)) | ((with_reducible apply below_gr); rotate_left; (focus with_reducible assumption); (focus (first | omega | (simp <;> omega))))))⟩
        unfold shownB
        rw [shut_of p.gates v hlt (by rw [← HX.out]; exact hop)]
        simp
      · go_wp2
        refine wp_region_ext_lit (by kernel_rfl) (by kernel_rfl) ?_
        repeat (go_big_quiet_step ((go_at_call 16; exact HC.out _)))
        refine wpQuiet_nil ?_
        intro _ hw'
        obtain ⟨uq, hw''⟩ := hw'
        subst hw''
        have hbx := ext_below wr uq
        simp only [hop]
        go_wp2
        go_roundw
        case rel => exact ⟨k + 1, by omega, by go_num, hide (by rw [shut_take p.gates v hlt HT.out, ← HX.out, hop]; rfl), by (repeat (first | (with_reducible exact Below.refl _ _) | (with_reducible assumption) | (with_reducible apply Below.drew) | (with_reducible apply below_drewN) | ((with_reducible apply Below.alloc); rotate_left; (focus (first | omega | (simp <;> omega)))) | ((with_reducible apply Below.setCell); rotate_left; (focus (first | omega | (simp <;> omega)))) | ((with_reducible apply bstep); rotate_left; (focus with_reducible assumption)) | ((with_reducible apply below_gr); rotate_left; (focus with_reducible assumption); (focus (first | omega | (simp <;> omega)))))), Box.of_below hbx B1, Box.of_below hbx B2⟩
        case measure => simp [intOf]; omega
    · have hk' : k = p.gates.length := by omega
      have HK := hide hk'
      clear hk'
      go_wp2
      go_ret
      refine ⟨ret_bool (Eq.symm ?_), by (repeat (first | (with_reducible exact Below.refl _ _) | (with_reducible assumption) | (with_reducible apply Below.drew) | (with_reducible apply below_drewN) | ((with_reducible apply Below.alloc); rotate_left; (focus (first | omega | (simp <;> omega)))) | ((with_reducible apply Below.setCell); rotate_left; (focus (first | omega | (simp <;> omega)))) | ((with_reducible apply bstep); rotate_left; (focus with_reducible assumption)) | ((with_reducible apply below_gr); rotate_left; (focus with_reducible assumption); (focus (first | omega | (simp <;> omega))))))⟩
      have := HT.out
      rw [HK.out, List.take_of_length_le (Nat.le_refl _)] at this
      unfold shownB
      rw [this]
      simp

/-- The closure: is a gate shut, looked at from where the captured pointer leads? -/
theorem shut_any (g : DGate) (v : DVec) (b : Nat) (w : World) (hg : g.ok) (hv : v.ok) (hb : Box w b #[.int .i64 v.x, .int .i64 v.y, .int .i64 v.z] 25) :
    Calls Try.prog 44 #[.agg #[.int .i64 g.center.x, .int .i64 g.center.y, .int .i64 g.center.z, .int .i64 g.lo, .int .i64 g.hi], .pointer (some ⟨b, 0, none⟩)] w (Ret (.bool (!openB g v)) w) := by
  have HC := hide (fun W => open_world g v W hg hv)
  have bc := hb.cell
  have z := hb.lt
  clear hg hv
  go_enter Try.func44, Try.ntmps44
  go_wp2_with (go_at_call 15; refine Calls.mono (HC.out _) ?_; rintro _ w1 ⟨rfl, n1⟩)
  go_ret
  exact ⟨rfl, bstep (al1_below _ _) n1⟩

end Go.Proofs.Ytbflmipddiaiaaa
