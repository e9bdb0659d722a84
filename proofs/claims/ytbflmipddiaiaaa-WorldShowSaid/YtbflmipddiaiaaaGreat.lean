/-
  Whether places are great.
-/
import Derived.Test.YtbflmipddiaiaaaTwinr
namespace Go.Proofs.Ytbflmipddiaiaaa
open Go.RowKit

def DPlace.sz (x : DPlace) : Nat := x.item.verts.length + x.item.uv.length + x.item.tris.length + x.gates.length
def total (l : List DPlace) : Nat := (l.map DPlace.sz).sum
def GreatSays (l : List DPlace) (w : World) (e : Ending) (w' : World) : Prop := ∃ b, e = .returned (.bool b) ∧ (b = false → l.length ≤ 300 ∧ total l ≤ 20000) ∧ Below w.heap.size w w'

theorem total_le (l : List DPlace) (x : DPlace) (h : x ∈ l) : x.sz ≤ total l := by
  induction l with
  | nil => cases h
  | cons a l ih =>
    simp only [total, List.map_cons, List.sum_cons]
    rcases List.mem_cons.1 h with rfl | h
    · omega
    · have := ih h
      simp only [total] at this
      omega
theorem small_of (l : List DPlace) (h : total l ≤ 20000) : ∀ x ∈ l, x.small := fun x hx => by
  have := total_le l x hx
  simp only [DPlace.sz] at this
  exact ⟨⟨by omega, by omega, by omega⟩, by omega⟩

set_option maxHeartbeats 1000000 in
theorem great_any (v : Value) (l : List DPlace) (w : World) (B : Nat) (hB : B ≤ w.heap.size) (h : Sl 20 RPlace w B v l) :
    Calls Try.prog 8 #[v] w (GreatSays l w) := by
  obtain ⟨A, c, rfl, _, _, hr⟩ := h.form
  by_cases h300 : 300 < l.length
  · go_enter Try.func8, Try.ntmps8
    go_wp2
    go_ret
    exact ⟨true, rfl, fun h => (by cases h), Below.refl _ _⟩
  · go_enter Try.func8, Try.ntmps8
    go_wp2
    go_loopw [3, 4] (fun n i wr => ∃ k m : Nat, k ≤ l.length ∧ i = .int .i64 k ∧ n = .int .i64 m ∧ Hid (m = total (l.take k)) ∧ m ≤ 20000 ∧ Below w.heap.size w wr) (fun _ i _ => l.length - (intOf i).toNat)
    case atStart => exact ⟨0, 0, Nat.zero_le _, rfl, rfl, hide (by simp [total]), by omega, Below.refl _ _⟩
    case round =>
      obtain ⟨k, m, hk, rfl, rfl, HM, ht, hbw⟩ := hrel
      by_cases hlt : k < l.length
      · have h' := Sl.stays RPlace.stays _ wr _ _ _ _ h (Agree.of hbw hB) (Nat.le_refl _)
        obtain ⟨b, o, cs, rfl, hbl, hlen, hat, hR⟩ := h'.elem hlt
        obtain ⟨Av, cv, Au, cu, At', ct, Ag, cg, f, s1, s2, s3, s4⟩ := hR.cells hat
        obtain ⟨_, _, _, _, _, r1⟩ := s1.form
        obtain ⟨_, _, _, _, _, r2⟩ := s2.form
        obtain ⟨_, _, _, _, _, r3⟩ := s3.form
        obtain ⟨_, _, _, _, _, r4⟩ := s4.form
        have hs : total (l.take (k + 1)) = total (l.take k) + (l[k].item.verts.length + l[k].item.uv.length + l[k].item.tris.length + l[k].gates.length) := by
          rw [List.take_succ_eq_append_getElem hlt]; simp only [total, List.map_append, List.sum_append, List.map_cons, List.map_nil, List.sum_cons, List.sum_nil, DPlace.sz]; omega
        obtain ⟨n1, hn1⟩ : ∃ n, n = l[k].item.verts.length := ⟨_, rfl⟩
        obtain ⟨n2, hn2⟩ : ∃ n, n = l[k].item.uv.length := ⟨_, rfl⟩
        obtain ⟨n3, hn3⟩ : ∃ n, n = l[k].item.tris.length := ⟨_, rfl⟩
        obtain ⟨n4, hn4⟩ : ∃ n, n = l[k].gates.length := ⟨_, rfl⟩
        rw [← hn1, ← hn2, ← hn3, ← hn4] at f hs
        rw [← hn1] at r1; rw [← hn2] at r2; rw [← hn3] at r3; rw [← hn4] at r4
        have HS := hide hs
        clear hs hn1 hn2 hn3 hn4 s1 s2 s3 s4 hR hat h' h
        by_cases hbig : m + (n1 + n2 + n3 + n4) ≤ 20000
        · go_wp2
          go_quiet (fail)
          go_wp2
          go_roundw
          case rel => exact ⟨k + 1, m + (n1 + n2 + n3 + n4), by omega, by go_num, by go_num, hide (by rw [HS.out, ← HM.out]), hbig, by (repeat (first | (with_reducible exact Below.refl _ _) | (with_reducible assumption) | (with_reducible apply Below.drew) | (with_reducible apply below_drewN) | ((with_reducible apply Below.alloc); rotate_left; (focus (first | omega | (simp <;> omega)))) | ((with_reducible apply Below.setCell); rotate_left; (focus (first | omega | (simp <;> omega)))) | ((with_reducible apply bstep); rotate_left; (focus with_reducible assumption)) | ((with_reducible apply below_gr); rotate_left; (focus with_reducible assumption); (focus (first | omega | (simp <;> omega))))))⟩
          case measure => simp [intOf]; omega
        · go_wp2
          go_quiet (fail)
          go_wp2
          go_ret
          exact ⟨true, rfl, fun h => (by cases h), by (repeat (first | (with_reducible exact Below.refl _ _) | (with_reducible assumption) | (with_reducible apply Below.drew) | (with_reducible apply below_drewN) | ((with_reducible apply Below.alloc); rotate_left; (focus (first | omega | (simp <;> omega)))) | ((with_reducible apply Below.setCell); rotate_left; (focus (first | omega | (simp <;> omega)))) | ((with_reducible apply bstep); rotate_left; (focus with_reducible assumption)) | ((with_reducible apply below_gr); rotate_left; (focus with_reducible assumption); (focus (first | omega | (simp <;> omega))))))⟩
      · have hk' : k = l.length := by omega
        have HK := hide hk'
        clear hk'
        go_wp2
        go_ret
        refine ⟨false, rfl, fun _ => ⟨by omega, ?_⟩, by (repeat (first | (with_reducible exact Below.refl _ _) | (with_reducible assumption) | (with_reducible apply Below.drew) | (with_reducible apply below_drewN) | ((with_reducible apply Below.alloc); rotate_left; (focus (first | omega | (simp <;> omega)))) | ((with_reducible apply Below.setCell); rotate_left; (focus (first | omega | (simp <;> omega)))) | ((with_reducible apply bstep); rotate_left; (focus with_reducible assumption)) | ((with_reducible apply below_gr); rotate_left; (focus with_reducible assumption); (focus (first | omega | (simp <;> omega))))))⟩
        have := HM.out
        rw [HK.out, List.take_of_length_le (Nat.le_refl _)] at this
        omega

end Go.Proofs.Ytbflmipddiaiaaa
