/-
  Whether numbers and points are in a range: vec.in, vec.Check; the reference's In, All.
-/
import Derived.Test.YtbflmipddiaiaaaOpen
namespace Go.Proofs.Ytbflmipddiaiaaa
open Go.RowKit

def inB (m n : Int) : Bool := decide (-m ≤ n) && decide (n ≤ m)
def DVec.inB (v : DVec) (m : Int) : Bool := Go.Proofs.Ytbflmipddiaiaaa.inB m v.x && Go.Proofs.Ytbflmipddiaiaaa.inB m v.y && Go.Proofs.Ytbflmipddiaiaaa.inB m v.z

theorem inB_no {m n : Int} (h : ¬ (-m ≤ n ∧ n ≤ m)) : inB m n = false := by unfold inB; simp; omega
theorem in_ref (n m : Int) (w : World) (h0 : 0 ≤ m) (h1 : m ≤ 1000000) : Calls Try.prog 101 #[.int .i64 n, .int .i64 m] w (Same (.bool (inB m n)) w) := by
  by_cases h : -m ≤ n
  all_goals
    go_enter Try.func101, Try.ntmps101
    go_wp2
    go_ret
    exact ⟨ret_bool (by unfold inB; simp [h]; try omega), rfl⟩

theorem all_ref (v : DVec) (m : Int) (w : World) (h0 : 0 ≤ m) (h1 : m ≤ 1000000) : Calls Try.prog 47 #[.agg #[.int .i64 v.x, .int .i64 v.y, .int .i64 v.z], .int .i64 m] w (Ret (.bool (v.inB m)) w) := by
  have HI := hide (in_ref v.x m); have HJ := hide (in_ref v.y m); have HK := hide (in_ref v.z m)
  cases hx : inB m v.x <;> cases hy : inB m v.y
  all_goals
    have HX := hide hx; have HY := hide hy
    clear hx hy
    go_enter Try.func47, Try.ntmps47
    go_wp2_with (go_at_call 101; refine Calls.mono (in_ref _ _ _ h0 h1) ?_; rintro e w' ⟨rfl, rfl⟩; (first | rw [HX.out] | rw [HY.out] | skip))
    go_ret
    exact ⟨ret_bool (by unfold DVec.inB; rw [HX.out, HY.out]; simp), by (repeat (first | (with_reducible exact Below.refl _ _) | (with_reducible assumption) | (with_reducible apply Below.drew) | (with_reducible apply below_drewN) | ((with_reducible apply Below.alloc); rotate_left; (focus (first | omega | (simp <;> omega)))) | ((with_reducible apply Below.setCell); rotate_left; (focus (first | omega | (simp <;> omega)))) | ((with_reducible apply bstep); rotate_left; (focus with_reducible assumption)) | ((with_reducible apply below_gr); rotate_left; (focus with_reducible assumption); (focus (first | omega | (simp <;> omega))))))⟩

/-- vec.in: are all numbers of a list so? -/
theorem in_vec (m : Int) (a : Value) (l : List DInt) (w : World) (B : Nat) (ha : Sl 1 (FlatOk DInt.enc DInt.ok) w B a l) (h0 : 0 ≤ m) (h1 : m ≤ 1000000) :
    Calls Try.prog 98 #[.int .i64 m, a] w (Same (.bool (l.all (inB m))) w) := by
  obtain ⟨A, c, rfl, _, _, hr⟩ := ha.form
  go_enter Try.func98, Try.ntmps98
  go_wp2
  go_loop [6, 9] (fun _ i => ∃ k : Nat, k ≤ l.length ∧ i = .int .i64 k ∧ Hid ((l.take k).all (inB m) = true)) (fun _ i => l.length - (intOf i).toNat)
  case atStart => exact ⟨0, Nat.zero_le _, rfl, hide (by simp)⟩
  case round =>
    obtain ⟨k, hk, rfl, HT⟩ := hrel
    by_cases hlt : k < l.length
    · obtain ⟨b1, o1, _, rfl, hb1, _, hat1, rfl, hok⟩ := ha.elem hlt
      have f : w.cell? ⟨b1, o1 + k, none⟩ = some (.int .i64 l[k]) := by simpa using hat1 0 _ rfl
      have hs : ∀ b : Bool, inB m l[k] = b → (l.take (k + 1)).all (inB m) = b := fun b hb => by
        rw [List.take_succ_eq_append_getElem hlt, List.all_append, HT.out, List.all_cons, hb]; simp
      have hal : inB m l[k] = false → l.all (inB m) = false := fun hb => by
        rw [← List.take_append_drop (k + 1) l, List.all_append, hs _ hb]; rfl
      obtain ⟨x, hx⟩ : ∃ x : Int, x = l[k] := ⟨_, rfl⟩
      rw [← hx] at f hs hal
      have HS := hide hs; have HA := hide hal
      clear hx hs hal hat1 ha hok
      by_cases h : -m ≤ x
      · by_cases h' : x ≤ m
        · go_wp2
          go_round
          case rel => exact ⟨k + 1, by omega, by go_num, hide (HS.out true (by unfold inB; simp [h, h']))⟩
          case measure => simp [intOf]; omega
        · go_wp2
          go_ret
          exact ⟨ret_bool (HA.out (inB_no (by omega))).symm, rfl⟩
      · go_wp2
        go_ret
        exact ⟨ret_bool (HA.out (inB_no (by omega))).symm, rfl⟩
    · have hk' : k = l.length := by omega
      subst hk'
      go_wp2
      go_ret
      refine ⟨ret_bool (Eq.symm ?_), rfl⟩
      have := HT.out
      rwa [List.take_of_length_le (Nat.le_refl _)] at this

/-- Three ints in a new block read as a list. -/
theorem sl_new3 (w : World) (x y z : Int) (t : Nat) (hx : I64 x) (hy : I64 y) (hz : I64 z) : Sl 1 (FlatOk DInt.enc DInt.ok) (w.alloc (.cells #[.int .i64 x, .int .i64 y, .int .i64 z] t)) (w.heap.size + 1) (.slice (some ⟨w.heap.size, 0, none⟩) 3 3) ([x, y, z] : List DInt) := by
  refine ⟨_, 3, 3, rfl, rfl, by omega, by simp [maxLen], by omega, fun _ => ⟨w.heap.size, 0, rfl, by omega, fun k v hv => ⟨[.int .i64 v], rfl, ?_, rfl, ?_⟩⟩⟩
  · intro j u hj
    have hj0 : j = 0 := by
      have := (List.getElem?_eq_some_iff.1 hj).1
      simpa using this
    subst hj0
    simp at hj
    subst hj
    have hc : (w.alloc (.cells #[.int .i64 x, .int .i64 y, .int .i64 z] t)).cell? ⟨w.heap.size, 0 + k * 1 + 0, none⟩ = #[Value.int .i64 x, .int .i64 y, .int .i64 z][0 + k * 1 + 0]? :=
      cell_of_row _ _ _ _ _ _ (heap_alloc_new w _)
    rw [hc]
    match k, hv with
    | 0, hv => simp at hv; subst hv; rfl
    | 1, hv => simp at hv; subst hv; rfl
    | 2, hv => simp at hv; subst hv; rfl
  · match k, hv with
    | 0, hv => simp at hv; subst hv; exact hx
    | 1, hv => simp at hv; subst hv; exact hy
    | 2, hv => simp at hv; subst hv; exact hz

theorem check_vec (v : DVec) (w : World) (hv : v.ok) : Calls Try.prog 40 #[.agg #[.int .i64 v.x, .int .i64 v.y, .int .i64 v.z]] w (Ret (.int .i64 (if v.inB 4096 then 0 else 20)) w) := by
  have hs := sl_new3 (w.alloc (.cells #[.int .i64 v.x, .int .i64 v.y, .int .i64 v.z] 25)) v.x v.y v.z 3 hv.1 hv.2.1 hv.2.2
  have hq : ([v.x, v.y, v.z] : List DInt).all (inB 4096) = v.inB 4096 := by simp [DVec.inB, Bool.and_assoc]
  have hz : (w.alloc (.cells #[.int .i64 v.x, .int .i64 v.y, .int .i64 v.z] 25)).heap.size = w.heap.size + 1 := by simp
  rw [hz] at hs
  have HS := hide hs; have HQ := hide hq
  clear hs hq hz
  cases hb : v.inB 4096
  all_goals
    have HB := hide hb
    clear hb
    go_enter Try.func40, Try.ntmps40
    go_wp2_with (go_at_call 98; refine Calls.mono (in_vec _ _ _ _ _ HS.out (by omega) (by omega)) ?_; rintro e w' ⟨rfl, rfl⟩; rw [HQ.out, HB.out])
    go_ret
    exact ⟨ret_int (by simp), by (repeat (first | (with_reducible exact Below.refl _ _) | (with_reducible assumption) | (with_reducible apply Below.drew) | (with_reducible apply below_drewN) | ((with_reducible apply Below.alloc); rotate_left; (focus (first | omega | (simp <;> omega)))) | ((with_reducible apply Below.setCell); rotate_left; (focus (first | omega | (simp <;> omega)))) | ((with_reducible apply bstep); rotate_left; (focus with_reducible assumption)) | ((with_reducible apply below_gr); rotate_left; (focus with_reducible assumption); (focus (first | omega | (simp <;> omega))))))⟩

end Go.Proofs.Ytbflmipddiaiaaa
