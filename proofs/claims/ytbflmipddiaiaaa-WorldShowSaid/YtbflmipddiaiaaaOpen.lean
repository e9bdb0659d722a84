/-
  Whether a gate lets through what is looked at from somewhere: world.Open and the reference's Open say the same.
-/
import Derived.Test.YtbflmipddiaiaaaFlat
namespace Go.Proofs.Ytbflmipddiaiaaa
open Go.RowKit

def adiff (a b : Int) : Int := max a b - min a b
def DVec.far (a b : DVec) : Int := max (max (adiff a.x b.x) (adiff a.y b.y)) (adiff a.z b.z)
def openB (g : DGate) (v : DVec) : Bool := decide (g.lo ≤ g.center.far v) && !decide (g.hi ≤ g.center.far v)

theorem adiff_nn (a b : Int) : 0 ≤ adiff a b := by unfold adiff; omega
theorem wrap_u64 (a : Int) : IntKind.u64.wrap a = a % 18446744073709551616 := by rfl
theorem u64_sub (a b : Int) (ha : I64 a) (hb : I64 b) (h : b ≤ a) : IntKind.u64.wrap (IntKind.u64.wrap a - IntKind.u64.wrap b) = a - b := by
  unfold I64 at ha hb
  simp only [wrap_u64]
  omega

theorem away_any (a b : Int) (w : World) (ha : I64 a) (hb : I64 b) : Calls Try.prog 53 #[.int .i64 a, .int .i64 b] w (Same (.int .u64 (adiff a b)) w) := by
  have HA := hide ha
  have HB := hide hb
  clear ha hb
  rcases Int.lt_trichotomy a b with h | h | h
  · have h' : ¬ b < a := by omega
    go_enter Try.func53, Try.ntmps53
    go_wp2
    go_ret
    refine ⟨congrArg (fun n => Ending.returned (.int .u64 n)) ?_, rfl⟩
    rw [u64_sub _ _ HB.out HA.out (by omega)]; unfold adiff; omega
  · subst h
    go_enter Try.func53, Try.ntmps53
    go_wp2
    go_ret
    refine ⟨congrArg (fun n => Ending.returned (.int .u64 n)) ?_, rfl⟩
    first | (rw [u64_sub _ _ HB.out HA.out (by omega)]; unfold adiff; omega) | (unfold adiff; rw [wrap_u64]; omega) | (unfold adiff; omega)
  · have h' : ¬ a < b := by omega
    go_enter Try.func53, Try.ntmps53
    go_wp2
    go_ret
    refine ⟨congrArg (fun n => Ending.returned (.int .u64 n)) ?_, rfl⟩
    rw [u64_sub _ _ HA.out HB.out (by omega)]; unfold adiff; omega

theorem reached_any (d n : Int) (w : World) (hd : 0 ≤ d) (hn : I64 n) : Calls Try.prog 54 #[.int .u64 d, .int .i64 n] w (Same (.bool (decide (n ≤ d))) w) := by
  have HN := hide hn
  clear hn
  by_cases h : n ≤ 0
  · go_enter Try.func54, Try.ntmps54
    go_wp2
    go_ret
    exact ⟨congrArg (fun b => Ending.returned (.bool b)) (by simp; omega), rfl⟩
  · have hw : IntKind.u64.wrap n = n := by have := HN.out; unfold I64 at this; rw [wrap_u64]; omega
    have HW := hide hw
    clear hw
    go_enter Try.func54, Try.ntmps54
    go_wp2
    go_ret
    refine ⟨congrArg (fun b => Ending.returned (.bool b)) ?_, rfl⟩
    have := HW.out
    simp only [this]

set_option maxRecDepth 100000 in
theorem open_world (g : DGate) (v : DVec) (w : World) (hg : g.ok) (hv : v.ok) : Calls Try.prog 15 #[.agg #[.int .i64 g.center.x, .int .i64 g.center.y, .int .i64 g.center.z, .int .i64 g.lo, .int .i64 g.hi], .agg #[.int .i64 v.x, .int .i64 v.y, .int .i64 v.z]] w (Ret (.bool (openB g v)) w) := by
  obtain ⟨⟨h1, h2, h3⟩, h4, h5⟩ := hg
  obtain ⟨k1, k2, k3⟩ := hv
  have H1 := hide h1; have H2 := hide h2; have H3 := hide h3; have H4 := hide h4; have H5 := hide h5
  have K1 := hide k1; have K2 := hide k2; have K3 := hide k3
  clear h1 h2 h3 h4 h5 k1 k2 k3
  go_enter Try.func15, Try.ntmps15
  go_wp2_with fail
  go_quiet ((go_at_call 53; exact Same.quiet (away_any _ _ _ (by first | exact H1.out | exact H2.out | exact H3.out) (by first | exact K1.out | exact K2.out | exact K3.out))))
  go_wp2_with (go_at_call 54; refine Calls.mono (reached_any _ _ _ ?_ ?_) ?_; (exact adiff_nn _ _); (first | exact H4.out | exact H5.out); rintro e w' ⟨rfl, rfl⟩)
  all_goals (go_ret; refine ⟨congrArg (fun b => Ending.returned (.bool b)) ?_, ?_⟩)
  all_goals first
    | ((repeat (first | exact Below.refl _ _ | apply Below.drew | apply below_drewN | (refine Below.alloc ?_ (by simp) _))); done)
    | (have hF : g.center.far v = adiff g.center.z v.z := by (unfold DVec.far; omega)
       unfold openB; rw [hF]; simp; omega)
    | (have hF : g.center.far v = adiff g.center.y v.y := by (unfold DVec.far; omega)
       unfold openB; rw [hF]; simp; omega)
    | (have hF : g.center.far v = adiff g.center.x v.x := by (unfold DVec.far; omega)
       unfold openB; rw [hF]; simp; omega)

theorem far_any (a b n : Int) (w : World) (ha : I64 a) (hb : I64 b) (hn : I64 n) : Calls Try.prog 104 #[.int .i64 a, .int .i64 b, .int .i64 n] w (Same (.bool (decide (n ≤ adiff a b))) w) := by
  obtain ⟨a1, a2⟩ := ha
  obtain ⟨b1, b2⟩ := hb
  obtain ⟨n1, n2⟩ := hn
  by_cases hab : a < b
  all_goals
    go_enter Try.func104, Try.ntmps104
    go_wp2
    all_goals (go_ret; refine ⟨congrArg (fun b => Ending.returned (.bool b)) ?_, rfl⟩)
    all_goals (rw [Bool.eq_iff_iff]; simp only [decide_eq_true_eq, true_iff]; unfold adiff; omega)

theorem off_any (a b : DVec) (n : Int) (w : World) (ha : a.ok) (hb : b.ok) (hn : I64 n) : Calls Try.prog 55 #[.agg #[.int .i64 a.x, .int .i64 a.y, .int .i64 a.z], .agg #[.int .i64 b.x, .int .i64 b.y, .int .i64 b.z], .int .i64 n] w (Ret (.bool (decide (n ≤ a.far b))) w) := by
  have HA := hide ha; have HB := hide hb; have HN := hide hn
  clear ha hb hn
  go_enter Try.func55, Try.ntmps55
  go_wp2_with (go_at_call 104; refine Calls.mono (far_any _ _ _ _ ?_ ?_ ?_) ?_; (first | exact HA.out.1 | exact HA.out.2.1 | exact HA.out.2.2); (first | exact HB.out.1 | exact HB.out.2.1 | exact HB.out.2.2); (exact HN.out); rintro e w' ⟨rfl, rfl⟩)
  all_goals (go_ret; refine ⟨congrArg (fun b => Ending.returned (.bool b)) ?_, ?_⟩)
  all_goals first
    | ((repeat (first | exact Below.refl _ _ | apply Below.drew | apply below_drewN | (refine Below.alloc ?_ (by simp) _))); done)
    | (rw [Bool.eq_iff_iff]; simp only [decide_eq_true_eq, true_iff, Bool.or_eq_true]; unfold DVec.far; omega)

theorem open_ref (g : DGate) (v : DVec) (w : World) (hg : g.ok) (hv : v.ok) : Calls Try.prog 16 #[.agg #[.int .i64 g.center.x, .int .i64 g.center.y, .int .i64 g.center.z, .int .i64 g.lo, .int .i64 g.hi], .agg #[.int .i64 v.x, .int .i64 v.y, .int .i64 v.z]] w (Ret (.bool (openB g v)) w) := by
  have HG := hide hg; have HV := hide hv
  clear hg hv
  by_cases hlo : g.lo ≤ g.center.far v
  · have hd : decide (g.lo ≤ g.center.far v) = true := decide_eq_true hlo
    clear hlo
    go_enter Try.func16, Try.ntmps16
    go_wp2_with fail
    refine Calls.mono (off_any g.center v g.lo _ HG.out.1 HV.out HG.out.2.1) ?_
    rintro e w1 ⟨rfl, hb⟩
    obtain ⟨hc, _⟩ := bcell hb
    go_wp2_with fail
    refine Calls.mono (off_any g.center v g.hi _ HG.out.1 HV.out HG.out.2.2) ?_
    rintro e w2 ⟨rfl, hb2⟩
    go_wp2
    go_ret
    exact ⟨ret_bool (by unfold openB; rw [hd]; simp), by (repeat (first | (with_reducible exact Below.refl _ _) | (with_reducible assumption) | (with_reducible apply Below.drew) | (with_reducible apply below_drewN) | ((with_reducible apply Below.alloc); rotate_left; (focus (first | omega | (simp <;> omega)))) | ((with_reducible apply Below.setCell); rotate_left; (focus (first | omega | (simp <;> omega)))) | ((with_reducible apply bstep); rotate_left; (focus with_reducible assumption)) | ((with_reducible apply below_gr); rotate_left; (focus with_reducible assumption); (focus (first | omega | (simp <;> omega))))))⟩
  · have hd : decide (g.lo ≤ g.center.far v) = false := decide_eq_false hlo
    clear hlo
    go_enter Try.func16, Try.ntmps16
    go_wp2_with fail
    refine Calls.mono (off_any g.center v g.lo _ HG.out.1 HV.out HG.out.2.1) ?_
    rintro e w1 ⟨rfl, hb⟩
    go_wp2
    go_ret
    exact ⟨ret_bool (by unfold openB; rw [hd]; simp), by (repeat (first | (with_reducible exact Below.refl _ _) | (with_reducible assumption) | (with_reducible apply Below.drew) | (with_reducible apply below_drewN) | ((with_reducible apply Below.alloc); rotate_left; (focus (first | omega | (simp <;> omega)))) | ((with_reducible apply Below.setCell); rotate_left; (focus (first | omega | (simp <;> omega)))) | ((with_reducible apply bstep); rotate_left; (focus with_reducible assumption)) | ((with_reducible apply below_gr); rotate_left; (focus with_reducible assumption); (focus (first | omega | (simp <;> omega))))))⟩

end Go.Proofs.Ytbflmipddiaiaaa
