/-
  slices.IndexFunc, slices.ContainsFunc over the closure of world.Show.
-/
import Derived.Test.YtbflmipddiaiaaaShown
namespace Go.Proofs.Ytbflmipddiaiaaa
open Go.RowKit

def Found (l : List DGate) (v : DVec) (w : World) (e : Ending) (w' : World) : Prop := ∃ n : Int, e = .returned (.int .i64 n) ∧ decide (0 ≤ n) = shut l v ∧ Below w.heap.size w w'

set_option maxRecDepth 100000 in
set_option maxHeartbeats 1000000 in
theorem index_shut (a : Value) (l : List DGate) (v : DVec) (b : Nat) (w : World) (B : Nat) (hB : B ≤ w.heap.size) (ha : Sl 5 RGate w B a l) (hv : v.ok) (hb : Box w b #[.int .i64 v.x, .int .i64 v.y, .int .i64 v.z] 25) :
    Calls Try.prog 100 #[a, .func (.func 44) #[] #[.pointer (some ⟨b, 0, none⟩)]] w (Found l v w) := by
  obtain ⟨A, c, rfl, _, _, hr⟩ := ha.form
  have HA := hide (fun W (h : Below w.heap.size w W) => Sl.stays (FlatOk.stays _ _) _ W _ W.heap.size _ _ ha (Agree.of h hB) (Nat.le_trans hB h.size))
  have HV := hide hv
  have HB := hide (fun W (h : Below w.heap.size w W) => Box.below hb h)
  clear ha hv hb
  go_enter Try.func100, Try.ntmps100
  go_wp2
  go_loopw [8] (fun i wr => ∃ k : Nat, k ≤ l.length ∧ i = .int .i64 k ∧ Hid (shut (l.take k) v = false) ∧ Below w.heap.size w wr) (fun i _ => l.length - (intOf i).toNat)
  case atStart => exact ⟨0, Nat.zero_le _, rfl, hide (by simp [shut]), Below.refl _ _⟩
  case round =>
    obtain ⟨k, hk, rfl, HT, hbw⟩ := hrel
    by_cases hlt : k < l.length
    · obtain ⟨b3, o3, _, rfl, hb3, _, hat3, rfl, hok⟩ := (HA.out wr hbw).elem hlt
      have f3 := DGate.at hat3
      obtain ⟨g, hg⟩ : ∃ g, g = l[k] := ⟨_, rfl⟩
      rw [← hg] at f3 hok
      have HC := hide (fun W (h : Below w.heap.size w W) => shut_any g v b W hok HV.out (HB.out W h))
      have HX := hide hg
      clear hok hat3 hg
      cases hop : openB g v
      · go_wp2_with (go_at_call 44; refine Calls.mono (HC.out _ (by first | exact hbw | exact hbw.drew)) ?_; rintro _ w1 ⟨rfl, n1⟩; simp only [hop])
        go_ret
        exact ⟨k, rfl, by rw [shut_of l v hlt (by rw [← HX.out]; exact hop)]; simp, bstep hbw n1⟩
      · go_wp2_with (go_at_call 44; refine Calls.mono (HC.out _ (by first | exact hbw | exact hbw.drew)) ?_; rintro _ w1 ⟨rfl, n1⟩; simp only [hop])
        go_roundw
        case rel => exact ⟨k + 1, by omega, by go_num, hide (by rw [shut_take l v hlt HT.out, ← HX.out, hop]; rfl), bstep hbw n1⟩
        case measure => simp [intOf]; omega
    · have hk' : k = l.length := by omega
      have HK := hide hk'
      clear hk'
      go_wp2
      go_ret
      refine ⟨-1, rfl, ?_, hbw⟩
      have := HT.out
      rw [HK.out, List.take_of_length_le (Nat.le_refl _)] at this
      rw [this]
      rfl

theorem contains_shut (a : Value) (l : List DGate) (v : DVec) (b : Nat) (w : World) (B : Nat) (hB : B ≤ w.heap.size) (ha : Sl 5 RGate w B a l) (hv : v.ok) (hb : Box w b #[.int .i64 v.x, .int .i64 v.y, .int .i64 v.z] 25) :
    Calls Try.prog 46 #[a, .func (.func 44) #[] #[.pointer (some ⟨b, 0, none⟩)]] w (Ret (.bool (shut l v)) w) := by
  have H := hide (index_shut a l v b w B hB ha hv hb)
  clear ha hv hb
  go_enter Try.func46, Try.ntmps46
  go_wp2_with (go_at_call 100; refine Calls.mono H.out ?_; rintro _ w1 ⟨n, rfl, hn, n1⟩)
  go_ret
  exact ⟨ret_bool (by simp), n1⟩

end Go.Proofs.Ytbflmipddiaiaaa
