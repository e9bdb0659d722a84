/-
  The law WorldShow holds of the given program: called with any places, textures, point and gate, it answers true, and its arguments read as they did. Conditions: none beyond the row's own.
-/
import Derived.Test.YtbflmipddiaiaaaRows
import Derived.Test.YtbflmipddiaiaaaRow
import Derived.Test.YtbflmipddiaiaaaLaww
namespace Go.Proofs.Ytbflmipddiaiaaa
open Go.RowKit Go.ChangeShapes Go.WideShapes Go.ChangeAt

set_option maxRecDepth 100000 in
theorem worldShow_lifted (os : Os) (started : os.Started) (H : Type) (enc : TypeId × Value → H) :
    ReturnsInHanded {} Try.checked os 3 .any (Rows.worldShowSpec.pre6 enc Try.prog Try.f3 Rows.worldShowRow.domain false) (Rows.worldShowSpec.post enc Try.prog Try.f3 false true false false) := by
  refine returnsInHanded_of_change_sized (C := Try.checked) own started (by kernel_rfl) Try.func3
    (ChangeSpec.witness6 (enc := enc) (C := Try.checked) false ⟨#[], #[.slice none 0 0, .slice none 0 0, .slice none 0 0, .agg #[.int .i64 0, .int .i64 0, .int .i64 0], .agg #[.int .i64 0, .int .i64 0, .int .i64 0, .int .i64 0, .int .i64 0]], []⟩ 8 (by kernel_rfl) (by kernel_rfl) (by kernel_rfl) (by kernel_rfl)) ?_
  intro W base args ds gs before hval0 hW _ hsz0 _
  have hsz : (DataW.weightsEach Try.prog (Try.f3.params.toList ++ Rows.worldShowSpec.plain.varTypes Try.prog) (ds ++ gs)).all (· ≤ reachBytes) = true := hsz0
  have hval : ∀ (j : Nat) t v, Try.f3.params[j]? = some t → args[j]? = some v → Value.okWide Try.prog W .any base t v := hval0
  clear hsz0 hval0
  have hW' := hW
  obtain ⟨p, q, hA0, hV, hpq, _, _⟩ := hW
  have hA : DataW.TrodAll enc Try.prog W 0 (fun _ => true) true Try.f3.params.toList args.toList ds p := hA0
  rw [Try.params3] at hA hval hsz
  clear hA0
  obtain ⟨v0, vs0, d0, ds0, p0, q0, hargs, rfl, rfl, h0, r0⟩ := trodAll_cons hA
  obtain ⟨v1, vs1, d1, ds1, p1, q1, rfl, rfl, rfl, h1, r1⟩ := trodAll_cons r0
  obtain ⟨v2, vs2, d2, ds2, p2, q2, rfl, rfl, rfl, h2, r2⟩ := trodAll_cons r1
  obtain ⟨v3, vs3, d3, ds3, p3, q3, rfl, rfl, rfl, h3, r3⟩ := trodAll_cons r2
  obtain ⟨v4, vs4, d4, ds4, p4, q4, rfl, rfl, rfl, h4, r4⟩ := trodAll_cons r3
  obtain ⟨rfl, rfl, rfl⟩ := trodAll_nil r4
  obtain rfl : args = #[v0, v1, v2, v3, v4] := by cases args; simp_all
  obtain ⟨rfl, rfl⟩ := trodVars_none hV
  obtain ⟨l, hl⟩ := arg_slice trPlaces Try.underlying22 (hval 0 22 v0 rfl rfl) h0 (reach_at hsz (j := 0) rfl rfl)
  obtain ⟨o, ho⟩ := arg_slice trPlaces Try.underlying22 (hval 1 22 v1 rfl rfl) h1 (reach_at hsz (j := 1) rfl rfl)
  obtain ⟨t, ht⟩ := arg_slice trTextures Try.underlying23 (hval 2 23 v2 rfl rfl) h2 (reach_at hsz (j := 2) rfl rfl)
  obtain ⟨_, v, rfl, rfl, hv⟩ := arg_struct trVec Try.underlying25 (hval 3 25 v3 rfl rfl) h3 (reach_at hsz (j := 3) rfl rfl)
  obtain ⟨_, g, rfl, rfl, hg⟩ := arg_struct trGate Try.underlying27 (hval 4 27 v4 rfl rfl) h4 (reach_at hsz (j := 4) rfl rfl)
  refine (law_show l o t v g v0 v1 v2 W W.heap.size (Nat.le_refl _) hl ho ht hv hg).mono fun e W' ⟨he, hb⟩ => ?_
  subst he
  exact ⟨_, rfl, row_end kids full (by rw [Try.params3]; decide +kernel) rfl (by kernel_rfl) Try.underlying4 rfl rfl rfl hW' hb⟩

theorem worldShow_holds : Rows.WorldShowSaid :=
  OpenClaim.holds_of_wide 3 Try.f3 rfl rfl rfl rfl rfl rfl rfl ⟨rfl, rfl, rfl, rfl, rfl⟩ rfl rfl rfl rfl rfl (by kernel_rfl) Try.func3 (by kernel_rfl)
    (of_decide_eq_true (by kernel_rfl)) (by unfold Func.isWrapper; first | (rw [if_pos (by decide +kernel)]; kernel_rfl) | (rw [if_neg (by decide +kernel)]; exact ⟨rfl, rfl⟩))
    (fun os started H enc _ => worldShow_lifted os started H enc)

#print axioms worldShow_holds
end Go.Proofs.Ytbflmipddiaiaaa
