/-
  How this program's types read as arguments.
-/
import Derived.Test.YtbflmipddiaiaaaTr
import Derived.Test.YtbflmipddiaiaaaFlat
namespace Go.Proofs.Ytbflmipddiaiaaa
open Go.RowKit

theorem cutAt {cs : List Value} {a n : Nat} {p r : List Value} (h : (cs.drop a).take n = p) (hr : cs.drop (a + n) = r) : cs.drop a = p ++ r := by
  rw [← h, ← hr, ← List.drop_drop]
  exact (List.take_append_drop n (cs.drop a)).symm
theorem cutEnd {cs : List Value} {a : Nat} (h : cs.length = a) : cs.drop a = [] := List.drop_of_length_le (by omega)
theorem cut0 {cs r : List Value} (h : cs.drop 0 = r) : cs = r := by simpa using h

theorem i64_of {n : Int} (h : (Lit.int .i64 n).wf = true) : I64 n := by
  have : IntKind.i64.min ≤ n ∧ n ≤ IntKind.i64.max := by simpa [Lit.wf] using h
  exact this
theorem u8_of {n : Int} (h : (Lit.int .u8 n).wf = true) : U8 n := by
  have : IntKind.u8.min ≤ n ∧ n ≤ IntKind.u8.max := by simpa [Lit.wf] using h
  exact this

theorem cellsInt : Try.prog.cellsOf 3 = 1 := by kernel_rfl
theorem cellsU8 : Try.prog.cellsOf 5 = 1 := by kernel_rfl
theorem cellsBool : Try.prog.cellsOf 4 = 1 := by kernel_rfl
theorem cellsVec : Try.prog.cellsOf 25 = 3 := by kernel_rfl
theorem cellsGate : Try.prog.cellsOf 27 = 5 := by kernel_rfl
theorem cellsColor : Try.prog.cellsOf 47 = 4 := by kernel_rfl
theorem cellsLook : Try.prog.cellsOf 49 = 9 := by kernel_rfl
theorem cellsBox : Try.prog.cellsOf 51 = 6 := by kernel_rfl
theorem cells2 : Try.prog.cellsOf 143 = 2 := by kernel_rfl
theorem cells3 : Try.prog.cellsOf 55 = 3 := by kernel_rfl
theorem cellsItem : Try.prog.cellsOf 53 = 18 := by kernel_rfl
theorem cellsPlace : Try.prog.cellsOf 116 = 20 := by kernel_rfl
theorem cellsTexture : Try.prog.cellsOf 128 = 3 := by kernel_rfl
theorem cellsSlVec : Try.prog.cellsOf 43 = 1 := by kernel_rfl
theorem cellsSl2 : Try.prog.cellsOf 44 = 1 := by kernel_rfl
theorem cellsSl3 : Try.prog.cellsOf 45 = 1 := by kernel_rfl
theorem cellsSlGate : Try.prog.cellsOf 114 = 1 := by kernel_rfl
theorem cellsSlColor : Try.prog.cellsOf 64 = 1 := by kernel_rfl

abbrev trInt := Tr.int (P := Try.prog) Try.underlying3
abbrev trU8 := Tr.int (P := Try.prog) Try.underlying5
abbrev trBool := Tr.bool (P := Try.prog) Try.underlying4

theorem trVec : Tr Try.prog 25 RVec := by
  intro H enc W fuel cs x hx hw
  obtain ⟨hl, hf⟩ := Tr.fields Try.underlying25 hx hw
  obtain ⟨a, ea, ha⟩ := hf 0 _ rfl 0 1 rfl cellsInt trInt
  obtain ⟨b, eb, hb⟩ := hf 1 _ rfl 1 1 rfl cellsInt trInt
  obtain ⟨c, ec, hc⟩ := hf 2 _ rfl 2 1 rfl cellsInt trInt
  exact ⟨⟨a, b, c⟩, cut0 (cutAt ea (cutAt eb (cutAt ec (cutEnd (hl.trans cellsVec))))), i64_of ha, i64_of hb, i64_of hc⟩

theorem trGate : Tr Try.prog 27 RGate := by
  intro H enc W fuel cs x hx hw
  obtain ⟨hl, hf⟩ := Tr.fields Try.underlying27 hx hw
  obtain ⟨a, ea, ha⟩ := hf 0 _ rfl 0 3 rfl cellsVec trVec
  obtain ⟨b, eb, hb⟩ := hf 1 _ rfl 3 1 rfl cellsInt trInt
  obtain ⟨c, ec, hc⟩ := hf 2 _ rfl 4 1 rfl cellsInt trInt
  exact ⟨⟨a, b, c⟩, cut0 (cutAt ea (cutAt eb (cutAt ec (cutEnd (hl.trans cellsGate))))), ha, i64_of hb, i64_of hc⟩

theorem trBox : Tr Try.prog 51 (FlatOk DBox.enc DBox.ok) := by
  intro H enc W fuel cs x hx hw
  obtain ⟨hl, hf⟩ := Tr.fields Try.underlying51 hx hw
  obtain ⟨a, ea, ha⟩ := hf 0 _ rfl 0 3 rfl cellsVec trVec
  obtain ⟨b, eb, hb⟩ := hf 1 _ rfl 3 3 rfl cellsVec trVec
  exact ⟨⟨a, b⟩, cut0 (cutAt ea (cutAt eb (cutEnd (hl.trans cellsBox)))), ha, hb⟩

theorem trColor : Tr Try.prog 47 RColor := by
  intro H enc W fuel cs x hx hw
  obtain ⟨hl, hf⟩ := Tr.cells Try.underlying47 hx hw
  obtain ⟨a, ea, ha⟩ := hf 0 (by omega) 0 1 rfl cellsU8 trU8
  obtain ⟨b, eb, hb⟩ := hf 1 (by omega) 1 1 rfl cellsU8 trU8
  obtain ⟨c, ec, hc⟩ := hf 2 (by omega) 2 1 rfl cellsU8 trU8
  obtain ⟨d, ed, hd⟩ := hf 3 (by omega) 3 1 rfl cellsU8 trU8
  exact ⟨⟨a, b, c, d⟩, cut0 (cutAt ea (cutAt eb (cutAt ec (cutAt ed (cutEnd (hl.trans cellsColor)))))), u8_of ha, u8_of hb, u8_of hc, u8_of hd⟩
theorem tr2 : Tr Try.prog 143 R2 := by
  intro H enc W fuel cs x hx hw
  obtain ⟨hl, hf⟩ := Tr.cells Try.underlying143 hx hw
  obtain ⟨a, ea, ha⟩ := hf 0 (by omega) 0 1 rfl cellsInt trInt
  obtain ⟨b, eb, hb⟩ := hf 1 (by omega) 1 1 rfl cellsInt trInt
  exact ⟨⟨a, b⟩, cut0 (cutAt ea (cutAt eb (cutEnd (hl.trans cells2)))), i64_of ha, i64_of hb⟩
theorem tr3 : Tr Try.prog 55 R3 := by
  intro H enc W fuel cs x hx hw
  obtain ⟨hl, hf⟩ := Tr.cells Try.underlying55 hx hw
  obtain ⟨a, ea, ha⟩ := hf 0 (by omega) 0 1 rfl cellsInt trInt
  obtain ⟨b, eb, hb⟩ := hf 1 (by omega) 1 1 rfl cellsInt trInt
  obtain ⟨c, ec, hc⟩ := hf 2 (by omega) 2 1 rfl cellsInt trInt
  exact ⟨⟨a, b, c⟩, cut0 (cutAt ea (cutAt eb (cutAt ec (cutEnd (hl.trans cells3))))), i64_of ha, i64_of hb, i64_of hc⟩

theorem trLook : Tr Try.prog 49 (FlatOk DLook.enc DLook.ok) := by
  intro H enc W fuel cs x hx hw
  obtain ⟨hl, hf⟩ := Tr.fields Try.underlying49 hx hw
  obtain ⟨a, ea, ha⟩ := hf 0 _ rfl 0 4 rfl cellsColor trColor
  obtain ⟨b, eb, hb⟩ := hf 1 _ rfl 4 1 rfl cellsInt trInt
  obtain ⟨c, ec, hc⟩ := hf 2 _ rfl 5 1 rfl cellsU8 trU8
  obtain ⟨d, ed, hd⟩ := hf 3 _ rfl 6 1 rfl cellsInt trInt
  obtain ⟨e, ee⟩ := hf 4 _ rfl 7 1 rfl cellsBool trBool
  obtain ⟨f, ef, hf'⟩ := hf 5 _ rfl 8 1 rfl cellsInt trInt
  unfold RBool at ee
  exact ⟨⟨a, b, c, d, e, f⟩, cut0 (cutAt ea (cutAt eb (cutAt ec (cutAt ed (cutAt ee (cutAt ef (cutEnd (hl.trans cellsLook)))))))), ha, i64_of hb, u8_of hc, i64_of hd, i64_of hf'⟩

abbrev trVecs := Tr.slice (P := Try.prog) (size := 3) Try.underlying43 cellsVec (by omega) (by decide +kernel) trVec
abbrev trGates := Tr.slice (P := Try.prog) (size := 5) Try.underlying114 cellsGate (by omega) (by decide +kernel) trGate
abbrev trColors := Tr.slice (P := Try.prog) (size := 4) Try.underlying64 cellsColor (by omega) (by decide +kernel) trColor
abbrev tr2s := Tr.slice (P := Try.prog) (size := 2) Try.underlying44 cells2 (by omega) (by decide +kernel) tr2
abbrev tr3s := Tr.slice (P := Try.prog) (size := 3) Try.underlying45 cells3 (by omega) (by decide +kernel) tr3

theorem trItem : Tr Try.prog 53 RItem := by
  intro H enc W fuel cs x hx hw
  obtain ⟨hl, hf⟩ := Tr.fields Try.underlying53 hx hw
  obtain ⟨a, va, ea, ha⟩ := hf 0 _ rfl 0 1 rfl cellsSlVec trVecs
  obtain ⟨b, vb, eb, hb⟩ := hf 1 _ rfl 1 1 rfl cellsSl2 tr2s
  obtain ⟨c, vc, ec, hc⟩ := hf 2 _ rfl 2 1 rfl cellsSl3 tr3s
  obtain ⟨d, ed, hd⟩ := hf 3 _ rfl 3 9 rfl cellsLook trLook
  obtain ⟨e, ee, he⟩ := hf 4 _ rfl 12 6 rfl cellsBox trBox
  refine ⟨⟨a, b, c, d, e⟩, va, vb, vc, ?_, ha, hb, hc, hd, he⟩
  have h := cut0 (cutAt ea (cutAt eb (cutAt ec (cutAt ed (cutAt ee (cutEnd (hl.trans cellsItem)))))))
  rw [List.append_nil] at h
  exact h

theorem trPlace : Tr Try.prog 116 RPlace := by
  intro H enc W fuel cs x hx hw
  obtain ⟨hl, hf⟩ := Tr.fields Try.underlying116 hx hw
  obtain ⟨a, ha⟩ := hf 0 _ rfl 0 18 rfl cellsItem trItem
  obtain ⟨b, eb⟩ := hf 1 _ rfl 18 1 rfl cellsBool trBool
  obtain ⟨c, vc, ec, hc⟩ := hf 2 _ rfl 19 1 rfl cellsSlGate trGates
  unfold RBool at eb
  exact ⟨⟨a, b, c⟩, _, vc, cut0 (cutAt rfl (cutAt eb (cutAt ec (cutEnd (hl.trans cellsPlace))))), ha, hc⟩

theorem trTexture : Tr Try.prog 128 RTexture := by
  intro H enc W fuel cs x hx hw
  obtain ⟨hl, hf⟩ := Tr.fields Try.underlying128 hx hw
  obtain ⟨a, ea, ha⟩ := hf 0 _ rfl 0 1 rfl cellsInt trInt
  obtain ⟨b, eb, hb⟩ := hf 1 _ rfl 1 1 rfl cellsInt trInt
  obtain ⟨c, vc, ec, hc⟩ := hf 2 _ rfl 2 1 rfl cellsSlColor trColors
  exact ⟨⟨a, b, c⟩, vc, cut0 (cutAt ea (cutAt eb (cutAt ec (cutEnd (hl.trans cellsTexture))))), i64_of ha, i64_of hb, hc⟩

abbrev trPlaces := Tr.slice (P := Try.prog) (size := 20) Try.underlying22 cellsPlace (by omega) (by decide +kernel) trPlace
abbrev trTextures := Tr.slice (P := Try.prog) (size := 3) Try.underlying23 cellsTexture (by omega) (by decide +kernel) trTexture

end Go.Proofs.Ytbflmipddiaiaaa
