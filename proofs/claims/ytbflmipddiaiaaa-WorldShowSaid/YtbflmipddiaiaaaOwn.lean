/-
  Places, items, textures of one's own; the program's tables for putting them together.
-/
import Derived.Test.YtbflmipddiaiaaaSamep
import Derived.Test.YtbflmipddiaiaaaMake
namespace Go.Proofs.Ytbflmipddiaiaaa
open Go.RowKit

theorem slicePlace (cs : List Value) (h : cs.length = 20) : Try.prog.builtSlice 116 1 [(0, .agg cs.toArray)] = some cs.toArray := by
  match cs, h with
  | [a0, a1, a2, a3, a4, a5, a6, a7, a8, a9, a10, a11, a12, a13, a14, a15, a16, a17, a18, a19], _ => show _ = _; kernel_rfl
theorem sliceItem (cs : List Value) (h : cs.length = 18) : Try.prog.builtSlice 53 1 [(0, .agg cs.toArray)] = some cs.toArray := by
  match cs, h with
  | [a0, a1, a2, a3, a4, a5, a6, a7, a8, a9, a10, a11, a12, a13, a14, a15, a16, a17], _ => show _ = _; kernel_rfl
theorem sliceTex (cs : List Value) (h : cs.length = 3) : Try.prog.builtSlice 128 1 [(0, .agg cs.toArray)] = some cs.toArray := by
  match cs, h with
  | [a0, a1, a2], _ => show _ = _; kernel_rfl
/-- A place put together. -/
theorem builtPlace2 (cs : List Value) (h : cs.length = 18) (b : Bool) : Try.prog.built 116 [(0, .agg cs.toArray), (1, .bool b)] = some (cs ++ [Value.bool b, Value.slice none 0 0]).toArray := by
  match cs, h with
  | [a0, a1, a2, a3, a4, a5, a6, a7, a8, a9, a10, a11, a12, a13, a14, a15, a16, a17], _ => show _ = _; kernel_rfl
theorem builtPlace3 (cs : List Value) (h : cs.length = 18) (b : Bool) (A : Option Addr) (n c : Nat) : Try.prog.built 116 [(0, .agg cs.toArray), (1, .bool b), (2, .slice A n c)] = some (cs ++ [Value.bool b, Value.slice A n c]).toArray := by
  match cs, h with
  | [a0, a1, a2, a3, a4, a5, a6, a7, a8, a9, a10, a11, a12, a13, a14, a15, a16, a17], _ => show _ = _; kernel_rfl

theorem OItem.len {w : World} {lo : Nat} {cs : List Value} {x : DItem} (h : OItem w lo cs x) : cs.length = 18 := by
  obtain ⟨a, b, c, rfl, _⟩ := h
  rfl
/-- A place of one's own: its 20 cells. -/
def OPlace : Ro DPlace := fun w lo cs x => ∃ ics g, cs = ics ++ [.bool x.on, g] ∧ OItem w lo ics x.item ∧ Ow 27 5 RGate w lo g x.gates
theorem OPlace.stays {S : TypeId → Prop} (h1 : S 25) (h2 : S 143) (h3 : S 55) (h4 : S 27) : OStays S OPlace := by
  rintro w w' lo lo' cs x ⟨ics, g, rfl, o1, o2⟩ hk hlo
  exact ⟨ics, g, rfl, OItem.stays h1 h2 h3 _ _ _ _ _ _ o1 hk hlo, Ow.stays (flat_ostays _ _ _) h4 _ _ _ _ _ _ o2 hk hlo⟩
theorem OPlace.rd {w : World} {lo : Nat} {cs : List Value} {x : DPlace} (h : OPlace w lo cs x) : RPlace w w.heap.size cs x := by
  obtain ⟨ics, g, rfl, o1, o2⟩ := h
  exact ⟨ics, g, rfl, o1.rd, o2.slf⟩
theorem OPlace.len {w : World} {lo : Nat} {cs : List Value} {x : DPlace} (h : OPlace w lo cs x) : cs.length = 20 := h.rd.len
theorem OPlace.one {w : World} {lo : Nat} {cs : List Value} {x : DPlace} (h : OPlace w lo cs x) : cs.all (·.oneCell') = true := h.rd.one
theorem RItem.one {w : World} {B : Nat} {cs : List Value} {x : DItem} (h : RItem w B cs x) : cs.all (·.oneCell') = true := by
  obtain ⟨a, b, c, rfl, h1, h2, h3, _⟩ := h
  obtain ⟨_, _, rfl, _⟩ := h1.form
  obtain ⟨_, _, rfl, _⟩ := h2.form
  obtain ⟨_, _, rfl, _⟩ := h3.form
  simp [Value.oneCell', DLook.enc, DColor.enc, DBox.enc, DVec.enc]
theorem ETPlace : ET Try.prog 22 116 20 200 := ET.mk' (z := .agg #[.slice none 0 0, .slice none 0 0, .slice none 0 0, .int .u8 0, .int .u8 0, .int .u8 0, .int .u8 0, .int .i64 0, .int .u8 0, .int .i64 0, .bool false, .int .i64 0, .int .i64 0, .int .i64 0, .int .i64 0, .int .i64 0, .int .i64 0, .int .i64 0, .bool false, .slice none 0 0]) Try.underlying22 (by kernel_rfl) rfl (by omega)
theorem ETItem : ET Try.prog 31 53 18 168 := ET.mk' (z := .agg #[.slice none 0 0, .slice none 0 0, .slice none 0 0, .int .u8 0, .int .u8 0, .int .u8 0, .int .u8 0, .int .i64 0, .int .u8 0, .int .i64 0, .bool false, .int .i64 0, .int .i64 0, .int .i64 0, .int .i64 0, .int .i64 0, .int .i64 0, .int .i64 0]) Try.underlying31 (by kernel_rfl) rfl (by omega)
theorem ETTex : ET Try.prog 23 128 3 40 := ET.mk' (z := .agg #[.int .i64 0, .int .i64 0, .slice none 0 0]) Try.underlying23 (by kernel_rfl) rfl (by omega)

end Go.Proofs.Ytbflmipddiaiaaa
