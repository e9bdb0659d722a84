/-
  The plain data of this seat's statements, and how each reads from memory.
-/
import Derived.Test.YtbflmipddiaiaaaKit
namespace Go.Proofs.Ytbflmipddiaiaaa
open Go.RowKit

/-- An int. -/
def I64 (n : Int) : Prop := -9223372036854775808 ≤ n ∧ n ≤ 9223372036854775807
def U8 (n : Int) : Prop := 0 ≤ n ∧ n ≤ 255

structure DVec where
  x : Int
  y : Int
  z : Int
deriving DecidableEq, Inhabited
def DVec.enc (v : DVec) : List Value := [.int .i64 v.x, .int .i64 v.y, .int .i64 v.z]
def DVec.ok (v : DVec) : Prop := I64 v.x ∧ I64 v.y ∧ I64 v.z
def DVec.agg (v : DVec) : Value := .agg #[.int .i64 v.x, .int .i64 v.y, .int .i64 v.z]

structure DGate where
  center : DVec
  lo : Int
  hi : Int
deriving DecidableEq, Inhabited
def DGate.enc (g : DGate) : List Value := g.center.enc ++ [.int .i64 g.lo, .int .i64 g.hi]
def DGate.ok (g : DGate) : Prop := g.center.ok ∧ I64 g.lo ∧ I64 g.hi

structure DColor where
  r : Int
  g : Int
  b : Int
  a : Int
deriving DecidableEq, Inhabited
def DColor.enc (c : DColor) : List Value := [.int .u8 c.r, .int .u8 c.g, .int .u8 c.b, .int .u8 c.a]
def DColor.ok (c : DColor) : Prop := U8 c.r ∧ U8 c.g ∧ U8 c.b ∧ U8 c.a

structure DLook where
  color : DColor
  texture : Int
  cull : Int
  bias : Int
  blend : Bool
  bin : Int
deriving DecidableEq, Inhabited
def DLook.enc (l : DLook) : List Value := l.color.enc ++ [.int .i64 l.texture, .int .u8 l.cull, .int .i64 l.bias, .bool l.blend, .int .i64 l.bin]
def DLook.ok (l : DLook) : Prop := l.color.ok ∧ I64 l.texture ∧ U8 l.cull ∧ I64 l.bias ∧ I64 l.bin

structure DBox where
  low : DVec
  high : DVec
deriving DecidableEq, Inhabited
def DBox.enc (b : DBox) : List Value := b.low.enc ++ b.high.enc
def DBox.ok (b : DBox) : Prop := b.low.ok ∧ b.high.ok

structure D2 where
  u : Int
  v : Int
deriving DecidableEq, Inhabited
def D2.enc (p : D2) : List Value := [.int .i64 p.u, .int .i64 p.v]
def D2.ok (p : D2) : Prop := I64 p.u ∧ I64 p.v

structure D3 where
  a : Int
  b : Int
  c : Int
deriving DecidableEq, Inhabited
def D3.enc (p : D3) : List Value := [.int .i64 p.a, .int .i64 p.b, .int .i64 p.c]
def D3.ok (p : D3) : Prop := I64 p.a ∧ I64 p.b ∧ I64 p.c

structure DItem where
  verts : List DVec
  uv : List D2
  tris : List D3
  look : DLook
  box : DBox
deriving DecidableEq, Inhabited

structure DPlace where
  item : DItem
  on : Bool
  gates : List DGate
deriving DecidableEq, Inhabited

structure DTexture where
  w : Int
  h : Int
  texels : List DColor
deriving DecidableEq, Inhabited

abbrev RVec : Rd DVec := FlatOk DVec.enc DVec.ok
abbrev RGate : Rd DGate := FlatOk DGate.enc DGate.ok
abbrev RColor : Rd DColor := FlatOk DColor.enc DColor.ok
abbrev R2 : Rd D2 := FlatOk D2.enc D2.ok
abbrev R3 : Rd D3 := FlatOk D3.enc D3.ok

/-- An item's 18 cells. -/
def RItem : Rd DItem := fun w B cs x => ∃ a b c, cs = a :: b :: c :: (x.look.enc ++ x.box.enc) ∧ Sl 3 RVec w B a x.verts ∧ Sl 2 R2 w B b x.uv ∧ Sl 3 R3 w B c x.tris ∧ x.look.ok ∧ x.box.ok
theorem RItem.stays : Stays RItem := by
  rintro w w' B B' cs x ⟨a, b, c, rfl, h1, h2, h3, h4, h5⟩ ha hB
  exact ⟨a, b, c, rfl, Sl.stays (FlatOk.stays _ _) _ _ _ _ _ _ h1 ha hB, Sl.stays (FlatOk.stays _ _) _ _ _ _ _ _ h2 ha hB, Sl.stays (FlatOk.stays _ _) _ _ _ _ _ _ h3 ha hB, h4, h5⟩

/-- A place's 20 cells. -/
def RPlace : Rd DPlace := fun w B cs x => ∃ ics g, cs = ics ++ [.bool x.on, g] ∧ RItem w B ics x.item ∧ Sl 5 RGate w B g x.gates
theorem RPlace.stays : Stays RPlace := by
  rintro w w' B B' cs x ⟨ics, g, rfl, h1, h2⟩ ha hB
  exact ⟨ics, g, rfl, RItem.stays _ _ _ _ _ _ h1 ha hB, Sl.stays (FlatOk.stays _ _) _ _ _ _ _ _ h2 ha hB⟩

/-- A texture's 3 cells. -/
def RTexture : Rd DTexture := fun w B cs x => ∃ a, cs = [.int .i64 x.w, .int .i64 x.h, a] ∧ I64 x.w ∧ I64 x.h ∧ Sl 4 RColor w B a x.texels
theorem RTexture.stays : Stays RTexture := by
  rintro w w' B B' cs x ⟨a, rfl, h1, h2, h3⟩ ha hB
  exact ⟨a, rfl, h1, h2, Sl.stays (FlatOk.stays _ _) _ _ _ _ _ _ h3 ha hB⟩

/-! ### The cells of one element, one by one -/
theorem RPlace.cells {w : World} {B b o : Nat} {cs : List Value} {x : DPlace} (h : RPlace w B cs x) (ha : At w b o cs) :
    ∃ Av cv Au cu At' ct Ag cg,
      (w.cell? ⟨b, o, none⟩ = some (.slice Av x.item.verts.length cv) ∧ w.cell? ⟨b, o + 1, none⟩ = some (.slice Au x.item.uv.length cu) ∧
       w.cell? ⟨b, o + 2, none⟩ = some (.slice At' x.item.tris.length ct) ∧ w.cell? ⟨b, o + 18, none⟩ = some (.bool x.on) ∧ w.cell? ⟨b, o + 19, none⟩ = some (.slice Ag x.gates.length cg)) ∧
      (Sl 3 RVec w B (.slice Av x.item.verts.length cv) x.item.verts ∧ Sl 2 R2 w B (.slice Au x.item.uv.length cu) x.item.uv ∧
       Sl 3 R3 w B (.slice At' x.item.tris.length ct) x.item.tris ∧ Sl 5 RGate w B (.slice Ag x.gates.length cg) x.gates) := by
  obtain ⟨ics, g, rfl, ⟨a, bb, c, rfl, h1, h2, h3, h4, h5⟩, h6⟩ := h
  obtain ⟨Av, cv, rfl, _⟩ := h1.form
  obtain ⟨Au, cu, rfl, _⟩ := h2.form
  obtain ⟨At', ct, rfl, _⟩ := h3.form
  obtain ⟨Ag, cg, rfl, _⟩ := h6.form
  exact ⟨Av, cv, Au, cu, At', ct, Ag, cg, ⟨by simpa using ha 0 _ (by simp), by simpa using ha 1 _ (by simp), by simpa using ha 2 _ (by simp),
    ha 18 _ (by simp [DLook.enc, DColor.enc, DBox.enc, DVec.enc]), ha 19 _ (by simp [DLook.enc, DColor.enc, DBox.enc, DVec.enc])⟩, h1, h2, h3, h6⟩

end Go.Proofs.Ytbflmipddiaiaaa
