/-
  dioramalaw13.spoil: places of one's own are written over; nothing else turns.
-/
import Derived.Test.YtbflmipddiaiaaaSpo
import Derived.Test.YtbflmipddiaiaaaTwinr
namespace Go.Proofs.Ytbflmipddiaiaaa
open Go.RowKit

def NoItem (t : TypeId) : Prop := t ≠ 25 ∧ t ≠ 143 ∧ t ≠ 55 ∧ t ≠ 27
def Spoils (lo : Nat) (w : World) (e : Ending) (w' : World) : Prop := e = .returned (.tuple #[]) ∧ Spo lo NoItem w w'


set_option maxRecDepth 100000 in
set_option maxHeartbeats 2000000 in
theorem spoil_own (v : Value) (xs : List DPlace) (w : World) (lo lo0 : Nat) (hlo : lo ≤ lo0) (h : Ow 116 20 OPlace w lo0 v xs) :
    Calls Try.prog 19 #[v] w (Spoils lo w) := by
  obtain ⟨A, c, rfl, hn, hel⟩ := h.whole
  clear h
  go_enter Try.func19, Try.ntmps19
  go_wp2
  go_loopw [2, 3, 4, 5, 6] (fun i _ _ _ _ wr => ∃ k : Nat, k ≤ xs.length ∧ i = .int .i64 k ∧ Spo lo NoItem w wr) (fun i _ _ _ _ _ => xs.length - (intOf i).toNat)
  case atStart => exact ⟨0, Nat.zero_le _, rfl, Spo.refl _ _ _⟩
  case round =>
    obtain ⟨k, hk, rfl, hsp⟩ := hrel
    by_cases hlt : k < xs.length
    · obtain ⟨g, o, cs, rfl, hg, hl, ⟨ics, gv, rfl, ⟨a1, a2, a3, rfl, p1, p2, p3, _, _⟩, p4⟩, hat⟩ := hel k hlt
      obtain ⟨A1, c1, rfl, n1, q1⟩ := p1.spoilt
      obtain ⟨A2, c2, rfl, n2, q2⟩ := p2.spoilt
      obtain ⟨A3, c3, rfl, n3, q3⟩ := p3.spoilt
      obtain ⟨A4, c4, rfl, n4, q4⟩ := p4.spoilt
      have HH : Hid (∀ W, Spo lo NoItem w W → W.cell? ⟨g, o + k * 20, none⟩ = some (.slice A1 xs[k].item.verts.length c1) ∧ W.cell? ⟨g, o + k * 20 + 1, none⟩ = some (.slice A2 xs[k].item.uv.length c2) ∧
          W.cell? ⟨g, o + k * 20 + 2, none⟩ = some (.slice A3 xs[k].item.tris.length c3) ∧ W.cell? ⟨g, o + k * 20 + 19, none⟩ = some (.slice A4 xs[k].gates.length c4)) := hide (fun W hW => by
        have ha := hat W _ hW.2.1 (by simp [NoItem])
        exact ⟨ha 0 _ (by simp), ha 1 _ (by simp), ha 2 _ (by simp), ha 19 _ (by simp [DLook.enc, DColor.enc, DBox.enc, DVec.enc])⟩)
      obtain ⟨p, hp⟩ : ∃ p, p = xs[k] := ⟨_, rfl⟩
      rw [← hp] at HH q1 q2 q3 q4 n1 n2 n3 n4
      clear hp p1 p2 p3 p4 hat hl hel
      go_wp2
      go_loopw [3] (fun j wr => ∃ m : Nat, m ≤ p.item.verts.length ∧ j = .int .i64 m ∧ Spo lo NoItem w wr) (fun j _ => p.item.verts.length - (intOf j).toNat)
      case atStart => exact ⟨0, Nat.zero_le _, rfl, hsp⟩
      case round =>
        clear hsp
        obtain ⟨m, hm, rfl, hsp⟩ := hrel
        have hf := HH.out _ hsp
        by_cases hlm : m < p.item.verts.length
        · obtain ⟨g2, o2, rfl, hg2, hW⟩ := q1 m hlm
          obtain ⟨hbx, hcf⟩ := hW _ _ _ hsp
          obtain ⟨⟨u, hu⟩, hz⟩ := hcf 0 (by omega)
          try rw [Nat.add_zero] at hu hz
          have HX := hide hbx
          have HL := hide hlo
          clear hbx hcf hW
          go_wp2
          go_roundw
          case rel => exact ⟨m + 1, by omega, by go_num, hsp.set (Nat.le_trans HL.out hg2) HX.out (by simp [NoItem]) _⟩
          case measure => simp [intOf]; omega
        · have hk' : m = p.item.verts.length := by omega
          have HK := hide hk'
          clear hk'
          go_wp2
          go_loopw [4] (fun j wr => ∃ m : Nat, m ≤ p.item.uv.length ∧ j = .int .i64 m ∧ Spo lo NoItem w wr) (fun j _ => p.item.uv.length - (intOf j).toNat)
          case atStart => exact ⟨0, Nat.zero_le _, rfl, hsp⟩
          case round =>
            clear hsp
            obtain ⟨m, hm, rfl, hsp⟩ := hrel
            have hf := HH.out _ hsp
            by_cases hlm : m < p.item.uv.length
            · obtain ⟨g2, o2, rfl, hg2, hW⟩ := q2 m hlm
              obtain ⟨hbx, hcf⟩ := hW _ _ _ hsp
              obtain ⟨⟨u, hu⟩, hz⟩ := hcf 0 (by omega)
              try rw [Nat.add_zero] at hu hz
              have HX := hide hbx
              have HL := hide hlo
              clear hbx hcf hW
              go_wp2
              go_roundw
              case rel => exact ⟨m + 1, by omega, by go_num, hsp.set (Nat.le_trans HL.out hg2) HX.out (by simp [NoItem]) _⟩
              case measure => simp [intOf]; omega
            · have hk' : m = p.item.uv.length := by omega
              have HK := hide hk'
              clear hk'
              go_wp2
              go_loopw [5] (fun j wr => ∃ m : Nat, m ≤ p.item.tris.length ∧ j = .int .i64 m ∧ Spo lo NoItem w wr) (fun j _ => p.item.tris.length - (intOf j).toNat)
              case atStart => exact ⟨0, Nat.zero_le _, rfl, hsp⟩
              case round =>
                clear hsp
                obtain ⟨m, hm, rfl, hsp⟩ := hrel
                have hf := HH.out _ hsp
                by_cases hlm : m < p.item.tris.length
                · obtain ⟨g2, o2, rfl, hg2, hW⟩ := q3 m hlm
                  obtain ⟨hbx, hcf⟩ := hW _ _ _ hsp
                  obtain ⟨⟨u, hu⟩, hz⟩ := hcf 0 (by omega)
                  try rw [Nat.add_zero] at hu hz
                  have HX := hide hbx
                  have HL := hide hlo
                  clear hbx hcf hW
                  go_wp2
                  go_roundw
                  case rel => exact ⟨m + 1, by omega, by go_num, hsp.set (Nat.le_trans HL.out hg2) HX.out (by simp [NoItem]) _⟩
                  case measure => simp [intOf]; omega
                · have hk' : m = p.item.tris.length := by omega
                  have HK := hide hk'
                  clear hk'
                  go_wp2
                  go_loopw [6] (fun j wr => ∃ m : Nat, m ≤ p.gates.length ∧ j = .int .i64 m ∧ Spo lo NoItem w wr) (fun j _ => p.gates.length - (intOf j).toNat)
                  case atStart => exact ⟨0, Nat.zero_le _, rfl, hsp⟩
                  case round =>
                    clear hsp
                    obtain ⟨m, hm, rfl, hsp⟩ := hrel
                    have hf := HH.out _ hsp
                    by_cases hlm : m < p.gates.length
                    · obtain ⟨g2, o2, rfl, hg2, hW⟩ := q4 m hlm
                      obtain ⟨hbx, hcf⟩ := hW _ _ _ hsp
                      obtain ⟨⟨u, hu⟩, hz⟩ := hcf 4 (by omega)
                      try rw [Nat.add_zero] at hu hz
                      have HX := hide hbx
                      have HL := hide hlo
                      clear hbx hcf hW
                      go_wp2
                      go_roundw
                      case rel => exact ⟨m + 1, by omega, by go_num, hsp.set (Nat.le_trans HL.out hg2) HX.out (by simp [NoItem]) _⟩
                      case measure => simp [intOf]; omega
                    · have hk' : m = p.gates.length := by omega
                      have HK := hide hk'
                      clear hk'
                      go_wp2
                      go_roundw
                      case rel => exact ⟨k + 1, by omega, by go_num, hsp⟩
                      case measure => simp [intOf]; omega
    · have hk' : k = xs.length := by omega
      subst hk'
      go_wp2
      go_end0
      exact ⟨rfl, hsp⟩

end Go.Proofs.Ytbflmipddiaiaaa
