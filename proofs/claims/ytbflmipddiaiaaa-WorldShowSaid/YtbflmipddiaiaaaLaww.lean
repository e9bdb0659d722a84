/-
  The law WorldShow, walked: it answers true.
-/
import Derived.Test.YtbflmipddiaiaaaShoww
import Derived.Test.YtbflmipddiaiaaaSpoil
namespace Go.Proofs.Ytbflmipddiaiaaa
open Go.RowKit

theorem texs_small (l : List DTexture) (h : TexSum l ≤ 20000) : ∀ x ∈ l, x.small := by
  induction l with
  | nil => intro x hx; cases hx
  | cons a l ih =>
    intro x hx
    simp only [TexSum, List.map_cons, List.sum_cons] at h
    rcases List.mem_cons.1 hx with rfl | hx
    · unfold DTexture.small; omega
    · exact ih (by simp only [TexSum]; omega) x hx
theorem OTexture.sl3 {w : World} {lo : Nat} {v : Value} {xs : List DTexture} (h : Ow 128 3 OTexture w lo v xs) : Sl 3 RTexture w w.heap.size v xs := Ow.sl (fun _ _ h => h.rd) h
theorem OItem.sl18 {w : World} {lo : Nat} {v : Value} {xs : List DItem} (h : Ow 53 18 OItem w lo v xs) : Sl 18 RItem w w.heap.size v xs := Ow.sl (fun _ _ h => h.rd) h
theorem OPlace.sl20 {w : World} {lo : Nat} {v : Value} {xs : List DPlace} (h : Ow 116 20 OPlace w lo v xs) : Sl 20 RPlace w w.heap.size v xs := Ow.sl (fun _ _ h => h.rd) h
theorem infVec3 (v : DVec) : (Try.prog.info? 25).map (·.size) = some ([Value.int .i64 v.x, .int .i64 v.y, .int .i64 v.z]).length := by kernel_rfl
theorem infGate5 (g : DGate) : (Try.prog.info? 27).map (·.size) = some ([Value.int .i64 g.center.x, .int .i64 g.center.y, .int .i64 g.center.z, .int .i64 g.lo, .int .i64 g.hi]).length := by kernel_rfl
theorem infShow2 (a b : Value) : (Try.prog.info? 33).map (·.size) = some ([a, b]).length := by kernel_rfl
theorem Ret.yes {f : FuncId} {args : Array Value} {w : World} {b : Bool} (h : Calls Try.prog f args w (Ret (.bool b) w)) (hb : b = true) : Calls Try.prog f args w (Ret (.bool true) w) := by rw [← hb]; exact h

set_option maxRecDepth 100000 in
set_option maxHeartbeats 4000000 in
theorem law_show (l o : List DPlace) (t : List DTexture) (v : DVec) (g : DGate) (a b c : Value) (w : World) (B : Nat) (hB : B ≤ w.heap.size) (ha : Sl 20 RPlace w B a l) (hb : Sl 20 RPlace w B b o) (hc : Sl 3 RTexture w B c t) (hv : v.ok) (hg : g.ok) :
    Calls Try.prog 3 #[a, b, c, .agg #[.int .i64 v.x, .int .i64 v.y, .int .i64 v.z], .agg #[.int .i64 g.center.x, .int .i64 g.center.y, .int .i64 g.center.z, .int .i64 g.lo, .int .i64 g.hi]] w (Ret (.bool true) w) := by
  obtain ⟨A1, c1, rfl, _, _, hr1⟩ := ha.form
  obtain ⟨A2, c2, rfl, _, _, hr2⟩ := hb.form
  obtain ⟨A3, c3, rfl, _, _, hr3⟩ := hc.form
  have HA := hide (fun W (h : Below w.heap.size w W) => Sl.stays RPlace.stays _ W _ W.heap.size _ _ ha (Agree.of h hB) (Nat.le_trans hB h.size))
  have HB := hide (fun W (h : Below w.heap.size w W) => Sl.stays RPlace.stays _ W _ W.heap.size _ _ hb (Agree.of h hB) (Nat.le_trans hB h.size))
  have HC := hide (fun W (h : Below w.heap.size w W) => Sl.stays RTexture.stays _ W _ W.heap.size _ _ hc (Agree.of h hB) (Nat.le_trans hB h.size))
  have HV := hide hv
  have HG := hide hg
  clear ha hb hc hv hg
  go_enter Try.func3, Try.ntmps3
  go_upto_region 4 with (first
    | (go_at_call 8; (with_reducible refine Calls.mono (great_any (.slice A1 l.length c1) l _ _ (Nat.le_refl _) (HA.out _ (al2_below _ _ _))) ?_); rintro _ w1 ⟨b1, rfl, s1, n1⟩; have h1 : Below w.heap.size w w1 := bstep (al2_below _ _ _) n1; have Bv1 := Box.of_below n1 (al2a w _ _); have Bg1 := Box.of_below n1 (al2b w _ _); clear n1; cases b1; rotate_left; (focus (go_wp2; go_ret; exact ⟨rfl, h1⟩)); have S1 := hide (s1 rfl); clear s1)
    | (go_at_call 8; (with_reducible refine Calls.mono (great_any (.slice A2 o.length c2) o _ _ (Nat.le_refl _) (HB.out _ h1)) ?_); rintro _ w2 ⟨b2, rfl, s2, n2⟩; have h2 : Below w.heap.size w w2 := bstep h1 n2; have Bv2 := Box.of_below n2 Bv1; have Bg2 := Box.of_below n2 Bg1; clear n2; cases b2; rotate_left; (focus (go_wp2; go_ret; exact ⟨rfl, h2⟩)); have S2 := hide (s2 rfl); clear s2)
    | (go_at_call 9; (with_reducible refine Calls.mono (great_texs (.slice A3 t.length c3) t _ _ (Nat.le_refl _) (HC.out _ h2)) ?_); rintro _ w3 ⟨b3, rfl, s3, n3⟩; have h3 : Below w.heap.size w w3 := bstep h2 n3; have Bv3 := Box.of_below n3 Bv2; have Bg3 := Box.of_below n3 Bg2; clear n3; cases b3; rotate_left; (focus (go_wp2; go_ret; exact ⟨rfl, h3⟩)); obtain ⟨hm, s3⟩ := s3 rfl; have S3 := hide s3; clear s3)
    | (go_at_call 10; (with_reducible refine Calls.mono (twin_ref (.slice A1 l.length c1) l _ _ (Nat.le_refl _) (HA.out _ h3) S1.out.1 (small_of l S1.out.2)) ?_); rintro _ w4 ⟨vo, rfl, oo, n4⟩; have h4 : Below w.heap.size w w4 := bstep h3 n4; have Bv4 := Box.of_below n4 Bv3; have Bg4 := Box.of_below n4 Bg3; obtain ⟨A4, c4, rfl, _⟩ := oo.form))
  have HOWN := hide (fun W (h : Below w4.heap.size w4 W) => Sl.stays RPlace.stays _ W _ W.heap.size _ _ (OPlace.sl20 oo) (Agree.of h (Nat.le_refl _)) h.size)
  have bcv := Bv4.cell
  have zv := Bv4.lt
  obtain ⟨s, hs⟩ : ∃ s, s = (if v.inB 4096 then showOf l t v else ⟨[], []⟩) := ⟨_, rfl⟩
  obtain ⟨ee, hee⟩ : ∃ ee : Int, ee = (if v.inB 4096 then 0 else 20) := ⟨_, rfl⟩
  have SH1 := hide (show_world l t v (.slice A4 l.length c4) (.slice A3 t.length c3) w4 w4.heap.size (Nat.le_refl _) (HOWN.out _ (Below.refl _ _)) (HC.out _ h4) HV.out S1.out.1 (small_of l S1.out.2) (by omega) (texs_small t S3.out))
  have SH2 := hide (fun W (h : Below w.heap.size w W) => show_ref l t v (.slice A1 l.length c1) (.slice A3 t.length c3) W W.heap.size (Nat.le_refl _) (HA.out _ h) (HC.out _ h) HV.out S1.out.1 (small_of l S1.out.2) (by omega) (texs_small t S3.out))
  rw [← hs, ← hee] at SH1
  simp only [← hs, ← hee] at SH2
  have TW := hide (fun W (h : Below w4.heap.size w4 W) => twin_world (.slice A4 l.length c4) l W W.heap.size (Nat.le_refl _) (HOWN.out _ h) S1.out.1 (small_of l S1.out.2))
  have HS := hide hs
  have HE := hide hee
  have HO := hide oo
  clear hs hee oo n4
  go_upto_region 7 with (first
    | (go_at_call 11; (with_reducible refine Calls.mono SH1.out ?_); rintro _ w5 ⟨_, rfl, ⟨ss1, rfl, ⟨x1, y1, rfl, oi, ot⟩⟩, n5⟩; have h5 : Below w.heap.size w w5 := bstep h4 n5; have Bv5 := Box.of_below n5 Bv4; clear bcv; have bcv := Bv5.cell; obtain ⟨A5, c5, rfl, _⟩ := oi.form; obtain ⟨A6, c6, rfl, _⟩ := ot.form)
    | (refine wpList_store_list rfl 33 (.tmp 12) (.tmp 42) rfl w5.heap.size rfl _ [.slice A5 s.items.length c5, .slice A6 s.textures.length c6] _ rfl (al1 w5 _) rfl infShow rfl ?_; intro w6 Ba g6; have n6 : Below w5.heap.size w5 w6 := below_gr (al1_below w5 _) g6 (Nat.le_refl _); have h6 : Below w.heap.size w w6 := bstep h5 n6; have Bv6 := Box.of_below n6 Bv5; clear bcv; have bcv := Bv6.cell)
    | (go_at_call 12; (with_reducible refine Calls.mono (SH2.out _ h6) ?_); rintro _ w7 ⟨_, rfl, ⟨ss2, rfl, ⟨x2, y2, rfl, oi2, ot2⟩⟩, n7⟩; have h7 : Below w.heap.size w w7 := bstep h6 n7; obtain ⟨A7, c7, rfl, _⟩ := oi2.form; obtain ⟨A8, c8, rfl, _⟩ := ot2.form)
    | (refine wpList_store_list rfl 33 (.tmp 14) (.tmp 49) rfl w7.heap.size rfl _ [.slice A7 s.items.length c7, .slice A8 s.textures.length c8] _ rfl (al1 w7 _) rfl infShow rfl ?_; intro w8 Bb g8; have n8 : Below w7.heap.size w7 w8 := below_gr (al1_below w7 _) g8 (Nat.le_refl _); have k8 : Below w4.heap.size w4 w8 := bstep (bstep (bstep n5 n6) n7) n8)
    | (go_at_call 13; (with_reducible refine Calls.mono (TW.out _ k8) ?_); rintro _ w9 ⟨vc, rfl, oc, n9⟩; have k9 : Below w4.heap.size w4 w9 := bstep k8 n9; have h9 : Below w.heap.size w w9 := bstep h4 k9))
  have hc9 : ∃ A9 c9, vc = .slice A9 l.length c9 := by obtain ⟨A, c, h, _⟩ := oc.form; exact ⟨A, c, h⟩
  obtain ⟨A9, c9, rfl⟩ := hc9
  have m9 : Below w5.heap.size w5 w9 := bstep (bstep (bstep n6 n7) n8) n9
  have m9' : Below w7.heap.size w7 w9 := bstep n8 n9
  have Ba9 : Box w9 w5.heap.size [.slice A5 s.items.length c5, .slice A6 s.textures.length c6].toArray 33 := ((Ba.below n7).below n8).below n9
  have Bb9 : Box w9 w7.heap.size [.slice A7 s.items.length c7, .slice A8 s.textures.length c8].toArray 33 := Bb.below n9
  have Bv9 : Box w9 w.heap.size [Value.int .i64 v.x, .int .i64 v.y, .int .i64 v.z].toArray 25 := ((Bv6.below n7).below n8).below n9
  have Bg9 : Box w9 (w.heap.size + 1) [Value.int .i64 g.center.x, .int .i64 g.center.y, .int .i64 g.center.z, .int .i64 g.lo, .int .i64 g.hi].toArray 27 := Bg4.below k9
  have r1 := Sl.stays RItem.stays _ w9 _ w9.heap.size _ _ (OItem.sl18 oi) (Agree.of m9 (Nat.le_refl _)) m9.size
  have r2 := Sl.stays RTexture.stays _ w9 _ w9.heap.size _ _ (OTexture.sl3 ot) (Agree.of m9 (Nat.le_refl _)) m9.size
  have r3 := Sl.stays RItem.stays _ w9 _ w9.heap.size _ _ (OItem.sl18 oi2) (Agree.of m9' (Nat.le_refl _)) m9'.size
  have r4 := Sl.stays RTexture.stays _ w9 _ w9.heap.size _ _ (OTexture.sl3 ot2) (Agree.of m9' (Nat.le_refl _)) m9'.size
  have r5 := OPlace.sl20 oc
  have r6 := HOWN.out _ k9
  have r7 := HA.out _ h9
  have r8 := HB.out _ h9
  have EX := fun {α : Type} {size : Nat} {R : Rd α} (hR : Stays R) {x : Value} {xs : List α} (h : Sl size R w9 w9.heap.size x xs) (u : World) => Sl.stays hR _ (ext w9 u) _ w9.heap.size _ _ h (Agree.of (ext_below w9 u) (Nat.le_refl _)) (Nat.le_refl _)
  have C14 := hide (fun u => Ret.ext (Ret.yes (sameShow s s _ _ _ _ (ext w9 u) _ (ext_below w9 u).size (EX RItem.stays r1 u) (EX RTexture.stays r2 u) (EX RItem.stays r3 u) (EX RTexture.stays r4 u)) (decide_eq_true rfl)))
  have C15 := hide (fun u => Ret.ext (open_world g v (ext w9 u) HG.out HV.out))
  have C16 := hide (fun u => Ret.ext (open_ref g v (ext w9 u) HG.out HV.out))
  have C17a := hide (fun u => Ret.ext (Ret.yes (samePlaces_ref _ _ l l (ext w9 u) _ (ext_below w9 u).size (EX RPlace.stays r5 u) (EX RPlace.stays r7 u)) (decide_eq_true rfl)))
  have C17b := hide (fun u => Ret.ext (samePlaces_ref _ _ l o (ext w9 u) _ (ext_below w9 u).size (EX RPlace.stays r7 u) (EX RPlace.stays r8 u)))
  have C18a := hide (fun u => Ret.ext (samePlaces _ _ l o (ext w9 u) _ (ext_below w9 u).size (EX RPlace.stays r7 u) (EX RPlace.stays r8 u)))
  have C18b := hide (fun u => Ret.ext (Ret.yes (samePlaces _ _ l l (ext w9 u) _ (ext_below w9 u).size (EX RPlace.stays r6 u) (EX RPlace.stays r7 u)) (decide_eq_true rfl)))
  have I12 : Hid (∀ w', (∃ u, w' = ext w9 u) → At w' w5.heap.size 0 [.slice A5 s.items.length c5, .slice A6 s.textures.length c6]) := hide (fun w' hw => by obtain ⟨u, rfl⟩ := hw; exact (Ba9.below (ext_below w9 u)).at)
  have I14 : Hid (∀ w', (∃ u, w' = ext w9 u) → At w' w7.heap.size 0 [.slice A7 s.items.length c7, .slice A8 s.textures.length c8]) := hide (fun w' hw => by obtain ⟨u, rfl⟩ := hw; exact (Bb9.below (ext_below w9 u)).at)
  have I8 : Hid (∀ w', (∃ u, w' = ext w9 u) → At w' w.heap.size 0 [Value.int .i64 v.x, .int .i64 v.y, .int .i64 v.z]) := hide (fun w' hw => by obtain ⟨u, rfl⟩ := hw; exact (Bv9.below (ext_below w9 u)).at)
  have I9 : Hid (∀ w', (∃ u, w' = ext w9 u) → At w' (w.heap.size + 1) 0 [Value.int .i64 g.center.x, .int .i64 g.center.y, .int .i64 g.center.z, .int .i64 g.lo, .int .i64 g.hi]) := hide (fun w' hw => by obtain ⟨u, rfl⟩ := hw; exact (Bg9.below (ext_below w9 u)).at)
  clear r1 r2 r3 r4 r5 r6 r7 r8 EX bcv
  refine wp_region_ext_lit (by kernel_rfl) (by kernel_rfl) ?_
  repeat (first
    | (go_big_quiet_want; refine quiet_load_at 33 (.tmp 12) rfl w5.heap.size 0 rfl [.slice A5 s.items.length c5, .slice A6 s.textures.length c6] _ (fun w' hw => I12.out w' hw) Try.underlying33 rfl infShow ?_; go_simp; go_big_quiet_on)
    | (go_big_quiet_want; refine quiet_load_at 33 (.tmp 14) rfl w7.heap.size 0 rfl [.slice A7 s.items.length c7, .slice A8 s.textures.length c8] _ (fun w' hw => I14.out w' hw) Try.underlying33 rfl infShow ?_; go_simp; go_big_quiet_on)
    | (go_big_quiet_want; refine quiet_load_at 25 (.tmp 8) rfl w.heap.size 0 rfl [Value.int .i64 v.x, .int .i64 v.y, .int .i64 v.z] _ (fun w' hw => I8.out w' hw) Try.underlying25 rfl (infVec3 v) ?_; go_simp; go_big_quiet_on)
    | (go_big_quiet_want; refine quiet_load_at 27 (.tmp 9) rfl (w.heap.size + 1) 0 rfl [Value.int .i64 g.center.x, .int .i64 g.center.y, .int .i64 g.center.z, .int .i64 g.lo, .int .i64 g.hi] _ (fun w' hw => I9.out w' hw) Try.underlying27 rfl (infGate5 g) ?_; go_simp; go_big_quiet_on)
    | go_big_quiet_step ((first | (go_at_call 14; exact C14.out _) | (go_at_call 15; exact C15.out _) | (go_at_call 16; exact C16.out _) | (go_at_call 17; (with_reducible exact C17a.out _)) | (go_at_call 17; (with_reducible exact C17b.out _)) | (go_at_call 18; (with_reducible exact C18a.out _)) | (go_at_call 18; (with_reducible exact C18b.out _)))))
  refine wpQuiet_nil ?_
  intro _ hw'
  obtain ⟨uq, hw''⟩ := hw'
  subst hw''
  have hbx := ext_below w9 uq
  have me : Below w5.heap.size w5 (ext w9 uq) := bstep m9 hbx
  have ke : Below w4.heap.size w4 (ext w9 uq) := bstep k9 hbx
  have oce : Ow 116 20 OPlace (ext w9 uq) w8.heap.size (.slice A9 l.length c9) l := Ow.stays (S := fun _ => True) (OPlace.stays trivial trivial trivial trivial) trivial _ _ _ _ _ _ oc (Kp.below hbx _) (Nat.le_refl _)
  have oie : Ow 53 18 OItem (ext w9 uq) w4.heap.size (.slice A5 s.items.length c5) s.items := Ow.stays (S := fun _ => True) (OItem.stays trivial trivial trivial) trivial _ _ _ _ _ _ oi (Kp.below me _) (Nat.le_refl _)
  have Bae : Box (ext w9 uq) w5.heap.size [.slice A5 s.items.length c5, .slice A6 s.textures.length c6].toArray 33 := Ba9.below hbx
  have z8 : w4.heap.size ≤ w8.heap.size := k8.size
  have hlist : l.length ≤ 300 := S1.out.1
  clear I12 I14 I8 I9 C14 C15 C16 C17a C17b C18a C18b Ba9 Bb9 Bv9 Bg9 m9 m9' oc oi oi2 ot ot2 hbx n9 k9 h9 n8 k8 Bb g8 n7 h7 g6 n6 h6 Bv6 Bv5 n5 h5 Ba TW SH1 SH2 Bv4 Bg4 Bv3 Bg3 Bv2 Bg2 Bv1 Bg1 HB HC
  generalize ext w9 uq = we at *
  generalize w5.heap.size = ga at *
  go_upto_region 9 with (first
    | (go_at_call 19; (with_reducible refine Calls.mono (spoil_own (.slice A9 l.length c9) l we w4.heap.size w8.heap.size z8 oce) ?_); rintro _ ws ⟨rfl, hsp⟩))
  obtain ⟨A5', c5', hv5, hn5, hel⟩ := oie.whole
  obtain ⟨rfl, rfl⟩ : A5 = A5' ∧ c5 = c5' := by injection hv5 with e1 e2 e3; exact ⟨e1, e3⟩
  have HEL := hide hel
  clear hv5 hel oie oce
  have HBA := hide (fun W (h : Spo w4.heap.size NoItem we W) => Box.cell (h.2.1 _ _ _ Bae (by simp [NoItem])) 0)
  go_wp2
  go_loopw [18, 19] (fun i _ wr => ∃ k : Nat, k ≤ s.items.length ∧ i = .int .i64 k ∧ Spo w4.heap.size NoItem we wr) (fun i _ _ => s.items.length - (intOf i).toNat)
  case atStart => exact ⟨0, Nat.zero_le _, rfl, hsp⟩
  case round =>
    clear hsp
    obtain ⟨k, hk, rfl, hsp⟩ := hrel
    have hsc : wr.cell? ⟨ga, 0, none⟩ = some (.slice A5 s.items.length c5) := HBA.out wr hsp
    by_cases hlt : k < s.items.length
    · obtain ⟨gi, og, cs, rfl, hgi, hl, ⟨a1, a2, a3, rfl, p1, p2, p3, _, _⟩, hat⟩ := HEL.out k hlt
      obtain ⟨A1', c1', rfl, n1, q1⟩ := p1.spoilt
      have HH : Hid (∀ W, Spo w4.heap.size NoItem we W → W.cell? ⟨gi, og + k * 18, none⟩ = some (.slice A1' s.items[k].verts.length c1')) := hide (fun W hW => by
        have ha := hat W _ hW.2.1 (by simp [NoItem])
        exact ha 0 _ (by simp))
      obtain ⟨p, hp⟩ : ∃ p, p = s.items[k] := ⟨_, rfl⟩
      rw [← hp] at HH q1 n1
      clear hp p1 p2 p3 hat
      go_wp2
      go_loopw [19] (fun j wr => ∃ m : Nat, m ≤ p.verts.length ∧ j = .int .i64 m ∧ Spo w4.heap.size NoItem we wr) (fun j _ => p.verts.length - (intOf j).toNat)
      case atStart => exact ⟨0, Nat.zero_le _, rfl, hsp⟩
      case round =>
        clear hsp hsc
        obtain ⟨m, hm, rfl, hsp⟩ := hrel
        have hf := HH.out _ hsp
        have hsc : wr.cell? ⟨ga, 0, none⟩ = some (.slice (some ⟨gi, og, none⟩) s.items.length c5) := HBA.out wr hsp
        by_cases hlm : m < p.verts.length
        · obtain ⟨g2, o2, rfl, hg2, hW⟩ := q1 m hlm
          obtain ⟨hbx, hcf⟩ := hW _ _ _ hsp
          obtain ⟨⟨u, hu⟩, hz⟩ := hcf 0 (by omega)
          rw [Nat.add_zero] at hu hz
          have HX := hide hbx
          clear hbx hcf hW
          go_wp2
          go_roundw
          case rel => exact ⟨m + 1, by omega, by go_num, hsp.set hg2 HX.out (by simp [NoItem]) _⟩
          case measure => simp [intOf]; omega
        · have hk' : m = p.verts.length := by omega
          have HK := hide hk'
          clear hk'
          go_wp2
          go_roundw
          case rel => exact ⟨k + 1, by omega, by go_num, hsp⟩
          case measure => simp [intOf]; omega
    · have hk' : k = s.items.length := by omega
      have HK := hide hk'
      clear hk'
      have kr : Below w4.heap.size w4 wr := ke.trans hsp.1
      have hr : Below w.heap.size w wr := bstep h4 kr
      have R1 := HOWN.out wr kr
      have R2 := HA.out wr hr
      have CL := hide (Ret.yes (samePlaces_ref _ _ l l wr _ (Nat.le_refl _) R1 R2) (decide_eq_true rfl))
      go_wp2_with (first
        | (go_at_call 17; (with_reducible refine Calls.mono CL.out ?_); rintro _ wz ⟨rfl, nz⟩))
      go_ret
      exact ⟨rfl, bstep hr nz⟩

end Go.Proofs.Ytbflmipddiaiaaa
