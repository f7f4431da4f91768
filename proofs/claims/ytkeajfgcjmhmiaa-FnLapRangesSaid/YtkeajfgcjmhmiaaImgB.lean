/- image of a map, the program's. -/
import Derived.Test.YtkeajfgcjmhmiaaImgA
import Derived.BigRegion
namespace Go.Proofs.Ytkeajfgcjmhmiaa
open Go.RowKit

def RelIm (st : Nat → Q × Q) (n gl gh : Nat) (W1 : World) (i : Value) (wr : World) : Prop :=
  ∃ k : Nat, k ≤ n ∧ i = .int .i64 k ∧ (∃ l1 l2 h1 h2 : Int, st k = ((l1, l2), (h1, h2)) ∧ BoxQ wr gl l1 l2 ∧ BoxQ wr gh h1 h2) ∧ But2 gl gh W1 wr

set_option maxRecDepth 100000 in
set_option maxHeartbeats 4000000 in
theorem image_is (ps : List Pt) (v : Value) (a1 a2 b1 b2 y1 y2 z1 z2 p1 p2 q1 q2 : Int) (ta tb bad c1 c2 : Bool) (gc : Nat) (w : World) (hs : Slot w gc 0 (.bool bad)) (hv : RdP w v ps) (ho : Old gc v) (hm : okMap ps = true) (ha : unitQ a1 a2 = true) (hb : unitQ b1 b2 = true) (hya : valQ ps (a1, a2) = ((y1, y2), ta)) (hyb : valQ ps (b1, b2) = ((z1, z2), tb)) (hc1 : (bad || !ta) = c1) (hc2 : (c1 || !tb) = c2) (hS : imgS (y1, y2) (z1, z2) (imgL ps (a1, a2) (b1, b2)) = ((p1, p2), (q1, q2))) :
    Calls Try.prog 33 #[.pointer (some ⟨gc, 0, none⟩), v, .agg #[.int .i64 a1, .int .i64 a2], .agg #[.int .i64 b1, .int .i64 b2]] w fun e w' => e = .returned (.tuple #[.agg #[.int .i64 p1, .int .i64 p2], .agg #[.int .i64 q1, .int .i64 q2]]) ∧ Slot w' gc 0 (.bool c2) ∧ But gc w w' := by
  have hgc := lt_of_cell hs.1
  have yu : okQ y1 y2 = true := by have := valQ_unit (x := (a1, a2)) hm ha; rw [hya] at this; exact unitQ_ok this
  have zu : okQ z1 z2 = true := by have := valQ_unit (x := (b1, b2)) hm hb; rw [hyb] at this; exact unitQ_ok this
  have hOK := fun k => imgS_ok (ya := (y1, y2)) (yb := (z1, z2)) yu zu (imgL_ok hm (a1, a2) (b1, b2) k)
  have HOK := Lib.hid hOK
  have hlm := okMap_len hm
  have HV := Lib.hid hv
  obtain ⟨A, c, rfl, hl, hm9, hcell⟩ := hv
  unfold maxLen at hm9
  obtain ⟨g, o, rfl, hg, hc⟩ := hcell (by intro h; rw [h] at hlm; simp at hlm)
  have hgg : g < gc := ho _ _ _ rfl
  have HC := Lib.hid hc
  have HM := Lib.hid hm
  have HA := Lib.hid ha
  have HB := Lib.hid hb
  have HYA := Lib.hid hya
  have HYB := Lib.hid hyb
  have HC1 := Lib.hid hc1
  have HC2 := Lib.hid hc2
  have HO := Lib.hid ho
  have HS := Lib.hid hs
  have HSS := Lib.hid hS
  have SY := Lib.hid (Sm.of_ok yu)
  have SZ := Lib.hid (Sm.of_ok zu)
  have SA := Lib.hid (Sm.of_ok (unitQ_ok ha))
  have SB := Lib.hid (Sm.of_ok (unitQ_ok hb))
  clear hcell hc hm ha hb hya hyb hc1 hc2 ho hs hS hOK yu zu
  go_enter Try.func33, Try.ntmps33
  go_wp2_with fail
  refine (value_is ps _ a1 a2 y1 y2 ta bad c1 gc _ (slotB (by go_grown) HS.out) (HV.out.keep (by go_grown)) HO.out HM.out HA.out HYA.out HC1.out).mono ?_
  rintro e w1 ⟨rfl, g1, k1⟩
  have b00 : w1.cell? ⟨w.heap.size, 0, none⟩ = some (.int .i64 a1) := cellU k1 (by omega) (by simp [go_sem])
  have b01 : w1.cell? ⟨w.heap.size, 1, none⟩ = some (.int .i64 a2) := cellU k1 (by omega) (by simp [go_sem])
  have b10 : w1.cell? ⟨w.heap.size + 1, 0, none⟩ = some (.int .i64 b1) := cellU k1 (by omega) (by simp [go_sem])
  have b11 : w1.cell? ⟨w.heap.size + 1, 1, none⟩ = some (.int .i64 b2) := cellU k1 (by omega) (by simp [go_sem])
  have r20 : Slot w1 (w.heap.size + 2) 0 (.int .i64 0) := slotU k1 (by omega) ⟨by simp [go_sem], by simp [go_sem]⟩
  have r21 : Slot w1 (w.heap.size + 2) 1 (.int .i64 0) := slotU k1 (by omega) ⟨by simp [go_sem], by simp [go_sem]⟩
  have r30 : Slot w1 (w.heap.size + 3) 0 (.int .i64 0) := slotU k1 (by omega) ⟨by simp [go_sem], by simp [go_sem]⟩
  have r31 : Slot w1 (w.heap.size + 3) 1 (.int .i64 0) := slotU k1 (by omega) ⟨by simp [go_sem], by simp [go_sem]⟩
  have KB : But gc w w1 := But.trans (But.of_below (B := w.heap.size) (by go_grown) (Nat.le_refl _)) k1
  have G1 := Lib.hid g1
  have z1w := lt_of_cell r30.1
  have zb0 := lt_of_cell b00
  have zb1 := lt_of_cell b10
  clear k1 g1
  go_wp2_with fail
  refine (value_is ps _ b1 b2 z1 z2 tb c1 c2 gc _ (slotB (by go_grown) G1.out) (HV.out.keepU (But.next KB (by go_grown) (Nat.le_refl _)) HO.out) HO.out HM.out HB.out HYB.out HC2.out).mono ?_
  rintro e w2 ⟨rfl, g2, k2⟩
  replace b00 := cellU k2 (by omega) (cellB (by go_grown) b00)
  replace b01 := cellU k2 (by omega) (cellB (by go_grown) b01)
  replace b10 := cellU k2 (by omega) (cellB (by go_grown) b10)
  replace b11 := cellU k2 (by omega) (cellB (by go_grown) b11)
  replace r20 := slotU k2 (by omega) (slotB (by go_grown) r20)
  replace r21 := slotU k2 (by omega) (slotB (by go_grown) r21)
  replace r30 := slotU k2 (by omega) (slotB (by go_grown) r30)
  replace r31 := slotU k2 (by omega) (slotB (by go_grown) r31)
  have L : BoxQ w2 w1.heap.size y1 y2 := ⟨slotU k2 (by omega) ⟨by simp [go_sem], by simp [go_sem]⟩, slotU k2 (by omega) ⟨by simp [go_sem], by simp [go_sem]⟩⟩
  have H : BoxQ w2 (w1.heap.size + 1) y1 y2 := ⟨slotU k2 (by omega) ⟨by simp [go_sem], by simp [go_sem]⟩, slotU k2 (by omega) ⟨by simp [go_sem], by simp [go_sem]⟩⟩
  replace KB := But.trans (But.next KB (by go_grown) (Nat.le_refl _)) k2
  clear k2
  rcases hst : imgS (y1, y2) (z1, z2) (imgL (ps.take 0) (a1, a2) (b1, b2)) with ⟨⟨s1, s2⟩, t1, t2⟩
  have hst2 : stepI ((y1, y2), (y1, y2)) (z1, z2) = ((s1, s2), (t1, t2)) := hst
  go_wp2_with fail
  refine (takeF z1 z2 y1 y2 y1 y2 s1 s2 t1 t2 w1.heap.size (w1.heap.size + 1) (by omega) SZ.out SY.out SY.out (congrArg (·.1) hst2) (congrArg (·.2) hst2) _ L H).mono ?_
  rintro e w3 ⟨rfl, L3, H3, k3⟩
  replace b00 := cell2 k3 (by omega) (by omega) b00
  replace b01 := cell2 k3 (by omega) (by omega) b01
  replace b10 := cell2 k3 (by omega) (by omega) b10
  replace b11 := cell2 k3 (by omega) (by omega) b11
  replace r20 := slot2 k3 (by omega) (by omega) r20
  replace r21 := slot2 k3 (by omega) (by omega) r21
  replace r30 := slot2 k3 (by omega) (by omega) r30
  replace r31 := slot2 k3 (by omega) (by omega) r31
  have g3 := slot2 k3 (by omega) (by omega) g2
  replace KB := But2.after KB k3 (by omega) (by omega)
  generalize hgl : w1.heap.size = gl at *
  have G3 := Lib.hid g3
  have R := Lib.hid (show (Slot w3 (w.heap.size + 2) 0 (.int .i64 0) ∧ Slot w3 (w.heap.size + 2) 1 (.int .i64 0)) ∧ Slot w3 (w.heap.size + 3) 0 (.int .i64 0) ∧ Slot w3 (w.heap.size + 3) 1 (.int .i64 0) from ⟨⟨r20, r21⟩, r30, r31⟩)
  clear k3 L H g2 g3 hst2 r20 r21 r30 r31
  go_wp2_with fail
  go_loopw [29] (fun i wr => RelIm (fun k => imgS (y1, y2) (z1, z2) (imgL (ps.take k) (a1, a2) (b1, b2))) ps.length gl (gl + 1) w3 i wr) (fun i _ => ps.length - (intOf i).toNat)
  case atStart => exact ⟨0, Nat.zero_le _, rfl, ⟨s1, s2, t1, t2, hst, L3, H3⟩, But2.refl _ _ _⟩
  case round =>
    obtain ⟨k, hk, rfl, ⟨l1, l2, h1, h2, hsk, L, H⟩, hb⟩ := hrel
    simp only at hsk
    have KBr := But2.after KB hb (by omega) (by omega)
    have hzr := KBr.size
    have zgl := lt_of_cell L.1.1
    have zgh := lt_of_cell H.1.1
    have e00 := cell2 hb (by omega) (by omega) b00
    have e01 := cell2 hb (by omega) (by omega) b01
    have e10 := cell2 hb (by omega) (by omega) b10
    have e11 := cell2 hb (by omega) (by omega) b11
    have ze := lt_of_cell e10
    have ze0 := lt_of_cell e00
    have HL := Lib.hid L
    have HH := Lib.hid H
    have HSK := Lib.hid hsk
    clear L H hsk
    by_cases hlt : k < ps.length
    · have hp := List.getElem?_eq_getElem hlt
      obtain ⟨d0, d1, d2, d3⟩ := HC.out k _ hp
      generalize ps[k] = p at *
      obtain ⟨⟨u1, u2⟩, u3, u4⟩ := p
      simp only at d0 d1 d2 d3
      replace d0 := cellU KBr (by omega) d0
      replace d1 := cellU KBr (by omega) d1
      replace d2 := cellU KBr (by omega) d2
      replace d3 := cellU KBr (by omega) d3
      have HS4 := Lib.hid (coord4 (okMap_coord HM.out hp).1 (okMap_coord HM.out hp).2)
      have hmore := imgL_more (a := (a1, a2)) (b := (b1, b2)) hp
      clear hp
      rcases h1a : lessQ a1 a2 u1 u2 with _ | _
      · have HE := Lib.hid (show imgS (y1, y2) (z1, z2) (imgL (ps.take (k + 1)) (a1, a2) (b1, b2)) = ((l1, l2), (h1, h2)) by rw [hmore, if_neg (by simp [inQ, h1a]), List.append_nil]; exact HSK.out)
        have HLs := Lib.hid h1a
        clear h1a hmore
        go_wp2_with fail
        refine (less_any a1 a2 u1 u2 SA.out.1 SA.out.2 HS4.out.1 HS4.out.2.1 _).mono ?_
        rintro e w4 ⟨he, hx⟩
        rw [HLs.out] at he
        subst he
        have hX : Below wr.heap.size wr w4 := nextX (by go_grown) hx
        have L4 : BoxQ w4 gl l1 l2 := ⟨slotB hX HL.out.1, slotB hX HL.out.2⟩
        have H4 : BoxQ w4 (gl + 1) h1 h2 := ⟨slotB hX HH.out.1, slotB hX HH.out.2⟩
        have hb4 := hb.next hX
        clear hx d0 d1 d2 d3 e00 e01 e10 e11
        go_wp2_with fail
        go_roundw
        case rel => exact ⟨k + 1, by omega, by go_num, ⟨l1, l2, h1, h2, HE.out, L4, H4⟩, hb4⟩
        case measure => simp [intOf]; omega
      · rcases h1b : lessQ u1 u2 b1 b2 with _ | _
        · have HE := Lib.hid (show imgS (y1, y2) (z1, z2) (imgL (ps.take (k + 1)) (a1, a2) (b1, b2)) = ((l1, l2), (h1, h2)) by rw [hmore, if_neg (by simp [inQ, h1b]), List.append_nil]; exact HSK.out)
          have HLs := Lib.hid h1a
          have HLt := Lib.hid h1b
          clear h1a h1b hmore
          go_wp2_with fail
          refine (less_any a1 a2 u1 u2 SA.out.1 SA.out.2 HS4.out.1 HS4.out.2.1 _).mono ?_
          rintro e w4 ⟨he, hx⟩
          rw [HLs.out] at he
          subst he
          have hX : Below wr.heap.size wr w4 := nextX (by go_grown) hx
          have f0 : w4.cell? ⟨wr.heap.size, 0, none⟩ = some (.int .i64 u1) := cellB hx (by simp [go_sem])
          have f1 : w4.cell? ⟨wr.heap.size, 1, none⟩ = some (.int .i64 u2) := cellB hx (by simp [go_sem])
          have f2 : w4.cell? ⟨wr.heap.size, 2, none⟩ = some (.int .i64 u3) := cellB hx (by simp [go_sem])
          have f3 : w4.cell? ⟨wr.heap.size, 3, none⟩ = some (.int .i64 u4) := cellB hx (by simp [go_sem])
          replace e10 := cellB hX e10
          replace e11 := cellB hX e11
          have zf := lt_of_cell f0
          have L4 := Lib.hid (show BoxQ w4 gl l1 l2 from ⟨slotB hX HL.out.1, slotB hX HL.out.2⟩)
          have H4 := Lib.hid (show BoxQ w4 (gl + 1) h1 h2 from ⟨slotB hX HH.out.1, slotB hX HH.out.2⟩)
          have hb4 := hb.next hX
          clear hx hX d0 d1 d2 d3 e00 e01
          replace HLs := HLt
          go_wp2_with fail
          refine (less_any u1 u2 b1 b2 HS4.out.1 HS4.out.2.1 SB.out.1 SB.out.2 _).mono ?_
          rintro e w5 ⟨he, hx⟩
          rw [HLs.out] at he
          subst he
          have hX : Below w4.heap.size w4 w5 := nextX (by go_grown) hx
          have L5 : BoxQ w5 gl l1 l2 := ⟨slotB hX L4.out.1, slotB hX L4.out.2⟩
          have H5 : BoxQ w5 (gl + 1) h1 h2 := ⟨slotB hX H4.out.1, slotB hX H4.out.2⟩
          have hb5 := hb4.next hX
          clear hx f0 f1 f2 f3 e10 e11
          go_wp2_with fail
          go_roundw
          case rel => exact ⟨k + 1, by omega, by go_num, ⟨l1, l2, h1, h2, HE.out, L5, H5⟩, hb5⟩
          case measure => simp [intOf]; omega
        · rcases hnx : stepI ((l1, l2), (h1, h2)) (u3, u4) with ⟨⟨n1, n2⟩, m1, m2⟩
          have HE := Lib.hid (show imgS (y1, y2) (z1, z2) (imgL (ps.take (k + 1)) (a1, a2) (b1, b2)) = ((n1, n2), (m1, m2)) by rw [hmore, if_pos (by simp [inQ, h1a, h1b]), imgS_snoc, HSK.out]; exact hnx)
          have HN1 := Lib.hid (show lesserQ (l1, l2) (u3, u4) = (n1, n2) from congrArg (·.1) hnx)
          have HN2 := Lib.hid (show bigQ (h1, h2) (u3, u4) = (m1, m2) from congrArg (·.2) hnx)
          have SLH := Lib.hid (show (Sm l1 ∧ Sm l2) ∧ (Sm h1 ∧ Sm h2) by have := HOK.out k; rw [HSK.out] at this; exact ⟨Sm.of_ok this.1, Sm.of_ok this.2⟩)
          clear hnx
          have HLs := Lib.hid h1a
          have HLt := Lib.hid h1b
          clear h1a h1b hmore
          go_wp2_with fail
          refine (less_any a1 a2 u1 u2 SA.out.1 SA.out.2 HS4.out.1 HS4.out.2.1 _).mono ?_
          rintro e w4 ⟨he, hx⟩
          rw [HLs.out] at he
          subst he
          have hX : Below wr.heap.size wr w4 := nextX (by go_grown) hx
          have f0 : w4.cell? ⟨wr.heap.size, 0, none⟩ = some (.int .i64 u1) := cellB hx (by simp [go_sem])
          have f1 : w4.cell? ⟨wr.heap.size, 1, none⟩ = some (.int .i64 u2) := cellB hx (by simp [go_sem])
          have f2 : w4.cell? ⟨wr.heap.size, 2, none⟩ = some (.int .i64 u3) := cellB hx (by simp [go_sem])
          have f3 : w4.cell? ⟨wr.heap.size, 3, none⟩ = some (.int .i64 u4) := cellB hx (by simp [go_sem])
          replace e10 := cellB hX e10
          replace e11 := cellB hX e11
          have zf := lt_of_cell f0
          have L4 := Lib.hid (show BoxQ w4 gl l1 l2 from ⟨slotB hX HL.out.1, slotB hX HL.out.2⟩)
          have H4 := Lib.hid (show BoxQ w4 (gl + 1) h1 h2 from ⟨slotB hX HH.out.1, slotB hX HH.out.2⟩)
          have hb4 := hb.next hX
          clear hx hX d0 d1 d2 d3 e00 e01
          replace HLs := HLt
          go_wp2_with fail
          refine (less_any u1 u2 b1 b2 HS4.out.1 HS4.out.2.1 SB.out.1 SB.out.2 _).mono ?_
          rintro e w5 ⟨he, hx⟩
          rw [HLs.out] at he
          subst he
          have hX : Below w4.heap.size w4 w5 := nextX (by go_grown) hx
          have L5 : BoxQ w5 gl l1 l2 := ⟨slotB hX L4.out.1, slotB hX L4.out.2⟩
          have H5 : BoxQ w5 (gl + 1) h1 h2 := ⟨slotB hX H4.out.1, slotB hX H4.out.2⟩
          have hb5 := hb4.next hX
          replace f0 := cellB hX f0
          replace f1 := cellB hX f1
          replace f2 := cellB hX f2
          replace f3 := cellB hX f3
          clear hx hX e10 e11 f0 f1
          go_wp2_with fail
          refine (takeF u3 u4 l1 l2 h1 h2 n1 n2 m1 m2 gl (gl + 1) (by omega) HS4.out.2.2 SLH.out.1 SLH.out.2 HN1.out HN2.out _ L5 H5).mono ?_
          rintro e w6 ⟨rfl, L6, H6, k6⟩
          have hb6 := hb5.trans k6
          clear k6 f2 f3
          go_wp2_with fail
          go_roundw
          case rel => exact ⟨k + 1, by omega, by go_num, ⟨n1, n2, m1, m2, HE.out, L6, H6⟩, hb6⟩
          case measure => simp [intOf]; omega
    · obtain rfl : k = ps.length := by omega
      have hfin := HSK.out
      rw [List.take_length, HSS.out] at hfin
      obtain ⟨hf1, hf2⟩ := Prod.mk.inj hfin
      obtain ⟨rfl, rfl⟩ := Prod.mk.inj hf1
      obtain ⟨rfl, rfl⟩ := Prod.mk.inj hf2
      clear hfin hf1 hf2
      obtain ⟨⟨l0, fl0⟩, l1', fl1⟩ := And.intro HL.out.1 HL.out.2
      obtain ⟨⟨h0, fh0⟩, h1', fh1⟩ := And.intro HH.out.1 HH.out.2
      obtain ⟨r0, fr0⟩ := slot2 hb (by omega) (by omega) R.out.1.1
      obtain ⟨r1, fr1⟩ := slot2 hb (by omega) (by omega) R.out.1.2
      obtain ⟨r2, fr2⟩ := slot2 hb (by omega) (by omega) R.out.2.1
      obtain ⟨r3, fr3⟩ := slot2 hb (by omega) (by omega) R.out.2.2
      have G4 := Lib.hid (slot2 hb (by omega) (by omega) G3.out)
      clear e00 e01 e10 e11 hb
      go_wp2_with fail
      go_region
      all_goals
        go_wp2_with fail
        refine bodyPost_ret (v := .tuple #[.agg #[.int .i64 p1, .int .i64 p2], .agg #[.int .i64 q1, .int .i64 q2]]) (by simp [results, Try.results33, go_sem, r0, r1, r2, r3]) rfl ⟨rfl, ?_, ?_⟩
        · refine slotS (slotS (slotS (slotS G4.out ?_) ?_) ?_) ?_ <;> simp <;> omega
        · refine But.setNew (But.setNew (But.setNew (But.setNew (But.drew KBr) ?_ _) ?_ _) ?_ _) ?_ _ <;> omega

end Go.Proofs.Ytkeajfgcjmhmiaa
