/- JoinMaps of the reference. -/
import Derived.Test.YtkeajfgcjmhmiaaGreatJ10
import Derived.Test.YtkeajfgcjmhmiaaGreatJ50
namespace Go.Proofs.YtkeajfgcjmhmiaaGreat
open Go.RowKit

set_option maxHeartbeats 8000000 in
theorem sJoinMaps_is (ps qs : List Pt) (v u : Value) (x1 x2 : Int) (m : List Pt) (t : Bool) (hl : joinQ ps qs (x1, x2) = (m, t)) (w : World) (hv : RdP w v ps) (hu : RdP w u qs) (hn : ps.length ≤ 1048576) (hk : qs.length ≤ 1048576) :
    Calls Tryz.prog 42 #[v, u, .agg #[.int .i64 x1, .int .i64 x2]] w (RetPB w m t) := by
  have HV := Lib.hid hv
  have HU := Lib.hid hu
  rcases hm0 : (okMap ps && okMap qs) with _ | _
  · obtain ⟨rfl, rfl⟩ : [] = m ∧ false = t := by
      unfold joinQ at hl
      rw [if_neg (fun h => by rw [h.1, h.2.1] at hm0; simp at hm0)] at hl
      exact Prod.mk.inj hl
    have HM := Lib.hid hm0
    clear hv hu hl hm0
    go_enter Tryz.func42, Tryz.ntmps42
    go_wp2_with fail
    refine (coTwo_is ps qs v u false HM.out _ (HV.out.keep (by go_grown)) (HU.out.keep (by go_grown)) hn hk).mono ?_
    rintro e w1 ⟨rfl, hb⟩
    have hX : Below w.heap.size w w1 := nextX (by go_grown) hb
    have b00 : w1.cell? ⟨w.heap.size, 0, none⟩ = some (.int .i64 x1) := cellB hb (by simp [go_sem])
    have b01 : w1.cell? ⟨w.heap.size, 1, none⟩ = some (.int .i64 x2) := cellB hb (by simp [go_sem])
    have zb00 := lt_of_cell b00
    have hB : Below w.heap.size w w1 := hX
    clear hb hX
    go_wp2_with fail
    go_ret2
    exact ⟨_, rfl, World.ownsRow_nil _ _ _ _, by go_grown⟩
  · have HM0 := Lib.hid hm0
    have hm : okMap ps = true := by simp at hm0; exact hm0.1
    have hk0 : okMap qs = true := by simp at hm0; exact hm0.2
    clear hm0
    rcases hx : unitQ x1 x2 with _ | _
    · obtain ⟨rfl, rfl⟩ : [] = m ∧ false = t := by unfold joinQ at hl; rw [if_neg (by rw [hx]; simp)] at hl; exact Prod.mk.inj hl
      have HX := Lib.hid hx
      clear hv hu hl hm hk0 hx
      go_enter Tryz.func42, Tryz.ntmps42
      go_wp2_with fail
      refine (coTwo_is ps qs v u true HM0.out _ (HV.out.keep (by go_grown)) (HU.out.keep (by go_grown)) hn hk).mono ?_
      rintro e w1 ⟨rfl, hb⟩
      have hX : Below w.heap.size w w1 := nextX (by go_grown) hb
      have b00 : w1.cell? ⟨w.heap.size, 0, none⟩ = some (.int .i64 x1) := cellB hb (by simp [go_sem])
      have b01 : w1.cell? ⟨w.heap.size, 1, none⟩ = some (.int .i64 x2) := cellB hb (by simp [go_sem])
      have zb00 := lt_of_cell b00
      have hB : Below w.heap.size w w1 := hX
      clear hb hX
      go_wp2_with fail
      refine (raUnit_any x1 x2 _).mono ?_
      rintro e w2 ⟨he, hb⟩
      rw [HX.out] at he
      subst he
      have hX : Below w1.heap.size w1 w2 := nextX (by go_grown) hb
      replace b00 := cellB hX b00
      replace b01 := cellB hX b01
      have zb00 := Nat.lt_of_lt_of_le zb00 hX.size
      replace hB := nextW hB hX
      clear hb hX
      go_wp2_with fail
      go_ret2
      exact ⟨_, rfl, World.ownsRow_nil _ _ _ _, by go_grown⟩
    · have h1 := okMap_len hm
      have h2 := okMap_len hk0
      have HM := Lib.hid (And.intro hm hk0)
      have HX := Lib.hid hx
      have HSX := Lib.hid (Sm.of_ok (unitQ_ok hx))
      unfold joinQ at hl
      rw [if_pos ⟨hm, hk0, hx⟩] at hl
      rcases hy : valQ ps (x1, x2) with ⟨⟨y1, y2⟩, t1⟩
      rcases hz : valQ qs (x1, x2) with ⟨⟨z1, z2⟩, t2⟩
      rw [hy, hz] at hl
      simp only at hl
      have hyu : unitQ y1 y2 = true := by have := valQ_unit (x := (x1, x2)) hm hx; rw [hy] at this; exact this
      have HY := Lib.hid hy
      have HZ := Lib.hid hz
      have HJ := Lib.hid (joined (x := (x1, x2)) (y := (y1, y2)) hm hk0 hx hyu)
      obtain ⟨A, c, rfl, hlv, hm9, hcell⟩ := hv
      obtain ⟨A2, c9, rfl, hlu, hm8, hcell2⟩ := hu
      unfold maxLen at hm9 hm8
      have HC := Lib.hid hcell
      have HC2 := Lib.hid hcell2
      clear hcell hcell2 hm hk0 hx hy hz hyu
      rcases t1 with _ | _
      · obtain ⟨rfl, rfl⟩ : [] = m ∧ false = t := by rw [if_neg (by simp)] at hl; exact Prod.mk.inj hl
        clear hl
        have HAT1 := Lib.hid (show atQ ps (x1, x2) = (0, 0, false) by unfold atQ; rw [HY.out]; rfl)
        rcases t2 with _ | _
        · have HAT2 := Lib.hid (show atQ qs (x1, x2) = (0, 0, false) by unfold atQ; rw [HZ.out]; rfl)
          go_enter Tryz.func42, Tryz.ntmps42
          go_wp2_with fail
          refine (coTwo_is ps qs _ _ true HM0.out _ (HV.out.keep (by go_grown)) (HU.out.keep (by go_grown)) hn hk).mono ?_
          rintro e w1 ⟨rfl, hb⟩
          have hX : Below w.heap.size w w1 := nextX (by go_grown) hb
          have b00 : w1.cell? ⟨w.heap.size, 0, none⟩ = some (.int .i64 x1) := cellB hb (by simp [go_sem])
          have b01 : w1.cell? ⟨w.heap.size, 1, none⟩ = some (.int .i64 x2) := cellB hb (by simp [go_sem])
          have zb00 := lt_of_cell b00
          have hB : Below w.heap.size w w1 := hX
          clear hb hX
          go_wp2_with fail
          refine (raUnit_any x1 x2 _).mono ?_
          rintro e w2 ⟨he, hb⟩
          rw [HX.out] at he
          subst he
          have hX : Below w1.heap.size w1 w2 := nextX (by go_grown) hb
          replace b00 := cellB hX b00
          replace b01 := cellB hX b01
          have zb00 := Nat.lt_of_lt_of_le zb00 hX.size
          replace hB := nextW hB hX
          clear hb hX
          go_wp2_with fail
          refine (imAt_is ps _ x1 x2 0 0 false _ (HV.out.keep (nextX hB (by go_grown))) HM.out.1 HX.out HAT1.out).mono ?_
          rintro e w3 ⟨rfl, hb⟩
          have hX : Below w2.heap.size w2 w3 := nextX (by go_grown) hb
          replace b00 := cellB hX b00
          replace b01 := cellB hX b01
          have zb00 := Nat.lt_of_lt_of_le zb00 hX.size
          replace hB := nextW hB hX
          clear hb hX
          go_wp2_with fail
          refine (imAt_is qs _ x1 x2 0 0 false _ (HU.out.keep (nextX hB (by go_grown))) HM.out.2 HX.out HAT2.out).mono ?_
          rintro e w4 ⟨rfl, hb⟩
          have hX : Below w3.heap.size w3 w4 := nextX (by go_grown) hb
          replace b00 := cellB hX b00
          replace b01 := cellB hX b01
          have y0 : w4.cell? ⟨w3.heap.size, 0, none⟩ = some (.int .i64 0) := cellB hb (by simp [go_sem])
          have y1' : w4.cell? ⟨w3.heap.size, 1, none⟩ = some (.int .i64 0) := cellB hb (by simp [go_sem])
          have zy0 := lt_of_cell y0
          have zb00 := Nat.lt_of_lt_of_le zb00 hX.size
          replace hB := nextW hB hX
          clear hb hX
          go_wp2_with fail
          go_ret2
          exact ⟨_, rfl, World.ownsRow_nil _ _ _ _, by go_grown⟩
        · have HAT2 := Lib.hid (show atQ qs (x1, x2) = (z1, z2, true) by unfold atQ; rw [HZ.out]; rfl)
          go_enter Tryz.func42, Tryz.ntmps42
          go_wp2_with fail
          refine (coTwo_is ps qs _ _ true HM0.out _ (HV.out.keep (by go_grown)) (HU.out.keep (by go_grown)) hn hk).mono ?_
          rintro e w1 ⟨rfl, hb⟩
          have hX : Below w.heap.size w w1 := nextX (by go_grown) hb
          have b00 : w1.cell? ⟨w.heap.size, 0, none⟩ = some (.int .i64 x1) := cellB hb (by simp [go_sem])
          have b01 : w1.cell? ⟨w.heap.size, 1, none⟩ = some (.int .i64 x2) := cellB hb (by simp [go_sem])
          have zb00 := lt_of_cell b00
          have hB : Below w.heap.size w w1 := hX
          clear hb hX
          go_wp2_with fail
          refine (raUnit_any x1 x2 _).mono ?_
          rintro e w2 ⟨he, hb⟩
          rw [HX.out] at he
          subst he
          have hX : Below w1.heap.size w1 w2 := nextX (by go_grown) hb
          replace b00 := cellB hX b00
          replace b01 := cellB hX b01
          have zb00 := Nat.lt_of_lt_of_le zb00 hX.size
          replace hB := nextW hB hX
          clear hb hX
          go_wp2_with fail
          refine (imAt_is ps _ x1 x2 0 0 false _ (HV.out.keep (nextX hB (by go_grown))) HM.out.1 HX.out HAT1.out).mono ?_
          rintro e w3 ⟨rfl, hb⟩
          have hX : Below w2.heap.size w2 w3 := nextX (by go_grown) hb
          replace b00 := cellB hX b00
          replace b01 := cellB hX b01
          have zb00 := Nat.lt_of_lt_of_le zb00 hX.size
          replace hB := nextW hB hX
          clear hb hX
          go_wp2_with fail
          refine (imAt_is qs _ x1 x2 z1 z2 true _ (HU.out.keep (nextX hB (by go_grown))) HM.out.2 HX.out HAT2.out).mono ?_
          rintro e w4 ⟨rfl, hb⟩
          have hX : Below w3.heap.size w3 w4 := nextX (by go_grown) hb
          replace b00 := cellB hX b00
          replace b01 := cellB hX b01
          have y0 : w4.cell? ⟨w3.heap.size, 0, none⟩ = some (.int .i64 0) := cellB hb (by simp [go_sem])
          have y1' : w4.cell? ⟨w3.heap.size, 1, none⟩ = some (.int .i64 0) := cellB hb (by simp [go_sem])
          have zy0 := lt_of_cell y0
          have zb00 := Nat.lt_of_lt_of_le zb00 hX.size
          replace hB := nextW hB hX
          clear hb hX
          go_wp2_with fail
          go_ret2
          exact ⟨_, rfl, World.ownsRow_nil _ _ _ _, by go_grown⟩
      · have HAT1 := Lib.hid (show atQ ps (x1, x2) = (y1, y2, true) by unfold atQ; rw [HY.out]; rfl)
        rcases t2 with _ | _
        · obtain ⟨rfl, rfl⟩ : [] = m ∧ false = t := by rw [if_neg (by simp)] at hl; exact Prod.mk.inj hl
          clear hl
          have HAT2 := Lib.hid (show atQ qs (x1, x2) = (0, 0, false) by unfold atQ; rw [HZ.out]; rfl)
          go_enter Tryz.func42, Tryz.ntmps42
          go_wp2_with fail
          refine (coTwo_is ps qs _ _ true HM0.out _ (HV.out.keep (by go_grown)) (HU.out.keep (by go_grown)) hn hk).mono ?_
          rintro e w1 ⟨rfl, hb⟩
          have hX : Below w.heap.size w w1 := nextX (by go_grown) hb
          have b00 : w1.cell? ⟨w.heap.size, 0, none⟩ = some (.int .i64 x1) := cellB hb (by simp [go_sem])
          have b01 : w1.cell? ⟨w.heap.size, 1, none⟩ = some (.int .i64 x2) := cellB hb (by simp [go_sem])
          have zb00 := lt_of_cell b00
          have hB : Below w.heap.size w w1 := hX
          clear hb hX
          go_wp2_with fail
          refine (raUnit_any x1 x2 _).mono ?_
          rintro e w2 ⟨he, hb⟩
          rw [HX.out] at he
          subst he
          have hX : Below w1.heap.size w1 w2 := nextX (by go_grown) hb
          replace b00 := cellB hX b00
          replace b01 := cellB hX b01
          have zb00 := Nat.lt_of_lt_of_le zb00 hX.size
          replace hB := nextW hB hX
          clear hb hX
          go_wp2_with fail
          refine (imAt_is ps _ x1 x2 y1 y2 true _ (HV.out.keep (nextX hB (by go_grown))) HM.out.1 HX.out HAT1.out).mono ?_
          rintro e w3 ⟨rfl, hb⟩
          have hX : Below w2.heap.size w2 w3 := nextX (by go_grown) hb
          replace b00 := cellB hX b00
          replace b01 := cellB hX b01
          have zb00 := Nat.lt_of_lt_of_le zb00 hX.size
          replace hB := nextW hB hX
          clear hb hX
          go_wp2_with fail
          refine (imAt_is qs _ x1 x2 0 0 false _ (HU.out.keep (nextX hB (by go_grown))) HM.out.2 HX.out HAT2.out).mono ?_
          rintro e w4 ⟨rfl, hb⟩
          have hX : Below w3.heap.size w3 w4 := nextX (by go_grown) hb
          replace b00 := cellB hX b00
          replace b01 := cellB hX b01
          have y0 : w4.cell? ⟨w3.heap.size, 0, none⟩ = some (.int .i64 y1) := cellB hb (by simp [go_sem])
          have y1' : w4.cell? ⟨w3.heap.size, 1, none⟩ = some (.int .i64 y2) := cellB hb (by simp [go_sem])
          have zy0 := lt_of_cell y0
          have zb00 := Nat.lt_of_lt_of_le zb00 hX.size
          replace hB := nextW hB hX
          clear hb hX
          go_wp2_with fail
          go_ret2
          exact ⟨_, rfl, World.ownsRow_nil _ _ _ _, by go_grown⟩
        · have HAT2 := Lib.hid (show atQ qs (x1, x2) = (z1, z2, true) by unfold atQ; rw [HZ.out]; rfl)
          by_cases he : ((y1, y2) : Q) = (z1, z2)
          · obtain ⟨rfl, rfl⟩ := Prod.mk.inj he
            have HQ := Lib.hid (show madeQ (joinL ps qs (x1, x2) (y1, y2)) = (m, t) by simpa using hl)
            clear he hl
            go_enter Tryz.func42, Tryz.ntmps42
            go_wp2_with fail
            refine (coTwo_is ps qs _ _ true HM0.out _ (HV.out.keep (by go_grown)) (HU.out.keep (by go_grown)) hn hk).mono ?_
            rintro e w1 ⟨rfl, hb⟩
            have hX : Below w.heap.size w w1 := nextX (by go_grown) hb
            have b00 : w1.cell? ⟨w.heap.size, 0, none⟩ = some (.int .i64 x1) := cellB hb (by simp [go_sem])
            have b01 : w1.cell? ⟨w.heap.size, 1, none⟩ = some (.int .i64 x2) := cellB hb (by simp [go_sem])
            have zb00 := lt_of_cell b00
            have hB : Below w.heap.size w w1 := hX
            clear hb hX
            go_wp2_with fail
            refine (raUnit_any x1 x2 _).mono ?_
            rintro e w2 ⟨he, hb⟩
            rw [HX.out] at he
            subst he
            have hX : Below w1.heap.size w1 w2 := nextX (by go_grown) hb
            replace b00 := cellB hX b00
            replace b01 := cellB hX b01
            have zb00 := Nat.lt_of_lt_of_le zb00 hX.size
            replace hB := nextW hB hX
            clear hb hX
            go_wp2_with fail
            refine (imAt_is ps _ x1 x2 y1 y2 true _ (HV.out.keep (nextX hB (by go_grown))) HM.out.1 HX.out HAT1.out).mono ?_
            rintro e w3 ⟨rfl, hb⟩
            have hX : Below w2.heap.size w2 w3 := nextX (by go_grown) hb
            replace b00 := cellB hX b00
            replace b01 := cellB hX b01
            have zb00 := Nat.lt_of_lt_of_le zb00 hX.size
            replace hB := nextW hB hX
            clear hb hX
            go_wp2_with fail
            refine (imAt_is qs _ x1 x2 y1 y2 true _ (HU.out.keep (nextX hB (by go_grown))) HM.out.2 HX.out HAT2.out).mono ?_
            rintro e w4 ⟨rfl, hb⟩
            have hX : Below w3.heap.size w3 w4 := nextX (by go_grown) hb
            replace b00 := cellB hX b00
            replace b01 := cellB hX b01
            have y0 : w4.cell? ⟨w3.heap.size, 0, none⟩ = some (.int .i64 y1) := cellB hb (by simp [go_sem])
            have y1' : w4.cell? ⟨w3.heap.size, 1, none⟩ = some (.int .i64 y2) := cellB hb (by simp [go_sem])
            have zy0 := lt_of_cell y0
            have zb00 := Nat.lt_of_lt_of_le zb00 hX.size
            replace hB := nextW hB hX
            clear hb hX
            have b0 := b00
            have b1 := b01
            clear b00 b01
            go_wp2_with fail
            go_name_world W1 hW1
            have hW5 : Below w4.heap.size w4 W1 := by rw [← hW1]; go_grown
            replace b0 := cellB hW5 b0
            replace b1 := cellB hW5 b1
            replace y0 := cellB hW5 y0
            replace y1' := cellB hW5 y1'
            replace hB := nextW hB hW5
            clear hW1 hW5
            go_loopw [12, 51] (fun out i wr => RelRow (fun k => leftL (ps.take k) (x1, x2)) ps.length W1 out i wr) (fun _ i _ => ps.length - (intOf i).toNat)
            case atStart => exact ⟨0, Nat.zero_le _, rfl, (World.ownsRow_nil _ _ _ _ : OwP _ _ _ _ []), Below.refl _ _⟩
            case round =>
              obtain ⟨k, hk, rfl, hown, hb⟩ := hrel
              have HO := Lib.hid hown
              have hzr := hb.size
              have hBr := nextW hB hb
              clear hown
              have e0 := cellB hb b0
              have e1 := cellB hb b1
              have ze := lt_of_cell e0
              by_cases hlt : k < ps.length
              · obtain ⟨g, o, rfl, hg, hc⟩ := HC.out (by intro h; rw [h] at hlt; simp at hlt)
                have hp := List.getElem?_eq_getElem hlt
                obtain ⟨c0, c1, c2, c3⟩ := hc k _ hp
                generalize ps[k] = p at *
                obtain ⟨⟨p1, p2⟩, p3, p4⟩ := p
                rw [← hBr.cell (p := ⟨g, _, none⟩) hg] at c0 c1 c2 c3
                simp only at c0 c1 c2 c3
                have HS := Lib.hid (coord_smQ (okMap_coord HM.out.1 hp).1)
                have hmore := leftL_more (x := (x1, x2)) hp
                clear hc hp HC
                simp only at hmore
                obtain ⟨yv, hyv⟩ : ∃ y, cmpQ p1 p2 x1 x2 = y := ⟨_, rfl⟩
                have hd := lessQ_of_cmp hyv
                have HYV := Lib.hid hyv
                clear hyv
                rcases hle : lessQ p1 p2 x1 x2 with _ | _
                · rw [hle] at hmore
                  simp only [Bool.false_eq_true, if_false, List.append_nil] at hmore
                  have HE := Lib.hid (show leftL (ps.take (k + 1)) (x1, x2) = leftL (ps.take k) (x1, x2) by rw [hmore])
                  rw [hle] at hd
                  have f0 : decide (yv < (0 : Int)) = false := hd.symm
                  have f1 : (0 : Int) ≤ yv := by simpa using f0
                  clear hd
                  have HL := Lib.hid hle
                  clear hle hmore
                  go_wp2_with fail
                  refine (raCmp_is p1 p2 x1 x2 yv HS.out HSX.out HYV.out _).mono ?_
                  rintro e w6 ⟨rfl, hb6⟩
                  have hX6 : Below wr.heap.size wr w6 := nextX (by go_grown) hb6
                  have hb2 := nextW hb hX6
                  have hz6 := hb2.size
                  have HO2 := Lib.hid (HO.out.keep hX6)
                  clear hb6 hX6 c0 c1 c2 c3
                  go_wp2_with fail
                  go_roundw
                  case rel => exact ⟨k + 1, by omega, by go_num, by simp only; rw [HE.out]; exact HO2.out, hb2⟩
                  case measure => simp [intOf]; omega
                · rw [hle] at hmore
                  simp only [if_true] at hmore
                  have HE := Lib.hid (show leftL (ps.take (k + 1)) (x1, x2) = (leftL (ps.take k) (x1, x2)) ++ [((p1, p2), p3, p4)] by rw [hmore])
                  rw [hle] at hd
                  have f0 : decide (yv < (0 : Int)) = true := hd.symm
                  have f1 : yv < (0 : Int) := by simpa using f0
                  clear hd
                  have HL := Lib.hid hle
                  clear hle hmore
                  go_wp2_with fail
                  refine (raCmp_is p1 p2 x1 x2 yv HS.out HSX.out HYV.out _).mono ?_
                  rintro e w6 ⟨rfl, hb6⟩
                  have hX6 : Below wr.heap.size wr w6 := nextX (by go_grown) hb6
                  have hb2 := nextW hb hX6
                  have hz6 := hb2.size
                  have HO2 := Lib.hid (HO.out.keep hX6)
                  have d0 : w6.cell? ⟨wr.heap.size, 0, none⟩ = some (.int .i64 p1) := cellB hb6 (by simp [go_sem])
                  have d1 : w6.cell? ⟨wr.heap.size, 1, none⟩ = some (.int .i64 p2) := cellB hb6 (by simp [go_sem])
                  have d2 : w6.cell? ⟨wr.heap.size, 2, none⟩ = some (.int .i64 p3) := cellB hb6 (by simp [go_sem])
                  have d3 : w6.cell? ⟨wr.heap.size, 3, none⟩ = some (.int .i64 p4) := cellB hb6 (by simp [go_sem])
                  clear hb6 hX6 c0 c1 c2 c3
                  go_wp2_with (at_builtin; refine append_p1 _ rfl _ _ rfl W1.heap.size _ (leftL (ps.take k) (x1, x2)) rfl ?own4 _ _ p1 p2 p3 p4 rfl ?c04 ?c14 ?c24 ?c34 ?len4 ?base4 ?_)
                  case own4 => exact (HO2.out.keep (by go_grown))
                  case c04 => simp [go_sem]
                  case c14 => simp [go_sem]
                  case c24 => simp [go_sem]
                  case c34 => simp [go_sem]
                  case len4 => have h1 := leftL_len (ps.take k) (x1, x2); have h2 := List.length_take_le k ps; omega
                  case base4 => go_size
                  intro v' w' hown h7
                  have hb3 : Below W1.heap.size W1 w' := Below.trans (by go_grown) h7
                  have HO3 := Lib.hid (show OwP W1.heap.size 51 w' v' (leftL (ps.take (k + 1)) (x1, x2)) by rw [HE.out]; exact hown)
                  clear hown h7 d0 d1 d2 d3
                  go_wp2_with fail
                  go_roundw
                  case rel => exact ⟨k + 1, by omega, by go_num, HO3.out, hb3⟩
                  case measure => simp [intOf]; omega
              · obtain rfl : k = ps.length := by omega
                have HT := Lib.hid (show OwP _ 51 _ _ (leftL ps (x1, x2)) by have := HO.out; simp only [List.take_length] at this; exact this)
                have g0 := cellB hb y0
                have g1 := cellB hb y1'
                go_wp2_with (at_builtin; refine append_p1 _ rfl _ _ rfl W1.heap.size _ (leftL ps (x1, x2)) rfl ?own5 _ _ x1 x2 y1 y2 rfl ?c05 ?c15 ?c25 ?c35 ?len5 ?base5 ?_)
                case own5 => exact (HT.out.keep (by go_grown))
                case len5 => have h1 := leftL_len ps (x1, x2); omega
                case base5 => go_size
                intro v' w' hown h7
                have hB8 : Below W1.heap.size W1 w' := Below.trans (by go_grown) h7
                have HO8 := Lib.hid (show OwP W1.heap.size 51 w' v' (leftL ps (x1, x2) ++ [((x1, x2), (y1, y2))] ++ rightL (qs.take 0) (x1, x2)) by simpa [rightL] using hown)
                clear hown h7 hzr hBr HO HT e0 e1 ze g0 g1 hlt hk hb
                go_wp2_with fail
                go_loopw [12, 73] (fun out i wr => RelRow (fun k => leftL ps (x1, x2) ++ [((x1, x2), (y1, y2))] ++ rightL (qs.take k) (x1, x2)) qs.length W1 out i wr) (fun _ i _ => qs.length - (intOf i).toNat)
                case atStart => exact ⟨0, Nat.zero_le _, rfl, HO8.out, hB8⟩
                case round =>
                  obtain ⟨k, hk, rfl, hown, hb⟩ := hrel
                  have HO := Lib.hid hown
                  have hzr := hb.size
                  have hBr := nextW hB hb
                  clear hown
                  have e0 := cellB hb b0
                  have e1 := cellB hb b1
                  have ze := lt_of_cell e0
                  by_cases hlt : k < qs.length
                  · obtain ⟨g, o, rfl, hg, hc⟩ := HC2.out (by intro h; rw [h] at hlt; simp at hlt)
                    have hp := List.getElem?_eq_getElem hlt
                    obtain ⟨c0, c1, c2, c3⟩ := hc k _ hp
                    generalize qs[k] = p at *
                    obtain ⟨⟨p1, p2⟩, p3, p4⟩ := p
                    rw [← hBr.cell (p := ⟨g, _, none⟩) hg] at c0 c1 c2 c3
                    simp only at c0 c1 c2 c3
                    have HS := Lib.hid (coord_smQ (okMap_coord HM.out.2 hp).1)
                    have hmore := rightL_more (x := (x1, x2)) hp
                    clear hc hp HC2
                    simp only at hmore
                    obtain ⟨yv, hyv⟩ : ∃ y, cmpQ x1 x2 p1 p2 = y := ⟨_, rfl⟩
                    have hd := lessQ_of_cmp hyv
                    have HYV := Lib.hid hyv
                    clear hyv
                    rcases hle : lessQ x1 x2 p1 p2 with _ | _
                    · rw [hle] at hmore
                      simp only [Bool.false_eq_true, if_false, List.append_nil] at hmore
                      have HE := Lib.hid (show leftL ps (x1, x2) ++ [((x1, x2), (y1, y2))] ++ rightL (qs.take (k + 1)) (x1, x2) = leftL ps (x1, x2) ++ [((x1, x2), (y1, y2))] ++ rightL (qs.take k) (x1, x2) by rw [hmore])
                      rw [hle] at hd
                      have f0 : decide (yv < (0 : Int)) = false := hd.symm
                      have f1 : (0 : Int) ≤ yv := by simpa using f0
                      clear hd
                      have HL := Lib.hid hle
                      clear hle hmore
                      go_wp2_with fail
                      refine (raCmp_is x1 x2 p1 p2 yv HSX.out HS.out HYV.out _).mono ?_
                      rintro e w6 ⟨rfl, hb6⟩
                      have hX6 : Below wr.heap.size wr w6 := nextX (by go_grown) hb6
                      have hb2 := nextW hb hX6
                      have hz6 := hb2.size
                      have HO2 := Lib.hid (HO.out.keep hX6)
                      clear hb6 hX6 c0 c1 c2 c3
                      go_wp2_with fail
                      go_roundw
                      case rel => exact ⟨k + 1, by omega, by go_num, by simp only; rw [HE.out]; exact HO2.out, hb2⟩
                      case measure => simp [intOf]; omega
                    · rw [hle] at hmore
                      simp only [if_true] at hmore
                      have HE := Lib.hid (show leftL ps (x1, x2) ++ [((x1, x2), (y1, y2))] ++ rightL (qs.take (k + 1)) (x1, x2) = (leftL ps (x1, x2) ++ [((x1, x2), (y1, y2))] ++ rightL (qs.take k) (x1, x2)) ++ [((p1, p2), p3, p4)] by rw [hmore]; simp only [List.append_assoc])
                      rw [hle] at hd
                      have f0 : decide (yv < (0 : Int)) = true := hd.symm
                      have f1 : yv < (0 : Int) := by simpa using f0
                      clear hd
                      have HL := Lib.hid hle
                      clear hle hmore
                      go_wp2_with fail
                      refine (raCmp_is x1 x2 p1 p2 yv HSX.out HS.out HYV.out _).mono ?_
                      rintro e w6 ⟨rfl, hb6⟩
                      have hX6 : Below wr.heap.size wr w6 := nextX (by go_grown) hb6
                      have hb2 := nextW hb hX6
                      have hz6 := hb2.size
                      have HO2 := Lib.hid (HO.out.keep hX6)
                      have d0 : w6.cell? ⟨wr.heap.size, 0, none⟩ = some (.int .i64 p1) := cellB hb6 (by simp [go_sem])
                      have d1 : w6.cell? ⟨wr.heap.size, 1, none⟩ = some (.int .i64 p2) := cellB hb6 (by simp [go_sem])
                      have d2 : w6.cell? ⟨wr.heap.size, 2, none⟩ = some (.int .i64 p3) := cellB hb6 (by simp [go_sem])
                      have d3 : w6.cell? ⟨wr.heap.size, 3, none⟩ = some (.int .i64 p4) := cellB hb6 (by simp [go_sem])
                      clear hb6 hX6 c0 c1 c2 c3
                      go_wp2_with (at_builtin; refine append_p1 _ rfl _ _ rfl W1.heap.size _ (leftL ps (x1, x2) ++ [((x1, x2), (y1, y2))] ++ rightL (qs.take k) (x1, x2)) rfl ?own6 _ _ p1 p2 p3 p4 rfl ?c06 ?c16 ?c26 ?c36 ?len6 ?base6 ?_)
                      case own6 => exact (HO2.out.keep (by go_grown))
                      case c06 => simp [go_sem]
                      case c16 => simp [go_sem]
                      case c26 => simp [go_sem]
                      case c36 => simp [go_sem]
                      case len6 => have h1 := leftL_len ps (x1, x2); have h2 := rightL_len (qs.take k) (x1, x2); have h3 := List.length_take_le k qs; simp only [List.length_append, List.length_singleton]; omega
                      case base6 => go_size
                      intro v' w' hown h7
                      have hb3 : Below W1.heap.size W1 w' := Below.trans (by go_grown) h7
                      have HO3 := Lib.hid (show OwP W1.heap.size 51 w' v' (leftL ps (x1, x2) ++ [((x1, x2), (y1, y2))] ++ rightL (qs.take (k + 1)) (x1, x2)) by rw [HE.out]; simpa using hown)
                      clear hown h7 d0 d1 d2 d3
                      go_wp2_with fail
                      go_roundw
                      case rel => exact ⟨k + 1, by omega, by go_num, HO3.out, hb3⟩
                      case measure => simp [intOf]; omega
                  · obtain rfl : k = qs.length := by omega
                    have HT := Lib.hid (show OwP _ 51 _ _ (joinL ps qs (x1, x2) (y1, y2)) by have := HO.out; simp only [List.take_length] at this; exact this)
                    have hzB := hBr.size
                    go_wp2_with fail
                    refine (coIf_is (joinL ps qs (x1, x2) (y1, y2)) _ m t HQ.out HJ.out _ (HT.out.read.keep (by go_grown))).mono ?_
                    rintro e w9 ⟨r, rfl, ow, hb9⟩
                    have hB9 : Below w.heap.size w w9 := nextB (by go_grown) (by go_size) hb9
                    have HR9 := Lib.hid (ow.low (b := w.heap.size) (by go_size))
                    clear ow hb9
                    go_wp2_with fail
                    go_ret2
                    exact ⟨_, rfl, HR9.out, hB9⟩
          · obtain ⟨rfl, rfl⟩ : [] = m ∧ false = t := by rw [if_neg (fun h => he h.2.2)] at hl; exact Prod.mk.inj hl
            have hor := q_or he
            clear he hl
            rcases hor with hq1 | ⟨hq1, hq2⟩
            · go_enter Tryz.func42, Tryz.ntmps42
              go_wp2_with fail
              refine (coTwo_is ps qs _ _ true HM0.out _ (HV.out.keep (by go_grown)) (HU.out.keep (by go_grown)) hn hk).mono ?_
              rintro e w1 ⟨rfl, hb⟩
              have hX : Below w.heap.size w w1 := nextX (by go_grown) hb
              have b00 : w1.cell? ⟨w.heap.size, 0, none⟩ = some (.int .i64 x1) := cellB hb (by simp [go_sem])
              have b01 : w1.cell? ⟨w.heap.size, 1, none⟩ = some (.int .i64 x2) := cellB hb (by simp [go_sem])
              have zb00 := lt_of_cell b00
              have hB : Below w.heap.size w w1 := hX
              clear hb hX
              go_wp2_with fail
              refine (raUnit_any x1 x2 _).mono ?_
              rintro e w2 ⟨he, hb⟩
              rw [HX.out] at he
              subst he
              have hX : Below w1.heap.size w1 w2 := nextX (by go_grown) hb
              replace b00 := cellB hX b00
              replace b01 := cellB hX b01
              have zb00 := Nat.lt_of_lt_of_le zb00 hX.size
              replace hB := nextW hB hX
              clear hb hX
              go_wp2_with fail
              refine (imAt_is ps _ x1 x2 y1 y2 true _ (HV.out.keep (nextX hB (by go_grown))) HM.out.1 HX.out HAT1.out).mono ?_
              rintro e w3 ⟨rfl, hb⟩
              have hX : Below w2.heap.size w2 w3 := nextX (by go_grown) hb
              replace b00 := cellB hX b00
              replace b01 := cellB hX b01
              have zb00 := Nat.lt_of_lt_of_le zb00 hX.size
              replace hB := nextW hB hX
              clear hb hX
              go_wp2_with fail
              refine (imAt_is qs _ x1 x2 z1 z2 true _ (HU.out.keep (nextX hB (by go_grown))) HM.out.2 HX.out HAT2.out).mono ?_
              rintro e w4 ⟨rfl, hb⟩
              have hX : Below w3.heap.size w3 w4 := nextX (by go_grown) hb
              replace b00 := cellB hX b00
              replace b01 := cellB hX b01
              have y0 : w4.cell? ⟨w3.heap.size, 0, none⟩ = some (.int .i64 y1) := cellB hb (by simp [go_sem])
              have y1' : w4.cell? ⟨w3.heap.size, 1, none⟩ = some (.int .i64 y2) := cellB hb (by simp [go_sem])
              have zy0 := lt_of_cell y0
              have zb00 := Nat.lt_of_lt_of_le zb00 hX.size
              replace hB := nextW hB hX
              clear hb hX
              go_wp2_with fail
              go_ret2
              exact ⟨_, rfl, World.ownsRow_nil _ _ _ _, by go_grown⟩
            · go_enter Tryz.func42, Tryz.ntmps42
              go_wp2_with fail
              refine (coTwo_is ps qs _ _ true HM0.out _ (HV.out.keep (by go_grown)) (HU.out.keep (by go_grown)) hn hk).mono ?_
              rintro e w1 ⟨rfl, hb⟩
              have hX : Below w.heap.size w w1 := nextX (by go_grown) hb
              have b00 : w1.cell? ⟨w.heap.size, 0, none⟩ = some (.int .i64 x1) := cellB hb (by simp [go_sem])
              have b01 : w1.cell? ⟨w.heap.size, 1, none⟩ = some (.int .i64 x2) := cellB hb (by simp [go_sem])
              have zb00 := lt_of_cell b00
              have hB : Below w.heap.size w w1 := hX
              clear hb hX
              go_wp2_with fail
              refine (raUnit_any x1 x2 _).mono ?_
              rintro e w2 ⟨he, hb⟩
              rw [HX.out] at he
              subst he
              have hX : Below w1.heap.size w1 w2 := nextX (by go_grown) hb
              replace b00 := cellB hX b00
              replace b01 := cellB hX b01
              have zb00 := Nat.lt_of_lt_of_le zb00 hX.size
              replace hB := nextW hB hX
              clear hb hX
              go_wp2_with fail
              refine (imAt_is ps _ x1 x2 y1 y2 true _ (HV.out.keep (nextX hB (by go_grown))) HM.out.1 HX.out HAT1.out).mono ?_
              rintro e w3 ⟨rfl, hb⟩
              have hX : Below w2.heap.size w2 w3 := nextX (by go_grown) hb
              replace b00 := cellB hX b00
              replace b01 := cellB hX b01
              have zb00 := Nat.lt_of_lt_of_le zb00 hX.size
              replace hB := nextW hB hX
              clear hb hX
              go_wp2_with fail
              refine (imAt_is qs _ x1 x2 z1 z2 true _ (HU.out.keep (nextX hB (by go_grown))) HM.out.2 HX.out HAT2.out).mono ?_
              rintro e w4 ⟨rfl, hb⟩
              have hX : Below w3.heap.size w3 w4 := nextX (by go_grown) hb
              replace b00 := cellB hX b00
              replace b01 := cellB hX b01
              have y0 : w4.cell? ⟨w3.heap.size, 0, none⟩ = some (.int .i64 y1) := cellB hb (by simp [go_sem])
              have y1' : w4.cell? ⟨w3.heap.size, 1, none⟩ = some (.int .i64 y2) := cellB hb (by simp [go_sem])
              have zy0 := lt_of_cell y0
              have zb00 := Nat.lt_of_lt_of_le zb00 hX.size
              replace hB := nextW hB hX
              clear hb hX
              go_wp2_with fail
              go_ret2
              exact ⟨_, rfl, World.ownsRow_nil _ _ _ _, by go_grown⟩

end Go.Proofs.YtkeajfgcjmhmiaaGreat
