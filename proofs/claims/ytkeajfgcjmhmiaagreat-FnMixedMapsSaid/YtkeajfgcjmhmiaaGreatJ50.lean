/- JoinMaps of the program. -/
import Derived.Test.YtkeajfgcjmhmiaaGreatJ10
import Derived.Test.YtkeajfgcjmhmiaaGreatJ29
namespace Go.Proofs.YtkeajfgcjmhmiaaGreat
open Go.RowKit

theorem lessQ_of_cmp {n1 d1 n2 d2 y : Int} (h : cmpQ n1 d1 n2 d2 = y) : lessQ n1 d1 n2 d2 = decide (y < 0) := by rw [lessQ_cmp, h]
/-- A loop over points that keeps some of them in a row of the call's own. -/
def RelRow (F : Nat → List Pt) (n : Nat) (W0 : World) (out i : Value) (wr : World) : Prop :=
  ∃ k : Nat, k ≤ n ∧ i = .int .i64 k ∧ OwP W0.heap.size 51 wr out (F k) ∧ Below W0.heap.size W0 wr

set_option maxRecDepth 100000 in
set_option maxHeartbeats 8000000 in
theorem iJoinMaps_is (ps qs : List Pt) (v u : Value) (x1 x2 : Int) (m : List Pt) (t : Bool) (hl : joinQ ps qs (x1, x2) = (m, t)) (w : World) (hv : RdP w v ps) (hu : RdP w u qs) (hn : ps.length ≤ 1048576) (hk : qs.length ≤ 1048576) :
    Calls Tryz.prog 41 #[v, u, .agg #[.int .i64 x1, .int .i64 x2]] w (RetPB w m t) := by
  have HV := Lib.hid hv
  have HU := Lib.hid hu
  rcases hm : okMap ps with _ | _
  · obtain ⟨rfl, rfl⟩ : [] = m ∧ false = t := by unfold joinQ at hl; rw [if_neg (by rw [hm]; simp)] at hl; exact Prod.mk.inj hl
    have HM := Lib.hid hm
    clear hv hu hl hm
    go_enter Tryz.func41, Tryz.ntmps41
    go_wp2_with fail
    refine (isMap_is ps v false _ (HV.out.keep (by go_grown)) hn HM.out).mono ?_
    rintro e w1 ⟨rfl, hb⟩
    have hX : Below w.heap.size w w1 := nextX (by go_grown) hb
    have b00 : w1.cell? ⟨w.heap.size, 0, none⟩ = some (.int .i64 x1) := cellB hb (by simp [go_sem])
    have b01 : w1.cell? ⟨w.heap.size, 1, none⟩ = some (.int .i64 x2) := cellB hb (by simp [go_sem])
    have zb00 := lt_of_cell b00
    have hB : Below w.heap.size w w1 := hX
    clear hb hX
    go_wp2_with fail
    go_ret2
    exact ⟨_, rfl, World.ownsRow_nil _ _ _ _, hB⟩
  · rcases hk0 : okMap qs with _ | _
    · obtain ⟨rfl, rfl⟩ : [] = m ∧ false = t := by unfold joinQ at hl; rw [if_neg (by rw [hk0]; simp)] at hl; exact Prod.mk.inj hl
      have HM := Lib.hid hm
      have HK := Lib.hid hk0
      clear hv hu hl hm hk0
      go_enter Tryz.func41, Tryz.ntmps41
      go_wp2_with fail
      refine (isMap_is ps v true _ (HV.out.keep (by go_grown)) hn HM.out).mono ?_
      rintro e w1 ⟨rfl, hb⟩
      have hX : Below w.heap.size w w1 := nextX (by go_grown) hb
      have b00 : w1.cell? ⟨w.heap.size, 0, none⟩ = some (.int .i64 x1) := cellB hb (by simp [go_sem])
      have b01 : w1.cell? ⟨w.heap.size, 1, none⟩ = some (.int .i64 x2) := cellB hb (by simp [go_sem])
      have zb00 := lt_of_cell b00
      have hB : Below w.heap.size w w1 := hX
      clear hb hX
      go_wp2_with fail
      refine (isMap_is qs u false _ (HU.out.keep (nextX hB (by go_grown))) hk HK.out).mono ?_
      rintro e w2 ⟨rfl, hb⟩
      have hX : Below w1.heap.size w1 w2 := nextX (by go_grown) hb
      replace b00 := cellB hX b00
      replace b01 := cellB hX b01
      have zb00 := Nat.lt_of_lt_of_le zb00 hX.size
      replace hB := nextW hB hX
      clear hb hX
      go_wp2_with fail
      go_ret2
      exact ⟨_, rfl, World.ownsRow_nil _ _ _ _, hB⟩
    · rcases hx : unitQ x1 x2 with _ | _
      · obtain ⟨rfl, rfl⟩ : [] = m ∧ false = t := by unfold joinQ at hl; rw [if_neg (by rw [hx]; simp)] at hl; exact Prod.mk.inj hl
        have HM := Lib.hid (And.intro hm hk0)
        have HX := Lib.hid hx
        clear hv hu hl hm hk0 hx
        go_enter Tryz.func41, Tryz.ntmps41
        go_wp2_with fail
        refine (isMap_is ps v true _ (HV.out.keep (by go_grown)) hn HM.out.1).mono ?_
        rintro e w1 ⟨rfl, hb⟩
        have hX : Below w.heap.size w w1 := nextX (by go_grown) hb
        have b00 : w1.cell? ⟨w.heap.size, 0, none⟩ = some (.int .i64 x1) := cellB hb (by simp [go_sem])
        have b01 : w1.cell? ⟨w.heap.size, 1, none⟩ = some (.int .i64 x2) := cellB hb (by simp [go_sem])
        have zb00 := lt_of_cell b00
        have hB : Below w.heap.size w w1 := hX
        clear hb hX
        go_wp2_with fail
        refine (isMap_is qs u true _ (HU.out.keep (nextX hB (by go_grown))) hk HM.out.2).mono ?_
        rintro e w2 ⟨rfl, hb⟩
        have hX : Below w1.heap.size w1 w2 := nextX (by go_grown) hb
        replace b00 := cellB hX b00
        replace b01 := cellB hX b01
        have zb00 := Nat.lt_of_lt_of_le zb00 hX.size
        replace hB := nextW hB hX
        clear hb hX
        go_wp2_with fail
        refine (isUnit_any x1 x2 _).mono ?_
        rintro e w3 ⟨he, hb⟩
        rw [HX.out] at he
        subst he
        have hX : Below w2.heap.size w2 w3 := nextX (by go_grown) hb
        replace b00 := cellB hX b00
        replace b01 := cellB hX b01
        have zb00 := Nat.lt_of_lt_of_le zb00 hX.size
        replace hB := nextW hB hX
        clear hb hX
        go_wp2_with fail
        go_ret2
        exact ⟨_, rfl, World.ownsRow_nil _ _ _ _, hB⟩
      · have h1 := okMap_len hm
        have h2 := okMap_len hk0
        have HM := Lib.hid (And.intro hm hk0)
        have HX := Lib.hid hx
        have HSX := Lib.hid (Sm.of_ok (unitQ_ok hx))
        unfold joinQ at hl
        rw [if_pos ⟨hm, hk0, hx⟩] at hl
        rcases hy : valQ ps (x1, x2) with ⟨⟨y1, y2⟩, t1⟩
        rcases hz : valQ qs (x1, x2) with ⟨⟨z1, z2⟩, t2⟩
        rw [hy, hz] at hl
        simp only at hl
        have hyu : unitQ y1 y2 = true := by have := valQ_unit (x := (x1, x2)) hm hx; rw [hy] at this; exact this
        have HY := Lib.hid hy
        have HZ := Lib.hid hz
        have HJ := Lib.hid (joined (x := (x1, x2)) (y := (y1, y2)) hm hk0 hx hyu)
        obtain ⟨A, c, rfl, hlv, hm9, hcell⟩ := hv
        obtain ⟨A2, c9, rfl, hlu, hm8, hcell2⟩ := hu
        unfold maxLen at hm9 hm8
        have HC := Lib.hid hcell
        have HC2 := Lib.hid hcell2
        clear hcell hcell2 hm hk0 hx hy hz hyu
        obtain ⟨c1, hc1⟩ : ∃ c, (false || !t1) = c := ⟨_, rfl⟩
        obtain ⟨c2, hc2⟩ : ∃ c, (c1 || !t2) = c := ⟨_, rfl⟩
        have HC1 := Lib.hid hc1
        have HCC := Lib.hid hc2
        by_cases he : ((z1, z2) : Q) = (y1, y2)
        · obtain ⟨rfl, rfl⟩ := Prod.mk.inj he.symm
          have HQ := Lib.hid (show (if c2 = true then ([], false) else madeQ (joinL ps qs (x1, x2) (y1, y2))) = (m, t) by rw [← hc2, ← hc1]; cases t1 <;> cases t2 <;> simpa using hl)
          clear he hl hc1 hc2
          go_enter Tryz.func41, Tryz.ntmps41
          go_wp2_with fail
          refine (isMap_is ps _ true _ (HV.out.keep (by go_grown)) hn HM.out.1).mono ?_
          rintro e w1 ⟨rfl, hb⟩
          have hX : Below w.heap.size w w1 := nextX (by go_grown) hb
          have b00 : w1.cell? ⟨w.heap.size, 0, none⟩ = some (.int .i64 x1) := cellB hb (by simp [go_sem])
          have b01 : w1.cell? ⟨w.heap.size, 1, none⟩ = some (.int .i64 x2) := cellB hb (by simp [go_sem])
          have zb00 := lt_of_cell b00
          have hB : Below w.heap.size w w1 := hX
          clear hb hX
          go_wp2_with fail
          refine (isMap_is qs _ true _ (HU.out.keep (nextX hB (by go_grown))) hk HM.out.2).mono ?_
          rintro e w2 ⟨rfl, hb⟩
          have hX : Below w1.heap.size w1 w2 := nextX (by go_grown) hb
          replace b00 := cellB hX b00
          replace b01 := cellB hX b01
          have zb00 := Nat.lt_of_lt_of_le zb00 hX.size
          replace hB := nextW hB hX
          clear hb hX
          go_wp2_with fail
          refine (isUnit_any x1 x2 _).mono ?_
          rintro e w3 ⟨he, hb⟩
          rw [HX.out] at he
          subst he
          have hX : Below w2.heap.size w2 w3 := nextX (by go_grown) hb
          replace b00 := cellB hX b00
          replace b01 := cellB hX b01
          have zb00 := Nat.lt_of_lt_of_le zb00 hX.size
          replace hB := nextW hB hX
          clear hb hX
          go_wp2_with fail
          have hz3 := hB.size
          refine (value_is ps _ x1 x2 y1 y2 t1 false c1 w3.heap.size _ ⟨by simp [go_sem], by simp [go_sem]⟩ (HV.out.keep (nextX hB (by go_grown))) (HV.out.old (okMap_ne HM.out.1) hz3) HM.out.1 HX.out HY.out HC1.out).mono ?_
          rintro e w4 ⟨rfl, g4, k4⟩
          replace b00 := cellU k4 (by omega) (cellA _ b00)
          replace b01 := cellU k4 (by omega) (cellA _ b01)
          replace hB := But.below (B := w.heap.size) (w0 := w) (by go_grown) k4 (by omega) (by go_size)
          have zc := lt_of_cell g4.1
          clear k4
          go_wp2_with fail
          go_name_world W hW
          have hWB : Below w4.heap.size w4 W := by rw [← hW]; go_grown
          have y0 : W.cell? ⟨w4.heap.size, 0, none⟩ = some (.int .i64 y1) := by rw [← hW]; simp [go_sem]
          have y1' : W.cell? ⟨w4.heap.size, 1, none⟩ = some (.int .i64 y2) := by rw [← hW]; simp [go_sem]
          have HG4 := Lib.hid (slotB hWB g4)
          have kL : Facts [(w.heap.size, 0, .int .i64 x1), (w.heap.size, 1, .int .i64 x2), (w4.heap.size, 0, .int .i64 y1), (w4.heap.size, 1, .int .i64 y2)] W := ⟨cellB hWB b00, cellB hWB b01, y0, y1'⟩
          have hBW := nextW hB hWB
          have hzW := hBW.size
          clear hW hWB b00 b01 y0 y1' g4 hB
          go_region_held3 (fun w' => w'.cell? ⟨w.heap.size, 0, none⟩ = some (.int .i64 x1) ∧ w'.cell? ⟨w.heap.size, 1, none⟩ = some (.int .i64 x2) ∧ w'.cell? ⟨w4.heap.size, 0, none⟩ = some (.int .i64 y1) ∧ w'.cell? ⟨w4.heap.size, 1, none⟩ = some (.int .i64 y2))
            ((first | exact kL5 | (refine Facts.keep kL ?_; go_grown; done)))
            ((first
              | (go_at_call 77; (with_reducible refine (value_is qs _ x1 x2 y1 y2 t2 c1 c2 w3.heap.size _ (slotB (by go_grown) HG4.out) (HU.out.keep (nextX hBW (by go_grown))) (HU.out.old (okMap_ne HM.out.2) hz3) HM.out.2 HX.out HZ.out HCC.out).mono ?_); rintro e w5 ⟨rfl, g5, k5⟩; have kL5 := Facts.keepU (Facts.keep kL (by go_grown)) k5 (by simp; omega); have hB5 := But.below (B := w.heap.size) (w0 := w) (by go_grown) k5 (by omega) (by go_size))))
          have b0 : w5.cell? ⟨w.heap.size, 0, none⟩ = some (.int .i64 x1) := kL5.1
          have b1 : w5.cell? ⟨w.heap.size, 1, none⟩ = some (.int .i64 x2) := kL5.2.1
          have y0 : w5.cell? ⟨w4.heap.size, 0, none⟩ = some (.int .i64 y1) := kL5.2.2.1
          have y1' : w5.cell? ⟨w4.heap.size, 1, none⟩ = some (.int .i64 y2) := kL5.2.2.2
          have gW := g5.1
          have hB := hB5
          clear kL kL5 k5 g5 hB5 hBW
          go_wp2_with fail
          go_name_world W1 hW1
          have hW5 : Below w5.heap.size w5 W1 := by rw [← hW1]; go_grown
          replace b0 := cellB hW5 b0
          replace b1 := cellB hW5 b1
          replace y0 := cellB hW5 y0
          replace y1' := cellB hW5 y1'
          replace gW := cellB hW5 gW
          replace hB := nextW hB hW5
          clear hW1 hW5
          go_loopw [10, 38] (fun out i wr => RelRow (fun k => leftL (ps.take k) (x1, x2)) ps.length W1 out i wr) (fun _ i _ => ps.length - (intOf i).toNat)
          case atStart => exact ⟨0, Nat.zero_le _, rfl, (World.ownsRow_nil _ _ _ _ : OwP _ _ _ _ []), Below.refl _ _⟩
          case round =>
            obtain ⟨k, hk, rfl, hown, hb⟩ := hrel
            have HO := Lib.hid hown
            have hzr := hb.size
            have hBr := nextW hB hb
            clear hown
            have e0 := cellB hb b0
            have e1 := cellB hb b1
            have ze := lt_of_cell e0
            by_cases hlt : k < ps.length
            · obtain ⟨g, o, rfl, hg, hc⟩ := HC.out (by intro h; rw [h] at hlt; simp at hlt)
              have hp := List.getElem?_eq_getElem hlt
              obtain ⟨c0, c1, c2, c3⟩ := hc k _ hp
              generalize ps[k] = p at *
              obtain ⟨⟨p1, p2⟩, p3, p4⟩ := p
              rw [← hBr.cell (p := ⟨g, _, none⟩) hg] at c0 c1 c2 c3
              simp only at c0 c1 c2 c3
              have HS := Lib.hid (coord_smQ (okMap_coord HM.out.1 hp).1)
              have hmore := leftL_more (x := (x1, x2)) hp
              clear hc hp HC
              simp only at hmore
              rcases hle : lessQ p1 p2 x1 x2 with _ | _
              · rw [hle] at hmore
                simp only [Bool.false_eq_true, if_false, List.append_nil] at hmore
                have HE := Lib.hid (show leftL (ps.take (k + 1)) (x1, x2) = leftL (ps.take k) (x1, x2) by rw [hmore])
                have HL := Lib.hid hle
                clear hle hmore
                go_wp2_with fail
                refine (less_any p1 p2 x1 x2 HS.out.1 HS.out.2 HSX.out.1 HSX.out.2 _).mono ?_
                rintro e w6 ⟨he, hb6⟩
                rw [HL.out] at he
                subst he
                have hX6 : Below wr.heap.size wr w6 := nextX (by go_grown) hb6
                have hb2 := nextW hb hX6
                have hz6 := hb2.size
                have HO2 := Lib.hid (HO.out.keep hX6)
                clear hb6 hX6 c0 c1 c2 c3
                go_wp2_with fail
                go_roundw
                case rel => exact ⟨k + 1, by omega, by go_num, by simp only; rw [HE.out]; exact HO2.out, hb2⟩
                case measure => simp [intOf]; omega
              · rw [hle] at hmore
                simp only [if_true] at hmore
                have HE := Lib.hid (show leftL (ps.take (k + 1)) (x1, x2) = (leftL (ps.take k) (x1, x2)) ++ [((p1, p2), p3, p4)] by rw [hmore])
                have HL := Lib.hid hle
                clear hle hmore
                go_wp2_with fail
                refine (less_any p1 p2 x1 x2 HS.out.1 HS.out.2 HSX.out.1 HSX.out.2 _).mono ?_
                rintro e w6 ⟨he, hb6⟩
                rw [HL.out] at he
                subst he
                have hX6 : Below wr.heap.size wr w6 := nextX (by go_grown) hb6
                have hb2 := nextW hb hX6
                have hz6 := hb2.size
                have HO2 := Lib.hid (HO.out.keep hX6)
                have d0 : w6.cell? ⟨wr.heap.size, 0, none⟩ = some (.int .i64 p1) := cellB hb6 (by simp [go_sem])
                have d1 : w6.cell? ⟨wr.heap.size, 1, none⟩ = some (.int .i64 p2) := cellB hb6 (by simp [go_sem])
                have d2 : w6.cell? ⟨wr.heap.size, 2, none⟩ = some (.int .i64 p3) := cellB hb6 (by simp [go_sem])
                have d3 : w6.cell? ⟨wr.heap.size, 3, none⟩ = some (.int .i64 p4) := cellB hb6 (by simp [go_sem])
                clear hb6 hX6 c0 c1 c2 c3
                go_wp2_with (at_builtin; refine append_p1 _ rfl _ _ rfl W1.heap.size _ (leftL (ps.take k) (x1, x2)) rfl ?own1 _ _ p1 p2 p3 p4 rfl ?c01 ?c11 ?c21 ?c31 ?len1 ?base1 ?_)
                case own1 => exact (HO2.out.keep (by go_grown))
                case c01 => simp [go_sem]
                case c11 => simp [go_sem]
                case c21 => simp [go_sem]
                case c31 => simp [go_sem]
                case len1 => have h1 := leftL_len (ps.take k) (x1, x2); have h2 := List.length_take_le k ps; omega
                case base1 => go_size
                intro v' w' hown h7
                have hb3 : Below W1.heap.size W1 w' := Below.trans (by go_grown) h7
                have HO3 := Lib.hid (show OwP W1.heap.size 51 w' v' (leftL (ps.take (k + 1)) (x1, x2)) by rw [HE.out]; exact hown)
                clear hown h7 d0 d1 d2 d3
                go_wp2_with fail
                go_roundw
                case rel => exact ⟨k + 1, by omega, by go_num, HO3.out, hb3⟩
                case measure => simp [intOf]; omega
            · obtain rfl : k = ps.length := by omega
              have HT := Lib.hid (show OwP _ 51 _ _ (leftL ps (x1, x2)) by have := HO.out; simp only [List.take_length] at this; exact this)
              have g0 := cellB hb y0
              have g1 := cellB hb y1'
              go_wp2_with (at_builtin; refine append_p1 _ rfl _ _ rfl W1.heap.size _ (leftL ps (x1, x2)) rfl ?own2 _ _ x1 x2 y1 y2 rfl ?c02 ?c12 ?c22 ?c32 ?len2 ?base2 ?_)
              case own2 => exact (HT.out.keep (by go_grown))
              case len2 => have h1 := leftL_len ps (x1, x2); omega
              case base2 => go_size
              intro v' w' hown h7
              have hB8 : Below W1.heap.size W1 w' := Below.trans (by go_grown) h7
              have HO8 := Lib.hid (show OwP W1.heap.size 51 w' v' (leftL ps (x1, x2) ++ [((x1, x2), (y1, y2))] ++ rightL (qs.take 0) (x1, x2)) by simpa [rightL] using hown)
              clear hown h7 hzr hBr HO HT e0 e1 ze g0 g1 hlt hk hb
              go_wp2_with fail
              go_loopw [10, 59] (fun out i wr => RelRow (fun k => leftL ps (x1, x2) ++ [((x1, x2), (y1, y2))] ++ rightL (qs.take k) (x1, x2)) qs.length W1 out i wr) (fun _ i _ => qs.length - (intOf i).toNat)
              case atStart => exact ⟨0, Nat.zero_le _, rfl, HO8.out, hB8⟩
              case round =>
                obtain ⟨k, hk, rfl, hown, hb⟩ := hrel
                have HO := Lib.hid hown
                have hzr := hb.size
                have hBr := nextW hB hb
                clear hown
                have e0 := cellB hb b0
                have e1 := cellB hb b1
                have ze := lt_of_cell e0
                by_cases hlt : k < qs.length
                · obtain ⟨g, o, rfl, hg, hc⟩ := HC2.out (by intro h; rw [h] at hlt; simp at hlt)
                  have hp := List.getElem?_eq_getElem hlt
                  obtain ⟨c0, c1, c2, c3⟩ := hc k _ hp
                  generalize qs[k] = p at *
                  obtain ⟨⟨p1, p2⟩, p3, p4⟩ := p
                  rw [← hBr.cell (p := ⟨g, _, none⟩) hg] at c0 c1 c2 c3
                  simp only at c0 c1 c2 c3
                  have HS := Lib.hid (coord_smQ (okMap_coord HM.out.2 hp).1)
                  have hmore := rightL_more (x := (x1, x2)) hp
                  clear hc hp HC2
                  simp only at hmore
                  rcases hle : lessQ x1 x2 p1 p2 with _ | _
                  · rw [hle] at hmore
                    simp only [Bool.false_eq_true, if_false, List.append_nil] at hmore
                    have HE := Lib.hid (show leftL ps (x1, x2) ++ [((x1, x2), (y1, y2))] ++ rightL (qs.take (k + 1)) (x1, x2) = leftL ps (x1, x2) ++ [((x1, x2), (y1, y2))] ++ rightL (qs.take k) (x1, x2) by rw [hmore])
                    have HL := Lib.hid hle
                    clear hle hmore
                    go_wp2_with fail
                    refine (less_any x1 x2 p1 p2 HSX.out.1 HSX.out.2 HS.out.1 HS.out.2 _).mono ?_
                    rintro e w6 ⟨he, hb6⟩
                    rw [HL.out] at he
                    subst he
                    have hX6 : Below wr.heap.size wr w6 := nextX (by go_grown) hb6
                    have hb2 := nextW hb hX6
                    have hz6 := hb2.size
                    have HO2 := Lib.hid (HO.out.keep hX6)
                    clear hb6 hX6 c0 c1 c2 c3
                    go_wp2_with fail
                    go_roundw
                    case rel => exact ⟨k + 1, by omega, by go_num, by simp only; rw [HE.out]; exact HO2.out, hb2⟩
                    case measure => simp [intOf]; omega
                  · rw [hle] at hmore
                    simp only [if_true] at hmore
                    have HE := Lib.hid (show leftL ps (x1, x2) ++ [((x1, x2), (y1, y2))] ++ rightL (qs.take (k + 1)) (x1, x2) = (leftL ps (x1, x2) ++ [((x1, x2), (y1, y2))] ++ rightL (qs.take k) (x1, x2)) ++ [((p1, p2), p3, p4)] by rw [hmore]; simp only [List.append_assoc])
                    have HL := Lib.hid hle
                    clear hle hmore
                    go_wp2_with fail
                    refine (less_any x1 x2 p1 p2 HSX.out.1 HSX.out.2 HS.out.1 HS.out.2 _).mono ?_
                    rintro e w6 ⟨he, hb6⟩
                    rw [HL.out] at he
                    subst he
                    have hX6 : Below wr.heap.size wr w6 := nextX (by go_grown) hb6
                    have hb2 := nextW hb hX6
                    have hz6 := hb2.size
                    have HO2 := Lib.hid (HO.out.keep hX6)
                    have d0 : w6.cell? ⟨wr.heap.size, 0, none⟩ = some (.int .i64 p1) := cellB hb6 (by simp [go_sem])
                    have d1 : w6.cell? ⟨wr.heap.size, 1, none⟩ = some (.int .i64 p2) := cellB hb6 (by simp [go_sem])
                    have d2 : w6.cell? ⟨wr.heap.size, 2, none⟩ = some (.int .i64 p3) := cellB hb6 (by simp [go_sem])
                    have d3 : w6.cell? ⟨wr.heap.size, 3, none⟩ = some (.int .i64 p4) := cellB hb6 (by simp [go_sem])
                    clear hb6 hX6 c0 c1 c2 c3
                    go_wp2_with (at_builtin; refine append_p1 _ rfl _ _ rfl W1.heap.size _ (leftL ps (x1, x2) ++ [((x1, x2), (y1, y2))] ++ rightL (qs.take k) (x1, x2)) rfl ?own3 _ _ p1 p2 p3 p4 rfl ?c03 ?c13 ?c23 ?c33 ?len3 ?base3 ?_)
                    case own3 => exact (HO2.out.keep (by go_grown))
                    case c03 => simp [go_sem]
                    case c13 => simp [go_sem]
                    case c23 => simp [go_sem]
                    case c33 => simp [go_sem]
                    case len3 => have h1 := leftL_len ps (x1, x2); have h2 := rightL_len (qs.take k) (x1, x2); have h3 := List.length_take_le k qs; simp only [List.length_append, List.length_singleton]; omega
                    case base3 => go_size
                    intro v' w' hown h7
                    have hb3 : Below W1.heap.size W1 w' := Below.trans (by go_grown) h7
                    have HO3 := Lib.hid (show OwP W1.heap.size 51 w' v' (leftL ps (x1, x2) ++ [((x1, x2), (y1, y2))] ++ rightL (qs.take (k + 1)) (x1, x2)) by rw [HE.out]; simpa using hown)
                    clear hown h7 d0 d1 d2 d3
                    go_wp2_with fail
                    go_roundw
                    case rel => exact ⟨k + 1, by omega, by go_num, HO3.out, hb3⟩
                    case measure => simp [intOf]; omega
                · obtain rfl : k = qs.length := by omega
                  have HT := Lib.hid (show OwP _ 51 _ _ (joinL ps qs (x1, x2) (y1, y2)) by have := HO.out; simp only [List.take_length] at this; exact this)
                  have hzB := hBr.size
                  have gC := cellB hb gW
                  go_wp2_with fail
                  refine (finish_is (joinL ps qs (x1, x2) (y1, y2)) _ c2 m t w3.heap.size HQ.out HJ.out _ gC (HT.out.read.keep (by go_grown))).mono ?_
                  rintro e w9 ⟨r, rfl, ow, hb9⟩
                  have hB9 : Below w.heap.size w w9 := nextB (by go_grown) (by go_size) hb9
                  have HR9 := Lib.hid (ow.low (b := w.heap.size) (by go_size))
                  clear ow hb9
                  go_wp2_with fail
                  go_ret2
                  exact ⟨_, rfl, HR9.out, hB9⟩
        · obtain ⟨rfl, rfl⟩ : [] = m ∧ false = t := by rw [if_neg (fun h => he h.2.2.symm)] at hl; exact Prod.mk.inj hl
          have hor := q_or he
          clear he hl hc1 hc2
          rcases hor with hq1 | ⟨hq1, hq2⟩
          · go_enter Tryz.func41, Tryz.ntmps41
            go_wp2_with fail
            refine (isMap_is ps _ true _ (HV.out.keep (by go_grown)) hn HM.out.1).mono ?_
            rintro e w1 ⟨rfl, hb⟩
            have hX : Below w.heap.size w w1 := nextX (by go_grown) hb
            have b00 : w1.cell? ⟨w.heap.size, 0, none⟩ = some (.int .i64 x1) := cellB hb (by simp [go_sem])
            have b01 : w1.cell? ⟨w.heap.size, 1, none⟩ = some (.int .i64 x2) := cellB hb (by simp [go_sem])
            have zb00 := lt_of_cell b00
            have hB : Below w.heap.size w w1 := hX
            clear hb hX
            go_wp2_with fail
            refine (isMap_is qs _ true _ (HU.out.keep (nextX hB (by go_grown))) hk HM.out.2).mono ?_
            rintro e w2 ⟨rfl, hb⟩
            have hX : Below w1.heap.size w1 w2 := nextX (by go_grown) hb
            replace b00 := cellB hX b00
            replace b01 := cellB hX b01
            have zb00 := Nat.lt_of_lt_of_le zb00 hX.size
            replace hB := nextW hB hX
            clear hb hX
            go_wp2_with fail
            refine (isUnit_any x1 x2 _).mono ?_
            rintro e w3 ⟨he, hb⟩
            rw [HX.out] at he
            subst he
            have hX : Below w2.heap.size w2 w3 := nextX (by go_grown) hb
            replace b00 := cellB hX b00
            replace b01 := cellB hX b01
            have zb00 := Nat.lt_of_lt_of_le zb00 hX.size
            replace hB := nextW hB hX
            clear hb hX
            go_wp2_with fail
            have hz3 := hB.size
            refine (value_is ps _ x1 x2 y1 y2 t1 false c1 w3.heap.size _ ⟨by simp [go_sem], by simp [go_sem]⟩ (HV.out.keep (nextX hB (by go_grown))) (HV.out.old (okMap_ne HM.out.1) hz3) HM.out.1 HX.out HY.out HC1.out).mono ?_
            rintro e w4 ⟨rfl, g4, k4⟩
            replace b00 := cellU k4 (by omega) (cellA _ b00)
            replace b01 := cellU k4 (by omega) (cellA _ b01)
            replace hB := But.below (B := w.heap.size) (w0 := w) (by go_grown) k4 (by omega) (by go_size)
            have zc := lt_of_cell g4.1
            clear k4
            go_wp2_with fail
            go_name_world W hW
            have hWB : Below w4.heap.size w4 W := by rw [← hW]; go_grown
            have y0 : W.cell? ⟨w4.heap.size, 0, none⟩ = some (.int .i64 y1) := by rw [← hW]; simp [go_sem]
            have y1' : W.cell? ⟨w4.heap.size, 1, none⟩ = some (.int .i64 y2) := by rw [← hW]; simp [go_sem]
            have HG4 := Lib.hid (slotB hWB g4)
            have kL : Facts [(w.heap.size, 0, .int .i64 x1), (w.heap.size, 1, .int .i64 x2), (w4.heap.size, 0, .int .i64 y1), (w4.heap.size, 1, .int .i64 y2)] W := ⟨cellB hWB b00, cellB hWB b01, y0, y1'⟩
            have hBW := nextW hB hWB
            have hzW := hBW.size
            clear hW hWB b00 b01 y0 y1' g4 hB
            go_region_held3 (fun w' => w'.cell? ⟨w.heap.size, 0, none⟩ = some (.int .i64 x1) ∧ w'.cell? ⟨w.heap.size, 1, none⟩ = some (.int .i64 x2) ∧ w'.cell? ⟨w4.heap.size, 0, none⟩ = some (.int .i64 y1) ∧ w'.cell? ⟨w4.heap.size, 1, none⟩ = some (.int .i64 y2))
              ((first | exact kL5 | (refine Facts.keep kL ?_; go_grown; done)))
              ((first
                | (go_at_call 77; (with_reducible refine (value_is qs _ x1 x2 z1 z2 t2 c1 c2 w3.heap.size _ (slotB (by go_grown) HG4.out) (HU.out.keep (nextX hBW (by go_grown))) (HU.out.old (okMap_ne HM.out.2) hz3) HM.out.2 HX.out HZ.out HCC.out).mono ?_); rintro e w5 ⟨rfl, g5, k5⟩; have kL5 := Facts.keepU (Facts.keep kL (by go_grown)) k5 (by simp; omega); have hB5 := But.below (B := w.heap.size) (w0 := w) (by go_grown) k5 (by omega) (by go_size))))
            go_wp2_with fail
            go_ret2
            exact ⟨_, rfl, World.ownsRow_nil _ _ _ _, hB5⟩
          · go_enter Tryz.func41, Tryz.ntmps41
            go_wp2_with fail
            refine (isMap_is ps _ true _ (HV.out.keep (by go_grown)) hn HM.out.1).mono ?_
            rintro e w1 ⟨rfl, hb⟩
            have hX : Below w.heap.size w w1 := nextX (by go_grown) hb
            have b00 : w1.cell? ⟨w.heap.size, 0, none⟩ = some (.int .i64 x1) := cellB hb (by simp [go_sem])
            have b01 : w1.cell? ⟨w.heap.size, 1, none⟩ = some (.int .i64 x2) := cellB hb (by simp [go_sem])
            have zb00 := lt_of_cell b00
            have hB : Below w.heap.size w w1 := hX
            clear hb hX
            go_wp2_with fail
            refine (isMap_is qs _ true _ (HU.out.keep (nextX hB (by go_grown))) hk HM.out.2).mono ?_
            rintro e w2 ⟨rfl, hb⟩
            have hX : Below w1.heap.size w1 w2 := nextX (by go_grown) hb
            replace b00 := cellB hX b00
            replace b01 := cellB hX b01
            have zb00 := Nat.lt_of_lt_of_le zb00 hX.size
            replace hB := nextW hB hX
            clear hb hX
            go_wp2_with fail
            refine (isUnit_any x1 x2 _).mono ?_
            rintro e w3 ⟨he, hb⟩
            rw [HX.out] at he
            subst he
            have hX : Below w2.heap.size w2 w3 := nextX (by go_grown) hb
            replace b00 := cellB hX b00
            replace b01 := cellB hX b01
            have zb00 := Nat.lt_of_lt_of_le zb00 hX.size
            replace hB := nextW hB hX
            clear hb hX
            go_wp2_with fail
            have hz3 := hB.size
            refine (value_is ps _ x1 x2 y1 y2 t1 false c1 w3.heap.size _ ⟨by simp [go_sem], by simp [go_sem]⟩ (HV.out.keep (nextX hB (by go_grown))) (HV.out.old (okMap_ne HM.out.1) hz3) HM.out.1 HX.out HY.out HC1.out).mono ?_
            rintro e w4 ⟨rfl, g4, k4⟩
            replace b00 := cellU k4 (by omega) (cellA _ b00)
            replace b01 := cellU k4 (by omega) (cellA _ b01)
            replace hB := But.below (B := w.heap.size) (w0 := w) (by go_grown) k4 (by omega) (by go_size)
            have zc := lt_of_cell g4.1
            clear k4
            go_wp2_with fail
            go_name_world W hW
            have hWB : Below w4.heap.size w4 W := by rw [← hW]; go_grown
            have y0 : W.cell? ⟨w4.heap.size, 0, none⟩ = some (.int .i64 y1) := by rw [← hW]; simp [go_sem]
            have y1' : W.cell? ⟨w4.heap.size, 1, none⟩ = some (.int .i64 y2) := by rw [← hW]; simp [go_sem]
            have HG4 := Lib.hid (slotB hWB g4)
            have kL : Facts [(w.heap.size, 0, .int .i64 x1), (w.heap.size, 1, .int .i64 x2), (w4.heap.size, 0, .int .i64 y1), (w4.heap.size, 1, .int .i64 y2)] W := ⟨cellB hWB b00, cellB hWB b01, y0, y1'⟩
            have hBW := nextW hB hWB
            have hzW := hBW.size
            clear hW hWB b00 b01 y0 y1' g4 hB
            go_region_held3 (fun w' => w'.cell? ⟨w.heap.size, 0, none⟩ = some (.int .i64 x1) ∧ w'.cell? ⟨w.heap.size, 1, none⟩ = some (.int .i64 x2) ∧ w'.cell? ⟨w4.heap.size, 0, none⟩ = some (.int .i64 y1) ∧ w'.cell? ⟨w4.heap.size, 1, none⟩ = some (.int .i64 y2))
              ((first | exact kL5 | (refine Facts.keep kL ?_; go_grown; done)))
              ((first
                | (go_at_call 77; (with_reducible refine (value_is qs _ x1 x2 z1 z2 t2 c1 c2 w3.heap.size _ (slotB (by go_grown) HG4.out) (HU.out.keep (nextX hBW (by go_grown))) (HU.out.old (okMap_ne HM.out.2) hz3) HM.out.2 HX.out HZ.out HCC.out).mono ?_); rintro e w5 ⟨rfl, g5, k5⟩; have kL5 := Facts.keepU (Facts.keep kL (by go_grown)) k5 (by simp; omega); have hB5 := But.below (B := w.heap.size) (w0 := w) (by go_grown) k5 (by omega) (by go_size))))
            go_wp2_with fail
            go_ret2
            exact ⟨_, rfl, World.ownsRow_nil _ _ _ _, hB5⟩

end Go.Proofs.YtkeajfgcjmhmiaaGreat
