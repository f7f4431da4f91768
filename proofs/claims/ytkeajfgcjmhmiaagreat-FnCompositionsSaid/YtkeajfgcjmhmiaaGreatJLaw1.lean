/- Proved: for all drawn maps, compositions have the values of values, powers add up, and maps that are the same have no distance; the arguments read afterwards as they did. No condition. -/
import Derived.Test.YtkeajfgcjmhmiaaGreatJ2
import Derived.Test.YtkeajfgcjmhmiaaGreatJ26
import Derived.Test.YtkeajfgcjmhmiaaGreatJ40
import Derived.Test.YtkeajfgcjmhmiaaGreatJ44
import Derived.Test.YtkeajfgcjmhmiaaGreatJ45
import Derived.Test.YtkeajfgcjmhmiaaGreatJ6
namespace Go.Proofs.YtkeajfgcjmhmiaaGreat.lawFnCompositions
open Go.Proofs.YtkeajfgcjmhmiaaGreat
open Go.ChangeShapes Go.WideShapes Go.ChangeAt Go.RowKit Go.Joins

set_option maxRecDepth 100000 in
set_option maxHeartbeats 12800000 in
theorem walk (v u : Value) (bs cs : List Int) (w : World) (hv : RdN .u8 w v bs) (hu : RdN .u8 w u cs) (hbs : ∀ x ∈ bs, 0 ≤ x ∧ x ≤ 255) (hcs : ∀ x ∈ cs, 0 ≤ x ∧ x ≤ 255) :
    Calls Tryz.prog 3 #[v, u] w fun e w' => e = .returned (.bool true) ∧ Below w.heap.size w w' := by
  have HV := Lib.hid hv
  have HU := Lib.hid hu
  have HBs := Lib.hid hbs
  have HCs := Lib.hid hcs
  obtain ⟨A, cv, rfl, -, -, -⟩ := hv
  obtain ⟨A2, cu, rfl, -, -, -⟩ := hu
  clear hbs hcs
  rcases hbig : bigB bs.length cs.length with _ | _
  rotate_left
  · have HBg := Lib.hid hbig
    clear hbig
    go_enter Tryz.func3, Tryz.ntmps3
    go_wp2_with fail
    refine (big_is _ _ bs cs _ (HV.out.keep (by go_grown)) (HU.out.keep (by go_grown))).mono ?_
    rintro e w1 ⟨he, hb⟩
    rw [HBg.out] at he
    subst he
    have hX : Below w.heap.size w w1 := nextX (by go_grown) hb
    replace HV := Lib.hid (HV.out.keep hX)
    replace HU := Lib.hid (HU.out.keep hX)
    have hB : Below w.heap.size w w1 := hX
    clear hb hX
    go_wp2_with fail
    go_ret
    exact ⟨rfl, nextX hB (by go_grown)⟩
  have HBg := Lib.hid hbig
  clear hbig
  go_enter Tryz.func3, Tryz.ntmps3
  go_wp2_with fail
  refine (big_is _ _ bs cs _ (HV.out.keep (by go_grown)) (HU.out.keep (by go_grown))).mono ?_
  rintro e w1 ⟨he, hb⟩
  rw [HBg.out] at he
  subst he
  have hX : Below w.heap.size w w1 := nextX (by go_grown) hb
  replace HV := Lib.hid (HV.out.keep hX)
  replace HU := Lib.hid (HU.out.keep hX)
  have hB : Below w.heap.size w w1 := hX
  clear hb hX
  go_wp2_with fail
  refine (drawCompose_is _ bs _ (HV.out.keep (by go_grown)) HBs.out).mono ?_
  rintro e w2 ⟨r, r2, ps, qs, rfl, hr, hr2, hpl, hb⟩
  have hX : Below w1.heap.size w1 w2 := nextX (by go_grown) hb
  replace HV := Lib.hid (HV.out.keep hX)
  replace HU := Lib.hid (HU.out.keep hX)
  replace hB := nextW hB hX
  clear hb hX
  have HF := Lib.hid hr.read
  have HG := Lib.hid hr2.read
  clear hr hr2
  obtain ⟨⟨m, t⟩, hHC⟩ : ∃ r, composeQ ps qs = r := ⟨_, rfl⟩
  have HC := Lib.hid hHC
  clear hHC
  have hml := composeQ_len HC.out
  go_wp2_with fail
  refine (iComposeMaps_is ps qs _ _ m t HC.out _ (HF.out.keep (by go_grown)) (HG.out.keep (by go_grown)) (by omega) (by omega)).mono ?_
  rintro e w3 ⟨vHI, rfl, hi, hb⟩
  have hX : Below w2.heap.size w2 w3 := nextX (by go_grown) hb
  replace HV := Lib.hid (HV.out.keep hX)
  replace HU := Lib.hid (HU.out.keep hX)
  replace HF := Lib.hid (HF.out.keep hX)
  replace HG := Lib.hid (HG.out.keep hX)
  replace hB := nextW hB hX
  clear hb hX
  have HI := Lib.hid (hi.read)
  clear hi
  go_wp2_with fail
  refine (sComposeMaps_is ps qs _ _ m t HC.out _ (HF.out.keep (by go_grown)) (HG.out.keep (by go_grown)) (by omega) (by omega)).mono ?_
  rintro e w4 ⟨vHS, rfl, hi, hb⟩
  have hX : Below w3.heap.size w3 w4 := nextX (by go_grown) hb
  replace HV := Lib.hid (HV.out.keep hX)
  replace HU := Lib.hid (HU.out.keep hX)
  replace HF := Lib.hid (HF.out.keep hX)
  replace HG := Lib.hid (HG.out.keep hX)
  replace HI := Lib.hid (HI.out.keep hX)
  replace hB := nextW hB hX
  clear hb hX
  have HS := Lib.hid (hi.read)
  clear hi
  go_upto_region 6 with fail
  go_cut [78] (fun c wx => c = .bool false ∧ Below w4.heap.size w4 wx)
  case first => as_aux_lemma =>
    go_wp2_with fail
    refine (pSame_same m _ _ _ (HI.out.keep (by go_grown)) (HS.out.keep (by go_grown))).mono ?_
    rintro e w5 ⟨rfl, hb⟩
    have hX : Below w4.heap.size w4 w5 := nextX (by go_grown) hb
    replace HV := Lib.hid (HV.out.keep hX)
    replace HU := Lib.hid (HU.out.keep hX)
    replace HF := Lib.hid (HF.out.keep hX)
    replace HG := Lib.hid (HG.out.keep hX)
    replace HI := Lib.hid (HI.out.keep hX)
    replace HS := Lib.hid (HS.out.keep hX)
    have hC : Below w4.heap.size w4 w5 := hX
    clear hb hX
    go_wp2_with fail
    go_meet
    exact ⟨by first | rfl | (simp; done), by first | exact Below.refl _ _ | exact nextX hC (by go_grown) | go_grown⟩
  case rest => as_aux_lemma =>
    obtain ⟨rfl, hX⟩ := hcut
    obtain ⟨w6, hwc⟩ : ∃ X : World, X = wc := ⟨_, rfl⟩
    subst hwc
    replace HV := Lib.hid (HV.out.keep hX)
    replace HU := Lib.hid (HU.out.keep hX)
    replace HF := Lib.hid (HF.out.keep hX)
    replace HG := Lib.hid (HG.out.keep hX)
    replace HI := Lib.hid (HI.out.keep hX)
    replace HS := Lib.hid (HS.out.keep hX)
    replace hB := nextW hB hX
    clear hX
    go_upto_if 79 with fail
    go_cut [] (fun wx => Below w6.heap.size w6 wx)
    case first => as_aux_lemma =>
      rcases t with _ | _
      · go_wp2_with fail
        go_meet
        first | exact Below.refl _ _ | go_grown
      · go_wp2_with fail
        go_name_world w7 hW
        have hX : Below w6.heap.size w6 w7 := by rw [← hW]; go_grown
        replace HV := Lib.hid (HV.out.keep hX)
        replace HU := Lib.hid (HU.out.keep hX)
        replace HF := Lib.hid (HF.out.keep hX)
        replace HG := Lib.hid (HG.out.keep hX)
        replace HI := Lib.hid (HI.out.keep hX)
        replace HS := Lib.hid (HS.out.keep hX)
        have hC : Below w6.heap.size w6 w7 := hX
        clear hW hX
        go_loopw [11] (fun i wr => EqTo 13 w7 i wr) (fun i _ => 13 - (intOf i).toNat)
        case atStart => exact ⟨0, Nat.zero_le _, rfl, by first | exact Below.refl _ _ | go_grown⟩
        case round =>
          obtain ⟨k, hk, rfl, hbr⟩ := hrel
          by_cases hlt : k < 13
          · have kb : (k : Int) ≤ 12 := by omega
            have kd : decide ((k : Int) ≤ 12) = true := decide_eq_true kb
            have v2 : IntKind.i64.wrap ((k : Int) + 1) = (k : Int) + 1 := IntWalk.i64_in _ (by omega)
            replace HV := Lib.hid (HV.out.keep hbr)
            replace HU := Lib.hid (HU.out.keep hbr)
            replace HF := Lib.hid (HF.out.keep hbr)
            replace HG := Lib.hid (HG.out.keep hbr)
            replace HI := Lib.hid (HI.out.keep hbr)
            replace HS := Lib.hid (HS.out.keep hbr)
            obtain ⟨⟨x1, x2, o1⟩, hHQ⟩ : ∃ r, lowQ (k : Int) 12 = r := ⟨_, rfl⟩
            have HQ := Lib.hid hHQ
            clear hHQ
            go_wp2_with fail
            refine (specMake_yes k 12 x1 x2 o1 (by omega) (by omega) (by decide) HQ.out _).mono ?_
            rintro e w8 ⟨rfl, hb⟩
            have hX : Below wr.heap.size wr w8 := nextX (by go_grown) hb
            replace HV := Lib.hid (HV.out.keep hX)
            replace HU := Lib.hid (HU.out.keep hX)
            replace HF := Lib.hid (HF.out.keep hX)
            replace HG := Lib.hid (HG.out.keep hX)
            replace HI := Lib.hid (HI.out.keep hX)
            replace HS := Lib.hid (HS.out.keep hX)
            have hRr : Below wr.heap.size wr w8 := hX
            clear hb hX
            obtain ⟨⟨y1, y2, o2⟩, hHY⟩ : ∃ r, vaQ qs (x1, x2) = r := ⟨_, rfl⟩
            have HY := Lib.hid hHY
            clear hHY
            go_wp2_with fail
            refine (sValueAt_is qs _ x1 x2 y1 y2 o2 _ (HG.out.keep (by go_grown)) (by omega) HY.out).mono ?_
            rintro e w9 ⟨rfl, hb⟩
            have hX : Below w8.heap.size w8 w9 := nextX (by go_grown) hb
            replace HV := Lib.hid (HV.out.keep hX)
            replace HU := Lib.hid (HU.out.keep hX)
            replace HF := Lib.hid (HF.out.keep hX)
            replace HG := Lib.hid (HG.out.keep hX)
            replace HI := Lib.hid (HI.out.keep hX)
            replace HS := Lib.hid (HS.out.keep hX)
            have kx0 : w9.cell? ⟨w8.heap.size, 0, none⟩ = some (.int .i64 x1) := cellB hb (by simp [go_sem])
            have zkx0 := lt_of_cell kx0
            have kx1 : w9.cell? ⟨w8.heap.size, 1, none⟩ = some (.int .i64 x2) := cellB hb (by simp [go_sem])
            replace hRr := nextW hRr hX
            clear hb hX
            obtain ⟨⟨z1, z2, o3⟩, hHZ⟩ : ∃ r, vaQ ps (y1, y2) = r := ⟨_, rfl⟩
            have HZ := Lib.hid hHZ
            clear hHZ
            go_wp2_with fail
            refine (sValueAt_is ps _ y1 y2 z1 z2 o3 _ (HF.out.keep (by go_grown)) (by omega) HZ.out).mono ?_
            rintro e w10 ⟨rfl, hb⟩
            have hX : Below w9.heap.size w9 w10 := nextX (by go_grown) hb
            replace HV := Lib.hid (HV.out.keep hX)
            replace HU := Lib.hid (HU.out.keep hX)
            replace HF := Lib.hid (HF.out.keep hX)
            replace HG := Lib.hid (HG.out.keep hX)
            replace HI := Lib.hid (HI.out.keep hX)
            replace HS := Lib.hid (HS.out.keep hX)
            replace kx0 := cellB hX kx0
            replace zkx0 := Nat.lt_of_lt_of_le zkx0 hX.size
            replace kx1 := cellB hX kx1
            have ky0 : w10.cell? ⟨w9.heap.size, 0, none⟩ = some (.int .i64 y1) := cellB hb (by simp [go_sem])
            have zky0 := lt_of_cell ky0
            have ky1 : w10.cell? ⟨w9.heap.size, 1, none⟩ = some (.int .i64 y2) := cellB hb (by simp [go_sem])
            replace hRr := nextW hRr hX
            clear hb hX
            obtain ⟨⟨u1, u2, o4⟩, hHU9⟩ : ∃ r, vaQ m (x1, x2) = r := ⟨_, rfl⟩
            have HU9 := Lib.hid hHU9
            clear hHU9
            go_wp2_with fail
            refine (iValueAt_is m _ x1 x2 u1 u2 o4 _ (HI.out.keep (by go_grown)) hml HU9.out).mono ?_
            rintro e w11 ⟨rfl, hb⟩
            have hX : Below w10.heap.size w10 w11 := nextX (by go_grown) hb
            replace HV := Lib.hid (HV.out.keep hX)
            replace HU := Lib.hid (HU.out.keep hX)
            replace HF := Lib.hid (HF.out.keep hX)
            replace HG := Lib.hid (HG.out.keep hX)
            replace HI := Lib.hid (HI.out.keep hX)
            replace HS := Lib.hid (HS.out.keep hX)
            replace kx0 := cellB hX kx0
            replace zkx0 := Nat.lt_of_lt_of_le zkx0 hX.size
            replace kx1 := cellB hX kx1
            replace ky0 := cellB hX ky0
            replace zky0 := Nat.lt_of_lt_of_le zky0 hX.size
            replace ky1 := cellB hX ky1
            have kz0 : w11.cell? ⟨w10.heap.size, 0, none⟩ = some (.int .i64 z1) := cellB hb (by simp [go_sem])
            have zkz0 := lt_of_cell kz0
            have kz1 : w11.cell? ⟨w10.heap.size, 1, none⟩ = some (.int .i64 z2) := cellB hb (by simp [go_sem])
            replace hRr := nextW hRr hX
            clear hb hX
            go_wp2_with fail
            refine (sValueAt_is m _ x1 x2 u1 u2 o4 _ (HS.out.keep (by go_grown)) hml HU9.out).mono ?_
            rintro e w12 ⟨rfl, hb⟩
            have hX : Below w11.heap.size w11 w12 := nextX (by go_grown) hb
            replace HV := Lib.hid (HV.out.keep hX)
            replace HU := Lib.hid (HU.out.keep hX)
            replace HF := Lib.hid (HF.out.keep hX)
            replace HG := Lib.hid (HG.out.keep hX)
            replace HI := Lib.hid (HI.out.keep hX)
            replace HS := Lib.hid (HS.out.keep hX)
            replace kx0 := cellB hX kx0
            replace zkx0 := Nat.lt_of_lt_of_le zkx0 hX.size
            replace kx1 := cellB hX kx1
            replace ky0 := cellB hX ky0
            replace zky0 := Nat.lt_of_lt_of_le zky0 hX.size
            replace ky1 := cellB hX ky1
            replace kz0 := cellB hX kz0
            replace zkz0 := Nat.lt_of_lt_of_le zkz0 hX.size
            replace kz1 := cellB hX kz1
            have ku0 : w12.cell? ⟨w11.heap.size, 0, none⟩ = some (.int .i64 u1) := cellB hb (by simp [go_sem])
            have zku0 := lt_of_cell ku0
            have ku1 : w12.cell? ⟨w11.heap.size, 1, none⟩ = some (.int .i64 u2) := cellB hb (by simp [go_sem])
            replace hRr := nextW hRr hX
            clear hb hX
            rcases o1 with _ | _
            · go_wp2_with fail
              go_roundw
              case rel => exact ⟨k + 1, by omega, by go_num, nextW hbr (nextX hRr (by go_grown))⟩
              case measure => simp [intOf] <;> omega
            · rcases o2 with _ | _
              · go_wp2_with fail
                go_roundw
                case rel => exact ⟨k + 1, by omega, by go_num, nextW hbr (nextX hRr (by go_grown))⟩
                case measure => simp [intOf] <;> omega
              · rcases o3 with _ | _
                · go_wp2_with fail
                  go_roundw
                  case rel => exact ⟨k + 1, by omega, by go_num, nextW hbr (nextX hRr (by go_grown))⟩
                  case measure => simp [intOf] <;> omega
                · rcases o4 with _ | _
                  · go_wp2_with fail
                    go_roundw
                    case rel => exact ⟨k + 1, by omega, by go_num, nextW hbr (nextX hRr (by go_grown))⟩
                    case measure => simp [intOf] <;> omega
                  · obtain ⟨rfl, rfl⟩ := compose_value HC.out HY.out HZ.out HU9.out
                    go_wp2_with fail
                    go_roundw
                    case rel => exact ⟨k + 1, by omega, by go_num, nextW hbr (nextX hRr (by go_grown))⟩
                    case measure => simp [intOf] <;> omega
          · obtain rfl : k = 13 := by omega
            have kb : ¬ ((13 : Nat) : Int) ≤ 12 := by omega
            have kd : decide (((13 : Nat) : Int) ≤ 12) = false := decide_eq_false kb
            replace HV := Lib.hid (HV.out.keep hbr)
            replace HU := Lib.hid (HU.out.keep hbr)
            replace HF := Lib.hid (HF.out.keep hbr)
            replace HG := Lib.hid (HG.out.keep hbr)
            replace HI := Lib.hid (HI.out.keep hbr)
            replace HS := Lib.hid (HS.out.keep hbr)
            replace hC := nextW hC hbr
            clear hbr hk hlt
            obtain ⟨hmm, hms⟩ := compose_simple HC.out
            go_wp2_with fail
            refine (iSimpleMap_is m _ m true hms _ (HI.out.keep (by go_grown)) hml).mono ?_
            rintro e w8 ⟨v9, rfl, hi, hb⟩
            have hX : Below wr.heap.size wr w8 := nextX (by go_grown) hb
            replace HV := Lib.hid (HV.out.keep hX)
            replace HU := Lib.hid (HU.out.keep hX)
            replace HF := Lib.hid (HF.out.keep hX)
            replace HG := Lib.hid (HG.out.keep hX)
            replace HI := Lib.hid (HI.out.keep hX)
            replace HS := Lib.hid (HS.out.keep hX)
            replace hC := nextW hC hX
            clear hb hX
            have HI9 := Lib.hid (hi.read)
            clear hi
            go_wp2_with fail
            refine (pSame_same m _ _ _ (HI9.out.keep (by go_grown)) (HS.out.keep (by go_grown))).mono ?_
            rintro e w9 ⟨rfl, hb⟩
            have hX : Below w8.heap.size w8 w9 := nextX (by go_grown) hb
            replace HV := Lib.hid (HV.out.keep hX)
            replace HU := Lib.hid (HU.out.keep hX)
            replace HF := Lib.hid (HF.out.keep hX)
            replace HG := Lib.hid (HG.out.keep hX)
            replace HI := Lib.hid (HI.out.keep hX)
            replace HS := Lib.hid (HS.out.keep hX)
            replace HI9 := Lib.hid (HI9.out.keep hX)
            replace hC := nextW hC hX
            clear hb hX
            go_wp2_with fail
            refine (implIsMap_is m _ true _ (HI.out.keep (by go_grown)) hml hmm).mono ?_
            rintro e w10 ⟨rfl, hb⟩
            have hX : Below w9.heap.size w9 w10 := nextX (by go_grown) hb
            replace HV := Lib.hid (HV.out.keep hX)
            replace HU := Lib.hid (HU.out.keep hX)
            replace HF := Lib.hid (HF.out.keep hX)
            replace HG := Lib.hid (HG.out.keep hX)
            replace HI := Lib.hid (HI.out.keep hX)
            replace HS := Lib.hid (HS.out.keep hX)
            replace HI9 := Lib.hid (HI9.out.keep hX)
            replace hC := nextW hC hX
            clear hb hX
            go_wp2_with fail
            go_meet
            first | exact Below.refl _ _ | exact nextX hC (by go_grown) | go_grown
    case rest => as_aux_lemma =>
      have hX := hcut
      obtain ⟨w11, hwc⟩ : ∃ X : World, X = wc := ⟨_, rfl⟩
      subst hwc
      replace HV := Lib.hid (HV.out.keep hX)
      replace HU := Lib.hid (HU.out.keep hX)
      replace HF := Lib.hid (HF.out.keep hX)
      replace HG := Lib.hid (HG.out.keep hX)
      replace HI := Lib.hid (HI.out.keep hX)
      replace HS := Lib.hid (HS.out.keep hX)
      replace hB := nextW hB hX
      clear hX hcut
      clear HF HG HI HS HC HV
      go_wp2_with fail
      refine (drawPower_is _ cs _ (HU.out.keep (by go_grown)) HCs.out).mono ?_
      rintro e w12 ⟨r3, us, n, rfl, hr, hul, hn, hb⟩
      have hX : Below w11.heap.size w11 w12 := nextX (by go_grown) hb
      replace HU := Lib.hid (HU.out.keep hX)
      replace hB := nextW hB hX
      clear hb hX
      have HP0 := Lib.hid hr.read
      clear hr
      obtain ⟨⟨p, t2⟩, hHP⟩ : ∃ r, powerQ us n = r := ⟨_, rfl⟩
      have HP := Lib.hid hHP
      clear hHP
      go_wp2_with fail
      refine (iPowerOfMap_is us _ n p t2 HP.out _ (HP0.out.keep (by go_grown)) (by omega)).mono ?_
      rintro e w13 ⟨vHIP, rfl, hi, hb⟩
      have hX : Below w12.heap.size w12 w13 := nextX (by go_grown) hb
      replace HU := Lib.hid (HU.out.keep hX)
      replace HP0 := Lib.hid (HP0.out.keep hX)
      replace hB := nextW hB hX
      clear hb hX
      have HIP := Lib.hid (hi.read)
      clear hi
      go_wp2_with fail
      refine (sPowerOfMap_is us _ n p t2 HP.out _ (HP0.out.keep (by go_grown)) (by omega)).mono ?_
      rintro e w14 ⟨vHSP, rfl, hi, hb⟩
      have hX : Below w13.heap.size w13 w14 := nextX (by go_grown) hb
      replace HU := Lib.hid (HU.out.keep hX)
      replace HP0 := Lib.hid (HP0.out.keep hX)
      replace HIP := Lib.hid (HIP.out.keep hX)
      replace hB := nextW hB hX
      clear hb hX
      have HSP := Lib.hid (hi.read)
      clear hi
      go_upto_region 25 with fail
      go_cut [181] (fun c wx => c = .bool false ∧ Below w14.heap.size w14 wx)
      case first => as_aux_lemma =>
        go_wp2_with fail
        refine (pSame_same p _ _ _ (HIP.out.keep (by go_grown)) (HSP.out.keep (by go_grown))).mono ?_
        rintro e w15 ⟨rfl, hb⟩
        have hX : Below w14.heap.size w14 w15 := nextX (by go_grown) hb
        replace HU := Lib.hid (HU.out.keep hX)
        replace HP0 := Lib.hid (HP0.out.keep hX)
        replace HIP := Lib.hid (HIP.out.keep hX)
        replace HSP := Lib.hid (HSP.out.keep hX)
        have hC : Below w14.heap.size w14 w15 := hX
        clear hb hX
        go_wp2_with fail
        go_meet
        exact ⟨by first | rfl | (simp; done), by first | exact Below.refl _ _ | exact nextX hC (by go_grown) | go_grown⟩
      case rest => as_aux_lemma =>
        obtain ⟨rfl, hX⟩ := hcut
        obtain ⟨w16, hwc⟩ : ∃ X : World, X = wc := ⟨_, rfl⟩
        subst hwc
        replace HU := Lib.hid (HU.out.keep hX)
        replace HP0 := Lib.hid (HP0.out.keep hX)
        replace HIP := Lib.hid (HIP.out.keep hX)
        replace HSP := Lib.hid (HSP.out.keep hX)
        replace hB := nextW hB hX
        clear hX
        obtain ⟨d, hd⟩ : ∃ d, decide ((0 : Int) < n) = d := ⟨_, rfl⟩
        obtain ⟨e, he⟩ : ∃ e, (t2 && d) = e := ⟨_, rfl⟩
        have HE := Lib.hid he
        have HDn := Lib.hid hd
        clear he
        go_upto_region 27 with fail
        go_cut [186] (fun c wx => c = .bool e ∧ Below w16.heap.size w16 wx)
        case first => as_aux_lemma =>
          rcases t2 with _ | _
          · obtain rfl : e = false := HE.out.symm
            go_wp2_with fail
            go_meet
            exact ⟨by first | rfl | (simp; done), by first | exact Below.refl _ _ | go_grown⟩
          · obtain rfl : d = e := HE.out
            go_wp2_with fail
            go_meet
            exact ⟨by first | rfl | (simp; done), by first | exact Below.refl _ _ | go_grown⟩
        case rest => as_aux_lemma =>
          obtain ⟨rfl, hX⟩ := hcut
          obtain ⟨w17, hwc⟩ : ∃ X : World, X = wc := ⟨_, rfl⟩
          subst hwc
          replace HU := Lib.hid (HU.out.keep hX)
          replace HP0 := Lib.hid (HP0.out.keep hX)
          replace HIP := Lib.hid (HIP.out.keep hX)
          replace HSP := Lib.hid (HSP.out.keep hX)
          replace hB := nextW hB hX
          clear hX
          go_upto_if 186 with fail
          go_cut [] (fun wx => Below w17.heap.size w17 wx)
          case first => as_aux_lemma =>
            rcases e with _ | _
            · go_wp2_with fail
              go_meet
              first | exact Below.refl _ _ | go_grown
            · obtain ⟨rfl, rfl⟩ : t2 = true ∧ d = true := Bool.and_eq_true_iff.1 HE.out
              have hn0 : 0 < n := of_decide_eq_true HDn.out
              obtain ⟨l, hl1, hl2⟩ := power_next HP.out hn0
              have HL1 := Lib.hid hl1
              have HL2 := Lib.hid hl2
              clear hl1 hl2
              have hll : l.length ≤ 1048576 := by have := okMap_len (composeQ_parts HL2.out).2.1; omega
              have vn : IntKind.i64.wrap (n - 1) = n - 1 := IntWalk.i64_in _ (by omega)
              go_wp2_with fail
              refine (iPowerOfMap_is us _ (n - 1) l true HL1.out _ (HP0.out.keep (by go_grown)) (by omega)).mono ?_
              rintro e w18 ⟨vHIL, rfl, hi, hb⟩
              have hX : Below w17.heap.size w17 w18 := nextX (by go_grown) hb
              replace HU := Lib.hid (HU.out.keep hX)
              replace HP0 := Lib.hid (HP0.out.keep hX)
              replace HIP := Lib.hid (HIP.out.keep hX)
              replace HSP := Lib.hid (HSP.out.keep hX)
              have hC : Below w17.heap.size w17 w18 := hX
              clear hb hX
              have HIL := Lib.hid (hi.read)
              clear hi
              go_wp2_with fail
              refine (sPowerOfMap_is us _ (n - 1) l true HL1.out _ (HP0.out.keep (by go_grown)) (by omega)).mono ?_
              rintro e w19 ⟨vHSL, rfl, hi, hb⟩
              have hX : Below w18.heap.size w18 w19 := nextX (by go_grown) hb
              replace HU := Lib.hid (HU.out.keep hX)
              replace HP0 := Lib.hid (HP0.out.keep hX)
              replace HIP := Lib.hid (HIP.out.keep hX)
              replace HSP := Lib.hid (HSP.out.keep hX)
              replace HIL := Lib.hid (HIL.out.keep hX)
              replace hC := nextW hC hX
              clear hb hX
              have HSL := Lib.hid (hi.read)
              clear hi
              go_wp2_with fail
              refine (iComposeMaps_is us l _ _ p true HL2.out _ (HP0.out.keep (by go_grown)) (HIL.out.keep (by go_grown)) (by omega) hll).mono ?_
              rintro e w20 ⟨v8, rfl, hi, hb⟩
              have hX : Below w19.heap.size w19 w20 := nextX (by go_grown) hb
              replace HU := Lib.hid (HU.out.keep hX)
              replace HP0 := Lib.hid (HP0.out.keep hX)
              replace HIP := Lib.hid (HIP.out.keep hX)
              replace HSP := Lib.hid (HSP.out.keep hX)
              replace HIL := Lib.hid (HIL.out.keep hX)
              replace HSL := Lib.hid (HSL.out.keep hX)
              replace hC := nextW hC hX
              clear hb hX
              have HN := Lib.hid (hi.read)
              clear hi
              go_wp2_with fail
              refine (pSame_same l _ _ _ (HIL.out.keep (by go_grown)) (HSL.out.keep (by go_grown))).mono ?_
              rintro e w21 ⟨rfl, hb⟩
              have hX : Below w20.heap.size w20 w21 := nextX (by go_grown) hb
              replace HU := Lib.hid (HU.out.keep hX)
              replace HP0 := Lib.hid (HP0.out.keep hX)
              replace HIP := Lib.hid (HIP.out.keep hX)
              replace HSP := Lib.hid (HSP.out.keep hX)
              replace HIL := Lib.hid (HIL.out.keep hX)
              replace HSL := Lib.hid (HSL.out.keep hX)
              replace HN := Lib.hid (HN.out.keep hX)
              replace hC := nextW hC hX
              clear hb hX
              go_wp2_with fail
              refine (pSame_same p _ _ _ (HN.out.keep (by go_grown)) (HSP.out.keep (by go_grown))).mono ?_
              rintro e w22 ⟨rfl, hb⟩
              have hX : Below w21.heap.size w21 w22 := nextX (by go_grown) hb
              replace HU := Lib.hid (HU.out.keep hX)
              replace HP0 := Lib.hid (HP0.out.keep hX)
              replace HIP := Lib.hid (HIP.out.keep hX)
              replace HSP := Lib.hid (HSP.out.keep hX)
              replace HIL := Lib.hid (HIL.out.keep hX)
              replace HSL := Lib.hid (HSL.out.keep hX)
              replace HN := Lib.hid (HN.out.keep hX)
              replace hC := nextW hC hX
              clear hb hX
              go_wp2_with fail
              go_meet
              first | exact Below.refl _ _ | exact nextX hC (by go_grown) | go_grown
          case rest => as_aux_lemma =>
            have hX := hcut
            obtain ⟨w23, hwc⟩ : ∃ X : World, X = wc := ⟨_, rfl⟩
            subst hwc
            replace HU := Lib.hid (HU.out.keep hX)
            replace HP0 := Lib.hid (HP0.out.keep hX)
            replace HIP := Lib.hid (HIP.out.keep hX)
            replace HSP := Lib.hid (HSP.out.keep hX)
            replace hB := nextW hB hX
            clear hX hcut
            clear HP0 HIP HSP HP HE HDn
            go_wp2_with fail
            refine (drawCommute_is _ cs _ (HU.out.keep (by go_grown)) HCs.out).mono ?_
            rintro e w24 ⟨r4, r5, fa, ga, rfl, hr, hr2, hal, hb⟩
            have hX : Below w23.heap.size w23 w24 := nextX (by go_grown) hb
            replace HU := Lib.hid (HU.out.keep hX)
            replace hB := nextW hB hX
            clear hb hX
            have HA := Lib.hid hr.read
            have HB9 := Lib.hid hr2.read
            clear hr hr2
            obtain ⟨⟨c, t3⟩, hHD⟩ : ∃ r, commQ fa ga = r := ⟨_, rfl⟩
            have HD := Lib.hid hHD
            clear hHD
            obtain ⟨⟨sm, t4⟩, hHM⟩ : ∃ r, sameQ fa ga = r := ⟨_, rfl⟩
            have HM := Lib.hid hHM
            clear hHM
            obtain ⟨⟨m1, m2, t5⟩, hHT⟩ : ∃ r, greatQ fa ga = r := ⟨_, rfl⟩
            have HT := Lib.hid hHT
            clear hHT
            go_wp2_with fail
            refine (iDoCommute_is fa ga _ _ c t3 HD.out _ (HA.out.keep (by go_grown)) (HB9.out.keep (by go_grown)) (by omega) (by omega)).mono ?_
            rintro e w25 ⟨rfl, hb⟩
            have hX : Below w24.heap.size w24 w25 := nextX (by go_grown) hb
            replace HU := Lib.hid (HU.out.keep hX)
            replace HA := Lib.hid (HA.out.keep hX)
            replace HB9 := Lib.hid (HB9.out.keep hX)
            replace hB := nextW hB hX
            clear hb hX
            go_wp2_with fail
            refine (sDoCommute_is fa ga _ _ c t3 HD.out _ (HA.out.keep (by go_grown)) (HB9.out.keep (by go_grown)) (by omega) (by omega)).mono ?_
            rintro e w26 ⟨rfl, hb⟩
            have hX : Below w25.heap.size w25 w26 := nextX (by go_grown) hb
            replace HU := Lib.hid (HU.out.keep hX)
            replace HA := Lib.hid (HA.out.keep hX)
            replace HB9 := Lib.hid (HB9.out.keep hX)
            replace hB := nextW hB hX
            clear hb hX
            go_wp2_with fail
            refine (iAreSameMap_is fa ga _ _ sm t4 HM.out _ (HA.out.keep (by go_grown)) (HB9.out.keep (by go_grown)) (by omega) (by omega)).mono ?_
            rintro e w27 ⟨rfl, hb⟩
            have hX : Below w26.heap.size w26 w27 := nextX (by go_grown) hb
            replace HU := Lib.hid (HU.out.keep hX)
            replace HA := Lib.hid (HA.out.keep hX)
            replace HB9 := Lib.hid (HB9.out.keep hX)
            replace hB := nextW hB hX
            clear hb hX
            go_wp2_with fail
            refine (sAreSameMap_is fa ga _ _ sm t4 HM.out _ (HA.out.keep (by go_grown)) (HB9.out.keep (by go_grown)) (by omega) (by omega)).mono ?_
            rintro e w28 ⟨rfl, hb⟩
            have hX : Below w27.heap.size w27 w28 := nextX (by go_grown) hb
            replace HU := Lib.hid (HU.out.keep hX)
            replace HA := Lib.hid (HA.out.keep hX)
            replace HB9 := Lib.hid (HB9.out.keep hX)
            replace hB := nextW hB hX
            clear hb hX
            go_wp2_with fail
            refine (iGreatestDistance_is fa ga _ _ m1 m2 t5 HT.out _ (HA.out.keep (by go_grown)) (HB9.out.keep (by go_grown)) (by omega) (by omega)).mono ?_
            rintro e w29 ⟨rfl, hb⟩
            have hX : Below w28.heap.size w28 w29 := nextX (by go_grown) hb
            replace HU := Lib.hid (HU.out.keep hX)
            replace HA := Lib.hid (HA.out.keep hX)
            replace HB9 := Lib.hid (HB9.out.keep hX)
            replace hB := nextW hB hX
            clear hb hX
            go_wp2_with fail
            refine (sGreatestDistance_is fa ga _ _ m1 m2 t5 HT.out _ (HA.out.keep (by go_grown)) (HB9.out.keep (by go_grown)) (by omega) (by omega)).mono ?_
            rintro e w30 ⟨rfl, hb⟩
            have hX : Below w29.heap.size w29 w30 := nextX (by go_grown) hb
            replace HU := Lib.hid (HU.out.keep hX)
            replace HA := Lib.hid (HA.out.keep hX)
            replace HB9 := Lib.hid (HB9.out.keep hX)
            have ka0 : w30.cell? ⟨w29.heap.size, 0, none⟩ = some (.int .i64 m1) := cellB hb (by simp [go_sem])
            have zka0 := lt_of_cell ka0
            have ka1 : w30.cell? ⟨w29.heap.size, 1, none⟩ = some (.int .i64 m2) := cellB hb (by simp [go_sem])
            replace hB := nextW hB hX
            clear hb hX
            clear HU
            go_upto_region 40 with fail
            go_name_world w31 hW
            have hX : Below w30.heap.size w30 w31 := by rw [← hW]; go_grown
            replace HA := Lib.hid (HA.out.keep hX)
            replace HB9 := Lib.hid (HB9.out.keep hX)
            replace ka0 := cellB hX ka0
            replace zka0 := Nat.lt_of_lt_of_le zka0 hX.size
            replace ka1 := cellB hX ka1
            have kb0 : w31.cell? ⟨w30.heap.size, 0, none⟩ = some (.int .i64 m1) := by rw [← hW]; simp [go_sem]
            have zkb0 := lt_of_cell kb0
            have kb1 : w31.cell? ⟨w30.heap.size, 1, none⟩ = some (.int .i64 m2) := by rw [← hW]; simp [go_sem]
            replace hB := nextW hB hX
            clear hW hX
            go_cut [311] (fun c wx => c = .bool false ∧ Below w31.heap.size w31 wx)
            case first => as_aux_lemma =>
              rcases t5 with _ | _
              · go_wp2_with fail
                go_meet
                exact ⟨by first | rfl | (simp; done), by first | exact Below.refl _ _ | go_grown⟩
              · obtain ⟨ht4, hsm⟩ := great_same HT.out HM.out
                subst ht4
                by_cases hm0 : m1 = 0
                · subst hm0
                  have hs0 : sm = true := by rw [hsm]; rfl
                  subst hs0
                  clear hsm
                  go_wp2_with fail
                  go_meet
                  exact ⟨by first | rfl | (simp; done), by first | exact Below.refl _ _ | go_grown⟩
                · have hs0 : sm = false := by rw [hsm]; exact decide_eq_false hm0
                  subst hs0
                  clear hsm
                  have hm1 : (m1 == 0) = false := by simpa using hm0
                  go_wp2_with fail
                  go_meet
                  exact ⟨by first | rfl | (simp; done), by first | exact Below.refl _ _ | go_grown⟩
            case rest => as_aux_lemma =>
              obtain ⟨rfl, hX⟩ := hcut
              obtain ⟨w32, hwc⟩ : ∃ X : World, X = wc := ⟨_, rfl⟩
              subst hwc
              replace HA := Lib.hid (HA.out.keep hX)
              replace HB9 := Lib.hid (HB9.out.keep hX)
              replace ka0 := cellB hX ka0
              replace zka0 := Nat.lt_of_lt_of_le zka0 hX.size
              replace ka1 := cellB hX ka1
              replace kb0 := cellB hX kb0
              replace zkb0 := Nat.lt_of_lt_of_le zkb0 hX.size
              replace kb1 := cellB hX kb1
              replace hB := nextW hB hX
              clear hX
              go_upto_region 42 with fail
              go_cut [319] (fun c wx => c = .bool false ∧ Below w32.heap.size w32 wx)
              case first => as_aux_lemma =>
                rcases t3 with _ | _
                · go_wp2_with fail
                  go_meet
                  exact ⟨by first | rfl | (simp; done), by first | exact Below.refl _ _ | go_grown⟩
                · rcases sm with _ | _
                  · go_wp2_with fail
                    go_meet
                    exact ⟨by first | rfl | (simp; done), by first | exact Below.refl _ _ | go_grown⟩
                  · have hc0 := same_commutes HD.out HM.out
                    subst hc0
                    go_wp2_with fail
                    go_meet
                    exact ⟨by first | rfl | (simp; done), by first | exact Below.refl _ _ | go_grown⟩
              case rest => as_aux_lemma =>
                obtain ⟨rfl, hX⟩ := hcut
                obtain ⟨w33, hwc⟩ : ∃ X : World, X = wc := ⟨_, rfl⟩
                subst hwc
                replace HA := Lib.hid (HA.out.keep hX)
                replace HB9 := Lib.hid (HB9.out.keep hX)
                replace ka0 := cellB hX ka0
                replace zka0 := Nat.lt_of_lt_of_le zka0 hX.size
                replace ka1 := cellB hX ka1
                replace kb0 := cellB hX kb0
                replace zkb0 := Nat.lt_of_lt_of_le zkb0 hX.size
                replace kb1 := cellB hX kb1
                replace hB := nextW hB hX
                clear hX
                go_wp2_with fail
                go_ret
                exact ⟨rfl, by first | exact hB | exact nextX hB (by go_grown)⟩

set_option maxRecDepth 100000 in
theorem lifted (os : Os) (started : os.Started) (H : Type) (enc : TypeId × Value → H) :
    ReturnsInHanded {} Tryz.checked os 3 .any (Rows.fnCompositionsSpec.pre6 enc Tryz.prog Tryz.f3 Rows.fnCompositionsRow.domain false) (Rows.fnCompositionsSpec.post enc Tryz.prog Tryz.f3 false true false false) := by
  refine returnsInHanded_of_change (C := Tryz.checked) Tryz.own started (by kernel_rfl) Tryz.func3
    (ChangeSpec.witness6 (enc := enc) (C := Tryz.checked) false ⟨#[], #[.slice none 0 0, .slice none 0 0], []⟩ 8 (by kernel_rfl) (by kernel_rfl) (by kernel_rfl) (by kernel_rfl)) ?_
  intro W base args ds gs before hval0 hW hcnd _
  have hval : ∀ (j : Nat) t v, Tryz.f3.params[j]? = some t → args[j]? = some v → Value.okWide Tryz.prog W .any base t v := hval0
  have hW' := hW
  obtain ⟨p, q, hA0, hV, rfl, hfz, hnd⟩ := hW
  have hA : DataW.TrodAll enc Tryz.prog W 0 (fun _ => true) true Tryz.f3.params.toList args.toList ds p := hA0
  rw [Tryz.params3] at hA hval
  obtain ⟨v0, v1, d0, d1, p0, p1, rfl, rfl, rfl, h0, h1⟩ := trodAll_two hA
  obtain ⟨bs0, hr0, hb0⟩ := open_code (hval 0 22 v0 rfl rfl) h0
  obtain ⟨bs1, hr1, hb1⟩ := open_code (hval 1 22 v1 rfl rfl) h1
  refine (walk _ _ bs0 bs1 W hr0 hr1 hb0 hb1).mono fun e W' ⟨he, hb⟩ => ?_
  subst he
  exact ⟨_, rfl, law_close Tryz.laidOut (by kernel_rfl) (by kernel_rfl) Tryz.underlying4 rfl hW' (fun h => by rfl) hb⟩

theorem proved : Rows.FnCompositionsSaid :=
  OpenClaim.holds_of_wide 3 Tryz.f3 rfl rfl rfl rfl rfl rfl rfl ⟨rfl, rfl, rfl, rfl, rfl⟩ rfl rfl rfl rfl rfl (by kernel_rfl) Tryz.func3 (by kernel_rfl)
    (of_decide_eq_true (by kernel_rfl)) (by unfold Func.isWrapper; first | (rw [if_pos (by decide +kernel)]; kernel_rfl) | (rw [if_neg (by decide +kernel)]; exact ⟨rfl, rfl⟩))
    (fun os started H enc _ => lifted os started H enc)

end Go.Proofs.YtkeajfgcjmhmiaaGreat.lawFnCompositions
