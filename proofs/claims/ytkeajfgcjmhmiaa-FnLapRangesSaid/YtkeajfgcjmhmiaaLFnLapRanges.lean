/- Proved: for every drawn maps, laps have slopes of one sign and neighbours of another, and turning points lie between them; an image bounds the values; the arguments read afterwards as they did. No condition. -/
import Derived.Test.YtkeajfgcjmhmiaaCode
import Derived.Test.YtkeajfgcjmhmiaaQr
import Derived.Test.YtkeajfgcjmhmiaaQl
import Derived.Test.YtkeajfgcjmhmiaaDrF
import Derived.Test.YtkeajfgcjmhmiaaDrL
import Derived.Test.YtkeajfgcjmhmiaaLapP
import Derived.Test.YtkeajfgcjmhmiaaLapB
import Derived.Test.YtkeajfgcjmhmiaaLapC
import Derived.Test.YtkeajfgcjmhmiaaImgD
import Derived.Test.YtkeajfgcjmhmiaaLaws
namespace Go.Proofs.Ytkeajfgcjmhmiaa.lawFnLapRanges
open Go.Proofs.Ytkeajfgcjmhmiaa
open Go.ChangeShapes Go.WideShapes Go.ChangeAt Go.RowKit Go.Joins

theorem qUp_val {n1 d1 n2 d2 r : Int} (s1 : Sm n1 ∧ Sm d1) (s2 : Sm n2 ∧ Sm d2) (h : cmpQ n1 d1 n2 d2 = r) (w : World) :
    Calls Try.prog 17 #[.agg #[.int .i64 n1, .int .i64 d1], .agg #[.int .i64 n2, .int .i64 d2]] w fun e w' => e = .returned (.int .i64 r) ∧ Below w.heap.size w w' := by
  subst h; exact qUp_is n1 d1 n2 d2 s1 s2 w

set_option maxRecDepth 100000 in
set_option maxHeartbeats 12800000 in
theorem walk (v u : Value) (bs cs : List Int) (w : World) (hv : RdN .u8 w v bs) (hu : RdN .u8 w u cs) (hbs : ∀ x ∈ bs, 0 ≤ x ∧ x ≤ 255) (hcs : ∀ x ∈ cs, 0 ≤ x ∧ x ≤ 255) :
    Calls Try.prog 3 #[v, u] w fun e w' => e = .returned (.bool true) ∧ Below w.heap.size w w' := by
  have HV := Lib.hid hv
  have HU := Lib.hid hu
  have HBs := Lib.hid hbs
  have HCs := Lib.hid hcs
  obtain ⟨A, cv, rfl, hl1, hm1, -⟩ := hv
  obtain ⟨A2, cu, rfl, hl2, hm2, -⟩ := hu
  unfold maxLen at hm1 hm2
  clear hbs hcs
  obtain ⟨nlen, vlen⟩ : ∃ n, IntKind.i64.wrap ((bs.length : Int) + (cs.length : Int)) = n := ⟨_, rfl⟩
  by_cases hbig : (1048576 : Int) < nlen
  · have hbig' : decide ((1048576 : Int) < nlen) = true := decide_eq_true hbig
    go_enter Try.func3, Try.ntmps3
    go_wp2_with fail
    go_ret
    exact ⟨rfl, by go_grown⟩
  have hbig' : decide ((1048576 : Int) < nlen) = false := decide_eq_false hbig
  go_enter Try.func3, Try.ntmps3
  go_wp2_with fail
  refine (drawLaps_is _ bs _ (HV.out.keep (by go_grown)) HBs.out).mono ?_
  rintro e w1 ⟨r, ps, rfl, hr, hpl, hb⟩
  have hX : Below w.heap.size w w1 := nextX (by go_grown) hb
  replace HV := Lib.hid (HV.out.keep hX)
  replace HU := Lib.hid (HU.out.keep hX)
  have hB : Below w.heap.size w w1 := hX
  clear hb hX
  have HR := Lib.hid hr.read
  clear hr
  obtain ⟨⟨rs, t⟩, hHL⟩ : ∃ r, lapsOfQ ps = r := ⟨_, rfl⟩
  have HL := Lib.hid hHL
  clear hHL
  obtain ⟨⟨sl, t2⟩, hHSl⟩ : ∃ r, slopesOfQ ps = r := ⟨_, rfl⟩
  have HSl := Lib.hid hHSl
  clear hHSl
  obtain ⟨⟨tu, t3⟩, hHTu⟩ : ∃ r, turnsQ ps = r := ⟨_, rfl⟩
  have HTu := Lib.hid hHTu
  clear hHTu
  obtain ⟨et2, et3, hyes, hno⟩ := lap_law HL.out HSl.out HTu.out
  subst et2
  subst et3
  have LL := Lib.hid hyes
  have LN := Lib.hid hno
  clear hyes hno
  go_wp2_with fail
  refine (iLapsOf_is ps _ rs _ HL.out _ (HR.out.keep (by go_grown)) (by omega)).mono ?_
  rintro e w2 ⟨iv, rfl, hi, hb⟩
  have hX : Below w1.heap.size w1 w2 := nextX (by go_grown) hb
  replace HV := Lib.hid (HV.out.keep hX)
  replace HU := Lib.hid (HU.out.keep hX)
  replace HR := Lib.hid (HR.out.keep hX)
  replace hB := nextW hB hX
  clear hb hX
  have HI := Lib.hid (hi)
  clear hi
  go_wp2_with fail
  refine (sLapsOf_is ps _ rs _ HL.out _ (HR.out.keep (by go_grown)) (by omega)).mono ?_
  rintro e w3 ⟨sv, rfl, hi, hb⟩
  have hX : Below w2.heap.size w2 w3 := nextX (by go_grown) hb
  replace HV := Lib.hid (HV.out.keep hX)
  replace HU := Lib.hid (HU.out.keep hX)
  replace HR := Lib.hid (HR.out.keep hX)
  replace HI := Lib.hid (HI.out.keep hX)
  replace hB := nextW hB hX
  clear hb hX
  have HS := Lib.hid (hi)
  clear hi
  go_wp2_with fail
  refine (iSlopesOf_is ps _ sl _ HSl.out _ (HR.out.keep (by go_grown)) (by omega)).mono ?_
  rintro e w4 ⟨iv2, rfl, hi, hb⟩
  have hX : Below w3.heap.size w3 w4 := nextX (by go_grown) hb
  replace HV := Lib.hid (HV.out.keep hX)
  replace HU := Lib.hid (HU.out.keep hX)
  replace HR := Lib.hid (HR.out.keep hX)
  replace HI := Lib.hid (HI.out.keep hX)
  replace HS := Lib.hid (HS.out.keep hX)
  replace hB := nextW hB hX
  clear hb hX
  have HI2 := Lib.hid (hi.read)
  clear hi
  go_wp2_with fail
  refine (sSlopesOf_is ps _ sl _ HSl.out _ (HR.out.keep (by go_grown)) (by omega)).mono ?_
  rintro e w5 ⟨sv2, rfl, hi, hb⟩
  have hX : Below w4.heap.size w4 w5 := nextX (by go_grown) hb
  replace HV := Lib.hid (HV.out.keep hX)
  replace HU := Lib.hid (HU.out.keep hX)
  replace HR := Lib.hid (HR.out.keep hX)
  replace HI := Lib.hid (HI.out.keep hX)
  replace HS := Lib.hid (HS.out.keep hX)
  replace HI2 := Lib.hid (HI2.out.keep hX)
  replace hB := nextW hB hX
  clear hb hX
  have HS2 := Lib.hid (hi.read)
  clear hi
  go_wp2_with fail
  refine (iTurningPoints_is ps _ tu _ HTu.out _ (HR.out.keep (by go_grown)) (by omega)).mono ?_
  rintro e w6 ⟨iv3, rfl, hi, hb⟩
  have hX : Below w5.heap.size w5 w6 := nextX (by go_grown) hb
  replace HV := Lib.hid (HV.out.keep hX)
  replace HU := Lib.hid (HU.out.keep hX)
  replace HR := Lib.hid (HR.out.keep hX)
  replace HI := Lib.hid (HI.out.keep hX)
  replace HS := Lib.hid (HS.out.keep hX)
  replace HI2 := Lib.hid (HI2.out.keep hX)
  replace HS2 := Lib.hid (HS2.out.keep hX)
  replace hB := nextW hB hX
  clear hb hX
  have HI3 := Lib.hid (hi.read)
  clear hi
  go_wp2_with fail
  refine (sTurningPoints_is ps _ tu _ HTu.out _ (HR.out.keep (by go_grown)) (by omega)).mono ?_
  rintro e w7 ⟨sv3, rfl, hi, hb⟩
  have hX : Below w6.heap.size w6 w7 := nextX (by go_grown) hb
  replace HV := Lib.hid (HV.out.keep hX)
  replace HU := Lib.hid (HU.out.keep hX)
  replace HR := Lib.hid (HR.out.keep hX)
  replace HI := Lib.hid (HI.out.keep hX)
  replace HS := Lib.hid (HS.out.keep hX)
  replace HI2 := Lib.hid (HI2.out.keep hX)
  replace HS2 := Lib.hid (HS2.out.keep hX)
  replace HI3 := Lib.hid (HI3.out.keep hX)
  replace hB := nextW hB hX
  clear hb hX
  have HS3 := Lib.hid (hi.read)
  clear hi
  go_wp2_with fail
  refine (drawImage_is _ cs _ (HU.out.keep (by go_grown)) HCs.out).mono ?_
  rintro e w8 ⟨r2, ps2, a1, a2, b1, b2, rfl, hr, hpl2, hb⟩
  have hX : Below w7.heap.size w7 w8 := nextX (by go_grown) hb
  replace HV := Lib.hid (HV.out.keep hX)
  replace HU := Lib.hid (HU.out.keep hX)
  replace HR := Lib.hid (HR.out.keep hX)
  replace HI := Lib.hid (HI.out.keep hX)
  replace HS := Lib.hid (HS.out.keep hX)
  replace HI2 := Lib.hid (HI2.out.keep hX)
  replace HS2 := Lib.hid (HS2.out.keep hX)
  replace HI3 := Lib.hid (HI3.out.keep hX)
  replace HS3 := Lib.hid (HS3.out.keep hX)
  replace hB := nextW hB hX
  clear hb hX
  have HG := Lib.hid hr.read
  clear hr
  obtain ⟨⟨k1, k2, k3, k4, t5⟩, hHIm⟩ : ∃ r, imageQ ps2 (a1, a2) (b1, b2) = r := ⟨_, rfl⟩
  have HIm := Lib.hid hHIm
  clear hHIm
  go_wp2_with fail
  refine (iImageOf_is ps2 _ a1 a2 b1 b2 k1 k2 k3 k4 t5 HIm.out _ (HG.out.keep (by go_grown)) (by omega)).mono ?_
  rintro e w9 ⟨rfl, hb⟩
  have hX : Below w8.heap.size w8 w9 := nextX (by go_grown) hb
  replace HV := Lib.hid (HV.out.keep hX)
  replace HU := Lib.hid (HU.out.keep hX)
  replace HR := Lib.hid (HR.out.keep hX)
  replace HI := Lib.hid (HI.out.keep hX)
  replace HS := Lib.hid (HS.out.keep hX)
  replace HI2 := Lib.hid (HI2.out.keep hX)
  replace HS2 := Lib.hid (HS2.out.keep hX)
  replace HI3 := Lib.hid (HI3.out.keep hX)
  replace HS3 := Lib.hid (HS3.out.keep hX)
  replace HG := Lib.hid (HG.out.keep hX)
  have ka0 : w9.cell? ⟨w8.heap.size, 0, none⟩ = some (.int .i64 a1) := cellB hb (by simp [go_sem])
  have zka0 := lt_of_cell ka0
  have ka1 : w9.cell? ⟨w8.heap.size, 1, none⟩ = some (.int .i64 a2) := cellB hb (by simp [go_sem])
  have kb0 : w9.cell? ⟨w8.heap.size + 1, 0, none⟩ = some (.int .i64 b1) := cellB hb (by simp [go_sem])
  have zkb0 := lt_of_cell kb0
  have kb1 : w9.cell? ⟨w8.heap.size + 1, 1, none⟩ = some (.int .i64 b2) := cellB hb (by simp [go_sem])
  replace hB := nextW hB hX
  clear hb hX
  go_wp2_with fail
  refine (sImageOf_is ps2 _ a1 a2 b1 b2 k1 k2 k3 k4 t5 HIm.out _ (HG.out.keep (by go_grown)) (by omega)).mono ?_
  rintro e w10 ⟨rfl, hb⟩
  have hX : Below w9.heap.size w9 w10 := nextX (by go_grown) hb
  replace HV := Lib.hid (HV.out.keep hX)
  replace HU := Lib.hid (HU.out.keep hX)
  replace HR := Lib.hid (HR.out.keep hX)
  replace HI := Lib.hid (HI.out.keep hX)
  replace HS := Lib.hid (HS.out.keep hX)
  replace HI2 := Lib.hid (HI2.out.keep hX)
  replace HS2 := Lib.hid (HS2.out.keep hX)
  replace HI3 := Lib.hid (HI3.out.keep hX)
  replace HS3 := Lib.hid (HS3.out.keep hX)
  replace HG := Lib.hid (HG.out.keep hX)
  replace ka0 := cellB hX ka0
  replace zka0 := Nat.lt_of_lt_of_le zka0 hX.size
  replace ka1 := cellB hX ka1
  replace kb0 := cellB hX kb0
  replace zkb0 := Nat.lt_of_lt_of_le zkb0 hX.size
  replace kb1 := cellB hX kb1
  have kp0 : w10.cell? ⟨w9.heap.size, 0, none⟩ = some (.int .i64 k1) := cellB hb (by simp [go_sem])
  have zkp0 := lt_of_cell kp0
  have kp1 : w10.cell? ⟨w9.heap.size, 1, none⟩ = some (.int .i64 k2) := cellB hb (by simp [go_sem])
  have kq0 : w10.cell? ⟨w9.heap.size + 1, 0, none⟩ = some (.int .i64 k3) := cellB hb (by simp [go_sem])
  have zkq0 := lt_of_cell kq0
  have kq1 : w10.cell? ⟨w9.heap.size + 1, 1, none⟩ = some (.int .i64 k4) := cellB hb (by simp [go_sem])
  replace hB := nextW hB hX
  clear hb hX
  obtain ⟨LA, lc, hsv, hsl, hsm⟩ := HS.out.shape
  subst hsv
  obtain ⟨TA, tc, hsv, htl, htm, -⟩ := HS3.out
  subst hsv
  obtain ⟨TA2, tc2, hsv2, htl2, htm2, -⟩ := HI3.out
  subst hsv2
  obtain ⟨RA, rc, hsv3, hrl, hrm, -⟩ := HR.out
  subst hsv3
  obtain ⟨GA, gc, hsv4, hgl, hgm, -⟩ := HG.out
  subst hsv4
  obtain ⟨SA2, sc2, hsv9, hsl9, hsm9, -⟩ := HS2.out
  subst hsv9
  unfold maxLen at hsm htm htm2 hrm hgm hsm9
  go_upto_region 13 with fail
  go_name_world w11 hW
  have hX : Below w10.heap.size w10 w11 := by rw [← hW]; go_grown
  replace HV := Lib.hid (HV.out.keep hX)
  replace HU := Lib.hid (HU.out.keep hX)
  replace HR := Lib.hid (HR.out.keep hX)
  replace HI := Lib.hid (HI.out.keep hX)
  replace HS := Lib.hid (HS.out.keep hX)
  replace HI2 := Lib.hid (HI2.out.keep hX)
  replace HS2 := Lib.hid (HS2.out.keep hX)
  replace HI3 := Lib.hid (HI3.out.keep hX)
  replace HS3 := Lib.hid (HS3.out.keep hX)
  replace HG := Lib.hid (HG.out.keep hX)
  replace ka0 := cellB hX ka0
  replace zka0 := Nat.lt_of_lt_of_le zka0 hX.size
  replace ka1 := cellB hX ka1
  replace kb0 := cellB hX kb0
  replace zkb0 := Nat.lt_of_lt_of_le zkb0 hX.size
  replace kb1 := cellB hX kb1
  replace kp0 := cellB hX kp0
  replace zkp0 := Nat.lt_of_lt_of_le zkp0 hX.size
  replace kp1 := cellB hX kp1
  replace kq0 := cellB hX kq0
  replace zkq0 := Nat.lt_of_lt_of_le zkq0 hX.size
  replace kq1 := cellB hX kq1
  have kl0 : w11.cell? ⟨w10.heap.size, 0, none⟩ = some (.int .i64 k1) := by rw [← hW]; simp [go_sem]
  have zkl0 := lt_of_cell kl0
  have kl1 : w11.cell? ⟨w10.heap.size, 1, none⟩ = some (.int .i64 k2) := by rw [← hW]; simp [go_sem]
  have kh0 : w11.cell? ⟨w10.heap.size + 1, 0, none⟩ = some (.int .i64 k3) := by rw [← hW]; simp [go_sem]
  have zkh0 := lt_of_cell kh0
  have kh1 : w11.cell? ⟨w10.heap.size + 1, 1, none⟩ = some (.int .i64 k4) := by rw [← hW]; simp [go_sem]
  replace hB := nextW hB hX
  clear hW hX
  go_cut [152] (fun c wx => c = .bool false ∧ Below w11.heap.size w11 wx)
  case first => as_aux_lemma =>
    rcases t3 with _ | _
    · go_wp2_with fail
      refine (qLists_same _ _ _ _ rs _ (HI.out.keep (by go_grown)) (HS.out.keep (by go_grown))).mono ?_
      rintro e w12 ⟨rfl, hb⟩
      have hX : Below w11.heap.size w11 w12 := nextX (by go_grown) hb
      replace HV := Lib.hid (HV.out.keep hX)
      replace HU := Lib.hid (HU.out.keep hX)
      replace HR := Lib.hid (HR.out.keep hX)
      replace HI := Lib.hid (HI.out.keep hX)
      replace HS := Lib.hid (HS.out.keep hX)
      replace HI2 := Lib.hid (HI2.out.keep hX)
      replace HS2 := Lib.hid (HS2.out.keep hX)
      replace HI3 := Lib.hid (HI3.out.keep hX)
      replace HS3 := Lib.hid (HS3.out.keep hX)
      replace HG := Lib.hid (HG.out.keep hX)
      replace ka0 := cellB hX ka0
      replace zka0 := Nat.lt_of_lt_of_le zka0 hX.size
      replace ka1 := cellB hX ka1
      replace kb0 := cellB hX kb0
      replace zkb0 := Nat.lt_of_lt_of_le zkb0 hX.size
      replace kb1 := cellB hX kb1
      replace kp0 := cellB hX kp0
      replace zkp0 := Nat.lt_of_lt_of_le zkp0 hX.size
      replace kp1 := cellB hX kp1
      replace kq0 := cellB hX kq0
      replace zkq0 := Nat.lt_of_lt_of_le zkq0 hX.size
      replace kq1 := cellB hX kq1
      replace kl0 := cellB hX kl0
      replace zkl0 := Nat.lt_of_lt_of_le zkl0 hX.size
      replace kl1 := cellB hX kl1
      replace kh0 := cellB hX kh0
      replace zkh0 := Nat.lt_of_lt_of_le zkh0 hX.size
      replace kh1 := cellB hX kh1
      have hC : Below w11.heap.size w11 w12 := hX
      clear hb hX
      go_wp2_with fail
      refine (qRats_same sl _ _ _ (HI2.out.keep (by go_grown)) (HS2.out.keep (by go_grown))).mono ?_
      rintro e w13 ⟨rfl, hb⟩
      have hX : Below w12.heap.size w12 w13 := nextX (by go_grown) hb
      replace HV := Lib.hid (HV.out.keep hX)
      replace HU := Lib.hid (HU.out.keep hX)
      replace HR := Lib.hid (HR.out.keep hX)
      replace HI := Lib.hid (HI.out.keep hX)
      replace HS := Lib.hid (HS.out.keep hX)
      replace HI2 := Lib.hid (HI2.out.keep hX)
      replace HS2 := Lib.hid (HS2.out.keep hX)
      replace HI3 := Lib.hid (HI3.out.keep hX)
      replace HS3 := Lib.hid (HS3.out.keep hX)
      replace HG := Lib.hid (HG.out.keep hX)
      replace ka0 := cellB hX ka0
      replace zka0 := Nat.lt_of_lt_of_le zka0 hX.size
      replace ka1 := cellB hX ka1
      replace kb0 := cellB hX kb0
      replace zkb0 := Nat.lt_of_lt_of_le zkb0 hX.size
      replace kb1 := cellB hX kb1
      replace kp0 := cellB hX kp0
      replace zkp0 := Nat.lt_of_lt_of_le zkp0 hX.size
      replace kp1 := cellB hX kp1
      replace kq0 := cellB hX kq0
      replace zkq0 := Nat.lt_of_lt_of_le zkq0 hX.size
      replace kq1 := cellB hX kq1
      replace kl0 := cellB hX kl0
      replace zkl0 := Nat.lt_of_lt_of_le zkl0 hX.size
      replace kl1 := cellB hX kl1
      replace kh0 := cellB hX kh0
      replace zkh0 := Nat.lt_of_lt_of_le zkh0 hX.size
      replace kh1 := cellB hX kh1
      replace hC := nextW hC hX
      clear hb hX
      go_wp2_with fail
      refine (qRats_same tu _ _ _ (HI3.out.keep (by go_grown)) (HS3.out.keep (by go_grown))).mono ?_
      rintro e w14 ⟨rfl, hb⟩
      have hX : Below w13.heap.size w13 w14 := nextX (by go_grown) hb
      replace HV := Lib.hid (HV.out.keep hX)
      replace HU := Lib.hid (HU.out.keep hX)
      replace HR := Lib.hid (HR.out.keep hX)
      replace HI := Lib.hid (HI.out.keep hX)
      replace HS := Lib.hid (HS.out.keep hX)
      replace HI2 := Lib.hid (HI2.out.keep hX)
      replace HS2 := Lib.hid (HS2.out.keep hX)
      replace HI3 := Lib.hid (HI3.out.keep hX)
      replace HS3 := Lib.hid (HS3.out.keep hX)
      replace HG := Lib.hid (HG.out.keep hX)
      replace ka0 := cellB hX ka0
      replace zka0 := Nat.lt_of_lt_of_le zka0 hX.size
      replace ka1 := cellB hX ka1
      replace kb0 := cellB hX kb0
      replace zkb0 := Nat.lt_of_lt_of_le zkb0 hX.size
      replace kb1 := cellB hX kb1
      replace kp0 := cellB hX kp0
      replace zkp0 := Nat.lt_of_lt_of_le zkp0 hX.size
      replace kp1 := cellB hX kp1
      replace kq0 := cellB hX kq0
      replace zkq0 := Nat.lt_of_lt_of_le zkq0 hX.size
      replace kq1 := cellB hX kq1
      replace kl0 := cellB hX kl0
      replace zkl0 := Nat.lt_of_lt_of_le zkl0 hX.size
      replace kl1 := cellB hX kl1
      replace kh0 := cellB hX kh0
      replace zkh0 := Nat.lt_of_lt_of_le zkh0 hX.size
      replace kh1 := cellB hX kh1
      replace hC := nextW hC hX
      clear hb hX
      go_wp2_with fail
      go_meet
      exact ⟨by first | rfl | (simp; done) | (simp; omega), by first | exact Below.refl _ _ | exact nextX hC (by go_grown) | go_grown⟩
    · go_wp2_with fail
      refine (qLists_same _ _ _ _ rs _ (HI.out.keep (by go_grown)) (HS.out.keep (by go_grown))).mono ?_
      rintro e w12 ⟨rfl, hb⟩
      have hX : Below w11.heap.size w11 w12 := nextX (by go_grown) hb
      replace HV := Lib.hid (HV.out.keep hX)
      replace HU := Lib.hid (HU.out.keep hX)
      replace HR := Lib.hid (HR.out.keep hX)
      replace HI := Lib.hid (HI.out.keep hX)
      replace HS := Lib.hid (HS.out.keep hX)
      replace HI2 := Lib.hid (HI2.out.keep hX)
      replace HS2 := Lib.hid (HS2.out.keep hX)
      replace HI3 := Lib.hid (HI3.out.keep hX)
      replace HS3 := Lib.hid (HS3.out.keep hX)
      replace HG := Lib.hid (HG.out.keep hX)
      replace ka0 := cellB hX ka0
      replace zka0 := Nat.lt_of_lt_of_le zka0 hX.size
      replace ka1 := cellB hX ka1
      replace kb0 := cellB hX kb0
      replace zkb0 := Nat.lt_of_lt_of_le zkb0 hX.size
      replace kb1 := cellB hX kb1
      replace kp0 := cellB hX kp0
      replace zkp0 := Nat.lt_of_lt_of_le zkp0 hX.size
      replace kp1 := cellB hX kp1
      replace kq0 := cellB hX kq0
      replace zkq0 := Nat.lt_of_lt_of_le zkq0 hX.size
      replace kq1 := cellB hX kq1
      replace kl0 := cellB hX kl0
      replace zkl0 := Nat.lt_of_lt_of_le zkl0 hX.size
      replace kl1 := cellB hX kl1
      replace kh0 := cellB hX kh0
      replace zkh0 := Nat.lt_of_lt_of_le zkh0 hX.size
      replace kh1 := cellB hX kh1
      have hC : Below w11.heap.size w11 w12 := hX
      clear hb hX
      go_wp2_with fail
      refine (qRats_same sl _ _ _ (HI2.out.keep (by go_grown)) (HS2.out.keep (by go_grown))).mono ?_
      rintro e w13 ⟨rfl, hb⟩
      have hX : Below w12.heap.size w12 w13 := nextX (by go_grown) hb
      replace HV := Lib.hid (HV.out.keep hX)
      replace HU := Lib.hid (HU.out.keep hX)
      replace HR := Lib.hid (HR.out.keep hX)
      replace HI := Lib.hid (HI.out.keep hX)
      replace HS := Lib.hid (HS.out.keep hX)
      replace HI2 := Lib.hid (HI2.out.keep hX)
      replace HS2 := Lib.hid (HS2.out.keep hX)
      replace HI3 := Lib.hid (HI3.out.keep hX)
      replace HS3 := Lib.hid (HS3.out.keep hX)
      replace HG := Lib.hid (HG.out.keep hX)
      replace ka0 := cellB hX ka0
      replace zka0 := Nat.lt_of_lt_of_le zka0 hX.size
      replace ka1 := cellB hX ka1
      replace kb0 := cellB hX kb0
      replace zkb0 := Nat.lt_of_lt_of_le zkb0 hX.size
      replace kb1 := cellB hX kb1
      replace kp0 := cellB hX kp0
      replace zkp0 := Nat.lt_of_lt_of_le zkp0 hX.size
      replace kp1 := cellB hX kp1
      replace kq0 := cellB hX kq0
      replace zkq0 := Nat.lt_of_lt_of_le zkq0 hX.size
      replace kq1 := cellB hX kq1
      replace kl0 := cellB hX kl0
      replace zkl0 := Nat.lt_of_lt_of_le zkl0 hX.size
      replace kl1 := cellB hX kl1
      replace kh0 := cellB hX kh0
      replace zkh0 := Nat.lt_of_lt_of_le zkh0 hX.size
      replace kh1 := cellB hX kh1
      replace hC := nextW hC hX
      clear hb hX
      go_wp2_with fail
      refine (qRats_same tu _ _ _ (HI3.out.keep (by go_grown)) (HS3.out.keep (by go_grown))).mono ?_
      rintro e w14 ⟨rfl, hb⟩
      have hX : Below w13.heap.size w13 w14 := nextX (by go_grown) hb
      replace HV := Lib.hid (HV.out.keep hX)
      replace HU := Lib.hid (HU.out.keep hX)
      replace HR := Lib.hid (HR.out.keep hX)
      replace HI := Lib.hid (HI.out.keep hX)
      replace HS := Lib.hid (HS.out.keep hX)
      replace HI2 := Lib.hid (HI2.out.keep hX)
      replace HS2 := Lib.hid (HS2.out.keep hX)
      replace HI3 := Lib.hid (HI3.out.keep hX)
      replace HS3 := Lib.hid (HS3.out.keep hX)
      replace HG := Lib.hid (HG.out.keep hX)
      replace ka0 := cellB hX ka0
      replace zka0 := Nat.lt_of_lt_of_le zka0 hX.size
      replace ka1 := cellB hX ka1
      replace kb0 := cellB hX kb0
      replace zkb0 := Nat.lt_of_lt_of_le zkb0 hX.size
      replace kb1 := cellB hX kb1
      replace kp0 := cellB hX kp0
      replace zkp0 := Nat.lt_of_lt_of_le zkp0 hX.size
      replace kp1 := cellB hX kp1
      replace kq0 := cellB hX kq0
      replace zkq0 := Nat.lt_of_lt_of_le zkq0 hX.size
      replace kq1 := cellB hX kq1
      replace kl0 := cellB hX kl0
      replace zkl0 := Nat.lt_of_lt_of_le zkl0 hX.size
      replace kl1 := cellB hX kl1
      replace kh0 := cellB hX kh0
      replace zkh0 := Nat.lt_of_lt_of_le zkh0 hX.size
      replace kh1 := cellB hX kh1
      replace hC := nextW hC hX
      clear hb hX
      go_wp2_with fail
      go_meet
      exact ⟨by first | rfl | (simp; done) | (simp; omega), by first | exact Below.refl _ _ | exact nextX hC (by go_grown) | go_grown⟩
  case rest => as_aux_lemma =>
    obtain ⟨rfl, hX⟩ := hcut
    obtain ⟨w15, hwc⟩ : ∃ X : World, X = wc := ⟨_, rfl⟩
    subst hwc
    replace HV := Lib.hid (HV.out.keep hX)
    replace HU := Lib.hid (HU.out.keep hX)
    replace HR := Lib.hid (HR.out.keep hX)
    replace HI := Lib.hid (HI.out.keep hX)
    replace HS := Lib.hid (HS.out.keep hX)
    replace HI2 := Lib.hid (HI2.out.keep hX)
    replace HS2 := Lib.hid (HS2.out.keep hX)
    replace HI3 := Lib.hid (HI3.out.keep hX)
    replace HS3 := Lib.hid (HS3.out.keep hX)
    replace HG := Lib.hid (HG.out.keep hX)
    replace ka0 := cellB hX ka0
    replace zka0 := Nat.lt_of_lt_of_le zka0 hX.size
    replace ka1 := cellB hX ka1
    replace kb0 := cellB hX kb0
    replace zkb0 := Nat.lt_of_lt_of_le zkb0 hX.size
    replace kb1 := cellB hX kb1
    replace kp0 := cellB hX kp0
    replace zkp0 := Nat.lt_of_lt_of_le zkp0 hX.size
    replace kp1 := cellB hX kp1
    replace kq0 := cellB hX kq0
    replace zkq0 := Nat.lt_of_lt_of_le zkq0 hX.size
    replace kq1 := cellB hX kq1
    replace kl0 := cellB hX kl0
    replace zkl0 := Nat.lt_of_lt_of_le zkl0 hX.size
    replace kl1 := cellB hX kl1
    replace kh0 := cellB hX kh0
    replace zkh0 := Nat.lt_of_lt_of_le zkh0 hX.size
    replace kh1 := cellB hX kh1
    replace hB := nextW hB hX
    clear hX
    go_upto_if 153 with fail
    go_cut [] (fun wx => Below w15.heap.size w15 wx)
    case first => as_aux_lemma =>
      rcases t5 with _ | _
      · go_wp2_with fail
        go_meet
        first | exact Below.refl _ _ | go_grown
      · have IL := Lib.hid (img_law HIm.out)
        have SLo := Lib.hid (Sm.of_ok IL.out.ulo)
        have SHi := Lib.hid (Sm.of_ok IL.out.uhi)
        have Sa := Lib.hid (Sm.of_ok IL.out.ua)
        have Sb := Lib.hid (Sm.of_ok IL.out.ub)
        clear HV HU HR HI HS HI2 HS2 HI3 HS3 kp0 zkp0 kp1 kq0 zkq0 kq1 HL HSl HTu
        go_wp2_with fail
        go_name_world w16 hW
        have hX : Below w15.heap.size w15 w16 := by rw [← hW]; go_grown
        replace HG := Lib.hid (HG.out.keep hX)
        replace ka0 := cellB hX ka0
        replace zka0 := Nat.lt_of_lt_of_le zka0 hX.size
        replace ka1 := cellB hX ka1
        replace kb0 := cellB hX kb0
        replace zkb0 := Nat.lt_of_lt_of_le zkb0 hX.size
        replace kb1 := cellB hX kb1
        replace kl0 := cellB hX kl0
        replace zkl0 := Nat.lt_of_lt_of_le zkl0 hX.size
        replace kl1 := cellB hX kl1
        replace kh0 := cellB hX kh0
        replace zkh0 := Nat.lt_of_lt_of_le zkh0 hX.size
        replace kh1 := cellB hX kh1
        have ks0 : w16.cell? ⟨w15.heap.size, 0, none⟩ = some (.int .i64 a1) := by rw [← hW]; simp [go_sem]
        have zks0 := lt_of_cell ks0
        have ks1 : w16.cell? ⟨w15.heap.size, 1, none⟩ = some (.int .i64 a2) := by rw [← hW]; simp [go_sem]
        have ks2 : w16.cell? ⟨w15.heap.size, 2, none⟩ = some (.int .i64 b1) := by rw [← hW]; simp [go_sem]
        have ks3 : w16.cell? ⟨w15.heap.size, 3, none⟩ = some (.int .i64 b2) := by rw [← hW]; simp [go_sem]
        have hC : Below w15.heap.size w15 w16 := hX
        clear hW hX
        go_loopw [158] (fun i wr => EqTo 2 w16 i wr) (fun i _ => 2 - (intOf i).toNat)
        case atStart => exact ⟨0, Nat.zero_le _, rfl, by first | exact Below.refl _ _ | go_grown⟩
        case round =>
          obtain ⟨k, hk, rfl, hbr⟩ := hrel
          by_cases hlt : k < 2
          · as_aux_lemma =>
              replace HG := Lib.hid (HG.out.keep hbr)
              replace ka0 := cellB hbr ka0
              replace zka0 := Nat.lt_of_lt_of_le zka0 hbr.size
              replace ka1 := cellB hbr ka1
              replace kb0 := cellB hbr kb0
              replace zkb0 := Nat.lt_of_lt_of_le zkb0 hbr.size
              replace kb1 := cellB hbr kb1
              replace kl0 := cellB hbr kl0
              replace zkl0 := Nat.lt_of_lt_of_le zkl0 hbr.size
              replace kl1 := cellB hbr kl1
              replace kh0 := cellB hbr kh0
              replace zkh0 := Nat.lt_of_lt_of_le zkh0 hbr.size
              replace kh1 := cellB hbr kh1
              replace ks0 := cellB hbr ks0
              replace zks0 := Nat.lt_of_lt_of_le zks0 hbr.size
              replace ks1 := cellB hbr ks1
              replace ks2 := cellB hbr ks2
              replace ks3 := cellB hbr ks3
              rcases (show k = 0 ∨ k = 1 by omega) with rfl | rfl
              · obtain ⟨y1, y2, hv, hw⟩ := IL.out.ata
                have HV9 := Lib.hid hv
                have SY := Lib.hid (Sm.of_ok hw.ok)
                obtain ⟨o1, ho1⟩ : ∃ o, cmpQ k1 k2 y1 y2 = o := ⟨_, rfl⟩
                have hleo1 : o1 ≤ 0 := by rw [← ho1]; exact hw.low
                have hno1 : ¬ 0 < o1 := by omega
                have hdo1 : decide (0 < o1) = false := decide_eq_false hno1
                have Ho1 := Lib.hid ho1
                clear ho1
                obtain ⟨o2, ho2⟩ : ∃ o, cmpQ y1 y2 k3 k4 = o := ⟨_, rfl⟩
                have hleo2 : o2 ≤ 0 := by rw [← ho2]; exact hw.high
                have hno2 : ¬ 0 < o2 := by omega
                have hdo2 : decide (0 < o2) = false := decide_eq_false hno2
                have Ho2 := Lib.hid ho2
                clear ho2
                clear hv hw
                go_wp2_with fail
                refine (iValueAt_is ps2 _ a1 a2 y1 y2 true _ (HG.out.keep (by go_grown)) (by omega) HV9.out).mono ?_
                rintro e w17 ⟨rfl, hb⟩
                have hX : Below wr.heap.size wr w17 := nextX (by go_grown) hb
                replace HG := Lib.hid (HG.out.keep hX)
                replace ka0 := cellB hX ka0
                replace zka0 := Nat.lt_of_lt_of_le zka0 hX.size
                replace ka1 := cellB hX ka1
                replace kb0 := cellB hX kb0
                replace zkb0 := Nat.lt_of_lt_of_le zkb0 hX.size
                replace kb1 := cellB hX kb1
                replace kl0 := cellB hX kl0
                replace zkl0 := Nat.lt_of_lt_of_le zkl0 hX.size
                replace kl1 := cellB hX kl1
                replace kh0 := cellB hX kh0
                replace zkh0 := Nat.lt_of_lt_of_le zkh0 hX.size
                replace kh1 := cellB hX kh1
                replace ks0 := cellB hX ks0
                replace zks0 := Nat.lt_of_lt_of_le zks0 hX.size
                replace ks1 := cellB hX ks1
                replace ks2 := cellB hX ks2
                replace ks3 := cellB hX ks3
                have kx0 : w17.cell? ⟨wr.heap.size, 0, none⟩ = some (.int .i64 a1) := cellB hb (by simp [go_sem])
                have zkx0 := lt_of_cell kx0
                have kx1 : w17.cell? ⟨wr.heap.size, 1, none⟩ = some (.int .i64 a2) := cellB hb (by simp [go_sem])
                have hRr : Below wr.heap.size wr w17 := hX
                clear hb hX
                go_wp2_with fail
                refine (qUp_val SLo.out SY.out Ho1.out _).mono ?_
                rintro e w18 ⟨rfl, hb⟩
                have hX : Below w17.heap.size w17 w18 := nextX (by go_grown) hb
                replace HG := Lib.hid (HG.out.keep hX)
                replace ka0 := cellB hX ka0
                replace zka0 := Nat.lt_of_lt_of_le zka0 hX.size
                replace ka1 := cellB hX ka1
                replace kb0 := cellB hX kb0
                replace zkb0 := Nat.lt_of_lt_of_le zkb0 hX.size
                replace kb1 := cellB hX kb1
                replace kl0 := cellB hX kl0
                replace zkl0 := Nat.lt_of_lt_of_le zkl0 hX.size
                replace kl1 := cellB hX kl1
                replace kh0 := cellB hX kh0
                replace zkh0 := Nat.lt_of_lt_of_le zkh0 hX.size
                replace kh1 := cellB hX kh1
                replace ks0 := cellB hX ks0
                replace zks0 := Nat.lt_of_lt_of_le zks0 hX.size
                replace ks1 := cellB hX ks1
                replace ks2 := cellB hX ks2
                replace ks3 := cellB hX ks3
                replace kx0 := cellB hX kx0
                replace zkx0 := Nat.lt_of_lt_of_le zkx0 hX.size
                replace kx1 := cellB hX kx1
                have kz0 : w18.cell? ⟨w17.heap.size, 0, none⟩ = some (.int .i64 y1) := cellB hb (by simp [go_sem])
                have zkz0 := lt_of_cell kz0
                have kz1 : w18.cell? ⟨w17.heap.size, 1, none⟩ = some (.int .i64 y2) := cellB hb (by simp [go_sem])
                replace hRr := nextW hRr hX
                clear hb hX
                go_wp2_with fail
                refine (qUp_val SY.out SHi.out Ho2.out _).mono ?_
                rintro e w19 ⟨rfl, hb⟩
                have hX : Below w18.heap.size w18 w19 := nextX (by go_grown) hb
                replace HG := Lib.hid (HG.out.keep hX)
                replace ka0 := cellB hX ka0
                replace zka0 := Nat.lt_of_lt_of_le zka0 hX.size
                replace ka1 := cellB hX ka1
                replace kb0 := cellB hX kb0
                replace zkb0 := Nat.lt_of_lt_of_le zkb0 hX.size
                replace kb1 := cellB hX kb1
                replace kl0 := cellB hX kl0
                replace zkl0 := Nat.lt_of_lt_of_le zkl0 hX.size
                replace kl1 := cellB hX kl1
                replace kh0 := cellB hX kh0
                replace zkh0 := Nat.lt_of_lt_of_le zkh0 hX.size
                replace kh1 := cellB hX kh1
                replace ks0 := cellB hX ks0
                replace zks0 := Nat.lt_of_lt_of_le zks0 hX.size
                replace ks1 := cellB hX ks1
                replace ks2 := cellB hX ks2
                replace ks3 := cellB hX ks3
                replace kx0 := cellB hX kx0
                replace zkx0 := Nat.lt_of_lt_of_le zkx0 hX.size
                replace kx1 := cellB hX kx1
                replace kz0 := cellB hX kz0
                replace zkz0 := Nat.lt_of_lt_of_le zkz0 hX.size
                replace kz1 := cellB hX kz1
                replace hRr := nextW hRr hX
                clear hb hX
                go_wp2_with fail
                go_roundw
                case rel => exact ⟨0 + 1, by omega, by go_num, nextW hbr (nextX hRr (by go_grown))⟩
                case measure => simp [intOf] <;> omega
              · obtain ⟨y1, y2, hv, hw⟩ := IL.out.atb
                have HV9 := Lib.hid hv
                have SY := Lib.hid (Sm.of_ok hw.ok)
                obtain ⟨o1, ho1⟩ : ∃ o, cmpQ k1 k2 y1 y2 = o := ⟨_, rfl⟩
                have hleo1 : o1 ≤ 0 := by rw [← ho1]; exact hw.low
                have hno1 : ¬ 0 < o1 := by omega
                have hdo1 : decide (0 < o1) = false := decide_eq_false hno1
                have Ho1 := Lib.hid ho1
                clear ho1
                obtain ⟨o2, ho2⟩ : ∃ o, cmpQ y1 y2 k3 k4 = o := ⟨_, rfl⟩
                have hleo2 : o2 ≤ 0 := by rw [← ho2]; exact hw.high
                have hno2 : ¬ 0 < o2 := by omega
                have hdo2 : decide (0 < o2) = false := decide_eq_false hno2
                have Ho2 := Lib.hid ho2
                clear ho2
                clear hv hw
                go_wp2_with fail
                refine (iValueAt_is ps2 _ b1 b2 y1 y2 true _ (HG.out.keep (by go_grown)) (by omega) HV9.out).mono ?_
                rintro e w17 ⟨rfl, hb⟩
                have hX : Below wr.heap.size wr w17 := nextX (by go_grown) hb
                replace HG := Lib.hid (HG.out.keep hX)
                replace ka0 := cellB hX ka0
                replace zka0 := Nat.lt_of_lt_of_le zka0 hX.size
                replace ka1 := cellB hX ka1
                replace kb0 := cellB hX kb0
                replace zkb0 := Nat.lt_of_lt_of_le zkb0 hX.size
                replace kb1 := cellB hX kb1
                replace kl0 := cellB hX kl0
                replace zkl0 := Nat.lt_of_lt_of_le zkl0 hX.size
                replace kl1 := cellB hX kl1
                replace kh0 := cellB hX kh0
                replace zkh0 := Nat.lt_of_lt_of_le zkh0 hX.size
                replace kh1 := cellB hX kh1
                replace ks0 := cellB hX ks0
                replace zks0 := Nat.lt_of_lt_of_le zks0 hX.size
                replace ks1 := cellB hX ks1
                replace ks2 := cellB hX ks2
                replace ks3 := cellB hX ks3
                have kx0 : w17.cell? ⟨wr.heap.size, 0, none⟩ = some (.int .i64 b1) := cellB hb (by simp [go_sem])
                have zkx0 := lt_of_cell kx0
                have kx1 : w17.cell? ⟨wr.heap.size, 1, none⟩ = some (.int .i64 b2) := cellB hb (by simp [go_sem])
                have hRr : Below wr.heap.size wr w17 := hX
                clear hb hX
                go_wp2_with fail
                refine (qUp_val SLo.out SY.out Ho1.out _).mono ?_
                rintro e w18 ⟨rfl, hb⟩
                have hX : Below w17.heap.size w17 w18 := nextX (by go_grown) hb
                replace HG := Lib.hid (HG.out.keep hX)
                replace ka0 := cellB hX ka0
                replace zka0 := Nat.lt_of_lt_of_le zka0 hX.size
                replace ka1 := cellB hX ka1
                replace kb0 := cellB hX kb0
                replace zkb0 := Nat.lt_of_lt_of_le zkb0 hX.size
                replace kb1 := cellB hX kb1
                replace kl0 := cellB hX kl0
                replace zkl0 := Nat.lt_of_lt_of_le zkl0 hX.size
                replace kl1 := cellB hX kl1
                replace kh0 := cellB hX kh0
                replace zkh0 := Nat.lt_of_lt_of_le zkh0 hX.size
                replace kh1 := cellB hX kh1
                replace ks0 := cellB hX ks0
                replace zks0 := Nat.lt_of_lt_of_le zks0 hX.size
                replace ks1 := cellB hX ks1
                replace ks2 := cellB hX ks2
                replace ks3 := cellB hX ks3
                replace kx0 := cellB hX kx0
                replace zkx0 := Nat.lt_of_lt_of_le zkx0 hX.size
                replace kx1 := cellB hX kx1
                have kz0 : w18.cell? ⟨w17.heap.size, 0, none⟩ = some (.int .i64 y1) := cellB hb (by simp [go_sem])
                have zkz0 := lt_of_cell kz0
                have kz1 : w18.cell? ⟨w17.heap.size, 1, none⟩ = some (.int .i64 y2) := cellB hb (by simp [go_sem])
                replace hRr := nextW hRr hX
                clear hb hX
                go_wp2_with fail
                refine (qUp_val SY.out SHi.out Ho2.out _).mono ?_
                rintro e w19 ⟨rfl, hb⟩
                have hX : Below w18.heap.size w18 w19 := nextX (by go_grown) hb
                replace HG := Lib.hid (HG.out.keep hX)
                replace ka0 := cellB hX ka0
                replace zka0 := Nat.lt_of_lt_of_le zka0 hX.size
                replace ka1 := cellB hX ka1
                replace kb0 := cellB hX kb0
                replace zkb0 := Nat.lt_of_lt_of_le zkb0 hX.size
                replace kb1 := cellB hX kb1
                replace kl0 := cellB hX kl0
                replace zkl0 := Nat.lt_of_lt_of_le zkl0 hX.size
                replace kl1 := cellB hX kl1
                replace kh0 := cellB hX kh0
                replace zkh0 := Nat.lt_of_lt_of_le zkh0 hX.size
                replace kh1 := cellB hX kh1
                replace ks0 := cellB hX ks0
                replace zks0 := Nat.lt_of_lt_of_le zks0 hX.size
                replace ks1 := cellB hX ks1
                replace ks2 := cellB hX ks2
                replace ks3 := cellB hX ks3
                replace kx0 := cellB hX kx0
                replace zkx0 := Nat.lt_of_lt_of_le zkx0 hX.size
                replace kx1 := cellB hX kx1
                replace kz0 := cellB hX kz0
                replace zkz0 := Nat.lt_of_lt_of_le zkz0 hX.size
                replace kz1 := cellB hX kz1
                replace hRr := nextW hRr hX
                clear hb hX
                go_wp2_with fail
                go_roundw
                case rel => exact ⟨1 + 1, by omega, by go_num, nextW hbr (nextX hRr (by go_grown))⟩
                case measure => simp [intOf] <;> omega
          · obtain rfl : k = 2 := by omega
            replace HG := Lib.hid (HG.out.keep hbr)
            replace ka0 := cellB hbr ka0
            replace zka0 := Nat.lt_of_lt_of_le zka0 hbr.size
            replace ka1 := cellB hbr ka1
            replace kb0 := cellB hbr kb0
            replace zkb0 := Nat.lt_of_lt_of_le zkb0 hbr.size
            replace kb1 := cellB hbr kb1
            replace kl0 := cellB hbr kl0
            replace zkl0 := Nat.lt_of_lt_of_le zkl0 hbr.size
            replace kl1 := cellB hbr kl1
            replace kh0 := cellB hbr kh0
            replace zkh0 := Nat.lt_of_lt_of_le zkh0 hbr.size
            replace kh1 := cellB hbr kh1
            replace ks0 := cellB hbr ks0
            replace zks0 := Nat.lt_of_lt_of_le zks0 hbr.size
            replace ks1 := cellB hbr ks1
            replace ks2 := cellB hbr ks2
            replace ks3 := cellB hbr ks3
            replace hC := nextW hC hbr
            clear hbr hk hlt
            go_wp2_with fail
            go_name_world w17 hW
            have hX : Below wr.heap.size wr w17 := by rw [← hW]; go_grown
            replace HG := Lib.hid (HG.out.keep hX)
            replace ka0 := cellB hX ka0
            replace zka0 := Nat.lt_of_lt_of_le zka0 hX.size
            replace ka1 := cellB hX ka1
            replace kb0 := cellB hX kb0
            replace zkb0 := Nat.lt_of_lt_of_le zkb0 hX.size
            replace kb1 := cellB hX kb1
            replace kl0 := cellB hX kl0
            replace zkl0 := Nat.lt_of_lt_of_le zkl0 hX.size
            replace kl1 := cellB hX kl1
            replace kh0 := cellB hX kh0
            replace zkh0 := Nat.lt_of_lt_of_le zkh0 hX.size
            replace kh1 := cellB hX kh1
            replace ks0 := cellB hX ks0
            replace zks0 := Nat.lt_of_lt_of_le zks0 hX.size
            replace ks1 := cellB hX ks1
            replace ks2 := cellB hX ks2
            replace ks3 := cellB hX ks3
            replace hC := nextW hC hX
            clear hW hX
            go_loopw [185] (fun i wr => EqTo ps2.length w17 i wr) (fun i _ => ps2.length - (intOf i).toNat)
            case atStart => exact ⟨0, Nat.zero_le _, rfl, by first | exact Below.refl _ _ | go_grown⟩
            case round =>
              obtain ⟨k, hk, rfl, hbr⟩ := hrel
              by_cases hlt : k < ps2.length
              · as_aux_lemma =>
                  have hq := List.getElem?_eq_getElem hlt
                  generalize ps2[k] = p at hq
                  obtain ⟨⟨x1, x2⟩, y1, y2⟩ := p
                  obtain ⟨A3, c3, he, -, -, hcell⟩ := HG.out.keep hbr
                  injection he with e1 e2 e3
                  obtain ⟨gs, os, hA, hgs, hc⟩ := hcell (by intro e; rw [e] at hlt; simp at hlt)
                  rw [hA] at e1
                  subst e1
                  clear e2 e3 hA
                  obtain ⟨c0, c1, c2, c3⟩ := hc k _ hq
                  have kb9 : (k : Int) < ((ps2.length : Nat) : Int) := by omega
                  have v2 : IntKind.i64.wrap ((k : Int) + 1) = (k : Int) + 1 := IntWalk.i64_in _ (by omega)
                  obtain ⟨hx, hy, hmid⟩ := IL.out.mid k _ hq
                  have SX := Lib.hid (Sm.of_ok hx)
                  have SY := Lib.hid (Sm.of_ok hy)
                  clear hc hq hx hy
                  replace HG := Lib.hid (HG.out.keep hbr)
                  replace ka0 := cellB hbr ka0
                  replace zka0 := Nat.lt_of_lt_of_le zka0 hbr.size
                  replace ka1 := cellB hbr ka1
                  replace kb0 := cellB hbr kb0
                  replace zkb0 := Nat.lt_of_lt_of_le zkb0 hbr.size
                  replace kb1 := cellB hbr kb1
                  replace kl0 := cellB hbr kl0
                  replace zkl0 := Nat.lt_of_lt_of_le zkl0 hbr.size
                  replace kl1 := cellB hbr kl1
                  replace kh0 := cellB hbr kh0
                  replace zkh0 := Nat.lt_of_lt_of_le zkh0 hbr.size
                  replace kh1 := cellB hbr kh1
                  replace ks0 := cellB hbr ks0
                  replace zks0 := Nat.lt_of_lt_of_le zks0 hbr.size
                  replace ks1 := cellB hbr ks1
                  replace ks2 := cellB hbr ks2
                  replace ks3 := cellB hbr ks3
                  obtain ⟨o1, ho1⟩ : ∃ o, cmpQ a1 a2 x1 x2 = o := ⟨_, rfl⟩
                  obtain ⟨o2, ho2⟩ : ∃ o, cmpQ x1 x2 b1 b2 = o := ⟨_, rfl⟩
                  simp only at hmid
                  rw [ho1, ho2] at hmid
                  have Ho1 := Lib.hid ho1
                  have Ho2 := Lib.hid ho2
                  clear ho1 ho2
                  by_cases g1 : o1 ≤ 0
                  · have d1 : decide (o1 ≤ 0) = true := decide_eq_true g1
                    by_cases g2 : o2 ≤ 0
                    · have d2 : decide (o2 ≤ 0) = true := decide_eq_true g2
                      have hw := hmid g1 g2
                      obtain ⟨o3, ho3⟩ : ∃ o, cmpQ k1 k2 y1 y2 = o := ⟨_, rfl⟩
                      have hleo3 : o3 ≤ 0 := by rw [← ho3]; exact hw.low
                      have hno3 : ¬ 0 < o3 := by omega
                      have hdo3 : decide (0 < o3) = false := decide_eq_false hno3
                      have Ho3 := Lib.hid ho3
                      clear ho3
                      obtain ⟨o4, ho4⟩ : ∃ o, cmpQ y1 y2 k3 k4 = o := ⟨_, rfl⟩
                      have hleo4 : o4 ≤ 0 := by rw [← ho4]; exact hw.high
                      have hno4 : ¬ 0 < o4 := by omega
                      have hdo4 : decide (0 < o4) = false := decide_eq_false hno4
                      have Ho4 := Lib.hid ho4
                      clear ho4
                      clear hw hmid
                      go_wp2_with fail
                      refine (qUp_val Sa.out SX.out Ho1.out _).mono ?_
                      rintro e w18 ⟨rfl, hb⟩
                      have hX : Below wr.heap.size wr w18 := nextX (by go_grown) hb
                      replace HG := Lib.hid (HG.out.keep hX)
                      replace ka0 := cellB hX ka0
                      replace zka0 := Nat.lt_of_lt_of_le zka0 hX.size
                      replace ka1 := cellB hX ka1
                      replace kb0 := cellB hX kb0
                      replace zkb0 := Nat.lt_of_lt_of_le zkb0 hX.size
                      replace kb1 := cellB hX kb1
                      replace kl0 := cellB hX kl0
                      replace zkl0 := Nat.lt_of_lt_of_le zkl0 hX.size
                      replace kl1 := cellB hX kl1
                      replace kh0 := cellB hX kh0
                      replace zkh0 := Nat.lt_of_lt_of_le zkh0 hX.size
                      replace kh1 := cellB hX kh1
                      replace ks0 := cellB hX ks0
                      replace zks0 := Nat.lt_of_lt_of_le zks0 hX.size
                      replace ks1 := cellB hX ks1
                      replace ks2 := cellB hX ks2
                      replace ks3 := cellB hX ks3
                      replace c0 := cellB hX c0
                      replace c1 := cellB hX c1
                      replace c2 := cellB hX c2
                      replace c3 := cellB hX c3
                      have kx0 : w18.cell? ⟨wr.heap.size, 0, none⟩ = some (.int .i64 x1) := cellB hb (by simp [go_sem])
                      have zkx0 := lt_of_cell kx0
                      have kx1 : w18.cell? ⟨wr.heap.size, 1, none⟩ = some (.int .i64 x2) := cellB hb (by simp [go_sem])
                      have kx2 : w18.cell? ⟨wr.heap.size, 2, none⟩ = some (.int .i64 y1) := cellB hb (by simp [go_sem])
                      have kx3 : w18.cell? ⟨wr.heap.size, 3, none⟩ = some (.int .i64 y2) := cellB hb (by simp [go_sem])
                      have hRr : Below wr.heap.size wr w18 := hX
                      clear hb hX
                      go_wp2_with fail
                      refine (qUp_val SX.out Sb.out Ho2.out _).mono ?_
                      rintro e w19 ⟨rfl, hb⟩
                      have hX : Below w18.heap.size w18 w19 := nextX (by go_grown) hb
                      replace HG := Lib.hid (HG.out.keep hX)
                      replace ka0 := cellB hX ka0
                      replace zka0 := Nat.lt_of_lt_of_le zka0 hX.size
                      replace ka1 := cellB hX ka1
                      replace kb0 := cellB hX kb0
                      replace zkb0 := Nat.lt_of_lt_of_le zkb0 hX.size
                      replace kb1 := cellB hX kb1
                      replace kl0 := cellB hX kl0
                      replace zkl0 := Nat.lt_of_lt_of_le zkl0 hX.size
                      replace kl1 := cellB hX kl1
                      replace kh0 := cellB hX kh0
                      replace zkh0 := Nat.lt_of_lt_of_le zkh0 hX.size
                      replace kh1 := cellB hX kh1
                      replace ks0 := cellB hX ks0
                      replace zks0 := Nat.lt_of_lt_of_le zks0 hX.size
                      replace ks1 := cellB hX ks1
                      replace ks2 := cellB hX ks2
                      replace ks3 := cellB hX ks3
                      replace c0 := cellB hX c0
                      replace c1 := cellB hX c1
                      replace c2 := cellB hX c2
                      replace c3 := cellB hX c3
                      replace kx0 := cellB hX kx0
                      replace zkx0 := Nat.lt_of_lt_of_le zkx0 hX.size
                      replace kx1 := cellB hX kx1
                      replace kx2 := cellB hX kx2
                      replace kx3 := cellB hX kx3
                      replace hRr := nextW hRr hX
                      clear hb hX
                      go_wp2_with fail
                      refine (qUp_val SLo.out SY.out Ho3.out _).mono ?_
                      rintro e w20 ⟨rfl, hb⟩
                      have hX : Below w19.heap.size w19 w20 := nextX (by go_grown) hb
                      replace HG := Lib.hid (HG.out.keep hX)
                      replace ka0 := cellB hX ka0
                      replace zka0 := Nat.lt_of_lt_of_le zka0 hX.size
                      replace ka1 := cellB hX ka1
                      replace kb0 := cellB hX kb0
                      replace zkb0 := Nat.lt_of_lt_of_le zkb0 hX.size
                      replace kb1 := cellB hX kb1
                      replace kl0 := cellB hX kl0
                      replace zkl0 := Nat.lt_of_lt_of_le zkl0 hX.size
                      replace kl1 := cellB hX kl1
                      replace kh0 := cellB hX kh0
                      replace zkh0 := Nat.lt_of_lt_of_le zkh0 hX.size
                      replace kh1 := cellB hX kh1
                      replace ks0 := cellB hX ks0
                      replace zks0 := Nat.lt_of_lt_of_le zks0 hX.size
                      replace ks1 := cellB hX ks1
                      replace ks2 := cellB hX ks2
                      replace ks3 := cellB hX ks3
                      replace c0 := cellB hX c0
                      replace c1 := cellB hX c1
                      replace c2 := cellB hX c2
                      replace c3 := cellB hX c3
                      replace kx0 := cellB hX kx0
                      replace zkx0 := Nat.lt_of_lt_of_le zkx0 hX.size
                      replace kx1 := cellB hX kx1
                      replace kx2 := cellB hX kx2
                      replace kx3 := cellB hX kx3
                      replace hRr := nextW hRr hX
                      clear hb hX
                      go_wp2_with fail
                      refine (qUp_val SY.out SHi.out Ho4.out _).mono ?_
                      rintro e w21 ⟨rfl, hb⟩
                      have hX : Below w20.heap.size w20 w21 := nextX (by go_grown) hb
                      replace HG := Lib.hid (HG.out.keep hX)
                      replace ka0 := cellB hX ka0
                      replace zka0 := Nat.lt_of_lt_of_le zka0 hX.size
                      replace ka1 := cellB hX ka1
                      replace kb0 := cellB hX kb0
                      replace zkb0 := Nat.lt_of_lt_of_le zkb0 hX.size
                      replace kb1 := cellB hX kb1
                      replace kl0 := cellB hX kl0
                      replace zkl0 := Nat.lt_of_lt_of_le zkl0 hX.size
                      replace kl1 := cellB hX kl1
                      replace kh0 := cellB hX kh0
                      replace zkh0 := Nat.lt_of_lt_of_le zkh0 hX.size
                      replace kh1 := cellB hX kh1
                      replace ks0 := cellB hX ks0
                      replace zks0 := Nat.lt_of_lt_of_le zks0 hX.size
                      replace ks1 := cellB hX ks1
                      replace ks2 := cellB hX ks2
                      replace ks3 := cellB hX ks3
                      replace c0 := cellB hX c0
                      replace c1 := cellB hX c1
                      replace c2 := cellB hX c2
                      replace c3 := cellB hX c3
                      replace kx0 := cellB hX kx0
                      replace zkx0 := Nat.lt_of_lt_of_le zkx0 hX.size
                      replace kx1 := cellB hX kx1
                      replace kx2 := cellB hX kx2
                      replace kx3 := cellB hX kx3
                      replace hRr := nextW hRr hX
                      clear hb hX
                      go_wp2_with fail
                      go_roundw
                      case rel => first | ((repeat apply Exists.intro); refine ⟨⟨k + 1, by omega, rfl, nextW hbr (nextX hRr (by go_grown))⟩, ?_⟩; (repeat' (first | rfl | (refine And.intro rfl ?_) | go_num))) | exact ⟨k + 1, by omega, by go_num, nextW hbr (nextX hRr (by go_grown))⟩
                      case measure => simp [intOf] <;> omega
                    · have e9 : o2 = 1 := by have h := cmpQ_abs x1 x2 b1 b2; rw [Ho2.out] at h; omega
                      subst e9
                      clear hmid g2
                      go_wp2_with fail
                      refine (qUp_val Sa.out SX.out Ho1.out _).mono ?_
                      rintro e w18 ⟨rfl, hb⟩
                      have hX : Below wr.heap.size wr w18 := nextX (by go_grown) hb
                      replace HG := Lib.hid (HG.out.keep hX)
                      replace ka0 := cellB hX ka0
                      replace zka0 := Nat.lt_of_lt_of_le zka0 hX.size
                      replace ka1 := cellB hX ka1
                      replace kb0 := cellB hX kb0
                      replace zkb0 := Nat.lt_of_lt_of_le zkb0 hX.size
                      replace kb1 := cellB hX kb1
                      replace kl0 := cellB hX kl0
                      replace zkl0 := Nat.lt_of_lt_of_le zkl0 hX.size
                      replace kl1 := cellB hX kl1
                      replace kh0 := cellB hX kh0
                      replace zkh0 := Nat.lt_of_lt_of_le zkh0 hX.size
                      replace kh1 := cellB hX kh1
                      replace ks0 := cellB hX ks0
                      replace zks0 := Nat.lt_of_lt_of_le zks0 hX.size
                      replace ks1 := cellB hX ks1
                      replace ks2 := cellB hX ks2
                      replace ks3 := cellB hX ks3
                      replace c0 := cellB hX c0
                      replace c1 := cellB hX c1
                      replace c2 := cellB hX c2
                      replace c3 := cellB hX c3
                      have kx0 : w18.cell? ⟨wr.heap.size, 0, none⟩ = some (.int .i64 x1) := cellB hb (by simp [go_sem])
                      have zkx0 := lt_of_cell kx0
                      have kx1 : w18.cell? ⟨wr.heap.size, 1, none⟩ = some (.int .i64 x2) := cellB hb (by simp [go_sem])
                      have kx2 : w18.cell? ⟨wr.heap.size, 2, none⟩ = some (.int .i64 y1) := cellB hb (by simp [go_sem])
                      have kx3 : w18.cell? ⟨wr.heap.size, 3, none⟩ = some (.int .i64 y2) := cellB hb (by simp [go_sem])
                      have hRr : Below wr.heap.size wr w18 := hX
                      clear hb hX
                      go_wp2_with fail
                      refine (qUp_val SX.out Sb.out Ho2.out _).mono ?_
                      rintro e w19 ⟨rfl, hb⟩
                      have hX : Below w18.heap.size w18 w19 := nextX (by go_grown) hb
                      replace HG := Lib.hid (HG.out.keep hX)
                      replace ka0 := cellB hX ka0
                      replace zka0 := Nat.lt_of_lt_of_le zka0 hX.size
                      replace ka1 := cellB hX ka1
                      replace kb0 := cellB hX kb0
                      replace zkb0 := Nat.lt_of_lt_of_le zkb0 hX.size
                      replace kb1 := cellB hX kb1
                      replace kl0 := cellB hX kl0
                      replace zkl0 := Nat.lt_of_lt_of_le zkl0 hX.size
                      replace kl1 := cellB hX kl1
                      replace kh0 := cellB hX kh0
                      replace zkh0 := Nat.lt_of_lt_of_le zkh0 hX.size
                      replace kh1 := cellB hX kh1
                      replace ks0 := cellB hX ks0
                      replace zks0 := Nat.lt_of_lt_of_le zks0 hX.size
                      replace ks1 := cellB hX ks1
                      replace ks2 := cellB hX ks2
                      replace ks3 := cellB hX ks3
                      replace c0 := cellB hX c0
                      replace c1 := cellB hX c1
                      replace c2 := cellB hX c2
                      replace c3 := cellB hX c3
                      replace kx0 := cellB hX kx0
                      replace zkx0 := Nat.lt_of_lt_of_le zkx0 hX.size
                      replace kx1 := cellB hX kx1
                      replace kx2 := cellB hX kx2
                      replace kx3 := cellB hX kx3
                      replace hRr := nextW hRr hX
                      clear hb hX
                      go_wp2_with fail
                      go_roundw
                      case rel => first | ((repeat apply Exists.intro); refine ⟨⟨k + 1, by omega, rfl, nextW hbr (nextX hRr (by go_grown))⟩, ?_⟩; (repeat' (first | rfl | (refine And.intro rfl ?_) | go_num))) | exact ⟨k + 1, by omega, by go_num, nextW hbr (nextX hRr (by go_grown))⟩
                      case measure => simp [intOf] <;> omega
                  · have e9 : o1 = 1 := by have h := cmpQ_abs a1 a2 x1 x2; rw [Ho1.out] at h; omega
                    subst e9
                    clear hmid g1
                    go_wp2_with fail
                    refine (qUp_val Sa.out SX.out Ho1.out _).mono ?_
                    rintro e w18 ⟨rfl, hb⟩
                    have hX : Below wr.heap.size wr w18 := nextX (by go_grown) hb
                    replace HG := Lib.hid (HG.out.keep hX)
                    replace ka0 := cellB hX ka0
                    replace zka0 := Nat.lt_of_lt_of_le zka0 hX.size
                    replace ka1 := cellB hX ka1
                    replace kb0 := cellB hX kb0
                    replace zkb0 := Nat.lt_of_lt_of_le zkb0 hX.size
                    replace kb1 := cellB hX kb1
                    replace kl0 := cellB hX kl0
                    replace zkl0 := Nat.lt_of_lt_of_le zkl0 hX.size
                    replace kl1 := cellB hX kl1
                    replace kh0 := cellB hX kh0
                    replace zkh0 := Nat.lt_of_lt_of_le zkh0 hX.size
                    replace kh1 := cellB hX kh1
                    replace ks0 := cellB hX ks0
                    replace zks0 := Nat.lt_of_lt_of_le zks0 hX.size
                    replace ks1 := cellB hX ks1
                    replace ks2 := cellB hX ks2
                    replace ks3 := cellB hX ks3
                    replace c0 := cellB hX c0
                    replace c1 := cellB hX c1
                    replace c2 := cellB hX c2
                    replace c3 := cellB hX c3
                    have kx0 : w18.cell? ⟨wr.heap.size, 0, none⟩ = some (.int .i64 x1) := cellB hb (by simp [go_sem])
                    have zkx0 := lt_of_cell kx0
                    have kx1 : w18.cell? ⟨wr.heap.size, 1, none⟩ = some (.int .i64 x2) := cellB hb (by simp [go_sem])
                    have kx2 : w18.cell? ⟨wr.heap.size, 2, none⟩ = some (.int .i64 y1) := cellB hb (by simp [go_sem])
                    have kx3 : w18.cell? ⟨wr.heap.size, 3, none⟩ = some (.int .i64 y2) := cellB hb (by simp [go_sem])
                    have hRr : Below wr.heap.size wr w18 := hX
                    clear hb hX
                    go_wp2_with fail
                    go_roundw
                    case rel => first | ((repeat apply Exists.intro); refine ⟨⟨k + 1, by omega, rfl, nextW hbr (nextX hRr (by go_grown))⟩, ?_⟩; (repeat' (first | rfl | (refine And.intro rfl ?_) | go_num))) | exact ⟨k + 1, by omega, by go_num, nextW hbr (nextX hRr (by go_grown))⟩
                    case measure => simp [intOf] <;> omega
              · obtain rfl : k = ps2.length := by omega
                go_wp2_with fail
                go_meet
                exact nextW hC (nextX hbr (by go_grown))
    case rest => as_aux_lemma =>
      have hX := hcut
      obtain ⟨w18, hwc⟩ : ∃ X : World, X = wc := ⟨_, rfl⟩
      subst hwc
      replace HV := Lib.hid (HV.out.keep hX)
      replace HU := Lib.hid (HU.out.keep hX)
      replace HR := Lib.hid (HR.out.keep hX)
      replace HI := Lib.hid (HI.out.keep hX)
      replace HS := Lib.hid (HS.out.keep hX)
      replace HI2 := Lib.hid (HI2.out.keep hX)
      replace HS2 := Lib.hid (HS2.out.keep hX)
      replace HI3 := Lib.hid (HI3.out.keep hX)
      replace HS3 := Lib.hid (HS3.out.keep hX)
      replace HG := Lib.hid (HG.out.keep hX)
      replace ka0 := cellB hX ka0
      replace zka0 := Nat.lt_of_lt_of_le zka0 hX.size
      replace ka1 := cellB hX ka1
      replace kb0 := cellB hX kb0
      replace zkb0 := Nat.lt_of_lt_of_le zkb0 hX.size
      replace kb1 := cellB hX kb1
      replace kp0 := cellB hX kp0
      replace zkp0 := Nat.lt_of_lt_of_le zkp0 hX.size
      replace kp1 := cellB hX kp1
      replace kq0 := cellB hX kq0
      replace zkq0 := Nat.lt_of_lt_of_le zkq0 hX.size
      replace kq1 := cellB hX kq1
      replace kl0 := cellB hX kl0
      replace zkl0 := Nat.lt_of_lt_of_le zkl0 hX.size
      replace kl1 := cellB hX kl1
      replace kh0 := cellB hX kh0
      replace zkh0 := Nat.lt_of_lt_of_le zkh0 hX.size
      replace kh1 := cellB hX kh1
      replace hB := nextW hB hX
      clear hX hcut
      rcases t3 with _ | _
      · go_wp2_with fail
        go_ret
        exact ⟨rfl, by first | exact hB | exact nextX hB (by go_grown)⟩
      · have LW := Lib.hid (LL.out rfl)
        clear LL LN
        clear HI HI2 HI3 HG HV HU HL HSl HTu HIm ka0 ka1 kb0 kb1 kp0 kp1 kq0 kq1 kl0 kl1 kh0 kh1 zka0 zkb0 zkp0 zkq0 zkl0 zkh0
        obtain ⟨M, hM⟩ : ∃ M, rs.length = M + 1 := ⟨rs.length - 1, by have := LW.out.pos; omega⟩
        obtain ⟨N, hN⟩ : ∃ N, ps.length = N + 2 := ⟨ps.length - 2, by have := LW.out.two; omega⟩
        have hr0 := List.getElem?_eq_getElem (show 0 < rs.length by omega)
        have hrl := List.getElem?_eq_getElem (show M < rs.length by omega)
        generalize hq0 : rs[0] = r0 at hr0
        generalize hql : rs[M] = rl at hrl
        have f0 := LW.out.first r0 hr0
        have fl := LW.out.last rl (by rw [hM]; exact hrl)
        obtain ⟨p0, q0, s0⟩ := r0
        obtain ⟨pl, ql, sg⟩ := rl
        simp only at f0 fl
        subst f0
        obtain rfl : ql = (N : Int) + 1 := by omega
        obtain ⟨gL, cL, bL0, he, -, -, -, -, oc0, hh0⟩ := HS.out.get hr0
        obtain ⟨gL2, cL2, bLl, he2, -, -, -, -, ocl, hhl⟩ := HS.out.get hrl
        injection he with e1 e2 e3
        injection he2 with e4 e5 e6
        subst e1
        injection e4 with e4
        injection e4 with e4
        subst e4
        clear e2 e3 e5 e6
        obtain ⟨⟨m00, -⟩, -, -⟩ := row3_cells hh0
        obtain ⟨-, ⟨ml1, -⟩, -⟩ := row3_cells hhl
        simp only at m00 ml1
        clear hq0 hql
        have ht : tu.length = M := by have := LW.out.tlen; omega
        have e9 : ps.length = N + 2 := hN
        have vM : IntKind.i64.wrap (M : Int) = (M : Int) := IntWalk.i64_in _ (by omega)
        have vN : IntKind.i64.wrap ((N : Int) + 1) = (N : Int) + 1 := IntWalk.i64_in _ (by omega)
        have vM1 : IntKind.i64.wrap ((M : Int) + 1 - 1) = (M : Int) := by rw [show (M : Int) + 1 - 1 = M by omega]; exact vM
        have vN1 : IntKind.i64.wrap ((N : Int) + 2 - 1) = (N : Int) + 1 := by rw [show (N : Int) + 2 - 1 = N + 1 by omega]; exact vN
        have bM : (M : Int) < (M : Int) + 1 := by omega
        have bM0 : (0 : Int) < (M : Int) + 1 := by omega
        have bM3 : M < M + 1 := by omega
        have HSl := Lib.hid (HS2.out)
        rw [hM, ht, hN]
        go_wp2_with fail
        go_loopw [248] (fun i wr => EqTo (M + 1) w18 i wr) (fun i _ => M + 1 - (intOf i).toNat)
        case atStart => exact ⟨0, Nat.zero_le _, rfl, by first | exact Below.refl _ _ | go_grown⟩
        case round => as_aux_lemma =>
          obtain ⟨k, hk, rfl, hbr⟩ := hrel
          by_cases hlt : k < M + 1
          · have hr := List.getElem?_eq_getElem (show k < rs.length by omega)
            generalize rs[k] = r at hr
            obtain ⟨z1, z2, z3⟩ := r
            obtain ⟨g5, c5, bk, he, -, -, -, -, oc, hh⟩ := HS.out.get hr
            injection he with e1 e2 e3
            injection e1 with e1
            injection e1 with e1
            subst e1
            clear e2 e3
            obtain ⟨⟨m0, -⟩, ⟨m1, -⟩, m2, -⟩ := row3_cells hh
            simp only at m0 m1 m2
            obtain ⟨wd0, wd1, wd2⟩ := LW.out.wide k _ hr
            simp only at wd0 wd1 wd2
            obtain ⟨j1, rfl⟩ : ∃ j1 : Nat, z1 = j1 := ⟨z1.toNat, by omega⟩
            obtain ⟨j2, rfl⟩ : ∃ j2 : Nat, z2 = j2 := ⟨z2.toNat, by omega⟩
            have kb9 : (k : Int) < (M : Int) + 1 := by omega
            have v2 : IntKind.i64.wrap ((k : Int) + 1) = (k : Int) + 1 := IntWalk.i64_in _ (by omega)
            have kb8 : k < M + 1 := hlt
            replace HR := Lib.hid (HR.out.keep hbr)
            replace HS := Lib.hid (HS.out.keep hbr)
            replace HS2 := Lib.hid (HS2.out.keep hbr)
            replace HS3 := Lib.hid (HS3.out.keep hbr)
            replace oc := cellB hbr oc
            replace m0 := cellB hbr m0
            replace m1 := cellB hbr m1
            replace m2 := cellB hbr m2
            go_wp2_with fail
            go_loopw [35] (fun i wy => ∃ kk : Nat, i = .int .i64 kk ∧ j1 ≤ kk ∧ kk ≤ j2 ∧ Below wr.heap.size wr wy) (fun i _ => j2 - (intOf i).toNat)
            case atStart => exact ⟨j1, rfl, Nat.le_refl _, by omega, by first | exact Below.refl _ _ | go_grown⟩
            case round => as_aux_lemma =>
              obtain ⟨kk, rfl, hk1, hk2, hby⟩ := hrel
              by_cases hkl : kk < j2
              · replace HR := Lib.hid (HR.out.keep hby)
                replace HS := Lib.hid (HS.out.keep hby)
                replace HS2 := Lib.hid (HS2.out.keep hby)
                replace HS3 := Lib.hid (HS3.out.keep hby)
                replace oc := cellB hby oc
                replace m0 := cellB hby m0
                replace m1 := cellB hby m1
                replace m2 := cellB hby m2
                have hks : kk < sl.length := by have := LW.out.slen; omega
                have hs := List.getElem?_eq_getElem hks
                generalize sl[kk] = sq at hs
                obtain ⟨s1, s2⟩ := sq
                obtain ⟨A3, c3, he, -, -, hcell⟩ := HS2.out
                injection he with e1 e2 e3
                obtain ⟨gs, os, hA, hgs, hc⟩ := hcell (by intro e; rw [e] at hs; simp at hs)
                rw [hA] at e1
                subst e1
                clear e2 e3 hA
                obtain ⟨n0, n1⟩ := hc kk _ hs
                clear hc
                have kb1 : (kk : Int) < (j2 : Int) := by omega
                have kb2 : decide ((kk : Int) < (j2 : Int)) = true := decide_eq_true kb1
                have kb3 : (kk : Int) < ((sl.length : Nat) : Int) := by have := (List.getElem?_eq_some_iff.1 hs).1; omega
                have v3 : IntKind.i64.wrap ((kk : Int) + 1) = (kk : Int) + 1 := IntWalk.i64_in _ (by omega)
                obtain ⟨sg1, sg2⟩ := LW.out.sign k _ hr kk _ (by simp only; omega) (by simp only; omega) hs
                simp only at sg1 sg2
                obtain ⟨x, hx⟩ : ∃ x, decide (0 < s1) = x := ⟨_, rfl⟩
                obtain ⟨y, hy⟩ : ∃ y, decide (s1 < 0) = y := ⟨_, rfl⟩
                rw [hx] at sg1
                rw [hy] at sg2
                replace sg1 := sg1.symm
                replace sg2 := sg2.symm
                clear hs
                rcases x with _ | _ <;> rcases y with _ | _
                all_goals
                  go_wp2_with fail
                  go_roundw
                  case rel => exact ⟨kk + 1, by go_num, by omega, by omega, by first | exact hby | exact nextW hby (by go_grown)⟩
                  case measure => simp [intOf] <;> omega
              · obtain rfl : kk = j2 := by omega
                have kb1 : ¬ (kk : Int) < (kk : Int) := by omega
                have kb2 : decide ((kk : Int) < (kk : Int)) = false := decide_eq_false kb1
                replace HR := Lib.hid (HR.out.keep hby)
                replace HS := Lib.hid (HS.out.keep hby)
                replace HS2 := Lib.hid (HS2.out.keep hby)
                replace HS3 := Lib.hid (HS3.out.keep hby)
                replace oc := cellB hby oc
                replace m0 := cellB hby m0
                replace m1 := cellB hby m1
                replace m2 := cellB hby m2
                cases k with
                | zero => as_aux_lemma =>
                  go_wp2_with fail
                  refine wp_region_below (by kernel_rfl) (by kernel_rfl) ?_
                  iterate 43 (first
                    | (refine stepS rfl ?_; simp only [Act.put, List.setIfInBounds_toArray, List.set_cons_zero, List.set_cons_succ])
                    | (refine stepV (v := ?_) rfl (fun W hW => ?_) ?_
                       rotate_left
                       focus
                         have qc0 := cellB hW.out oc
                         go_simp
                         try with_reducible rfl
                         done
                       simp only [Act.put, List.setIfInBounds_toArray, List.set_cons_zero, List.set_cons_succ]))
                  refine stepN ?_
                  intro wN hwN
                  have hN9 := nextW hbr (nextW hby hwN.out)
                  clear hwN
                  go_wp2_with fail
                  go_roundw
                  case rel => exact ⟨0 + 1, by omega, by go_num, hN9⟩
                  case measure => simp [intOf] <;> omega
                | succ j => as_aux_lemma =>
                  have hjr : j < rs.length := by omega
                  have hrj := List.getElem?_eq_getElem hjr
                  generalize rs[j] = r at hrj
                  obtain ⟨y1, y2, y3⟩ := r
                  obtain ⟨g6, c6, bj, he, -, -, -, -, od, hh2⟩ := HS.out.get hrj
                  injection he with e1 e2 e3
                  injection e1 with e1
                  injection e1 with e1
                  subst e1
                  clear e2 e3
                  obtain ⟨-, ⟨l1, -⟩, l2, -⟩ := row3_cells hh2
                  simp only at l1 l2
                  obtain ⟨nx1, nx2⟩ := LW.out.next j _ _ hrj hr
                  simp only at nx1 nx2
                  subst nx1
                  have hjt : j < tu.length := by omega
                  have htj := List.getElem?_eq_getElem hjt
                  generalize tu[j] = q at htj
                  have hjp : j1 < ps.length := by omega
                  have hpj := List.getElem?_eq_getElem hjp
                  generalize ps[j1] = pt at hpj
                  have hqe := LW.out.turn j _ q pt hr htj (by simpa using hpj)
                  subst hqe
                  obtain ⟨⟨x1, x2⟩, x3, x4⟩ := pt
                  obtain ⟨A3, c3, he, -, -, hcell⟩ := HS3.out
                  injection he with e1 e2 e3
                  obtain ⟨gt, ot, hA, hgt, hc⟩ := hcell (by intro e; rw [e] at htj; simp at htj)
                  rw [hA] at e1
                  subst e1
                  clear e2 e3 hA
                  obtain ⟨n0, n1⟩ := hc j _ htj
                  clear hc
                  obtain ⟨A4, c4, he, -, -, hcell⟩ := HR.out
                  injection he with e1 e2 e3
                  obtain ⟨gp, op, hA, hgp, hc⟩ := hcell (by intro e; rw [e] at hpj; simp at hpj)
                  rw [hA] at e1
                  subst e1
                  clear e2 e3 hA
                  obtain ⟨o0, o1, -, -⟩ := hc j1 _ hpj
                  clear hc
                  simp only at n0 n1 o0 o1
                  have b0 : (0 : Int) < (j : Int) + 1 := by omega
                  have b1 : (j : Int) < (M : Int) + 1 := by omega
                  have b1b : (j : Int) < (M : Int) := by omega
                  have b3 : (j : Int) + 1 < (M : Int) + 1 := by omega
                  have b5 : (j1 : Int) < (N : Int) + 2 := by omega
                  have v4 : IntKind.i64.wrap (j : Int) = (j : Int) := IntWalk.i64_in _ (by omega)
                  have v5 : IntKind.i64.wrap ((j : Int) + 1) = (j : Int) + 1 := IntWalk.i64_in _ (by omega)
                  have v6 : IntKind.i64.wrap ((j : Int) + 1 + 1) = (j : Int) + 1 + 1 := IntWalk.i64_in _ (by omega)
                  have b4 : (1 : Int) ≤ (j : Int) + 1 := by omega
                  have b6 : (y3 == z3) = false := by simpa using nx2
                  clear hr hrj htj hpj
                  go_wp2_with fail
                  refine wp_region_below (by kernel_rfl) (by kernel_rfl) ?_
                  iterate 43 (first
                    | (refine stepS rfl ?_; simp only [Act.put, List.setIfInBounds_toArray, List.set_cons_zero, List.set_cons_succ])
                    | (refine stepV (v := ?_) rfl (fun W hW => ?_) ?_
                       rotate_left
                       focus
                         have qc0 := cellB hW.out oc
                         have qc1 := cellB hW.out od
                         have qc2 := cellB hW.out m0
                         have qc3 := cellB hW.out m2
                         have qc4 := cellB hW.out l1
                         have qc5 := cellB hW.out l2
                         have qc6 := cellB hW.out n0
                         have qc7 := cellB hW.out n1
                         have qc8 := cellB hW.out o0
                         have qc9 := cellB hW.out o1
                         go_simp
                         try with_reducible rfl
                         done
                       simp only [Act.put, List.setIfInBounds_toArray, List.set_cons_zero, List.set_cons_succ]))
                  refine stepN ?_
                  intro wN hwN
                  have hN9 := nextW hbr (nextW hby hwN.out)
                  clear hwN
                  go_wp2_with fail
                  go_roundw
                  case rel => exact ⟨j + 1 + 1, by omega, by go_num, hN9⟩
                  case measure => simp [intOf] <;> omega
          · obtain rfl : k = M + 1 := by omega
            go_wp2_with fail
            go_ret
            exact ⟨rfl, nextW hB (nextX hbr (by go_grown))⟩

set_option maxRecDepth 100000 in
theorem lifted (os : Os) (started : os.Started) (H : Type) (enc : TypeId × Value → H) :
    ReturnsInHanded {} Try.checked os 3 .any (Rows.fnLapRangesSpec.pre6 enc Try.prog Try.f3 Rows.fnLapRangesRow.domain false) (Rows.fnLapRangesSpec.post enc Try.prog Try.f3 false true false false) := by
  refine returnsInHanded_of_change (C := Try.checked) Try.own started (by kernel_rfl) Try.func3
    (ChangeSpec.witness6 (enc := enc) (C := Try.checked) false ⟨#[], #[.slice none 0 0, .slice none 0 0], []⟩ 8 (by kernel_rfl) (by kernel_rfl) (by kernel_rfl) (by kernel_rfl)) ?_
  intro W base args ds gs before hval0 hW hcnd _
  have hval : ∀ (j : Nat) t v, Try.f3.params[j]? = some t → args[j]? = some v → Value.okWide Try.prog W .any base t v := hval0
  have hW' := hW
  obtain ⟨p, q, hA0, hV, rfl, hfz, hnd⟩ := hW
  have hA : DataW.TrodAll enc Try.prog W 0 (fun _ => true) true Try.f3.params.toList args.toList ds p := hA0
  rw [Try.params3] at hA hval
  obtain ⟨v0, v1, d0, d1, p0, p1, rfl, rfl, rfl, h0, h1⟩ := trodAll_two hA
  obtain ⟨bs0, hr0, hb0⟩ := open_code (hval 0 22 v0 rfl rfl) h0
  obtain ⟨bs1, hr1, hb1⟩ := open_code (hval 1 22 v1 rfl rfl) h1
  refine (walk _ _ bs0 bs1 W hr0 hr1 hb0 hb1).mono fun e W' ⟨he, hb⟩ => ?_
  subst he
  exact ⟨_, rfl, law_close Try.laidOut (by kernel_rfl) (by kernel_rfl) Try.underlying4 rfl hW' (fun h => by rfl) hb⟩

theorem proved : Rows.FnLapRangesSaid :=
  OpenClaim.holds_of_wide 3 Try.f3 rfl rfl rfl rfl rfl rfl rfl ⟨rfl, rfl, rfl, rfl, rfl⟩ rfl rfl rfl rfl rfl (by kernel_rfl) Try.func3 (by kernel_rfl)
    (of_decide_eq_true (by kernel_rfl)) (by unfold Func.isWrapper; first | (rw [if_pos (by decide +kernel)]; kernel_rfl) | (rw [if_neg (by decide +kernel)]; exact ⟨rfl, rfl⟩))
    (fun os started H enc _ => lifted os started H enc)

end Go.Proofs.Ytkeajfgcjmhmiaa.lawFnLapRanges
