/- Proved: for every drawn maps, orbits go on step by step, visits are counted, and as many steps as told can be computed; the arguments read afterwards as they did. No condition. -/
import Derived.Test.YtkeajfgcjmhmiaaGreatCode
import Derived.Test.YtkeajfgcjmhmiaaGreatQr
import Derived.Test.YtkeajfgcjmhmiaaGreatDrV
import Derived.Test.YtkeajfgcjmhmiaaGreatOrbP
import Derived.Test.YtkeajfgcjmhmiaaGreatLaws
namespace Go.Proofs.YtkeajfgcjmhmiaaGreat.lawFnOrbits
open Go.Proofs.YtkeajfgcjmhmiaaGreat
open Go.ChangeShapes Go.WideShapes Go.ChangeAt Go.RowKit Go.Joins

theorem qUp_val {n1 d1 n2 d2 r : Int} (s1 : Sm n1 ∧ Sm d1) (s2 : Sm n2 ∧ Sm d2) (h : cmpQ n1 d1 n2 d2 = r) (w : World) :
    Calls Tryz.prog 59 #[.agg #[.int .i64 n1, .int .i64 d1], .agg #[.int .i64 n2, .int .i64 d2]] w fun e w' => e = .returned (.int .i64 r) ∧ Below w.heap.size w w' := by
  subst h; exact qUp_is n1 d1 n2 d2 s1 s2 w

set_option maxRecDepth 100000 in
set_option maxHeartbeats 12800000 in
theorem walk (v u : Value) (bs cs : List Int) (w : World) (hv : RdN .u8 w v bs) (hu : RdN .u8 w u cs) (hbs : ∀ x ∈ bs, 0 ≤ x ∧ x ≤ 255) (hcs : ∀ x ∈ cs, 0 ≤ x ∧ x ≤ 255) :
    Calls Tryz.prog 5 #[v, u] w fun e w' => e = .returned (.bool true) ∧ Below w.heap.size w w' := by
  have HV := Lib.hid hv
  have HU := Lib.hid hu
  have HBs := Lib.hid hbs
  have HCs := Lib.hid hcs
  obtain ⟨A, cv, rfl, hl1, hm1, -⟩ := hv
  obtain ⟨A2, cu, rfl, hl2, hm2, -⟩ := hu
  unfold maxLen at hm1 hm2
  clear hbs hcs
  obtain ⟨nlen, vlen⟩ : ∃ n, IntKind.i64.wrap ((bs.length : Int) + (cs.length : Int)) = n := ⟨_, rfl⟩
  by_cases hbig : (1048576 : Int) < nlen
  · have hbig' : decide ((1048576 : Int) < nlen) = true := decide_eq_true hbig
    go_enter Tryz.func5, Tryz.ntmps5
    go_wp2_with fail
    go_ret
    exact ⟨rfl, by go_grown⟩
  have hbig' : decide ((1048576 : Int) < nlen) = false := decide_eq_false hbig
  go_enter Tryz.func5, Tryz.ntmps5
  go_wp2_with fail
  refine (drawOrbit_is _ bs _ (HV.out.keep (by go_grown)) HBs.out).mono ?_
  rintro e w1 ⟨r, ps, x1, x2, n, rfl, hr, hpl, hb⟩
  have hX : Below w.heap.size w w1 := nextX (by go_grown) hb
  replace HV := Lib.hid (HV.out.keep hX)
  replace HU := Lib.hid (HU.out.keep hX)
  have hB : Below w.heap.size w w1 := hX
  clear hb hX
  have HR := Lib.hid hr.read
  clear hr
  obtain ⟨⟨l, t⟩, hHL⟩ : ∃ r, orbOf ps (x1, x2) n = r := ⟨_, rfl⟩
  have HL := Lib.hid hHL
  clear hHL
  obtain ⟨⟨y1, y2, t1⟩, hHIt⟩ : ∃ r, iterQ ps (x1, x2) n = r := ⟨_, rfl⟩
  have HIt := Lib.hid hHIt
  clear hHIt
  obtain ⟨⟨sN, t3⟩, hHSt⟩ : ∃ r, stepsQ ps (x1, x2) n = r := ⟨_, rfl⟩
  have HSt := Lib.hid hHSt
  clear hHSt
  obtain ⟨⟨d, t5⟩, hHDn⟩ : ∃ r, denQ ps (x1, x2) n = r := ⟨_, rfl⟩
  have HDn := Lib.hid hHDn
  clear hHDn
  obtain ⟨et1, et5, hol⟩ := orb_law HL.out HIt.out HSt.out HDn.out
  have OL := Lib.hid hol
  clear hol
  subst et1
  subst et5
  go_wp2_with fail
  refine (iOrbitOf_is ps _ x1 x2 n l _ HL.out _ (HR.out.keep (by go_grown)) (by omega)).mono ?_
  rintro e w2 ⟨iv, rfl, hi, hb⟩
  have hX : Below w1.heap.size w1 w2 := nextX (by go_grown) hb
  replace HV := Lib.hid (HV.out.keep hX)
  replace HU := Lib.hid (HU.out.keep hX)
  replace HR := Lib.hid (HR.out.keep hX)
  have kx0 : w2.cell? ⟨w1.heap.size, 0, none⟩ = some (.int .i64 x1) := cellB hb (by simp [go_sem])
  have zkx0 := lt_of_cell kx0
  have kx1 : w2.cell? ⟨w1.heap.size, 1, none⟩ = some (.int .i64 x2) := cellB hb (by simp [go_sem])
  replace hB := nextW hB hX
  clear hb hX
  have HI := Lib.hid (hi.read)
  clear hi
  go_wp2_with fail
  refine (sOrbitOf_is ps _ x1 x2 n l _ HL.out _ (HR.out.keep (by go_grown)) (by omega)).mono ?_
  rintro e w3 ⟨sv, rfl, hi, hb⟩
  have hX : Below w2.heap.size w2 w3 := nextX (by go_grown) hb
  replace HV := Lib.hid (HV.out.keep hX)
  replace HU := Lib.hid (HU.out.keep hX)
  replace HR := Lib.hid (HR.out.keep hX)
  replace kx0 := cellB hX kx0
  replace zkx0 := Nat.lt_of_lt_of_le zkx0 hX.size
  replace kx1 := cellB hX kx1
  replace HI := Lib.hid (HI.out.keep hX)
  replace hB := nextW hB hX
  clear hb hX
  have HS := Lib.hid (hi.read)
  clear hi
  go_wp2_with fail
  refine (iIterateMap_is ps _ x1 x2 n y1 y2 _ HIt.out _ (HR.out.keep (by go_grown)) (by omega)).mono ?_
  rintro e w4 ⟨rfl, hb⟩
  have hX : Below w3.heap.size w3 w4 := nextX (by go_grown) hb
  replace HV := Lib.hid (HV.out.keep hX)
  replace HU := Lib.hid (HU.out.keep hX)
  replace HR := Lib.hid (HR.out.keep hX)
  replace kx0 := cellB hX kx0
  replace zkx0 := Nat.lt_of_lt_of_le zkx0 hX.size
  replace kx1 := cellB hX kx1
  replace HI := Lib.hid (HI.out.keep hX)
  replace HS := Lib.hid (HS.out.keep hX)
  replace hB := nextW hB hX
  clear hb hX
  go_wp2_with fail
  refine (sIterateMap_is ps _ x1 x2 n y1 y2 _ HIt.out _ (HR.out.keep (by go_grown)) (by omega)).mono ?_
  rintro e w5 ⟨rfl, hb⟩
  have hX : Below w4.heap.size w4 w5 := nextX (by go_grown) hb
  replace HV := Lib.hid (HV.out.keep hX)
  replace HU := Lib.hid (HU.out.keep hX)
  replace HR := Lib.hid (HR.out.keep hX)
  replace kx0 := cellB hX kx0
  replace zkx0 := Nat.lt_of_lt_of_le zkx0 hX.size
  replace kx1 := cellB hX kx1
  replace HI := Lib.hid (HI.out.keep hX)
  replace HS := Lib.hid (HS.out.keep hX)
  have ky0 : w5.cell? ⟨w4.heap.size, 0, none⟩ = some (.int .i64 y1) := cellB hb (by simp [go_sem])
  have zky0 := lt_of_cell ky0
  have ky1 : w5.cell? ⟨w4.heap.size, 1, none⟩ = some (.int .i64 y2) := cellB hb (by simp [go_sem])
  replace hB := nextW hB hX
  clear hb hX
  go_wp2_with fail
  refine (iStepsInSize_is ps _ x1 x2 n sN t3 HSt.out _ (HR.out.keep (by go_grown)) (by omega)).mono ?_
  rintro e w6 ⟨rfl, hb⟩
  have hX : Below w5.heap.size w5 w6 := nextX (by go_grown) hb
  replace HV := Lib.hid (HV.out.keep hX)
  replace HU := Lib.hid (HU.out.keep hX)
  replace HR := Lib.hid (HR.out.keep hX)
  replace kx0 := cellB hX kx0
  replace zkx0 := Nat.lt_of_lt_of_le zkx0 hX.size
  replace kx1 := cellB hX kx1
  replace HI := Lib.hid (HI.out.keep hX)
  replace HS := Lib.hid (HS.out.keep hX)
  replace ky0 := cellB hX ky0
  replace zky0 := Nat.lt_of_lt_of_le zky0 hX.size
  replace ky1 := cellB hX ky1
  have kY0 : w6.cell? ⟨w5.heap.size, 0, none⟩ = some (.int .i64 y1) := cellB hb (by simp [go_sem])
  have zkY0 := lt_of_cell kY0
  have kY1 : w6.cell? ⟨w5.heap.size, 1, none⟩ = some (.int .i64 y2) := cellB hb (by simp [go_sem])
  replace hB := nextW hB hX
  clear hb hX
  go_wp2_with fail
  refine (sStepsInSize_is ps _ x1 x2 n sN t3 HSt.out _ (HR.out.keep (by go_grown)) (by omega)).mono ?_
  rintro e w7 ⟨rfl, hb⟩
  have hX : Below w6.heap.size w6 w7 := nextX (by go_grown) hb
  replace HV := Lib.hid (HV.out.keep hX)
  replace HU := Lib.hid (HU.out.keep hX)
  replace HR := Lib.hid (HR.out.keep hX)
  replace kx0 := cellB hX kx0
  replace zkx0 := Nat.lt_of_lt_of_le zkx0 hX.size
  replace kx1 := cellB hX kx1
  replace HI := Lib.hid (HI.out.keep hX)
  replace HS := Lib.hid (HS.out.keep hX)
  replace ky0 := cellB hX ky0
  replace zky0 := Nat.lt_of_lt_of_le zky0 hX.size
  replace ky1 := cellB hX ky1
  replace kY0 := cellB hX kY0
  replace zkY0 := Nat.lt_of_lt_of_le zkY0 hX.size
  replace kY1 := cellB hX kY1
  replace hB := nextW hB hX
  clear hb hX
  go_wp2_with fail
  refine (iGreatestDen_is ps _ x1 x2 n d _ HDn.out _ (HR.out.keep (by go_grown)) (by omega)).mono ?_
  rintro e w8 ⟨rfl, hb⟩
  have hX : Below w7.heap.size w7 w8 := nextX (by go_grown) hb
  replace HV := Lib.hid (HV.out.keep hX)
  replace HU := Lib.hid (HU.out.keep hX)
  replace HR := Lib.hid (HR.out.keep hX)
  replace kx0 := cellB hX kx0
  replace zkx0 := Nat.lt_of_lt_of_le zkx0 hX.size
  replace kx1 := cellB hX kx1
  replace HI := Lib.hid (HI.out.keep hX)
  replace HS := Lib.hid (HS.out.keep hX)
  replace ky0 := cellB hX ky0
  replace zky0 := Nat.lt_of_lt_of_le zky0 hX.size
  replace ky1 := cellB hX ky1
  replace kY0 := cellB hX kY0
  replace zkY0 := Nat.lt_of_lt_of_le zkY0 hX.size
  replace kY1 := cellB hX kY1
  replace hB := nextW hB hX
  clear hb hX
  go_wp2_with fail
  refine (sGreatestDen_is ps _ x1 x2 n d _ HDn.out _ (HR.out.keep (by go_grown)) (by omega)).mono ?_
  rintro e w9 ⟨rfl, hb⟩
  have hX : Below w8.heap.size w8 w9 := nextX (by go_grown) hb
  replace HV := Lib.hid (HV.out.keep hX)
  replace HU := Lib.hid (HU.out.keep hX)
  replace HR := Lib.hid (HR.out.keep hX)
  replace kx0 := cellB hX kx0
  replace zkx0 := Nat.lt_of_lt_of_le zkx0 hX.size
  replace kx1 := cellB hX kx1
  replace HI := Lib.hid (HI.out.keep hX)
  replace HS := Lib.hid (HS.out.keep hX)
  replace ky0 := cellB hX ky0
  replace zky0 := Nat.lt_of_lt_of_le zky0 hX.size
  replace ky1 := cellB hX ky1
  replace kY0 := cellB hX kY0
  replace zkY0 := Nat.lt_of_lt_of_le zkY0 hX.size
  replace kY1 := cellB hX kY1
  replace hB := nextW hB hX
  clear hb hX
  go_wp2_with fail
  refine (drawVisits_is _ cs _ (HU.out.keep (by go_grown)) HCs.out).mono ?_
  rintro e w10 ⟨r2, ps2, p1, p2, k, a1, a2, b1, b2, rfl, hr, hpl2, hb⟩
  have hX : Below w9.heap.size w9 w10 := nextX (by go_grown) hb
  replace HV := Lib.hid (HV.out.keep hX)
  replace HU := Lib.hid (HU.out.keep hX)
  replace HR := Lib.hid (HR.out.keep hX)
  replace kx0 := cellB hX kx0
  replace zkx0 := Nat.lt_of_lt_of_le zkx0 hX.size
  replace kx1 := cellB hX kx1
  replace HI := Lib.hid (HI.out.keep hX)
  replace HS := Lib.hid (HS.out.keep hX)
  replace ky0 := cellB hX ky0
  replace zky0 := Nat.lt_of_lt_of_le zky0 hX.size
  replace ky1 := cellB hX ky1
  replace kY0 := cellB hX kY0
  replace zkY0 := Nat.lt_of_lt_of_le zkY0 hX.size
  replace kY1 := cellB hX kY1
  replace hB := nextW hB hX
  clear hb hX
  have HG := Lib.hid hr.read
  clear hr
  obtain ⟨⟨vn, t7⟩, hHVi⟩ : ∃ r, visQ ps2 (p1, p2) k (a1, a2) (b1, b2) = r := ⟨_, rfl⟩
  have HVi := Lib.hid hHVi
  clear hHVi
  go_wp2_with fail
  refine (iVisitsOf_is ps2 _ p1 p2 k a1 a2 b1 b2 vn t7 HVi.out _ (HG.out.keep (by go_grown)) (by omega)).mono ?_
  rintro e w11 ⟨rfl, hb⟩
  have hX : Below w10.heap.size w10 w11 := nextX (by go_grown) hb
  replace HV := Lib.hid (HV.out.keep hX)
  replace HU := Lib.hid (HU.out.keep hX)
  replace HR := Lib.hid (HR.out.keep hX)
  replace kx0 := cellB hX kx0
  replace zkx0 := Nat.lt_of_lt_of_le zkx0 hX.size
  replace kx1 := cellB hX kx1
  replace HI := Lib.hid (HI.out.keep hX)
  replace HS := Lib.hid (HS.out.keep hX)
  replace ky0 := cellB hX ky0
  replace zky0 := Nat.lt_of_lt_of_le zky0 hX.size
  replace ky1 := cellB hX ky1
  replace kY0 := cellB hX kY0
  replace zkY0 := Nat.lt_of_lt_of_le zkY0 hX.size
  replace kY1 := cellB hX kY1
  replace HG := Lib.hid (HG.out.keep hX)
  have kp0 : w11.cell? ⟨w10.heap.size, 0, none⟩ = some (.int .i64 p1) := cellB hb (by simp [go_sem])
  have zkp0 := lt_of_cell kp0
  have kp1 : w11.cell? ⟨w10.heap.size, 1, none⟩ = some (.int .i64 p2) := cellB hb (by simp [go_sem])
  have ka0 : w11.cell? ⟨w10.heap.size + 1, 0, none⟩ = some (.int .i64 a1) := cellB hb (by simp [go_sem])
  have zka0 := lt_of_cell ka0
  have ka1 : w11.cell? ⟨w10.heap.size + 1, 1, none⟩ = some (.int .i64 a2) := cellB hb (by simp [go_sem])
  have kb0 : w11.cell? ⟨w10.heap.size + 1 + 1, 0, none⟩ = some (.int .i64 b1) := cellB hb (by simp [go_sem])
  have zkb0 := lt_of_cell kb0
  have kb1 : w11.cell? ⟨w10.heap.size + 1 + 1, 1, none⟩ = some (.int .i64 b2) := cellB hb (by simp [go_sem])
  replace hB := nextW hB hX
  clear hb hX
  go_wp2_with fail
  refine (sVisitsOf_is ps2 _ p1 p2 k a1 a2 b1 b2 vn t7 HVi.out _ (HG.out.keep (by go_grown)) (by omega)).mono ?_
  rintro e w12 ⟨rfl, hb⟩
  have hX : Below w11.heap.size w11 w12 := nextX (by go_grown) hb
  replace HV := Lib.hid (HV.out.keep hX)
  replace HU := Lib.hid (HU.out.keep hX)
  replace HR := Lib.hid (HR.out.keep hX)
  replace kx0 := cellB hX kx0
  replace zkx0 := Nat.lt_of_lt_of_le zkx0 hX.size
  replace kx1 := cellB hX kx1
  replace HI := Lib.hid (HI.out.keep hX)
  replace HS := Lib.hid (HS.out.keep hX)
  replace ky0 := cellB hX ky0
  replace zky0 := Nat.lt_of_lt_of_le zky0 hX.size
  replace ky1 := cellB hX ky1
  replace kY0 := cellB hX kY0
  replace zkY0 := Nat.lt_of_lt_of_le zkY0 hX.size
  replace kY1 := cellB hX kY1
  replace HG := Lib.hid (HG.out.keep hX)
  replace kp0 := cellB hX kp0
  replace zkp0 := Nat.lt_of_lt_of_le zkp0 hX.size
  replace kp1 := cellB hX kp1
  replace ka0 := cellB hX ka0
  replace zka0 := Nat.lt_of_lt_of_le zka0 hX.size
  replace ka1 := cellB hX ka1
  replace kb0 := cellB hX kb0
  replace zkb0 := Nat.lt_of_lt_of_le zkb0 hX.size
  replace kb1 := cellB hX kb1
  replace hB := nextW hB hX
  clear hb hX
  go_wp2_with fail
  refine (drawDist_is _ cs _ (HU.out.keep (by go_grown)) HCs.out).mono ?_
  rintro e w13 ⟨r3, ps3, u1, u2, c1, c2, m, rfl, hr, hpl3, hb⟩
  have hX : Below w12.heap.size w12 w13 := nextX (by go_grown) hb
  replace HV := Lib.hid (HV.out.keep hX)
  replace HU := Lib.hid (HU.out.keep hX)
  replace HR := Lib.hid (HR.out.keep hX)
  replace kx0 := cellB hX kx0
  replace zkx0 := Nat.lt_of_lt_of_le zkx0 hX.size
  replace kx1 := cellB hX kx1
  replace HI := Lib.hid (HI.out.keep hX)
  replace HS := Lib.hid (HS.out.keep hX)
  replace ky0 := cellB hX ky0
  replace zky0 := Nat.lt_of_lt_of_le zky0 hX.size
  replace ky1 := cellB hX ky1
  replace kY0 := cellB hX kY0
  replace zkY0 := Nat.lt_of_lt_of_le zkY0 hX.size
  replace kY1 := cellB hX kY1
  replace HG := Lib.hid (HG.out.keep hX)
  replace kp0 := cellB hX kp0
  replace zkp0 := Nat.lt_of_lt_of_le zkp0 hX.size
  replace kp1 := cellB hX kp1
  replace ka0 := cellB hX ka0
  replace zka0 := Nat.lt_of_lt_of_le zka0 hX.size
  replace ka1 := cellB hX ka1
  replace kb0 := cellB hX kb0
  replace zkb0 := Nat.lt_of_lt_of_le zkb0 hX.size
  replace kb1 := cellB hX kb1
  replace hB := nextW hB hX
  clear hb hX
  have HH := Lib.hid hr.read
  clear hr
  obtain ⟨⟨f1, f2, t9⟩, hHFa⟩ : ∃ r, farQ ps3 (u1, u2) (c1, c2) m = r := ⟨_, rfl⟩
  have HFa := Lib.hid hHFa
  clear hHFa
  go_wp2_with fail
  refine (iOrbitDistance_is ps3 _ u1 u2 c1 c2 m f1 f2 t9 HFa.out _ (HH.out.keep (by go_grown)) (by omega)).mono ?_
  rintro e w14 ⟨rfl, hb⟩
  have hX : Below w13.heap.size w13 w14 := nextX (by go_grown) hb
  replace HV := Lib.hid (HV.out.keep hX)
  replace HU := Lib.hid (HU.out.keep hX)
  replace HR := Lib.hid (HR.out.keep hX)
  replace kx0 := cellB hX kx0
  replace zkx0 := Nat.lt_of_lt_of_le zkx0 hX.size
  replace kx1 := cellB hX kx1
  replace HI := Lib.hid (HI.out.keep hX)
  replace HS := Lib.hid (HS.out.keep hX)
  replace ky0 := cellB hX ky0
  replace zky0 := Nat.lt_of_lt_of_le zky0 hX.size
  replace ky1 := cellB hX ky1
  replace kY0 := cellB hX kY0
  replace zkY0 := Nat.lt_of_lt_of_le zkY0 hX.size
  replace kY1 := cellB hX kY1
  replace HG := Lib.hid (HG.out.keep hX)
  replace kp0 := cellB hX kp0
  replace zkp0 := Nat.lt_of_lt_of_le zkp0 hX.size
  replace kp1 := cellB hX kp1
  replace ka0 := cellB hX ka0
  replace zka0 := Nat.lt_of_lt_of_le zka0 hX.size
  replace ka1 := cellB hX ka1
  replace kb0 := cellB hX kb0
  replace zkb0 := Nat.lt_of_lt_of_le zkb0 hX.size
  replace kb1 := cellB hX kb1
  replace HH := Lib.hid (HH.out.keep hX)
  have ku0 : w14.cell? ⟨w13.heap.size, 0, none⟩ = some (.int .i64 u1) := cellB hb (by simp [go_sem])
  have zku0 := lt_of_cell ku0
  have ku1 : w14.cell? ⟨w13.heap.size, 1, none⟩ = some (.int .i64 u2) := cellB hb (by simp [go_sem])
  have kc0 : w14.cell? ⟨w13.heap.size + 1, 0, none⟩ = some (.int .i64 c1) := cellB hb (by simp [go_sem])
  have zkc0 := lt_of_cell kc0
  have kc1 : w14.cell? ⟨w13.heap.size + 1, 1, none⟩ = some (.int .i64 c2) := cellB hb (by simp [go_sem])
  replace hB := nextW hB hX
  clear hb hX
  go_wp2_with fail
  refine (sOrbitDistance_is ps3 _ u1 u2 c1 c2 m f1 f2 t9 HFa.out _ (HH.out.keep (by go_grown)) (by omega)).mono ?_
  rintro e w15 ⟨rfl, hb⟩
  have hX : Below w14.heap.size w14 w15 := nextX (by go_grown) hb
  replace HV := Lib.hid (HV.out.keep hX)
  replace HU := Lib.hid (HU.out.keep hX)
  replace HR := Lib.hid (HR.out.keep hX)
  replace kx0 := cellB hX kx0
  replace zkx0 := Nat.lt_of_lt_of_le zkx0 hX.size
  replace kx1 := cellB hX kx1
  replace HI := Lib.hid (HI.out.keep hX)
  replace HS := Lib.hid (HS.out.keep hX)
  replace ky0 := cellB hX ky0
  replace zky0 := Nat.lt_of_lt_of_le zky0 hX.size
  replace ky1 := cellB hX ky1
  replace kY0 := cellB hX kY0
  replace zkY0 := Nat.lt_of_lt_of_le zkY0 hX.size
  replace kY1 := cellB hX kY1
  replace HG := Lib.hid (HG.out.keep hX)
  replace kp0 := cellB hX kp0
  replace zkp0 := Nat.lt_of_lt_of_le zkp0 hX.size
  replace kp1 := cellB hX kp1
  replace ka0 := cellB hX ka0
  replace zka0 := Nat.lt_of_lt_of_le zka0 hX.size
  replace ka1 := cellB hX ka1
  replace kb0 := cellB hX kb0
  replace zkb0 := Nat.lt_of_lt_of_le zkb0 hX.size
  replace kb1 := cellB hX kb1
  replace HH := Lib.hid (HH.out.keep hX)
  replace ku0 := cellB hX ku0
  replace zku0 := Nat.lt_of_lt_of_le zku0 hX.size
  replace ku1 := cellB hX ku1
  replace kc0 := cellB hX kc0
  replace zkc0 := Nat.lt_of_lt_of_le zkc0 hX.size
  replace kc1 := cellB hX kc1
  have kf0 : w15.cell? ⟨w14.heap.size, 0, none⟩ = some (.int .i64 f1) := cellB hb (by simp [go_sem])
  have zkf0 := lt_of_cell kf0
  have kf1 : w15.cell? ⟨w14.heap.size, 1, none⟩ = some (.int .i64 f2) := cellB hb (by simp [go_sem])
  replace hB := nextW hB hX
  clear hb hX
  obtain ⟨SA, sc, hsv, hsl, hsm, -⟩ := HS.out
  subst hsv
  unfold maxLen at hsm
  go_upto_region 18 with fail
  go_name_world w16 hW
  have hX : Below w15.heap.size w15 w16 := by rw [← hW]; go_grown
  replace HV := Lib.hid (HV.out.keep hX)
  replace HU := Lib.hid (HU.out.keep hX)
  replace HR := Lib.hid (HR.out.keep hX)
  replace kx0 := cellB hX kx0
  replace zkx0 := Nat.lt_of_lt_of_le zkx0 hX.size
  replace kx1 := cellB hX kx1
  replace HI := Lib.hid (HI.out.keep hX)
  replace HS := Lib.hid (HS.out.keep hX)
  replace ky0 := cellB hX ky0
  replace zky0 := Nat.lt_of_lt_of_le zky0 hX.size
  replace ky1 := cellB hX ky1
  replace kY0 := cellB hX kY0
  replace zkY0 := Nat.lt_of_lt_of_le zkY0 hX.size
  replace kY1 := cellB hX kY1
  replace HG := Lib.hid (HG.out.keep hX)
  replace kp0 := cellB hX kp0
  replace zkp0 := Nat.lt_of_lt_of_le zkp0 hX.size
  replace kp1 := cellB hX kp1
  replace ka0 := cellB hX ka0
  replace zka0 := Nat.lt_of_lt_of_le zka0 hX.size
  replace ka1 := cellB hX ka1
  replace kb0 := cellB hX kb0
  replace zkb0 := Nat.lt_of_lt_of_le zkb0 hX.size
  replace kb1 := cellB hX kb1
  replace HH := Lib.hid (HH.out.keep hX)
  replace ku0 := cellB hX ku0
  replace zku0 := Nat.lt_of_lt_of_le zku0 hX.size
  replace ku1 := cellB hX ku1
  replace kc0 := cellB hX kc0
  replace zkc0 := Nat.lt_of_lt_of_le zkc0 hX.size
  replace kc1 := cellB hX kc1
  replace kf0 := cellB hX kf0
  replace zkf0 := Nat.lt_of_lt_of_le zkf0 hX.size
  replace kf1 := cellB hX kf1
  have kF0 : w16.cell? ⟨w15.heap.size, 0, none⟩ = some (.int .i64 f1) := by rw [← hW]; simp [go_sem]
  have zkF0 := lt_of_cell kF0
  have kF1 : w16.cell? ⟨w15.heap.size, 1, none⟩ = some (.int .i64 f2) := by rw [← hW]; simp [go_sem]
  replace hB := nextW hB hX
  clear hW hX
  go_cut [248] (fun c wx => c = .bool false ∧ Below w16.heap.size w16 wx)
  case first => as_aux_lemma =>
    have hgo := OL.out.goes

    rcases t3 with _ | _
    · simp only [Bool.false_and] at hgo
      subst hgo
      go_wp2_with fail
      refine (qRats_same l _ _ _ (HI.out.keep (by go_grown)) (HS.out.keep (by go_grown))).mono ?_
      rintro e w17 ⟨rfl, hb⟩
      have hX : Below w16.heap.size w16 w17 := nextX (by go_grown) hb
      replace HV := Lib.hid (HV.out.keep hX)
      replace HU := Lib.hid (HU.out.keep hX)
      replace HR := Lib.hid (HR.out.keep hX)
      replace kx0 := cellB hX kx0
      replace zkx0 := Nat.lt_of_lt_of_le zkx0 hX.size
      replace kx1 := cellB hX kx1
      replace HI := Lib.hid (HI.out.keep hX)
      replace HS := Lib.hid (HS.out.keep hX)
      replace ky0 := cellB hX ky0
      replace zky0 := Nat.lt_of_lt_of_le zky0 hX.size
      replace ky1 := cellB hX ky1
      replace kY0 := cellB hX kY0
      replace zkY0 := Nat.lt_of_lt_of_le zkY0 hX.size
      replace kY1 := cellB hX kY1
      replace HG := Lib.hid (HG.out.keep hX)
      replace kp0 := cellB hX kp0
      replace zkp0 := Nat.lt_of_lt_of_le zkp0 hX.size
      replace kp1 := cellB hX kp1
      replace ka0 := cellB hX ka0
      replace zka0 := Nat.lt_of_lt_of_le zka0 hX.size
      replace ka1 := cellB hX ka1
      replace kb0 := cellB hX kb0
      replace zkb0 := Nat.lt_of_lt_of_le zkb0 hX.size
      replace kb1 := cellB hX kb1
      replace HH := Lib.hid (HH.out.keep hX)
      replace ku0 := cellB hX ku0
      replace zku0 := Nat.lt_of_lt_of_le zku0 hX.size
      replace ku1 := cellB hX ku1
      replace kc0 := cellB hX kc0
      replace zkc0 := Nat.lt_of_lt_of_le zkc0 hX.size
      replace kc1 := cellB hX kc1
      replace kf0 := cellB hX kf0
      replace zkf0 := Nat.lt_of_lt_of_le zkf0 hX.size
      replace kf1 := cellB hX kf1
      replace kF0 := cellB hX kF0
      replace zkF0 := Nat.lt_of_lt_of_le zkF0 hX.size
      replace kF1 := cellB hX kF1
      have hC : Below w16.heap.size w16 w17 := hX
      clear hb hX
      go_wp2_with fail
      go_meet
      exact ⟨by first | rfl | (simp; done), by first | exact Below.refl _ _ | exact nextX hC (by go_grown) | go_grown⟩
    · have e1 : (sN == n) = t5 := by rw [hgo]; rfl
      have e2 : decide (sN = n) = t5 := by rw [hgo]; rfl
      clear hgo
      go_wp2_with fail
      refine (qRats_same l _ _ _ (HI.out.keep (by go_grown)) (HS.out.keep (by go_grown))).mono ?_
      rintro e w17 ⟨rfl, hb⟩
      have hX : Below w16.heap.size w16 w17 := nextX (by go_grown) hb
      replace HV := Lib.hid (HV.out.keep hX)
      replace HU := Lib.hid (HU.out.keep hX)
      replace HR := Lib.hid (HR.out.keep hX)
      replace kx0 := cellB hX kx0
      replace zkx0 := Nat.lt_of_lt_of_le zkx0 hX.size
      replace kx1 := cellB hX kx1
      replace HI := Lib.hid (HI.out.keep hX)
      replace HS := Lib.hid (HS.out.keep hX)
      replace ky0 := cellB hX ky0
      replace zky0 := Nat.lt_of_lt_of_le zky0 hX.size
      replace ky1 := cellB hX ky1
      replace kY0 := cellB hX kY0
      replace zkY0 := Nat.lt_of_lt_of_le zkY0 hX.size
      replace kY1 := cellB hX kY1
      replace HG := Lib.hid (HG.out.keep hX)
      replace kp0 := cellB hX kp0
      replace zkp0 := Nat.lt_of_lt_of_le zkp0 hX.size
      replace kp1 := cellB hX kp1
      replace ka0 := cellB hX ka0
      replace zka0 := Nat.lt_of_lt_of_le zka0 hX.size
      replace ka1 := cellB hX ka1
      replace kb0 := cellB hX kb0
      replace zkb0 := Nat.lt_of_lt_of_le zkb0 hX.size
      replace kb1 := cellB hX kb1
      replace HH := Lib.hid (HH.out.keep hX)
      replace ku0 := cellB hX ku0
      replace zku0 := Nat.lt_of_lt_of_le zku0 hX.size
      replace ku1 := cellB hX ku1
      replace kc0 := cellB hX kc0
      replace zkc0 := Nat.lt_of_lt_of_le zkc0 hX.size
      replace kc1 := cellB hX kc1
      replace kf0 := cellB hX kf0
      replace zkf0 := Nat.lt_of_lt_of_le zkf0 hX.size
      replace kf1 := cellB hX kf1
      replace kF0 := cellB hX kF0
      replace zkF0 := Nat.lt_of_lt_of_le zkF0 hX.size
      replace kF1 := cellB hX kF1
      have hC : Below w16.heap.size w16 w17 := hX
      clear hb hX
      go_wp2_with fail
      go_meet
      exact ⟨by first | rfl | (simp; done), by first | exact Below.refl _ _ | exact nextX hC (by go_grown) | go_grown⟩
  case rest => as_aux_lemma =>
    obtain ⟨rfl, hX⟩ := hcut
    obtain ⟨w18, hwc⟩ : ∃ X : World, X = wc := ⟨_, rfl⟩
    subst hwc
    replace HV := Lib.hid (HV.out.keep hX)
    replace HU := Lib.hid (HU.out.keep hX)
    replace HR := Lib.hid (HR.out.keep hX)
    replace kx0 := cellB hX kx0
    replace zkx0 := Nat.lt_of_lt_of_le zkx0 hX.size
    replace kx1 := cellB hX kx1
    replace HI := Lib.hid (HI.out.keep hX)
    replace HS := Lib.hid (HS.out.keep hX)
    replace ky0 := cellB hX ky0
    replace zky0 := Nat.lt_of_lt_of_le zky0 hX.size
    replace ky1 := cellB hX ky1
    replace kY0 := cellB hX kY0
    replace zkY0 := Nat.lt_of_lt_of_le zkY0 hX.size
    replace kY1 := cellB hX kY1
    replace HG := Lib.hid (HG.out.keep hX)
    replace kp0 := cellB hX kp0
    replace zkp0 := Nat.lt_of_lt_of_le zkp0 hX.size
    replace kp1 := cellB hX kp1
    replace ka0 := cellB hX ka0
    replace zka0 := Nat.lt_of_lt_of_le zka0 hX.size
    replace ka1 := cellB hX ka1
    replace kb0 := cellB hX kb0
    replace zkb0 := Nat.lt_of_lt_of_le zkb0 hX.size
    replace kb1 := cellB hX kb1
    replace HH := Lib.hid (HH.out.keep hX)
    replace ku0 := cellB hX ku0
    replace zku0 := Nat.lt_of_lt_of_le zku0 hX.size
    replace ku1 := cellB hX ku1
    replace kc0 := cellB hX kc0
    replace zkc0 := Nat.lt_of_lt_of_le zkc0 hX.size
    replace kc1 := cellB hX kc1
    replace kf0 := cellB hX kf0
    replace zkf0 := Nat.lt_of_lt_of_le zkf0 hX.size
    replace kf1 := cellB hX kf1
    replace kF0 := cellB hX kF0
    replace zkF0 := Nat.lt_of_lt_of_le zkF0 hX.size
    replace kF1 := cellB hX kF1
    replace hB := nextW hB hX
    clear hX
    go_upto_if 249 with fail
    go_cut [] (fun wx => Below w18.heap.size w18 wx)
    case first => as_aux_lemma =>
      rcases t7 with _ | _
      · go_wp2_with fail
        go_meet
        first | exact Below.refl _ _ | go_grown
      · obtain ⟨k0, k1, hva, hvl⟩ := visits_all HVi.out
        have HVa := Lib.hid hva
        clear hva
        have v1 : IntKind.i64.wrap (k + 1) = k + 1 := IntWalk.i64_in _ (by omega)
        have e1 : ¬ k + 1 < vn := by omega
        have e1' : decide (k + 1 < vn) = false := decide_eq_false e1
        go_wp2_with fail
        refine (iVisitsOf_is ps2 _ p1 p2 k 0 1 1 1 (k + 1) true HVa.out _ (HG.out.keep (by go_grown)) (by omega)).mono ?_
        rintro e w19 ⟨rfl, hb⟩
        have hX : Below w18.heap.size w18 w19 := nextX (by go_grown) hb
        replace HV := Lib.hid (HV.out.keep hX)
        replace HU := Lib.hid (HU.out.keep hX)
        replace HR := Lib.hid (HR.out.keep hX)
        replace kx0 := cellB hX kx0
        replace zkx0 := Nat.lt_of_lt_of_le zkx0 hX.size
        replace kx1 := cellB hX kx1
        replace HI := Lib.hid (HI.out.keep hX)
        replace HS := Lib.hid (HS.out.keep hX)
        replace ky0 := cellB hX ky0
        replace zky0 := Nat.lt_of_lt_of_le zky0 hX.size
        replace ky1 := cellB hX ky1
        replace kY0 := cellB hX kY0
        replace zkY0 := Nat.lt_of_lt_of_le zkY0 hX.size
        replace kY1 := cellB hX kY1
        replace HG := Lib.hid (HG.out.keep hX)
        replace kp0 := cellB hX kp0
        replace zkp0 := Nat.lt_of_lt_of_le zkp0 hX.size
        replace kp1 := cellB hX kp1
        replace ka0 := cellB hX ka0
        replace zka0 := Nat.lt_of_lt_of_le zka0 hX.size
        replace ka1 := cellB hX ka1
        replace kb0 := cellB hX kb0
        replace zkb0 := Nat.lt_of_lt_of_le zkb0 hX.size
        replace kb1 := cellB hX kb1
        replace HH := Lib.hid (HH.out.keep hX)
        replace ku0 := cellB hX ku0
        replace zku0 := Nat.lt_of_lt_of_le zku0 hX.size
        replace ku1 := cellB hX ku1
        replace kc0 := cellB hX kc0
        replace zkc0 := Nat.lt_of_lt_of_le zkc0 hX.size
        replace kc1 := cellB hX kc1
        replace kf0 := cellB hX kf0
        replace zkf0 := Nat.lt_of_lt_of_le zkf0 hX.size
        replace kf1 := cellB hX kf1
        replace kF0 := cellB hX kF0
        replace zkF0 := Nat.lt_of_lt_of_le zkF0 hX.size
        replace kF1 := cellB hX kF1
        have hC : Below w18.heap.size w18 w19 := hX
        clear hb hX
        go_wp2_with fail
        go_meet
        first | exact Below.refl _ _ | exact nextX hC (by go_grown) | go_grown
    case rest => as_aux_lemma =>
      have hX := hcut
      obtain ⟨w20, hwc⟩ : ∃ X : World, X = wc := ⟨_, rfl⟩
      subst hwc
      replace HV := Lib.hid (HV.out.keep hX)
      replace HU := Lib.hid (HU.out.keep hX)
      replace HR := Lib.hid (HR.out.keep hX)
      replace kx0 := cellB hX kx0
      replace zkx0 := Nat.lt_of_lt_of_le zkx0 hX.size
      replace kx1 := cellB hX kx1
      replace HI := Lib.hid (HI.out.keep hX)
      replace HS := Lib.hid (HS.out.keep hX)
      replace ky0 := cellB hX ky0
      replace zky0 := Nat.lt_of_lt_of_le zky0 hX.size
      replace ky1 := cellB hX ky1
      replace kY0 := cellB hX kY0
      replace zkY0 := Nat.lt_of_lt_of_le zkY0 hX.size
      replace kY1 := cellB hX kY1
      replace HG := Lib.hid (HG.out.keep hX)
      replace kp0 := cellB hX kp0
      replace zkp0 := Nat.lt_of_lt_of_le zkp0 hX.size
      replace kp1 := cellB hX kp1
      replace ka0 := cellB hX ka0
      replace zka0 := Nat.lt_of_lt_of_le zka0 hX.size
      replace ka1 := cellB hX ka1
      replace kb0 := cellB hX kb0
      replace zkb0 := Nat.lt_of_lt_of_le zkb0 hX.size
      replace kb1 := cellB hX kb1
      replace HH := Lib.hid (HH.out.keep hX)
      replace ku0 := cellB hX ku0
      replace zku0 := Nat.lt_of_lt_of_le zku0 hX.size
      replace ku1 := cellB hX ku1
      replace kc0 := cellB hX kc0
      replace zkc0 := Nat.lt_of_lt_of_le zkc0 hX.size
      replace kc1 := cellB hX kc1
      replace kf0 := cellB hX kf0
      replace zkf0 := Nat.lt_of_lt_of_le zkf0 hX.size
      replace kf1 := cellB hX kf1
      replace kF0 := cellB hX kF0
      replace zkF0 := Nat.lt_of_lt_of_le zkF0 hX.size
      replace kF1 := cellB hX kF1
      replace hB := nextW hB hX
      clear hX hcut
      go_upto_if 272 with fail
      go_cut [] (fun wx => Below w20.heap.size w20 wx)
      case first => as_aux_lemma =>
        rcases t9 with _ | _
        · go_wp2_with fail
          go_meet
          first | exact Below.refl _ _ | go_grown
        · have HFb := Lib.hid (farQ_comm HFa.out)
          obtain ⟨n0, ok0⟩ := farQ_nn HFa.out
          have HSf := Lib.hid (Sm.of_ok ok0)
          obtain ⟨o, ho⟩ : ∃ o, cmpQ f1 f2 0 1 = o := ⟨_, rfl⟩
          have hop : ¬ o < 0 := by rw [← ho]; unfold cmpQ; (repeat' split) <;> omega
          have hop' : decide (o < 0) = false := decide_eq_false hop
          have HO := Lib.hid ho
          clear ho ok0
          go_wp2_with fail
          refine (iOrbitDistance_is ps3 _ c1 c2 u1 u2 m f1 f2 true HFb.out _ (HH.out.keep (by go_grown)) (by omega)).mono ?_
          rintro e w21 ⟨rfl, hb⟩
          have hX : Below w20.heap.size w20 w21 := nextX (by go_grown) hb
          replace HV := Lib.hid (HV.out.keep hX)
          replace HU := Lib.hid (HU.out.keep hX)
          replace HR := Lib.hid (HR.out.keep hX)
          replace kx0 := cellB hX kx0
          replace zkx0 := Nat.lt_of_lt_of_le zkx0 hX.size
          replace kx1 := cellB hX kx1
          replace HI := Lib.hid (HI.out.keep hX)
          replace HS := Lib.hid (HS.out.keep hX)
          replace ky0 := cellB hX ky0
          replace zky0 := Nat.lt_of_lt_of_le zky0 hX.size
          replace ky1 := cellB hX ky1
          replace kY0 := cellB hX kY0
          replace zkY0 := Nat.lt_of_lt_of_le zkY0 hX.size
          replace kY1 := cellB hX kY1
          replace HG := Lib.hid (HG.out.keep hX)
          replace kp0 := cellB hX kp0
          replace zkp0 := Nat.lt_of_lt_of_le zkp0 hX.size
          replace kp1 := cellB hX kp1
          replace ka0 := cellB hX ka0
          replace zka0 := Nat.lt_of_lt_of_le zka0 hX.size
          replace ka1 := cellB hX ka1
          replace kb0 := cellB hX kb0
          replace zkb0 := Nat.lt_of_lt_of_le zkb0 hX.size
          replace kb1 := cellB hX kb1
          replace HH := Lib.hid (HH.out.keep hX)
          replace ku0 := cellB hX ku0
          replace zku0 := Nat.lt_of_lt_of_le zku0 hX.size
          replace ku1 := cellB hX ku1
          replace kc0 := cellB hX kc0
          replace zkc0 := Nat.lt_of_lt_of_le zkc0 hX.size
          replace kc1 := cellB hX kc1
          replace kf0 := cellB hX kf0
          replace zkf0 := Nat.lt_of_lt_of_le zkf0 hX.size
          replace kf1 := cellB hX kf1
          replace kF0 := cellB hX kF0
          replace zkF0 := Nat.lt_of_lt_of_le zkF0 hX.size
          replace kF1 := cellB hX kF1
          have hC : Below w20.heap.size w20 w21 := hX
          clear hb hX
          go_wp2_with fail
          refine (qUp_val HSf.out ⟨by unfold Sm; omega, by unfold Sm; omega⟩ HO.out _).mono ?_
          rintro e w22 ⟨rfl, hb⟩
          have hX : Below w21.heap.size w21 w22 := nextX (by go_grown) hb
          replace HV := Lib.hid (HV.out.keep hX)
          replace HU := Lib.hid (HU.out.keep hX)
          replace HR := Lib.hid (HR.out.keep hX)
          replace kx0 := cellB hX kx0
          replace zkx0 := Nat.lt_of_lt_of_le zkx0 hX.size
          replace kx1 := cellB hX kx1
          replace HI := Lib.hid (HI.out.keep hX)
          replace HS := Lib.hid (HS.out.keep hX)
          replace ky0 := cellB hX ky0
          replace zky0 := Nat.lt_of_lt_of_le zky0 hX.size
          replace ky1 := cellB hX ky1
          replace kY0 := cellB hX kY0
          replace zkY0 := Nat.lt_of_lt_of_le zkY0 hX.size
          replace kY1 := cellB hX kY1
          replace HG := Lib.hid (HG.out.keep hX)
          replace kp0 := cellB hX kp0
          replace zkp0 := Nat.lt_of_lt_of_le zkp0 hX.size
          replace kp1 := cellB hX kp1
          replace ka0 := cellB hX ka0
          replace zka0 := Nat.lt_of_lt_of_le zka0 hX.size
          replace ka1 := cellB hX ka1
          replace kb0 := cellB hX kb0
          replace zkb0 := Nat.lt_of_lt_of_le zkb0 hX.size
          replace kb1 := cellB hX kb1
          replace HH := Lib.hid (HH.out.keep hX)
          replace ku0 := cellB hX ku0
          replace zku0 := Nat.lt_of_lt_of_le zku0 hX.size
          replace ku1 := cellB hX ku1
          replace kc0 := cellB hX kc0
          replace zkc0 := Nat.lt_of_lt_of_le zkc0 hX.size
          replace kc1 := cellB hX kc1
          replace kf0 := cellB hX kf0
          replace zkf0 := Nat.lt_of_lt_of_le zkf0 hX.size
          replace kf1 := cellB hX kf1
          replace kF0 := cellB hX kF0
          replace zkF0 := Nat.lt_of_lt_of_le zkF0 hX.size
          replace kF1 := cellB hX kF1
          have kg0 : w22.cell? ⟨w21.heap.size, 0, none⟩ = some (.int .i64 f1) := cellB hb (by simp [go_sem])
          have zkg0 := lt_of_cell kg0
          have kg1 : w22.cell? ⟨w21.heap.size, 1, none⟩ = some (.int .i64 f2) := cellB hb (by simp [go_sem])
          replace hC := nextW hC hX
          clear hb hX
          go_wp2_with fail
          go_meet
          first | exact Below.refl _ _ | exact nextX hC (by go_grown) | go_grown
      case rest => as_aux_lemma =>
        have hX := hcut
        obtain ⟨w23, hwc⟩ : ∃ X : World, X = wc := ⟨_, rfl⟩
        subst hwc
        replace HV := Lib.hid (HV.out.keep hX)
        replace HU := Lib.hid (HU.out.keep hX)
        replace HR := Lib.hid (HR.out.keep hX)
        replace kx0 := cellB hX kx0
        replace zkx0 := Nat.lt_of_lt_of_le zkx0 hX.size
        replace kx1 := cellB hX kx1
        replace HI := Lib.hid (HI.out.keep hX)
        replace HS := Lib.hid (HS.out.keep hX)
        replace ky0 := cellB hX ky0
        replace zky0 := Nat.lt_of_lt_of_le zky0 hX.size
        replace ky1 := cellB hX ky1
        replace kY0 := cellB hX kY0
        replace zkY0 := Nat.lt_of_lt_of_le zkY0 hX.size
        replace kY1 := cellB hX kY1
        replace HG := Lib.hid (HG.out.keep hX)
        replace kp0 := cellB hX kp0
        replace zkp0 := Nat.lt_of_lt_of_le zkp0 hX.size
        replace kp1 := cellB hX kp1
        replace ka0 := cellB hX ka0
        replace zka0 := Nat.lt_of_lt_of_le zka0 hX.size
        replace ka1 := cellB hX ka1
        replace kb0 := cellB hX kb0
        replace zkb0 := Nat.lt_of_lt_of_le zkb0 hX.size
        replace kb1 := cellB hX kb1
        replace HH := Lib.hid (HH.out.keep hX)
        replace ku0 := cellB hX ku0
        replace zku0 := Nat.lt_of_lt_of_le zku0 hX.size
        replace ku1 := cellB hX ku1
        replace kc0 := cellB hX kc0
        replace zkc0 := Nat.lt_of_lt_of_le zkc0 hX.size
        replace kc1 := cellB hX kc1
        replace kf0 := cellB hX kf0
        replace zkf0 := Nat.lt_of_lt_of_le zkf0 hX.size
        replace kf1 := cellB hX kf1
        replace kF0 := cellB hX kF0
        replace zkF0 := Nat.lt_of_lt_of_le zkF0 hX.size
        replace kF1 := cellB hX kF1
        replace hB := nextW hB hX
        clear hX hcut
        go_upto_region 28 with fail
        go_cut [299] (fun c wx => c = .bool (t3 && decide (sN < n)) ∧ Below w23.heap.size w23 wx)
        case first => as_aux_lemma =>
          rcases t3 with _ | _
          · go_wp2_with fail
            go_meet
            exact ⟨by first | rfl | (simp; done), by first | exact Below.refl _ _ | go_grown⟩
          · by_cases hlt : sN < n
            · have hd : decide (sN < n) = true := decide_eq_true hlt
              go_wp2_with fail
              go_meet
              exact ⟨by simp [hd], by first | exact Below.refl _ _ | go_grown⟩
            · have hd : decide (sN < n) = false := decide_eq_false hlt
              go_wp2_with fail
              go_meet
              exact ⟨by simp [hd], by first | exact Below.refl _ _ | go_grown⟩
        case rest => as_aux_lemma =>
          obtain ⟨rfl, hX⟩ := hcut
          obtain ⟨w24, hwc⟩ : ∃ X : World, X = wc := ⟨_, rfl⟩
          subst hwc
          replace HV := Lib.hid (HV.out.keep hX)
          replace HU := Lib.hid (HU.out.keep hX)
          replace HR := Lib.hid (HR.out.keep hX)
          replace kx0 := cellB hX kx0
          replace zkx0 := Nat.lt_of_lt_of_le zkx0 hX.size
          replace kx1 := cellB hX kx1
          replace HI := Lib.hid (HI.out.keep hX)
          replace HS := Lib.hid (HS.out.keep hX)
          replace ky0 := cellB hX ky0
          replace zky0 := Nat.lt_of_lt_of_le zky0 hX.size
          replace ky1 := cellB hX ky1
          replace kY0 := cellB hX kY0
          replace zkY0 := Nat.lt_of_lt_of_le zkY0 hX.size
          replace kY1 := cellB hX kY1
          replace HG := Lib.hid (HG.out.keep hX)
          replace kp0 := cellB hX kp0
          replace zkp0 := Nat.lt_of_lt_of_le zkp0 hX.size
          replace kp1 := cellB hX kp1
          replace ka0 := cellB hX ka0
          replace zka0 := Nat.lt_of_lt_of_le zka0 hX.size
          replace ka1 := cellB hX ka1
          replace kb0 := cellB hX kb0
          replace zkb0 := Nat.lt_of_lt_of_le zkb0 hX.size
          replace kb1 := cellB hX kb1
          replace HH := Lib.hid (HH.out.keep hX)
          replace ku0 := cellB hX ku0
          replace zku0 := Nat.lt_of_lt_of_le zku0 hX.size
          replace ku1 := cellB hX ku1
          replace kc0 := cellB hX kc0
          replace zkc0 := Nat.lt_of_lt_of_le zkc0 hX.size
          replace kc1 := cellB hX kc1
          replace kf0 := cellB hX kf0
          replace zkf0 := Nat.lt_of_lt_of_le zkf0 hX.size
          replace kf1 := cellB hX kf1
          replace kF0 := cellB hX kF0
          replace zkF0 := Nat.lt_of_lt_of_le zkF0 hX.size
          replace kF1 := cellB hX kF1
          replace hB := nextW hB hX
          clear hX
          generalize hb3 : (t3 && decide (sN < n)) = b3
          go_upto_if 299 with fail
          go_cut [] (fun wx => Below w24.heap.size w24 wx)
          case first => as_aux_lemma =>
            rcases b3 with _ | _
            · go_wp2_with fail
              go_meet
              first | exact Below.refl _ _ | go_grown
            · rw [Bool.and_eq_true, decide_eq_true_iff] at hb3
              obtain ⟨s0, n60, ⟨g1, g2, hg⟩, g3, g4, hg2⟩ := OL.out.less hb3.1 hb3.2
              have HG1 := Lib.hid hg
              have HG2 := Lib.hid hg2
              have hsn := hb3.2
              clear hg hg2 hb3
              have v1 : IntKind.i64.wrap (sN + 1) = sN + 1 := IntWalk.i64_in _ (by omega)
              go_wp2_with fail
              refine (iIterateMap_is ps _ x1 x2 sN g1 g2 true HG1.out _ (HR.out.keep (by go_grown)) (by omega)).mono ?_
              rintro e w25 ⟨rfl, hb⟩
              have hX : Below w24.heap.size w24 w25 := nextX (by go_grown) hb
              replace HV := Lib.hid (HV.out.keep hX)
              replace HU := Lib.hid (HU.out.keep hX)
              replace HR := Lib.hid (HR.out.keep hX)
              replace kx0 := cellB hX kx0
              replace zkx0 := Nat.lt_of_lt_of_le zkx0 hX.size
              replace kx1 := cellB hX kx1
              replace HI := Lib.hid (HI.out.keep hX)
              replace HS := Lib.hid (HS.out.keep hX)
              replace ky0 := cellB hX ky0
              replace zky0 := Nat.lt_of_lt_of_le zky0 hX.size
              replace ky1 := cellB hX ky1
              replace kY0 := cellB hX kY0
              replace zkY0 := Nat.lt_of_lt_of_le zkY0 hX.size
              replace kY1 := cellB hX kY1
              replace HG := Lib.hid (HG.out.keep hX)
              replace kp0 := cellB hX kp0
              replace zkp0 := Nat.lt_of_lt_of_le zkp0 hX.size
              replace kp1 := cellB hX kp1
              replace ka0 := cellB hX ka0
              replace zka0 := Nat.lt_of_lt_of_le zka0 hX.size
              replace ka1 := cellB hX ka1
              replace kb0 := cellB hX kb0
              replace zkb0 := Nat.lt_of_lt_of_le zkb0 hX.size
              replace kb1 := cellB hX kb1
              replace HH := Lib.hid (HH.out.keep hX)
              replace ku0 := cellB hX ku0
              replace zku0 := Nat.lt_of_lt_of_le zku0 hX.size
              replace ku1 := cellB hX ku1
              replace kc0 := cellB hX kc0
              replace zkc0 := Nat.lt_of_lt_of_le zkc0 hX.size
              replace kc1 := cellB hX kc1
              replace kf0 := cellB hX kf0
              replace zkf0 := Nat.lt_of_lt_of_le zkf0 hX.size
              replace kf1 := cellB hX kf1
              replace kF0 := cellB hX kF0
              replace zkF0 := Nat.lt_of_lt_of_le zkF0 hX.size
              replace kF1 := cellB hX kF1
              have hC : Below w24.heap.size w24 w25 := hX
              clear hb hX
              go_wp2_with fail
              refine (iIterateMap_is ps _ x1 x2 (sN + 1) g3 g4 false HG2.out _ (HR.out.keep (by go_grown)) (by omega)).mono ?_
              rintro e w26 ⟨rfl, hb⟩
              have hX : Below w25.heap.size w25 w26 := nextX (by go_grown) hb
              replace HV := Lib.hid (HV.out.keep hX)
              replace HU := Lib.hid (HU.out.keep hX)
              replace HR := Lib.hid (HR.out.keep hX)
              replace kx0 := cellB hX kx0
              replace zkx0 := Nat.lt_of_lt_of_le zkx0 hX.size
              replace kx1 := cellB hX kx1
              replace HI := Lib.hid (HI.out.keep hX)
              replace HS := Lib.hid (HS.out.keep hX)
              replace ky0 := cellB hX ky0
              replace zky0 := Nat.lt_of_lt_of_le zky0 hX.size
              replace ky1 := cellB hX ky1
              replace kY0 := cellB hX kY0
              replace zkY0 := Nat.lt_of_lt_of_le zkY0 hX.size
              replace kY1 := cellB hX kY1
              replace HG := Lib.hid (HG.out.keep hX)
              replace kp0 := cellB hX kp0
              replace zkp0 := Nat.lt_of_lt_of_le zkp0 hX.size
              replace kp1 := cellB hX kp1
              replace ka0 := cellB hX ka0
              replace zka0 := Nat.lt_of_lt_of_le zka0 hX.size
              replace ka1 := cellB hX ka1
              replace kb0 := cellB hX kb0
              replace zkb0 := Nat.lt_of_lt_of_le zkb0 hX.size
              replace kb1 := cellB hX kb1
              replace HH := Lib.hid (HH.out.keep hX)
              replace ku0 := cellB hX ku0
              replace zku0 := Nat.lt_of_lt_of_le zku0 hX.size
              replace ku1 := cellB hX ku1
              replace kc0 := cellB hX kc0
              replace zkc0 := Nat.lt_of_lt_of_le zkc0 hX.size
              replace kc1 := cellB hX kc1
              replace kf0 := cellB hX kf0
              replace zkf0 := Nat.lt_of_lt_of_le zkf0 hX.size
              replace kf1 := cellB hX kf1
              replace kF0 := cellB hX kF0
              replace zkF0 := Nat.lt_of_lt_of_le zkF0 hX.size
              replace kF1 := cellB hX kF1
              replace hC := nextW hC hX
              clear hb hX
              go_wp2_with fail
              go_meet
              first | exact Below.refl _ _ | exact nextX hC (by go_grown) | go_grown
          case rest => as_aux_lemma =>
            have hX := hcut
            obtain ⟨w27, hwc⟩ : ∃ X : World, X = wc := ⟨_, rfl⟩
            subst hwc
            replace HV := Lib.hid (HV.out.keep hX)
            replace HU := Lib.hid (HU.out.keep hX)
            replace HR := Lib.hid (HR.out.keep hX)
            replace kx0 := cellB hX kx0
            replace zkx0 := Nat.lt_of_lt_of_le zkx0 hX.size
            replace kx1 := cellB hX kx1
            replace HI := Lib.hid (HI.out.keep hX)
            replace HS := Lib.hid (HS.out.keep hX)
            replace ky0 := cellB hX ky0
            replace zky0 := Nat.lt_of_lt_of_le zky0 hX.size
            replace ky1 := cellB hX ky1
            replace kY0 := cellB hX kY0
            replace zkY0 := Nat.lt_of_lt_of_le zkY0 hX.size
            replace kY1 := cellB hX kY1
            replace HG := Lib.hid (HG.out.keep hX)
            replace kp0 := cellB hX kp0
            replace zkp0 := Nat.lt_of_lt_of_le zkp0 hX.size
            replace kp1 := cellB hX kp1
            replace ka0 := cellB hX ka0
            replace zka0 := Nat.lt_of_lt_of_le zka0 hX.size
            replace ka1 := cellB hX ka1
            replace kb0 := cellB hX kb0
            replace zkb0 := Nat.lt_of_lt_of_le zkb0 hX.size
            replace kb1 := cellB hX kb1
            replace HH := Lib.hid (HH.out.keep hX)
            replace ku0 := cellB hX ku0
            replace zku0 := Nat.lt_of_lt_of_le zku0 hX.size
            replace ku1 := cellB hX ku1
            replace kc0 := cellB hX kc0
            replace zkc0 := Nat.lt_of_lt_of_le zkc0 hX.size
            replace kc1 := cellB hX kc1
            replace kf0 := cellB hX kf0
            replace zkf0 := Nat.lt_of_lt_of_le zkf0 hX.size
            replace kf1 := cellB hX kf1
            replace kF0 := cellB hX kF0
            replace zkF0 := Nat.lt_of_lt_of_le zkF0 hX.size
            replace kF1 := cellB hX kF1
            replace hB := nextW hB hX
            clear hX hcut
            clear hb3
            rcases t5 with _ | _
            · go_wp2_with fail
              go_ret
              exact ⟨rfl, by first | exact hB | exact nextX hB (by go_grown)⟩
            · obtain ⟨hlen, hn0⟩ := OL.out.long rfl
              obtain ⟨N, rfl⟩ : ∃ N : Nat, n = N := ⟨n.toNat, by omega⟩
              have hfi := OL.out.first rfl
              have hla := OL.out.last rfl
              rw [Int.toNat_natCast] at hlen hla
              have hN60 := (orbOf_yes HL.out)
              obtain ⟨N2, hN2, -, hN60⟩ := hN60
              obtain rfl : N = N2 := by omega
              clear hN2
              obtain ⟨A3, c3, he, -, -, hcell⟩ := HS.out
              injection he with e1 e2 e3
              obtain ⟨gs, os, hA, hgs, hc⟩ := hcell (by intro e; rw [e] at hlen; simp at hlen)
              rw [hA] at e1
              subst e1
              clear e2 e3 hA
              obtain ⟨i0, i1⟩ := hc 0 _ hfi
              obtain ⟨j0, j1⟩ := hc N _ hla
              simp only [Nat.zero_mul, Nat.add_zero] at i0 i1
              have HC := Lib.hid hc
              clear hc
              have v1 : IntKind.i64.wrap ((N : Int) + 1) = (N : Int) + 1 := IntWalk.i64_in _ (by omega)
              have e5 : (((l.length : Nat) : Int) == (N : Int) + 1) = true := by rw [beq_iff_eq]; omega
              have e6 : (((l.length : Nat) : Int) != (N : Int) + 1) = false := by simp; omega
              have e7 : (0 : Int) < ((l.length : Nat) : Int) := by omega
              have e8 : (N : Int) < ((l.length : Nat) : Int) := by omega
              have e9 : N < l.length := by omega
              have e10 : 0 < l.length := by omega
              have e11 : decide (((l.length : Nat) : Int) = (N : Int) + 1) = true := decide_eq_true (by omega)
              have e12 : decide (¬ ((l.length : Nat) : Int) = (N : Int) + 1) = false := decide_eq_false (by omega)
              have HLn := Lib.hid hlen
              clear hlen hla hfi
              go_wp2_with fail
              refine wp_region_below (by kernel_rfl) (by kernel_rfl) ?_
              iterate 20 (first
                | (refine stepS rfl ?_; simp only [Act.put, List.setIfInBounds_toArray, List.set_cons_zero, List.set_cons_succ])
                | (refine stepV (v := ?_) rfl (fun W hW => ?_) ?_
                   rotate_left
                   focus
                     have qc0 := cellB hW.out i0
                     have qc1 := cellB hW.out i1
                     have qc2 := cellB hW.out j0
                     have qc3 := cellB hW.out j1
                     have qc4 := cellB hW.out kx0
                     have qc5 := cellB hW.out kx1
                     have qc6 := cellB hW.out kY0
                     have qc7 := cellB hW.out kY1
                     go_simp
                     try with_reducible rfl
                     done
                   simp only [Act.put, List.setIfInBounds_toArray, List.set_cons_zero, List.set_cons_succ]))
              refine stepN ?_
              intro wm hwm
              have hX := hwm.out
              clear hwm
              replace HV := Lib.hid (HV.out.keep hX)
              replace HU := Lib.hid (HU.out.keep hX)
              replace HR := Lib.hid (HR.out.keep hX)
              replace kx0 := cellB hX kx0
              replace zkx0 := Nat.lt_of_lt_of_le zkx0 hX.size
              replace kx1 := cellB hX kx1
              replace HI := Lib.hid (HI.out.keep hX)
              replace HS := Lib.hid (HS.out.keep hX)
              replace ky0 := cellB hX ky0
              replace zky0 := Nat.lt_of_lt_of_le zky0 hX.size
              replace ky1 := cellB hX ky1
              replace kY0 := cellB hX kY0
              replace zkY0 := Nat.lt_of_lt_of_le zkY0 hX.size
              replace kY1 := cellB hX kY1
              replace HG := Lib.hid (HG.out.keep hX)
              replace kp0 := cellB hX kp0
              replace zkp0 := Nat.lt_of_lt_of_le zkp0 hX.size
              replace kp1 := cellB hX kp1
              replace ka0 := cellB hX ka0
              replace zka0 := Nat.lt_of_lt_of_le zka0 hX.size
              replace ka1 := cellB hX ka1
              replace kb0 := cellB hX kb0
              replace zkb0 := Nat.lt_of_lt_of_le zkb0 hX.size
              replace kb1 := cellB hX kb1
              replace HH := Lib.hid (HH.out.keep hX)
              replace ku0 := cellB hX ku0
              replace zku0 := Nat.lt_of_lt_of_le zku0 hX.size
              replace ku1 := cellB hX ku1
              replace kc0 := cellB hX kc0
              replace zkc0 := Nat.lt_of_lt_of_le zkc0 hX.size
              replace kc1 := cellB hX kc1
              replace kf0 := cellB hX kf0
              replace zkf0 := Nat.lt_of_lt_of_le zkf0 hX.size
              replace kf1 := cellB hX kf1
              replace kF0 := cellB hX kF0
              replace zkF0 := Nat.lt_of_lt_of_le zkF0 hX.size
              replace kF1 := cellB hX kF1
              replace hB := nextW hB hX
              clear hX e5 e6 e7 e8 e9 e10 e11 e12 i0 i1 j0 j1
              go_wp2_with fail
              go_loopw [344] (fun i wr => EqTo l.length wm i wr) (fun i _ => l.length - (intOf i).toNat)
              case atStart => exact ⟨0, Nat.zero_le _, rfl, by go_grown⟩
              case round =>
                obtain ⟨k9, hk, rfl, hbr⟩ := hrel
                by_cases hlt : k9 < l.length
                · have hq := List.getElem?_eq_getElem hlt
                  generalize l[k9] = z at hq
                  obtain ⟨z1, z2⟩ := z
                  obtain ⟨A4, c4, he, -, -, hcell⟩ := HS.out.keep hbr
                  injection he with q1 q2 q3
                  obtain ⟨gs4, os4, hA, hgs4, hc⟩ := hcell (by intro e; rw [e] at hlt; simp at hlt)
                  rw [hA] at q1
                  injection q1 with q1
                  injection q1 with q1 q4
                  subst q1
                  subst q4
                  clear q2 q3 hA
                  obtain ⟨m0, m1⟩ := hc k9 _ hq
                  have hden := OL.out.den rfl _ (List.mem_of_getElem? hq)
                  have kb9 : (k9 : Int) < ((l.length : Nat) : Int) := by omega
                  have hd : ¬ d < z2 := by simp only at hden; omega
                  have hd' : decide (d < z2) = false := decide_eq_false hd
                  have v2 : IntKind.i64.wrap ((k9 : Int) + 1) = (k9 : Int) + 1 := IntWalk.i64_in _ (by omega)
                  replace HV := Lib.hid (HV.out.keep hbr)
                  replace HU := Lib.hid (HU.out.keep hbr)
                  replace HR := Lib.hid (HR.out.keep hbr)
                  replace kx0 := cellB hbr kx0
                  replace zkx0 := Nat.lt_of_lt_of_le zkx0 hbr.size
                  replace kx1 := cellB hbr kx1
                  replace HI := Lib.hid (HI.out.keep hbr)
                  replace HS := Lib.hid (HS.out.keep hbr)
                  replace ky0 := cellB hbr ky0
                  replace zky0 := Nat.lt_of_lt_of_le zky0 hbr.size
                  replace ky1 := cellB hbr ky1
                  replace kY0 := cellB hbr kY0
                  replace zkY0 := Nat.lt_of_lt_of_le zkY0 hbr.size
                  replace kY1 := cellB hbr kY1
                  replace HG := Lib.hid (HG.out.keep hbr)
                  replace kp0 := cellB hbr kp0
                  replace zkp0 := Nat.lt_of_lt_of_le zkp0 hbr.size
                  replace kp1 := cellB hbr kp1
                  replace ka0 := cellB hbr ka0
                  replace zka0 := Nat.lt_of_lt_of_le zka0 hbr.size
                  replace ka1 := cellB hbr ka1
                  replace kb0 := cellB hbr kb0
                  replace zkb0 := Nat.lt_of_lt_of_le zkb0 hbr.size
                  replace kb1 := cellB hbr kb1
                  replace HH := Lib.hid (HH.out.keep hbr)
                  replace ku0 := cellB hbr ku0
                  replace zku0 := Nat.lt_of_lt_of_le zku0 hbr.size
                  replace ku1 := cellB hbr ku1
                  replace kc0 := cellB hbr kc0
                  replace zkc0 := Nat.lt_of_lt_of_le zkc0 hbr.size
                  replace kc1 := cellB hbr kc1
                  replace kf0 := cellB hbr kf0
                  replace zkf0 := Nat.lt_of_lt_of_le zkf0 hbr.size
                  replace kf1 := cellB hbr kf1
                  replace kF0 := cellB hbr kF0
                  replace zkF0 := Nat.lt_of_lt_of_le zkF0 hbr.size
                  replace kF1 := cellB hbr kF1
                  clear hden
                  cases k9 with
                  | zero =>
                    simp only [Nat.zero_mul, Nat.add_zero] at m0 m1
                    clear hc hq
                    go_wp2_with fail
                    go_roundw
                    case rel => exact ⟨0 + 1, by omega, by go_num, nextW hbr (by go_grown)⟩
                    case measure => simp [intOf] <;> omega
                  | succ j9 =>
                    have hj : j9 < l.length := by omega
                    have hqj := List.getElem?_eq_getElem hj
                    generalize l[j9] = y at hqj
                    obtain ⟨o1, o2⟩ := y
                    obtain ⟨n0, n1⟩ := hc j9 _ hqj
                    have HW := Lib.hid (OL.out.step rfl j9 _ _ hqj hq)
                    have b0 : (0 : Int) < (j9 : Int) + 1 := by omega
                    have b1 : (j9 : Int) < ((l.length : Nat) : Int) := by omega
                    have b3 : (j9 : Int) + 1 < ((l.length : Nat) : Int) := by omega
                    have v3 : IntKind.i64.wrap (j9 : Int) = (j9 : Int) := IntWalk.i64_in _ (by omega)
                    have v4 : IntKind.i64.wrap ((j9 : Int) + 1) = (j9 : Int) + 1 := IntWalk.i64_in _ (by omega)
                    have v5 : IntKind.i64.wrap ((j9 : Int) + 1 + 1) = (j9 : Int) + 1 + 1 := IntWalk.i64_in _ (by omega)
                    have b4 : (1 : Int) ≤ (j9 : Int) + 1 := by omega
                    clear hc hq hqj
                    go_wp2_with fail
                    refine (iValueAt_is ps _ o1 o2 z1 z2 true _ (HR.out.keep (by go_grown)) (by omega) HW.out).mono ?_
                    rintro e w28 ⟨rfl, hb⟩
                    have hX : Below wr.heap.size wr w28 := nextX (by go_grown) hb
                    replace HV := Lib.hid (HV.out.keep hX)
                    replace HU := Lib.hid (HU.out.keep hX)
                    replace HR := Lib.hid (HR.out.keep hX)
                    replace kx0 := cellB hX kx0
                    replace zkx0 := Nat.lt_of_lt_of_le zkx0 hX.size
                    replace kx1 := cellB hX kx1
                    replace HI := Lib.hid (HI.out.keep hX)
                    replace HS := Lib.hid (HS.out.keep hX)
                    replace ky0 := cellB hX ky0
                    replace zky0 := Nat.lt_of_lt_of_le zky0 hX.size
                    replace ky1 := cellB hX ky1
                    replace kY0 := cellB hX kY0
                    replace zkY0 := Nat.lt_of_lt_of_le zkY0 hX.size
                    replace kY1 := cellB hX kY1
                    replace HG := Lib.hid (HG.out.keep hX)
                    replace kp0 := cellB hX kp0
                    replace zkp0 := Nat.lt_of_lt_of_le zkp0 hX.size
                    replace kp1 := cellB hX kp1
                    replace ka0 := cellB hX ka0
                    replace zka0 := Nat.lt_of_lt_of_le zka0 hX.size
                    replace ka1 := cellB hX ka1
                    replace kb0 := cellB hX kb0
                    replace zkb0 := Nat.lt_of_lt_of_le zkb0 hX.size
                    replace kb1 := cellB hX kb1
                    replace HH := Lib.hid (HH.out.keep hX)
                    replace ku0 := cellB hX ku0
                    replace zku0 := Nat.lt_of_lt_of_le zku0 hX.size
                    replace ku1 := cellB hX ku1
                    replace kc0 := cellB hX kc0
                    replace zkc0 := Nat.lt_of_lt_of_le zkc0 hX.size
                    replace kc1 := cellB hX kc1
                    replace kf0 := cellB hX kf0
                    replace zkf0 := Nat.lt_of_lt_of_le zkf0 hX.size
                    replace kf1 := cellB hX kf1
                    replace kF0 := cellB hX kF0
                    replace zkF0 := Nat.lt_of_lt_of_le zkF0 hX.size
                    replace kF1 := cellB hX kF1
                    replace n0 := cellB hX n0
                    replace n1 := cellB hX n1
                    replace m0 := cellB hX m0
                    replace m1 := cellB hX m1
                    have kz0 : w28.cell? ⟨wr.heap.size, 0, none⟩ = some (.int .i64 z1) := cellB hb (by simp [go_sem])
                    have zkz0 := lt_of_cell kz0
                    have kz1 : w28.cell? ⟨wr.heap.size, 1, none⟩ = some (.int .i64 z2) := cellB hb (by simp [go_sem])
                    have hRr : Below wr.heap.size wr w28 := hX
                    clear hb hX
                    go_wp2_with fail
                    go_roundw
                    case rel => exact ⟨j9 + 1 + 1, by omega, by go_num, nextW hbr (nextX hRr (by go_grown))⟩
                    case measure => simp [intOf] <;> omega
                · obtain rfl : k9 = l.length := by omega
                  go_wp2_with fail
                  go_ret
                  exact ⟨rfl, nextW hB (nextX hbr (by go_grown))⟩

set_option maxRecDepth 100000 in
theorem lifted (os : Os) (started : os.Started) (H : Type) (enc : TypeId × Value → H) :
    ReturnsInHanded {} Tryz.checked os 5 .any (Rows.fnOrbitsSpec.pre6 enc Tryz.prog Tryz.f5 Rows.fnOrbitsRow.domain false) (Rows.fnOrbitsSpec.post enc Tryz.prog Tryz.f5 false true false false) := by
  refine returnsInHanded_of_change (C := Tryz.checked) Tryz.own started (by kernel_rfl) Tryz.func5
    (ChangeSpec.witness6 (enc := enc) (C := Tryz.checked) false ⟨#[], #[.slice none 0 0, .slice none 0 0], []⟩ 8 (by kernel_rfl) (by kernel_rfl) (by kernel_rfl) (by kernel_rfl)) ?_
  intro W base args ds gs before hval0 hW hcnd _
  have hval : ∀ (j : Nat) t v, Tryz.f5.params[j]? = some t → args[j]? = some v → Value.okWide Tryz.prog W .any base t v := hval0
  have hW' := hW
  obtain ⟨p, q, hA0, hV, rfl, hfz, hnd⟩ := hW
  have hA : DataW.TrodAll enc Tryz.prog W 0 (fun _ => true) true Tryz.f5.params.toList args.toList ds p := hA0
  rw [Tryz.params5] at hA hval
  obtain ⟨v0, v1, d0, d1, p0, p1, rfl, rfl, rfl, h0, h1⟩ := trodAll_two hA
  obtain ⟨bs0, hr0, hb0⟩ := open_code (hval 0 22 v0 rfl rfl) h0
  obtain ⟨bs1, hr1, hb1⟩ := open_code (hval 1 22 v1 rfl rfl) h1
  refine (walk _ _ bs0 bs1 W hr0 hr1 hb0 hb1).mono fun e W' ⟨he, hb⟩ => ?_
  subst he
  exact ⟨_, rfl, law_close Tryz.laidOut (by kernel_rfl) (by kernel_rfl) Tryz.underlying4 rfl hW' (fun h => by rfl) hb⟩

theorem proved : Rows.FnOrbitsSaid :=
  OpenClaim.holds_of_wide 5 Tryz.f5 rfl rfl rfl rfl rfl rfl rfl ⟨rfl, rfl, rfl, rfl, rfl⟩ rfl rfl rfl rfl rfl (by kernel_rfl) Tryz.func5 (by kernel_rfl)
    (of_decide_eq_true (by kernel_rfl)) (by unfold Func.isWrapper; first | (rw [if_pos (by decide +kernel)]; kernel_rfl) | (rw [if_neg (by decide +kernel)]; exact ⟨rfl, rfl⟩))
    (fun os started H enc _ => lifted os started H enc)

end Go.Proofs.YtkeajfgcjmhmiaaGreat.lawFnOrbits
