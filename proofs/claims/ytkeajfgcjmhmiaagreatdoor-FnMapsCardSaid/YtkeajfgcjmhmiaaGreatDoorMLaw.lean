/- Proved: for every drawn maps, texts are read back, simple and reflected ones have the values that are due, and values of ends are those of points; the arguments read afterwards as they did; the library's variables are as its text lays them (the card ties them to this pruned copy of the project). -/
import Derived.Test.YtkeajfgcjmhmiaaGreatDoorM2
import Derived.Test.YtkeajfgcjmhmiaaGreatDoorM21
import Derived.Test.YtkeajfgcjmhmiaaGreatDoorM26
import Derived.Test.YtkeajfgcjmhmiaaGreatDoorM30
import Derived.Test.YtkeajfgcjmhmiaaGreatDoorM31
import Derived.Test.YtkeajfgcjmhmiaaGreatDoorM38
import Derived.Test.YtkeajfgcjmhmiaaGreatDoorM41
import Derived.Test.YtkeajfgcjmhmiaaGreatDoorM46
import Derived.Test.YtkeajfgcjmhmiaaGreatDoorM47
import Derived.Test.YtkeajfgcjmhmiaaGreatDoorM48
import Derived.Test.YtkeajfgcjmhmiaaGreatDoorM6
import Derived.LaidMore
import Derived.Lib.LaidTab
import Derived.ProofKit
import Derived.SevenTiedAt
import Derived.Shelf.Vars
import Derived.Stop.Joined
import Derived.Stop.LaidErr
import Derived.Test.YtkeajfgcjmhmiaaGreatDoorCards
import Derived.Test.YtkeajfgcjmhmiaaGreatDoorTie
namespace Go.Proofs.YtkeajfgcjmhmiaaGreatDoor.lawFnMaps
open Go.Proofs.YtkeajfgcjmhmiaaGreatDoor
open Go.ChangeShapes Go.WideShapes Go.ChangeAt Go.RowKit Go.Joins

theorem qUp_val {n1 d1 n2 d2 r : Int} (s1 : Sm n1 ∧ Sm d1) (s2 : Sm n2 ∧ Sm d2) (h : cmpQ n1 d1 n2 d2 = r) (w : World) :
    Calls Tryz.prog 19 #[.agg #[.int .i64 n1, .int .i64 d1], .agg #[.int .i64 n2, .int .i64 d2]] w fun e w' => e = .returned (.int .i64 r) ∧ Below w.heap.size w w' := by
  subst h; exact qUp_is n1 d1 n2 d2 s1 s2 w
theorem cmp_zero {a b : Int} (h : 0 ≤ a) : ¬ cmpQ a b 0 1 < 0 := by unfold cmpQ; split <;> (try split) <;> omega
theorem cmp_one {a b : Int} (h : a ≤ b) : ¬ 0 < cmpQ a b 1 1 := by unfold cmpQ; split <;> (try split) <;> omega
theorem maps_flags {ps l m : List Pt} {x : List UInt8} {t t2 t3 : Bool} (h1 : simpleMapQ ps = (l, t)) (h2 : reflMapQ ps = (m, t2)) (h3 : mtQ ps = (x, t3)) : t2 = t ∧ t = t3 ∧ okMap ps = t3 := by
  unfold simpleMapQ at h1
  unfold reflMapQ at h2
  unfold mtQ at h3
  rcases hm : okMap ps with _ | _
  · rw [hm] at h1 h2 h3
    cases h1; cases h2; cases h3
    exact ⟨rfl, rfl, rfl⟩
  · rw [hm] at h1 h2 h3
    cases h1; cases h2; cases h3
    exact ⟨rfl, rfl, rfl⟩
theorem maps_parts {ps l m : List Pt} {x : List UInt8} {t2 t3 t4 : Bool} (h : okMap ps = true) (h1 : simpleMapQ ps = (l, t2)) (h2 : reflMapQ ps = (m, t3)) (h3 : mtQ ps = (x, t4)) : l = simpleQ ps ∧ m = reflectQ ps ∧ x.length ≤ 1048576 := by
  unfold simpleMapQ at h1
  unfold reflMapQ at h2
  unfold mtQ at h3
  rw [h] at h1 h2 h3
  cases h1; cases h2; cases h3
  refine ⟨rfl, rfl, ?_⟩
  have a := mapL_len (OkP.of_map h)
  have b := okMap_len h
  omega
theorem maps_text {ps : List Pt} {x : List UInt8} {t : Bool} (h : okMap ps = true) (h3 : mtQ ps = (x, t)) : pmQ x = (ps, true) := by
  unfold mtQ at h3
  rw [h] at h3
  cases h3
  exact pmQ_yes ⟨h, rfl⟩
theorem pt_small {ps : List Pt} (h : okMap ps = true) {k : Nat} {p : Pt} (hk : ps[k]? = some p) : (0 ≤ p.1.1 ∧ p.1.1 ≤ p.1.2 ∧ p.1.2 ≤ 1000000000) ∧ (0 ≤ p.2.1 ∧ p.2.1 ≤ p.2.2 ∧ p.2.2 ≤ 1000000000) := by
  obtain ⟨a, b⟩ := okMap_coord h hk
  have a1 := coordQ_unit a
  have b1 := coordQ_unit b
  have a2 := okQ_bd (unitQ_ok a1)
  have b2 := okQ_bd (unitQ_ok b1)
  simp only [unitQ, Bool.and_eq_true, decide_eq_true_eq] at a1 b1
  omega
set_option maxRecDepth 100000 in
set_option maxHeartbeats 12800000 in
theorem walk (v u : Value) (bs cs : List Int) (w : World) (hv : RdN .u8 w v bs) (hu : RdN .u8 w u cs) (hbs : ∀ x ∈ bs, 0 ≤ x ∧ x ≤ 255) (hcs : ∀ x ∈ cs, 0 ≤ x ∧ x ≤ 255) (hT : Tab w) (hA : AtW w) (hCt : CutW w) :
    Calls Tryz.prog 3 #[v, u] w fun e w' => e = .returned (.bool true) ∧ Below w.heap.size w w' := by
  have HTb := Lib.hid hT
  have HAw := Lib.hid hA
  have HCw := Lib.hid hCt
  clear hT hA hCt
  have HV := Lib.hid hv
  have HU := Lib.hid hu
  have HBs := Lib.hid hbs
  have HCs := Lib.hid hcs
  obtain ⟨A, cv, rfl, hl1, hm1, -⟩ := hv
  obtain ⟨A2, cu, rfl, hl2, hm2, -⟩ := hu
  unfold maxLen at hm1 hm2
  clear hbs hcs
  obtain ⟨nlen, vlen⟩ : ∃ n, IntKind.i64.wrap ((bs.length : Int) + (cs.length : Int)) = n := ⟨_, rfl⟩
  by_cases hbig : (1048576 : Int) < nlen
  · have hbig' : decide ((1048576 : Int) < nlen) = true := decide_eq_true hbig
    go_enter Tryz.func3, Tryz.ntmps3
    go_wp2_with fail
    go_ret
    exact ⟨rfl, by go_grown⟩
  have hbig' : decide ((1048576 : Int) < nlen) = false := decide_eq_false hbig
  go_enter Tryz.func3, Tryz.ntmps3
  go_wp2_with fail
  refine (drawSimple_is _ bs _ (HV.out.keep (by go_grown)) HBs.out).mono ?_
  rintro e w1 ⟨r, ps, rfl, hr, hpl, hb⟩
  have hX : Below w.heap.size w w1 := nextX (by go_grown) hb
  replace HTb := Lib.hid (HTb.out.keep hX)
  replace HAw := Lib.hid (HAw.out.keep hX)
  replace HCw := Lib.hid (HCw.out.keep hX)
  replace HV := Lib.hid (HV.out.keep hX)
  replace HU := Lib.hid (HU.out.keep hX)
  have hB : Below w.heap.size w w1 := hX
  clear hb hX
  have HR := Lib.hid hr.read
  clear hr
  obtain ⟨FA, fc, hsv, hfl, hfm, -⟩ := HR.out
  subst hsv
  unfold maxLen at hfm
  obtain ⟨⟨l, t⟩, hHS0⟩ : ∃ r, simpleMapQ ps = r := ⟨_, rfl⟩
  have HS0 := Lib.hid hHS0
  clear hHS0
  obtain ⟨⟨m, t2⟩, hHM0⟩ : ∃ r, reflMapQ ps = r := ⟨_, rfl⟩
  have HM0 := Lib.hid hHM0
  clear hHM0
  obtain ⟨⟨x, t3⟩, hHX0⟩ : ∃ r, mtQ ps = r := ⟨_, rfl⟩
  have HX0 := Lib.hid hHX0
  clear hHX0
  obtain ⟨e2, e3, hflag⟩ := maps_flags HS0.out HM0.out HX0.out
  subst e2
  subst e3
  have HFl := Lib.hid hflag
  clear hflag
  have hll := simpleMapQ_len HS0.out
  have hml := reflMapQ_len HM0.out
  go_wp2_with fail
  refine (iSimpleMap_is ps _ l t2 HS0.out _ (HR.out.keep (by go_grown)) (by omega)).mono ?_
  rintro e w2 ⟨vHI1, rfl, hi, hb⟩
  have hX : Below w1.heap.size w1 w2 := nextX (by go_grown) hb
  replace HTb := Lib.hid (HTb.out.keep hX)
  replace HAw := Lib.hid (HAw.out.keep hX)
  replace HCw := Lib.hid (HCw.out.keep hX)
  replace HV := Lib.hid (HV.out.keep hX)
  replace HU := Lib.hid (HU.out.keep hX)
  replace HR := Lib.hid (HR.out.keep hX)
  replace hB := nextW hB hX
  clear hb hX
  have HI1 := Lib.hid (hi.read)
  clear hi
  go_wp2_with fail
  refine (sSimpleMap_is ps _ l t2 HS0.out _ (HR.out.keep (by go_grown)) (by omega)).mono ?_
  rintro e w3 ⟨vHS1, rfl, hi, hb⟩
  have hX : Below w2.heap.size w2 w3 := nextX (by go_grown) hb
  replace HTb := Lib.hid (HTb.out.keep hX)
  replace HAw := Lib.hid (HAw.out.keep hX)
  replace HCw := Lib.hid (HCw.out.keep hX)
  replace HV := Lib.hid (HV.out.keep hX)
  replace HU := Lib.hid (HU.out.keep hX)
  replace HR := Lib.hid (HR.out.keep hX)
  replace HI1 := Lib.hid (HI1.out.keep hX)
  replace hB := nextW hB hX
  clear hb hX
  have HS1 := Lib.hid (hi.read)
  clear hi
  go_wp2_with fail
  refine (iReflectMap_is ps _ m t2 HM0.out _ (HR.out.keep (by go_grown)) (by omega)).mono ?_
  rintro e w4 ⟨vHI2, rfl, hi, hb⟩
  have hX : Below w3.heap.size w3 w4 := nextX (by go_grown) hb
  replace HTb := Lib.hid (HTb.out.keep hX)
  replace HAw := Lib.hid (HAw.out.keep hX)
  replace HCw := Lib.hid (HCw.out.keep hX)
  replace HV := Lib.hid (HV.out.keep hX)
  replace HU := Lib.hid (HU.out.keep hX)
  replace HR := Lib.hid (HR.out.keep hX)
  replace HI1 := Lib.hid (HI1.out.keep hX)
  replace HS1 := Lib.hid (HS1.out.keep hX)
  replace hB := nextW hB hX
  clear hb hX
  have HI2 := Lib.hid (hi.read)
  clear hi
  go_wp2_with fail
  refine (sReflectMap_is ps _ m t2 HM0.out _ (HR.out.keep (by go_grown)) (by omega)).mono ?_
  rintro e w5 ⟨vHS2, rfl, hi, hb⟩
  have hX : Below w4.heap.size w4 w5 := nextX (by go_grown) hb
  replace HTb := Lib.hid (HTb.out.keep hX)
  replace HAw := Lib.hid (HAw.out.keep hX)
  replace HCw := Lib.hid (HCw.out.keep hX)
  replace HV := Lib.hid (HV.out.keep hX)
  replace HU := Lib.hid (HU.out.keep hX)
  replace HR := Lib.hid (HR.out.keep hX)
  replace HI1 := Lib.hid (HI1.out.keep hX)
  replace HS1 := Lib.hid (HS1.out.keep hX)
  replace HI2 := Lib.hid (HI2.out.keep hX)
  replace hB := nextW hB hX
  clear hb hX
  have HS2 := Lib.hid (hi.read)
  clear hi
  go_wp2_with fail
  refine (iMapText_is ps _ x t2 HX0.out _ (HR.out.keep (by go_grown)) (by omega) (HTb.out.keep (by go_grown))).mono ?_
  rintro e w6 ⟨rfl, hb⟩
  have hX : Below w5.heap.size w5 w6 := nextX (by go_grown) hb
  replace HTb := Lib.hid (HTb.out.keep hX)
  replace HAw := Lib.hid (HAw.out.keep hX)
  replace HCw := Lib.hid (HCw.out.keep hX)
  replace HV := Lib.hid (HV.out.keep hX)
  replace HU := Lib.hid (HU.out.keep hX)
  replace HR := Lib.hid (HR.out.keep hX)
  replace HI1 := Lib.hid (HI1.out.keep hX)
  replace HS1 := Lib.hid (HS1.out.keep hX)
  replace HI2 := Lib.hid (HI2.out.keep hX)
  replace HS2 := Lib.hid (HS2.out.keep hX)
  replace hB := nextW hB hX
  clear hb hX
  go_wp2_with fail
  refine (sMapText_is ps _ x t2 HX0.out _ (HR.out.keep (by go_grown)) (by omega)).mono ?_
  rintro e w7 ⟨rfl, hb⟩
  have hX : Below w6.heap.size w6 w7 := nextX (by go_grown) hb
  replace HTb := Lib.hid (HTb.out.keep hX)
  replace HAw := Lib.hid (HAw.out.keep hX)
  replace HCw := Lib.hid (HCw.out.keep hX)
  replace HV := Lib.hid (HV.out.keep hX)
  replace HU := Lib.hid (HU.out.keep hX)
  replace HR := Lib.hid (HR.out.keep hX)
  replace HI1 := Lib.hid (HI1.out.keep hX)
  replace HS1 := Lib.hid (HS1.out.keep hX)
  replace HI2 := Lib.hid (HI2.out.keep hX)
  replace HS2 := Lib.hid (HS2.out.keep hX)
  replace hB := nextW hB hX
  clear hb hX
  obtain ⟨LA, lc, hsv, hl1, hl2, -⟩ := HS1.out
  subst hsv
  unfold maxLen at hl2
  go_wp2_with fail
  refine (drawParse_is _ cs _ (HU.out.keep (by go_grown)) HCs.out).mono ?_
  rintro e w8 ⟨u, rfl, hul, hb⟩
  have hX : Below w7.heap.size w7 w8 := nextX (by go_grown) hb
  replace HTb := Lib.hid (HTb.out.keep hX)
  replace HAw := Lib.hid (HAw.out.keep hX)
  replace HCw := Lib.hid (HCw.out.keep hX)
  replace HV := Lib.hid (HV.out.keep hX)
  replace HU := Lib.hid (HU.out.keep hX)
  replace HR := Lib.hid (HR.out.keep hX)
  replace HI1 := Lib.hid (HI1.out.keep hX)
  replace HS1 := Lib.hid (HS1.out.keep hX)
  replace HI2 := Lib.hid (HI2.out.keep hX)
  replace HS2 := Lib.hid (HS2.out.keep hX)
  replace hB := nextW hB hX
  clear hb hX
  obtain ⟨⟨p, t4⟩, hHP⟩ : ∃ r, pmQ u = r := ⟨_, rfl⟩
  have HP := Lib.hid hHP
  clear hHP
  go_wp2_with fail
  refine (iParseMap_is u p t4 HP.out (by omega) _ (HTb.out.keep (by go_grown)) (HAw.out.keep (by go_grown)) (HCw.out.keep (by go_grown))).mono ?_
  rintro e w9 ⟨v4, rfl, hi, hb⟩
  have hX : Below w8.heap.size w8 w9 := nextX (by go_grown) hb
  replace HTb := Lib.hid (HTb.out.keep hX)
  replace HAw := Lib.hid (HAw.out.keep hX)
  replace HCw := Lib.hid (HCw.out.keep hX)
  replace HV := Lib.hid (HV.out.keep hX)
  replace HU := Lib.hid (HU.out.keep hX)
  replace HR := Lib.hid (HR.out.keep hX)
  replace HI1 := Lib.hid (HI1.out.keep hX)
  replace HS1 := Lib.hid (HS1.out.keep hX)
  replace HI2 := Lib.hid (HI2.out.keep hX)
  replace HS2 := Lib.hid (HS2.out.keep hX)
  replace hB := nextW hB hX
  clear hb hX
  have HI4 := Lib.hid (hi.read)
  clear hi
  go_wp2_with fail
  refine (sParseMap_is u p t4 HP.out (by omega) _).mono ?_
  rintro e w10 ⟨v5, rfl, hi, hb⟩
  have hX : Below w9.heap.size w9 w10 := nextX (by go_grown) hb
  replace HTb := Lib.hid (HTb.out.keep hX)
  replace HAw := Lib.hid (HAw.out.keep hX)
  replace HCw := Lib.hid (HCw.out.keep hX)
  replace HV := Lib.hid (HV.out.keep hX)
  replace HU := Lib.hid (HU.out.keep hX)
  replace HR := Lib.hid (HR.out.keep hX)
  replace HI1 := Lib.hid (HI1.out.keep hX)
  replace HS1 := Lib.hid (HS1.out.keep hX)
  replace HI2 := Lib.hid (HI2.out.keep hX)
  replace HS2 := Lib.hid (HS2.out.keep hX)
  replace HI4 := Lib.hid (HI4.out.keep hX)
  replace hB := nextW hB hX
  clear hb hX
  have HS4 := Lib.hid (hi.read)
  clear hi
  go_wp2_with fail
  refine (drawValueAt_is _ cs _ (HU.out.keep (by go_grown)) HCs.out).mono ?_
  rintro e w11 ⟨r2, gs, a, b, rfl, hr, hgl, hb⟩
  have hX : Below w10.heap.size w10 w11 := nextX (by go_grown) hb
  replace HTb := Lib.hid (HTb.out.keep hX)
  replace HAw := Lib.hid (HAw.out.keep hX)
  replace HCw := Lib.hid (HCw.out.keep hX)
  replace HV := Lib.hid (HV.out.keep hX)
  replace HU := Lib.hid (HU.out.keep hX)
  replace HR := Lib.hid (HR.out.keep hX)
  replace HI1 := Lib.hid (HI1.out.keep hX)
  replace HS1 := Lib.hid (HS1.out.keep hX)
  replace HI2 := Lib.hid (HI2.out.keep hX)
  replace HS2 := Lib.hid (HS2.out.keep hX)
  replace HI4 := Lib.hid (HI4.out.keep hX)
  replace HS4 := Lib.hid (HS4.out.keep hX)
  replace hB := nextW hB hX
  clear hb hX
  have HG := Lib.hid hr.read
  clear hr
  obtain ⟨⟨y1, y2, t5⟩, hHVA⟩ : ∃ r, vaQ gs (a, b) = r := ⟨_, rfl⟩
  have HVA := Lib.hid hHVA
  clear hHVA
  go_wp2_with fail
  refine (iValueAt_is gs _ a b y1 y2 t5 _ (HG.out.keep (by go_grown)) (by omega) HVA.out).mono ?_
  rintro e w12 ⟨rfl, hb⟩
  have hX : Below w11.heap.size w11 w12 := nextX (by go_grown) hb
  replace HTb := Lib.hid (HTb.out.keep hX)
  replace HAw := Lib.hid (HAw.out.keep hX)
  replace HCw := Lib.hid (HCw.out.keep hX)
  replace HV := Lib.hid (HV.out.keep hX)
  replace HU := Lib.hid (HU.out.keep hX)
  replace HR := Lib.hid (HR.out.keep hX)
  replace HI1 := Lib.hid (HI1.out.keep hX)
  replace HS1 := Lib.hid (HS1.out.keep hX)
  replace HI2 := Lib.hid (HI2.out.keep hX)
  replace HS2 := Lib.hid (HS2.out.keep hX)
  replace HI4 := Lib.hid (HI4.out.keep hX)
  replace HS4 := Lib.hid (HS4.out.keep hX)
  replace HG := Lib.hid (HG.out.keep hX)
  have kx0 : w12.cell? ⟨w11.heap.size, 0, none⟩ = some (.int .i64 a) := cellB hb (by simp [go_sem])
  have zkx0 := lt_of_cell kx0
  have kx1 : w12.cell? ⟨w11.heap.size, 1, none⟩ = some (.int .i64 b) := cellB hb (by simp [go_sem])
  replace hB := nextW hB hX
  clear hb hX
  go_wp2_with fail
  refine (sValueAt_is gs _ a b y1 y2 t5 _ (HG.out.keep (by go_grown)) (by omega) HVA.out).mono ?_
  rintro e w13 ⟨rfl, hb⟩
  have hX : Below w12.heap.size w12 w13 := nextX (by go_grown) hb
  replace HTb := Lib.hid (HTb.out.keep hX)
  replace HAw := Lib.hid (HAw.out.keep hX)
  replace HCw := Lib.hid (HCw.out.keep hX)
  replace HV := Lib.hid (HV.out.keep hX)
  replace HU := Lib.hid (HU.out.keep hX)
  replace HR := Lib.hid (HR.out.keep hX)
  replace HI1 := Lib.hid (HI1.out.keep hX)
  replace HS1 := Lib.hid (HS1.out.keep hX)
  replace HI2 := Lib.hid (HI2.out.keep hX)
  replace HS2 := Lib.hid (HS2.out.keep hX)
  replace HI4 := Lib.hid (HI4.out.keep hX)
  replace HS4 := Lib.hid (HS4.out.keep hX)
  replace HG := Lib.hid (HG.out.keep hX)
  replace kx0 := cellB hX kx0
  replace zkx0 := Nat.lt_of_lt_of_le zkx0 hX.size
  replace kx1 := cellB hX kx1
  have ky0 : w13.cell? ⟨w12.heap.size, 0, none⟩ = some (.int .i64 y1) := cellB hb (by simp [go_sem])
  have zky0 := lt_of_cell ky0
  have ky1 : w13.cell? ⟨w12.heap.size, 1, none⟩ = some (.int .i64 y2) := cellB hb (by simp [go_sem])
  replace hB := nextW hB hX
  clear hb hX
  have hne : ∀ W, (binOp .neq 9 (str x) (str x)).run Tryz.prog W = .ok (.bool false) W := fun W => by unfold str; go_simp
  have heg : ∀ (W : World) (o1 o2 : Operand), (eqGuard .neq 9 o1 o2 (str x) (str x)).run Tryz.prog W = .ok () W := fun W o1 o2 => by unfold str; go_simp
  go_upto_region 16 with fail
  go_name_world w14 hW
  have hX : Below w13.heap.size w13 w14 := by rw [← hW]; go_grown
  replace HTb := Lib.hid (HTb.out.keep hX)
  replace HAw := Lib.hid (HAw.out.keep hX)
  replace HCw := Lib.hid (HCw.out.keep hX)
  replace HV := Lib.hid (HV.out.keep hX)
  replace HU := Lib.hid (HU.out.keep hX)
  replace HR := Lib.hid (HR.out.keep hX)
  replace HI1 := Lib.hid (HI1.out.keep hX)
  replace HS1 := Lib.hid (HS1.out.keep hX)
  replace HI2 := Lib.hid (HI2.out.keep hX)
  replace HS2 := Lib.hid (HS2.out.keep hX)
  replace HI4 := Lib.hid (HI4.out.keep hX)
  replace HS4 := Lib.hid (HS4.out.keep hX)
  replace HG := Lib.hid (HG.out.keep hX)
  replace kx0 := cellB hX kx0
  replace zkx0 := Nat.lt_of_lt_of_le zkx0 hX.size
  replace kx1 := cellB hX kx1
  replace ky0 := cellB hX ky0
  replace zky0 := Nat.lt_of_lt_of_le zky0 hX.size
  replace ky1 := cellB hX ky1
  have kz0 : w14.cell? ⟨w13.heap.size, 0, none⟩ = some (.int .i64 y1) := by rw [← hW]; simp [go_sem]
  have zkz0 := lt_of_cell kz0
  have kz1 : w14.cell? ⟨w13.heap.size, 1, none⟩ = some (.int .i64 y2) := by rw [← hW]; simp [go_sem]
  replace hB := nextW hB hX
  clear hW hX
  go_cut [176] (fun c wx => c = .bool false ∧ Below w14.heap.size w14 wx)
  case first => as_aux_lemma =>
    go_wp2_with fail
    refine (qMap_same l _ _ _ (HI1.out.keep (by go_grown)) (HS1.out.keep (by go_grown))).mono ?_
    rintro e w15 ⟨rfl, hb⟩
    have hX : Below w14.heap.size w14 w15 := nextX (by go_grown) hb
    replace HTb := Lib.hid (HTb.out.keep hX)
    replace HAw := Lib.hid (HAw.out.keep hX)
    replace HCw := Lib.hid (HCw.out.keep hX)
    replace HV := Lib.hid (HV.out.keep hX)
    replace HU := Lib.hid (HU.out.keep hX)
    replace HR := Lib.hid (HR.out.keep hX)
    replace HI1 := Lib.hid (HI1.out.keep hX)
    replace HS1 := Lib.hid (HS1.out.keep hX)
    replace HI2 := Lib.hid (HI2.out.keep hX)
    replace HS2 := Lib.hid (HS2.out.keep hX)
    replace HI4 := Lib.hid (HI4.out.keep hX)
    replace HS4 := Lib.hid (HS4.out.keep hX)
    replace HG := Lib.hid (HG.out.keep hX)
    replace kx0 := cellB hX kx0
    replace zkx0 := Nat.lt_of_lt_of_le zkx0 hX.size
    replace kx1 := cellB hX kx1
    replace ky0 := cellB hX ky0
    replace zky0 := Nat.lt_of_lt_of_le zky0 hX.size
    replace ky1 := cellB hX ky1
    replace kz0 := cellB hX kz0
    replace zkz0 := Nat.lt_of_lt_of_le zkz0 hX.size
    replace kz1 := cellB hX kz1
    have hC : Below w14.heap.size w14 w15 := hX
    clear hb hX
    go_wp2_with fail
    refine (qMap_same m _ _ _ (HI2.out.keep (by go_grown)) (HS2.out.keep (by go_grown))).mono ?_
    rintro e w16 ⟨rfl, hb⟩
    have hX : Below w15.heap.size w15 w16 := nextX (by go_grown) hb
    replace HTb := Lib.hid (HTb.out.keep hX)
    replace HAw := Lib.hid (HAw.out.keep hX)
    replace HCw := Lib.hid (HCw.out.keep hX)
    replace HV := Lib.hid (HV.out.keep hX)
    replace HU := Lib.hid (HU.out.keep hX)
    replace HR := Lib.hid (HR.out.keep hX)
    replace HI1 := Lib.hid (HI1.out.keep hX)
    replace HS1 := Lib.hid (HS1.out.keep hX)
    replace HI2 := Lib.hid (HI2.out.keep hX)
    replace HS2 := Lib.hid (HS2.out.keep hX)
    replace HI4 := Lib.hid (HI4.out.keep hX)
    replace HS4 := Lib.hid (HS4.out.keep hX)
    replace HG := Lib.hid (HG.out.keep hX)
    replace kx0 := cellB hX kx0
    replace zkx0 := Nat.lt_of_lt_of_le zkx0 hX.size
    replace kx1 := cellB hX kx1
    replace ky0 := cellB hX ky0
    replace zky0 := Nat.lt_of_lt_of_le zky0 hX.size
    replace ky1 := cellB hX ky1
    replace kz0 := cellB hX kz0
    replace zkz0 := Nat.lt_of_lt_of_le zkz0 hX.size
    replace kz1 := cellB hX kz1
    replace hC := nextW hC hX
    clear hb hX
    go_wp2_with fail
    refine (qMap_same p _ _ _ (HI4.out.keep (by go_grown)) (HS4.out.keep (by go_grown))).mono ?_
    rintro e w17 ⟨rfl, hb⟩
    have hX : Below w16.heap.size w16 w17 := nextX (by go_grown) hb
    replace HTb := Lib.hid (HTb.out.keep hX)
    replace HAw := Lib.hid (HAw.out.keep hX)
    replace HCw := Lib.hid (HCw.out.keep hX)
    replace HV := Lib.hid (HV.out.keep hX)
    replace HU := Lib.hid (HU.out.keep hX)
    replace HR := Lib.hid (HR.out.keep hX)
    replace HI1 := Lib.hid (HI1.out.keep hX)
    replace HS1 := Lib.hid (HS1.out.keep hX)
    replace HI2 := Lib.hid (HI2.out.keep hX)
    replace HS2 := Lib.hid (HS2.out.keep hX)
    replace HI4 := Lib.hid (HI4.out.keep hX)
    replace HS4 := Lib.hid (HS4.out.keep hX)
    replace HG := Lib.hid (HG.out.keep hX)
    replace kx0 := cellB hX kx0
    replace zkx0 := Nat.lt_of_lt_of_le zkx0 hX.size
    replace kx1 := cellB hX kx1
    replace ky0 := cellB hX ky0
    replace zky0 := Nat.lt_of_lt_of_le zky0 hX.size
    replace ky1 := cellB hX ky1
    replace kz0 := cellB hX kz0
    replace zkz0 := Nat.lt_of_lt_of_le zkz0 hX.size
    replace kz1 := cellB hX kz1
    replace hC := nextW hC hX
    clear hb hX
    go_wp2_with fail
    refine (implIsMap_is ps _ _ _ (HR.out.keep (by go_grown)) (by omega) HFl.out).mono ?_
    rintro e w18 ⟨rfl, hb⟩
    have hX : Below w17.heap.size w17 w18 := nextX (by go_grown) hb
    replace HTb := Lib.hid (HTb.out.keep hX)
    replace HAw := Lib.hid (HAw.out.keep hX)
    replace HCw := Lib.hid (HCw.out.keep hX)
    replace HV := Lib.hid (HV.out.keep hX)
    replace HU := Lib.hid (HU.out.keep hX)
    replace HR := Lib.hid (HR.out.keep hX)
    replace HI1 := Lib.hid (HI1.out.keep hX)
    replace HS1 := Lib.hid (HS1.out.keep hX)
    replace HI2 := Lib.hid (HI2.out.keep hX)
    replace HS2 := Lib.hid (HS2.out.keep hX)
    replace HI4 := Lib.hid (HI4.out.keep hX)
    replace HS4 := Lib.hid (HS4.out.keep hX)
    replace HG := Lib.hid (HG.out.keep hX)
    replace kx0 := cellB hX kx0
    replace zkx0 := Nat.lt_of_lt_of_le zkx0 hX.size
    replace kx1 := cellB hX kx1
    replace ky0 := cellB hX ky0
    replace zky0 := Nat.lt_of_lt_of_le zky0 hX.size
    replace ky1 := cellB hX ky1
    replace kz0 := cellB hX kz0
    replace zkz0 := Nat.lt_of_lt_of_le zkz0 hX.size
    replace kz1 := cellB hX kz1
    replace hC := nextW hC hX
    clear hb hX
    go_wp2_with fail
    go_meet
    exact ⟨by first | rfl | (simp; done) | (simp; omega), by first | exact Below.refl _ _ | exact nextX hC (by go_grown) | go_grown⟩
  case rest => as_aux_lemma =>
    obtain ⟨rfl, hX⟩ := hcut
    obtain ⟨w19, hwc⟩ : ∃ X : World, X = wc := ⟨_, rfl⟩
    subst hwc
    replace HTb := Lib.hid (HTb.out.keep hX)
    replace HAw := Lib.hid (HAw.out.keep hX)
    replace HCw := Lib.hid (HCw.out.keep hX)
    replace HV := Lib.hid (HV.out.keep hX)
    replace HU := Lib.hid (HU.out.keep hX)
    replace HR := Lib.hid (HR.out.keep hX)
    replace HI1 := Lib.hid (HI1.out.keep hX)
    replace HS1 := Lib.hid (HS1.out.keep hX)
    replace HI2 := Lib.hid (HI2.out.keep hX)
    replace HS2 := Lib.hid (HS2.out.keep hX)
    replace HI4 := Lib.hid (HI4.out.keep hX)
    replace HS4 := Lib.hid (HS4.out.keep hX)
    replace HG := Lib.hid (HG.out.keep hX)
    replace kx0 := cellB hX kx0
    replace zkx0 := Nat.lt_of_lt_of_le zkx0 hX.size
    replace kx1 := cellB hX kx1
    replace ky0 := cellB hX ky0
    replace zky0 := Nat.lt_of_lt_of_le zky0 hX.size
    replace ky1 := cellB hX ky1
    replace kz0 := cellB hX kz0
    replace zkz0 := Nat.lt_of_lt_of_le zkz0 hX.size
    replace kz1 := cellB hX kz1
    replace hB := nextW hB hX
    clear hX
    go_upto_region 18 with fail
    go_cut [189] (fun c wx => c = .bool false ∧ Below w19.heap.size w19 wx)
    case first => as_aux_lemma =>
      rcases t5 with _ | _
      · go_wp2_with fail
        go_meet
        exact ⟨by first | rfl | (simp; done) | (simp; omega), by first | exact Below.refl _ _ | go_grown⟩
      · obtain ⟨hyo, hy0, hy1⟩ := va_unit HVA.out
        obtain ⟨o1, ho1⟩ : ∃ o, cmpQ y1 y2 0 1 = o := ⟨_, rfl⟩
        obtain ⟨o2, ho2⟩ : ∃ o, cmpQ y1 y2 1 1 = o := ⟨_, rfl⟩
        have n1 : ¬ o1 < 0 := by rw [← ho1]; exact cmp_zero hy0
        have n2 : ¬ 0 < o2 := by rw [← ho2]; exact cmp_one hy1
        have d1 : decide (o1 < 0) = false := decide_eq_false n1
        have d2 : decide (0 < o2) = false := decide_eq_false n2
        have SY := Lib.hid (Sm.of_ok hyo)
        have H1 := Lib.hid ho1
        have H2 := Lib.hid ho2
        clear hyo hy0 hy1 ho1 ho2
        have S0 : Sm (0 : Int) ∧ Sm (1 : Int) := by unfold Sm; omega
        have S1 : Sm (1 : Int) ∧ Sm (1 : Int) := by unfold Sm; omega
        go_wp2_with fail
        refine (qUp_val SY.out S0 H1.out _).mono ?_
        rintro e w20 ⟨rfl, hb⟩
        have hX : Below w19.heap.size w19 w20 := nextX (by go_grown) hb
        replace HTb := Lib.hid (HTb.out.keep hX)
        replace HAw := Lib.hid (HAw.out.keep hX)
        replace HCw := Lib.hid (HCw.out.keep hX)
        replace HV := Lib.hid (HV.out.keep hX)
        replace HU := Lib.hid (HU.out.keep hX)
        replace HR := Lib.hid (HR.out.keep hX)
        replace HI1 := Lib.hid (HI1.out.keep hX)
        replace HS1 := Lib.hid (HS1.out.keep hX)
        replace HI2 := Lib.hid (HI2.out.keep hX)
        replace HS2 := Lib.hid (HS2.out.keep hX)
        replace HI4 := Lib.hid (HI4.out.keep hX)
        replace HS4 := Lib.hid (HS4.out.keep hX)
        replace HG := Lib.hid (HG.out.keep hX)
        replace kx0 := cellB hX kx0
        replace zkx0 := Nat.lt_of_lt_of_le zkx0 hX.size
        replace kx1 := cellB hX kx1
        replace ky0 := cellB hX ky0
        replace zky0 := Nat.lt_of_lt_of_le zky0 hX.size
        replace ky1 := cellB hX ky1
        replace kz0 := cellB hX kz0
        replace zkz0 := Nat.lt_of_lt_of_le zkz0 hX.size
        replace kz1 := cellB hX kz1
        have hC : Below w19.heap.size w19 w20 := hX
        clear hb hX
        go_wp2_with fail
        refine (qUp_val SY.out S1 H2.out _).mono ?_
        rintro e w21 ⟨rfl, hb⟩
        have hX : Below w20.heap.size w20 w21 := nextX (by go_grown) hb
        replace HTb := Lib.hid (HTb.out.keep hX)
        replace HAw := Lib.hid (HAw.out.keep hX)
        replace HCw := Lib.hid (HCw.out.keep hX)
        replace HV := Lib.hid (HV.out.keep hX)
        replace HU := Lib.hid (HU.out.keep hX)
        replace HR := Lib.hid (HR.out.keep hX)
        replace HI1 := Lib.hid (HI1.out.keep hX)
        replace HS1 := Lib.hid (HS1.out.keep hX)
        replace HI2 := Lib.hid (HI2.out.keep hX)
        replace HS2 := Lib.hid (HS2.out.keep hX)
        replace HI4 := Lib.hid (HI4.out.keep hX)
        replace HS4 := Lib.hid (HS4.out.keep hX)
        replace HG := Lib.hid (HG.out.keep hX)
        replace kx0 := cellB hX kx0
        replace zkx0 := Nat.lt_of_lt_of_le zkx0 hX.size
        replace kx1 := cellB hX kx1
        replace ky0 := cellB hX ky0
        replace zky0 := Nat.lt_of_lt_of_le zky0 hX.size
        replace ky1 := cellB hX ky1
        replace kz0 := cellB hX kz0
        replace zkz0 := Nat.lt_of_lt_of_le zkz0 hX.size
        replace kz1 := cellB hX kz1
        replace hC := nextW hC hX
        clear hb hX
        go_wp2_with fail
        go_meet
        exact ⟨by first | rfl | (simp; done) | (simp; omega), by first | exact Below.refl _ _ | exact nextX hC (by go_grown) | go_grown⟩
    case rest => as_aux_lemma =>
      obtain ⟨rfl, hX⟩ := hcut
      obtain ⟨w22, hwc⟩ : ∃ X : World, X = wc := ⟨_, rfl⟩
      subst hwc
      replace HTb := Lib.hid (HTb.out.keep hX)
      replace HAw := Lib.hid (HAw.out.keep hX)
      replace HCw := Lib.hid (HCw.out.keep hX)
      replace HV := Lib.hid (HV.out.keep hX)
      replace HU := Lib.hid (HU.out.keep hX)
      replace HR := Lib.hid (HR.out.keep hX)
      replace HI1 := Lib.hid (HI1.out.keep hX)
      replace HS1 := Lib.hid (HS1.out.keep hX)
      replace HI2 := Lib.hid (HI2.out.keep hX)
      replace HS2 := Lib.hid (HS2.out.keep hX)
      replace HI4 := Lib.hid (HI4.out.keep hX)
      replace HS4 := Lib.hid (HS4.out.keep hX)
      replace HG := Lib.hid (HG.out.keep hX)
      replace kx0 := cellB hX kx0
      replace zkx0 := Nat.lt_of_lt_of_le zkx0 hX.size
      replace kx1 := cellB hX kx1
      replace ky0 := cellB hX ky0
      replace zky0 := Nat.lt_of_lt_of_le zky0 hX.size
      replace ky1 := cellB hX ky1
      replace kz0 := cellB hX kz0
      replace zkz0 := Nat.lt_of_lt_of_le zkz0 hX.size
      replace kz1 := cellB hX kz1
      replace hB := nextW hB hX
      clear hX
      clear kx0 kx1 ky0 ky1 kz0 kz1 zkx0 zky0 zkz0
      rcases t2 with _ | _
      · go_wp2_with fail
        go_ret
        exact ⟨rfl, by first | exact hB | exact nextX hB (by go_grown)⟩
      · have HMp := Lib.hid (maps_law HFl.out)
        obtain ⟨hl0, hm0, hx0⟩ := maps_parts HFl.out HS0.out HM0.out HX0.out
        subst hl0
        subst hm0
        have HX9 := Lib.hid (maps_text HFl.out HX0.out)
        have hxl := hx0
        clear hx0
        go_wp2_with fail
        refine (iParseMap_is x ps true HX9.out (by omega) _ (HTb.out.keep (by go_grown)) (HAw.out.keep (by go_grown)) (HCw.out.keep (by go_grown))).mono ?_
        rintro e w23 ⟨v6, rfl, hi, hb⟩
        have hX : Below w22.heap.size w22 w23 := nextX (by go_grown) hb
        replace HTb := Lib.hid (HTb.out.keep hX)
        replace HAw := Lib.hid (HAw.out.keep hX)
        replace HCw := Lib.hid (HCw.out.keep hX)
        replace HV := Lib.hid (HV.out.keep hX)
        replace HU := Lib.hid (HU.out.keep hX)
        replace HR := Lib.hid (HR.out.keep hX)
        replace HI1 := Lib.hid (HI1.out.keep hX)
        replace HS1 := Lib.hid (HS1.out.keep hX)
        replace HI2 := Lib.hid (HI2.out.keep hX)
        replace HS2 := Lib.hid (HS2.out.keep hX)
        replace HI4 := Lib.hid (HI4.out.keep hX)
        replace HS4 := Lib.hid (HS4.out.keep hX)
        replace HG := Lib.hid (HG.out.keep hX)
        replace hB := nextW hB hX
        clear hb hX
        have HB1 := Lib.hid (hi.read)
        clear hi
        go_wp2_with fail
        refine (iReflectMap_is (reflectQ ps) _ ps true HMp.out.twice _ (HI2.out.keep (by go_grown)) hml).mono ?_
        rintro e w24 ⟨v7, rfl, hi, hb⟩
        have hX : Below w23.heap.size w23 w24 := nextX (by go_grown) hb
        replace HTb := Lib.hid (HTb.out.keep hX)
        replace HAw := Lib.hid (HAw.out.keep hX)
        replace HCw := Lib.hid (HCw.out.keep hX)
        replace HV := Lib.hid (HV.out.keep hX)
        replace HU := Lib.hid (HU.out.keep hX)
        replace HR := Lib.hid (HR.out.keep hX)
        replace HI1 := Lib.hid (HI1.out.keep hX)
        replace HS1 := Lib.hid (HS1.out.keep hX)
        replace HI2 := Lib.hid (HI2.out.keep hX)
        replace HS2 := Lib.hid (HS2.out.keep hX)
        replace HI4 := Lib.hid (HI4.out.keep hX)
        replace HS4 := Lib.hid (HS4.out.keep hX)
        replace HG := Lib.hid (HG.out.keep hX)
        replace HB1 := Lib.hid (HB1.out.keep hX)
        replace hB := nextW hB hX
        clear hb hX
        have HB2 := Lib.hid (hi.read)
        clear hi
        go_wp2_with fail
        refine (iSimpleMap_is (simpleQ ps) _ (simpleQ ps) true HMp.out.again _ (HI1.out.keep (by go_grown)) hll).mono ?_
        rintro e w25 ⟨v8, rfl, hi, hb⟩
        have hX : Below w24.heap.size w24 w25 := nextX (by go_grown) hb
        replace HTb := Lib.hid (HTb.out.keep hX)
        replace HAw := Lib.hid (HAw.out.keep hX)
        replace HCw := Lib.hid (HCw.out.keep hX)
        replace HV := Lib.hid (HV.out.keep hX)
        replace HU := Lib.hid (HU.out.keep hX)
        replace HR := Lib.hid (HR.out.keep hX)
        replace HI1 := Lib.hid (HI1.out.keep hX)
        replace HS1 := Lib.hid (HS1.out.keep hX)
        replace HI2 := Lib.hid (HI2.out.keep hX)
        replace HS2 := Lib.hid (HS2.out.keep hX)
        replace HI4 := Lib.hid (HI4.out.keep hX)
        replace HS4 := Lib.hid (HS4.out.keep hX)
        replace HG := Lib.hid (HG.out.keep hX)
        replace HB1 := Lib.hid (HB1.out.keep hX)
        replace HB2 := Lib.hid (HB2.out.keep hX)
        replace hB := nextW hB hX
        clear hb hX
        have HB3 := Lib.hid (hi.read)
        clear hi
        have hsh := HMp.out.short
        have kn : ¬ (ps.length : Int) < ((simpleQ ps).length : Int) := by omega
        have kd : decide ((ps.length : Int) < ((simpleQ ps).length : Int)) = false := decide_eq_false kn
        go_upto_region 25 with fail
        go_cut [241] (fun c wx => c = .bool false ∧ Below w25.heap.size w25 wx)
        case first => as_aux_lemma =>
          go_wp2_with fail
          refine (qMap_same ps _ _ _ (HB1.out.keep (by go_grown)) (HR.out.keep (by go_grown))).mono ?_
          rintro e w26 ⟨rfl, hb⟩
          have hX : Below w25.heap.size w25 w26 := nextX (by go_grown) hb
          replace HTb := Lib.hid (HTb.out.keep hX)
          replace HAw := Lib.hid (HAw.out.keep hX)
          replace HCw := Lib.hid (HCw.out.keep hX)
          replace HV := Lib.hid (HV.out.keep hX)
          replace HU := Lib.hid (HU.out.keep hX)
          replace HR := Lib.hid (HR.out.keep hX)
          replace HI1 := Lib.hid (HI1.out.keep hX)
          replace HS1 := Lib.hid (HS1.out.keep hX)
          replace HI2 := Lib.hid (HI2.out.keep hX)
          replace HS2 := Lib.hid (HS2.out.keep hX)
          replace HI4 := Lib.hid (HI4.out.keep hX)
          replace HS4 := Lib.hid (HS4.out.keep hX)
          replace HG := Lib.hid (HG.out.keep hX)
          replace HB1 := Lib.hid (HB1.out.keep hX)
          replace HB2 := Lib.hid (HB2.out.keep hX)
          replace HB3 := Lib.hid (HB3.out.keep hX)
          have hC : Below w25.heap.size w25 w26 := hX
          clear hb hX
          go_wp2_with fail
          refine (qMap_same ps _ _ _ (HB2.out.keep (by go_grown)) (HR.out.keep (by go_grown))).mono ?_
          rintro e w27 ⟨rfl, hb⟩
          have hX : Below w26.heap.size w26 w27 := nextX (by go_grown) hb
          replace HTb := Lib.hid (HTb.out.keep hX)
          replace HAw := Lib.hid (HAw.out.keep hX)
          replace HCw := Lib.hid (HCw.out.keep hX)
          replace HV := Lib.hid (HV.out.keep hX)
          replace HU := Lib.hid (HU.out.keep hX)
          replace HR := Lib.hid (HR.out.keep hX)
          replace HI1 := Lib.hid (HI1.out.keep hX)
          replace HS1 := Lib.hid (HS1.out.keep hX)
          replace HI2 := Lib.hid (HI2.out.keep hX)
          replace HS2 := Lib.hid (HS2.out.keep hX)
          replace HI4 := Lib.hid (HI4.out.keep hX)
          replace HS4 := Lib.hid (HS4.out.keep hX)
          replace HG := Lib.hid (HG.out.keep hX)
          replace HB1 := Lib.hid (HB1.out.keep hX)
          replace HB2 := Lib.hid (HB2.out.keep hX)
          replace HB3 := Lib.hid (HB3.out.keep hX)
          replace hC := nextW hC hX
          clear hb hX
          go_wp2_with fail
          refine (qMap_same (simpleQ ps) _ _ _ (HB3.out.keep (by go_grown)) (HS1.out.keep (by go_grown))).mono ?_
          rintro e w28 ⟨rfl, hb⟩
          have hX : Below w27.heap.size w27 w28 := nextX (by go_grown) hb
          replace HTb := Lib.hid (HTb.out.keep hX)
          replace HAw := Lib.hid (HAw.out.keep hX)
          replace HCw := Lib.hid (HCw.out.keep hX)
          replace HV := Lib.hid (HV.out.keep hX)
          replace HU := Lib.hid (HU.out.keep hX)
          replace HR := Lib.hid (HR.out.keep hX)
          replace HI1 := Lib.hid (HI1.out.keep hX)
          replace HS1 := Lib.hid (HS1.out.keep hX)
          replace HI2 := Lib.hid (HI2.out.keep hX)
          replace HS2 := Lib.hid (HS2.out.keep hX)
          replace HI4 := Lib.hid (HI4.out.keep hX)
          replace HS4 := Lib.hid (HS4.out.keep hX)
          replace HG := Lib.hid (HG.out.keep hX)
          replace HB1 := Lib.hid (HB1.out.keep hX)
          replace HB2 := Lib.hid (HB2.out.keep hX)
          replace HB3 := Lib.hid (HB3.out.keep hX)
          replace hC := nextW hC hX
          clear hb hX
          go_wp2_with fail
          go_meet
          exact ⟨by first | rfl | (simp; done) | (simp; omega), by first | exact Below.refl _ _ | exact nextX hC (by go_grown) | go_grown⟩
        case rest => as_aux_lemma =>
          obtain ⟨rfl, hX⟩ := hcut
          obtain ⟨w29, hwc⟩ : ∃ X : World, X = wc := ⟨_, rfl⟩
          subst hwc
          replace HTb := Lib.hid (HTb.out.keep hX)
          replace HAw := Lib.hid (HAw.out.keep hX)
          replace HCw := Lib.hid (HCw.out.keep hX)
          replace HV := Lib.hid (HV.out.keep hX)
          replace HU := Lib.hid (HU.out.keep hX)
          replace HR := Lib.hid (HR.out.keep hX)
          replace HI1 := Lib.hid (HI1.out.keep hX)
          replace HS1 := Lib.hid (HS1.out.keep hX)
          replace HI2 := Lib.hid (HI2.out.keep hX)
          replace HS2 := Lib.hid (HS2.out.keep hX)
          replace HI4 := Lib.hid (HI4.out.keep hX)
          replace HS4 := Lib.hid (HS4.out.keep hX)
          replace HG := Lib.hid (HG.out.keep hX)
          replace HB1 := Lib.hid (HB1.out.keep hX)
          replace HB2 := Lib.hid (HB2.out.keep hX)
          replace HB3 := Lib.hid (HB3.out.keep hX)
          replace hB := nextW hB hX
          clear hX
          go_wp2_with fail
          go_name_world w30 hW
          have hX : Below w29.heap.size w29 w30 := by rw [← hW]; go_grown
          replace HTb := Lib.hid (HTb.out.keep hX)
          replace HAw := Lib.hid (HAw.out.keep hX)
          replace HCw := Lib.hid (HCw.out.keep hX)
          replace HV := Lib.hid (HV.out.keep hX)
          replace HU := Lib.hid (HU.out.keep hX)
          replace HR := Lib.hid (HR.out.keep hX)
          replace HI1 := Lib.hid (HI1.out.keep hX)
          replace HS1 := Lib.hid (HS1.out.keep hX)
          replace HI2 := Lib.hid (HI2.out.keep hX)
          replace HS2 := Lib.hid (HS2.out.keep hX)
          replace HI4 := Lib.hid (HI4.out.keep hX)
          replace HS4 := Lib.hid (HS4.out.keep hX)
          replace HG := Lib.hid (HG.out.keep hX)
          replace HB1 := Lib.hid (HB1.out.keep hX)
          replace HB2 := Lib.hid (HB2.out.keep hX)
          replace HB3 := Lib.hid (HB3.out.keep hX)
          replace hB := nextW hB hX
          clear hW hX
          go_loopw [244] (fun i wr => EqTo ps.length w30 i wr) (fun i _ => ps.length - (intOf i).toNat)
          case atStart => exact ⟨0, Nat.zero_le _, rfl, by first | exact Below.refl _ _ | go_grown⟩
          case round =>
            obtain ⟨k, hk, rfl, hbr⟩ := hrel
            by_cases hlt : k < ps.length
            · have hq := List.getElem?_eq_getElem hlt
              generalize ps[k] = q at hq
              obtain ⟨⟨x1, x2⟩, z1, z2⟩ := q
              obtain ⟨A3, c3, he, -, -, hcell⟩ := HR.out.keep hbr
              injection he with e1 e2 e3
              obtain ⟨gg, os, hA9, hgs, hc⟩ := hcell (by intro e; rw [e] at hlt; simp at hlt)
              rw [hA9] at e1
              subst e1
              clear e2 e3 hA9
              obtain ⟨c0, c1, c2, c3⟩ := hc k _ hq
              have kb9 : (k : Int) < ((ps.length : Nat) : Int) := by omega
              have v2 : IntKind.i64.wrap ((k : Int) + 1) = (k : Int) + 1 := IntWalk.i64_in _ (by omega)
              obtain ⟨hv1, hv2, hv3⟩ := HMp.out.pts k _ hq
              obtain ⟨sx, sz⟩ := pt_small HFl.out hq
              simp only at hv1 hv2 hv3 sx sz
              have V1 := Lib.hid hv1
              have V2 := Lib.hid hv2
              have V3 := Lib.hid hv3
              have w3 : IntKind.i64.wrap (x2 - x1) = x2 - x1 := IntWalk.i64_in _ (by omega)
              have w4 : IntKind.i64.wrap (z2 - z1) = z2 - z1 := IntWalk.i64_in _ (by omega)
              clear hc hq hv1 hv2 hv3 sx sz
              replace HTb := Lib.hid (HTb.out.keep hbr)
              replace HAw := Lib.hid (HAw.out.keep hbr)
              replace HCw := Lib.hid (HCw.out.keep hbr)
              replace HV := Lib.hid (HV.out.keep hbr)
              replace HU := Lib.hid (HU.out.keep hbr)
              replace HR := Lib.hid (HR.out.keep hbr)
              replace HI1 := Lib.hid (HI1.out.keep hbr)
              replace HS1 := Lib.hid (HS1.out.keep hbr)
              replace HI2 := Lib.hid (HI2.out.keep hbr)
              replace HS2 := Lib.hid (HS2.out.keep hbr)
              replace HI4 := Lib.hid (HI4.out.keep hbr)
              replace HS4 := Lib.hid (HS4.out.keep hbr)
              replace HG := Lib.hid (HG.out.keep hbr)
              replace HB1 := Lib.hid (HB1.out.keep hbr)
              replace HB2 := Lib.hid (HB2.out.keep hbr)
              replace HB3 := Lib.hid (HB3.out.keep hbr)
              go_wp2_with fail
              refine (iValueAt_is ps _ x1 x2 z1 z2 true _ (HR.out.keep (by go_grown)) (by omega) V1.out).mono ?_
              rintro e w31 ⟨rfl, hb⟩
              have hX : Below wr.heap.size wr w31 := nextX (by go_grown) hb
              replace HTb := Lib.hid (HTb.out.keep hX)
              replace HAw := Lib.hid (HAw.out.keep hX)
              replace HCw := Lib.hid (HCw.out.keep hX)
              replace HV := Lib.hid (HV.out.keep hX)
              replace HU := Lib.hid (HU.out.keep hX)
              replace HR := Lib.hid (HR.out.keep hX)
              replace HI1 := Lib.hid (HI1.out.keep hX)
              replace HS1 := Lib.hid (HS1.out.keep hX)
              replace HI2 := Lib.hid (HI2.out.keep hX)
              replace HS2 := Lib.hid (HS2.out.keep hX)
              replace HI4 := Lib.hid (HI4.out.keep hX)
              replace HS4 := Lib.hid (HS4.out.keep hX)
              replace HG := Lib.hid (HG.out.keep hX)
              replace HB1 := Lib.hid (HB1.out.keep hX)
              replace HB2 := Lib.hid (HB2.out.keep hX)
              replace HB3 := Lib.hid (HB3.out.keep hX)
              replace c0 := cellB hX c0
              replace c1 := cellB hX c1
              replace c2 := cellB hX c2
              replace c3 := cellB hX c3
              have kx0 : w31.cell? ⟨wr.heap.size, 0, none⟩ = some (.int .i64 x1) := cellB hb (by simp [go_sem])
              have zkx0 := lt_of_cell kx0
              have kx1 : w31.cell? ⟨wr.heap.size, 1, none⟩ = some (.int .i64 x2) := cellB hb (by simp [go_sem])
              have kx2 : w31.cell? ⟨wr.heap.size, 2, none⟩ = some (.int .i64 z1) := cellB hb (by simp [go_sem])
              have kx3 : w31.cell? ⟨wr.heap.size, 3, none⟩ = some (.int .i64 z2) := cellB hb (by simp [go_sem])
              have hRr : Below wr.heap.size wr w31 := hX
              clear hb hX
              go_wp2_with fail
              refine (iValueAt_is (simpleQ ps) _ x1 x2 z1 z2 true _ (HI1.out.keep (by go_grown)) hll V2.out).mono ?_
              rintro e w32 ⟨rfl, hb⟩
              have hX : Below w31.heap.size w31 w32 := nextX (by go_grown) hb
              replace HTb := Lib.hid (HTb.out.keep hX)
              replace HAw := Lib.hid (HAw.out.keep hX)
              replace HCw := Lib.hid (HCw.out.keep hX)
              replace HV := Lib.hid (HV.out.keep hX)
              replace HU := Lib.hid (HU.out.keep hX)
              replace HR := Lib.hid (HR.out.keep hX)
              replace HI1 := Lib.hid (HI1.out.keep hX)
              replace HS1 := Lib.hid (HS1.out.keep hX)
              replace HI2 := Lib.hid (HI2.out.keep hX)
              replace HS2 := Lib.hid (HS2.out.keep hX)
              replace HI4 := Lib.hid (HI4.out.keep hX)
              replace HS4 := Lib.hid (HS4.out.keep hX)
              replace HG := Lib.hid (HG.out.keep hX)
              replace HB1 := Lib.hid (HB1.out.keep hX)
              replace HB2 := Lib.hid (HB2.out.keep hX)
              replace HB3 := Lib.hid (HB3.out.keep hX)
              replace c0 := cellB hX c0
              replace c1 := cellB hX c1
              replace c2 := cellB hX c2
              replace c3 := cellB hX c3
              replace kx0 := cellB hX kx0
              replace zkx0 := Nat.lt_of_lt_of_le zkx0 hX.size
              replace kx1 := cellB hX kx1
              replace kx2 := cellB hX kx2
              replace kx3 := cellB hX kx3
              have ka0 : w32.cell? ⟨w31.heap.size, 0, none⟩ = some (.int .i64 z1) := cellB hb (by simp [go_sem])
              have zka0 := lt_of_cell ka0
              have ka1 : w32.cell? ⟨w31.heap.size, 1, none⟩ = some (.int .i64 z2) := cellB hb (by simp [go_sem])
              replace hRr := nextW hRr hX
              clear hb hX
              go_wp2_with fail
              refine (iValueAt_is (reflectQ ps) _ (x2 - x1) x2 (z2 - z1) z2 true _ (HI2.out.keep (by go_grown)) hml V3.out).mono ?_
              rintro e w33 ⟨rfl, hb⟩
              have hX : Below w32.heap.size w32 w33 := nextX (by go_grown) hb
              replace HTb := Lib.hid (HTb.out.keep hX)
              replace HAw := Lib.hid (HAw.out.keep hX)
              replace HCw := Lib.hid (HCw.out.keep hX)
              replace HV := Lib.hid (HV.out.keep hX)
              replace HU := Lib.hid (HU.out.keep hX)
              replace HR := Lib.hid (HR.out.keep hX)
              replace HI1 := Lib.hid (HI1.out.keep hX)
              replace HS1 := Lib.hid (HS1.out.keep hX)
              replace HI2 := Lib.hid (HI2.out.keep hX)
              replace HS2 := Lib.hid (HS2.out.keep hX)
              replace HI4 := Lib.hid (HI4.out.keep hX)
              replace HS4 := Lib.hid (HS4.out.keep hX)
              replace HG := Lib.hid (HG.out.keep hX)
              replace HB1 := Lib.hid (HB1.out.keep hX)
              replace HB2 := Lib.hid (HB2.out.keep hX)
              replace HB3 := Lib.hid (HB3.out.keep hX)
              replace c0 := cellB hX c0
              replace c1 := cellB hX c1
              replace c2 := cellB hX c2
              replace c3 := cellB hX c3
              replace kx0 := cellB hX kx0
              replace zkx0 := Nat.lt_of_lt_of_le zkx0 hX.size
              replace kx1 := cellB hX kx1
              replace kx2 := cellB hX kx2
              replace kx3 := cellB hX kx3
              replace ka0 := cellB hX ka0
              replace zka0 := Nat.lt_of_lt_of_le zka0 hX.size
              replace ka1 := cellB hX ka1
              have kb0 : w33.cell? ⟨w32.heap.size, 0, none⟩ = some (.int .i64 z1) := cellB hb (by simp [go_sem])
              have zkb0 := lt_of_cell kb0
              have kb1 : w33.cell? ⟨w32.heap.size, 1, none⟩ = some (.int .i64 z2) := cellB hb (by simp [go_sem])
              replace hRr := nextW hRr hX
              clear hb hX
              go_wp2_with fail
              go_roundw
              case rel => exact ⟨k + 1, by omega, by go_num, nextW hbr (nextX hRr (by go_grown))⟩
              case measure => simp [intOf] <;> omega
            · obtain rfl : k = ps.length := by omega
              go_wp2_with fail
              go_ret
              exact ⟨rfl, nextW hB (nextX hbr (by go_grown))⟩

theorem gT : Tryz.prog.globalNamed "internal/strconv.uint64pow10" = some 3 := by kernel_rfl
theorem gTy : (Tryz.prog.globals[3]?).map (·.type) = some 135 := by kernel_rfl
theorem g1 : Tryz.prog.globalNamed "strconv.ErrSyntax" = some 1 := by kernel_rfl
theorem g1y : (Tryz.prog.globals[1]?).map (·.type) = some 80 := by kernel_rfl
theorem g2 : Tryz.prog.globalNamed "strconv.ErrRange" = some 2 := by kernel_rfl
theorem g2y : (Tryz.prog.globals[2]?).map (·.type) = some 80 := by kernel_rfl
theorem uE : Tryz.prog.underlying 80 = some (.interface (Tryz.prog.methodsAt 80)) := by kernel_rfl
theorem star : "*" ++ "errors.errorString" = "*errors.errorString" := by decide
theorem eRow (u : TypeId) (h : Tryz.prog.typeName? 3 u = some "*errors.errorString") : u = 140 :=
  typeName_ptr_named (nm := "errors.errorString") (by rw [star]; kernel_rfl) (by kernel_rfl) (by decide) u (by rw [star]; exact h)
theorem tab_of {W : World} (h : laidMetH Tryz.prog Rows.fnMapsRow.laid W) : Tab W ∧ AtW W := by
  rw [MakeChecks.laidMetH_plain _ _ _ (by kernel_rfl)] at h
  refine ⟨Lib.tabIs_of_head (n := 20) (e := 44) gT gTy (by kernel_rfl) (by kernel_rfl) (by kernel_rfl) (by kernel_rfl) h.tail.tail, ?_, ?_⟩
  · obtain ⟨a, s, h1, -⟩ := laid_sentinel (nm := "*errors.errorString") h.tail.tail.tail.tail g1 g1y uE eRow Tryz.underlying140 Tryz.underlying142 rfl rfl Tryz.underlying9 (by kernel_rfl) (by kernel_rfl)
    exact ⟨_, _, h1⟩
  · obtain ⟨a, s, h1, -⟩ := laid_sentinel (nm := "*errors.errorString") h.tail.tail.tail g2 g2y uE eRow Tryz.underlying140 Tryz.underlying142 rfl rfl Tryz.underlying9 (by kernel_rfl) (by kernel_rfl)
    exact ⟨_, _, h1⟩
theorem cut_of {W : World} (h : W.ShapedOpen Tryz.prog) : CutW W :=
  cell_of_shapedOpen_int (t := 3) (zero := #[.int .i64 0]) h (of_decide_eq_true (by kernel_rfl)) (by kernel_rfl) rfl (by kernel_rfl) (by kernel_rfl) (by kernel_rfl)

theorem wrap_shaped {H : Type} {enc : TypeId × Value → H} {a : Assume} {C : Checked} {os : Os} {f : FuncId} {fn : Func} {s : ChangeSpec} {conds : List PathCond} {apart fresh handsOn again : Bool} {X : World → Array Value → Prop}
    (hX : ∀ (w w' : World) (args : Array Value), w.heap = w'.heap → X w args → X w' args)
    (own : ownKnob C.prog.godebug = none) (started : os.Started) (noInit : C.prog.inits.idxOf? f = none) (hfn : C.prog.funcs[f]? = some fn)
    (witness : ∃ (w : World) (tape : Tape) (i : Input), w.os = os ∧ (w.forCall tape i).Shaped C.prog ∧ i.vars = [] ∧ Input.okWide C.prog (w.forCall tape i) .any w.heap.size f i ∧
      ((s.pre enc C.prog fn conds apart (w.forCall tape i).memory i.args ∧ X (w.forCall tape i).memory i.args) ∧ sizedMet enc C.prog fn (OpenSpec.ofChange s) apart (w.forCall tape i).memory i.args) ∧ a.holds C.prog (lone (Frame.enter C.prog f i.args .normal) [] (w.forCall tape i)))
    (contract : ∀ (W : World) (base : Nat) (args : Array Value) (ds gs : List (DataW H)) (before : List MemPlace),
      (∀ (j : Nat) t v, fn.params[j]? = some t → args[j]? = some v → Value.okWide C.prog W .any base t v) →
      DataW.Whole enc C.prog fn.params.toList s.vars apart W args.toList ds gs before → X W args → W.ShapedOpen C.prog →
      Calls C.prog f args W fun e W' => ∃ v, e = .returned v ∧ s.post enc C.prog fn apart fresh handsOn again W args v W') :
    ReturnsInHanded a C os f .any (fun w args => (s.pre enc C.prog fn conds apart w args ∧ X w args) ∧ sizedMet enc C.prog fn (OpenSpec.ofChange s) apart w args) (s.post enc C.prog fn apart fresh handsOn again) := by
  refine returnsInHanded_of_calls own started noInit witness ?_
  intro w tape i _ hsh _ hok hpre _
  obtain ⟨_, _, _, fn', hfn', _, _, _, _, hval⟩ := hok
  have e : fn' = fn := Option.some.inj (hfn'.symm.trans hfn)
  subst e
  obtain ⟨⟨⟨ds, gs, before, hw, _⟩, hx⟩, _⟩ := hpre
  have hw' := DataW.Whole.of_heap (w' := w.forCall tape i) (by rfl) hw
  refine (contract (w.forCall tape i) w.heap.size i.args ds gs before hval hw' (hX _ _ _ (by rfl) hx) hsh).mono fun e W' ⟨v, he, hp⟩ => ?_
  subst he
  exact ChangeSpec.post_blind hp

/-- The door's own heap meets the condition. -/
theorem door_met (os : Os) (args : Array Value) : laidMetH Tryz.prog Rows.fnMapsRow.laid ((World.doorLaid Tryz.prog 400 os).forCall (fun _ _ => 0) ⟨#[], args, []⟩).memory := 
  laidMetH_of_parts3 (fuel := 8) (laidMet_of_run' 8 (by kernel_rfl) (by kernel_rfl)) (by kernel_rfl) (by kernel_rfl)

set_option maxRecDepth 100000 in
theorem lifted (os : Os) (started : os.Started) (H : Type) (enc : TypeId × Value → H) :
    ReturnsInHanded {} Tryz.checked os 3 .any (fun w args => (Rows.fnMapsSpec.pre enc Tryz.prog Tryz.f3 [] false w args ∧ laidMetH Tryz.prog Rows.fnMapsRow.laid w) ∧ sizedMet enc Tryz.prog Tryz.f3 (OpenSpec.ofChange Rows.fnMapsSpec) false w args)
      (Rows.fnMapsSpec.post enc Tryz.prog Tryz.f3 false true false false) := by
  refine wrap_shaped (C := Tryz.checked) (X := fun w _ => laidMetH Tryz.prog Rows.fnMapsRow.laid w) (fun _ _ _ hh h => h.of_heap hh) Tryz.own started (by kernel_rfl) Tryz.func3
    (ChangeSpec.witness_shaped (enc := enc) (C := Tryz.checked) (os := os) (X := fun w _ => laidMetH Tryz.prog Rows.fnMapsRow.laid w) false (World.doorLaid Tryz.prog 400 os) #[.slice none 0 0, .slice none 0 0] 8 rfl (World.shaped_of_RefB (by kernel_rfl) (by kernel_rfl)) (by kernel_rfl) (by kernel_rfl) (by kernel_rfl) (door_met os _)) ?_
  intro W base args ds gs before hval0 hW hL hsh
  have hval : ∀ (j : Nat) t v, Tryz.f3.params[j]? = some t → args[j]? = some v → Value.okWide Tryz.prog W .any base t v := hval0
  have hW' := hW
  obtain ⟨p, q, hA0, hV, rfl, hfz, hnd⟩ := hW
  have hA : DataW.TrodAll enc Tryz.prog W 0 (fun _ => true) true Tryz.f3.params.toList args.toList ds p := hA0
  rw [Tryz.params3] at hA hval
  obtain ⟨v0, v1, d0, d1, p0, p1, rfl, rfl, rfl, h0, h1⟩ := trodAll_two hA
  obtain ⟨bs0, hr0, hb0⟩ := open_code (hval 0 22 v0 rfl rfl) h0
  obtain ⟨bs1, hr1, hb1⟩ := open_code (hval 1 22 v1 rfl rfl) h1
  have hT := tab_of hL
  refine (walk _ _ bs0 bs1 W hr0 hr1 hb0 hb1 hT.1 hT.2 (cut_of hsh)).mono fun e W' ⟨he, hb⟩ => ?_
  subst he
  exact ⟨_, rfl, law_close Tryz.laidOut (by kernel_rfl) (by kernel_rfl) Tryz.underlying4 rfl hW' (fun h => by rfl) hb⟩

theorem row_holds : Rows.FnMapsSaid :=
  OpenClaim.holds_of_wide 3 Tryz.f3 rfl rfl rfl rfl rfl rfl rfl ⟨rfl, rfl, rfl, rfl, rfl⟩ rfl rfl rfl rfl rfl (by kernel_rfl) Tryz.func3 (by kernel_rfl)
    (of_decide_eq_true (by kernel_rfl)) (by unfold Func.isWrapper; first | (rw [if_pos (by decide +kernel)]; kernel_rfl) | (rw [if_neg (by decide +kernel)]; exact ⟨rfl, rfl⟩))
    (fun os started H enc _ => lifted os started H enc)

theorem proved : Rows.FnMapsCardSaid :=
  Claim7.holds_tied_plain_at .later [] [.data, .data, .data, .sentinel, .sentinel] true Rows.fnMapsCard.stood.harness true
    row_holds (fun _ h => by cases h) (by kernel_rfl) (fun _ h => by cases h) fnMaps_row_tie rfl ⟨rfl, rfl⟩ (by kernel_rfl) rfl
    (fun f fn hf hfn => by
      obtain rfl : f = 3 := Option.some.inj ((show Tryz.prog.funcNamed "loop.example/g01003/laws.FnMaps" = some 3 by kernel_rfl).symm.trans hf) |>.symm
      obtain rfl : fn = Tryz.f3 := (Option.some.inj (Tryz.func3.symm.trans hfn)).symm
      exact ⟨by kernel_rfl, fun j t ht => by
        rw [Tryz.params3] at ht
        have h3 : t = 22 := by
          rcases j with _ | _ | j
          · simpa using ht.symm
          · simpa using ht.symm
          · simp at ht
        subst h3
        exact (show Tryz.prog.wantsStandIn 22 = false by kernel_rfl)⟩)
    (by kernel_rfl)

end Go.Proofs.YtkeajfgcjmhmiaaGreatDoor.lawFnMaps
