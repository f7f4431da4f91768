/- Proved: for all drawn fractions, texts are read back, floors are the greatest integers below, and rounded ones the greatest multiples; the arguments read afterwards as they did; the library's variables are as its text lays them (the card ties them to this pruned copy of the project). -/
import Derived.Test.YtmabngjmfjjogaaDoorCode
import Derived.Test.YtmabngjmfjjogaaDoorDrT
import Derived.Test.YtmabngjmfjjogaaDoorTxL
import Derived.Test.YtmabngjmfjjogaaDoorPrsR
import Derived.Test.YtmabngjmfjjogaaDoorLaws
import Derived.Test.YtmabngjmfjjogaaDoorCards
import Derived.Test.YtmabngjmfjjogaaDoorTie
import Derived.SevenTiedAt
import Derived.Lib.LaidTab
import Derived.LaidMore
import Derived.Stop.LaidErr
import Derived.Stop.Joined
import Derived.Shelf.Vars
import Derived.ProofKit
namespace Go.Proofs.YtmabngjmfjjogaaDoor.lawFnRatTexts
open Go.Proofs.YtmabngjmfjjogaaDoor
open Go.ChangeShapes Go.WideShapes Go.ChangeAt Go.RowKit Go.Joins

set_option maxRecDepth 100000 in
set_option maxHeartbeats 1600000 in
theorem sParseRat_is (s : List UInt8) (n d : Int) (t : Bool) (hl : psQ s = ((n, d), t)) (hs : s.length ≤ 1048576) (w : World) :
    Calls Tryd.prog 20 #[str s] w (RetRB w n d t) := by
  have HR := Lib.hid (fun W => raParse_is s n d t hl hs W)
  clear hl
  go_enter Tryd.func20, Tryd.ntmps20
  go_wp2_with fail
  refine (HR.out _).mono ?_
  rintro e w1 ⟨rfl, hb⟩
  have hB : Below w.heap.size w w1 := nextX (by go_grown) hb
  have r0 : Slot w1 w.heap.size 0 (.int .i64 0) := slotB hb ⟨by simp [go_sem], by simp [go_sem]⟩
  have r1 : Slot w1 w.heap.size 1 (.int .i64 0) := slotB hb ⟨by simp [go_sem], by simp [go_sem]⟩
  have z0 := lt_of_cell r0.1
  clear hb
  obtain ⟨q0, k0⟩ := r0
  obtain ⟨q1, k1⟩ := r1
  go_wp2_with fail
  refine bodyPost_ret (v := .tuple #[.agg #[.int .i64 n, .int .i64 d], .bool t]) (by simp [results, Tryd.results20, go_sem, q0, q1]) rfl ⟨rfl, ?_⟩
  go_grown

set_option maxRecDepth 100000 in
set_option maxHeartbeats 12800000 in
theorem walk (v u : Value) (bs cs : List Int) (w : World) (hv : RdN .u8 w v bs) (hu : RdN .u8 w u cs) (hbs : ∀ x ∈ bs, 0 ≤ x ∧ x ≤ 255) (hcs : ∀ x ∈ cs, 0 ≤ x ∧ x ≤ 255) (hT : Tab w) (hA : AtW w) (hCt : CutW w) :
    Calls Tryd.prog 11 #[v, u] w fun e w' => e = .returned (.bool true) ∧ Below w.heap.size w w' := by
  have HV := Lib.hid hv
  have HU := Lib.hid hu
  have HBs := Lib.hid hbs
  have HCs := Lib.hid hcs
  obtain ⟨A, cv, rfl, -, -, -⟩ := hv
  obtain ⟨A2, cu, rfl, -, -, -⟩ := hu
  clear hbs hcs
  rcases hbig : bigB bs.length cs.length with _ | _
  · have HBg := Lib.hid hbig
    clear hbig
    go_enter Tryd.func11, Tryd.ntmps11
    go_wp2_with fail
    refine (big_is _ _ bs cs _ (HV.out.keep (by go_grown)) (HU.out.keep (by go_grown))).mono ?_
    rintro e w1 ⟨he, hb⟩
    rw [HBg.out] at he
    subst he
    have hX : Below w.heap.size w w1 := nextX (by go_grown) hb
    have hB : Below w.heap.size w w1 := hX
    clear hb hX
    go_wp2_with fail
    refine (drawRatText_is _ bs _ (HV.out.keep (nextX hB (by go_grown))) HBs.out).mono ?_
    rintro e w2 ⟨a, b, rfl, hi, hb⟩
    have hX : Below w1.heap.size w1 w2 := nextX (by go_grown) hb
    replace hB := nextW hB hX
    clear hb hX
    obtain ⟨⟨l, ts⟩, hHS⟩ : ∃ r, rtQ a b = r := ⟨_, rfl⟩
    have HS := Lib.hid hHS
    clear hHS
    obtain ⟨⟨x, tf⟩, hHF⟩ : ∃ r, floQ a b = r := ⟨_, rfl⟩
    have HF := Lib.hid hHF
    clear hHF
    have hne : ∀ W, (binOp .neq 9 (str l) (str l)).run Tryd.prog W = .ok (.bool false) W := fun W => by unfold str; go_simp
    have heg : ∀ (W : World) (x y : Operand), (eqGuard .neq 9 x y (str l) (str l)).run Tryd.prog W = .ok () W := fun W x y => by unfold str; go_simp
    have hts : okQ a b = ts := by
      have h := HS.out
      unfold rtQ at h
      split at h
      · rename_i hk; cases h; exact hk
      · rename_i hk; cases h; simpa using hk
    have htf : ts = tf := by
      have h := HF.out
      unfold floQ at h
      split at h
      · rename_i hk; cases h; rw [← hts]; exact hk
      · rename_i hk; cases h; rw [← hts]; simpa using hk
    subst htf
    have HO := Lib.hid hts
    clear hts hi
    go_wp2_with fail
    refine (iRatText_is a b l ts HS.out _ (hT.keep (nextX hB (by go_grown)))).mono ?_
    rintro e w3 ⟨rfl, hb⟩
    have hX : Below w2.heap.size w2 w3 := nextX (by go_grown) hb
    have kxa_0 : w3.cell? ⟨w2.heap.size, 0, none⟩ = some (.int .i64 a) := cellB hb (by simp [go_sem])
    have kxa_1 : w3.cell? ⟨w2.heap.size, 1, none⟩ = some (.int .i64 b) := cellB hb (by simp [go_sem])
    have zkxa_0 := lt_of_cell kxa_0
    replace hB := nextW hB hX
    clear hb hX
    go_wp2_with fail
    refine (sRatText_is a b l ts HS.out _).mono ?_
    rintro e w4 ⟨rfl, hb⟩
    have hX : Below w3.heap.size w3 w4 := nextX (by go_grown) hb
    replace kxa_0 := cellB hX kxa_0
    replace kxa_1 := cellB hX kxa_1
    replace zkxa_0 := Nat.lt_of_lt_of_le zkxa_0 hX.size
    replace hB := nextW hB hX
    clear hb hX
    go_wp2_with fail
    refine (iFloorOf_any a b x ts HF.out _).mono ?_
    rintro e w5 ⟨rfl, hb⟩
    have hX : Below w4.heap.size w4 w5 := nextX (by go_grown) hb
    replace kxa_0 := cellB hX kxa_0
    replace kxa_1 := cellB hX kxa_1
    replace zkxa_0 := Nat.lt_of_lt_of_le zkxa_0 hX.size
    replace hB := nextW hB hX
    clear hb hX
    go_wp2_with fail
    refine (sFloorOf_any a b x ts HF.out _).mono ?_
    rintro e w6 ⟨rfl, hb⟩
    have hX : Below w5.heap.size w5 w6 := nextX (by go_grown) hb
    replace kxa_0 := cellB hX kxa_0
    replace kxa_1 := cellB hX kxa_1
    replace zkxa_0 := Nat.lt_of_lt_of_le zkxa_0 hX.size
    replace hB := nextW hB hX
    clear hb hX
    go_wp2_with fail
    refine (implIsRat_any a b _).mono ?_
    rintro e w7 ⟨he, hb⟩
    rw [HO.out] at he
    subst he
    have hX : Below w6.heap.size w6 w7 := nextX (by go_grown) hb
    replace kxa_0 := cellB hX kxa_0
    replace kxa_1 := cellB hX kxa_1
    replace zkxa_0 := Nat.lt_of_lt_of_le zkxa_0 hX.size
    replace hB := nextW hB hX
    clear hb hX
    go_upto_if 89 with fail
    go_cut [] (fun wx => Below w7.heap.size w7 wx)
    case first => as_aux_lemma =>
      have hC : Below w7.heap.size w7 w7 := Below.refl _ _
      rcases ts with _ | _
      · go_wp2_with fail
        go_meet
        first | exact hC | exact nextX hC (by go_grown)
      · have hl : ratL a b = l := by
          have h := HS.out
          unfold rtQ at h
          rw [if_pos HO.out] at h
          exact (Prod.mk.inj h).1
        have hx : downQ a b = x := by
          have h := HF.out
          unfold floQ at h
          rw [if_pos HO.out] at h
          exact (Prod.mk.inj h).1
        have HP := Lib.hid (show psQ l = ((a, b), true) from psQ_yes (q := (a, b)) ⟨HO.out, hl⟩)
        have hll : l.length ≤ 43 := by rw [← hl]; exact ratL_len HO.out
        obtain ⟨f1, f2, f3, f4⟩ := flo_ok HO.out
        rw [hx] at f1 f2 f3 f4
        have hbd := okQ_bd HO.out
        have m1 := mul_bd f3 f4 (show -1000000000 ≤ b by omega) hbd.2.1
        have m2 : (x + 1) * b = x * b + b := by rw [Int.add_mul, Int.one_mul]
        have v1 : IntKind.i64.wrap (x * b) = x * b := IntWalk.i64_in _ (by omega)
        have v2 : IntKind.i64.wrap (x + 1) = x + 1 := IntWalk.i64_in _ (by omega)
        have v3 : IntKind.i64.wrap ((x + 1) * b) = (x + 1) * b := IntWalk.i64_in _ (by omega)
        have c1 : ¬ a < x * b := by omega
        have c1' : decide (a < x * b) = false := by simpa using c1
        have c2 : ¬ (x + 1) * b ≤ a := by omega
        have c2' : decide ((x + 1) * b ≤ a) = false := by simpa using c2
        clear hl hx m1 m2 f1 f2 f3 f4 hbd
        go_wp2_with fail
        refine (iParseRat_is l a b true HP.out (by omega) _ (hT.keep (nextX hB (nextX hC (by go_grown)))) (hA.keep (nextX hB (nextX hC (by go_grown)))) (hCt.keep (nextX hB (nextX hC (by go_grown))))).mono ?_
        rintro e w8 ⟨rfl, hb⟩
        have hX : Below w7.heap.size w7 w8 := nextX (by go_grown) hb
        replace kxa_0 := cellB hX kxa_0
        replace kxa_1 := cellB hX kxa_1
        replace zkxa_0 := Nat.lt_of_lt_of_le zkxa_0 hX.size
        replace hC := nextW hC hX
        clear hb hX
        go_wp2_with fail
        go_meet
        exact nextX hC (by go_grown)
    case rest => as_aux_lemma =>
      have hX := hcut
      obtain ⟨w9, hwc⟩ : ∃ X : World, X = wc := ⟨_, rfl⟩
      subst hwc
      replace kxa_0 := cellB hX kxa_0
      replace kxa_1 := cellB hX kxa_1
      replace zkxa_0 := Nat.lt_of_lt_of_le zkxa_0 hX.size
      replace hB := nextW hB hX
      clear hX hcut
      clear kxa_0 kxa_1 zkxa_0
      go_wp2_with fail
      refine (drawRound_is _ cs _ (HU.out.keep (nextX hB (by go_grown))) HCs.out).mono ?_
      rintro e w10 ⟨c, d, m, rfl, hcd, hm, hb⟩
      have hX : Below w9.heap.size w9 w10 := nextX (by go_grown) hb
      replace hB := nextW hB hX
      clear hb hX
      obtain ⟨⟨r1, r2, tr⟩, hHR⟩ : ∃ r, rdnQ c d m = r := ⟨_, rfl⟩
      have HR := Lib.hid hHR
      clear hHR
      go_wp2_with fail
      refine (iRound_any c d m r1 r2 tr HR.out _).mono ?_
      rintro e w11 ⟨rfl, hb⟩
      have hX : Below w10.heap.size w10 w11 := nextX (by go_grown) hb
      have kb_0 : w11.cell? ⟨w10.heap.size, 0, none⟩ = some (.int .i64 c) := cellB hb (by simp [go_sem])
      have kb_1 : w11.cell? ⟨w10.heap.size, 1, none⟩ = some (.int .i64 d) := cellB hb (by simp [go_sem])
      have zkb_0 := lt_of_cell kb_0
      replace hB := nextW hB hX
      clear hb hX
      go_wp2_with fail
      refine (sRound_any c d m r1 r2 tr HR.out _).mono ?_
      rintro e w12 ⟨rfl, hb⟩
      have hX : Below w11.heap.size w11 w12 := nextX (by go_grown) hb
      replace kb_0 := cellB hX kb_0
      replace kb_1 := cellB hX kb_1
      have kr_0 : w12.cell? ⟨w11.heap.size, 0, none⟩ = some (.int .i64 r1) := cellB hb (by simp [go_sem])
      have kr_1 : w12.cell? ⟨w11.heap.size, 1, none⟩ = some (.int .i64 r2) := cellB hb (by simp [go_sem])
      have zkr_0 := lt_of_cell kr_0
      replace zkb_0 := Nat.lt_of_lt_of_le zkb_0 hX.size
      replace hB := nextW hB hX
      clear hb hX
      go_upto_if 146 with fail
      go_cut [] (fun wx => Below w12.heap.size w12 wx)
      case first => as_aux_lemma =>
        have hC : Below w12.heap.size w12 w12 := Below.refl _ _
        rcases tr with _ | _
        · go_wp2_with fail
          go_meet
          first | exact hC | exact nextX hC (by go_grown)
        · obtain ⟨y1, y2, y3, y4, y5, y6⟩ := rdn_back HR.out
          have bdr := okQ_bd y2
          have HY := Lib.hid (And.intro (Sm.of_ok y1) (Sm.of_ok y2))
          have HY4 := Lib.hid y4
          have HY6 := Lib.hid y6
          have d0 : ¬ r2 = 0 := by omega
          have d1 : (r2 == 0) = false := by simpa using d0
          have vr : IntKind.i64.wrap (m.tmod r2) = 0 := by rw [y5]; rfl
          have vr2 : (m.tmod r2 == 0) = true := by rw [y5]; rfl
          clear y1 y2 y4 y6
          go_wp2_with fail
          refine (iRound_any r1 r2 m r1 r2 true HY6.out _).mono ?_
          rintro e w13 ⟨rfl, hb⟩
          have hX : Below w12.heap.size w12 w13 := nextX (by go_grown) hb
          replace kb_0 := cellB hX kb_0
          replace kb_1 := cellB hX kb_1
          replace kr_0 := cellB hX kr_0
          replace kr_1 := cellB hX kr_1
          have kd_0 : w13.cell? ⟨w12.heap.size, 0, none⟩ = some (.int .i64 r1) := cellB hb (by simp [go_sem])
          have kd_1 : w13.cell? ⟨w12.heap.size, 1, none⟩ = some (.int .i64 r2) := cellB hb (by simp [go_sem])
          have zkd_0 := lt_of_cell kd_0
          replace zkb_0 := Nat.lt_of_lt_of_le zkb_0 hX.size
          replace zkr_0 := Nat.lt_of_lt_of_le zkr_0 hX.size
          replace hC := nextW hC hX
          clear hb hX
          go_wp2_with fail
          refine (pLess_is c d r1 r2 HY.out.1 HY.out.2 _).mono ?_
          rintro e w14 ⟨he, hb⟩
          rw [HY4.out] at he
          subst he
          have hX : Below w13.heap.size w13 w14 := nextX (by go_grown) hb
          replace kb_0 := cellB hX kb_0
          replace kb_1 := cellB hX kb_1
          replace kr_0 := cellB hX kr_0
          replace kr_1 := cellB hX kr_1
          replace kd_0 := cellB hX kd_0
          replace kd_1 := cellB hX kd_1
          have kg_0 : w14.cell? ⟨w13.heap.size, 0, none⟩ = some (.int .i64 r1) := cellB hb (by simp [go_sem])
          have kg_1 : w14.cell? ⟨w13.heap.size, 1, none⟩ = some (.int .i64 r2) := cellB hb (by simp [go_sem])
          have zkg_0 := lt_of_cell kg_0
          replace zkb_0 := Nat.lt_of_lt_of_le zkb_0 hX.size
          replace zkr_0 := Nat.lt_of_lt_of_le zkr_0 hX.size
          replace zkd_0 := Nat.lt_of_lt_of_le zkd_0 hX.size
          replace hC := nextW hC hX
          clear hb hX
          go_wp2_with fail
          go_meet
          exact nextX hC (by go_grown)
      case rest => as_aux_lemma =>
        have hX := hcut
        obtain ⟨w15, hwc⟩ : ∃ X : World, X = wc := ⟨_, rfl⟩
        subst hwc
        replace kb_0 := cellB hX kb_0
        replace kb_1 := cellB hX kb_1
        replace zkb_0 := Nat.lt_of_lt_of_le zkb_0 hX.size
        replace kr_0 := cellB hX kr_0
        replace kr_1 := cellB hX kr_1
        replace zkr_0 := Nat.lt_of_lt_of_le zkr_0 hX.size
        replace hB := nextW hB hX
        clear hX hcut
        clear kb_0 kb_1 zkb_0 kr_0 kr_1 zkr_0
        go_wp2_with fail
        refine (drawMake_is _ cs _ (HU.out.keep (nextX hB (by go_grown))) HCs.out).mono ?_
        rintro e w16 ⟨n, k, rfl, hnk, hb⟩
        have hX : Below w15.heap.size w15 w16 := nextX (by go_grown) hb
        replace hB := nextW hB hX
        clear hb hX
        obtain ⟨⟨m1, m2, tm⟩, hHM⟩ : ∃ r, mkQ n k = r := ⟨_, rfl⟩
        have HM := Lib.hid hHM
        clear hHM
        go_wp2_with fail
        refine (iMake_any n k m1 m2 tm HM.out _).mono ?_
        rintro e w17 ⟨rfl, hb⟩
        have hX : Below w16.heap.size w16 w17 := nextX (by go_grown) hb
        replace hB := nextW hB hX
        clear hb hX
        go_wp2_with fail
        refine (sMake_any n k m1 m2 tm HM.out _).mono ?_
        rintro e w18 ⟨rfl, hb⟩
        have hX : Below w17.heap.size w17 w18 := nextX (by go_grown) hb
        have km_0 : w18.cell? ⟨w17.heap.size, 0, none⟩ = some (.int .i64 m1) := cellB hb (by simp [go_sem])
        have km_1 : w18.cell? ⟨w17.heap.size, 1, none⟩ = some (.int .i64 m2) := cellB hb (by simp [go_sem])
        have zkm_0 := lt_of_cell km_0
        replace hB := nextW hB hX
        clear hb hX
        go_wp2_with fail
        refine (drawParse_is _ cs _ (HU.out.keep (nextX hB (by go_grown))) HCs.out).mono ?_
        rintro e w19 ⟨s, rfl, hs, hb⟩
        have hX : Below w18.heap.size w18 w19 := nextX (by go_grown) hb
        replace km_0 := cellB hX km_0
        replace km_1 := cellB hX km_1
        have kM_0 : w19.cell? ⟨w18.heap.size, 0, none⟩ = some (.int .i64 m1) := cellB hb (by simp [go_sem])
        have kM_1 : w19.cell? ⟨w18.heap.size, 1, none⟩ = some (.int .i64 m2) := cellB hb (by simp [go_sem])
        have zkM_0 := lt_of_cell kM_0
        replace zkm_0 := Nat.lt_of_lt_of_le zkm_0 hX.size
        replace hB := nextW hB hX
        clear hb hX
        obtain ⟨⟨⟨p1, p2⟩, tp⟩, hHP⟩ : ∃ r, psQ s = r := ⟨_, rfl⟩
        have HP := Lib.hid hHP
        clear hHP
        go_wp2_with fail
        refine (iParseRat_is s p1 p2 tp HP.out (by omega) _ (hT.keep (nextX hB (by go_grown))) (hA.keep (nextX hB (by go_grown))) (hCt.keep (nextX hB (by go_grown)))).mono ?_
        rintro e w20 ⟨rfl, hb⟩
        have hX : Below w19.heap.size w19 w20 := nextX (by go_grown) hb
        replace km_0 := cellB hX km_0
        replace km_1 := cellB hX km_1
        replace kM_0 := cellB hX kM_0
        replace kM_1 := cellB hX kM_1
        replace zkm_0 := Nat.lt_of_lt_of_le zkm_0 hX.size
        replace zkM_0 := Nat.lt_of_lt_of_le zkM_0 hX.size
        replace hB := nextW hB hX
        clear hb hX
        go_wp2_with fail
        refine (sParseRat_is s p1 p2 tp HP.out (by omega) _).mono ?_
        rintro e w21 ⟨rfl, hb⟩
        have hX : Below w20.heap.size w20 w21 := nextX (by go_grown) hb
        replace km_0 := cellB hX km_0
        replace km_1 := cellB hX km_1
        replace kM_0 := cellB hX kM_0
        replace kM_1 := cellB hX kM_1
        have kp_0 : w21.cell? ⟨w20.heap.size, 0, none⟩ = some (.int .i64 p1) := cellB hb (by simp [go_sem])
        have kp_1 : w21.cell? ⟨w20.heap.size, 1, none⟩ = some (.int .i64 p2) := cellB hb (by simp [go_sem])
        have zkp_0 := lt_of_cell kp_0
        replace zkm_0 := Nat.lt_of_lt_of_le zkm_0 hX.size
        replace zkM_0 := Nat.lt_of_lt_of_le zkM_0 hX.size
        replace hB := nextW hB hX
        clear hb hX
        go_wp2_with fail
        go_ret
        exact ⟨rfl, nextX hB (by go_grown)⟩
  · have HBg := Lib.hid hbig
    clear hbig
    go_enter Tryd.func11, Tryd.ntmps11
    go_wp2_with fail
    refine (big_is _ _ bs cs _ (HV.out.keep (by go_grown)) (HU.out.keep (by go_grown))).mono ?_
    rintro e w1 ⟨he, hb⟩
    rw [HBg.out] at he
    subst he
    have hX : Below w.heap.size w w1 := nextX (by go_grown) hb
    have hB : Below w.heap.size w w1 := hX
    clear hb hX
    go_wp2_with fail
    go_ret
    exact ⟨rfl, hB⟩

theorem gT : Tryd.prog.globalNamed "internal/strconv.uint64pow10" = some 3 := by kernel_rfl
theorem gTy : (Tryd.prog.globals[3]?).map (·.type) = some 180 := by kernel_rfl
theorem g1 : Tryd.prog.globalNamed "strconv.ErrSyntax" = some 1 := by kernel_rfl
theorem g1y : (Tryd.prog.globals[1]?).map (·.type) = some 82 := by kernel_rfl
theorem g2 : Tryd.prog.globalNamed "strconv.ErrRange" = some 2 := by kernel_rfl
theorem g2y : (Tryd.prog.globals[2]?).map (·.type) = some 82 := by kernel_rfl
theorem uE : Tryd.prog.underlying 82 = some (.interface (Tryd.prog.methodsAt 82)) := by kernel_rfl
theorem star : "*" ++ "errors.errorString" = "*errors.errorString" := by decide
theorem eRow (u : TypeId) (h : Tryd.prog.typeName? 3 u = some "*errors.errorString") : u = 175 :=
  typeName_ptr_named (nm := "errors.errorString") (by rw [star]; kernel_rfl) (by kernel_rfl) (by decide) u (by rw [star]; exact h)
theorem tab_of {W : World} (h : laidMetH Tryd.prog Rows.fnRatTextsRow.laid W) : Tab W ∧ AtW W := by
  rw [MakeChecks.laidMetH_plain _ _ _ (by kernel_rfl)] at h
  refine ⟨Lib.tabIs_of_head (n := 20) (e := 107) gT gTy (by kernel_rfl) (by kernel_rfl) (by kernel_rfl) (by kernel_rfl) h.tail.tail, ?_, ?_⟩
  · obtain ⟨a, s, h1, -⟩ := laid_sentinel (nm := "*errors.errorString") h.tail.tail.tail.tail g1 g1y uE eRow Tryd.underlying175 Tryd.underlying177 rfl rfl Tryd.underlying9 (by kernel_rfl) (by kernel_rfl)
    exact ⟨_, _, h1⟩
  · obtain ⟨a, s, h1, -⟩ := laid_sentinel (nm := "*errors.errorString") h.tail.tail.tail g2 g2y uE eRow Tryd.underlying175 Tryd.underlying177 rfl rfl Tryd.underlying9 (by kernel_rfl) (by kernel_rfl)
    exact ⟨_, _, h1⟩
theorem cut_of {W : World} (h : W.ShapedOpen Tryd.prog) : CutW W :=
  cell_of_shapedOpen_int (t := 3) (zero := #[.int .i64 0]) h (of_decide_eq_true (by kernel_rfl)) (by kernel_rfl) rfl (by kernel_rfl) (by kernel_rfl) (by kernel_rfl)


theorem wrap_shaped {H : Type} {enc : TypeId × Value → H} {a : Assume} {C : Checked} {os : Os} {f : FuncId} {fn : Func} {s : ChangeSpec} {conds : List PathCond} {apart fresh handsOn again : Bool} {X : World → Array Value → Prop}
    (hX : ∀ (w w' : World) (args : Array Value), w.heap = w'.heap → X w args → X w' args)
    (own : ownKnob C.prog.godebug = none) (started : os.Started) (noInit : C.prog.inits.idxOf? f = none) (hfn : C.prog.funcs[f]? = some fn)
    (witness : ∃ (w : World) (tape : Tape) (i : Input), w.os = os ∧ (w.forCall tape i).Shaped C.prog ∧ i.vars = [] ∧ Input.okWide C.prog (w.forCall tape i) .any w.heap.size f i ∧
      ((s.pre enc C.prog fn conds apart (w.forCall tape i).memory i.args ∧ X (w.forCall tape i).memory i.args) ∧ sizedMet enc C.prog fn (OpenSpec.ofChange s) apart (w.forCall tape i).memory i.args) ∧ a.holds C.prog (lone (Frame.enter C.prog f i.args .normal) [] (w.forCall tape i)))
    (contract : ∀ (W : World) (base : Nat) (args : Array Value) (ds gs : List (DataW H)) (before : List MemPlace),
      (∀ (j : Nat) t v, fn.params[j]? = some t → args[j]? = some v → Value.okWide C.prog W .any base t v) →
      DataW.Whole enc C.prog fn.params.toList s.vars apart W args.toList ds gs before → X W args → W.ShapedOpen C.prog →
      Calls C.prog f args W fun e W' => ∃ v, e = .returned v ∧ s.post enc C.prog fn apart fresh handsOn again W args v W') :
    ReturnsInHanded a C os f .any (fun w args => (s.pre enc C.prog fn conds apart w args ∧ X w args) ∧ sizedMet enc C.prog fn (OpenSpec.ofChange s) apart w args) (s.post enc C.prog fn apart fresh handsOn again) := by
  refine returnsInHanded_of_calls own started noInit witness ?_
  intro w tape i _ hsh _ hok hpre _
  obtain ⟨_, _, _, fn', hfn', _, _, _, _, hval⟩ := hok
  have e : fn' = fn := Option.some.inj (hfn'.symm.trans hfn)
  subst e
  obtain ⟨⟨⟨ds, gs, before, hw, _⟩, hx⟩, _⟩ := hpre
  have hw' := DataW.Whole.of_heap (w' := w.forCall tape i) (by rfl) hw
  refine (contract (w.forCall tape i) w.heap.size i.args ds gs before hval hw' (hX _ _ _ (by rfl) hx) hsh).mono fun e W' ⟨v, he, hp⟩ => ?_
  subst he
  exact ChangeSpec.post_blind hp

/-- The door's own heap meets the condition. -/
theorem door_met (os : Os) (args : Array Value) : laidMetH Tryd.prog Rows.fnRatTextsRow.laid ((World.doorLaid Tryd.prog 400 os).forCall (fun _ _ => 0) ⟨#[], args, []⟩).memory := 
  laidMetH_of_parts3 (fuel := 8) (laidMet_of_run' 8 (by kernel_rfl) (by kernel_rfl)) (by kernel_rfl) (by kernel_rfl)

set_option maxRecDepth 100000 in
theorem lifted (os : Os) (started : os.Started) (H : Type) (enc : TypeId × Value → H) :
    ReturnsInHanded {} Tryd.checked os 11 .any (fun w args => (Rows.fnRatTextsSpec.pre enc Tryd.prog Tryd.f11 [] false w args ∧ laidMetH Tryd.prog Rows.fnRatTextsRow.laid w) ∧ sizedMet enc Tryd.prog Tryd.f11 (OpenSpec.ofChange Rows.fnRatTextsSpec) false w args)
      (Rows.fnRatTextsSpec.post enc Tryd.prog Tryd.f11 false true false false) := by
  refine wrap_shaped (C := Tryd.checked) (X := fun w _ => laidMetH Tryd.prog Rows.fnRatTextsRow.laid w) (fun _ _ _ hh h => h.of_heap hh) Tryd.own started (by kernel_rfl) Tryd.func11
    (ChangeSpec.witness_shaped (enc := enc) (C := Tryd.checked) (os := os) (X := fun w _ => laidMetH Tryd.prog Rows.fnRatTextsRow.laid w) false (World.doorLaid Tryd.prog 400 os) #[.slice none 0 0, .slice none 0 0] 8 rfl (World.shaped_of_RefB (by kernel_rfl) (by kernel_rfl)) (by kernel_rfl) (by kernel_rfl) (by kernel_rfl) (door_met os _)) ?_
  intro W base args ds gs before hval0 hW hL hsh
  have hval : ∀ (j : Nat) t v, Tryd.f11.params[j]? = some t → args[j]? = some v → Value.okWide Tryd.prog W .any base t v := hval0
  have hW' := hW
  obtain ⟨p, q, hA0, hV, rfl, hfz, hnd⟩ := hW
  have hA : DataW.TrodAll enc Tryd.prog W 0 (fun _ => true) true Tryd.f11.params.toList args.toList ds p := hA0
  rw [Tryd.params11] at hA hval
  obtain ⟨v0, v1, d0, d1, p0, p1, rfl, rfl, rfl, h0, h1⟩ := trodAll_two hA
  obtain ⟨bs0, hr0, hb0⟩ := open_code (hval 0 57 v0 rfl rfl) h0
  obtain ⟨bs1, hr1, hb1⟩ := open_code (hval 1 57 v1 rfl rfl) h1
  have hT := tab_of hL
  refine (walk _ _ bs0 bs1 W hr0 hr1 hb0 hb1 hT.1 hT.2 (cut_of hsh)).mono fun e W' ⟨he, hb⟩ => ?_
  subst he
  exact ⟨_, rfl, law_close Tryd.laidOut (by kernel_rfl) (by kernel_rfl) Tryd.underlying4 rfl hW' (fun h => by rfl) hb⟩

theorem row_holds : Rows.FnRatTextsSaid :=
  OpenClaim.holds_of_wide 11 Tryd.f11 rfl rfl rfl rfl rfl rfl rfl ⟨rfl, rfl, rfl, rfl, rfl⟩ rfl rfl rfl rfl rfl (by kernel_rfl) Tryd.func11 (by kernel_rfl)
    (of_decide_eq_true (by kernel_rfl)) (by unfold Func.isWrapper; first | (rw [if_pos (by decide +kernel)]; kernel_rfl) | (rw [if_neg (by decide +kernel)]; exact ⟨rfl, rfl⟩))
    (fun os started H enc _ => lifted os started H enc)

theorem proved : Rows.FnRatTextsCardSaid :=
  Claim7.holds_tied_plain_at .later [] [.data, .data, .data, .sentinel, .sentinel] true Rows.fnRatTextsCard.stood.harness true
    row_holds (fun _ h => by cases h) (by kernel_rfl) (fun _ h => by cases h) fnRatTexts_row_tie rfl ⟨rfl, rfl⟩ (by kernel_rfl) rfl
    (fun f fn hf hfn => by
      obtain rfl : f = 11 := Option.some.inj ((show Tryd.prog.funcNamed "loop.example/g01003/laws.FnRatTexts" = some 11 by kernel_rfl).symm.trans hf) |>.symm
      obtain rfl : fn = Tryd.f11 := (Option.some.inj (Tryd.func11.symm.trans hfn)).symm
      exact ⟨by kernel_rfl, fun j t ht => by
        rw [Tryd.params11] at ht
        have h3 : t = 57 := by
          rcases j with _ | _ | j
          · simpa using ht.symm
          · simpa using ht.symm
          · simp at ht
        subst h3
        exact (show Tryd.prog.wantsStandIn 57 = false by kernel_rfl)⟩)
    (by kernel_rfl)

end Go.Proofs.YtmabngjmfjjogaaDoor.lawFnRatTexts
