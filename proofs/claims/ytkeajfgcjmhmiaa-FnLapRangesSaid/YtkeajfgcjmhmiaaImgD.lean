/- ImageOf of both. -/
import Derived.Test.YtkeajfgcjmhmiaaImgC
namespace Go.Proofs.Ytkeajfgcjmhmiaa
open Go.RowKit

set_option maxRecDepth 100000 in
set_option maxHeartbeats 4000000 in
theorem iImageOf_is (ps : List Pt) (v : Value) (a1 a2 b1 b2 k1 k2 k3 k4 : Int) (t : Bool) (hl : imageQ ps (a1, a2) (b1, b2) = (k1, k2, k3, k4, t)) (w : World) (hv : RdP w v ps) (hn : ps.length ≤ 1048576) :
    Calls Try.prog 12 #[v, .agg #[.int .i64 a1, .int .i64 a2], .agg #[.int .i64 b1, .int .i64 b2]] w fun e w' => e = .returned (.tuple #[.agg #[.int .i64 k1, .int .i64 k2], .agg #[.int .i64 k3, .int .i64 k4], .bool t]) ∧ Below w.heap.size w w' := by
  have HV := Lib.hid hv
  rcases hm : okMap ps with _ | _
  · obtain ⟨rfl, rfl, rfl, rfl, rfl⟩ : 0 = k1 ∧ 0 = k2 ∧ 0 = k3 ∧ 0 = k4 ∧ false = t := by
      unfold imageQ at hl
      rw [if_neg (by rw [hm]; simp)] at hl
      simpa only [Prod.mk.injEq] using hl
    have HM := Lib.hid hm
    clear hv hl hm
    go_enter Try.func12, Try.ntmps12
    go_wp2_with fail
    refine (isMap_is ps v false _ (HV.out.keep (by go_grown)) hn HM.out).mono ?_
    rintro e w1 ⟨rfl, hb⟩
    have hX : Below w.heap.size w w1 := nextX (by go_grown) hb
    have b00 : w1.cell? ⟨w.heap.size, 0, none⟩ = some (.int .i64 a1) := cellB hb (by simp [go_sem])
    have b01 : w1.cell? ⟨w.heap.size, 1, none⟩ = some (.int .i64 a2) := cellB hb (by simp [go_sem])
    have b10 : w1.cell? ⟨w.heap.size + 1, 0, none⟩ = some (.int .i64 b1) := cellB hb (by simp [go_sem])
    have b11 : w1.cell? ⟨w.heap.size + 1, 1, none⟩ = some (.int .i64 b2) := cellB hb (by simp [go_sem])
    have r20 : Slot w1 (w.heap.size + 2) 0 (.int .i64 0) := slotB hb ⟨by simp [go_sem], by simp [go_sem]⟩
    have r21 : Slot w1 (w.heap.size + 2) 1 (.int .i64 0) := slotB hb ⟨by simp [go_sem], by simp [go_sem]⟩
    have r30 : Slot w1 (w.heap.size + 3) 0 (.int .i64 0) := slotB hb ⟨by simp [go_sem], by simp [go_sem]⟩
    have r31 : Slot w1 (w.heap.size + 3) 1 (.int .i64 0) := slotB hb ⟨by simp [go_sem], by simp [go_sem]⟩
    have zb00 := lt_of_cell b00
    have zb10 := lt_of_cell b10
    have zr20 := lt_of_cell r20.1
    have zr30 := lt_of_cell r30.1
    have hB : Below w.heap.size w w1 := hX
    clear hb hX
    obtain ⟨x0, s0⟩ := r20
    obtain ⟨x1, s1⟩ := r21
    obtain ⟨x2, s2⟩ := r30
    obtain ⟨x3, s3⟩ := r31
    go_wp2_with fail
    refine bodyPost_ret (v := .tuple #[.agg #[.int .i64 0, .int .i64 0], .agg #[.int .i64 0, .int .i64 0], .bool false]) (by simp [results, Try.results12, go_sem, x0, x1, x2, x3]) rfl ⟨rfl, ?_⟩
    go_grown
  · have HM := Lib.hid hm
    rcases hab : okAB (a1, a2) (b1, b2) with _ | _
    · obtain ⟨rfl, rfl, rfl, rfl, rfl⟩ : 0 = k1 ∧ 0 = k2 ∧ 0 = k3 ∧ 0 = k4 ∧ false = t := by
        unfold imageQ at hl
        rw [if_neg (by rw [hab]; simp)] at hl
        simpa only [Prod.mk.injEq] using hl
      unfold okAB at hab
      simp only at hab
      rcases hu : (unitQ a1 a2 && unitQ b1 b2) with _ | _
      · have HU := Lib.hid hu
        clear hv hl hm hab hu
        go_enter Try.func12, Try.ntmps12
        go_wp2_with fail
        refine (isMap_is ps v true _ (HV.out.keep (by go_grown)) hn HM.out).mono ?_
        rintro e w1 ⟨rfl, hb⟩
        have hX : Below w.heap.size w w1 := nextX (by go_grown) hb
        have b00 : w1.cell? ⟨w.heap.size, 0, none⟩ = some (.int .i64 a1) := cellB hb (by simp [go_sem])
        have b01 : w1.cell? ⟨w.heap.size, 1, none⟩ = some (.int .i64 a2) := cellB hb (by simp [go_sem])
        have b10 : w1.cell? ⟨w.heap.size + 1, 0, none⟩ = some (.int .i64 b1) := cellB hb (by simp [go_sem])
        have b11 : w1.cell? ⟨w.heap.size + 1, 1, none⟩ = some (.int .i64 b2) := cellB hb (by simp [go_sem])
        have r20 : Slot w1 (w.heap.size + 2) 0 (.int .i64 0) := slotB hb ⟨by simp [go_sem], by simp [go_sem]⟩
        have r21 : Slot w1 (w.heap.size + 2) 1 (.int .i64 0) := slotB hb ⟨by simp [go_sem], by simp [go_sem]⟩
        have r30 : Slot w1 (w.heap.size + 3) 0 (.int .i64 0) := slotB hb ⟨by simp [go_sem], by simp [go_sem]⟩
        have r31 : Slot w1 (w.heap.size + 3) 1 (.int .i64 0) := slotB hb ⟨by simp [go_sem], by simp [go_sem]⟩
        have zb00 := lt_of_cell b00
        have zb10 := lt_of_cell b10
        have zr20 := lt_of_cell r20.1
        have zr30 := lt_of_cell r30.1
        have hB : Below w.heap.size w w1 := hX
        clear hb hX
        go_wp2_with fail
        refine (areUnits_is [(a1, a2), (b1, b2)] _ false _ (RdQ.two (by simp) (by simp [go_sem]) (by simp [go_sem]) (by simp [go_sem]) (by simp [go_sem])) (by simp only [List.all_cons, List.all_nil, Bool.and_true]; exact HU.out)).mono ?_
        rintro e w2 ⟨rfl, hb⟩
        have hX : Below w1.heap.size w1 w2 := nextX (by go_grown) hb
        replace b00 := cellB hX b00
        replace b01 := cellB hX b01
        replace b10 := cellB hX b10
        replace b11 := cellB hX b11
        replace r20 := slotB hX r20
        replace r21 := slotB hX r21
        replace r30 := slotB hX r30
        replace r31 := slotB hX r31
        have zb00 := Nat.lt_of_lt_of_le zb00 hX.size
        have zb10 := Nat.lt_of_lt_of_le zb10 hX.size
        have zr20 := Nat.lt_of_lt_of_le zr20 hX.size
        have zr30 := Nat.lt_of_lt_of_le zr30 hX.size
        replace hB := nextW hB hX
        clear hb hX
        obtain ⟨x0, s0⟩ := r20
        obtain ⟨x1, s1⟩ := r21
        obtain ⟨x2, s2⟩ := r30
        obtain ⟨x3, s3⟩ := r31
        go_wp2_with fail
        refine bodyPost_ret (v := .tuple #[.agg #[.int .i64 0, .int .i64 0], .agg #[.int .i64 0, .int .i64 0], .bool false]) (by simp [results, Try.results12, go_sem, x0, x1, x2, x3]) rfl ⟨rfl, ?_⟩
        go_grown
      · have HU := Lib.hid hu
        have hp := hu
        rw [Bool.and_eq_true] at hp
        have hle : lessQ b1 b2 a1 a2 = true := by rw [hp.1, hp.2] at hab; simpa using hab
        have sa := Lib.hid (Sm.of_ok (unitQ_ok hp.1))
        have sb := Lib.hid (Sm.of_ok (unitQ_ok hp.2))
        have HLe := Lib.hid hle
        clear hv hl hm hab hu hp hle
        go_enter Try.func12, Try.ntmps12
        go_wp2_with fail
        refine (isMap_is ps v true _ (HV.out.keep (by go_grown)) hn HM.out).mono ?_
        rintro e w1 ⟨rfl, hb⟩
        have hX : Below w.heap.size w w1 := nextX (by go_grown) hb
        have b00 : w1.cell? ⟨w.heap.size, 0, none⟩ = some (.int .i64 a1) := cellB hb (by simp [go_sem])
        have b01 : w1.cell? ⟨w.heap.size, 1, none⟩ = some (.int .i64 a2) := cellB hb (by simp [go_sem])
        have b10 : w1.cell? ⟨w.heap.size + 1, 0, none⟩ = some (.int .i64 b1) := cellB hb (by simp [go_sem])
        have b11 : w1.cell? ⟨w.heap.size + 1, 1, none⟩ = some (.int .i64 b2) := cellB hb (by simp [go_sem])
        have r20 : Slot w1 (w.heap.size + 2) 0 (.int .i64 0) := slotB hb ⟨by simp [go_sem], by simp [go_sem]⟩
        have r21 : Slot w1 (w.heap.size + 2) 1 (.int .i64 0) := slotB hb ⟨by simp [go_sem], by simp [go_sem]⟩
        have r30 : Slot w1 (w.heap.size + 3) 0 (.int .i64 0) := slotB hb ⟨by simp [go_sem], by simp [go_sem]⟩
        have r31 : Slot w1 (w.heap.size + 3) 1 (.int .i64 0) := slotB hb ⟨by simp [go_sem], by simp [go_sem]⟩
        have zb00 := lt_of_cell b00
        have zb10 := lt_of_cell b10
        have zr20 := lt_of_cell r20.1
        have zr30 := lt_of_cell r30.1
        have hB : Below w.heap.size w w1 := hX
        clear hb hX
        go_wp2_with fail
        refine (areUnits_is [(a1, a2), (b1, b2)] _ true _ (RdQ.two (by simp) (by simp [go_sem]) (by simp [go_sem]) (by simp [go_sem]) (by simp [go_sem])) (by simp only [List.all_cons, List.all_nil, Bool.and_true]; exact HU.out)).mono ?_
        rintro e w2 ⟨rfl, hb⟩
        have hX : Below w1.heap.size w1 w2 := nextX (by go_grown) hb
        replace b00 := cellB hX b00
        replace b01 := cellB hX b01
        replace b10 := cellB hX b10
        replace b11 := cellB hX b11
        replace r20 := slotB hX r20
        replace r21 := slotB hX r21
        replace r30 := slotB hX r30
        replace r31 := slotB hX r31
        have zb00 := Nat.lt_of_lt_of_le zb00 hX.size
        have zb10 := Nat.lt_of_lt_of_le zb10 hX.size
        have zr20 := Nat.lt_of_lt_of_le zr20 hX.size
        have zr30 := Nat.lt_of_lt_of_le zr30 hX.size
        replace hB := nextW hB hX
        clear hb hX
        go_wp2_with fail
        refine (less_any b1 b2 a1 a2 sb.out.1 sb.out.2 sa.out.1 sa.out.2 _).mono ?_
        rintro e w3 ⟨he, hb⟩
        rw [HLe.out] at he
        subst he
        have hX : Below w2.heap.size w2 w3 := nextX (by go_grown) hb
        replace b00 := cellB hX b00
        replace b01 := cellB hX b01
        replace b10 := cellB hX b10
        replace b11 := cellB hX b11
        replace r20 := slotB hX r20
        replace r21 := slotB hX r21
        replace r30 := slotB hX r30
        replace r31 := slotB hX r31
        have zb00 := Nat.lt_of_lt_of_le zb00 hX.size
        have zb10 := Nat.lt_of_lt_of_le zb10 hX.size
        have zr20 := Nat.lt_of_lt_of_le zr20 hX.size
        have zr30 := Nat.lt_of_lt_of_le zr30 hX.size
        replace hB := nextW hB hX
        clear hb hX
        obtain ⟨x0, s0⟩ := r20
        obtain ⟨x1, s1⟩ := r21
        obtain ⟨x2, s2⟩ := r30
        obtain ⟨x3, s3⟩ := r31
        go_wp2_with fail
        refine bodyPost_ret (v := .tuple #[.agg #[.int .i64 0, .int .i64 0], .agg #[.int .i64 0, .int .i64 0], .bool false]) (by simp [results, Try.results12, go_sem, x0, x1, x2, x3]) rfl ⟨rfl, ?_⟩
        go_grown
    · obtain ⟨ha, hbu, hle⟩ := okAB_parts hab
      simp only at ha hbu hle
      rcases hya : valQ ps (a1, a2) with ⟨⟨y1, y2⟩, ta⟩
      rcases hyb : valQ ps (b1, b2) with ⟨⟨z1, z2⟩, tb⟩
      rcases hS : imgS (y1, y2) (z1, z2) (imgL ps (a1, a2) (b1, b2)) with ⟨⟨p1, p2⟩, q1, q2⟩
      unfold imageQ imgN at hl
      rw [if_pos ⟨hm, hab⟩, hya, hyb] at hl
      simp only [hS] at hl
      have sa := Lib.hid (Sm.of_ok (unitQ_ok ha))
      have sb := Lib.hid (Sm.of_ok (unitQ_ok hbu))
      have HU := Lib.hid (show (unitQ a1 a2 && unitQ b1 b2) = true by rw [ha, hbu]; rfl)
      have HLe := Lib.hid hle
      have HA := Lib.hid ha
      have HBU := Lib.hid hbu
      have HYA := Lib.hid hya
      have HYB := Lib.hid hyb
      have HSS := Lib.hid hS
      clear hv hm hab ha hbu hle hya hyb hS
      rcases ta with _ | _
      · rw [if_neg (by simp)] at hl
        simp only [Prod.mk.injEq] at hl
        obtain ⟨rfl, rfl, rfl, rfl, rfl⟩ := hl
        go_enter Try.func12, Try.ntmps12
        go_wp2_with fail
        refine (isMap_is ps v true _ (HV.out.keep (by go_grown)) hn HM.out).mono ?_
        rintro e w1 ⟨rfl, hb⟩
        have hX : Below w.heap.size w w1 := nextX (by go_grown) hb
        have b00 : w1.cell? ⟨w.heap.size, 0, none⟩ = some (.int .i64 a1) := cellB hb (by simp [go_sem])
        have b01 : w1.cell? ⟨w.heap.size, 1, none⟩ = some (.int .i64 a2) := cellB hb (by simp [go_sem])
        have b10 : w1.cell? ⟨w.heap.size + 1, 0, none⟩ = some (.int .i64 b1) := cellB hb (by simp [go_sem])
        have b11 : w1.cell? ⟨w.heap.size + 1, 1, none⟩ = some (.int .i64 b2) := cellB hb (by simp [go_sem])
        have r20 : Slot w1 (w.heap.size + 2) 0 (.int .i64 0) := slotB hb ⟨by simp [go_sem], by simp [go_sem]⟩
        have r21 : Slot w1 (w.heap.size + 2) 1 (.int .i64 0) := slotB hb ⟨by simp [go_sem], by simp [go_sem]⟩
        have r30 : Slot w1 (w.heap.size + 3) 0 (.int .i64 0) := slotB hb ⟨by simp [go_sem], by simp [go_sem]⟩
        have r31 : Slot w1 (w.heap.size + 3) 1 (.int .i64 0) := slotB hb ⟨by simp [go_sem], by simp [go_sem]⟩
        have zb00 := lt_of_cell b00
        have zb10 := lt_of_cell b10
        have zr20 := lt_of_cell r20.1
        have zr30 := lt_of_cell r30.1
        have hB : Below w.heap.size w w1 := hX
        clear hb hX
        go_wp2_with fail
        refine (areUnits_is [(a1, a2), (b1, b2)] _ true _ (RdQ.two (by simp) (by simp [go_sem]) (by simp [go_sem]) (by simp [go_sem]) (by simp [go_sem])) (by simp only [List.all_cons, List.all_nil, Bool.and_true]; exact HU.out)).mono ?_
        rintro e w2 ⟨rfl, hb⟩
        have hX : Below w1.heap.size w1 w2 := nextX (by go_grown) hb
        replace b00 := cellB hX b00
        replace b01 := cellB hX b01
        replace b10 := cellB hX b10
        replace b11 := cellB hX b11
        replace r20 := slotB hX r20
        replace r21 := slotB hX r21
        replace r30 := slotB hX r30
        replace r31 := slotB hX r31
        have zb00 := Nat.lt_of_lt_of_le zb00 hX.size
        have zb10 := Nat.lt_of_lt_of_le zb10 hX.size
        have zr20 := Nat.lt_of_lt_of_le zr20 hX.size
        have zr30 := Nat.lt_of_lt_of_le zr30 hX.size
        replace hB := nextW hB hX
        clear hb hX
        go_wp2_with fail
        refine (less_any b1 b2 a1 a2 sb.out.1 sb.out.2 sa.out.1 sa.out.2 _).mono ?_
        rintro e w3 ⟨he, hb⟩
        rw [HLe.out] at he
        subst he
        have hX : Below w2.heap.size w2 w3 := nextX (by go_grown) hb
        replace b00 := cellB hX b00
        replace b01 := cellB hX b01
        replace b10 := cellB hX b10
        replace b11 := cellB hX b11
        replace r20 := slotB hX r20
        replace r21 := slotB hX r21
        replace r30 := slotB hX r30
        replace r31 := slotB hX r31
        have zb00 := Nat.lt_of_lt_of_le zb00 hX.size
        have zb10 := Nat.lt_of_lt_of_le zb10 hX.size
        have zr20 := Nat.lt_of_lt_of_le zr20 hX.size
        have zr30 := Nat.lt_of_lt_of_le zr30 hX.size
        replace hB := nextW hB hX
        clear hb hX
        go_wp2_with fail
        have hz3 := hB.size
        refine (image_is ps _ a1 a2 b1 b2 y1 y2 z1 z2 p1 p2 q1 q2 _ _ false true true w3.heap.size _ ⟨by simp [go_sem], by simp [go_sem]⟩ (HV.out.keep (nextX hB (by go_grown))) (HV.out.old (okMap_ne HM.out) hz3) HM.out HA.out HBU.out HYA.out HYB.out rfl rfl HSS.out).mono ?_
        rintro e w4 ⟨rfl, g4, k4⟩
        obtain ⟨x0, s0⟩ := slotU k4 (by omega) (slotA _ r20)
        obtain ⟨x1, s1⟩ := slotU k4 (by omega) (slotA _ r21)
        obtain ⟨x2, s2⟩ := slotU k4 (by omega) (slotA _ r30)
        obtain ⟨x3, s3⟩ := slotU k4 (by omega) (slotA _ r31)
        replace hB := But.below (B := w.heap.size) (w0 := w) (by go_grown) k4 (by omega) (by go_size)
        obtain ⟨g40, g41⟩ := g4
        have zg := lt_of_cell g40
        have zq0 := lt_of_cell x0
        have zq2 := lt_of_cell x2
        have zq1 : w.heap.size + 1 < w4.heap.size := by omega
        clear k4 r20 r21 r30 r31 b00 b01 b10 b11
        go_wp2_with fail
        refine bodyPost_ret (v := .tuple #[.agg #[.int .i64 0, .int .i64 0], .agg #[.int .i64 0, .int .i64 0], .bool false]) (by simp [results, Try.results12, go_sem, x0, x1, x2, x3, zq0, zq1, zq2]) rfl ⟨rfl, ?_⟩
        go_grown
      · rcases tb with _ | _
        · rw [if_neg (by simp)] at hl
          simp only [Prod.mk.injEq] at hl
          obtain ⟨rfl, rfl, rfl, rfl, rfl⟩ := hl
          go_enter Try.func12, Try.ntmps12
          go_wp2_with fail
          refine (isMap_is ps v true _ (HV.out.keep (by go_grown)) hn HM.out).mono ?_
          rintro e w1 ⟨rfl, hb⟩
          have hX : Below w.heap.size w w1 := nextX (by go_grown) hb
          have b00 : w1.cell? ⟨w.heap.size, 0, none⟩ = some (.int .i64 a1) := cellB hb (by simp [go_sem])
          have b01 : w1.cell? ⟨w.heap.size, 1, none⟩ = some (.int .i64 a2) := cellB hb (by simp [go_sem])
          have b10 : w1.cell? ⟨w.heap.size + 1, 0, none⟩ = some (.int .i64 b1) := cellB hb (by simp [go_sem])
          have b11 : w1.cell? ⟨w.heap.size + 1, 1, none⟩ = some (.int .i64 b2) := cellB hb (by simp [go_sem])
          have r20 : Slot w1 (w.heap.size + 2) 0 (.int .i64 0) := slotB hb ⟨by simp [go_sem], by simp [go_sem]⟩
          have r21 : Slot w1 (w.heap.size + 2) 1 (.int .i64 0) := slotB hb ⟨by simp [go_sem], by simp [go_sem]⟩
          have r30 : Slot w1 (w.heap.size + 3) 0 (.int .i64 0) := slotB hb ⟨by simp [go_sem], by simp [go_sem]⟩
          have r31 : Slot w1 (w.heap.size + 3) 1 (.int .i64 0) := slotB hb ⟨by simp [go_sem], by simp [go_sem]⟩
          have zb00 := lt_of_cell b00
          have zb10 := lt_of_cell b10
          have zr20 := lt_of_cell r20.1
          have zr30 := lt_of_cell r30.1
          have hB : Below w.heap.size w w1 := hX
          clear hb hX
          go_wp2_with fail
          refine (areUnits_is [(a1, a2), (b1, b2)] _ true _ (RdQ.two (by simp) (by simp [go_sem]) (by simp [go_sem]) (by simp [go_sem]) (by simp [go_sem])) (by simp only [List.all_cons, List.all_nil, Bool.and_true]; exact HU.out)).mono ?_
          rintro e w2 ⟨rfl, hb⟩
          have hX : Below w1.heap.size w1 w2 := nextX (by go_grown) hb
          replace b00 := cellB hX b00
          replace b01 := cellB hX b01
          replace b10 := cellB hX b10
          replace b11 := cellB hX b11
          replace r20 := slotB hX r20
          replace r21 := slotB hX r21
          replace r30 := slotB hX r30
          replace r31 := slotB hX r31
          have zb00 := Nat.lt_of_lt_of_le zb00 hX.size
          have zb10 := Nat.lt_of_lt_of_le zb10 hX.size
          have zr20 := Nat.lt_of_lt_of_le zr20 hX.size
          have zr30 := Nat.lt_of_lt_of_le zr30 hX.size
          replace hB := nextW hB hX
          clear hb hX
          go_wp2_with fail
          refine (less_any b1 b2 a1 a2 sb.out.1 sb.out.2 sa.out.1 sa.out.2 _).mono ?_
          rintro e w3 ⟨he, hb⟩
          rw [HLe.out] at he
          subst he
          have hX : Below w2.heap.size w2 w3 := nextX (by go_grown) hb
          replace b00 := cellB hX b00
          replace b01 := cellB hX b01
          replace b10 := cellB hX b10
          replace b11 := cellB hX b11
          replace r20 := slotB hX r20
          replace r21 := slotB hX r21
          replace r30 := slotB hX r30
          replace r31 := slotB hX r31
          have zb00 := Nat.lt_of_lt_of_le zb00 hX.size
          have zb10 := Nat.lt_of_lt_of_le zb10 hX.size
          have zr20 := Nat.lt_of_lt_of_le zr20 hX.size
          have zr30 := Nat.lt_of_lt_of_le zr30 hX.size
          replace hB := nextW hB hX
          clear hb hX
          go_wp2_with fail
          have hz3 := hB.size
          refine (image_is ps _ a1 a2 b1 b2 y1 y2 z1 z2 p1 p2 q1 q2 _ _ false false true w3.heap.size _ ⟨by simp [go_sem], by simp [go_sem]⟩ (HV.out.keep (nextX hB (by go_grown))) (HV.out.old (okMap_ne HM.out) hz3) HM.out HA.out HBU.out HYA.out HYB.out rfl rfl HSS.out).mono ?_
          rintro e w4 ⟨rfl, g4, k4⟩
          obtain ⟨x0, s0⟩ := slotU k4 (by omega) (slotA _ r20)
          obtain ⟨x1, s1⟩ := slotU k4 (by omega) (slotA _ r21)
          obtain ⟨x2, s2⟩ := slotU k4 (by omega) (slotA _ r30)
          obtain ⟨x3, s3⟩ := slotU k4 (by omega) (slotA _ r31)
          replace hB := But.below (B := w.heap.size) (w0 := w) (by go_grown) k4 (by omega) (by go_size)
          obtain ⟨g40, g41⟩ := g4
          have zg := lt_of_cell g40
          have zq0 := lt_of_cell x0
          have zq2 := lt_of_cell x2
          have zq1 : w.heap.size + 1 < w4.heap.size := by omega
          clear k4 r20 r21 r30 r31 b00 b01 b10 b11
          go_wp2_with fail
          refine bodyPost_ret (v := .tuple #[.agg #[.int .i64 0, .int .i64 0], .agg #[.int .i64 0, .int .i64 0], .bool false]) (by simp [results, Try.results12, go_sem, x0, x1, x2, x3, zq0, zq1, zq2]) rfl ⟨rfl, ?_⟩
          go_grown
        · rw [if_pos (by simp)] at hl
          simp only [Prod.mk.injEq] at hl
          obtain ⟨rfl, rfl, rfl, rfl, rfl⟩ := hl
          go_enter Try.func12, Try.ntmps12
          go_wp2_with fail
          refine (isMap_is ps v true _ (HV.out.keep (by go_grown)) hn HM.out).mono ?_
          rintro e w1 ⟨rfl, hb⟩
          have hX : Below w.heap.size w w1 := nextX (by go_grown) hb
          have b00 : w1.cell? ⟨w.heap.size, 0, none⟩ = some (.int .i64 a1) := cellB hb (by simp [go_sem])
          have b01 : w1.cell? ⟨w.heap.size, 1, none⟩ = some (.int .i64 a2) := cellB hb (by simp [go_sem])
          have b10 : w1.cell? ⟨w.heap.size + 1, 0, none⟩ = some (.int .i64 b1) := cellB hb (by simp [go_sem])
          have b11 : w1.cell? ⟨w.heap.size + 1, 1, none⟩ = some (.int .i64 b2) := cellB hb (by simp [go_sem])
          have r20 : Slot w1 (w.heap.size + 2) 0 (.int .i64 0) := slotB hb ⟨by simp [go_sem], by simp [go_sem]⟩
          have r21 : Slot w1 (w.heap.size + 2) 1 (.int .i64 0) := slotB hb ⟨by simp [go_sem], by simp [go_sem]⟩
          have r30 : Slot w1 (w.heap.size + 3) 0 (.int .i64 0) := slotB hb ⟨by simp [go_sem], by simp [go_sem]⟩
          have r31 : Slot w1 (w.heap.size + 3) 1 (.int .i64 0) := slotB hb ⟨by simp [go_sem], by simp [go_sem]⟩
          have zb00 := lt_of_cell b00
          have zb10 := lt_of_cell b10
          have zr20 := lt_of_cell r20.1
          have zr30 := lt_of_cell r30.1
          have hB : Below w.heap.size w w1 := hX
          clear hb hX
          go_wp2_with fail
          refine (areUnits_is [(a1, a2), (b1, b2)] _ true _ (RdQ.two (by simp) (by simp [go_sem]) (by simp [go_sem]) (by simp [go_sem]) (by simp [go_sem])) (by simp only [List.all_cons, List.all_nil, Bool.and_true]; exact HU.out)).mono ?_
          rintro e w2 ⟨rfl, hb⟩
          have hX : Below w1.heap.size w1 w2 := nextX (by go_grown) hb
          replace b00 := cellB hX b00
          replace b01 := cellB hX b01
          replace b10 := cellB hX b10
          replace b11 := cellB hX b11
          replace r20 := slotB hX r20
          replace r21 := slotB hX r21
          replace r30 := slotB hX r30
          replace r31 := slotB hX r31
          have zb00 := Nat.lt_of_lt_of_le zb00 hX.size
          have zb10 := Nat.lt_of_lt_of_le zb10 hX.size
          have zr20 := Nat.lt_of_lt_of_le zr20 hX.size
          have zr30 := Nat.lt_of_lt_of_le zr30 hX.size
          replace hB := nextW hB hX
          clear hb hX
          go_wp2_with fail
          refine (less_any b1 b2 a1 a2 sb.out.1 sb.out.2 sa.out.1 sa.out.2 _).mono ?_
          rintro e w3 ⟨he, hb⟩
          rw [HLe.out] at he
          subst he
          have hX : Below w2.heap.size w2 w3 := nextX (by go_grown) hb
          replace b00 := cellB hX b00
          replace b01 := cellB hX b01
          replace b10 := cellB hX b10
          replace b11 := cellB hX b11
          replace r20 := slotB hX r20
          replace r21 := slotB hX r21
          replace r30 := slotB hX r30
          replace r31 := slotB hX r31
          have zb00 := Nat.lt_of_lt_of_le zb00 hX.size
          have zb10 := Nat.lt_of_lt_of_le zb10 hX.size
          have zr20 := Nat.lt_of_lt_of_le zr20 hX.size
          have zr30 := Nat.lt_of_lt_of_le zr30 hX.size
          replace hB := nextW hB hX
          clear hb hX
          go_wp2_with fail
          have hz3 := hB.size
          refine (image_is ps _ a1 a2 b1 b2 y1 y2 z1 z2 p1 p2 q1 q2 _ _ false false false w3.heap.size _ ⟨by simp [go_sem], by simp [go_sem]⟩ (HV.out.keep (nextX hB (by go_grown))) (HV.out.old (okMap_ne HM.out) hz3) HM.out HA.out HBU.out HYA.out HYB.out rfl rfl HSS.out).mono ?_
          rintro e w4 ⟨rfl, g4, k4⟩
          obtain ⟨x0, s0⟩ := slotU k4 (by omega) (slotA _ r20)
          obtain ⟨x1, s1⟩ := slotU k4 (by omega) (slotA _ r21)
          obtain ⟨x2, s2⟩ := slotU k4 (by omega) (slotA _ r30)
          obtain ⟨x3, s3⟩ := slotU k4 (by omega) (slotA _ r31)
          replace hB := But.below (B := w.heap.size) (w0 := w) (by go_grown) k4 (by omega) (by go_size)
          obtain ⟨g40, g41⟩ := g4
          have zg := lt_of_cell g40
          have zq0 := lt_of_cell x0
          have zq2 := lt_of_cell x2
          have zq1 : w.heap.size + 1 < w4.heap.size := by omega
          clear k4 r20 r21 r30 r31 b00 b01 b10 b11
          go_wp2_with fail
          go_name_world W hW
          have hWB : Below w4.heap.size w4 W := by rw [← hW]; go_grown
          have f0 : W.cell? ⟨w4.heap.size, 0, none⟩ = some (.int .i64 p1) := by rw [← hW]; simp [go_sem]
          have f1 : W.cell? ⟨w4.heap.size, 1, none⟩ = some (.int .i64 p2) := by rw [← hW]; simp [go_sem]
          have f2 : W.cell? ⟨w4.heap.size + 1, 0, none⟩ = some (.int .i64 q1) := by rw [← hW]; simp [go_sem]
          have f3 : W.cell? ⟨w4.heap.size + 1, 1, none⟩ = some (.int .i64 q2) := by rw [← hW]; simp [go_sem]
          obtain ⟨x0, s0⟩ := slotB hWB ⟨x0, s0⟩
          obtain ⟨x1, s1⟩ := slotB hWB ⟨x1, s1⟩
          obtain ⟨x2, s2⟩ := slotB hWB ⟨x2, s2⟩
          obtain ⟨x3, s3⟩ := slotB hWB ⟨x3, s3⟩
          replace hB := nextW hB hWB
          have n1 : ¬ w.heap.size + 1 = w4.heap.size := by omega
          have n2 : ¬ w4.heap.size = w.heap.size + 1 := by omega
          clear hW hWB g40 g41 zg zq0 zq2
          go_region
          all_goals
            go_wp2_with fail
            refine bodyPost_ret (v := .tuple #[.agg #[.int .i64 p1, .int .i64 p2], .agg #[.int .i64 q1, .int .i64 q2], .bool true]) (by simp [results, Try.results12, go_sem, x0, x1, x2, x3]) rfl ⟨rfl, ?_⟩
            go_grown

set_option maxHeartbeats 1600000 in
theorem sImageOf_is (ps : List Pt) (v : Value) (a1 a2 b1 b2 k1 k2 k3 k4 : Int) (t : Bool) (hl : imageQ ps (a1, a2) (b1, b2) = (k1, k2, k3, k4, t)) (w : World) (hv : RdP w v ps) (hn : ps.length ≤ 1048576) :
    Calls Try.prog 13 #[v, .agg #[.int .i64 a1, .int .i64 a2], .agg #[.int .i64 b1, .int .i64 b2]] w fun e w' => e = .returned (.tuple #[.agg #[.int .i64 k1, .int .i64 k2], .agg #[.int .i64 k3, .int .i64 k4], .bool t]) ∧ Below w.heap.size w w' := by
  have HV := Lib.hid hv
  rcases ht : (okMap ps && okAB (a1, a2) (b1, b2)) with _ | _
  · obtain ⟨rfl, rfl, rfl, rfl, rfl⟩ : 0 = k1 ∧ 0 = k2 ∧ 0 = k3 ∧ 0 = k4 ∧ false = t := by
      unfold imageQ at hl
      rw [if_neg (by rw [← Bool.and_eq_true, ht]; simp)] at hl
      simpa only [Prod.mk.injEq] using hl
    have HT := Lib.hid ht
    clear hv hl ht
    go_enter Try.func13, Try.ntmps13
    go_wp2_with fail
    refine (imTwo_is ps v a1 a2 b1 b2 false _ (HV.out.keep (by go_grown)) hn HT.out).mono ?_
    rintro e w1 ⟨rfl, hb⟩
    have hX : Below w.heap.size w w1 := nextX (by go_grown) hb
    have b00 : w1.cell? ⟨w.heap.size, 0, none⟩ = some (.int .i64 a1) := cellB hb (by simp [go_sem])
    have b01 : w1.cell? ⟨w.heap.size, 1, none⟩ = some (.int .i64 a2) := cellB hb (by simp [go_sem])
    have b10 : w1.cell? ⟨w.heap.size + 1, 0, none⟩ = some (.int .i64 b1) := cellB hb (by simp [go_sem])
    have b11 : w1.cell? ⟨w.heap.size + 1, 1, none⟩ = some (.int .i64 b2) := cellB hb (by simp [go_sem])
    have r20 : Slot w1 (w.heap.size + 2) 0 (.int .i64 0) := slotB hb ⟨by simp [go_sem], by simp [go_sem]⟩
    have r21 : Slot w1 (w.heap.size + 2) 1 (.int .i64 0) := slotB hb ⟨by simp [go_sem], by simp [go_sem]⟩
    have r30 : Slot w1 (w.heap.size + 3) 0 (.int .i64 0) := slotB hb ⟨by simp [go_sem], by simp [go_sem]⟩
    have r31 : Slot w1 (w.heap.size + 3) 1 (.int .i64 0) := slotB hb ⟨by simp [go_sem], by simp [go_sem]⟩
    have zb00 := lt_of_cell b00
    have zb10 := lt_of_cell b10
    have zr20 := lt_of_cell r20.1
    have zr30 := lt_of_cell r30.1
    have hB : Below w.heap.size w w1 := hX
    clear hb hX
    obtain ⟨x0, s0⟩ := r20
    obtain ⟨x1, s1⟩ := r21
    obtain ⟨x2, s2⟩ := r30
    obtain ⟨x3, s3⟩ := r31
    go_wp2_with fail
    refine bodyPost_ret (v := .tuple #[.agg #[.int .i64 0, .int .i64 0], .agg #[.int .i64 0, .int .i64 0], .bool false]) (by simp [results, Try.results13, go_sem, x0, x1, x2, x3]) rfl ⟨rfl, ?_⟩
    go_grown
  · have HT := Lib.hid ht
    rw [Bool.and_eq_true] at ht
    have hq : imgN ps (a1, a2) (b1, b2) = (k1, k2, k3, k4, t) := by unfold imageQ at hl; rw [if_pos ht] at hl; exact hl
    obtain ⟨ha, hbu, -⟩ := okAB_parts ht.2
    have HM := Lib.hid ht.1
    have HA := Lib.hid ha
    have HBU := Lib.hid hbu
    have HQ := Lib.hid hq
    clear hv hl ht ha hbu hq
    go_enter Try.func13, Try.ntmps13
    go_wp2_with fail
    refine (imTwo_is ps v a1 a2 b1 b2 true _ (HV.out.keep (by go_grown)) hn HT.out).mono ?_
    rintro e w1 ⟨rfl, hb⟩
    have hX : Below w.heap.size w w1 := nextX (by go_grown) hb
    have b00 : w1.cell? ⟨w.heap.size, 0, none⟩ = some (.int .i64 a1) := cellB hb (by simp [go_sem])
    have b01 : w1.cell? ⟨w.heap.size, 1, none⟩ = some (.int .i64 a2) := cellB hb (by simp [go_sem])
    have b10 : w1.cell? ⟨w.heap.size + 1, 0, none⟩ = some (.int .i64 b1) := cellB hb (by simp [go_sem])
    have b11 : w1.cell? ⟨w.heap.size + 1, 1, none⟩ = some (.int .i64 b2) := cellB hb (by simp [go_sem])
    have r20 : Slot w1 (w.heap.size + 2) 0 (.int .i64 0) := slotB hb ⟨by simp [go_sem], by simp [go_sem]⟩
    have r21 : Slot w1 (w.heap.size + 2) 1 (.int .i64 0) := slotB hb ⟨by simp [go_sem], by simp [go_sem]⟩
    have r30 : Slot w1 (w.heap.size + 3) 0 (.int .i64 0) := slotB hb ⟨by simp [go_sem], by simp [go_sem]⟩
    have r31 : Slot w1 (w.heap.size + 3) 1 (.int .i64 0) := slotB hb ⟨by simp [go_sem], by simp [go_sem]⟩
    have zb00 := lt_of_cell b00
    have zb10 := lt_of_cell b10
    have zr20 := lt_of_cell r20.1
    have zr30 := lt_of_cell r30.1
    have hB : Below w.heap.size w w1 := hX
    clear hb hX
    go_wp2_with fail
    refine (imImage_is ps v a1 a2 b1 b2 k1 k2 k3 k4 t HQ.out _ (HV.out.keep (nextX hB (by go_grown))) HM.out HA.out HBU.out).mono ?_
    rintro e w2 ⟨rfl, hb⟩
    have hX : Below w1.heap.size w1 w2 := nextX (by go_grown) hb
    replace b00 := cellB hX b00
    replace b01 := cellB hX b01
    replace b10 := cellB hX b10
    replace b11 := cellB hX b11
    replace r20 := slotB hX r20
    replace r21 := slotB hX r21
    replace r30 := slotB hX r30
    replace r31 := slotB hX r31
    have zb00 := Nat.lt_of_lt_of_le zb00 hX.size
    have zb10 := Nat.lt_of_lt_of_le zb10 hX.size
    have zr20 := Nat.lt_of_lt_of_le zr20 hX.size
    have zr30 := Nat.lt_of_lt_of_le zr30 hX.size
    replace hB := nextW hB hX
    clear hb hX
    obtain ⟨x0, s0⟩ := r20
    obtain ⟨x1, s1⟩ := r21
    obtain ⟨x2, s2⟩ := r30
    obtain ⟨x3, s3⟩ := r31
    go_wp2_with fail
    refine bodyPost_ret (v := .tuple #[.agg #[.int .i64 k1, .int .i64 k2], .agg #[.int .i64 k3, .int .i64 k4], .bool t]) (by simp [results, Try.results13, go_sem, x0, x1, x2, x3]) rfl ⟨rfl, ?_⟩
    go_grown

end Go.Proofs.Ytkeajfgcjmhmiaa
