/- image of a map, the reference's. -/
import Derived.Test.YtkeajfgcjmhmiaaImgB
namespace Go.Proofs.Ytkeajfgcjmhmiaa
open Go.RowKit

def imgN (ps : List Pt) (a b : Q) : Int × Int × Int × Int × Bool :=
  if (valQ ps a).2 = true ∧ (valQ ps b).2 = true then
    ((imgS (valQ ps a).1 (valQ ps b).1 (imgL ps a b)).1.1, (imgS (valQ ps a).1 (valQ ps b).1 (imgL ps a b)).1.2, (imgS (valQ ps a).1 (valQ ps b).1 (imgL ps a b)).2.1, (imgS (valQ ps a).1 (valQ ps b).1 (imgL ps a b)).2.2, true)
  else (0, 0, 0, 0, false)
def imageQ (ps : List Pt) (a b : Q) : Int × Int × Int × Int × Bool := if okMap ps = true ∧ okAB a b = true then imgN ps a b else (0, 0, 0, 0, false)
theorem slotL {B g o : Nat} {w w' : World} {v : Value} (hb : Below B w w') (hg : g < B) (h : Slot w g o v) : Slot w' g o v :=
  ⟨(hb.cell (p := ⟨g, o, none⟩) hg).trans h.1, (World.frozen?_of_block (hb.block g hg)).trans h.2⟩
theorem cellL {B g o : Nat} {w w' : World} {v : Value} (hb : Below B w w') (hg : g < B) (h : w.cell? ⟨g, o, none⟩ = some v) : w'.cell? ⟨g, o, none⟩ = some v := (hb.cell (p := ⟨g, o, none⟩) hg).trans h
theorem But2.onto {g h B : Nat} {w a b : World} (x : Below B w a) (y : But2 g h a b) (hB : B ≤ g) (hh : B ≤ h) (hs : B ≤ a.heap.size) : Below B w b :=
  x.trans ⟨y.os, y.tape, y.output, y.size, fun k hk => y.block k (by omega) (by omega) (by omega)⟩
theorem lessQ_of {n1 d1 n2 d2 y : Int} (h : cmpQ n1 d1 n2 d2 = y) : lessQ n1 d1 n2 d2 = decide (y < 0) := by rw [lessQ_cmp, h]

/-- A loop over points that lays fractions into a row of the call's own, from block B on. -/
def RelIq (F : Nat → List Q) (n B : Nat) (W0 : World) (out i : Value) (wr : World) : Prop :=
  ∃ k : Nat, k ≤ n ∧ i = .int .i64 k ∧ OwQ B 32 wr out (F k) ∧ Below B W0 wr

theorem cellS2 {X : World} {g b o : Nat} {v : Value} (h : X.cell? ⟨b, o, none⟩ = some v) {a c : Value} (hn : g ≠ b) : ((X.setCell ⟨g, 0, none⟩ a).setCell ⟨g, 1, none⟩ c).cell? ⟨b, o, none⟩ = some v := by
  rw [World.cell?_setCell_other _ _ _ _ (by intro e; cases e; exact hn rfl), World.cell?_setCell_other _ _ _ _ (by intro e; cases e; exact hn rfl)]; exact h

set_option maxRecDepth 100000 in
set_option maxHeartbeats 8000000 in
theorem imImage_is (ps : List Pt) (v : Value) (a1 a2 b1 b2 k1 k2 k3 k4 : Int) (t : Bool) (hq : imgN ps (a1, a2) (b1, b2) = (k1, k2, k3, k4, t)) (w : World) (hv : RdP w v ps) (hm : okMap ps = true) (ha : unitQ a1 a2 = true) (hb : unitQ b1 b2 = true) :
    Calls Try.prog 35 #[v, .agg #[.int .i64 a1, .int .i64 a2], .agg #[.int .i64 b1, .int .i64 b2]] w fun e w' => e = .returned (.tuple #[.agg #[.int .i64 k1, .int .i64 k2], .agg #[.int .i64 k3, .int .i64 k4], .bool t]) ∧ Below w.heap.size w w' := by
  have HV := Lib.hid hv
  rcases hya : valQ ps (a1, a2) with ⟨⟨y1, y2⟩, ta⟩
  rcases hyb : valQ ps (b1, b2) with ⟨⟨z1, z2⟩, tb⟩
  unfold imgN at hq
  rw [hya, hyb] at hq
  simp only at hq
  have yu : okQ y1 y2 = true := by have := valQ_unit (x := (a1, a2)) hm ha; rw [hya] at this; exact unitQ_ok this
  have zu : okQ z1 z2 = true := by have := valQ_unit (x := (b1, b2)) hm hb; rw [hyb] at this; exact unitQ_ok this
  have HOK := Lib.hid (fun k => imgS_ok (ya := (y1, y2)) (yb := (z1, z2)) yu zu (imgL_ok hm (a1, a2) (b1, b2) k))
  have HLO := Lib.hid (imgL_ok hm (a1, a2) (b1, b2) ps.length)
  have hlm := okMap_len hm
  obtain ⟨A, c, rfl, hl, hm9, hcell⟩ := hv
  unfold maxLen at hm9
  obtain ⟨g, o, rfl, hg, hc⟩ := hcell (by intro h; rw [h] at hlm; simp at hlm)
  have HC := Lib.hid hc
  have HM := Lib.hid hm
  have HA := Lib.hid ha
  have HB := Lib.hid hb
  have HYA := Lib.hid hya
  have HYB := Lib.hid hyb
  have SY := Lib.hid (Sm.of_ok yu)
  have SZ := Lib.hid (Sm.of_ok zu)
  have SA := Lib.hid (Sm.of_ok (unitQ_ok ha))
  have SB := Lib.hid (Sm.of_ok (unitQ_ok hb))
  have YU := Lib.hid yu
  have ZU := Lib.hid zu
  clear hcell hc hm ha hb hya hyb yu zu
  rcases ta with _ | _
  · rw [if_neg (by simp)] at hq
    simp only [Prod.mk.injEq] at hq
    obtain ⟨rfl, rfl, rfl, rfl, rfl⟩ := hq
    have HAT1 := Lib.hid (show atQ ps (a1, a2) = (0, 0, false) by unfold atQ; rw [HYA.out]; rfl)
    rcases tb with _ | _
    · have HAT2 := Lib.hid (show atQ ps (b1, b2) = (0, 0, false) by unfold atQ; rw [HYB.out]; rfl)
      go_enter Try.func35, Try.ntmps35
      go_wp2_with fail
      refine (imAt_is ps _ a1 a2 0 0 false _ (HV.out.keep (by go_grown)) HM.out HA.out HAT1.out).mono ?_
      rintro e w1 ⟨rfl, hb⟩
      have hX : Below w.heap.size w w1 := nextX (by go_grown) hb
      have b00 : w1.cell? ⟨w.heap.size, 0, none⟩ = some (.int .i64 a1) := cellB hb (by simp [go_sem])
      have b01 : w1.cell? ⟨w.heap.size, 1, none⟩ = some (.int .i64 a2) := cellB hb (by simp [go_sem])
      have b10 : w1.cell? ⟨w.heap.size + 1, 0, none⟩ = some (.int .i64 b1) := cellB hb (by simp [go_sem])
      have b11 : w1.cell? ⟨w.heap.size + 1, 1, none⟩ = some (.int .i64 b2) := cellB hb (by simp [go_sem])
      have r20 : Slot w1 (w.heap.size + 2) 0 (.int .i64 0) := slotB hb ⟨by simp [go_sem], by simp [go_sem]⟩
      have r21 : Slot w1 (w.heap.size + 2) 1 (.int .i64 0) := slotB hb ⟨by simp [go_sem], by simp [go_sem]⟩
      have r30 : Slot w1 (w.heap.size + 3) 0 (.int .i64 0) := slotB hb ⟨by simp [go_sem], by simp [go_sem]⟩
      have r31 : Slot w1 (w.heap.size + 3) 1 (.int .i64 0) := slotB hb ⟨by simp [go_sem], by simp [go_sem]⟩
      have zb00 := lt_of_cell b00
      have zb10 := lt_of_cell b10
      have zr20 := lt_of_cell r20.1
      have zr30 := lt_of_cell r30.1
      have hB : Below w.heap.size w w1 := hX
      clear hb hX
      go_wp2_with fail
      refine (imAt_is ps _ b1 b2 0 0 false _ (HV.out.keep (nextX hB (by go_grown))) HM.out HB.out HAT2.out).mono ?_
      rintro e w2 ⟨rfl, hb⟩
      have hX : Below w1.heap.size w1 w2 := nextX (by go_grown) hb
      replace b00 := cellB hX b00
      replace b01 := cellB hX b01
      replace b10 := cellB hX b10
      replace b11 := cellB hX b11
      replace r20 := slotB hX r20
      replace r21 := slotB hX r21
      replace r30 := slotB hX r30
      replace r31 := slotB hX r31
      have lo0 : Slot w2 (w1.heap.size) 0 (.int .i64 0) := slotB hb ⟨by simp [go_sem], by simp [go_sem]⟩
      have lo1 : Slot w2 (w1.heap.size) 1 (.int .i64 0) := slotB hb ⟨by simp [go_sem], by simp [go_sem]⟩
      have zlo0 := lt_of_cell lo0.1
      have zb00 := Nat.lt_of_lt_of_le zb00 hX.size
      have zb10 := Nat.lt_of_lt_of_le zb10 hX.size
      have zr20 := Nat.lt_of_lt_of_le zr20 hX.size
      have zr30 := Nat.lt_of_lt_of_le zr30 hX.size
      replace hB := nextW hB hX
      clear hb hX
      obtain ⟨q0, k0⟩ := r20
      obtain ⟨q1, k1⟩ := r21
      obtain ⟨q2, k2⟩ := r30
      obtain ⟨q3, k3⟩ := r31
      go_wp2_with fail
      refine bodyPost_ret (v := .tuple #[.agg #[.int .i64 0, .int .i64 0], .agg #[.int .i64 0, .int .i64 0], .bool false]) (by simp [results, Try.results35, go_sem, q0, q1, q2, q3, zr20, zr30]) rfl ⟨rfl, ?_⟩
      go_grown
    · have HAT2 := Lib.hid (show atQ ps (b1, b2) = (z1, z2, true) by unfold atQ; rw [HYB.out]; rfl)
      go_enter Try.func35, Try.ntmps35
      go_wp2_with fail
      refine (imAt_is ps _ a1 a2 0 0 false _ (HV.out.keep (by go_grown)) HM.out HA.out HAT1.out).mono ?_
      rintro e w1 ⟨rfl, hb⟩
      have hX : Below w.heap.size w w1 := nextX (by go_grown) hb
      have b00 : w1.cell? ⟨w.heap.size, 0, none⟩ = some (.int .i64 a1) := cellB hb (by simp [go_sem])
      have b01 : w1.cell? ⟨w.heap.size, 1, none⟩ = some (.int .i64 a2) := cellB hb (by simp [go_sem])
      have b10 : w1.cell? ⟨w.heap.size + 1, 0, none⟩ = some (.int .i64 b1) := cellB hb (by simp [go_sem])
      have b11 : w1.cell? ⟨w.heap.size + 1, 1, none⟩ = some (.int .i64 b2) := cellB hb (by simp [go_sem])
      have r20 : Slot w1 (w.heap.size + 2) 0 (.int .i64 0) := slotB hb ⟨by simp [go_sem], by simp [go_sem]⟩
      have r21 : Slot w1 (w.heap.size + 2) 1 (.int .i64 0) := slotB hb ⟨by simp [go_sem], by simp [go_sem]⟩
      have r30 : Slot w1 (w.heap.size + 3) 0 (.int .i64 0) := slotB hb ⟨by simp [go_sem], by simp [go_sem]⟩
      have r31 : Slot w1 (w.heap.size + 3) 1 (.int .i64 0) := slotB hb ⟨by simp [go_sem], by simp [go_sem]⟩
      have zb00 := lt_of_cell b00
      have zb10 := lt_of_cell b10
      have zr20 := lt_of_cell r20.1
      have zr30 := lt_of_cell r30.1
      have hB : Below w.heap.size w w1 := hX
      clear hb hX
      go_wp2_with fail
      refine (imAt_is ps _ b1 b2 z1 z2 true _ (HV.out.keep (nextX hB (by go_grown))) HM.out HB.out HAT2.out).mono ?_
      rintro e w2 ⟨rfl, hb⟩
      have hX : Below w1.heap.size w1 w2 := nextX (by go_grown) hb
      replace b00 := cellB hX b00
      replace b01 := cellB hX b01
      replace b10 := cellB hX b10
      replace b11 := cellB hX b11
      replace r20 := slotB hX r20
      replace r21 := slotB hX r21
      replace r30 := slotB hX r30
      replace r31 := slotB hX r31
      have lo0 : Slot w2 (w1.heap.size) 0 (.int .i64 0) := slotB hb ⟨by simp [go_sem], by simp [go_sem]⟩
      have lo1 : Slot w2 (w1.heap.size) 1 (.int .i64 0) := slotB hb ⟨by simp [go_sem], by simp [go_sem]⟩
      have zlo0 := lt_of_cell lo0.1
      have zb00 := Nat.lt_of_lt_of_le zb00 hX.size
      have zb10 := Nat.lt_of_lt_of_le zb10 hX.size
      have zr20 := Nat.lt_of_lt_of_le zr20 hX.size
      have zr30 := Nat.lt_of_lt_of_le zr30 hX.size
      replace hB := nextW hB hX
      clear hb hX
      obtain ⟨q0, k0⟩ := r20
      obtain ⟨q1, k1⟩ := r21
      obtain ⟨q2, k2⟩ := r30
      obtain ⟨q3, k3⟩ := r31
      go_wp2_with fail
      refine bodyPost_ret (v := .tuple #[.agg #[.int .i64 0, .int .i64 0], .agg #[.int .i64 0, .int .i64 0], .bool false]) (by simp [results, Try.results35, go_sem, q0, q1, q2, q3, zr20, zr30]) rfl ⟨rfl, ?_⟩
      go_grown
  · have HAT1 := Lib.hid (show atQ ps (a1, a2) = (y1, y2, true) by unfold atQ; rw [HYA.out]; rfl)
    rcases tb with _ | _
    · rw [if_neg (by simp)] at hq
      simp only [Prod.mk.injEq] at hq
      obtain ⟨rfl, rfl, rfl, rfl, rfl⟩ := hq
      have HAT2 := Lib.hid (show atQ ps (b1, b2) = (0, 0, false) by unfold atQ; rw [HYB.out]; rfl)
      go_enter Try.func35, Try.ntmps35
      go_wp2_with fail
      refine (imAt_is ps _ a1 a2 y1 y2 true _ (HV.out.keep (by go_grown)) HM.out HA.out HAT1.out).mono ?_
      rintro e w1 ⟨rfl, hb⟩
      have hX : Below w.heap.size w w1 := nextX (by go_grown) hb
      have b00 : w1.cell? ⟨w.heap.size, 0, none⟩ = some (.int .i64 a1) := cellB hb (by simp [go_sem])
      have b01 : w1.cell? ⟨w.heap.size, 1, none⟩ = some (.int .i64 a2) := cellB hb (by simp [go_sem])
      have b10 : w1.cell? ⟨w.heap.size + 1, 0, none⟩ = some (.int .i64 b1) := cellB hb (by simp [go_sem])
      have b11 : w1.cell? ⟨w.heap.size + 1, 1, none⟩ = some (.int .i64 b2) := cellB hb (by simp [go_sem])
      have r20 : Slot w1 (w.heap.size + 2) 0 (.int .i64 0) := slotB hb ⟨by simp [go_sem], by simp [go_sem]⟩
      have r21 : Slot w1 (w.heap.size + 2) 1 (.int .i64 0) := slotB hb ⟨by simp [go_sem], by simp [go_sem]⟩
      have r30 : Slot w1 (w.heap.size + 3) 0 (.int .i64 0) := slotB hb ⟨by simp [go_sem], by simp [go_sem]⟩
      have r31 : Slot w1 (w.heap.size + 3) 1 (.int .i64 0) := slotB hb ⟨by simp [go_sem], by simp [go_sem]⟩
      have zb00 := lt_of_cell b00
      have zb10 := lt_of_cell b10
      have zr20 := lt_of_cell r20.1
      have zr30 := lt_of_cell r30.1
      have hB : Below w.heap.size w w1 := hX
      clear hb hX
      go_wp2_with fail
      refine (imAt_is ps _ b1 b2 0 0 false _ (HV.out.keep (nextX hB (by go_grown))) HM.out HB.out HAT2.out).mono ?_
      rintro e w2 ⟨rfl, hb⟩
      have hX : Below w1.heap.size w1 w2 := nextX (by go_grown) hb
      replace b00 := cellB hX b00
      replace b01 := cellB hX b01
      replace b10 := cellB hX b10
      replace b11 := cellB hX b11
      replace r20 := slotB hX r20
      replace r21 := slotB hX r21
      replace r30 := slotB hX r30
      replace r31 := slotB hX r31
      have lo0 : Slot w2 (w1.heap.size) 0 (.int .i64 y1) := slotB hb ⟨by simp [go_sem], by simp [go_sem]⟩
      have lo1 : Slot w2 (w1.heap.size) 1 (.int .i64 y2) := slotB hb ⟨by simp [go_sem], by simp [go_sem]⟩
      have zlo0 := lt_of_cell lo0.1
      have zb00 := Nat.lt_of_lt_of_le zb00 hX.size
      have zb10 := Nat.lt_of_lt_of_le zb10 hX.size
      have zr20 := Nat.lt_of_lt_of_le zr20 hX.size
      have zr30 := Nat.lt_of_lt_of_le zr30 hX.size
      replace hB := nextW hB hX
      clear hb hX
      obtain ⟨q0, k0⟩ := r20
      obtain ⟨q1, k1⟩ := r21
      obtain ⟨q2, k2⟩ := r30
      obtain ⟨q3, k3⟩ := r31
      go_wp2_with fail
      refine bodyPost_ret (v := .tuple #[.agg #[.int .i64 0, .int .i64 0], .agg #[.int .i64 0, .int .i64 0], .bool false]) (by simp [results, Try.results35, go_sem, q0, q1, q2, q3, zr20, zr30]) rfl ⟨rfl, ?_⟩
      go_grown
    · rw [if_pos (by simp)] at hq
      rcases hS : imgS (y1, y2) (z1, z2) (imgL ps (a1, a2) (b1, b2)) with ⟨⟨p1, p2⟩, q1, q2⟩
      rw [hS] at hq
      simp only [Prod.mk.injEq] at hq
      obtain ⟨rfl, rfl, rfl, rfl, rfl⟩ := hq
      have HSS := Lib.hid hS
      clear hS
      have HAT2 := Lib.hid (show atQ ps (b1, b2) = (z1, z2, true) by unfold atQ; rw [HYB.out]; rfl)
      go_enter Try.func35, Try.ntmps35
      go_wp2_with fail
      refine (imAt_is ps _ a1 a2 y1 y2 true _ (HV.out.keep (by go_grown)) HM.out HA.out HAT1.out).mono ?_
      rintro e w1 ⟨rfl, hb⟩
      have hX : Below w.heap.size w w1 := nextX (by go_grown) hb
      have b00 : w1.cell? ⟨w.heap.size, 0, none⟩ = some (.int .i64 a1) := cellB hb (by simp [go_sem])
      have b01 : w1.cell? ⟨w.heap.size, 1, none⟩ = some (.int .i64 a2) := cellB hb (by simp [go_sem])
      have b10 : w1.cell? ⟨w.heap.size + 1, 0, none⟩ = some (.int .i64 b1) := cellB hb (by simp [go_sem])
      have b11 : w1.cell? ⟨w.heap.size + 1, 1, none⟩ = some (.int .i64 b2) := cellB hb (by simp [go_sem])
      have r20 : Slot w1 (w.heap.size + 2) 0 (.int .i64 0) := slotB hb ⟨by simp [go_sem], by simp [go_sem]⟩
      have r21 : Slot w1 (w.heap.size + 2) 1 (.int .i64 0) := slotB hb ⟨by simp [go_sem], by simp [go_sem]⟩
      have r30 : Slot w1 (w.heap.size + 3) 0 (.int .i64 0) := slotB hb ⟨by simp [go_sem], by simp [go_sem]⟩
      have r31 : Slot w1 (w.heap.size + 3) 1 (.int .i64 0) := slotB hb ⟨by simp [go_sem], by simp [go_sem]⟩
      have zb00 := lt_of_cell b00
      have zb10 := lt_of_cell b10
      have zr20 := lt_of_cell r20.1
      have zr30 := lt_of_cell r30.1
      have hB : Below w.heap.size w w1 := hX
      clear hb hX
      go_wp2_with fail
      refine (imAt_is ps _ b1 b2 z1 z2 true _ (HV.out.keep (nextX hB (by go_grown))) HM.out HB.out HAT2.out).mono ?_
      rintro e w2 ⟨rfl, hb⟩
      have hX : Below w1.heap.size w1 w2 := nextX (by go_grown) hb
      replace b00 := cellB hX b00
      replace b01 := cellB hX b01
      replace b10 := cellB hX b10
      replace b11 := cellB hX b11
      replace r20 := slotB hX r20
      replace r21 := slotB hX r21
      replace r30 := slotB hX r30
      replace r31 := slotB hX r31
      have lo0 : Slot w2 (w1.heap.size) 0 (.int .i64 y1) := slotB hb ⟨by simp [go_sem], by simp [go_sem]⟩
      have lo1 : Slot w2 (w1.heap.size) 1 (.int .i64 y2) := slotB hb ⟨by simp [go_sem], by simp [go_sem]⟩
      have zlo0 := lt_of_cell lo0.1
      have zb00 := Nat.lt_of_lt_of_le zb00 hX.size
      have zb10 := Nat.lt_of_lt_of_le zb10 hX.size
      have zr20 := Nat.lt_of_lt_of_le zr20 hX.size
      have zr30 := Nat.lt_of_lt_of_le zr30 hX.size
      replace hB := nextW hB hX
      clear hb hX
      have m0 := lo0.1
      have m1 := lo1.1
      go_wp2_with fail
      clear m0 m1
      go_name_world W hW
      have hWB : Below w2.heap.size w2 W := by rw [← hW]; go_grown
      have hi0 : Slot W (w2.heap.size + 1) 0 (.int .i64 y1) := by rw [← hW]; exact ⟨by simp [go_sem], by simp [go_sem]⟩
      have hi1 : Slot W (w2.heap.size + 1) 1 (.int .i64 y2) := by rw [← hW]; exact ⟨by simp [go_sem], by simp [go_sem]⟩
      have hrow : OwQ (w2.heap.size + 2) 32 W (.slice (some ⟨w2.heap.size + 2, 0, none⟩) 1 1) [(z1, z2)] := by
        rw [← hW]
        have h1 := OwQ.one ((w2.alloc (.cells #[.int .i64 z1, .int .i64 z2] 32)).alloc (.cells #[.int .i64 y1, .int .i64 y2] 32)) (w2.heap.size + 2) 32 z1 z2 (by simp)
        simp only [World.size_alloc] at h1
        exact h1
      have hW3 : w2.heap.size + 3 ≤ W.heap.size := by rw [← hW]; simp
      replace b00 := cellB hWB b00
      replace b01 := cellB hWB b01
      replace b10 := cellB hWB b10
      replace b11 := cellB hWB b11
      replace r20 := slotB hWB r20
      replace r21 := slotB hWB r21
      replace r30 := slotB hWB r30
      replace r31 := slotB hWB r31
      replace lo0 := slotB hWB lo0
      replace lo1 := slotB hWB lo1
      have hz2 := hB.size
      have zw2 : w.heap.size + 3 < w2.heap.size := by first | exact zr30 | omega
      have zlo : w1.heap.size < w2.heap.size := by first | exact zlo0 | omega
      replace hB := nextW hB hWB
      have hzW := hWB.size
      skip
      have HRow := Lib.hid hrow
      have LO := Lib.hid (show BoxQ W w1.heap.size y1 y2 from ⟨lo0, lo1⟩)
      have HI := Lib.hid (show BoxQ W (w2.heap.size + 1) y1 y2 from ⟨hi0, hi1⟩)
      have R := Lib.hid (show (Slot W (w.heap.size + 2) 0 (.int .i64 0) ∧ Slot W (w.heap.size + 2) 1 (.int .i64 0)) ∧ Slot W (w.heap.size + 3) 0 (.int .i64 0) ∧ Slot W (w.heap.size + 3) 1 (.int .i64 0) from ⟨⟨r20, r21⟩, r30, r31⟩)
      clear hW hWB lo0 lo1 hi0 hi1 r20 r21 r30 r31 hrow
      go_loopw [14, 44] (fun out i wr => RelIq (fun k => (z1, z2) :: imgL (ps.take k) (a1, a2) (b1, b2)) ps.length (w2.heap.size + 2) W out i wr) (fun _ i _ => ps.length - (intOf i).toNat)
      case atStart => exact ⟨0, Nat.zero_le _, rfl, HRow.out, Below.refl _ _⟩
      case round =>
        obtain ⟨k, hk, rfl, hown, hb⟩ := hrel
        have HO := Lib.hid hown
        have hzr := hb.size
        clear hown
        have e00 := cellL hb (by omega) b00
        have e01 := cellL hb (by omega) b01
        have e10 := cellL hb (by omega) b10
        have e11 := cellL hb (by omega) b11
        have ze0 := lt_of_cell e00
        have ze := lt_of_cell e10
        have hBr : Below w.heap.size w wr := Below.trans hB (hb.mono (by omega))
        by_cases hlt : k < ps.length
        · have hp := List.getElem?_eq_getElem hlt
          obtain ⟨d0, d1, d2, d3⟩ := HC.out k _ hp
          generalize ps[k] = p at *
          obtain ⟨⟨u1, u2⟩, u3, u4⟩ := p
          simp only at d0 d1 d2 d3
          replace d0 := cellL hBr hg d0
          replace d1 := cellL hBr hg d1
          replace d2 := cellL hBr hg d2
          replace d3 := cellL hBr hg d3
          have HS4 := Lib.hid (coord4 (okMap_coord HM.out hp).1 (okMap_coord HM.out hp).2)
          have hmore := imgL_more (a := (a1, a2)) (b := (b1, b2)) hp
          clear hp
          obtain ⟨ya, hya⟩ : ∃ y, cmpQ a1 a2 u1 u2 = y := ⟨_, rfl⟩
          obtain ⟨yb, hyb⟩ : ∃ y, cmpQ u1 u2 b1 b2 = y := ⟨_, rfl⟩
          have HYa := Lib.hid hya
          have HYb := Lib.hid hyb
          have hda := lessQ_of hya
          have hdb := lessQ_of hyb
          clear hya hyb
          rcases h1a : lessQ a1 a2 u1 u2 with _ | _
          · rw [h1a] at hda
            have fya : decide (ya < (0 : Int)) = false := hda.symm
            have gya : (0 : Int) ≤ ya := by simpa using fya
            have HE := Lib.hid (show imgL (ps.take (k + 1)) (a1, a2) (b1, b2) = imgL (ps.take k) (a1, a2) (b1, b2) by rw [hmore, if_neg (by simp [inQ, h1a]), List.append_nil])
            clear h1a hmore hda hdb
            go_wp2_with fail
            refine (raCmp_is a1 a2 u1 u2 ya SA.out ⟨HS4.out.1, HS4.out.2.1⟩ HYa.out _).mono ?_
            rintro e w4 ⟨rfl, hx⟩
            have hX : Below wr.heap.size wr w4 := nextX (by go_grown) hx
            have hb4 : Below (w2.heap.size + 2) W w4 := Below.trans hb (hX.mono (by omega))
            have HO4 := Lib.hid (HO.out.keep hX)
            clear hx d0 d1 d2 d3 e00 e01 e10 e11
            go_wp2_with fail
            go_roundw
            case rel => exact ⟨k + 1, by omega, by go_num, by simp only; rw [HE.out]; exact HO4.out, hb4⟩
            case measure => simp [intOf]; omega
          · rcases h1b : lessQ u1 u2 b1 b2 with _ | _
            · rw [h1a] at hda
              have fya : decide (ya < (0 : Int)) = true := hda.symm
              have gya : ya < (0 : Int) := by simpa using fya
              rw [h1b] at hdb
              have fyb : decide (yb < (0 : Int)) = false := hdb.symm
              have gyb : (0 : Int) ≤ yb := by simpa using fyb
              have HE := Lib.hid (show imgL (ps.take (k + 1)) (a1, a2) (b1, b2) = imgL (ps.take k) (a1, a2) (b1, b2) by rw [hmore, if_neg (by simp [inQ, h1b]), List.append_nil])
              clear h1a h1b hmore hda hdb
              go_wp2_with fail
              refine (raCmp_is a1 a2 u1 u2 ya SA.out ⟨HS4.out.1, HS4.out.2.1⟩ HYa.out _).mono ?_
              rintro e w4 ⟨rfl, hx⟩
              have hX : Below wr.heap.size wr w4 := nextX (by go_grown) hx
              have f0 : w4.cell? ⟨wr.heap.size, 0, none⟩ = some (.int .i64 u1) := cellB hx (by simp [go_sem])
              have f1 : w4.cell? ⟨wr.heap.size, 1, none⟩ = some (.int .i64 u2) := cellB hx (by simp [go_sem])
              have f2 : w4.cell? ⟨wr.heap.size, 2, none⟩ = some (.int .i64 u3) := cellB hx (by simp [go_sem])
              have f3 : w4.cell? ⟨wr.heap.size, 3, none⟩ = some (.int .i64 u4) := cellB hx (by simp [go_sem])
              replace e10 := cellB hX e10
              replace e11 := cellB hX e11
              have zf := lt_of_cell f0
              have hb4 : Below (w2.heap.size + 2) W w4 := Below.trans hb (hX.mono (by omega))
              have HO4 := Lib.hid (HO.out.keep hX)
              have hz4 := hX.size
              clear hx hX d0 d1 d2 d3 e00 e01
              go_wp2_with fail
              refine (raCmp_is u1 u2 b1 b2 yb ⟨HS4.out.1, HS4.out.2.1⟩ SB.out HYb.out _).mono ?_
              rintro e w5 ⟨rfl, hx⟩
              have hX : Below w4.heap.size w4 w5 := nextX (by go_grown) hx
              have hb5 : Below (w2.heap.size + 2) W w5 := Below.trans hb4 (hX.mono (by omega))
              have HO5 := Lib.hid (HO4.out.keep hX)
              have hz5 := hX.size
              clear hx hX f0 f1 f2 f3 e10 e11
              go_wp2_with fail
              go_roundw
              case rel => exact ⟨k + 1, by omega, by go_num, by simp only; rw [HE.out]; exact HO5.out, hb5⟩
              case measure => simp [intOf]; omega
            · rw [h1a] at hda
              have fya : decide (ya < (0 : Int)) = true := hda.symm
              have gya : ya < (0 : Int) := by simpa using fya
              rw [h1b] at hdb
              have fyb : decide (yb < (0 : Int)) = true := hdb.symm
              have gyb : yb < (0 : Int) := by simpa using fyb
              have HE := Lib.hid (show (z1, z2) :: imgL (ps.take (k + 1)) (a1, a2) (b1, b2) = ((z1, z2) :: imgL (ps.take k) (a1, a2) (b1, b2)) ++ [(u3, u4)] by rw [hmore, if_pos (by simp [inQ, h1a, h1b])]; rfl)
              clear h1a h1b hmore hda hdb
              go_wp2_with fail
              refine (raCmp_is a1 a2 u1 u2 ya SA.out ⟨HS4.out.1, HS4.out.2.1⟩ HYa.out _).mono ?_
              rintro e w4 ⟨rfl, hx⟩
              have hX : Below wr.heap.size wr w4 := nextX (by go_grown) hx
              have f0 : w4.cell? ⟨wr.heap.size, 0, none⟩ = some (.int .i64 u1) := cellB hx (by simp [go_sem])
              have f1 : w4.cell? ⟨wr.heap.size, 1, none⟩ = some (.int .i64 u2) := cellB hx (by simp [go_sem])
              have f2 : w4.cell? ⟨wr.heap.size, 2, none⟩ = some (.int .i64 u3) := cellB hx (by simp [go_sem])
              have f3 : w4.cell? ⟨wr.heap.size, 3, none⟩ = some (.int .i64 u4) := cellB hx (by simp [go_sem])
              replace e10 := cellB hX e10
              replace e11 := cellB hX e11
              have zf := lt_of_cell f0
              have hb4 : Below (w2.heap.size + 2) W w4 := Below.trans hb (hX.mono (by omega))
              have HO4 := Lib.hid (HO.out.keep hX)
              have hz4 := hX.size
              clear hx hX d0 d1 d2 d3 e00 e01
              go_wp2_with fail
              refine (raCmp_is u1 u2 b1 b2 yb ⟨HS4.out.1, HS4.out.2.1⟩ SB.out HYb.out _).mono ?_
              rintro e w5 ⟨rfl, hx⟩
              have hX : Below w4.heap.size w4 w5 := nextX (by go_grown) hx
              have hb5 : Below (w2.heap.size + 2) W w5 := Below.trans hb4 (hX.mono (by omega))
              have HO5 := Lib.hid (HO4.out.keep hX)
              have hz5 := hX.size
              replace f0 := cellB hX f0
              replace f1 := cellB hX f1
              replace f2 := cellB hX f2
              replace f3 := cellB hX f3
              clear hx hX e10 e11
              go_wp2_with (at_builtin; refine append_q1 _ rfl _ _ rfl (w2.heap.size + 2) _ ((z1, z2) :: imgL (ps.take k) (a1, a2) (b1, b2)) rfl ?own1 _ _ u3 u4 rfl ?c01 ?c11 ?len1 ?base1 ?_)
              case own1 => exact (HO5.out.keep (by go_grown))
              case c01 => simp [go_sem]
              case c11 => simp [go_sem]
              case len1 => have h1 := imgL_len (ps.take k) (a1, a2) (b1, b2); have h2 := List.length_take_le k ps; simp only [List.length_cons]; omega
              case base1 => have := hb5.size; simp; omega
              intro v' w' hown h7
              have hb6 : Below (w2.heap.size + 2) W w' := Below.trans (Below.trans hb5 ((by go_grown : Below w5.heap.size w5 _).mono (by omega))) h7
              have HO6 := Lib.hid (show OwQ (w2.heap.size + 2) 32 w' v' ((z1, z2) :: imgL (ps.take (k + 1)) (a1, a2) (b1, b2)) by rw [HE.out]; exact hown)
              clear hown h7 f0 f1 f2 f3
              go_wp2_with fail
              go_roundw
              case rel => exact ⟨k + 1, by omega, by go_num, HO6.out, hb6⟩
              case measure => simp [intOf]; omega
        · obtain rfl : k = ps.length := by omega
          have how := HO.out
          simp only [List.take_length] at how
          generalize hvs : (z1, z2) :: imgL ps (a1, a2) (b1, b2) = vs at *
          have hvl : vs.length ≤ 20 := by rw [← hvs]; have := imgL_len ps (a1, a2) (b1, b2); simp only [List.length_cons]; omega
          have hv0 : 0 < vs.length := by rw [← hvs]; simp
          have HVO := Lib.hid (show ∀ q ∈ vs, okQ q.1 q.2 = true by rw [← hvs]; intro q hq; rcases List.mem_cons.1 hq with rfl | h; exact ZU.out; have := HLO.out q; rw [List.take_length] at this; exact this h)
          have HST := Lib.hid (show vs.foldl stepI ((y1, y2), (y1, y2)) = ((p1, p2), (q1, q2)) by rw [← hvs]; exact HSS.out)
          obtain ⟨gr, cr, rfl, hr1, hr2, hr3, hr4, hrc⟩ := how.lit rfl hv0
          unfold maxLen at hr2
          have HRC := Lib.hid hrc
          have LO2 := Lib.hid (show BoxQ wr w1.heap.size y1 y2 from ⟨slotL hb (by omega) LO.out.1, slotL hb (by omega) LO.out.2⟩)
          have HI2 := Lib.hid (show BoxQ wr (w2.heap.size + 1) y1 y2 from ⟨slotL hb (by omega) HI.out.1, slotL hb (by omega) HI.out.2⟩)
          have R2 := Lib.hid (show (Slot wr (w.heap.size + 2) 0 (.int .i64 0) ∧ Slot wr (w.heap.size + 2) 1 (.int .i64 0)) ∧ Slot wr (w.heap.size + 3) 0 (.int .i64 0) ∧ Slot wr (w.heap.size + 3) 1 (.int .i64 0) from ⟨⟨slotL hb (by omega) R.out.1.1, slotL hb (by omega) R.out.1.2⟩, slotL hb (by omega) R.out.2.1, slotL hb (by omega) R.out.2.2⟩)
          clear how hrc HO R LO HI hlt hk b00 b01 b10 b11 e00 e01 e10 e11 hb hB HRow
          generalize hgl : w1.heap.size = gl at *
          generalize hgh : w2.heap.size = gm at *
          skip
          obtain ⟨wo, hwo⟩ : ∃ X : World, X = wr := ⟨_, rfl⟩
          subst hwo
          go_wp2_with fail
          go_loopw [68] (fun i wx => RelIm (fun k => (vs.take k).foldl stepI ((y1, y2), (y1, y2))) vs.length gl (gm + 1) wo i wx) (fun i _ => vs.length - (intOf i).toNat)
          case atStart => exact ⟨0, Nat.zero_le _, rfl, ⟨y1, y2, y1, y2, rfl, LO2.out, HI2.out⟩, But2.refl _ _ _⟩
          case round =>
            skip
            obtain ⟨k, hk, rfl, ⟨l1, l2, h1, h2, hsk, L, H⟩, hb⟩ := hrel
            simp only at hsk
            have hzx := hb.size
            have zgl := lt_of_cell L.1.1
            have zgh := lt_of_cell H.1.1
            have HL := Lib.hid L
            have HH := Lib.hid H
            have HSK := Lib.hid hsk
            clear L H hsk
            by_cases hlt : k < vs.length
            · have hp := List.getElem?_eq_getElem hlt
              obtain ⟨d0, d1⟩ := HRC.out k _ hp
              have hq0 := HVO.out _ (List.getElem_mem hlt)
              generalize vs[k] = q at *
              obtain ⟨u1, u2⟩ := q
              simp only at d0 d1 hq0
              replace d0 := cell2 hb (by omega) (by omega) d0
              replace d1 := cell2 hb (by omega) (by omega) d1
              have SQ := Lib.hid (Sm.of_ok hq0)
              have hsl : okQ l1 l2 = true ∧ okQ h1 h2 = true := by have := foldI_ok (vs.take k) ((y1, y2), (y1, y2)) (fun q hq => HVO.out q (List.mem_of_mem_take hq)) YU.out YU.out; rw [HSK.out] at this; exact this
              have SLH := Lib.hid (And.intro (Sm.of_ok hsl.1) (Sm.of_ok hsl.2))
              obtain ⟨ya, hya⟩ : ∃ y, cmpQ u1 u2 l1 l2 = y := ⟨_, rfl⟩
              obtain ⟨yb, hyb⟩ : ∃ y, cmpQ h1 h2 u1 u2 = y := ⟨_, rfl⟩
              have HYa := Lib.hid hya
              have HYb := Lib.hid hyb
              have hda := lessQ_of hya
              have hdb := lessQ_of hyb
              have hmore : (vs.take (k + 1)).foldl stepI ((y1, y2), (y1, y2)) = stepI ((l1, l2), (h1, h2)) (u1, u2) := by rw [take_snoc_get hp, List.foldl_append, HSK.out]; rfl
              clear hya hyb hp hq0 hsl
              rcases h1a : lessQ u1 u2 l1 l2 with _ | _
              · rcases h1b : lessQ h1 h2 u1 u2 with _ | _
                · rw [h1a] at hda
                  have fya : decide (ya < (0 : Int)) = false := hda.symm
                  have gya : (0 : Int) ≤ ya := by simpa using fya
                  rw [h1b] at hdb
                  have fyb : decide (yb < (0 : Int)) = false := hdb.symm
                  have gyb : (0 : Int) ≤ yb := by simpa using fyb
                  have HE := Lib.hid (show (vs.take (k + 1)).foldl stepI ((y1, y2), (y1, y2)) = ((l1, l2), (h1, h2)) by rw [hmore]; simp [stepI, lesserQ, bigQ, h1a, h1b])
                  clear h1a h1b hmore hda hdb
                  obtain ⟨⟨x0, fx0⟩, x1, fx1⟩ := And.intro HL.out.1 HL.out.2
                  go_wp2_with fail
                  refine (raCmp_is u1 u2 l1 l2 ya SQ.out SLH.out.1 HYa.out _).mono ?_
                  rintro e w4 ⟨rfl, hx⟩
                  have hX : Below wr.heap.size wr w4 := nextX (by go_grown) hx
                  have f0 : w4.cell? ⟨wr.heap.size, 0, none⟩ = some (.int .i64 u1) := cellB hx (by simp [go_sem])
                  have f1 : w4.cell? ⟨wr.heap.size, 1, none⟩ = some (.int .i64 u2) := cellB hx (by simp [go_sem])
                  have zf := lt_of_cell f0
                  have hz4 := hX.size
                  have hb4 := hb.next hX
                  obtain ⟨⟨x2, fx2⟩, x3, fx3⟩ := And.intro (slotB hX HL.out.1) (slotB hX HL.out.2)
                  obtain ⟨⟨x4, fx4⟩, x5, fx5⟩ := And.intro (slotB hX HH.out.1) (slotB hX HH.out.2)
                  clear x0 fx0 x1 fx1 d0 d1 hx hX
                  go_wp2_with fail
                  refine (raCmp_is h1 h2 u1 u2 yb SLH.out.2 SQ.out HYb.out _).mono ?_
                  rintro e w5 ⟨rfl, hx⟩
                  have y0 : Slot w5 gl 0 (.int .i64 l1) := slotB hx ⟨x2, fx2⟩
                  have y1' : Slot w5 gl 1 (.int .i64 l2) := slotB hx ⟨x3, fx3⟩
                  have y4 : Slot w5 (gm + 1) 0 (.int .i64 h1) := slotB hx ⟨x4, fx4⟩
                  have y5 : Slot w5 (gm + 1) 1 (.int .i64 h2) := slotB hx ⟨x5, fx5⟩
                  have hb5 := hb4.next hx
                  have hf0 := cellB hx f0
                  have hf1 := cellB hx f1
                  clear hx x2 fx2 x3 fx3 x4 fx4 x5 fx5 f0 f1
                  clear hf0 hf1
                  go_wp2_with fail
                  go_roundw
                  case rel => exact ⟨k + 1, by omega, by go_num, ⟨l1, l2, h1, h2, HE.out, ⟨y0, y1'⟩, y4, y5⟩, hb5⟩
                  case measure => simp [intOf]; omega
                · rw [h1a] at hda
                  have fya : decide (ya < (0 : Int)) = false := hda.symm
                  have gya : (0 : Int) ≤ ya := by simpa using fya
                  rw [h1b] at hdb
                  have fyb : decide (yb < (0 : Int)) = true := hdb.symm
                  have gyb : yb < (0 : Int) := by simpa using fyb
                  have HE := Lib.hid (show (vs.take (k + 1)).foldl stepI ((y1, y2), (y1, y2)) = ((l1, l2), (u1, u2)) by rw [hmore]; simp [stepI, lesserQ, bigQ, h1a, h1b])
                  clear h1a h1b hmore hda hdb
                  obtain ⟨⟨x0, fx0⟩, x1, fx1⟩ := And.intro HL.out.1 HL.out.2
                  go_wp2_with fail
                  refine (raCmp_is u1 u2 l1 l2 ya SQ.out SLH.out.1 HYa.out _).mono ?_
                  rintro e w4 ⟨rfl, hx⟩
                  have hX : Below wr.heap.size wr w4 := nextX (by go_grown) hx
                  have f0 : w4.cell? ⟨wr.heap.size, 0, none⟩ = some (.int .i64 u1) := cellB hx (by simp [go_sem])
                  have f1 : w4.cell? ⟨wr.heap.size, 1, none⟩ = some (.int .i64 u2) := cellB hx (by simp [go_sem])
                  have zf := lt_of_cell f0
                  have hz4 := hX.size
                  have hb4 := hb.next hX
                  obtain ⟨⟨x2, fx2⟩, x3, fx3⟩ := And.intro (slotB hX HL.out.1) (slotB hX HL.out.2)
                  obtain ⟨⟨x4, fx4⟩, x5, fx5⟩ := And.intro (slotB hX HH.out.1) (slotB hX HH.out.2)
                  clear x0 fx0 x1 fx1 d0 d1 hx hX
                  go_wp2_with fail
                  refine (raCmp_is h1 h2 u1 u2 yb SLH.out.2 SQ.out HYb.out _).mono ?_
                  rintro e w5 ⟨rfl, hx⟩
                  have y0 : Slot w5 gl 0 (.int .i64 l1) := slotB hx ⟨x2, fx2⟩
                  have y1' : Slot w5 gl 1 (.int .i64 l2) := slotB hx ⟨x3, fx3⟩
                  have y4 : Slot w5 (gm + 1) 0 (.int .i64 h1) := slotB hx ⟨x4, fx4⟩
                  have y5 : Slot w5 (gm + 1) 1 (.int .i64 h2) := slotB hx ⟨x5, fx5⟩
                  have hb5 := hb4.next hx
                  have hf0 := cellB hx f0
                  have hf1 := cellB hx f1
                  clear hx x2 fx2 x3 fx3 x4 fx4 x5 fx5 f0 f1
                  obtain ⟨x4, fx4⟩ := y4
                  obtain ⟨x5, fx5⟩ := y5
                  have hhi := stored2 ⟨x4, fx4⟩ ⟨x5, fx5⟩ (.int .i64 u1) (.int .i64 u2)
                  have hb6 := hb5.trans (But2.two (((But.refl (gm + 1) _).setCell (o := 0) (.int .i64 u1)).setCell (o := 1) (.int .i64 u2)))
                  go_wp2_with fail
                  go_roundw
                  case rel => exact ⟨k + 1, by omega, by go_num, ⟨l1, l2, u1, u2, HE.out, ⟨slotS (slotS y0 (by simp <;> omega)) (by simp <;> omega), slotS (slotS y1' (by simp <;> omega)) (by simp <;> omega)⟩, hhi⟩, hb6⟩
                  case measure => simp [intOf]; omega
              · rcases h1b : lessQ h1 h2 u1 u2 with _ | _
                · rw [h1a] at hda
                  have fya : decide (ya < (0 : Int)) = true := hda.symm
                  have gya : ya < (0 : Int) := by simpa using fya
                  rw [h1b] at hdb
                  have fyb : decide (yb < (0 : Int)) = false := hdb.symm
                  have gyb : (0 : Int) ≤ yb := by simpa using fyb
                  have HE := Lib.hid (show (vs.take (k + 1)).foldl stepI ((y1, y2), (y1, y2)) = ((u1, u2), (h1, h2)) by rw [hmore]; simp [stepI, lesserQ, bigQ, h1a, h1b])
                  clear h1a h1b hmore hda hdb
                  obtain ⟨⟨x0, fx0⟩, x1, fx1⟩ := And.intro HL.out.1 HL.out.2
                  go_wp2_with fail
                  refine (raCmp_is u1 u2 l1 l2 ya SQ.out SLH.out.1 HYa.out _).mono ?_
                  rintro e w4 ⟨rfl, hx⟩
                  have hX : Below wr.heap.size wr w4 := nextX (by go_grown) hx
                  have f0 : w4.cell? ⟨wr.heap.size, 0, none⟩ = some (.int .i64 u1) := cellB hx (by simp [go_sem])
                  have f1 : w4.cell? ⟨wr.heap.size, 1, none⟩ = some (.int .i64 u2) := cellB hx (by simp [go_sem])
                  have zf := lt_of_cell f0
                  have hz4 := hX.size
                  have hb4 := hb.next hX
                  obtain ⟨⟨x2, fx2⟩, x3, fx3⟩ := And.intro (slotB hX HL.out.1) (slotB hX HL.out.2)
                  obtain ⟨⟨x4, fx4⟩, x5, fx5⟩ := And.intro (slotB hX HH.out.1) (slotB hX HH.out.2)
                  clear x0 fx0 x1 fx1 d0 d1 hx hX
                  have hlo := stored2 ⟨x2, fx2⟩ ⟨x3, fx3⟩ (.int .i64 u1) (.int .i64 u2)
                  go_wp2_with fail
                  refine (raCmp_is h1 h2 u1 u2 yb SLH.out.2 SQ.out HYb.out _).mono ?_
                  rintro e w5 ⟨rfl, hx⟩
                  have y0 : Slot w5 gl 0 (.int .i64 u1) := slotB hx hlo.1
                  have y1' : Slot w5 gl 1 (.int .i64 u2) := slotB hx hlo.2
                  have y4 : Slot w5 (gm + 1) 0 (.int .i64 h1) := slotB hx (slotS (slotS ⟨x4, fx4⟩ (by simp <;> omega)) (by simp <;> omega))
                  have y5 : Slot w5 (gm + 1) 1 (.int .i64 h2) := slotB hx (slotS (slotS ⟨x5, fx5⟩ (by simp <;> omega)) (by simp <;> omega))
                  have hb5 := (hb4.trans (But2.one (((But.refl gl _).setCell (o := 0) (.int .i64 u1)).setCell (o := 1) (.int .i64 u2)))).next hx
                  skip
                  have hf0 := cellB hx (cellS2 f0 (a := .int .i64 u1) (c := .int .i64 u2) (show gl ≠ _ by omega))
                  have hf1 := cellB hx (cellS2 f1 (a := .int .i64 u1) (c := .int .i64 u2) (show gl ≠ _ by omega))
                  clear hx x2 fx2 x3 fx3 x4 fx4 x5 fx5 f0 f1 hlo
                  clear hf0 hf1
                  go_wp2_with fail
                  go_roundw
                  case rel => exact ⟨k + 1, by omega, by go_num, ⟨u1, u2, h1, h2, HE.out, ⟨y0, y1'⟩, y4, y5⟩, hb5⟩
                  case measure => simp [intOf]; omega
                · rw [h1a] at hda
                  have fya : decide (ya < (0 : Int)) = true := hda.symm
                  have gya : ya < (0 : Int) := by simpa using fya
                  rw [h1b] at hdb
                  have fyb : decide (yb < (0 : Int)) = true := hdb.symm
                  have gyb : yb < (0 : Int) := by simpa using fyb
                  have HE := Lib.hid (show (vs.take (k + 1)).foldl stepI ((y1, y2), (y1, y2)) = ((u1, u2), (u1, u2)) by rw [hmore]; simp [stepI, lesserQ, bigQ, h1a, h1b])
                  clear h1a h1b hmore hda hdb
                  obtain ⟨⟨x0, fx0⟩, x1, fx1⟩ := And.intro HL.out.1 HL.out.2
                  go_wp2_with fail
                  refine (raCmp_is u1 u2 l1 l2 ya SQ.out SLH.out.1 HYa.out _).mono ?_
                  rintro e w4 ⟨rfl, hx⟩
                  have hX : Below wr.heap.size wr w4 := nextX (by go_grown) hx
                  have f0 : w4.cell? ⟨wr.heap.size, 0, none⟩ = some (.int .i64 u1) := cellB hx (by simp [go_sem])
                  have f1 : w4.cell? ⟨wr.heap.size, 1, none⟩ = some (.int .i64 u2) := cellB hx (by simp [go_sem])
                  have zf := lt_of_cell f0
                  have hz4 := hX.size
                  have hb4 := hb.next hX
                  obtain ⟨⟨x2, fx2⟩, x3, fx3⟩ := And.intro (slotB hX HL.out.1) (slotB hX HL.out.2)
                  obtain ⟨⟨x4, fx4⟩, x5, fx5⟩ := And.intro (slotB hX HH.out.1) (slotB hX HH.out.2)
                  clear x0 fx0 x1 fx1 d0 d1 hx hX
                  have hlo := stored2 ⟨x2, fx2⟩ ⟨x3, fx3⟩ (.int .i64 u1) (.int .i64 u2)
                  go_wp2_with fail
                  refine (raCmp_is h1 h2 u1 u2 yb SLH.out.2 SQ.out HYb.out _).mono ?_
                  rintro e w5 ⟨rfl, hx⟩
                  have y0 : Slot w5 gl 0 (.int .i64 u1) := slotB hx hlo.1
                  have y1' : Slot w5 gl 1 (.int .i64 u2) := slotB hx hlo.2
                  have y4 : Slot w5 (gm + 1) 0 (.int .i64 h1) := slotB hx (slotS (slotS ⟨x4, fx4⟩ (by simp <;> omega)) (by simp <;> omega))
                  have y5 : Slot w5 (gm + 1) 1 (.int .i64 h2) := slotB hx (slotS (slotS ⟨x5, fx5⟩ (by simp <;> omega)) (by simp <;> omega))
                  have hb5 := (hb4.trans (But2.one (((But.refl gl _).setCell (o := 0) (.int .i64 u1)).setCell (o := 1) (.int .i64 u2)))).next hx
                  skip
                  have hf0 := cellB hx (cellS2 f0 (a := .int .i64 u1) (c := .int .i64 u2) (show gl ≠ _ by omega))
                  have hf1 := cellB hx (cellS2 f1 (a := .int .i64 u1) (c := .int .i64 u2) (show gl ≠ _ by omega))
                  clear hx x2 fx2 x3 fx3 x4 fx4 x5 fx5 f0 f1 hlo
                  obtain ⟨x4, fx4⟩ := y4
                  obtain ⟨x5, fx5⟩ := y5
                  have hhi := stored2 ⟨x4, fx4⟩ ⟨x5, fx5⟩ (.int .i64 u1) (.int .i64 u2)
                  have hb6 := hb5.trans (But2.two (((But.refl (gm + 1) _).setCell (o := 0) (.int .i64 u1)).setCell (o := 1) (.int .i64 u2)))
                  go_wp2_with fail
                  go_roundw
                  case rel => exact ⟨k + 1, by omega, by go_num, ⟨u1, u2, u1, u2, HE.out, ⟨slotS (slotS y0 (by simp <;> omega)) (by simp <;> omega), slotS (slotS y1' (by simp <;> omega)) (by simp <;> omega)⟩, hhi⟩, hb6⟩
                  case measure => simp [intOf]; omega
            · obtain rfl : k = vs.length := by omega
              have hfin := HSK.out
              rw [List.take_length, HST.out] at hfin
              obtain ⟨hf1, hf2⟩ := Prod.mk.inj hfin
              obtain ⟨rfl, rfl⟩ := Prod.mk.inj hf1
              obtain ⟨rfl, rfl⟩ := Prod.mk.inj hf2
              clear hfin hf1 hf2
              obtain ⟨⟨x0, fx0⟩, x1, fx1⟩ := And.intro HL.out.1 HL.out.2
              obtain ⟨⟨x2, fx2⟩, x3, fx3⟩ := And.intro HH.out.1 HH.out.2
              obtain ⟨r0, fr0⟩ := slot2 hb (by omega) (by omega) R2.out.1.1
              obtain ⟨r1, fr1⟩ := slot2 hb (by omega) (by omega) R2.out.1.2
              obtain ⟨r2, fr2⟩ := slot2 hb (by omega) (by omega) R2.out.2.1
              obtain ⟨r3, fr3⟩ := slot2 hb (by omega) (by omega) R2.out.2.2
              have hBx : Below w.heap.size w wr := But2.below hBr hb (by omega) (by omega)
              clear hb
              go_wp2_with fail
              go_region
              all_goals
                go_wp2_with fail
                refine bodyPost_ret (v := .tuple #[.agg #[.int .i64 p1, .int .i64 p2], .agg #[.int .i64 q1, .int .i64 q2], .bool true]) (by simp [results, Try.results35, go_sem, r0, r1, r2, r3]) rfl ⟨rfl, ?_⟩
                go_grown

end Go.Proofs.Ytkeajfgcjmhmiaa
