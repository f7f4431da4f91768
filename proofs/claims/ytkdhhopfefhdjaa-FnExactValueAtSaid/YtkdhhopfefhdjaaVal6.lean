/- ValueAt of both. -/
import Derived.Test.YtkdhhopfefhdjaaVal5
namespace Go.Proofs.Ytkdhhopfefhdjaa
open Go.RowKit

def vaQ (ps : List Pt) (x : Q) : Int × Int × Bool := if okMap ps = true ∧ unitQ x.1 x.2 = true then atQ ps x else (0, 0, false)

set_option maxHeartbeats 800000 in
theorem sValueAt_is (ps : List Pt) (v : Value) (x1 x2 a b : Int) (t : Bool) (w : World) (hv : RdP w v ps) (hn : ps.length ≤ 1048576) (ha : vaQ ps (x1, x2) = (a, b, t)) :
    Calls Try.prog 31 #[v, .agg #[.int .i64 x1, .int .i64 x2]] w (LowEnd a b t w) := by
  have HV := Lib.hid hv
  rcases hm : okMap ps with _ | _
  · have E : (0, 0, false) = (a, b, t) := by rw [← ha]; unfold vaQ; rw [if_neg (by rw [hm]; simp)]
    cases E
    have HM := Lib.hid hm
    clear hv ha hm
    go_enter Try.func31, Try.ntmps31
    go_wp2_with fail
    refine (imGood_is ps v false _ (HV.out.keep (by go_grown)) hn HM.out).mono ?_
    rintro e w1 ⟨rfl, hb⟩
    have hX : Below w.heap.size w w1 := nextX (by go_grown) hb
    obtain ⟨r0, r0'⟩ : Slot w1 (w.heap.size + 1) 0 (.int .i64 0) := slotB hb ⟨by simp [go_sem], by simp [go_sem]⟩
    obtain ⟨r1, r1'⟩ : Slot w1 (w.heap.size + 1) 1 (.int .i64 0) := slotB hb ⟨by simp [go_sem], by simp [go_sem]⟩
    clear hb
    go_wp2_with fail
    refine bodyPost_ret (v := .tuple #[.agg #[.int .i64 0, .int .i64 0], .bool false]) (by simp [results, Try.results31, go_sem, r0, r1]) rfl ⟨rfl, ?_⟩
    go_grown
  · rcases hx : unitQ x1 x2 with _ | _
    · have E : (0, 0, false) = (a, b, t) := by rw [← ha]; unfold vaQ; rw [if_neg (by rw [hx]; simp)]
      cases E
      have HM := Lib.hid hm
      have HX := Lib.hid hx
      clear hv ha hm hx
      go_enter Try.func31, Try.ntmps31
      go_wp2_with fail
      refine (imGood_is ps v true _ (HV.out.keep (by go_grown)) hn HM.out).mono ?_
      rintro e w1 ⟨rfl, hb⟩
      have hX : Below w.heap.size w w1 := nextX (by go_grown) hb
      have e0 : w1.cell? ⟨w.heap.size, 0, none⟩ = some (.int .i64 x1) := cellB hb (by simp [go_sem])
      have e1 : w1.cell? ⟨w.heap.size, 1, none⟩ = some (.int .i64 x2) := cellB hb (by simp [go_sem])
      have r0 : Slot w1 (w.heap.size + 1) 0 (.int .i64 0) := slotB hb ⟨by simp [go_sem], by simp [go_sem]⟩
      have r1 : Slot w1 (w.heap.size + 1) 1 (.int .i64 0) := slotB hb ⟨by simp [go_sem], by simp [go_sem]⟩
      clear hb
      go_wp2_with fail
      refine (raUnit_any x1 x2 _).mono ?_
      rintro e w2 ⟨he, hb⟩
      rw [HX.out] at he
      subst he
      replace hX := nextX hX hb
      obtain ⟨r0, r0'⟩ := slotB hb r0
      obtain ⟨r1, r1'⟩ := slotB hb r1
      clear hb e0 e1
      go_wp2_with fail
      refine bodyPost_ret (v := .tuple #[.agg #[.int .i64 0, .int .i64 0], .bool false]) (by simp [results, Try.results31, go_sem, r0, r1]) rfl ⟨rfl, ?_⟩
      go_grown
    · have E : atQ ps (x1, x2) = (a, b, t) := by rw [← ha]; unfold vaQ; rw [if_pos ⟨hm, hx⟩]
      have HE := Lib.hid E
      have HM := Lib.hid hm
      have HX := Lib.hid hx
      clear hv ha hm hx E
      go_enter Try.func31, Try.ntmps31
      go_wp2_with fail
      refine (imGood_is ps v true _ (HV.out.keep (by go_grown)) hn HM.out).mono ?_
      rintro e w1 ⟨rfl, hb⟩
      have hX : Below w.heap.size w w1 := nextX (by go_grown) hb
      have e0 : w1.cell? ⟨w.heap.size, 0, none⟩ = some (.int .i64 x1) := cellB hb (by simp [go_sem])
      have e1 : w1.cell? ⟨w.heap.size, 1, none⟩ = some (.int .i64 x2) := cellB hb (by simp [go_sem])
      have r0 : Slot w1 (w.heap.size + 1) 0 (.int .i64 0) := slotB hb ⟨by simp [go_sem], by simp [go_sem]⟩
      have r1 : Slot w1 (w.heap.size + 1) 1 (.int .i64 0) := slotB hb ⟨by simp [go_sem], by simp [go_sem]⟩
      clear hb
      go_wp2_with fail
      refine (raUnit_any x1 x2 _).mono ?_
      rintro e w2 ⟨he, hb⟩
      rw [HX.out] at he
      subst he
      replace hX := nextX hX hb
      replace r0 := slotB hb r0
      replace r1 := slotB hb r1
      replace e0 := cellB hb e0
      replace e1 := cellB hb e1
      clear hb
      go_wp2_with fail
      refine (imAt_is ps v x1 x2 a b t _ (HV.out.keep hX) HM.out HX.out HE.out).mono ?_
      rintro e w3 ⟨rfl, hb⟩
      replace hX := nextX hX hb
      obtain ⟨r0, r0'⟩ := slotB hb r0
      obtain ⟨r1, r1'⟩ := slotB hb r1
      clear hb e0 e1
      go_wp2_with fail
      refine bodyPost_ret (v := .tuple #[.agg #[.int .i64 a, .int .i64 b], .bool t]) (by simp [results, Try.results31, go_sem, r0, r1]) rfl ⟨rfl, ?_⟩
      go_grown

set_option maxHeartbeats 800000 in
theorem iValueAt_is (ps : List Pt) (v : Value) (x1 x2 a b : Int) (t : Bool) (w : World) (hv : RdP w v ps) (hn : ps.length ≤ 1048576) (ha : vaQ ps (x1, x2) = (a, b, t)) :
    Calls Try.prog 33 #[v, .agg #[.int .i64 x1, .int .i64 x2]] w (LowEnd a b t w) := by
  have HV := Lib.hid hv
  rcases hm : okMap ps with _ | _
  · have E : (0, 0, false) = (a, b, t) := by rw [← ha]; unfold vaQ; rw [if_neg (by rw [hm]; simp)]
    cases E
    have HM := Lib.hid hm
    clear hv ha hm
    go_enter Try.func33, Try.ntmps33
    go_wp2_with fail
    refine (isMap_is ps v false _ (HV.out.keep (by go_grown)) hn HM.out).mono ?_
    rintro e w1 ⟨rfl, hb⟩
    have hX : Below w.heap.size w w1 := nextX (by go_grown) hb
    obtain ⟨r0, r0'⟩ : Slot w1 (w.heap.size + 1) 0 (.int .i64 0) := slotB hb ⟨by simp [go_sem], by simp [go_sem]⟩
    obtain ⟨r1, r1'⟩ : Slot w1 (w.heap.size + 1) 1 (.int .i64 0) := slotB hb ⟨by simp [go_sem], by simp [go_sem]⟩
    clear hb
    go_wp2_with fail
    refine bodyPost_ret (v := .tuple #[.agg #[.int .i64 0, .int .i64 0], .bool false]) (by simp [results, Try.results33, go_sem, r0, r1]) rfl ⟨rfl, ?_⟩
    go_grown
  · rcases hx : unitQ x1 x2 with _ | _
    · have E : (0, 0, false) = (a, b, t) := by rw [← ha]; unfold vaQ; rw [if_neg (by rw [hx]; simp)]
      cases E
      have HM := Lib.hid hm
      have HX := Lib.hid hx
      clear hv ha hm hx
      go_enter Try.func33, Try.ntmps33
      go_wp2_with fail
      refine (isMap_is ps v true _ (HV.out.keep (by go_grown)) hn HM.out).mono ?_
      rintro e w1 ⟨rfl, hb⟩
      have hX : Below w.heap.size w w1 := nextX (by go_grown) hb
      have e0 : w1.cell? ⟨w.heap.size, 0, none⟩ = some (.int .i64 x1) := cellB hb (by simp [go_sem])
      have e1 : w1.cell? ⟨w.heap.size, 1, none⟩ = some (.int .i64 x2) := cellB hb (by simp [go_sem])
      have r0 : Slot w1 (w.heap.size + 1) 0 (.int .i64 0) := slotB hb ⟨by simp [go_sem], by simp [go_sem]⟩
      have r1 : Slot w1 (w.heap.size + 1) 1 (.int .i64 0) := slotB hb ⟨by simp [go_sem], by simp [go_sem]⟩
      clear hb
      go_wp2_with fail
      refine (isUnit_any x1 x2 _).mono ?_
      rintro e w2 ⟨he, hb⟩
      rw [HX.out] at he
      subst he
      replace hX := nextX hX hb
      obtain ⟨r0, r0'⟩ := slotB hb r0
      obtain ⟨r1, r1'⟩ := slotB hb r1
      clear hb e0 e1
      go_wp2_with fail
      refine bodyPost_ret (v := .tuple #[.agg #[.int .i64 0, .int .i64 0], .bool false]) (by simp [results, Try.results33, go_sem, r0, r1]) rfl ⟨rfl, ?_⟩
      go_grown
    · have E : atQ ps (x1, x2) = (a, b, t) := by rw [← ha]; unfold vaQ; rw [if_pos ⟨hm, hx⟩]
      rcases hr : valQ ps (x1, x2) with ⟨⟨y1, y2⟩, ty⟩
      have HY := Lib.hid hr
      have HE := Lib.hid (show (if ty = true then (y1, y2, true) else (0, 0, false)) = (a, b, t) by rw [← E]; unfold atQ; rw [hr])
      have HM := Lib.hid hm
      have HX := Lib.hid hx
      clear hv ha hm hx E hr
      go_enter Try.func33, Try.ntmps33
      go_wp2_with fail
      refine (isMap_is ps v true _ (HV.out.keep (by go_grown)) hn HM.out).mono ?_
      rintro e w1 ⟨rfl, hb⟩
      have hX : Below w.heap.size w w1 := nextX (by go_grown) hb
      have e0 : w1.cell? ⟨w.heap.size, 0, none⟩ = some (.int .i64 x1) := cellB hb (by simp [go_sem])
      have e1 : w1.cell? ⟨w.heap.size, 1, none⟩ = some (.int .i64 x2) := cellB hb (by simp [go_sem])
      have r0 : Slot w1 (w.heap.size + 1) 0 (.int .i64 0) := slotB hb ⟨by simp [go_sem], by simp [go_sem]⟩
      have r1 : Slot w1 (w.heap.size + 1) 1 (.int .i64 0) := slotB hb ⟨by simp [go_sem], by simp [go_sem]⟩
      clear hb
      go_wp2_with fail
      refine (isUnit_any x1 x2 _).mono ?_
      rintro e w2 ⟨he, hb⟩
      rw [HX.out] at he
      subst he
      replace hX := nextX hX hb
      replace r0 := slotB hb r0
      replace r1 := slotB hb r1
      replace e0 := cellB hb e0
      replace e1 := cellB hb e1
      have z := lt_of_cell r0.1
      have z' := lt_of_cell e0
      clear hb
      go_wp2_with fail
      refine (value_is ps v x1 x2 y1 y2 ty false _ w2.heap.size _ ⟨by simp [go_sem], by simp [go_sem]⟩ (HV.out.keep (by go_grown)) (HV.out.old (okMap_ne HM.out) hX.size) HM.out HX.out HY.out rfl).mono ?_
      rintro e w3 ⟨rfl, g3, k3⟩
      replace hX := But.below (B := w.heap.size) (w0 := w) (by go_grown) k3 (by omega) (by go_size)
      obtain ⟨r0, r0'⟩ := slotU k3 (by omega) (slotA _ r0)
      obtain ⟨r1, r1'⟩ := slotU k3 (by omega) (slotA _ r1)
      have z3 := lt_of_cell r0
      obtain ⟨g3, g3'⟩ := g3
      have z4 := lt_of_cell g3
      clear k3 e0 e1
      have E := HE.out
      cases ty
      · simp at E
        obtain ⟨rfl, rfl, rfl⟩ := E
        go_wp2_with fail
        refine bodyPost_ret (v := .tuple #[.agg #[.int .i64 0, .int .i64 0], .bool false]) (by simp [results, Try.results33, go_sem, r0, r1, z3]) rfl ⟨rfl, ?_⟩
        go_grown
      · simp at E
        obtain ⟨rfl, rfl, rfl⟩ := E
        go_wp2_with fail
        refine bodyPost_ret (v := .tuple #[.agg #[.int .i64 y1, .int .i64 y2], .bool true]) (by simp [results, Try.results33, go_sem, r0, r1, z3]) rfl ⟨rfl, ?_⟩
        go_grown

end Go.Proofs.Ytkdhhopfefhdjaa
