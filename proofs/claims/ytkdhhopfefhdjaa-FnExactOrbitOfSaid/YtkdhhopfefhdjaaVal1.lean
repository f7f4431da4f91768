/- The reference's slope and line. -/
import Derived.Test.YtkdhhopfefhdjaaValM
import Derived.Test.YtkdhhopfefhdjaaSlope
import Derived.Test.YtkdhhopfefhdjaaLine
import Derived.Test.YtkdhhopfefhdjaaRat6
namespace Go.Proofs.Ytkdhhopfefhdjaa
open Go.RowKit

set_option maxHeartbeats 800000 in
theorem imSlope_raw (x1 x2 x3 x4 y1 y2 y3 y4 u1 u2 f1 f2 s1 s2 : Int) (w : World) (m1 : Sm x1) (m2 : Sm x2) (m3 : Sm x3) (m4 : Sm x4) (n1 : Sm y1) (n2 : Sm y2) (n3 : Sm y3) (n4 : Sm y4) (a1 : Sm u1) (a2 : Sm u2) (b1 : Sm f1) (b2 : Sm f2)
    (hu : lowQ (y3 * x4 - x3 * y4) (y4 * x4) = (u1, u2, true)) (hf : lowQ (y1 * x2 - x1 * y2) (y2 * x2) = (f1, f2, true)) (hd : lowQ (u1 * f2) (u2 * f1) = (s1, s2, true)) :
    Calls Try.prog 140 #[.agg #[.int .i64 x1, .int .i64 x2, .int .i64 x3, .int .i64 x4], .agg #[.int .i64 y1, .int .i64 y2, .int .i64 y3, .int .i64 y4]] w fun e w' => e = .returned (.agg #[.int .i64 s1, .int .i64 s2]) ∧ Below w.heap.size w w' := by
  have HU := Lib.hid hu
  have HF := Lib.hid hf
  have HD := Lib.hid hd
  clear hu hf hd
  go_enter Try.func140, Try.ntmps140
  go_wp2_with fail
  refine (raSub_any y3 y4 x3 x4 u1 u2 true n3 n4 m3 m4 HU.out _).mono ?_
  rintro e w1 ⟨rfl, hb⟩
  have hB := nextB (B := w.heap.size) (w := w) (by go_grown) (by go_size) hb
  have k1 : w1.cell? ⟨w.heap.size, 0, none⟩ = some (.int .i64 x1) := cellB hb (by simp [go_sem])
  have k2 : w1.cell? ⟨w.heap.size, 1, none⟩ = some (.int .i64 x2) := cellB hb (by simp [go_sem])
  have k3 : w1.cell? ⟨w.heap.size + 1, 0, none⟩ = some (.int .i64 y1) := cellB hb (by simp [go_sem])
  have k4 : w1.cell? ⟨w.heap.size + 1, 1, none⟩ = some (.int .i64 y2) := cellB hb (by simp [go_sem])
  have r0 : Slot w1 (w.heap.size + 2) 0 (.int .i64 0) := slotB hb ⟨by simp [go_sem], by simp [go_sem]⟩
  have r1 : Slot w1 (w.heap.size + 2) 1 (.int .i64 0) := slotB hb ⟨by simp [go_sem], by simp [go_sem]⟩
  have y0 := lt_of_cell k1
  have y1' := lt_of_cell k3
  have z1 := lt_of_cell r0.1
  clear hb
  go_wp2_with fail
  refine (raSub_any y1 y2 x1 x2 f1 f2 true n1 n2 m1 m2 HF.out _).mono ?_
  rintro e w2 ⟨rfl, hb⟩
  replace hB : Below w.heap.size w w2 := nextB (by go_grown) (by go_size) hb
  have j1 : w2.cell? ⟨w1.heap.size, 0, none⟩ = some (.int .i64 u1) := cellB hb (slotNew _ _ _ _).1.1
  have j2 : w2.cell? ⟨w1.heap.size, 1, none⟩ = some (.int .i64 u2) := cellB hb (slotNew _ _ _ _).2.1
  replace r0 := slotB hb (slotA _ r0)
  replace r1 := slotB hb (slotA _ r1)
  have y2' := lt_of_cell j1
  have y3' := lt_of_cell r0.1
  clear hb k1 k2 k3 k4
  go_wp2_with fail
  refine (raDiv_any u1 u2 f1 f2 s1 s2 true a1 a2 b1 b2 HD.out _).mono ?_
  rintro e w3 ⟨rfl, hb⟩
  replace hB : Below w.heap.size w w3 := nextB (by go_grown) (by go_size) hb
  obtain ⟨q0, z0⟩ := slotB hb (slotA _ r0)
  obtain ⟨q1, z1⟩ := slotB hb (slotA _ r1)
  have z2 := lt_of_cell q0
  clear hb j1 j2 r0 r1
  go_wp2_with fail
  refine bodyPost_ret (v := .agg #[.int .i64 s1, .int .i64 s2]) (by simp [results, Try.results140, go_sem, q0, q1, z2]) rfl ⟨rfl, ?_⟩
  go_grown

theorem coord_smQ {a b : Int} (h : coordQ a b = true) : Sm a ∧ Sm b := Sm.of_ok (unitQ_ok (coordQ_unit h))

theorem imSlope_is {p q : Pt} {s1 s2 : Int} (cx : coordQ p.1.1 p.1.2 = true) (cy : coordQ p.2.1 p.2.2 = true) (dx : coordQ q.1.1 q.1.2 = true) (dy : coordQ q.2.1 q.2.2 = true) (hl : lessQ p.1.1 p.1.2 q.1.1 q.1.2 = true) (hs : slopeQ p q = (s1, s2)) (w : World) :
    Calls Try.prog 140 #[.agg #[.int .i64 p.1.1, .int .i64 p.1.2, .int .i64 p.2.1, .int .i64 p.2.2], .agg #[.int .i64 q.1.1, .int .i64 q.1.2, .int .i64 q.2.1, .int .i64 q.2.2]] w fun e w' => e = .returned (.agg #[.int .i64 s1, .int .i64 s2]) ∧ Below w.heap.size w w' := by
  obtain ⟨u1, u2, f1, f2, t1, t2, e1, e2, e3, e4, e5, e6, a1, a2, b1, b2, -, -⟩ := slope_fits cx cy dx dy hl
  have : (t1, t2) = (s1, s2) := by rw [← hs]; unfold slopeQ; rw [e1, e3]; simp only; rw [e5]
  cases this
  exact imSlope_raw _ _ _ _ _ _ _ _ u1 u2 f1 f2 _ _ w (coord_smQ cx).1 (coord_smQ cx).2 (coord_smQ cy).1 (coord_smQ cy).2 (coord_smQ dx).1 (coord_smQ dx).2 (coord_smQ dy).1 (coord_smQ dy).2 a1 a2 b1 b2 e2 e4 e6
theorem slope_is {p q : Pt} {s1 s2 : Int} (cx : coordQ p.1.1 p.1.2 = true) (cy : coordQ p.2.1 p.2.2 = true) (dx : coordQ q.1.1 q.1.2 = true) (dy : coordQ q.2.1 q.2.2 = true) (hl : lessQ p.1.1 p.1.2 q.1.1 q.1.2 = true) (hs : slopeQ p q = (s1, s2)) (v : Value) (w : World) :
    Calls Try.prog 139 #[v, .agg #[.int .i64 p.1.1, .int .i64 p.1.2, .int .i64 p.2.1, .int .i64 p.2.2], .agg #[.int .i64 q.1.1, .int .i64 q.1.2, .int .i64 q.2.1, .int .i64 q.2.2]] w fun e w' => e = .returned (.agg #[.int .i64 s1, .int .i64 s2]) ∧ Below w.heap.size w w' := by
  obtain ⟨u1, u2, f1, f2, t1, t2, e1, e2, e3, e4, e5, e6, a1, a2, b1, b2, -, -⟩ := slope_fits cx cy dx dy hl
  have : (t1, t2) = (s1, s2) := by rw [← hs]; unfold slopeQ; rw [e1, e3]; simp only; rw [e5]
  cases this
  have k1 := (coord_smQ cx).1.bd
  have k2 := (coord_smQ cy).1.bd
  exact slope_fine _ _ _ _ _ _ _ _ u1 u2 f1 f2 _ _ v w (by omega) (by omega) e1 e3 e5

end Go.Proofs.Ytkdhhopfefhdjaa
