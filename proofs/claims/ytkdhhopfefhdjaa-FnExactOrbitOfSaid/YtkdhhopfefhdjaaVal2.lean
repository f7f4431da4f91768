/- The reference's value on a line. -/
import Derived.Test.YtkdhhopfefhdjaaVal1
import Derived.Test.YtkdhhopfefhdjaaFacts
namespace Go.Proofs.Ytkdhhopfefhdjaa
open Go.RowKit

def CutOn (w : World) (y1 y2 m1 m2 : Int) (t : Bool) (s10 s11 : Value) (wx : World) : Prop :=
  VarQ wx s10 (w.heap.size + 4) m1 m2 ∧ s11 = .bool t ∧ wx.cell? ⟨w.heap.size, 2, none⟩ = some (.int .i64 y1) ∧ wx.cell? ⟨w.heap.size, 3, none⟩ = some (.int .i64 y2) ∧ Slot wx (w.heap.size + 3) 0 (.int .i64 0) ∧ Slot wx (w.heap.size + 3) 1 (.int .i64 0) ∧ Below w.heap.size w wx

set_option maxHeartbeats 1600000 in
theorem imOn_raw (p1 p2 p3 p4 q1 q2 q3 q4 x1 x2 s1 s2 d1 d2 m1 m2 r1 r2 a b : Int) (td tm tr t : Bool) (w : World) (hsm : (Sm p1 ∧ Sm p2 ∧ Sm p3 ∧ Sm p4) ∧ Sm x1 ∧ Sm x2 ∧ Sm s1 ∧ Sm s2)
    (hs : ∀ W, Calls Try.prog 140 #[.agg #[.int .i64 p1, .int .i64 p2, .int .i64 p3, .int .i64 p4], .agg #[.int .i64 q1, .int .i64 q2, .int .i64 q3, .int .i64 q4]] W fun e w' => e = .returned (.agg #[.int .i64 s1, .int .i64 s2]) ∧ Below W.heap.size W w')
    (hd : lowQ (x1 * p2 - p1 * x2) (x2 * p2) = (d1, d2, td)) (hm : lowQ (d1 * s1) (d2 * s2) = (m1, m2, tm)) (hr : lowQ (p3 * m2 + m1 * p4) (p4 * m2) = (r1, r2, tr)) (ha : (if td && tm then (r1, r2, tr) else (0, 0, false)) = (a, b, t)) :
    Calls Try.prog 135 #[.agg #[.int .i64 p1, .int .i64 p2, .int .i64 p3, .int .i64 p4], .agg #[.int .i64 q1, .int .i64 q2, .int .i64 q3, .int .i64 q4], .agg #[.int .i64 x1, .int .i64 x2]] w (LowEnd a b t w) := by
  obtain ⟨⟨u1, u2, u3, u4⟩, u5, u6, u7, u8⟩ := hsm
  have v1 := (Sm.of_low hd).1
  have v2 := (Sm.of_low hd).2
  have v3 := (Sm.of_low hm).1
  have v4 := (Sm.of_low hm).2
  have HS := Lib.hid hs
  have HD := Lib.hid hd
  have HM := Lib.hid hm
  have HR := Lib.hid hr
  have HA := Lib.hid ha
  clear hs hd hm hr ha
  go_enter Try.func135, Try.ntmps135
  go_wp2_with fail
  refine (raSub_any x1 x2 p1 p2 d1 d2 td u5 u6 u1 u2 HD.out _).mono ?_
  rintro e w1 ⟨rfl, hb⟩
  have hB : Below w.heap.size w w1 := nextB (by go_grown) (by go_size) hb
  have c1 : w1.cell? ⟨w.heap.size, 0, none⟩ = some (.int .i64 p1) := cellB hb (by simp [go_sem])
  have c2 : w1.cell? ⟨w.heap.size, 1, none⟩ = some (.int .i64 p2) := cellB hb (by simp [go_sem])
  have c3 : w1.cell? ⟨w.heap.size, 2, none⟩ = some (.int .i64 p3) := cellB hb (by simp [go_sem])
  have c4 : w1.cell? ⟨w.heap.size, 3, none⟩ = some (.int .i64 p4) := cellB hb (by simp [go_sem])
  have c5 : w1.cell? ⟨w.heap.size + 1, 0, none⟩ = some (.int .i64 q1) := cellB hb (by simp [go_sem])
  have c6 : w1.cell? ⟨w.heap.size + 1, 1, none⟩ = some (.int .i64 q2) := cellB hb (by simp [go_sem])
  have c7 : w1.cell? ⟨w.heap.size + 1, 2, none⟩ = some (.int .i64 q3) := cellB hb (by simp [go_sem])
  have c8 : w1.cell? ⟨w.heap.size + 1, 3, none⟩ = some (.int .i64 q4) := cellB hb (by simp [go_sem])
  have r0 : Slot w1 (w.heap.size + 3) 0 (.int .i64 0) := slotB hb ⟨by simp [go_sem], by simp [go_sem]⟩
  have r1 : Slot w1 (w.heap.size + 3) 1 (.int .i64 0) := slotB hb ⟨by simp [go_sem], by simp [go_sem]⟩
  have z := lt_of_cell r0.1
  clear hb
  go_wp2_with fail
  go_cut [10, 11] (fun s10 s11 wx => CutOn w p3 p4 m1 m2 tm s10 s11 wx)
  case first =>
    go_name_world W hW
    have f0 : W.cell? ⟨w1.heap.size, 0, none⟩ = some (.int .i64 d1) := by rw [← hW]; exact (slotNew _ _ _ _).1.1
    have f1 : W.cell? ⟨w1.heap.size, 1, none⟩ = some (.int .i64 d2) := by rw [← hW]; exact (slotNew _ _ _ _).2.1
    have g0 : Below w1.heap.size w1 W := by rw [← hW]; go_grown
    have kL : Facts [(w1.heap.size, 0, .int .i64 d1), (w1.heap.size, 1, .int .i64 d2), (w.heap.size, 0, .int .i64 p1), (w.heap.size, 1, .int .i64 p2), (w.heap.size, 2, .int .i64 p3), (w.heap.size, 3, .int .i64 p4), (w.heap.size + 1, 0, .int .i64 q1), (w.heap.size + 1, 1, .int .i64 q2), (w.heap.size + 1, 2, .int .i64 q3), (w.heap.size + 1, 3, .int .i64 q4)] W :=
      ⟨f0, f1, cellB g0 c1, cellB g0 c2, cellB g0 c3, cellB g0 c4, cellB g0 c5, cellB g0 c6, cellB g0 c7, cellB g0 c8⟩
    replace r0 := slotB g0 r0
    replace r1 := slotB g0 r1
    replace hB := nextW hB g0
    have zW := lt_of_cell f0
    have zR := lt_of_cell r0.1
    clear hW c1 c2 c3 c4 c5 c6 c7 c8 f0 f1
    go_region_held3 (fun w' => w'.cell? ⟨w1.heap.size, 0, none⟩ = some (.int .i64 d1) ∧ w'.cell? ⟨w1.heap.size, 1, none⟩ = some (.int .i64 d2) ∧ w'.cell? ⟨w.heap.size, 0, none⟩ = some (.int .i64 p1) ∧ w'.cell? ⟨w.heap.size, 1, none⟩ = some (.int .i64 p2) ∧ w'.cell? ⟨w.heap.size, 2, none⟩ = some (.int .i64 p3) ∧ w'.cell? ⟨w.heap.size, 3, none⟩ = some (.int .i64 p4) ∧ w'.cell? ⟨w.heap.size + 1, 0, none⟩ = some (.int .i64 q1) ∧ w'.cell? ⟨w.heap.size + 1, 1, none⟩ = some (.int .i64 q2) ∧ w'.cell? ⟨w.heap.size + 1, 2, none⟩ = some (.int .i64 q3) ∧ w'.cell? ⟨w.heap.size + 1, 3, none⟩ = some (.int .i64 q4))
      ((exact Facts.keep kL (by go_grown)))
      ((first
        | (go_at_call 140; (with_reducible refine (HS.out _).mono ?_); rintro e w2 ⟨rfl, hb2⟩; have hX2 : Below W.heap.size W w2 := nextX (by go_grown) hb2; have z2 := hX2.size; (first | (with_reducible have n2 := fresh2 hb2) | (with_reducible have n2 := fresh2D hb2) | skip))
        | (go_at_call 120; (with_reducible refine (raMul_any d1 d2 s1 s2 m1 m2 tm v1 v2 u7 u8 HM.out _).mono ?_); rintro e w3 ⟨rfl, hb3⟩; have hX3 : Below W.heap.size W w3 := nextX (by go_grown) hb3; have z3 := hX3.size; (first | (with_reducible have n3 := fresh2 hb3) | (with_reducible have n3 := Fresh2.keep n2 hb3) | skip); (first | obtain ⟨⟨p0, f0⟩, p1, f1⟩ := n3 | skip))))
    all_goals
      go_wp2_with fail
      go_meet
      first
        | exact ⟨VarQ.made (by omega) _ _ _, rfl, cellB (by go_grown) kL.2.2.2.2.1, cellB (by go_grown) kL.2.2.2.2.2.1, slotB (by go_grown) r0, slotB (by go_grown) r1, nextW hB (by go_grown)⟩
        | exact ⟨VarQ.stored ⟨p0, f0⟩ ⟨p1, f1⟩ (by omega) _ _, rfl, cellB (by go_grown) kL.2.2.2.2.1, cellB (by go_grown) kL.2.2.2.2.2.1, slotB (by go_grown) r0, slotB (by go_grown) r1, nextW hB (by go_grown)⟩
  case rest =>
    clear r0 r1 hB c1 c2 c3 c4 c5 c6 c7 c8 z
    obtain ⟨⟨g, rfl, hg, ⟨m0, -⟩, m9, -⟩, rfl, e0, e1, ⟨q0, k0⟩, ⟨q1, k1⟩, hB⟩ := hcut
    have z1 := lt_of_cell e0
    have z3 := lt_of_cell m0
    rcases td with _ | _
    · have E := HA.out
      simp at E
      obtain ⟨rfl, rfl, rfl⟩ := E
      go_wp2_with fail
      refine bodyPost_ret (v := .tuple #[.agg #[.int .i64 0, .int .i64 0], .bool false]) (by simp [results, Try.results135, go_sem, q0, q1]) rfl ⟨rfl, ?_⟩
      go_grown
    · rcases tm with _ | _
      · have E := HA.out
        simp at E
        obtain ⟨rfl, rfl, rfl⟩ := E
        go_wp2_with fail
        refine bodyPost_ret (v := .tuple #[.agg #[.int .i64 0, .int .i64 0], .bool false]) (by simp [results, Try.results135, go_sem, q0, q1]) rfl ⟨rfl, ?_⟩
        go_grown
      · have E := HA.out
        simp at E
        obtain ⟨rfl, rfl, rfl⟩ := E
        go_wp2_with fail
        refine (raAdd_any p3 p4 m1 m2 _ _ _ u3 u4 v3 v4 HR.out _).mono ?_
        rintro e w4 ⟨rfl, hb⟩
        replace hB := nextB hB (by go_size) hb
        obtain ⟨q0, k0⟩ := slotB hb ⟨q0, k0⟩
        obtain ⟨q1, k1⟩ := slotB hb ⟨q1, k1⟩
        go_wp2_with fail
        refine bodyPost_ret (by simp [results, Try.results135, go_sem, q0, q1]) rfl ⟨rfl, ?_⟩
        go_grown

end Go.Proofs.Ytkdhhopfefhdjaa
