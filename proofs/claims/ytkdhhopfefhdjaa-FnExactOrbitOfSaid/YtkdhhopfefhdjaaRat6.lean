/- The reference's sums, differences, products, quotients and middles of fractions. -/
import Derived.Test.YtkdhhopfefhdjaaRat3
namespace Go.Proofs.Ytkdhhopfefhdjaa
open Go.RowKit


set_option maxHeartbeats 400000 in
theorem raAdd_any (n1 d1 n2 d2 a b : Int) (t : Bool) (s1 : Sm n1) (s2 : Sm d1) (k1 : Sm n2) (k2 : Sm d2) (h : lowQ (n1 * d2 + n2 * d1) (d1 * d2) = (a, b, t)) (w : World) :
    Calls Try.prog 161 #[.agg #[.int .i64 n1, .int .i64 d1], .agg #[.int .i64 n2, .int .i64 d2]] w (LowEnd a b t w) := by
  have m1 := s1.mul k2
  have m2 := k1.mul s2
  have m3 := s2.mul k2
  have hs2 := s2.bd
  have HL := Lib.hid h

  clear h s1 s2 k1 k2
  go_enter Try.func161, Try.ntmps161
  go_wp2_with fail
  refine (raMake_any _ _ a b t HL.out (by omega) (by omega) _).mono ?_
  rintro e w1 ⟨rfl, hb⟩
  obtain ⟨q0, f0⟩ : Slot w1 (w.heap.size + 2) 0 (.int .i64 0) := slotB hb ⟨by simp [go_sem], by simp [go_sem]⟩
  obtain ⟨q1, f1⟩ : Slot w1 (w.heap.size + 2) 1 (.int .i64 0) := slotB hb ⟨by simp [go_sem], by simp [go_sem]⟩
  have hB : Below w.heap.size w w1 := nextB (by go_grown) (by go_size) hb
  go_wp2_with fail
  refine bodyPost_ret (v := .tuple #[.agg #[.int .i64 a, .int .i64 b], .bool t]) (by simp [results, Try.results161, go_sem, q0, q1]) rfl ⟨rfl, ?_⟩
  go_grown

set_option maxHeartbeats 400000 in
theorem raSub_any (n1 d1 n2 d2 a b : Int) (t : Bool) (s1 : Sm n1) (s2 : Sm d1) (k1 : Sm n2) (k2 : Sm d2) (h : lowQ (n1 * d2 - n2 * d1) (d1 * d2) = (a, b, t)) (w : World) :
    Calls Try.prog 151 #[.agg #[.int .i64 n1, .int .i64 d1], .agg #[.int .i64 n2, .int .i64 d2]] w (LowEnd a b t w) := by
  have m1 := s1.mul k2
  have m2 := k1.mul s2
  have m3 := s2.mul k2
  have hs2 := s2.bd
  have HL := Lib.hid h

  clear h s1 s2 k1 k2
  go_enter Try.func151, Try.ntmps151
  go_wp2_with fail
  refine (raMake_any _ _ a b t HL.out (by omega) (by omega) _).mono ?_
  rintro e w1 ⟨rfl, hb⟩
  obtain ⟨q0, f0⟩ : Slot w1 (w.heap.size + 2) 0 (.int .i64 0) := slotB hb ⟨by simp [go_sem], by simp [go_sem]⟩
  obtain ⟨q1, f1⟩ : Slot w1 (w.heap.size + 2) 1 (.int .i64 0) := slotB hb ⟨by simp [go_sem], by simp [go_sem]⟩
  have hB : Below w.heap.size w w1 := nextB (by go_grown) (by go_size) hb
  go_wp2_with fail
  refine bodyPost_ret (v := .tuple #[.agg #[.int .i64 a, .int .i64 b], .bool t]) (by simp [results, Try.results151, go_sem, q0, q1]) rfl ⟨rfl, ?_⟩
  go_grown

set_option maxHeartbeats 400000 in
theorem raMul_any (n1 d1 n2 d2 a b : Int) (t : Bool) (s1 : Sm n1) (s2 : Sm d1) (k1 : Sm n2) (k2 : Sm d2) (h : lowQ (n1 * n2) (d1 * d2) = (a, b, t)) (w : World) :
    Calls Try.prog 120 #[.agg #[.int .i64 n1, .int .i64 d1], .agg #[.int .i64 n2, .int .i64 d2]] w (LowEnd a b t w) := by
  have m1 := s1.mul k1
  have m3 := s2.mul k2
  have hs2 := s2.bd
  have HL := Lib.hid h

  clear h s1 s2 k1 k2
  go_enter Try.func120, Try.ntmps120
  go_wp2_with fail
  refine (raMake_any _ _ a b t HL.out (by omega) (by omega) _).mono ?_
  rintro e w1 ⟨rfl, hb⟩
  obtain ⟨q0, f0⟩ : Slot w1 (w.heap.size + 2) 0 (.int .i64 0) := slotB hb ⟨by simp [go_sem], by simp [go_sem]⟩
  obtain ⟨q1, f1⟩ : Slot w1 (w.heap.size + 2) 1 (.int .i64 0) := slotB hb ⟨by simp [go_sem], by simp [go_sem]⟩
  have hB : Below w.heap.size w w1 := nextB (by go_grown) (by go_size) hb
  go_wp2_with fail
  refine bodyPost_ret (v := .tuple #[.agg #[.int .i64 a, .int .i64 b], .bool t]) (by simp [results, Try.results120, go_sem, q0, q1]) rfl ⟨rfl, ?_⟩
  go_grown

set_option maxHeartbeats 400000 in
theorem raDiv_nz (n1 d1 n2 d2 a b : Int) (t : Bool) (s1 : Sm n1) (s2 : Sm d1) (k1 : Sm n2) (k2 : Sm d2) (hn0 : n2 ≠ 0) (h : lowQ (n1 * d2) (d1 * n2) = (a, b, t)) (w : World) :
    Calls Try.prog 166 #[.agg #[.int .i64 n1, .int .i64 d1], .agg #[.int .i64 n2, .int .i64 d2]] w (LowEnd a b t w) := by
  have m1 := s1.mul k2
  have m3 := s2.mul k1
  have hs2 := s2.bd
  have HL := Lib.hid h
  have hn1 : ((n2 : Int) == 0) = false := by simpa using hn0
  clear h s1 s2 k1 k2
  go_enter Try.func166, Try.ntmps166
  go_wp2_with fail
  refine (raMake_any _ _ a b t HL.out (by omega) (by omega) _).mono ?_
  rintro e w1 ⟨rfl, hb⟩
  obtain ⟨q0, f0⟩ : Slot w1 (w.heap.size + 2) 0 (.int .i64 0) := slotB hb ⟨by simp [go_sem], by simp [go_sem]⟩
  obtain ⟨q1, f1⟩ : Slot w1 (w.heap.size + 2) 1 (.int .i64 0) := slotB hb ⟨by simp [go_sem], by simp [go_sem]⟩
  have hB : Below w.heap.size w w1 := nextB (by go_grown) (by go_size) hb
  go_wp2_with fail
  refine bodyPost_ret (v := .tuple #[.agg #[.int .i64 a, .int .i64 b], .bool t]) (by simp [results, Try.results166, go_sem, q0, q1]) rfl ⟨rfl, ?_⟩
  go_grown

set_option maxHeartbeats 400000 in
theorem raDiv_zero (n1 d1 d2 : Int) (w : World) :
    Calls Try.prog 166 #[.agg #[.int .i64 n1, .int .i64 d1], .agg #[.int .i64 0, .int .i64 d2]] w (LowEnd 0 0 false w) := by
  go_enter Try.func166, Try.ntmps166
  go_wp2_with fail
  refine bodyPost_ret (v := .tuple #[.agg #[.int .i64 0, .int .i64 0], .bool false]) (by simp [results, Try.results166, go_sem]) rfl ⟨rfl, ?_⟩
  go_grown

theorem raDiv_any (n1 d1 n2 d2 a b : Int) (t : Bool) (s1 : Sm n1) (s2 : Sm d1) (k1 : Sm n2) (k2 : Sm d2) (h : lowQ (n1 * d2) (d1 * n2) = (a, b, t)) (w : World) :
    Calls Try.prog 166 #[.agg #[.int .i64 n1, .int .i64 d1], .agg #[.int .i64 n2, .int .i64 d2]] w (LowEnd a b t w) := by
  by_cases h0 : n2 = 0
  · subst h0
    rw [Int.mul_zero, lowQ_zero] at h
    simp only [Prod.mk.injEq] at h
    obtain ⟨rfl, rfl, rfl⟩ := h
    exact raDiv_zero n1 d1 d2 w
  · exact raDiv_nz n1 d1 n2 d2 a b t s1 s2 k1 k2 h0 h w

end Go.Proofs.Ytkdhhopfefhdjaa
