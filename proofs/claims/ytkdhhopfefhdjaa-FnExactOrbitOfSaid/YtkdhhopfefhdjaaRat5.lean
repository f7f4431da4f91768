/- AddRats, MultiplyRats, DivideRats and MiddleOf of the program, for all fractions. -/
import Derived.Test.YtkdhhopfefhdjaaRat4
namespace Go.Proofs.Ytkdhhopfefhdjaa
open Go.RowKit

set_option maxHeartbeats 400000 in
theorem addRats_yes (n1 d1 n2 d2 a b : Int) (t : Bool) (h1 : okQ n1 d1 = true) (h2 : okQ n2 d2 = true) (h : lowQ (n1 * d2 + n2 * d1) (d1 * d2) = (a, b, t)) (w : World) :
    Calls Try.prog 173 #[.agg #[.int .i64 n1, .int .i64 d1], .agg #[.int .i64 n2, .int .i64 d2]] w (LowEnd a b t w) := by
  obtain ⟨a1, a2, a3, a4⟩ := okQ_bd h1
  obtain ⟨b1, b2, b3, b4⟩ := okQ_bd h2
  obtain ⟨s1, s2⟩ := Sm.of_ok h1
  obtain ⟨k1, k2⟩ := Sm.of_ok h2
  have m1 := s1.mul k2
  have m2 := k1.mul s2
  have m3 := s2.mul k2
  have m4 : 0 < d1 * d2 := Int.mul_pos (by omega) (by omega)
  clear s1 s2 k1 k2
  have HA := Lib.hid (show [(n1, d1), (n2, d2)].all (fun q => okQ q.1 q.2) = true by simp [h1, h2])
  have HL := Lib.hid h
  clear h h1 h2
  go_enter Try.func173, Try.ntmps173
  go_wp2_with fail
  refine (areRats_any [(n1, d1), (n2, d2)] _ true _ (RdQ.two (by simp) (by simp [go_sem]) (by simp [go_sem]) (by simp [go_sem]) (by simp [go_sem])) HA.out).mono ?_
  rintro e w1 ⟨rfl, hb⟩
  obtain ⟨hc, hf⟩ := bcell hb
  have s0 : Slot w1 (w.heap.size + 2) 0 (.int .i64 0) := slotB hb ⟨by simp [go_sem], by simp [go_sem]⟩
  have s1 : Slot w1 (w.heap.size + 2) 1 (.int .i64 0) := slotB hb ⟨by simp [go_sem], by simp [go_sem]⟩
  have hB : Below w.heap.size w w1 := nextB (by go_grown) (by go_size) hb
  go_wp2_with fail
  refine (lowest_any _ _ a b t HL.out (by omega) (by omega) (by omega) _).mono ?_
  rintro e w2 ⟨rfl, hb2⟩
  obtain ⟨q0, f0⟩ := slotB hb2 s0
  obtain ⟨q1, f1⟩ := slotB hb2 s1
  have hB2 := nextW hB hb2
  clear hc hf
  go_wp2_with fail
  refine bodyPost_ret (v := .tuple #[.agg #[.int .i64 a, .int .i64 b], .bool t]) (by simp [results, Try.results173, go_sem, q0, q1]) rfl ⟨rfl, ?_⟩
  go_grown

set_option maxHeartbeats 400000 in
theorem addRats_no (n1 d1 n2 d2 : Int) (h : (okQ n1 d1 && okQ n2 d2) = false) (w : World) :
    Calls Try.prog 173 #[.agg #[.int .i64 n1, .int .i64 d1], .agg #[.int .i64 n2, .int .i64 d2]] w (LowEnd 0 0 false w) := by
  have HA := Lib.hid (show [(n1, d1), (n2, d2)].all (fun q => okQ q.1 q.2) = false by simpa using h)
  clear h
  go_enter Try.func173, Try.ntmps173
  go_wp2_with fail
  refine (areRats_any [(n1, d1), (n2, d2)] _ false _ (RdQ.two (by simp) (by simp [go_sem]) (by simp [go_sem]) (by simp [go_sem]) (by simp [go_sem])) HA.out).mono ?_
  rintro e w1 ⟨rfl, hb⟩
  obtain ⟨q0, f0⟩ : Slot w1 (w.heap.size + 2) 0 (.int .i64 0) := slotB hb ⟨by simp [go_sem], by simp [go_sem]⟩
  obtain ⟨q1, f1⟩ : Slot w1 (w.heap.size + 2) 1 (.int .i64 0) := slotB hb ⟨by simp [go_sem], by simp [go_sem]⟩
  have hB : Below w.heap.size w w1 := nextB (by go_grown) (by go_size) hb
  go_wp2_with fail
  refine bodyPost_ret (v := .tuple #[.agg #[.int .i64 0, .int .i64 0], .bool false]) (by simp [results, Try.results173, go_sem, q0, q1]) rfl ⟨rfl, ?_⟩
  go_grown

theorem addRats_any (n1 d1 n2 d2 a b : Int) (t : Bool) (h : addQ n1 d1 n2 d2 = (a, b, t)) (w : World) :
    Calls Try.prog 173 #[.agg #[.int .i64 n1, .int .i64 d1], .agg #[.int .i64 n2, .int .i64 d2]] w (LowEnd a b t w) := by
  unfold addQ at h
  by_cases hk : (okQ n1 d1 && okQ n2 d2) = true
  · rw [if_pos hk] at h
    simp only [Bool.and_eq_true] at hk
    exact addRats_yes n1 d1 n2 d2 a b t hk.1 hk.2 h w
  · rw [if_neg hk] at h
    simp only [Prod.mk.injEq] at h
    obtain ⟨rfl, rfl, rfl⟩ := h
    exact addRats_no n1 d1 n2 d2 (by simpa using hk) w

set_option maxHeartbeats 400000 in
theorem mulRats_yes (n1 d1 n2 d2 a b : Int) (t : Bool) (h1 : okQ n1 d1 = true) (h2 : okQ n2 d2 = true) (h : lowQ (n1 * n2) (d1 * d2) = (a, b, t)) (w : World) :
    Calls Try.prog 171 #[.agg #[.int .i64 n1, .int .i64 d1], .agg #[.int .i64 n2, .int .i64 d2]] w (LowEnd a b t w) := by
  obtain ⟨a1, a2, a3, a4⟩ := okQ_bd h1
  obtain ⟨b1, b2, b3, b4⟩ := okQ_bd h2
  obtain ⟨s1, s2⟩ := Sm.of_ok h1
  obtain ⟨k1, k2⟩ := Sm.of_ok h2
  have m1 := s1.mul k1
  have m3 := s2.mul k2
  have m4 : 0 < d1 * d2 := Int.mul_pos (by omega) (by omega)
  clear s1 s2 k1 k2
  have HA := Lib.hid (show [(n1, d1), (n2, d2)].all (fun q => okQ q.1 q.2) = true by simp [h1, h2])
  have HL := Lib.hid h
  clear h h1 h2
  go_enter Try.func171, Try.ntmps171
  go_wp2_with fail
  refine (areRats_any [(n1, d1), (n2, d2)] _ true _ (RdQ.two (by simp) (by simp [go_sem]) (by simp [go_sem]) (by simp [go_sem]) (by simp [go_sem])) HA.out).mono ?_
  rintro e w1 ⟨rfl, hb⟩
  obtain ⟨hc, hf⟩ := bcell hb
  have s0 : Slot w1 (w.heap.size + 2) 0 (.int .i64 0) := slotB hb ⟨by simp [go_sem], by simp [go_sem]⟩
  have s1 : Slot w1 (w.heap.size + 2) 1 (.int .i64 0) := slotB hb ⟨by simp [go_sem], by simp [go_sem]⟩
  have hB : Below w.heap.size w w1 := nextB (by go_grown) (by go_size) hb
  go_wp2_with fail
  refine (lowest_any _ _ a b t HL.out (by omega) (by omega) (by omega) _).mono ?_
  rintro e w2 ⟨rfl, hb2⟩
  obtain ⟨q0, f0⟩ := slotB hb2 s0
  obtain ⟨q1, f1⟩ := slotB hb2 s1
  have hB2 := nextW hB hb2
  clear hc hf
  go_wp2_with fail
  refine bodyPost_ret (v := .tuple #[.agg #[.int .i64 a, .int .i64 b], .bool t]) (by simp [results, Try.results171, go_sem, q0, q1]) rfl ⟨rfl, ?_⟩
  go_grown

set_option maxHeartbeats 400000 in
theorem mulRats_no (n1 d1 n2 d2 : Int) (h : (okQ n1 d1 && okQ n2 d2) = false) (w : World) :
    Calls Try.prog 171 #[.agg #[.int .i64 n1, .int .i64 d1], .agg #[.int .i64 n2, .int .i64 d2]] w (LowEnd 0 0 false w) := by
  have HA := Lib.hid (show [(n1, d1), (n2, d2)].all (fun q => okQ q.1 q.2) = false by simpa using h)
  clear h
  go_enter Try.func171, Try.ntmps171
  go_wp2_with fail
  refine (areRats_any [(n1, d1), (n2, d2)] _ false _ (RdQ.two (by simp) (by simp [go_sem]) (by simp [go_sem]) (by simp [go_sem]) (by simp [go_sem])) HA.out).mono ?_
  rintro e w1 ⟨rfl, hb⟩
  obtain ⟨q0, f0⟩ : Slot w1 (w.heap.size + 2) 0 (.int .i64 0) := slotB hb ⟨by simp [go_sem], by simp [go_sem]⟩
  obtain ⟨q1, f1⟩ : Slot w1 (w.heap.size + 2) 1 (.int .i64 0) := slotB hb ⟨by simp [go_sem], by simp [go_sem]⟩
  have hB : Below w.heap.size w w1 := nextB (by go_grown) (by go_size) hb
  go_wp2_with fail
  refine bodyPost_ret (v := .tuple #[.agg #[.int .i64 0, .int .i64 0], .bool false]) (by simp [results, Try.results171, go_sem, q0, q1]) rfl ⟨rfl, ?_⟩
  go_grown

theorem mulRats_any (n1 d1 n2 d2 a b : Int) (t : Bool) (h : mulQ n1 d1 n2 d2 = (a, b, t)) (w : World) :
    Calls Try.prog 171 #[.agg #[.int .i64 n1, .int .i64 d1], .agg #[.int .i64 n2, .int .i64 d2]] w (LowEnd a b t w) := by
  unfold mulQ at h
  by_cases hk : (okQ n1 d1 && okQ n2 d2) = true
  · rw [if_pos hk] at h
    simp only [Bool.and_eq_true] at hk
    exact mulRats_yes n1 d1 n2 d2 a b t hk.1 hk.2 h w
  · rw [if_neg hk] at h
    simp only [Prod.mk.injEq] at h
    obtain ⟨rfl, rfl, rfl⟩ := h
    exact mulRats_no n1 d1 n2 d2 (by simpa using hk) w

set_option maxHeartbeats 400000 in
theorem divRats_yes (n1 d1 n2 d2 a b : Int) (t : Bool) (h1 : okQ n1 d1 = true) (h2 : okQ n2 d2 = true) (hn0 : n2 ≠ 0) (h : lowQ (n1 * d2) (d1 * n2) = (a, b, t)) (w : World) :
    Calls Try.prog 174 #[.agg #[.int .i64 n1, .int .i64 d1], .agg #[.int .i64 n2, .int .i64 d2]] w (LowEnd a b t w) := by
  obtain ⟨a1, a2, a3, a4⟩ := okQ_bd h1
  obtain ⟨b1, b2, b3, b4⟩ := okQ_bd h2
  obtain ⟨s1, s2⟩ := Sm.of_ok h1
  obtain ⟨k1, k2⟩ := Sm.of_ok h2
  have m1 := s1.mul k2
  have m3 := s2.mul k1
  have m4 : d1 * n2 ≠ 0 := Int.mul_ne_zero (by omega) hn0
  clear s1 s2 k1 k2
  have HA := Lib.hid (show [(n1, d1), (n2, d2)].all (fun q => okQ q.1 q.2) = true by simp [h1, h2])
  have HL := Lib.hid h
  have hn1 : ((n2 : Int) == 0) = false := by simpa using hn0
  clear h h1 h2
  go_enter Try.func174, Try.ntmps174
  go_wp2_with fail
  refine (areRats_any [(n1, d1), (n2, d2)] _ true _ (RdQ.two (by simp) (by simp [go_sem]) (by simp [go_sem]) (by simp [go_sem]) (by simp [go_sem])) HA.out).mono ?_
  rintro e w1 ⟨rfl, hb⟩
  obtain ⟨hc, hf⟩ := bcell hb
  have s0 : Slot w1 (w.heap.size + 2) 0 (.int .i64 0) := slotB hb ⟨by simp [go_sem], by simp [go_sem]⟩
  have s1 : Slot w1 (w.heap.size + 2) 1 (.int .i64 0) := slotB hb ⟨by simp [go_sem], by simp [go_sem]⟩
  have hB : Below w.heap.size w w1 := nextB (by go_grown) (by go_size) hb
  go_wp2_with fail
  refine (lowest_any _ _ a b t HL.out (by omega) m4 (by omega) _).mono ?_
  rintro e w2 ⟨rfl, hb2⟩
  obtain ⟨q0, f0⟩ := slotB hb2 s0
  obtain ⟨q1, f1⟩ := slotB hb2 s1
  have hB2 := nextW hB hb2
  clear hc hf
  go_wp2_with fail
  refine bodyPost_ret (v := .tuple #[.agg #[.int .i64 a, .int .i64 b], .bool t]) (by simp [results, Try.results174, go_sem, q0, q1]) rfl ⟨rfl, ?_⟩
  go_grown

set_option maxHeartbeats 400000 in
theorem divRats_no (n1 d1 n2 d2 : Int) (h : (okQ n1 d1 && okQ n2 d2) = false) (w : World) :
    Calls Try.prog 174 #[.agg #[.int .i64 n1, .int .i64 d1], .agg #[.int .i64 n2, .int .i64 d2]] w (LowEnd 0 0 false w) := by
  have HA := Lib.hid (show [(n1, d1), (n2, d2)].all (fun q => okQ q.1 q.2) = false by simpa using h)
  clear h
  go_enter Try.func174, Try.ntmps174
  go_wp2_with fail
  refine (areRats_any [(n1, d1), (n2, d2)] _ false _ (RdQ.two (by simp) (by simp [go_sem]) (by simp [go_sem]) (by simp [go_sem]) (by simp [go_sem])) HA.out).mono ?_
  rintro e w1 ⟨rfl, hb⟩
  obtain ⟨q0, f0⟩ : Slot w1 (w.heap.size + 2) 0 (.int .i64 0) := slotB hb ⟨by simp [go_sem], by simp [go_sem]⟩
  obtain ⟨q1, f1⟩ : Slot w1 (w.heap.size + 2) 1 (.int .i64 0) := slotB hb ⟨by simp [go_sem], by simp [go_sem]⟩
  have hB : Below w.heap.size w w1 := nextB (by go_grown) (by go_size) hb
  go_wp2_with fail
  refine bodyPost_ret (v := .tuple #[.agg #[.int .i64 0, .int .i64 0], .bool false]) (by simp [results, Try.results174, go_sem, q0, q1]) rfl ⟨rfl, ?_⟩
  go_grown

set_option maxHeartbeats 400000 in
theorem divRats_zero (n1 d1 d2 : Int) (h : (okQ n1 d1 && okQ 0 d2) = true) (w : World) :
    Calls Try.prog 174 #[.agg #[.int .i64 n1, .int .i64 d1], .agg #[.int .i64 0, .int .i64 d2]] w (LowEnd 0 0 false w) := by
  have HA := Lib.hid (show [(n1, d1), (0, d2)].all (fun q => okQ q.1 q.2) = true by simpa using h)
  clear h
  go_enter Try.func174, Try.ntmps174
  go_wp2_with fail
  refine (areRats_any [(n1, d1), (0, d2)] _ true _ (RdQ.two (by simp) (by simp [go_sem]) (by simp [go_sem]) (by simp [go_sem]) (by simp [go_sem])) HA.out).mono ?_
  rintro e w1 ⟨rfl, hb⟩
  have c0 : w1.cell? ⟨w.heap.size + 1, 0, none⟩ = some (.int .i64 0) := cellB hb (by simp [go_sem])
  obtain ⟨q0, f0⟩ : Slot w1 (w.heap.size + 2) 0 (.int .i64 0) := slotB hb ⟨by simp [go_sem], by simp [go_sem]⟩
  obtain ⟨q1, f1⟩ : Slot w1 (w.heap.size + 2) 1 (.int .i64 0) := slotB hb ⟨by simp [go_sem], by simp [go_sem]⟩
  have hB : Below w.heap.size w w1 := nextB (by go_grown) (by go_size) hb
  go_wp2_with fail
  refine bodyPost_ret (v := .tuple #[.agg #[.int .i64 0, .int .i64 0], .bool false]) (by simp [results, Try.results174, go_sem, q0, q1]) rfl ⟨rfl, ?_⟩
  go_grown

theorem divRats_any (n1 d1 n2 d2 a b : Int) (t : Bool) (h : divQ n1 d1 n2 d2 = (a, b, t)) (w : World) :
    Calls Try.prog 174 #[.agg #[.int .i64 n1, .int .i64 d1], .agg #[.int .i64 n2, .int .i64 d2]] w (LowEnd a b t w) := by
  unfold divQ at h
  by_cases hk : (okQ n1 d1 && okQ n2 d2) = true
  · by_cases h0 : n2 = 0
    · subst h0
      rw [if_neg (by simp)] at h
      simp only [Prod.mk.injEq] at h
      obtain ⟨rfl, rfl, rfl⟩ := h
      exact divRats_zero n1 d1 d2 hk w
    · rw [if_pos ⟨hk, h0⟩] at h
      simp only [Bool.and_eq_true] at hk
      exact divRats_yes n1 d1 n2 d2 a b t hk.1 hk.2 h0 h w
  · rw [if_neg (fun hh => hk hh.1)] at h
    simp only [Prod.mk.injEq] at h
    obtain ⟨rfl, rfl, rfl⟩ := h
    exact divRats_no n1 d1 n2 d2 (by simpa using hk) w

end Go.Proofs.Ytkdhhopfefhdjaa
