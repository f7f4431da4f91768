/- The reference's sums, differences, products, quotients and middles of fractions. -/
import Derived.Test.YtnlapkdmjlcedaaRat3
namespace Go.Proofs.Ytnlapkdmjlcedaa
open Go.RowKit

theorem raTwo_is (n1 d1 n2 d2 : Int) (t : Bool) (h : (okQ n1 d1 && okQ n2 d2) = t) (w : World) :
    Calls Try.prog 44 #[.agg #[.int .i64 n1, .int .i64 d1], .agg #[.int .i64 n2, .int .i64 d2]] w fun e w' => e = .returned (.bool t) ∧ Below w.heap.size w w' := by
  subst h
  rcases h1 : okQ n1 d1 with _ | _
  · have H1 := Lib.hid h1
    clear h1
    go_enter Try.func44, Try.ntmps44
    go_wp2_with fail
    refine (raGood_is n1 d1 false H1.out _).mono ?_
    rintro e w1 ⟨rfl, hb⟩
    have hB : Below w.heap.size w w1 := nextB (by go_grown) (by go_size) hb
    go_wp2_with fail
    go_ret
    exact ⟨ret_bool (by simp), hB⟩
  · have H1 := Lib.hid h1
    clear h1
    go_enter Try.func44, Try.ntmps44
    go_wp2_with fail
    refine (raGood_is n1 d1 true H1.out _).mono ?_
    rintro e w1 ⟨rfl, hb⟩
    obtain ⟨hc, hf⟩ := bcell hb
    have hB : Below w.heap.size w w1 := nextB (by go_grown) (by go_size) hb
    go_wp2_with fail
    refine (raGood_is n2 d2 _ rfl _).mono ?_
    rintro e w2 ⟨rfl, hb2⟩
    have hB2 := nextW hB hb2
    clear hc hf
    go_wp2_with fail
    go_ret
    exact ⟨ret_bool (by simp), hB2⟩

set_option maxHeartbeats 400000 in
theorem raAdd_any (n1 d1 n2 d2 a b : Int) (t : Bool) (s1 : Sm n1) (s2 : Sm d1) (k1 : Sm n2) (k2 : Sm d2) (h : lowQ (n1 * d2 + n2 * d1) (d1 * d2) = (a, b, t)) (w : World) :
    Calls Try.prog 52 #[.agg #[.int .i64 n1, .int .i64 d1], .agg #[.int .i64 n2, .int .i64 d2]] w (LowEnd a b t w) := by
  have m1 := s1.mul k2
  have m2 := k1.mul s2
  have m3 := s2.mul k2
  have hs2 := s2.bd
  have HL := Lib.hid h

  clear h s1 s2 k1 k2
  go_enter Try.func52, Try.ntmps52
  go_wp2_with fail
  refine (raMake_any _ _ a b t HL.out (by omega) (by omega) _).mono ?_
  rintro e w1 ⟨rfl, hb⟩
  obtain ⟨q0, f0⟩ : Slot w1 (w.heap.size + 2) 0 (.int .i64 0) := slotB hb ⟨by simp [go_sem], by simp [go_sem]⟩
  obtain ⟨q1, f1⟩ : Slot w1 (w.heap.size + 2) 1 (.int .i64 0) := slotB hb ⟨by simp [go_sem], by simp [go_sem]⟩
  have hB : Below w.heap.size w w1 := nextB (by go_grown) (by go_size) hb
  go_wp2_with fail
  refine bodyPost_ret (v := .tuple #[.agg #[.int .i64 a, .int .i64 b], .bool t]) (by simp [results, Try.results52, go_sem, q0, q1]) rfl ⟨rfl, ?_⟩
  go_grown

set_option maxHeartbeats 400000 in
theorem raSub_any (n1 d1 n2 d2 a b : Int) (t : Bool) (s1 : Sm n1) (s2 : Sm d1) (k1 : Sm n2) (k2 : Sm d2) (h : lowQ (n1 * d2 - n2 * d1) (d1 * d2) = (a, b, t)) (w : World) :
    Calls Try.prog 55 #[.agg #[.int .i64 n1, .int .i64 d1], .agg #[.int .i64 n2, .int .i64 d2]] w (LowEnd a b t w) := by
  have m1 := s1.mul k2
  have m2 := k1.mul s2
  have m3 := s2.mul k2
  have hs2 := s2.bd
  have HL := Lib.hid h

  clear h s1 s2 k1 k2
  go_enter Try.func55, Try.ntmps55
  go_wp2_with fail
  refine (raMake_any _ _ a b t HL.out (by omega) (by omega) _).mono ?_
  rintro e w1 ⟨rfl, hb⟩
  obtain ⟨q0, f0⟩ : Slot w1 (w.heap.size + 2) 0 (.int .i64 0) := slotB hb ⟨by simp [go_sem], by simp [go_sem]⟩
  obtain ⟨q1, f1⟩ : Slot w1 (w.heap.size + 2) 1 (.int .i64 0) := slotB hb ⟨by simp [go_sem], by simp [go_sem]⟩
  have hB : Below w.heap.size w w1 := nextB (by go_grown) (by go_size) hb
  go_wp2_with fail
  refine bodyPost_ret (v := .tuple #[.agg #[.int .i64 a, .int .i64 b], .bool t]) (by simp [results, Try.results55, go_sem, q0, q1]) rfl ⟨rfl, ?_⟩
  go_grown

set_option maxHeartbeats 400000 in
theorem raMul_any (n1 d1 n2 d2 a b : Int) (t : Bool) (s1 : Sm n1) (s2 : Sm d1) (k1 : Sm n2) (k2 : Sm d2) (h : lowQ (n1 * n2) (d1 * d2) = (a, b, t)) (w : World) :
    Calls Try.prog 53 #[.agg #[.int .i64 n1, .int .i64 d1], .agg #[.int .i64 n2, .int .i64 d2]] w (LowEnd a b t w) := by
  have m1 := s1.mul k1
  have m3 := s2.mul k2
  have hs2 := s2.bd
  have HL := Lib.hid h

  clear h s1 s2 k1 k2
  go_enter Try.func53, Try.ntmps53
  go_wp2_with fail
  refine (raMake_any _ _ a b t HL.out (by omega) (by omega) _).mono ?_
  rintro e w1 ⟨rfl, hb⟩
  obtain ⟨q0, f0⟩ : Slot w1 (w.heap.size + 2) 0 (.int .i64 0) := slotB hb ⟨by simp [go_sem], by simp [go_sem]⟩
  obtain ⟨q1, f1⟩ : Slot w1 (w.heap.size + 2) 1 (.int .i64 0) := slotB hb ⟨by simp [go_sem], by simp [go_sem]⟩
  have hB : Below w.heap.size w w1 := nextB (by go_grown) (by go_size) hb
  go_wp2_with fail
  refine bodyPost_ret (v := .tuple #[.agg #[.int .i64 a, .int .i64 b], .bool t]) (by simp [results, Try.results53, go_sem, q0, q1]) rfl ⟨rfl, ?_⟩
  go_grown

set_option maxHeartbeats 400000 in
theorem raDiv_nz (n1 d1 n2 d2 a b : Int) (t : Bool) (s1 : Sm n1) (s2 : Sm d1) (k1 : Sm n2) (k2 : Sm d2) (hn0 : n2 ≠ 0) (h : lowQ (n1 * d2) (d1 * n2) = (a, b, t)) (w : World) :
    Calls Try.prog 57 #[.agg #[.int .i64 n1, .int .i64 d1], .agg #[.int .i64 n2, .int .i64 d2]] w (LowEnd a b t w) := by
  have m1 := s1.mul k2
  have m3 := s2.mul k1
  have hs2 := s2.bd
  have HL := Lib.hid h
  have hn1 : ((n2 : Int) == 0) = false := by simpa using hn0
  clear h s1 s2 k1 k2
  go_enter Try.func57, Try.ntmps57
  go_wp2_with fail
  refine (raMake_any _ _ a b t HL.out (by omega) (by omega) _).mono ?_
  rintro e w1 ⟨rfl, hb⟩
  obtain ⟨q0, f0⟩ : Slot w1 (w.heap.size + 2) 0 (.int .i64 0) := slotB hb ⟨by simp [go_sem], by simp [go_sem]⟩
  obtain ⟨q1, f1⟩ : Slot w1 (w.heap.size + 2) 1 (.int .i64 0) := slotB hb ⟨by simp [go_sem], by simp [go_sem]⟩
  have hB : Below w.heap.size w w1 := nextB (by go_grown) (by go_size) hb
  go_wp2_with fail
  refine bodyPost_ret (v := .tuple #[.agg #[.int .i64 a, .int .i64 b], .bool t]) (by simp [results, Try.results57, go_sem, q0, q1]) rfl ⟨rfl, ?_⟩
  go_grown

set_option maxHeartbeats 400000 in
theorem raDiv_zero (n1 d1 d2 : Int) (w : World) :
    Calls Try.prog 57 #[.agg #[.int .i64 n1, .int .i64 d1], .agg #[.int .i64 0, .int .i64 d2]] w (LowEnd 0 0 false w) := by
  go_enter Try.func57, Try.ntmps57
  go_wp2_with fail
  refine bodyPost_ret (v := .tuple #[.agg #[.int .i64 0, .int .i64 0], .bool false]) (by simp [results, Try.results57, go_sem]) rfl ⟨rfl, ?_⟩
  go_grown

theorem raDiv_any (n1 d1 n2 d2 a b : Int) (t : Bool) (s1 : Sm n1) (s2 : Sm d1) (k1 : Sm n2) (k2 : Sm d2) (h : lowQ (n1 * d2) (d1 * n2) = (a, b, t)) (w : World) :
    Calls Try.prog 57 #[.agg #[.int .i64 n1, .int .i64 d1], .agg #[.int .i64 n2, .int .i64 d2]] w (LowEnd a b t w) := by
  by_cases h0 : n2 = 0
  · subst h0
    rw [Int.mul_zero, lowQ_zero] at h
    simp only [Prod.mk.injEq] at h
    obtain ⟨rfl, rfl, rfl⟩ := h
    exact raDiv_zero n1 d1 d2 w
  · exact raDiv_nz n1 d1 n2 d2 a b t s1 s2 k1 k2 h0 h w

set_option maxHeartbeats 400000 in
theorem raHalf_any (n1 d1 n2 d2 a b : Int) (t : Bool) (s1 : Sm n1) (s2 : Sm d1) (k1 : Sm n2) (k2 : Sm d2) (h : lowQ (n1 * d2 + n2 * d1) (2 * d1 * d2) = (a, b, t)) (w : World) :
    Calls Try.prog 54 #[.agg #[.int .i64 n1, .int .i64 d1], .agg #[.int .i64 n2, .int .i64 d2]] w (LowEnd a b t w) := by
  have m1 := s1.mul k2
  have m2 := k1.mul s2
  have m3 := s2.two k2
  have hs2 := s2.bd
  have HL := Lib.hid h

  clear h s1 s2 k1 k2
  go_enter Try.func54, Try.ntmps54
  go_wp2_with fail
  refine (raMake_any _ _ a b t HL.out (by omega) (by omega) _).mono ?_
  rintro e w1 ⟨rfl, hb⟩
  obtain ⟨q0, f0⟩ : Slot w1 (w.heap.size + 2) 0 (.int .i64 0) := slotB hb ⟨by simp [go_sem], by simp [go_sem]⟩
  obtain ⟨q1, f1⟩ : Slot w1 (w.heap.size + 2) 1 (.int .i64 0) := slotB hb ⟨by simp [go_sem], by simp [go_sem]⟩
  have hB : Below w.heap.size w w1 := nextB (by go_grown) (by go_size) hb
  go_wp2_with fail
  refine bodyPost_ret (v := .tuple #[.agg #[.int .i64 a, .int .i64 b], .bool t]) (by simp [results, Try.results54, go_sem, q0, q1]) rfl ⟨rfl, ?_⟩
  go_grown


set_option maxHeartbeats 400000 in
theorem sAdd_yes (n1 d1 n2 d2 a b : Int) (t : Bool) (h1 : okQ n1 d1 = true) (h2 : okQ n2 d2 = true) (h : lowQ (n1 * d2 + n2 * d1) (d1 * d2) = (a, b, t)) (w : World) :
    Calls Try.prog 25 #[.agg #[.int .i64 n1, .int .i64 d1], .agg #[.int .i64 n2, .int .i64 d2]] w (LowEnd a b t w) := by
  have HA := Lib.hid (show (okQ n1 d1 && okQ n2 d2) = true by simp [h1, h2])
  have HS1 := Lib.hid (Sm.of_ok h1)
  have HS2 := Lib.hid (Sm.of_ok h2)
  have HL := Lib.hid h
  clear h h1 h2
  go_enter Try.func25, Try.ntmps25
  go_wp2_with fail
  refine (raTwo_is n1 d1 n2 d2 true HA.out _).mono ?_
  rintro e w1 ⟨rfl, hb⟩
  obtain ⟨hc, hf⟩ := bcell hb
  have s0 : Slot w1 (w.heap.size + 2) 0 (.int .i64 0) := slotB hb ⟨by simp [go_sem], by simp [go_sem]⟩
  have s1 : Slot w1 (w.heap.size + 2) 1 (.int .i64 0) := slotB hb ⟨by simp [go_sem], by simp [go_sem]⟩
  have hB : Below w.heap.size w w1 := nextB (by go_grown) (by go_size) hb
  go_wp2_with fail
  refine (raAdd_any n1 d1 n2 d2 a b t HS1.out.1 HS1.out.2 HS2.out.1 HS2.out.2 HL.out _).mono ?_
  rintro e w2 ⟨rfl, hb2⟩
  obtain ⟨q0, f0⟩ := slotB hb2 s0
  obtain ⟨q1, f1⟩ := slotB hb2 s1
  have hB2 := nextW hB hb2
  clear hc hf
  go_wp2_with fail
  refine bodyPost_ret (v := .tuple #[.agg #[.int .i64 a, .int .i64 b], .bool t]) (by simp [results, Try.results25, go_sem, q0, q1]) rfl ⟨rfl, ?_⟩
  go_grown

set_option maxHeartbeats 400000 in
theorem sAdd_no (n1 d1 n2 d2 : Int) (h : (okQ n1 d1 && okQ n2 d2) = false) (w : World) :
    Calls Try.prog 25 #[.agg #[.int .i64 n1, .int .i64 d1], .agg #[.int .i64 n2, .int .i64 d2]] w (LowEnd 0 0 false w) := by
  have HA := Lib.hid h
  clear h
  go_enter Try.func25, Try.ntmps25
  go_wp2_with fail
  refine (raTwo_is n1 d1 n2 d2 false HA.out _).mono ?_
  rintro e w1 ⟨rfl, hb⟩
  obtain ⟨q0, f0⟩ : Slot w1 (w.heap.size + 2) 0 (.int .i64 0) := slotB hb ⟨by simp [go_sem], by simp [go_sem]⟩
  obtain ⟨q1, f1⟩ : Slot w1 (w.heap.size + 2) 1 (.int .i64 0) := slotB hb ⟨by simp [go_sem], by simp [go_sem]⟩
  have hB : Below w.heap.size w w1 := nextB (by go_grown) (by go_size) hb
  go_wp2_with fail
  refine bodyPost_ret (v := .tuple #[.agg #[.int .i64 0, .int .i64 0], .bool false]) (by simp [results, Try.results25, go_sem, q0, q1]) rfl ⟨rfl, ?_⟩
  go_grown

theorem sAdd_any (n1 d1 n2 d2 a b : Int) (t : Bool) (h : addQ n1 d1 n2 d2 = (a, b, t)) (w : World) :
    Calls Try.prog 25 #[.agg #[.int .i64 n1, .int .i64 d1], .agg #[.int .i64 n2, .int .i64 d2]] w (LowEnd a b t w) := by
  unfold addQ at h
  by_cases hk : (okQ n1 d1 && okQ n2 d2) = true
  · rw [if_pos hk] at h
    simp only [Bool.and_eq_true] at hk
    exact sAdd_yes n1 d1 n2 d2 a b t hk.1 hk.2 h w
  · rw [if_neg hk] at h
    simp only [Prod.mk.injEq] at h
    obtain ⟨rfl, rfl, rfl⟩ := h
    exact sAdd_no n1 d1 n2 d2 (by simpa using hk) w


set_option maxHeartbeats 400000 in
theorem sSub_yes (n1 d1 n2 d2 a b : Int) (t : Bool) (h1 : okQ n1 d1 = true) (h2 : okQ n2 d2 = true) (h : lowQ (n1 * d2 - n2 * d1) (d1 * d2) = (a, b, t)) (w : World) :
    Calls Try.prog 31 #[.agg #[.int .i64 n1, .int .i64 d1], .agg #[.int .i64 n2, .int .i64 d2]] w (LowEnd a b t w) := by
  have HA := Lib.hid (show (okQ n1 d1 && okQ n2 d2) = true by simp [h1, h2])
  have HS1 := Lib.hid (Sm.of_ok h1)
  have HS2 := Lib.hid (Sm.of_ok h2)
  have HL := Lib.hid h
  clear h h1 h2
  go_enter Try.func31, Try.ntmps31
  go_wp2_with fail
  refine (raTwo_is n1 d1 n2 d2 true HA.out _).mono ?_
  rintro e w1 ⟨rfl, hb⟩
  obtain ⟨hc, hf⟩ := bcell hb
  have s0 : Slot w1 (w.heap.size + 2) 0 (.int .i64 0) := slotB hb ⟨by simp [go_sem], by simp [go_sem]⟩
  have s1 : Slot w1 (w.heap.size + 2) 1 (.int .i64 0) := slotB hb ⟨by simp [go_sem], by simp [go_sem]⟩
  have hB : Below w.heap.size w w1 := nextB (by go_grown) (by go_size) hb
  go_wp2_with fail
  refine (raSub_any n1 d1 n2 d2 a b t HS1.out.1 HS1.out.2 HS2.out.1 HS2.out.2 HL.out _).mono ?_
  rintro e w2 ⟨rfl, hb2⟩
  obtain ⟨q0, f0⟩ := slotB hb2 s0
  obtain ⟨q1, f1⟩ := slotB hb2 s1
  have hB2 := nextW hB hb2
  clear hc hf
  go_wp2_with fail
  refine bodyPost_ret (v := .tuple #[.agg #[.int .i64 a, .int .i64 b], .bool t]) (by simp [results, Try.results31, go_sem, q0, q1]) rfl ⟨rfl, ?_⟩
  go_grown

set_option maxHeartbeats 400000 in
theorem sSub_no (n1 d1 n2 d2 : Int) (h : (okQ n1 d1 && okQ n2 d2) = false) (w : World) :
    Calls Try.prog 31 #[.agg #[.int .i64 n1, .int .i64 d1], .agg #[.int .i64 n2, .int .i64 d2]] w (LowEnd 0 0 false w) := by
  have HA := Lib.hid h
  clear h
  go_enter Try.func31, Try.ntmps31
  go_wp2_with fail
  refine (raTwo_is n1 d1 n2 d2 false HA.out _).mono ?_
  rintro e w1 ⟨rfl, hb⟩
  obtain ⟨q0, f0⟩ : Slot w1 (w.heap.size + 2) 0 (.int .i64 0) := slotB hb ⟨by simp [go_sem], by simp [go_sem]⟩
  obtain ⟨q1, f1⟩ : Slot w1 (w.heap.size + 2) 1 (.int .i64 0) := slotB hb ⟨by simp [go_sem], by simp [go_sem]⟩
  have hB : Below w.heap.size w w1 := nextB (by go_grown) (by go_size) hb
  go_wp2_with fail
  refine bodyPost_ret (v := .tuple #[.agg #[.int .i64 0, .int .i64 0], .bool false]) (by simp [results, Try.results31, go_sem, q0, q1]) rfl ⟨rfl, ?_⟩
  go_grown

theorem sSub_any (n1 d1 n2 d2 a b : Int) (t : Bool) (h : subQ n1 d1 n2 d2 = (a, b, t)) (w : World) :
    Calls Try.prog 31 #[.agg #[.int .i64 n1, .int .i64 d1], .agg #[.int .i64 n2, .int .i64 d2]] w (LowEnd a b t w) := by
  unfold subQ at h
  by_cases hk : (okQ n1 d1 && okQ n2 d2) = true
  · rw [if_pos hk] at h
    simp only [Bool.and_eq_true] at hk
    exact sSub_yes n1 d1 n2 d2 a b t hk.1 hk.2 h w
  · rw [if_neg hk] at h
    simp only [Prod.mk.injEq] at h
    obtain ⟨rfl, rfl, rfl⟩ := h
    exact sSub_no n1 d1 n2 d2 (by simpa using hk) w


set_option maxHeartbeats 400000 in
theorem sMul_yes (n1 d1 n2 d2 a b : Int) (t : Bool) (h1 : okQ n1 d1 = true) (h2 : okQ n2 d2 = true) (h : lowQ (n1 * n2) (d1 * d2) = (a, b, t)) (w : World) :
    Calls Try.prog 27 #[.agg #[.int .i64 n1, .int .i64 d1], .agg #[.int .i64 n2, .int .i64 d2]] w (LowEnd a b t w) := by
  have HA := Lib.hid (show (okQ n1 d1 && okQ n2 d2) = true by simp [h1, h2])
  have HS1 := Lib.hid (Sm.of_ok h1)
  have HS2 := Lib.hid (Sm.of_ok h2)
  have HL := Lib.hid h
  clear h h1 h2
  go_enter Try.func27, Try.ntmps27
  go_wp2_with fail
  refine (raTwo_is n1 d1 n2 d2 true HA.out _).mono ?_
  rintro e w1 ⟨rfl, hb⟩
  obtain ⟨hc, hf⟩ := bcell hb
  have s0 : Slot w1 (w.heap.size + 2) 0 (.int .i64 0) := slotB hb ⟨by simp [go_sem], by simp [go_sem]⟩
  have s1 : Slot w1 (w.heap.size + 2) 1 (.int .i64 0) := slotB hb ⟨by simp [go_sem], by simp [go_sem]⟩
  have hB : Below w.heap.size w w1 := nextB (by go_grown) (by go_size) hb
  go_wp2_with fail
  refine (raMul_any n1 d1 n2 d2 a b t HS1.out.1 HS1.out.2 HS2.out.1 HS2.out.2 HL.out _).mono ?_
  rintro e w2 ⟨rfl, hb2⟩
  obtain ⟨q0, f0⟩ := slotB hb2 s0
  obtain ⟨q1, f1⟩ := slotB hb2 s1
  have hB2 := nextW hB hb2
  clear hc hf
  go_wp2_with fail
  refine bodyPost_ret (v := .tuple #[.agg #[.int .i64 a, .int .i64 b], .bool t]) (by simp [results, Try.results27, go_sem, q0, q1]) rfl ⟨rfl, ?_⟩
  go_grown

set_option maxHeartbeats 400000 in
theorem sMul_no (n1 d1 n2 d2 : Int) (h : (okQ n1 d1 && okQ n2 d2) = false) (w : World) :
    Calls Try.prog 27 #[.agg #[.int .i64 n1, .int .i64 d1], .agg #[.int .i64 n2, .int .i64 d2]] w (LowEnd 0 0 false w) := by
  have HA := Lib.hid h
  clear h
  go_enter Try.func27, Try.ntmps27
  go_wp2_with fail
  refine (raTwo_is n1 d1 n2 d2 false HA.out _).mono ?_
  rintro e w1 ⟨rfl, hb⟩
  obtain ⟨q0, f0⟩ : Slot w1 (w.heap.size + 2) 0 (.int .i64 0) := slotB hb ⟨by simp [go_sem], by simp [go_sem]⟩
  obtain ⟨q1, f1⟩ : Slot w1 (w.heap.size + 2) 1 (.int .i64 0) := slotB hb ⟨by simp [go_sem], by simp [go_sem]⟩
  have hB : Below w.heap.size w w1 := nextB (by go_grown) (by go_size) hb
  go_wp2_with fail
  refine bodyPost_ret (v := .tuple #[.agg #[.int .i64 0, .int .i64 0], .bool false]) (by simp [results, Try.results27, go_sem, q0, q1]) rfl ⟨rfl, ?_⟩
  go_grown

theorem sMul_any (n1 d1 n2 d2 a b : Int) (t : Bool) (h : mulQ n1 d1 n2 d2 = (a, b, t)) (w : World) :
    Calls Try.prog 27 #[.agg #[.int .i64 n1, .int .i64 d1], .agg #[.int .i64 n2, .int .i64 d2]] w (LowEnd a b t w) := by
  unfold mulQ at h
  by_cases hk : (okQ n1 d1 && okQ n2 d2) = true
  · rw [if_pos hk] at h
    simp only [Bool.and_eq_true] at hk
    exact sMul_yes n1 d1 n2 d2 a b t hk.1 hk.2 h w
  · rw [if_neg hk] at h
    simp only [Prod.mk.injEq] at h
    obtain ⟨rfl, rfl, rfl⟩ := h
    exact sMul_no n1 d1 n2 d2 (by simpa using hk) w


set_option maxHeartbeats 400000 in
theorem sDiv_yes (n1 d1 n2 d2 a b : Int) (t : Bool) (h1 : okQ n1 d1 = true) (h2 : okQ n2 d2 = true) (h : lowQ (n1 * d2) (d1 * n2) = (a, b, t)) (w : World) :
    Calls Try.prog 33 #[.agg #[.int .i64 n1, .int .i64 d1], .agg #[.int .i64 n2, .int .i64 d2]] w (LowEnd a b t w) := by
  have HA := Lib.hid (show (okQ n1 d1 && okQ n2 d2) = true by simp [h1, h2])
  have HS1 := Lib.hid (Sm.of_ok h1)
  have HS2 := Lib.hid (Sm.of_ok h2)
  have HL := Lib.hid h
  clear h h1 h2
  go_enter Try.func33, Try.ntmps33
  go_wp2_with fail
  refine (raTwo_is n1 d1 n2 d2 true HA.out _).mono ?_
  rintro e w1 ⟨rfl, hb⟩
  obtain ⟨hc, hf⟩ := bcell hb
  have s0 : Slot w1 (w.heap.size + 2) 0 (.int .i64 0) := slotB hb ⟨by simp [go_sem], by simp [go_sem]⟩
  have s1 : Slot w1 (w.heap.size + 2) 1 (.int .i64 0) := slotB hb ⟨by simp [go_sem], by simp [go_sem]⟩
  have hB : Below w.heap.size w w1 := nextB (by go_grown) (by go_size) hb
  go_wp2_with fail
  refine (raDiv_any n1 d1 n2 d2 a b t HS1.out.1 HS1.out.2 HS2.out.1 HS2.out.2 HL.out _).mono ?_
  rintro e w2 ⟨rfl, hb2⟩
  obtain ⟨q0, f0⟩ := slotB hb2 s0
  obtain ⟨q1, f1⟩ := slotB hb2 s1
  have hB2 := nextW hB hb2
  clear hc hf
  go_wp2_with fail
  refine bodyPost_ret (v := .tuple #[.agg #[.int .i64 a, .int .i64 b], .bool t]) (by simp [results, Try.results33, go_sem, q0, q1]) rfl ⟨rfl, ?_⟩
  go_grown

set_option maxHeartbeats 400000 in
theorem sDiv_no (n1 d1 n2 d2 : Int) (h : (okQ n1 d1 && okQ n2 d2) = false) (w : World) :
    Calls Try.prog 33 #[.agg #[.int .i64 n1, .int .i64 d1], .agg #[.int .i64 n2, .int .i64 d2]] w (LowEnd 0 0 false w) := by
  have HA := Lib.hid h
  clear h
  go_enter Try.func33, Try.ntmps33
  go_wp2_with fail
  refine (raTwo_is n1 d1 n2 d2 false HA.out _).mono ?_
  rintro e w1 ⟨rfl, hb⟩
  obtain ⟨q0, f0⟩ : Slot w1 (w.heap.size + 2) 0 (.int .i64 0) := slotB hb ⟨by simp [go_sem], by simp [go_sem]⟩
  obtain ⟨q1, f1⟩ : Slot w1 (w.heap.size + 2) 1 (.int .i64 0) := slotB hb ⟨by simp [go_sem], by simp [go_sem]⟩
  have hB : Below w.heap.size w w1 := nextB (by go_grown) (by go_size) hb
  go_wp2_with fail
  refine bodyPost_ret (v := .tuple #[.agg #[.int .i64 0, .int .i64 0], .bool false]) (by simp [results, Try.results33, go_sem, q0, q1]) rfl ⟨rfl, ?_⟩
  go_grown

theorem sDiv_any (n1 d1 n2 d2 a b : Int) (t : Bool) (h : divQ n1 d1 n2 d2 = (a, b, t)) (w : World) :
    Calls Try.prog 33 #[.agg #[.int .i64 n1, .int .i64 d1], .agg #[.int .i64 n2, .int .i64 d2]] w (LowEnd a b t w) := by
  unfold divQ at h
  by_cases hk : (okQ n1 d1 && okQ n2 d2) = true
  · simp only [Bool.and_eq_true] at hk
    refine sDiv_yes n1 d1 n2 d2 a b t hk.1 hk.2 ?_ w
    by_cases h0 : n2 = 0
    · subst h0
      rw [if_neg (by simp)] at h
      rw [Int.mul_zero, lowQ_zero]; exact h
    · rw [if_pos ⟨by simp [hk.1, hk.2], h0⟩] at h
      exact h
  · rw [if_neg (fun hh => hk hh.1)] at h
    simp only [Prod.mk.injEq] at h
    obtain ⟨rfl, rfl, rfl⟩ := h
    exact sDiv_no n1 d1 n2 d2 (by simpa using hk) w


set_option maxHeartbeats 400000 in
theorem sMid_yes (n1 d1 n2 d2 a b : Int) (t : Bool) (h1 : okQ n1 d1 = true) (h2 : okQ n2 d2 = true) (h : lowQ (n1 * d2 + n2 * d1) (2 * d1 * d2) = (a, b, t)) (w : World) :
    Calls Try.prog 29 #[.agg #[.int .i64 n1, .int .i64 d1], .agg #[.int .i64 n2, .int .i64 d2]] w (LowEnd a b t w) := by
  have HA := Lib.hid (show (okQ n1 d1 && okQ n2 d2) = true by simp [h1, h2])
  have HS1 := Lib.hid (Sm.of_ok h1)
  have HS2 := Lib.hid (Sm.of_ok h2)
  have HL := Lib.hid h
  clear h h1 h2
  go_enter Try.func29, Try.ntmps29
  go_wp2_with fail
  refine (raTwo_is n1 d1 n2 d2 true HA.out _).mono ?_
  rintro e w1 ⟨rfl, hb⟩
  obtain ⟨hc, hf⟩ := bcell hb
  have s0 : Slot w1 (w.heap.size + 2) 0 (.int .i64 0) := slotB hb ⟨by simp [go_sem], by simp [go_sem]⟩
  have s1 : Slot w1 (w.heap.size + 2) 1 (.int .i64 0) := slotB hb ⟨by simp [go_sem], by simp [go_sem]⟩
  have hB : Below w.heap.size w w1 := nextB (by go_grown) (by go_size) hb
  go_wp2_with fail
  refine (raHalf_any n1 d1 n2 d2 a b t HS1.out.1 HS1.out.2 HS2.out.1 HS2.out.2 HL.out _).mono ?_
  rintro e w2 ⟨rfl, hb2⟩
  obtain ⟨q0, f0⟩ := slotB hb2 s0
  obtain ⟨q1, f1⟩ := slotB hb2 s1
  have hB2 := nextW hB hb2
  clear hc hf
  go_wp2_with fail
  refine bodyPost_ret (v := .tuple #[.agg #[.int .i64 a, .int .i64 b], .bool t]) (by simp [results, Try.results29, go_sem, q0, q1]) rfl ⟨rfl, ?_⟩
  go_grown

set_option maxHeartbeats 400000 in
theorem sMid_no (n1 d1 n2 d2 : Int) (h : (okQ n1 d1 && okQ n2 d2) = false) (w : World) :
    Calls Try.prog 29 #[.agg #[.int .i64 n1, .int .i64 d1], .agg #[.int .i64 n2, .int .i64 d2]] w (LowEnd 0 0 false w) := by
  have HA := Lib.hid h
  clear h
  go_enter Try.func29, Try.ntmps29
  go_wp2_with fail
  refine (raTwo_is n1 d1 n2 d2 false HA.out _).mono ?_
  rintro e w1 ⟨rfl, hb⟩
  obtain ⟨q0, f0⟩ : Slot w1 (w.heap.size + 2) 0 (.int .i64 0) := slotB hb ⟨by simp [go_sem], by simp [go_sem]⟩
  obtain ⟨q1, f1⟩ : Slot w1 (w.heap.size + 2) 1 (.int .i64 0) := slotB hb ⟨by simp [go_sem], by simp [go_sem]⟩
  have hB : Below w.heap.size w w1 := nextB (by go_grown) (by go_size) hb
  go_wp2_with fail
  refine bodyPost_ret (v := .tuple #[.agg #[.int .i64 0, .int .i64 0], .bool false]) (by simp [results, Try.results29, go_sem, q0, q1]) rfl ⟨rfl, ?_⟩
  go_grown

theorem sMid_any (n1 d1 n2 d2 a b : Int) (t : Bool) (h : midQ n1 d1 n2 d2 = (a, b, t)) (w : World) :
    Calls Try.prog 29 #[.agg #[.int .i64 n1, .int .i64 d1], .agg #[.int .i64 n2, .int .i64 d2]] w (LowEnd a b t w) := by
  unfold midQ at h
  by_cases hk : (okQ n1 d1 && okQ n2 d2) = true
  · rw [if_pos hk] at h
    simp only [Bool.and_eq_true] at hk
    exact sMid_yes n1 d1 n2 d2 a b t hk.1 hk.2 h w
  · rw [if_neg hk] at h
    simp only [Prod.mk.injEq] at h
    obtain ⟨rfl, rfl, rfl⟩ := h
    exact sMid_no n1 d1 n2 d2 (by simpa using hk) w


end Go.Proofs.Ytnlapkdmjlcedaa
