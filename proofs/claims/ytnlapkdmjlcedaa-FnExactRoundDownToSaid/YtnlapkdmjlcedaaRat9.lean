/- FloorOf, RoundDownTo, MakeRat, IsRat and CompareRats: of the program and of the reference. -/
import Derived.Test.YtnlapkdmjlcedaaRat6
import Derived.Test.YtnlapkdmjlcedaaRat8
namespace Go.Proofs.Ytnlapkdmjlcedaa
open Go.RowKit

theorem implIsRat_any (n d : Int) (w : World) :
    Calls Try.prog 17 #[.agg #[.int .i64 n, .int .i64 d]] w fun e w' => e = .returned (.bool (okQ n d)) ∧ Below w.heap.size w w' := by
  go_enter Try.func17, Try.ntmps17
  go_wp2_with fail
  refine (isRat_any n d _).mono ?_
  rintro e w1 ⟨rfl, hb⟩
  have hB : Below w.heap.size w w1 := nextB (by go_grown) (by go_size) hb
  go_wp2_with fail
  go_ret
  exact ⟨rfl, hB⟩

theorem specIsRat_any (n d : Int) (w : World) :
    Calls Try.prog 15 #[.agg #[.int .i64 n, .int .i64 d]] w fun e w' => e = .returned (.bool (okQ n d)) ∧ Below w.heap.size w w' := by
  go_enter Try.func15, Try.ntmps15
  go_wp2_with fail
  refine (raGood_any n d _).mono ?_
  rintro e w1 ⟨rfl, hb⟩
  have hB : Below w.heap.size w w1 := nextB (by go_grown) (by go_size) hb
  go_wp2_with fail
  go_ret
  exact ⟨rfl, hB⟩

set_option maxHeartbeats 400000 in
theorem raDown_any (a b : Int) (ha : -4000000000000000000 ≤ a ∧ a ≤ 4000000000000000000) (hb : 1 ≤ b) (hb2 : b ≤ 1000000000) (w : World) :
    Calls Try.prog 58 #[.int .i64 a, .int .i64 b] w fun e w' => e = .returned (.int .i64 (downQ a b)) ∧ w' = w := by
  have h1 := tdiv_bd b (m := 4000000000000000000) (by omega : -4000000000000000000 ≤ a ∧ a ≤ 4000000000000000000)
  have h2 := tmod_bd (a := a) hb hb2
  by_cases hn : a.tmod b < 0
  · have HD := Lib.hid (show downQ a b = a.tdiv b - 1 by unfold downQ; rw [if_pos hn])
    by_cases h0 : 0 ≤ a
    · have := Int.tmod_nonneg b h0; omega
    · go_enter Try.func58, Try.ntmps58
      go_wp2
      go_ret
      exact ⟨ret_int HD.out.symm, rfl⟩
  · have HD := Lib.hid (show downQ a b = a.tdiv b by unfold downQ; rw [if_neg hn])
    go_enter Try.func58, Try.ntmps58
    go_wp2
    all_goals go_ret
    all_goals exact ⟨ret_int HD.out.symm, rfl⟩

theorem impl_floor (n d : Int) (h : okQ n d = true) (w : World) :
    Calls Try.prog 43 #[.agg #[.int .i64 n, .int .i64 d]] w fun e w' => e = .returned (.int .i64 (downQ n d)) ∧ Below w.heap.size w w' := by
  obtain ⟨a1, a2, a3, a4⟩ := okQ_bd h
  clear h
  go_enter Try.func43, Try.ntmps43
  go_wp2_with fail
  refine (floorDivide_any n d (by omega) a1 a2 _).mono ?_
  rintro e w1 ⟨rfl, rfl⟩
  go_wp2_with fail
  go_ret
  exact ⟨rfl, by go_grown⟩

theorem implFloorOf_yes (n d : Int) (h : okQ n d = true) (w : World) :
    Calls Try.prog 19 #[.agg #[.int .i64 n, .int .i64 d]] w fun e w' => e = .returned (.tuple #[.int .i64 (downQ n d), .bool true]) ∧ Below w.heap.size w w' := by
  have HS := Lib.hid h
  clear h
  go_enter Try.func19, Try.ntmps19
  go_wp2_with fail
  refine (isRat_is n d true HS.out _).mono ?_
  rintro e w1 ⟨rfl, hb⟩
  obtain ⟨hc, hf⟩ := bcell hb
  have hB : Below w.heap.size w w1 := nextB (by go_grown) (by go_size) hb
  go_wp2_with fail
  refine (impl_floor n d HS.out _).mono ?_
  rintro e w2 ⟨rfl, hb2⟩
  have hB2 := nextW hB hb2
  clear hc hf
  go_wp2_with fail
  go_ret2
  exact ⟨rfl, hB2⟩
theorem implFloorOf_no (n d : Int) (h : okQ n d = false) (w : World) :
    Calls Try.prog 19 #[.agg #[.int .i64 n, .int .i64 d]] w fun e w' => e = .returned (.tuple #[.int .i64 0, .bool false]) ∧ Below w.heap.size w w' := by
  have HS := Lib.hid h
  clear h
  go_enter Try.func19, Try.ntmps19
  go_wp2_with fail
  refine (isRat_is n d false HS.out _).mono ?_
  rintro e w1 ⟨rfl, hb⟩
  have hB : Below w.heap.size w w1 := nextB (by go_grown) (by go_size) hb
  go_wp2_with fail
  go_ret2
  exact ⟨rfl, hB⟩

theorem spec_raFloor (n d : Int) (h : okQ n d = true) (w : World) :
    Calls Try.prog 42 #[.agg #[.int .i64 n, .int .i64 d]] w fun e w' => e = .returned (.int .i64 (downQ n d)) ∧ Below w.heap.size w w' := by
  obtain ⟨a1, a2, a3, a4⟩ := okQ_bd h
  clear h
  go_enter Try.func42, Try.ntmps42
  go_wp2_with fail
  refine (raDown_any n d (by omega) a1 a2 _).mono ?_
  rintro e w1 ⟨rfl, rfl⟩
  go_wp2_with fail
  go_ret
  exact ⟨rfl, by go_grown⟩

theorem specFloorOf_yes (n d : Int) (h : okQ n d = true) (w : World) :
    Calls Try.prog 18 #[.agg #[.int .i64 n, .int .i64 d]] w fun e w' => e = .returned (.tuple #[.int .i64 (downQ n d), .bool true]) ∧ Below w.heap.size w w' := by
  have HS := Lib.hid h
  clear h
  go_enter Try.func18, Try.ntmps18
  go_wp2_with fail
  refine (raGood_is n d true HS.out _).mono ?_
  rintro e w1 ⟨rfl, hb⟩
  obtain ⟨hc, hf⟩ := bcell hb
  have hB : Below w.heap.size w w1 := nextB (by go_grown) (by go_size) hb
  go_wp2_with fail
  refine (spec_raFloor n d HS.out _).mono ?_
  rintro e w2 ⟨rfl, hb2⟩
  have hB2 := nextW hB hb2
  clear hc hf
  go_wp2_with fail
  go_ret2
  exact ⟨rfl, hB2⟩
theorem specFloorOf_no (n d : Int) (h : okQ n d = false) (w : World) :
    Calls Try.prog 18 #[.agg #[.int .i64 n, .int .i64 d]] w fun e w' => e = .returned (.tuple #[.int .i64 0, .bool false]) ∧ Below w.heap.size w w' := by
  have HS := Lib.hid h
  clear h
  go_enter Try.func18, Try.ntmps18
  go_wp2_with fail
  refine (raGood_is n d false HS.out _).mono ?_
  rintro e w1 ⟨rfl, hb⟩
  have hB : Below w.heap.size w w1 := nextB (by go_grown) (by go_size) hb
  go_wp2_with fail
  go_ret2
  exact ⟨rfl, hB⟩

set_option maxHeartbeats 400000 in
theorem implRound_yes (n d m a b : Int) (t : Bool) (h : okQ n d = true) (h1 : 1 ≤ m) (h2 : m ≤ 1000000000) (hl : lowQ (downQ (n * m) d) m = (a, b, t)) (w : World) :
    Calls Try.prog 36 #[.agg #[.int .i64 n, .int .i64 d], .int .i64 m] w (LowEnd a b t w) := by
  obtain ⟨a1, a2, a3, a4⟩ := okQ_bd h
  have m1 := mul_bd a3 a4 (show -1000000000 ≤ m by omega) h2
  have hd := downQ_bd (b := d) (m := 1000000000000000000) (by omega : -1000000000000000000 ≤ n * m ∧ n * m ≤ 1000000000000000000)
  have HS := Lib.hid h
  have HL := Lib.hid hl
  clear h hl
  go_enter Try.func36, Try.ntmps36
  go_wp2_with fail
  refine (isRat_is n d true HS.out _).mono ?_
  rintro e w1 ⟨rfl, hb⟩
  obtain ⟨hc, hf⟩ := bcell hb
  have s0 : Slot w1 (w.heap.size + 1) 0 (.int .i64 0) := slotB hb ⟨by simp [go_sem], by simp [go_sem]⟩
  have s1 : Slot w1 (w.heap.size + 1) 1 (.int .i64 0) := slotB hb ⟨by simp [go_sem], by simp [go_sem]⟩
  have hB : Below w.heap.size w w1 := nextB (by go_grown) (by go_size) hb
  go_wp2_with fail
  refine (within_yes m _ _ h1 h2 _).mono ?_
  rintro e w2 ⟨rfl, rfl⟩
  go_wp2_with fail
  refine (floorDivide_any (n * m) d (by omega) a1 a2 _).mono ?_
  rintro e w2 ⟨rfl, rfl⟩
  generalize hX : downQ (n * m) d = x at *
  have HX := Lib.hid hX
  clear hX
  go_wp2_with fail
  refine (lowest_any _ _ a b t HL.out (by omega) (by omega) (by omega) _).mono ?_
  rintro e w2 ⟨rfl, hb2⟩
  obtain ⟨q0, f0⟩ := slotB hb2 s0
  obtain ⟨q1, f1⟩ := slotB hb2 s1
  have hB2 := nextW hB hb2
  clear hc hf
  go_wp2_with fail
  refine bodyPost_ret (v := .tuple #[.agg #[.int .i64 a, .int .i64 b], .bool t]) (by simp [results, Try.results36, go_sem, q0, q1]) rfl ⟨rfl, ?_⟩
  go_grown
set_option maxHeartbeats 400000 in
theorem implRound_no1 (n d m : Int) (h : okQ n d = false) (w : World) :
    Calls Try.prog 36 #[.agg #[.int .i64 n, .int .i64 d], .int .i64 m] w (LowEnd 0 0 false w) := by
  have HS := Lib.hid h
  clear h
  go_enter Try.func36, Try.ntmps36
  go_wp2_with fail
  refine (isRat_is n d false HS.out _).mono ?_
  rintro e w1 ⟨rfl, hb⟩
  obtain ⟨q0, f0⟩ : Slot w1 (w.heap.size + 1) 0 (.int .i64 0) := slotB hb ⟨by simp [go_sem], by simp [go_sem]⟩
  obtain ⟨q1, f1⟩ : Slot w1 (w.heap.size + 1) 1 (.int .i64 0) := slotB hb ⟨by simp [go_sem], by simp [go_sem]⟩
  have hB : Below w.heap.size w w1 := nextB (by go_grown) (by go_size) hb
  go_wp2_with fail
  refine bodyPost_ret (v := .tuple #[.agg #[.int .i64 0, .int .i64 0], .bool false]) (by simp [results, Try.results36, go_sem, q0, q1]) rfl ⟨rfl, ?_⟩
  go_grown
set_option maxHeartbeats 400000 in
theorem implRound_no2 (n d m : Int) (h : okQ n d = true) (hm : ¬ (1 ≤ m ∧ m ≤ 1000000000)) (w : World) :
    Calls Try.prog 36 #[.agg #[.int .i64 n, .int .i64 d], .int .i64 m] w (LowEnd 0 0 false w) := by
  have HS := Lib.hid h
  clear h
  go_enter Try.func36, Try.ntmps36
  go_wp2_with fail
  refine (isRat_is n d true HS.out _).mono ?_
  rintro e w1 ⟨rfl, hb⟩
  obtain ⟨q0, f0⟩ : Slot w1 (w.heap.size + 1) 0 (.int .i64 0) := slotB hb ⟨by simp [go_sem], by simp [go_sem]⟩
  obtain ⟨q1, f1⟩ : Slot w1 (w.heap.size + 1) 1 (.int .i64 0) := slotB hb ⟨by simp [go_sem], by simp [go_sem]⟩
  have hB : Below w.heap.size w w1 := nextB (by go_grown) (by go_size) hb
  go_wp2_with fail
  refine (within_no m _ _ hm _).mono ?_
  rintro e w2 ⟨rfl, rfl⟩
  go_wp2_with fail
  refine bodyPost_ret (v := .tuple #[.agg #[.int .i64 0, .int .i64 0], .bool false]) (by simp [results, Try.results36, go_sem, q0, q1]) rfl ⟨rfl, ?_⟩
  go_grown

set_option maxHeartbeats 400000 in
theorem specRound_yes (n d m a b : Int) (t : Bool) (h : okQ n d = true) (h1 : 1 ≤ m) (h2 : m ≤ 1000000000) (hl : lowQ (downQ (n * m) d) m = (a, b, t)) (w : World) :
    Calls Try.prog 35 #[.agg #[.int .i64 n, .int .i64 d], .int .i64 m] w (LowEnd a b t w) := by
  obtain ⟨a1, a2, a3, a4⟩ := okQ_bd h
  have m1 := mul_bd a3 a4 (show -1000000000 ≤ m by omega) h2
  have hd := downQ_bd (b := d) (m := 1000000000000000000) (by omega : -1000000000000000000 ≤ n * m ∧ n * m ≤ 1000000000000000000)
  have HS := Lib.hid h
  have HL := Lib.hid hl
  clear h hl
  go_enter Try.func35, Try.ntmps35
  go_wp2_with fail
  refine (raGood_is n d true HS.out _).mono ?_
  rintro e w1 ⟨rfl, hb⟩
  obtain ⟨hc, hf⟩ := bcell hb
  have s0 : Slot w1 (w.heap.size + 1) 0 (.int .i64 0) := slotB hb ⟨by simp [go_sem], by simp [go_sem]⟩
  have s1 : Slot w1 (w.heap.size + 1) 1 (.int .i64 0) := slotB hb ⟨by simp [go_sem], by simp [go_sem]⟩
  have hB : Below w.heap.size w w1 := nextB (by go_grown) (by go_size) hb
  go_wp2_with fail
  refine (l1In_yes m _ _ h1 h2 _).mono ?_
  rintro e w2 ⟨rfl, rfl⟩
  go_wp2_with fail
  refine (raDown_any (n * m) d (by omega) a1 a2 _).mono ?_
  rintro e w2 ⟨rfl, rfl⟩
  generalize hX : downQ (n * m) d = x at *
  have HX := Lib.hid hX
  clear hX
  go_wp2_with fail
  refine (raMake_any _ _ a b t HL.out (by omega) (by omega) _).mono ?_
  rintro e w2 ⟨rfl, hb2⟩
  obtain ⟨q0, f0⟩ := slotB hb2 s0
  obtain ⟨q1, f1⟩ := slotB hb2 s1
  have hB2 := nextW hB hb2
  clear hc hf
  go_wp2_with fail
  refine bodyPost_ret (v := .tuple #[.agg #[.int .i64 a, .int .i64 b], .bool t]) (by simp [results, Try.results35, go_sem, q0, q1]) rfl ⟨rfl, ?_⟩
  go_grown
set_option maxHeartbeats 400000 in
theorem specRound_no1 (n d m : Int) (h : okQ n d = false) (w : World) :
    Calls Try.prog 35 #[.agg #[.int .i64 n, .int .i64 d], .int .i64 m] w (LowEnd 0 0 false w) := by
  have HS := Lib.hid h
  clear h
  go_enter Try.func35, Try.ntmps35
  go_wp2_with fail
  refine (raGood_is n d false HS.out _).mono ?_
  rintro e w1 ⟨rfl, hb⟩
  obtain ⟨q0, f0⟩ : Slot w1 (w.heap.size + 1) 0 (.int .i64 0) := slotB hb ⟨by simp [go_sem], by simp [go_sem]⟩
  obtain ⟨q1, f1⟩ : Slot w1 (w.heap.size + 1) 1 (.int .i64 0) := slotB hb ⟨by simp [go_sem], by simp [go_sem]⟩
  have hB : Below w.heap.size w w1 := nextB (by go_grown) (by go_size) hb
  go_wp2_with fail
  refine bodyPost_ret (v := .tuple #[.agg #[.int .i64 0, .int .i64 0], .bool false]) (by simp [results, Try.results35, go_sem, q0, q1]) rfl ⟨rfl, ?_⟩
  go_grown
set_option maxHeartbeats 400000 in
theorem specRound_no2 (n d m : Int) (h : okQ n d = true) (hm : ¬ (1 ≤ m ∧ m ≤ 1000000000)) (w : World) :
    Calls Try.prog 35 #[.agg #[.int .i64 n, .int .i64 d], .int .i64 m] w (LowEnd 0 0 false w) := by
  have HS := Lib.hid h
  clear h
  go_enter Try.func35, Try.ntmps35
  go_wp2_with fail
  refine (raGood_is n d true HS.out _).mono ?_
  rintro e w1 ⟨rfl, hb⟩
  obtain ⟨q0, f0⟩ : Slot w1 (w.heap.size + 1) 0 (.int .i64 0) := slotB hb ⟨by simp [go_sem], by simp [go_sem]⟩
  obtain ⟨q1, f1⟩ : Slot w1 (w.heap.size + 1) 1 (.int .i64 0) := slotB hb ⟨by simp [go_sem], by simp [go_sem]⟩
  have hB : Below w.heap.size w w1 := nextB (by go_grown) (by go_size) hb
  go_wp2_with fail
  refine (l1In_no m _ _ hm _).mono ?_
  rintro e w2 ⟨rfl, rfl⟩
  go_wp2_with fail
  refine bodyPost_ret (v := .tuple #[.agg #[.int .i64 0, .int .i64 0], .bool false]) (by simp [results, Try.results35, go_sem, q0, q1]) rfl ⟨rfl, ?_⟩
  go_grown

set_option maxHeartbeats 400000 in
theorem implMake_yes (n d a b : Int) (t : Bool) (hn : -1000000000000000000 ≤ n ∧ n ≤ 1000000000000000000) (hd : -1000000000000000000 ≤ d ∧ d ≤ 1000000000000000000) (h0 : d ≠ 0) (hl : lowQ n d = (a, b, t)) (w : World) :
    Calls Try.prog 23 #[.int .i64 n, .int .i64 d] w (LowEnd a b t w) := by
  have hd1 : ((d : Int) == 0) = false := by simpa using h0
  have HL := Lib.hid hl
  have H0 := Lib.hid h0
  clear hl h0
  go_enter Try.func23, Try.ntmps23
  go_wp2_with fail
  refine (within_yes n _ _ (by omega) (by omega) _).mono ?_
  rintro e w1 ⟨rfl, rfl⟩
  go_wp2_with fail
  refine (within_yes d _ _ (by omega) (by omega) _).mono ?_
  rintro e w1 ⟨rfl, rfl⟩
  go_wp2_with fail
  refine (lowest_any n d a b t HL.out (by omega) H0.out (by omega) _).mono ?_
  rintro e w1 ⟨rfl, hb⟩
  obtain ⟨q0, f0⟩ : Slot w1 w.heap.size 0 (.int .i64 0) := slotB hb ⟨by simp [go_sem], by simp [go_sem]⟩
  obtain ⟨q1, f1⟩ : Slot w1 w.heap.size 1 (.int .i64 0) := slotB hb ⟨by simp [go_sem], by simp [go_sem]⟩
  have hB : Below w.heap.size w w1 := nextB (by go_grown) (by go_size) hb
  go_wp2_with fail
  refine bodyPost_ret (v := .tuple #[.agg #[.int .i64 a, .int .i64 b], .bool t]) (by simp [results, Try.results23, go_sem, q0, q1]) rfl ⟨rfl, ?_⟩
  go_grown
set_option maxHeartbeats 400000 in
theorem implMake_no1 (n d : Int) (hn : ¬ (-1000000000000000000 ≤ n ∧ n ≤ 1000000000000000000)) (w : World) :
    Calls Try.prog 23 #[.int .i64 n, .int .i64 d] w (LowEnd 0 0 false w) := by
  go_enter Try.func23, Try.ntmps23
  go_wp2_with fail
  refine (within_no n _ _ (by omega) _).mono ?_
  rintro e w1 ⟨rfl, rfl⟩
  go_wp2_with fail
  refine bodyPost_ret (v := .tuple #[.agg #[.int .i64 0, .int .i64 0], .bool false]) (by simp [results, Try.results23, go_sem]) rfl ⟨rfl, ?_⟩
  go_grown
set_option maxHeartbeats 400000 in
theorem implMake_no2 (n d : Int) (hn : -1000000000000000000 ≤ n ∧ n ≤ 1000000000000000000) (hd : ¬ (-1000000000000000000 ≤ d ∧ d ≤ 1000000000000000000)) (w : World) :
    Calls Try.prog 23 #[.int .i64 n, .int .i64 d] w (LowEnd 0 0 false w) := by
  go_enter Try.func23, Try.ntmps23
  go_wp2_with fail
  refine (within_yes n _ _ (by omega) (by omega) _).mono ?_
  rintro e w1 ⟨rfl, rfl⟩
  go_wp2_with fail
  refine (within_no d _ _ (by omega) _).mono ?_
  rintro e w1 ⟨rfl, rfl⟩
  go_wp2_with fail
  refine bodyPost_ret (v := .tuple #[.agg #[.int .i64 0, .int .i64 0], .bool false]) (by simp [results, Try.results23, go_sem]) rfl ⟨rfl, ?_⟩
  go_grown
set_option maxHeartbeats 400000 in
theorem implMake_no3 (n : Int) (hn : -1000000000000000000 ≤ n ∧ n ≤ 1000000000000000000) (w : World) :
    Calls Try.prog 23 #[.int .i64 n, .int .i64 0] w (LowEnd 0 0 false w) := by
  go_enter Try.func23, Try.ntmps23
  go_wp2_with fail
  refine (within_yes n _ _ (by omega) (by omega) _).mono ?_
  rintro e w1 ⟨rfl, rfl⟩
  go_wp2_with fail
  refine (within_yes 0 _ _ (by omega) (by omega) _).mono ?_
  rintro e w1 ⟨rfl, rfl⟩
  go_wp2_with fail
  refine bodyPost_ret (v := .tuple #[.agg #[.int .i64 0, .int .i64 0], .bool false]) (by simp [results, Try.results23, go_sem]) rfl ⟨rfl, ?_⟩
  go_grown

set_option maxHeartbeats 400000 in
theorem specMake_yes (n d a b : Int) (t : Bool) (hn : -1000000000000000000 ≤ n ∧ n ≤ 1000000000000000000) (hd : -1000000000000000000 ≤ d ∧ d ≤ 1000000000000000000) (h0 : d ≠ 0) (hl : lowQ n d = (a, b, t)) (w : World) :
    Calls Try.prog 22 #[.int .i64 n, .int .i64 d] w (LowEnd a b t w) := by
  have hd1 : ((d : Int) == 0) = false := by simpa using h0
  have HL := Lib.hid hl
  have H0 := Lib.hid h0
  clear hl h0
  go_enter Try.func22, Try.ntmps22
  go_wp2_with fail
  refine (l1In_yes n _ _ (by omega) (by omega) _).mono ?_
  rintro e w1 ⟨rfl, rfl⟩
  go_wp2_with fail
  refine (l1In_yes d _ _ (by omega) (by omega) _).mono ?_
  rintro e w1 ⟨rfl, rfl⟩
  go_wp2_with fail
  refine (raMake_any n d a b t HL.out (by omega) (by omega) _).mono ?_
  rintro e w1 ⟨rfl, hb⟩
  obtain ⟨q0, f0⟩ : Slot w1 w.heap.size 0 (.int .i64 0) := slotB hb ⟨by simp [go_sem], by simp [go_sem]⟩
  obtain ⟨q1, f1⟩ : Slot w1 w.heap.size 1 (.int .i64 0) := slotB hb ⟨by simp [go_sem], by simp [go_sem]⟩
  have hB : Below w.heap.size w w1 := nextB (by go_grown) (by go_size) hb
  go_wp2_with fail
  refine bodyPost_ret (v := .tuple #[.agg #[.int .i64 a, .int .i64 b], .bool t]) (by simp [results, Try.results22, go_sem, q0, q1]) rfl ⟨rfl, ?_⟩
  go_grown
set_option maxHeartbeats 400000 in
theorem specMake_no1 (n d : Int) (hn : ¬ (-1000000000000000000 ≤ n ∧ n ≤ 1000000000000000000)) (w : World) :
    Calls Try.prog 22 #[.int .i64 n, .int .i64 d] w (LowEnd 0 0 false w) := by
  go_enter Try.func22, Try.ntmps22
  go_wp2_with fail
  refine (l1In_no n _ _ (by omega) _).mono ?_
  rintro e w1 ⟨rfl, rfl⟩
  go_wp2_with fail
  refine bodyPost_ret (v := .tuple #[.agg #[.int .i64 0, .int .i64 0], .bool false]) (by simp [results, Try.results22, go_sem]) rfl ⟨rfl, ?_⟩
  go_grown
set_option maxHeartbeats 400000 in
theorem specMake_no2 (n d : Int) (hn : -1000000000000000000 ≤ n ∧ n ≤ 1000000000000000000) (hd : ¬ (-1000000000000000000 ≤ d ∧ d ≤ 1000000000000000000)) (w : World) :
    Calls Try.prog 22 #[.int .i64 n, .int .i64 d] w (LowEnd 0 0 false w) := by
  go_enter Try.func22, Try.ntmps22
  go_wp2_with fail
  refine (l1In_yes n _ _ (by omega) (by omega) _).mono ?_
  rintro e w1 ⟨rfl, rfl⟩
  go_wp2_with fail
  refine (l1In_no d _ _ (by omega) _).mono ?_
  rintro e w1 ⟨rfl, rfl⟩
  go_wp2_with fail
  refine bodyPost_ret (v := .tuple #[.agg #[.int .i64 0, .int .i64 0], .bool false]) (by simp [results, Try.results22, go_sem]) rfl ⟨rfl, ?_⟩
  go_grown
set_option maxHeartbeats 400000 in
theorem specMake_no3 (n : Int) (hn : -1000000000000000000 ≤ n ∧ n ≤ 1000000000000000000) (w : World) :
    Calls Try.prog 22 #[.int .i64 n, .int .i64 0] w (LowEnd 0 0 false w) := by
  go_enter Try.func22, Try.ntmps22
  go_wp2_with fail
  refine (l1In_yes n _ _ (by omega) (by omega) _).mono ?_
  rintro e w1 ⟨rfl, rfl⟩
  go_wp2_with fail
  refine (l1In_yes 0 _ _ (by omega) (by omega) _).mono ?_
  rintro e w1 ⟨rfl, rfl⟩
  go_wp2_with fail
  refine bodyPost_ret (v := .tuple #[.agg #[.int .i64 0, .int .i64 0], .bool false]) (by simp [results, Try.results22, go_sem]) rfl ⟨rfl, ?_⟩
  go_grown

theorem l1Sign_any (n : Int) (w : World) :
    Calls Try.prog 65 #[.int .i64 n] w fun e w' => e = .returned (.int .i64 (if 0 < n then 1 else if n < 0 then -1 else 0)) ∧ w' = w := by
  by_cases h1 : 0 < n
  · go_enter Try.func65, Try.ntmps65
    go_wp2
    go_ret
    exact ⟨rfl, rfl⟩
  · by_cases h2 : n < 0
    · go_enter Try.func65, Try.ntmps65
      go_wp2
      go_ret
      exact ⟨rfl, rfl⟩
    · go_enter Try.func65, Try.ntmps65
      go_wp2
      go_ret
      exact ⟨rfl, rfl⟩

theorem sign_cmp (x y : Int) : (if 0 < x - y then (1 : Int) else if x - y < 0 then -1 else 0) = (if x < y then -1 else if y < x then 1 else 0) := by
  split <;> split <;> (try split) <;> omega

set_option maxHeartbeats 400000 in
theorem raCmp_any (n1 d1 n2 d2 : Int) (s1 : Sm n1) (s2 : Sm d1) (k1 : Sm n2) (k2 : Sm d2) (w : World) :
    Calls Try.prog 45 #[.agg #[.int .i64 n1, .int .i64 d1], .agg #[.int .i64 n2, .int .i64 d2]] w fun e w' => e = .returned (.int .i64 (cmpQ n1 d1 n2 d2)) ∧ Below w.heap.size w w' := by
  have m1 := s1.mul k2
  have m2 := k1.mul s2
  clear s1 s2 k1 k2
  have HC := Lib.hid (show _ = cmpQ n1 d1 n2 d2 from sign_cmp (n1 * d2) (n2 * d1))
  go_enter Try.func45, Try.ntmps45
  go_wp2_with fail
  refine (l1Sign_any _ _).mono ?_
  rintro e w1 ⟨he, rfl⟩
  rw [HC.out] at he
  subst he
  go_wp2_with fail
  go_ret
  exact ⟨rfl, by go_grown⟩

set_option maxHeartbeats 400000 in
theorem sCompare_yes (n1 d1 n2 d2 : Int) (h : (okQ n1 d1 && okQ n2 d2) = true) (w : World) :
    Calls Try.prog 20 #[.agg #[.int .i64 n1, .int .i64 d1], .agg #[.int .i64 n2, .int .i64 d2]] w fun e w' => e = .returned (.tuple #[.int .i64 (cmpQ n1 d1 n2 d2), .bool true]) ∧ Below w.heap.size w w' := by
  have HS := Lib.hid h
  clear h
  go_enter Try.func20, Try.ntmps20
  go_wp2_with fail
  refine (raTwo_is n1 d1 n2 d2 true HS.out _).mono ?_
  rintro e w1 ⟨rfl, hb⟩
  obtain ⟨hc, hf⟩ := bcell hb
  have hB : Below w.heap.size w w1 := nextB (by go_grown) (by go_size) hb
  go_wp2_with fail
  obtain ⟨g1, g2⟩ := (Bool.and_eq_true _ _).mp HS.out
  refine (raCmp_any n1 d1 n2 d2 (Sm.of_ok g1).1 (Sm.of_ok g1).2 (Sm.of_ok g2).1 (Sm.of_ok g2).2 _).mono ?_
  rintro e w2 ⟨rfl, hb2⟩
  have hB := nextW hB hb2
  clear hc hf g1 g2
  go_wp2_with fail
  go_ret2
  exact ⟨rfl, hB⟩
set_option maxHeartbeats 400000 in
theorem sCompare_no (n1 d1 n2 d2 : Int) (h : (okQ n1 d1 && okQ n2 d2) = false) (w : World) :
    Calls Try.prog 20 #[.agg #[.int .i64 n1, .int .i64 d1], .agg #[.int .i64 n2, .int .i64 d2]] w fun e w' => e = .returned (.tuple #[.int .i64 (0), .bool false]) ∧ Below w.heap.size w w' := by
  have HS := Lib.hid h
  clear h
  go_enter Try.func20, Try.ntmps20
  go_wp2_with fail
  refine (raTwo_is n1 d1 n2 d2 false HS.out _).mono ?_
  rintro e w1 ⟨rfl, hb⟩

  have hB : Below w.heap.size w w1 := nextB (by go_grown) (by go_size) hb
  go_wp2_with fail
  go_ret2
  exact ⟨rfl, hB⟩


end Go.Proofs.Ytnlapkdmjlcedaa
