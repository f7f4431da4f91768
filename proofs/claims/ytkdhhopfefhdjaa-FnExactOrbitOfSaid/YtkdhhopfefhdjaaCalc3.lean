/- add, sub, mul and div of the program's 'calc' where the result fits: the receiver is left alone. -/
import Derived.Test.YtkdhhopfefhdjaaCalc
import Derived.Test.YtkdhhopfefhdjaaRat7
namespace Go.Proofs.Ytkdhhopfefhdjaa
open Go.RowKit

set_option maxHeartbeats 400000 in
theorem keep_fine (n d : Int) (v : Value) (w : World) :
    Calls Try.prog 168 #[v, .agg #[.int .i64 n, .int .i64 d], .bool true] w fun e w' => e = .returned (.agg #[.int .i64 n, .int .i64 d]) ∧ Below w.heap.size w w' := by
  go_enter Try.func168, Try.ntmps168
  go_wp2_with fail
  refine bodyPost_ret (v := .agg #[.int .i64 n, .int .i64 d]) (by simp [results, Try.results168, go_sem]) rfl ⟨rfl, ?_⟩
  go_grown

set_option maxHeartbeats 400000 in
theorem cAdd_fine (n1 d1 n2 d2 a b : Int) (v : Value) (w : World) (hr : addQ n1 d1 n2 d2 = (a, b, true)) :
    Calls Try.prog 164 #[v, .agg #[.int .i64 n1, .int .i64 d1], .agg #[.int .i64 n2, .int .i64 d2]] w fun e w' => e = .returned (.agg #[.int .i64 a, .int .i64 b]) ∧ Below w.heap.size w w' := by
  have HR := Lib.hid hr
  clear hr
  go_enter Try.func164, Try.ntmps164
  go_wp2_with fail
  refine (addRats_any n1 d1 n2 d2 a b true HR.out _).mono ?_
  rintro e w1 ⟨rfl, hb⟩
  have r0 : Slot w1 (w.heap.size + 2) 0 (.int .i64 0) := slotB hb ⟨by simp [go_sem], by simp [go_sem]⟩
  have r1 : Slot w1 (w.heap.size + 2) 1 (.int .i64 0) := slotB hb ⟨by simp [go_sem], by simp [go_sem]⟩
  have hB : Below w.heap.size w w1 := nextB (by go_grown) (by go_size) hb
  clear hb
  go_wp2_with fail
  refine (keep_fine a b v _).mono ?_
  rintro e w2 ⟨rfl, hb⟩
  obtain ⟨q0, f0⟩ := slotB hb r0
  obtain ⟨q1, f1⟩ := slotB hb r1
  replace hB := nextW hB hb
  clear hb r0 r1
  go_wp2_with fail
  refine bodyPost_ret (v := .agg #[.int .i64 a, .int .i64 b]) (by simp [results, Try.results164, go_sem, q0, q1]) rfl ⟨rfl, ?_⟩
  go_grown

set_option maxHeartbeats 400000 in
theorem cSub_fine (n1 d1 n2 d2 a b : Int) (v : Value) (w : World) (hn : -9223372036854775808 ≤ n2 ∧ n2 ≤ 9223372036854775807) (hr : subQ n1 d1 n2 d2 = (a, b, true)) :
    Calls Try.prog 152 #[v, .agg #[.int .i64 n1, .int .i64 d1], .agg #[.int .i64 n2, .int .i64 d2]] w fun e w' => e = .returned (.agg #[.int .i64 a, .int .i64 b]) ∧ Below w.heap.size w w' := by
  have HR := Lib.hid hr
  clear hr
  go_enter Try.func152, Try.ntmps152
  go_wp2_with fail
  refine (subRats_any n1 d1 n2 d2 a b true hn HR.out _).mono ?_
  rintro e w1 ⟨rfl, hb⟩
  have r0 : Slot w1 (w.heap.size + 2) 0 (.int .i64 0) := slotB hb ⟨by simp [go_sem], by simp [go_sem]⟩
  have r1 : Slot w1 (w.heap.size + 2) 1 (.int .i64 0) := slotB hb ⟨by simp [go_sem], by simp [go_sem]⟩
  have hB : Below w.heap.size w w1 := nextB (by go_grown) (by go_size) hb
  clear hb
  go_wp2_with fail
  refine (keep_fine a b v _).mono ?_
  rintro e w2 ⟨rfl, hb⟩
  obtain ⟨q0, f0⟩ := slotB hb r0
  obtain ⟨q1, f1⟩ := slotB hb r1
  replace hB := nextW hB hb
  clear hb r0 r1
  go_wp2_with fail
  refine bodyPost_ret (v := .agg #[.int .i64 a, .int .i64 b]) (by simp [results, Try.results152, go_sem, q0, q1]) rfl ⟨rfl, ?_⟩
  go_grown

set_option maxHeartbeats 400000 in
theorem cMul_fine (n1 d1 n2 d2 a b : Int) (v : Value) (w : World) (hr : mulQ n1 d1 n2 d2 = (a, b, true)) :
    Calls Try.prog 157 #[v, .agg #[.int .i64 n1, .int .i64 d1], .agg #[.int .i64 n2, .int .i64 d2]] w fun e w' => e = .returned (.agg #[.int .i64 a, .int .i64 b]) ∧ Below w.heap.size w w' := by
  have HR := Lib.hid hr
  clear hr
  go_enter Try.func157, Try.ntmps157
  go_wp2_with fail
  refine (mulRats_any n1 d1 n2 d2 a b true HR.out _).mono ?_
  rintro e w1 ⟨rfl, hb⟩
  have r0 : Slot w1 (w.heap.size + 2) 0 (.int .i64 0) := slotB hb ⟨by simp [go_sem], by simp [go_sem]⟩
  have r1 : Slot w1 (w.heap.size + 2) 1 (.int .i64 0) := slotB hb ⟨by simp [go_sem], by simp [go_sem]⟩
  have hB : Below w.heap.size w w1 := nextB (by go_grown) (by go_size) hb
  clear hb
  go_wp2_with fail
  refine (keep_fine a b v _).mono ?_
  rintro e w2 ⟨rfl, hb⟩
  obtain ⟨q0, f0⟩ := slotB hb r0
  obtain ⟨q1, f1⟩ := slotB hb r1
  replace hB := nextW hB hb
  clear hb r0 r1
  go_wp2_with fail
  refine bodyPost_ret (v := .agg #[.int .i64 a, .int .i64 b]) (by simp [results, Try.results157, go_sem, q0, q1]) rfl ⟨rfl, ?_⟩
  go_grown

set_option maxHeartbeats 400000 in
theorem cDiv_fine (n1 d1 n2 d2 a b : Int) (v : Value) (w : World) (hr : divQ n1 d1 n2 d2 = (a, b, true)) :
    Calls Try.prog 165 #[v, .agg #[.int .i64 n1, .int .i64 d1], .agg #[.int .i64 n2, .int .i64 d2]] w fun e w' => e = .returned (.agg #[.int .i64 a, .int .i64 b]) ∧ Below w.heap.size w w' := by
  have HR := Lib.hid hr
  clear hr
  go_enter Try.func165, Try.ntmps165
  go_wp2_with fail
  refine (divRats_any n1 d1 n2 d2 a b true HR.out _).mono ?_
  rintro e w1 ⟨rfl, hb⟩
  have r0 : Slot w1 (w.heap.size + 2) 0 (.int .i64 0) := slotB hb ⟨by simp [go_sem], by simp [go_sem]⟩
  have r1 : Slot w1 (w.heap.size + 2) 1 (.int .i64 0) := slotB hb ⟨by simp [go_sem], by simp [go_sem]⟩
  have hB : Below w.heap.size w w1 := nextB (by go_grown) (by go_size) hb
  clear hb
  go_wp2_with fail
  refine (keep_fine a b v _).mono ?_
  rintro e w2 ⟨rfl, hb⟩
  obtain ⟨q0, f0⟩ := slotB hb r0
  obtain ⟨q1, f1⟩ := slotB hb r1
  replace hB := nextW hB hb
  clear hb r0 r1
  go_wp2_with fail
  refine bodyPost_ret (v := .agg #[.int .i64 a, .int .i64 b]) (by simp [results, Try.results165, go_sem, q0, q1]) rfl ⟨rfl, ?_⟩
  go_grown

end Go.Proofs.Ytkdhhopfefhdjaa
