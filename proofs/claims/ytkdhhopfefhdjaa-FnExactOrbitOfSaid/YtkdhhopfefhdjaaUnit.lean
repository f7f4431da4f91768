/- isUnit, isCoord, less, zero, oneRat of the program; raUnit, imCoord, raInt of the reference. -/
import Derived.Test.YtkdhhopfefhdjaaRat9
import Derived.Test.YtkdhhopfefhdjaaMathMap
namespace Go.Proofs.Ytkdhhopfefhdjaa
open Go.RowKit

theorem zero_any (w : World) : Calls Try.prog 112 #[] w fun e w' => e = .returned (.agg #[.int .i64 0, .int .i64 1]) ∧ Below w.heap.size w w' := by
  go_enter Try.func112, Try.ntmps112
  go_wp2_with fail
  refine bodyPost_ret (v := .agg #[.int .i64 0, .int .i64 1]) (by simp [results, Try.results112, go_sem]) rfl ⟨rfl, ?_⟩
  go_grown
theorem oneRat_any (w : World) : Calls Try.prog 129 #[] w fun e w' => e = .returned (.agg #[.int .i64 1, .int .i64 1]) ∧ Below w.heap.size w w' := by
  go_enter Try.func129, Try.ntmps129
  go_wp2_with fail
  refine bodyPost_ret (v := .agg #[.int .i64 1, .int .i64 1]) (by simp [results, Try.results129, go_sem]) rfl ⟨rfl, ?_⟩
  go_grown
theorem raInt_any (n : Int) (w : World) : Calls Try.prog 110 #[.int .i64 n] w fun e w' => e = .returned (.agg #[.int .i64 n, .int .i64 1]) ∧ Below w.heap.size w w' := by
  go_enter Try.func110, Try.ntmps110
  go_wp2_with fail
  refine bodyPost_ret (v := .agg #[.int .i64 n, .int .i64 1]) (by simp [results, Try.results110, go_sem]) rfl ⟨rfl, ?_⟩
  go_grown

theorem less_any (n1 d1 n2 d2 : Int) (s1 : Sm n1) (s2 : Sm d1) (k1 : Sm n2) (k2 : Sm d2) (w : World) :
    Calls Try.prog 101 #[.agg #[.int .i64 n1, .int .i64 d1], .agg #[.int .i64 n2, .int .i64 d2]] w fun e w' => e = .returned (.bool (lessQ n1 d1 n2 d2)) ∧ Below w.heap.size w w' := by
  have HL := Lib.hid (lessQ_cmp n1 d1 n2 d2)
  have H1 := Lib.hid s1
  have H2 := Lib.hid s2
  have H3 := Lib.hid k1
  have H4 := Lib.hid k2
  clear s1 s2 k1 k2
  go_enter Try.func101, Try.ntmps101
  go_wp2_with fail
  refine (compare_any n1 d1 n2 d2 H1.out H2.out H3.out H4.out _).mono ?_
  rintro e w1 ⟨rfl, hb⟩
  have hB : Below w.heap.size w w1 := nextB (by go_grown) (by go_size) hb
  generalize cmpQ n1 d1 n2 d2 = x at *
  clear hb
  go_wp2_with fail
  go_ret
  exact ⟨ret_bool HL.out.symm, hB⟩

theorem unitQ_no1 {n d : Int} (h : okQ n d = false) : unitQ n d = false := by simp [unitQ, h]
theorem unitQ_yes {n d : Int} (h : okQ n d = true) : unitQ n d = (decide (0 ≤ n) && decide (n ≤ d)) := by simp [unitQ, h]
theorem coordQ_no1 {n d : Int} (h : unitQ n d = false) : coordQ n d = false := by simp [coordQ, h]
theorem coordQ_yes {n d : Int} (h : unitQ n d = true) : coordQ n d = decide (d ≤ 100) := by simp [coordQ, h]

set_option maxHeartbeats 400000 in
theorem isUnit_any (n d : Int) (w : World) :
    Calls Try.prog 82 #[.agg #[.int .i64 n, .int .i64 d]] w fun e w' => e = .returned (.bool (unitQ n d)) ∧ Below w.heap.size w w' := by
  rcases h : okQ n d with _ | _
  · have HS := Lib.hid h
    have HU := Lib.hid (unitQ_no1 h)
    clear h
    go_enter Try.func82, Try.ntmps82
    go_wp2_with fail
    refine (isRat_is n d false HS.out _).mono ?_
    rintro e w1 ⟨rfl, hb⟩
    have hB : Below w.heap.size w w1 := nextB (by go_grown) (by go_size) hb
    clear hb
    go_wp2_with fail
    go_ret
    exact ⟨ret_bool HU.out.symm, hB⟩
  · have HS := Lib.hid h
    have HU := Lib.hid (unitQ_yes h)
    clear h
    by_cases h0 : 0 ≤ n
    all_goals
      go_enter Try.func82, Try.ntmps82
      go_wp2_with fail
      refine (isRat_is n d true HS.out _).mono ?_
      rintro e w1 ⟨rfl, hb⟩
      have c0 : w1.cell? ⟨w.heap.size, 0, none⟩ = some (.int .i64 n) := cellB hb (by simp [go_sem])
      have c1 : w1.cell? ⟨w.heap.size, 1, none⟩ = some (.int .i64 d) := cellB hb (by simp [go_sem])
      have hB : Below w.heap.size w w1 := nextB (by go_grown) (by go_size) hb
      clear hb
      go_wp2_with fail
      go_ret
      exact ⟨ret_bool (by rw [HU.out]; simp; try omega), hB⟩

set_option maxHeartbeats 400000 in
theorem raUnit_any (n d : Int) (w : World) :
    Calls Try.prog 80 #[.agg #[.int .i64 n, .int .i64 d]] w fun e w' => e = .returned (.bool (unitQ n d)) ∧ Below w.heap.size w w' := by
  rcases h : okQ n d with _ | _
  · have HS := Lib.hid h
    have HU := Lib.hid (unitQ_no1 h)
    clear h
    go_enter Try.func80, Try.ntmps80
    go_wp2_with fail
    refine (raGood_is n d false HS.out _).mono ?_
    rintro e w1 ⟨rfl, hb⟩
    have hB : Below w.heap.size w w1 := nextB (by go_grown) (by go_size) hb
    clear hb
    go_wp2_with fail
    go_ret
    exact ⟨ret_bool HU.out.symm, hB⟩
  · have HS := Lib.hid h
    have HU := Lib.hid (unitQ_yes h)
    clear h
    by_cases h0 : 0 ≤ n ∧ n ≤ d
    · go_enter Try.func80, Try.ntmps80
      go_wp2_with fail
      refine (raGood_is n d true HS.out _).mono ?_
      rintro e w1 ⟨rfl, hb⟩
      have c0 : w1.cell? ⟨w.heap.size, 0, none⟩ = some (.int .i64 n) := cellB hb (by simp [go_sem])
      have c1 : w1.cell? ⟨w.heap.size, 1, none⟩ = some (.int .i64 d) := cellB hb (by simp [go_sem])
      have hB : Below w.heap.size w w1 := nextB (by go_grown) (by go_size) hb
      clear hb
      go_wp2_with fail
      refine (l1In_yes n 0 d h0.1 h0.2 _).mono ?_
      rintro e w2 ⟨rfl, rfl⟩
      go_wp2_with fail
      go_ret
      exact ⟨ret_bool (by rw [HU.out]; simp; omega), hB⟩
    · have H0 := Lib.hid h0
      clear h0
      go_enter Try.func80, Try.ntmps80
      go_wp2_with fail
      refine (raGood_is n d true HS.out _).mono ?_
      rintro e w1 ⟨rfl, hb⟩
      have c0 : w1.cell? ⟨w.heap.size, 0, none⟩ = some (.int .i64 n) := cellB hb (by simp [go_sem])
      have c1 : w1.cell? ⟨w.heap.size, 1, none⟩ = some (.int .i64 d) := cellB hb (by simp [go_sem])
      have hB : Below w.heap.size w w1 := nextB (by go_grown) (by go_size) hb
      clear hb
      go_wp2_with fail
      refine (l1In_no n 0 d H0.out _).mono ?_
      rintro e w2 ⟨rfl, rfl⟩
      go_wp2_with fail
      go_ret
      exact ⟨ret_bool (by rw [HU.out]; have := H0.out; simp; omega), hB⟩

set_option maxHeartbeats 400000 in
theorem isCoord_any (n d : Int) (w : World) :
    Calls Try.prog 128 #[.agg #[.int .i64 n, .int .i64 d]] w fun e w' => e = .returned (.bool (coordQ n d)) ∧ Below w.heap.size w w' := by
  rcases h : unitQ n d with _ | _
  all_goals
    have HU := Lib.hid h
    have HC := Lib.hid (show coordQ n d = (unitQ n d && decide (d ≤ 100)) from rfl)
    clear h
    go_enter Try.func128, Try.ntmps128
    go_wp2_with fail
    refine (isUnit_any n d _).mono ?_
    rintro e w1 ⟨he, hb⟩
    rw [HU.out] at he
    subst he
    have c1 : w1.cell? ⟨w.heap.size, 1, none⟩ = some (.int .i64 d) := cellB hb (by simp [go_sem])
    have hB : Below w.heap.size w w1 := nextB (by go_grown) (by go_size) hb
    clear hb
    go_wp2_with fail
    go_ret
    exact ⟨ret_bool (by rw [HC.out, HU.out]; simp), hB⟩
set_option maxHeartbeats 400000 in
theorem imCoord_any (n d : Int) (w : World) :
    Calls Try.prog 124 #[.agg #[.int .i64 n, .int .i64 d]] w fun e w' => e = .returned (.bool (coordQ n d)) ∧ Below w.heap.size w w' := by
  rcases h : unitQ n d with _ | _
  all_goals
    have HU := Lib.hid h
    have HC := Lib.hid (show coordQ n d = (unitQ n d && decide (d ≤ 100)) from rfl)
    clear h
    go_enter Try.func124, Try.ntmps124
    go_wp2_with fail
    refine (raUnit_any n d _).mono ?_
    rintro e w1 ⟨he, hb⟩
    rw [HU.out] at he
    subst he
    have c1 : w1.cell? ⟨w.heap.size, 1, none⟩ = some (.int .i64 d) := cellB hb (by simp [go_sem])
    have hB : Below w.heap.size w w1 := nextB (by go_grown) (by go_size) hb
    clear hb
    go_wp2_with fail
    go_ret
    exact ⟨ret_bool (by rw [HC.out, HU.out]; simp), hB⟩

end Go.Proofs.Ytkdhhopfefhdjaa
