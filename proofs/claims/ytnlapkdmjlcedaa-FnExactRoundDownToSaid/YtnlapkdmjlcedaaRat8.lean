/- The order and the floor of fractions, and MakeRat, IsRat, RoundDownTo, of the program. -/
import Derived.Test.YtnlapkdmjlcedaaRat5
namespace Go.Proofs.Ytnlapkdmjlcedaa
open Go.RowKit

/-- The greatest whole number that is not greater than a / b. -/
def downQ (a b : Int) : Int := if a.tmod b < 0 then a.tdiv b - 1 else a.tdiv b

set_option maxHeartbeats 400000 in
theorem compare_any (n1 d1 n2 d2 : Int) (s1 : Sm n1) (s2 : Sm d1) (k1 : Sm n2) (k2 : Sm d2) (w : World) :
    Calls Try.prog 47 #[.agg #[.int .i64 n1, .int .i64 d1], .agg #[.int .i64 n2, .int .i64 d2]] w fun e w' => e = .returned (.int .i64 (cmpQ n1 d1 n2 d2)) ∧ Below w.heap.size w w' := by
  have m1 := s1.mul k2
  have m2 := k1.mul s2
  clear s1 s2 k1 k2
  by_cases h1 : n1 * d2 < n2 * d1
  · have HC := Lib.hid (show cmpQ n1 d1 n2 d2 = -1 by unfold cmpQ; rw [if_pos h1])
    go_enter Try.func47, Try.ntmps47
    go_wp2_with fail
    go_quiet (fail)
    go_wp2_with fail
    go_ret
    exact ⟨ret_int HC.out.symm, by go_grown; exact below_drewN (by go_grown) _⟩
  · by_cases h2 : n2 * d1 < n1 * d2
    · have HC := Lib.hid (show cmpQ n1 d1 n2 d2 = 1 by unfold cmpQ; rw [if_neg h1, if_pos h2])
      go_enter Try.func47, Try.ntmps47
      go_wp2_with fail
      go_quiet (fail)
      go_wp2_with fail
      go_ret
      exact ⟨ret_int HC.out.symm, by go_grown; exact below_drewN (by go_grown) _⟩
    · have HC := Lib.hid (show cmpQ n1 d1 n2 d2 = 0 by unfold cmpQ; rw [if_neg h1, if_neg h2])
      go_enter Try.func47, Try.ntmps47
      go_wp2_with fail
      go_quiet (fail)
      go_wp2_with fail
      go_ret
      exact ⟨ret_int HC.out.symm, by go_grown; exact below_drewN (by go_grown) _⟩

set_option maxHeartbeats 400000 in
theorem compareRats_yes (n1 d1 n2 d2 : Int) (h : (okQ n1 d1 && okQ n2 d2) = true) (w : World) :
    Calls Try.prog 21 #[.agg #[.int .i64 n1, .int .i64 d1], .agg #[.int .i64 n2, .int .i64 d2]] w fun e w' => e = .returned (.tuple #[.int .i64 (cmpQ n1 d1 n2 d2), .bool true]) ∧ Below w.heap.size w w' := by
  have HA := Lib.hid (show [(n1, d1), (n2, d2)].all (fun q => okQ q.1 q.2) = true by simpa using h)
  have HS := Lib.hid h
  clear h
  go_enter Try.func21, Try.ntmps21
  go_wp2_with fail
  refine (areRats_any [(n1, d1), (n2, d2)] _ true _ (RdQ.two (by simp) (by simp [go_sem]) (by simp [go_sem]) (by simp [go_sem]) (by simp [go_sem])) HA.out).mono ?_
  rintro e w1 ⟨rfl, hb⟩
  obtain ⟨hc, hf⟩ := bcell hb
  have hB : Below w.heap.size w w1 := nextB (by go_grown) (by go_size) hb
  go_wp2_with fail
  obtain ⟨g1, g2⟩ := (Bool.and_eq_true _ _).mp HS.out
  refine (compare_any n1 d1 n2 d2 (Sm.of_ok g1).1 (Sm.of_ok g1).2 (Sm.of_ok g2).1 (Sm.of_ok g2).2 _).mono ?_
  rintro e w2 ⟨rfl, hb2⟩
  have hB2 := nextW hB hb2
  clear hc hf g1 g2
  go_wp2_with fail
  go_ret2
  exact ⟨rfl, hB2⟩
set_option maxHeartbeats 400000 in
theorem compareRats_no (n1 d1 n2 d2 : Int) (h : (okQ n1 d1 && okQ n2 d2) = false) (w : World) :
    Calls Try.prog 21 #[.agg #[.int .i64 n1, .int .i64 d1], .agg #[.int .i64 n2, .int .i64 d2]] w fun e w' => e = .returned (.tuple #[.int .i64 0, .bool false]) ∧ Below w.heap.size w w' := by
  have HA := Lib.hid (show [(n1, d1), (n2, d2)].all (fun q => okQ q.1 q.2) = false by simpa using h)
  clear h
  go_enter Try.func21, Try.ntmps21
  go_wp2_with fail
  refine (areRats_any [(n1, d1), (n2, d2)] _ false _ (RdQ.two (by simp) (by simp [go_sem]) (by simp [go_sem]) (by simp [go_sem]) (by simp [go_sem])) HA.out).mono ?_
  rintro e w1 ⟨rfl, hb⟩
  have hB : Below w.heap.size w w1 := nextB (by go_grown) (by go_size) hb
  go_wp2_with fail
  go_ret2
  exact ⟨rfl, hB⟩

theorem tdiv_bd {a : Int} (b : Int) {m : Int} (h : -m ≤ a ∧ a ≤ m) : -m ≤ a.tdiv b ∧ a.tdiv b ≤ m := by
  have := natAbs_tdiv_le a b; omega
theorem tmod_bd {a b m : Int} (hb : 1 ≤ b) (h : b ≤ m) : -m ≤ a.tmod b ∧ a.tmod b ≤ m := by
  have h1 : (a.tmod b).natAbs < b.natAbs := by rw [Int.natAbs_tmod]; exact Nat.mod_lt _ (by omega)
  omega
theorem downQ_bd {a b m : Int} (h : -m ≤ a ∧ a ≤ m) : -m - 1 ≤ downQ a b ∧ downQ a b ≤ m := by
  have := tdiv_bd b h; unfold downQ; split <;> omega

set_option maxHeartbeats 400000 in
theorem floorDivide_any (a b : Int) (ha : -4000000000000000000 ≤ a ∧ a ≤ 4000000000000000000) (hb : 1 ≤ b) (hb2 : b ≤ 1000000000) (w : World) :
    Calls Try.prog 59 #[.int .i64 a, .int .i64 b] w fun e w' => e = .returned (.int .i64 (downQ a b)) ∧ w' = w := by
  have h1 := tdiv_bd b (m := 4000000000000000000) (by omega : -4000000000000000000 ≤ a ∧ a ≤ 4000000000000000000)
  have h2 := tmod_bd (a := a) hb hb2
  by_cases hn : a.tmod b < 0
  · have HD := Lib.hid (show downQ a b = a.tdiv b - 1 by unfold downQ; rw [if_pos hn])
    by_cases h0 : 0 ≤ a
    · have := Int.tmod_nonneg b h0; omega
    · go_enter Try.func59, Try.ntmps59
      go_wp2
      go_ret
      exact ⟨ret_int HD.out.symm, rfl⟩
  · have HD := Lib.hid (show downQ a b = a.tdiv b by unfold downQ; rw [if_neg hn])
    go_enter Try.func59, Try.ntmps59
    go_wp2
    all_goals go_ret
    all_goals exact ⟨ret_int HD.out.symm, rfl⟩

end Go.Proofs.Ytnlapkdmjlcedaa
