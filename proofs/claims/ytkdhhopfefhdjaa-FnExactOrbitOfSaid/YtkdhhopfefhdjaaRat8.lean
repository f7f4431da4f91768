/- The order and the floor of fractions, and MakeRat, IsRat, RoundDownTo, of the program. -/
import Derived.Test.YtkdhhopfefhdjaaRat5
namespace Go.Proofs.Ytkdhhopfefhdjaa
open Go.RowKit

/-- The greatest whole number that is not greater than a / b. -/
def downQ (a b : Int) : Int := if a.tmod b < 0 then a.tdiv b - 1 else a.tdiv b

set_option maxHeartbeats 400000 in
theorem compare_any (n1 d1 n2 d2 : Int) (s1 : Sm n1) (s2 : Sm d1) (k1 : Sm n2) (k2 : Sm d2) (w : World) :
    Calls Try.prog 145 #[.agg #[.int .i64 n1, .int .i64 d1], .agg #[.int .i64 n2, .int .i64 d2]] w fun e w' => e = .returned (.int .i64 (cmpQ n1 d1 n2 d2)) ∧ Below w.heap.size w w' := by
  have m1 := s1.mul k2
  have m2 := k1.mul s2
  clear s1 s2 k1 k2
  by_cases h1 : n1 * d2 < n2 * d1
  · have HC := Lib.hid (show cmpQ n1 d1 n2 d2 = -1 by unfold cmpQ; rw [if_pos h1])
    go_enter Try.func145, Try.ntmps145
    go_wp2_with fail
    go_quiet (fail)
    go_wp2_with fail
    go_ret
    exact ⟨ret_int HC.out.symm, by go_grown; exact below_drewN (by go_grown) _⟩
  · by_cases h2 : n2 * d1 < n1 * d2
    · have HC := Lib.hid (show cmpQ n1 d1 n2 d2 = 1 by unfold cmpQ; rw [if_neg h1, if_pos h2])
      go_enter Try.func145, Try.ntmps145
      go_wp2_with fail
      go_quiet (fail)
      go_wp2_with fail
      go_ret
      exact ⟨ret_int HC.out.symm, by go_grown; exact below_drewN (by go_grown) _⟩
    · have HC := Lib.hid (show cmpQ n1 d1 n2 d2 = 0 by unfold cmpQ; rw [if_neg h1, if_neg h2])
      go_enter Try.func145, Try.ntmps145
      go_wp2_with fail
      go_quiet (fail)
      go_wp2_with fail
      go_ret
      exact ⟨ret_int HC.out.symm, by go_grown; exact below_drewN (by go_grown) _⟩

theorem tdiv_bd {a : Int} (b : Int) {m : Int} (h : -m ≤ a ∧ a ≤ m) : -m ≤ a.tdiv b ∧ a.tdiv b ≤ m := by
  have := natAbs_tdiv_le a b; omega
theorem tmod_bd {a b m : Int} (hb : 1 ≤ b) (h : b ≤ m) : -m ≤ a.tmod b ∧ a.tmod b ≤ m := by
  have h1 : (a.tmod b).natAbs < b.natAbs := by rw [Int.natAbs_tmod]; exact Nat.mod_lt _ (by omega)
  omega
theorem downQ_bd {a b m : Int} (h : -m ≤ a ∧ a ≤ m) : -m - 1 ≤ downQ a b ∧ downQ a b ≤ m := by
  have := tdiv_bd b h; unfold downQ; split <;> omega

end Go.Proofs.Ytkdhhopfefhdjaa
