/- FloorOf, RoundDownTo, MakeRat, IsRat and CompareRats: of the program and of the reference. -/
import Derived.Test.YtkdhhopfefhdjaaRat6
import Derived.Test.YtkdhhopfefhdjaaRat8
namespace Go.Proofs.Ytkdhhopfefhdjaa
open Go.RowKit

theorem l1Sign_any (n : Int) (w : World) :
    Calls Try.prog 142 #[.int .i64 n] w fun e w' => e = .returned (.int .i64 (if 0 < n then 1 else if n < 0 then -1 else 0)) ∧ w' = w := by
  by_cases h1 : 0 < n
  · go_enter Try.func142, Try.ntmps142
    go_wp2
    go_ret
    exact ⟨rfl, rfl⟩
  · by_cases h2 : n < 0
    · go_enter Try.func142, Try.ntmps142
      go_wp2
      go_ret
      exact ⟨rfl, rfl⟩
    · go_enter Try.func142, Try.ntmps142
      go_wp2
      go_ret
      exact ⟨rfl, rfl⟩

theorem sign_cmp (x y : Int) : (if 0 < x - y then (1 : Int) else if x - y < 0 then -1 else 0) = (if x < y then -1 else if y < x then 1 else 0) := by
  split <;> split <;> (try split) <;> omega

set_option maxHeartbeats 400000 in
theorem raCmp_any (n1 d1 n2 d2 : Int) (s1 : Sm n1) (s2 : Sm d1) (k1 : Sm n2) (k2 : Sm d2) (w : World) :
    Calls Try.prog 103 #[.agg #[.int .i64 n1, .int .i64 d1], .agg #[.int .i64 n2, .int .i64 d2]] w fun e w' => e = .returned (.int .i64 (cmpQ n1 d1 n2 d2)) ∧ Below w.heap.size w w' := by
  have m1 := s1.mul k2
  have m2 := k1.mul s2
  clear s1 s2 k1 k2
  have HC := Lib.hid (show _ = cmpQ n1 d1 n2 d2 from sign_cmp (n1 * d2) (n2 * d1))
  go_enter Try.func103, Try.ntmps103
  go_wp2_with fail
  refine (l1Sign_any _ _).mono ?_
  rintro e w1 ⟨he, rfl⟩
  rw [HC.out] at he
  subst he
  go_wp2_with fail
  go_ret
  exact ⟨rfl, by go_grown⟩


end Go.Proofs.Ytkdhhopfefhdjaa
