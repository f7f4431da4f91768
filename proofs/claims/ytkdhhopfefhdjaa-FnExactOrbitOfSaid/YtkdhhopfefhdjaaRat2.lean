/- What the smallest functions of the reference do on numbers and fractions. -/
import Derived.Test.YtkdhhopfefhdjaaRat1
namespace Go.Proofs.Ytkdhhopfefhdjaa
open Go.RowKit

set_option maxHeartbeats 400000 in
theorem l1In_yes (n lo hi : Int) (h1 : lo ≤ n) (h2 : n ≤ hi) (w : World) :
    Calls Try.prog 123 #[.int .i64 n, .int .i64 lo, .int .i64 hi] w fun e w' => e = .returned (.bool true) ∧ w' = w := by
  go_enter Try.func123, Try.ntmps123
  go_wp2
  go_ret
  exact ⟨ret_bool (by simp), rfl⟩
set_option maxHeartbeats 400000 in
theorem l1In_no (n lo hi : Int) (h : ¬ (lo ≤ n ∧ n ≤ hi)) (w : World) :
    Calls Try.prog 123 #[.int .i64 n, .int .i64 lo, .int .i64 hi] w fun e w' => e = .returned (.bool false) ∧ w' = w := by
  by_cases h1 : lo ≤ n
  · have h2 : ¬ n ≤ hi := fun h2 => h ⟨h1, h2⟩
    clear h
    go_enter Try.func123, Try.ntmps123
    go_wp2
    go_ret
    exact ⟨ret_bool (by simp), rfl⟩
  · clear h
    go_enter Try.func123, Try.ntmps123
    go_wp2
    go_ret
    exact ⟨rfl, rfl⟩

set_option maxHeartbeats 400000 in
theorem l1Most_any (a b : Int) (w : World) :
    Calls Try.prog 95 #[.int .i64 a, .int .i64 b] w fun e w' => e = .returned (.int .i64 (max a b)) ∧ w' = w := by
  by_cases h : b < a
  · go_enter Try.func95, Try.ntmps95
    go_wp2
    go_ret
    exact ⟨ret_int (by omega), rfl⟩
  · go_enter Try.func95, Try.ntmps95
    go_wp2
    go_ret
    exact ⟨ret_int (by omega), rfl⟩

set_option maxHeartbeats 400000 in
theorem l1Abs_any (n : Int) (h : -9223372036854775807 ≤ n ∧ n ≤ 9223372036854775807) (w : World) :
    Calls Try.prog 160 #[.int .i64 n] w fun e w' => e = .returned (.int .i64 (n.natAbs : Int)) ∧ w' = w := by
  go_enter Try.func160, Try.ntmps160
  go_wp2_with fail
  refine (l1Most_any _ _ _).mono ?_
  rintro e w1 ⟨rfl, rfl⟩
  go_wp2_with fail
  go_ret
  exact ⟨ret_int (by omega), rfl⟩

set_option maxHeartbeats 400000 in
theorem raCommon_any (a b : Nat) (ha : a ≤ 9223372036854775807) (hb : b ≤ 9223372036854775807) (w : World) :
    Calls Try.prog 159 #[.int .i64 a, .int .i64 b] w fun e w' => e = .returned (.int .i64 (Nat.gcd a b : Nat)) ∧ w' = w := by
  go_enter Try.func159, Try.ntmps159
  go_wp2_with fail
  go_loop [0, 1] (fun x y => ∃ m n : Nat, x = .int .i64 m ∧ y = .int .i64 n ∧ m ≤ 9223372036854775807 ∧ n ≤ 9223372036854775807 ∧ Nat.gcd m n = Nat.gcd a b) (fun x y => (intOf y).toNat)
  case atStart => exact ⟨a, b, rfl, rfl, by omega, by omega, rfl⟩
  case round =>
    obtain ⟨m, n, rfl, rfl, hm, hn, hg⟩ := hrel
    have HG := Lib.hid hg
    clear hg
    by_cases h0 : n = 0
    · subst h0
      go_wp2_with fail
      go_ret
      refine ⟨ret_int ?_, rfl⟩
      have := HG.out
      rw [← this]; simp
    · have hlt := Nat.mod_lt m (Nat.pos_of_ne_zero h0)
      go_wp2_with fail
      go_round
      case rel => exact ⟨n, m % n, rfl, by simp, by omega, by omega, by rw [gcd_step]; exact HG.out⟩
      case measure => simp [intOf]; omega

set_option maxHeartbeats 400000 in
theorem raGood_any (n d : Int) (w : World) :
    Calls Try.prog 133 #[.agg #[.int .i64 n, .int .i64 d]] w fun e w' => e = .returned (.bool (okQ n d)) ∧ Below w.heap.size w w' := by
  by_cases h1 : 1 ≤ d ∧ d ≤ 1000000000
  · by_cases h2 : -1000000000 ≤ n ∧ n ≤ 1000000000
    · have hk := okQ_eq h1 h2
      have HK := Lib.hid hk
      clear hk
      obtain ⟨m, rfl⟩ : ∃ m : Nat, d = m := ⟨d.toNat, by omega⟩
      go_enter Try.func133, Try.ntmps133
      go_wp2_with fail
      go_quiet ((first | (go_at_call 123; exact Calls.quiet_of_same (l1In_yes _ _ _ (by omega) (by omega) _)) | (go_at_call 160; exact Calls.quiet_of_same (l1Abs_any _ (by omega) _)) | (go_at_call 159; exact Calls.quiet_of_same (raCommon_any _ _ (by omega) (by omega) _))))
      go_wp2_with fail
      go_ret
      exact ⟨ret_bool HK.out.symm, below_drewN ((Below.refl _ _).alloc (Nat.le_refl _) _) _⟩
    · have HK := Lib.hid (okQ_no2 (d := d) h2)
      go_enter Try.func133, Try.ntmps133
      go_wp2_with fail
      go_quiet ((first | (go_at_call 123; exact Calls.quiet_of_same (l1In_yes _ _ _ (by omega) (by omega) _)) | (go_at_call 123; exact Calls.quiet_of_same (l1In_no _ _ _ (by omega) _))))
      go_wp2_with fail
      go_ret
      exact ⟨ret_bool HK.out.symm, below_drewN ((Below.refl _ _).alloc (Nat.le_refl _) _) _⟩
  · have HK := Lib.hid (okQ_no1 (n := n) h1)
    go_enter Try.func133, Try.ntmps133
    go_wp2_with fail
    go_quiet ((go_at_call 123; exact Calls.quiet_of_same (l1In_no _ _ _ (by omega) _)))
    go_wp2_with fail
    go_ret
    exact ⟨ret_bool HK.out.symm, below_drewN ((Below.refl _ _).alloc (Nat.le_refl _) _) _⟩

end Go.Proofs.Ytkdhhopfefhdjaa
