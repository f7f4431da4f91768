/- What the smallest functions on numbers and fractions do: abs, within, the greatest common divisor, whether a fraction is valid: of the program and of the reference. -/
import Derived.Test.YtkdhhopfefhdjaaBase
import Derived.Test.YtkdhhopfefhdjaaMath
namespace Go.Proofs.Ytkdhhopfefhdjaa
open Go.RowKit

set_option maxHeartbeats 400000 in
theorem abs_any (n : Int) (_h : -9223372036854775807 ≤ n ∧ n ≤ 9223372036854775807) (w : World) :
    Calls Try.prog 172 #[.int .i64 n] w fun e w' => e = .returned (.int .i64 (n.natAbs : Int)) ∧ w = w' := by
  by_cases h0 : n < 0
  · go_enter Try.func172, Try.ntmps172
    go_wp2
    go_ret
    exact ⟨ret_int (by omega), rfl⟩
  · go_enter Try.func172, Try.ntmps172
    go_wp2
    go_ret
    exact ⟨ret_int (by omega), rfl⟩

theorem gcd_step (a b : Nat) : Nat.gcd b (a % b) = Nat.gcd a b := by
  rw [Nat.gcd_comm a b, Nat.gcd_rec b a, Nat.gcd_comm]

def GcdEnd (a b : Int) (w : World) (e : Ending) (w' : World) : Prop := e = .returned (.int .i64 (Int.gcd a b : Int)) ∧ ∃ k, w' = w.drewN k

set_option maxHeartbeats 400000 in
theorem gcd_any (a b : Int) (ha : -9223372036854775807 ≤ a ∧ a ≤ 9223372036854775807) (hb : -9223372036854775807 ≤ b ∧ b ≤ 9223372036854775807) (w : World) :
    Calls Try.prog 162 #[.int .i64 a, .int .i64 b] w (GcdEnd a b w) := by
  go_enter Try.func162, Try.ntmps162
  go_wp2_with fail
  refine (abs_any a ha _).mono ?_
  rintro e w1 ⟨rfl, rfl⟩
  go_wp2_with fail
  refine (abs_any b hb _).mono ?_
  rintro e w1 ⟨rfl, rfl⟩
  go_wp2_with fail
  go_loopw [0, 1] (fun x y wr => ∃ m n k : Nat, x = .int .i64 m ∧ y = .int .i64 n ∧ m ≤ 9223372036854775807 ∧ n ≤ 9223372036854775807 ∧ Nat.gcd m n = Int.gcd a b ∧ wr = w.drewN k) (fun x y _ => (intOf y).toNat)
  case atStart => exact ⟨a.natAbs, b.natAbs, 0, rfl, rfl, by omega, by omega, rfl, rfl⟩
  case round =>
    obtain ⟨m, n, k, rfl, rfl, hm, hn, hg, rfl⟩ := hrel
    have HG := Lib.hid hg
    clear hg
    by_cases h0 : n = 0
    · subst h0
      go_wp2_with fail
      go_ret
      refine ⟨ret_int ?_, k, rfl⟩
      have := HG.out
      rw [← this]; simp
    · have hlt := Nat.mod_lt m (Nat.pos_of_ne_zero h0)
      go_wp2_with fail
      go_region
      go_wp2_with fail
      go_roundw
      case rel => exact ⟨n, m % n, k + 1, rfl, by simp, by omega, by omega, by rw [gcd_step]; exact HG.out, rfl⟩
      case measure => simp [intOf]; omega

set_option maxHeartbeats 400000 in
theorem within_yes (n lo hi : Int) (h1 : lo ≤ n) (h2 : n ≤ hi) (w : World) :
    Calls Try.prog 125 #[.int .i64 n, .int .i64 lo, .int .i64 hi] w fun e w' => e = .returned (.bool true) ∧ w = w' := by
  go_enter Try.func125, Try.ntmps125
  go_wp2
  go_ret
  exact ⟨ret_bool (by simp), rfl⟩
set_option maxHeartbeats 400000 in
theorem within_no (n lo hi : Int) (h : ¬ (lo ≤ n ∧ n ≤ hi)) (w : World) :
    Calls Try.prog 125 #[.int .i64 n, .int .i64 lo, .int .i64 hi] w fun e w' => e = .returned (.bool false) ∧ w = w' := by
  by_cases h1 : lo ≤ n
  · have h2 : ¬ n ≤ hi := fun h2 => h ⟨h1, h2⟩
    clear h
    go_enter Try.func125, Try.ntmps125
    go_wp2
    go_ret
    exact ⟨ret_bool (by simp), rfl⟩
  · clear h
    go_enter Try.func125, Try.ntmps125
    go_wp2
    go_ret
    exact ⟨rfl, rfl⟩

set_option maxHeartbeats 400000 in
theorem isRat_any (n d : Int) (w : World) :
    Calls Try.prog 136 #[.agg #[.int .i64 n, .int .i64 d]] w fun e w' => e = .returned (.bool (okQ n d)) ∧ Below w.heap.size w w' := by
  by_cases h1 : 1 ≤ d ∧ d ≤ 1000000000
  · by_cases h2 : -1000000000 ≤ n ∧ n ≤ 1000000000
    · have hk := okQ_eq h1 h2
      have HK := Lib.hid hk
      clear hk
      go_enter Try.func136, Try.ntmps136
      go_wp2_with fail
      refine (within_yes d _ _ h1.1 h1.2 _).mono ?_
      rintro e w1 ⟨rfl, rfl⟩
      go_wp2_with fail
      refine (within_yes n _ _ h2.1 h2.2 _).mono ?_
      rintro e w1 ⟨rfl, rfl⟩
      go_wp2_with fail
      refine (gcd_any n d (by omega) (by omega) _).mono ?_
      rintro e w1 ⟨rfl, k, rfl⟩
      go_wp2_with fail
      go_ret
      exact ⟨ret_bool HK.out.symm, below_drewN ((Below.refl _ _).alloc (Nat.le_refl _) _) _⟩
    · have HK := Lib.hid (okQ_no2 (d := d) h2)
      go_enter Try.func136, Try.ntmps136
      go_wp2_with fail
      refine (within_yes d _ _ h1.1 h1.2 _).mono ?_
      rintro e w1 ⟨rfl, rfl⟩
      go_wp2_with fail
      refine (within_no n _ _ h2 _).mono ?_
      rintro e w1 ⟨rfl, rfl⟩
      go_wp2_with fail
      go_ret
      exact ⟨ret_bool HK.out.symm, ((Below.refl _ _).alloc (Nat.le_refl _) _)⟩
  · have HK := Lib.hid (okQ_no1 (n := n) h1)
    go_enter Try.func136, Try.ntmps136
    go_wp2_with fail
    refine (within_no d _ _ h1 _).mono ?_
    rintro e w1 ⟨rfl, rfl⟩
    go_wp2_with fail
    go_ret
    exact ⟨ret_bool HK.out.symm, ((Below.refl _ _).alloc (Nat.le_refl _) _)⟩
end Go.Proofs.Ytkdhhopfefhdjaa
