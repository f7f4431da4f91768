/- Small laws that all walks of this seat use: what a callee that changes nothing of what was there leaves behind. · Plain facts on fractions, with no program in sight: what 'valid' means, and a fraction in lowest terms. · What the smallest functions on numbers and fractions do: abs, within, the greatest common divisor, whether a fraction is valid: of the program and of the reference. · What the smallest functions of the reference do on numbers and fractions. · 'lowest' of the program and 'raMake' of the reference: a fraction in lowest terms. · How a slice of fractions and a slice of points lie in memory. · 'areRats' of the program: whether all fractions of a list are valid. · AddRats, MultiplyRats, DivideRats and MiddleOf of the program, for all fractions. · The reference's sums, differences, products, quotients and middles of fractions. · SubtractRats of the program. · The order and the floor of fractions, and MakeRat, IsRat, RoundDownTo, of the program. · FloorOf, RoundDownTo, MakeRat, IsRat and CompareRats: of the program and of the reference. -/
import Derived.Test.YtkeajfgcjmhmiaaRows
import Derived.WalkKit
import Derived.WalkSpells
import Derived.BigQuiet
import Derived.Deep.QuietTactic
import Derived.RegionTactic
import Derived.Outline
import Derived.Handy
import Derived.Lib.Hide
import Derived.RowKit
import Derived.Deep.RegionHeld3
namespace Go.Proofs.Ytkeajfgcjmhmiaa
open Go.RowKit

theorem ret_int {k : IntKind} {a b : Int} (h : a = b) : Ending.returned (.int k a) = .returned (.int k b) := by rw [h]
theorem ret_bool {a b : Bool} (h : a = b) : Ending.returned (.bool a) = .returned (.bool b) := by rw [h]
theorem bcell {W w1 : World} (hb : Below W.heap.size W w1) : (∀ b o, b < W.heap.size → w1.cell? ⟨b, o, none⟩ = W.cell? ⟨b, o, none⟩) ∧ (∀ b o, b < W.heap.size → w1.frozen? ⟨b, o, none⟩ = W.frozen? ⟨b, o, none⟩) :=
  ⟨fun b o h => hb.cell (p := ⟨b, o, none⟩) h, fun b o h => hb.frozen (p := ⟨b, o, none⟩) h⟩
theorem below_drewN {B : Nat} {a w : World} (h : Below B a w) (n : Nat) : Below B a (w.drewN n) := ⟨h.os, h.tape, h.output, h.size, h.block⟩

/-- One more callee behind what has been done. -/
theorem nextB {B : Nat} {w X w1 : World} (h : Below B w X) (hB : B ≤ X.heap.size) (hb : Below X.heap.size X w1) : Below B w w1 := h.trans (hb.mono hB)
theorem nextW {w X w1 : World} (h : Below w.heap.size w X) (hb : Below X.heap.size X w1) : Below w.heap.size w w1 := h.trans (hb.mono h.size)

theorem lt_of_cell {W : World} {b o : Nat} {v : Value} (h : W.cell? ⟨b, o, none⟩ = some v) : b < W.heap.size := by
  rcases Nat.lt_or_ge b W.heap.size with h1 | h1
  · exact h1
  · simp [World.cell?, Array.getElem?_eq_none h1] at h

/-- A cell that may be read and written. -/
def Slot (w : World) (b o : Nat) (v : Value) : Prop := w.cell? ⟨b, o, none⟩ = some v ∧ w.frozen? ⟨b, o, none⟩ = false
theorem cellB {W w1 : World} {b o : Nat} {v : Value} (hb : Below W.heap.size W w1) (h : W.cell? ⟨b, o, none⟩ = some v) : w1.cell? ⟨b, o, none⟩ = some v :=
  (hb.cell (p := ⟨b, o, none⟩) (lt_of_cell h)).trans h
theorem slotB {W w1 : World} {b o : Nat} {v : Value} (hb : Below W.heap.size W w1) (h : Slot W b o v) : Slot w1 b o v :=
  ⟨cellB hb h.1, (hb.frozen (p := ⟨b, o, none⟩) (lt_of_cell h.1)).trans h.2⟩

theorem cellA {X : World} {b o : Nat} {v : Value} (ob : Obj) (h : X.cell? ⟨b, o, none⟩ = some v) : (X.alloc ob).cell? ⟨b, o, none⟩ = some v := cellB ((Below.refl _ _).alloc (Nat.le_refl _) _) h
theorem slotA {X : World} {b o : Nat} {v : Value} (ob : Obj) (h : Slot X b o v) : Slot (X.alloc ob) b o v := slotB ((Below.refl _ _).alloc (Nat.le_refl _) _) h
theorem slotS {X : World} {b o : Nat} {v : Value} {g i : Nat} {u : Value} (h : Slot X b o v) (hne : (g, i) ≠ (b, o)) : Slot (X.setCell ⟨g, i, none⟩ u) b o v := by
  refine ⟨?_, ?_⟩
  · rw [World.cell?_setCell_other _ _ _ _ (by intro e; cases e; exact hne rfl)]; exact h.1
  · have := h.2; simpa [go_sem] using this
theorem slotN {X : World} {b o : Nat} {v u : Value} (h : Slot X b o v) : Slot (X.setCell ⟨b, o, none⟩ u) b o u := by
  refine ⟨World.cell?_setCell_same _ _ _ h.1, ?_⟩
  have := h.2; simpa [go_sem] using this
theorem slotNew (X : World) (a b : Value) (t : TypeId) : Slot (X.alloc (.cells #[a, b] t)) X.heap.size 0 a ∧ Slot (X.alloc (.cells #[a, b] t)) X.heap.size 1 b :=
  ⟨⟨by simp [go_sem], by simp [go_sem]⟩, by simp [go_sem], by simp [go_sem]⟩

end Go.Proofs.Ytkeajfgcjmhmiaa

namespace Go.Proofs.Ytkeajfgcjmhmiaa
open Go.RowKit

/-- A fraction is valid. -/
def okQ (n d : Int) : Bool := decide (1 ≤ d ∧ d ≤ 1000000000 ∧ -1000000000 ≤ n ∧ n ≤ 1000000000 ∧ Int.gcd n d = 1)

theorem okQ_mk {n d : Int} (h1 : 1 ≤ d) (h2 : d ≤ 1000000000) (h3 : -1000000000 ≤ n) (h4 : n ≤ 1000000000) (h5 : Int.gcd n d = 1) : okQ n d = true := by
  simp only [okQ, decide_eq_true_eq]; exact ⟨h1, h2, h3, h4, h5⟩
theorem okQ_bd {n d : Int} (h : okQ n d = true) : 1 ≤ d ∧ d ≤ 1000000000 ∧ -1000000000 ≤ n ∧ n ≤ 1000000000 := by
  simp only [okQ, decide_eq_true_eq] at h; exact ⟨h.1, h.2.1, h.2.2.1, h.2.2.2.1⟩
theorem okQ_gcd {n d : Int} (h : okQ n d = true) : Int.gcd n d = 1 := by
  simp only [okQ, decide_eq_true_eq] at h; exact h.2.2.2.2
theorem okQ_no1 {n d : Int} (h : ¬ (1 ≤ d ∧ d ≤ 1000000000)) : okQ n d = false := by
  simp only [okQ, decide_eq_false_iff_not]; intro hh; exact h ⟨hh.1, hh.2.1⟩
theorem okQ_no2 {n d : Int} (h : ¬ (-1000000000 ≤ n ∧ n ≤ 1000000000)) : okQ n d = false := by
  simp only [okQ, decide_eq_false_iff_not]; intro hh; exact h ⟨hh.2.2.1, hh.2.2.2.1⟩
theorem okQ_eq {n d : Int} (h1 : 1 ≤ d ∧ d ≤ 1000000000) (h2 : -1000000000 ≤ n ∧ n ≤ 1000000000) : okQ n d = (((Int.gcd n d : Nat) : Int) == 1) := by
  rw [Bool.eq_iff_iff]
  simp only [okQ, decide_eq_true_eq, beq_iff_eq]
  constructor
  · intro h; omega
  · intro h; exact ⟨h1.1, h1.2, h2.1, h2.2, by omega⟩

/-- The divisor by which a fraction is cut: of the denominator's sign. -/
def cutQ (n d : Int) : Int := if d < 0 then - (Int.gcd n d : Int) else (Int.gcd n d : Int)

/-- A fraction in lowest terms, and whether it is valid: (0, 0, false) if not. -/
def lowQ (n d : Int) : Int × Int × Bool :=
  if okQ (n.tdiv (cutQ n d)) (d.tdiv (cutQ n d)) = true then (n.tdiv (cutQ n d), d.tdiv (cutQ n d), true) else (0, 0, false)

theorem lowQ_yes {n d : Int} (h : okQ (n.tdiv (cutQ n d)) (d.tdiv (cutQ n d)) = true) : lowQ n d = (n.tdiv (cutQ n d), d.tdiv (cutQ n d), true) := by
  unfold lowQ; rw [if_pos h]
theorem lowQ_no {n d : Int} (h : okQ (n.tdiv (cutQ n d)) (d.tdiv (cutQ n d)) = false) : lowQ n d = (0, 0, false) := by
  unfold lowQ; rw [if_neg (by rw [h]; decide)]
theorem lowQ_zero (n : Int) : lowQ n 0 = (0, 0, false) := by
  refine lowQ_no (okQ_no1 ?_); simp

/-- The result of 'lowest' is valid or nought. -/
theorem lowQ_ok {n d a b : Int} {t : Bool} (h : lowQ n d = (a, b, t)) : (t = true → okQ a b = true) ∧ (t = false → a = 0 ∧ b = 0) := by
  unfold lowQ at h
  split at h
  · rename_i hk; simp only [Prod.mk.injEq] at h; obtain ⟨rfl, rfl, rfl⟩ := h
    exact ⟨fun _ => hk, (fun h => by cases h)⟩
  · simp only [Prod.mk.injEq] at h; obtain ⟨rfl, rfl, rfl⟩ := h
    exact ⟨(fun h => by cases h), fun _ => ⟨rfl, rfl⟩⟩

theorem cutQ_dvd (n d : Int) : cutQ n d ∣ n ∧ cutQ n d ∣ d := by
  unfold cutQ
  split
  · exact ⟨Int.neg_dvd.2 (Int.gcd_dvd_left ..), Int.neg_dvd.2 (Int.gcd_dvd_right ..)⟩
  · exact ⟨Int.gcd_dvd_left .., Int.gcd_dvd_right ..⟩
theorem cutQ_ne {n d : Int} (h : d ≠ 0) : cutQ n d ≠ 0 := by
  have : 0 < Int.gcd n d := Int.gcd_pos_of_ne_zero_right n h
  unfold cutQ; split <;> omega
theorem tdiv_cutQ (n d : Int) : n.tdiv (cutQ n d) = n / cutQ n d ∧ d.tdiv (cutQ n d) = d / cutQ n d :=
  ⟨Int.tdiv_eq_ediv_of_dvd (cutQ_dvd n d).1, Int.tdiv_eq_ediv_of_dvd (cutQ_dvd n d).2⟩
theorem lowQ_parts {n d a b : Int} {t : Bool} (h : lowQ n d = (a, b, t)) : okQ (n.tdiv (cutQ n d)) (d.tdiv (cutQ n d)) = t ∧ (t = true → a = n.tdiv (cutQ n d) ∧ b = d.tdiv (cutQ n d)) ∧ (t = false → a = 0 ∧ b = 0) := by
  unfold lowQ at h
  split at h
  · rename_i hk; simp only [Prod.mk.injEq] at h; obtain ⟨rfl, rfl, rfl⟩ := h
    exact ⟨hk, fun _ => ⟨rfl, rfl⟩, (fun h => by cases h)⟩
  · rename_i hk; simp only [Prod.mk.injEq] at h; obtain ⟨rfl, rfl, rfl⟩ := h
    exact ⟨by simpa using hk, (fun h => by cases h), fun _ => ⟨rfl, rfl⟩⟩
theorem cutQ_bd (n d : Int) (h : d ≠ 0) : (cutQ n d).natAbs ≤ d.natAbs := by
  have h1 : Int.gcd n d ∣ d.natAbs := Nat.gcd_dvd_right ..
  have h2 := Nat.le_of_dvd (by omega) h1
  unfold cutQ; split <;> omega

def addQ (n1 d1 n2 d2 : Int) : Int × Int × Bool := if (okQ n1 d1 && okQ n2 d2) = true then lowQ (n1 * d2 + n2 * d1) (d1 * d2) else (0, 0, false)
def subQ (n1 d1 n2 d2 : Int) : Int × Int × Bool := if (okQ n1 d1 && okQ n2 d2) = true then lowQ (n1 * d2 - n2 * d1) (d1 * d2) else (0, 0, false)
def mulQ (n1 d1 n2 d2 : Int) : Int × Int × Bool := if (okQ n1 d1 && okQ n2 d2) = true then lowQ (n1 * n2) (d1 * d2) else (0, 0, false)
def divQ (n1 d1 n2 d2 : Int) : Int × Int × Bool := if (okQ n1 d1 && okQ n2 d2) = true ∧ n2 ≠ 0 then lowQ (n1 * d2) (d1 * n2) else (0, 0, false)
def midQ (n1 d1 n2 d2 : Int) : Int × Int × Bool := if (okQ n1 d1 && okQ n2 d2) = true then lowQ (n1 * d2 + n2 * d1) (2 * d1 * d2) else (0, 0, false)
/-- The order of two fractions: -1, 0 or 1. -/
def cmpQ (n1 d1 n2 d2 : Int) : Int := if n1 * d2 < n2 * d1 then -1 else if n2 * d1 < n1 * d2 then 1 else 0

/-- A number that takes part in the numbers of fractions. -/
def Sm (n : Int) : Prop := -1000000000 ≤ n ∧ n ≤ 1000000000
theorem Sm.bd {n : Int} (h : Sm n) : -1000000000 ≤ n ∧ n ≤ 1000000000 := h
theorem Sm.of_ok {n d : Int} (h : okQ n d = true) : Sm n ∧ Sm d := by
  obtain ⟨a, b, c, d⟩ := okQ_bd h; exact ⟨⟨c, d⟩, by omega, by omega⟩
theorem Sm.zero : Sm 0 := by unfold Sm; omega
theorem Sm.of_low {n d a b : Int} {t : Bool} (h : lowQ n d = (a, b, t)) : Sm a ∧ Sm b := by
  obtain ⟨h1, h2⟩ := lowQ_ok h
  cases t
  · obtain ⟨rfl, rfl⟩ := h2 rfl; exact ⟨Sm.zero, Sm.zero⟩
  · exact Sm.of_ok (h1 rfl)

theorem mul_bd {a b : Int} (h1 : -1000000000 ≤ a) (h2 : a ≤ 1000000000) (h3 : -1000000000 ≤ b) (h4 : b ≤ 1000000000) : -1000000000000000000 ≤ a * b ∧ a * b ≤ 1000000000000000000 := by
  have h : (a * b).natAbs ≤ 1000000000 * 1000000000 := by
    rw [Int.natAbs_mul]; exact Nat.mul_le_mul (by omega) (by omega)
  omega

theorem Sm.mul {a b : Int} (h : Sm a) (k : Sm b) : -1000000000000000000 ≤ a * b ∧ a * b ≤ 1000000000000000000 := mul_bd h.1 h.2 k.1 k.2
theorem Sm.two {a b : Int} (h : Sm a) (k : Sm b) : -2000000000000000000 ≤ 2 * a * b ∧ 2 * a * b ≤ 2000000000000000000 := by
  have := h.mul k; rw [Int.mul_assoc]; omega

end Go.Proofs.Ytkeajfgcjmhmiaa

namespace Go.Proofs.Ytkeajfgcjmhmiaa
open Go.RowKit

set_option maxHeartbeats 400000 in
theorem abs_any (n : Int) (_h : -9223372036854775807 ≤ n ∧ n ≤ 9223372036854775807) (w : World) :
    Calls Try.prog 96 #[.int .i64 n] w fun e w' => e = .returned (.int .i64 (n.natAbs : Int)) ∧ w = w' := by
  by_cases h0 : n < 0
  · go_enter Try.func96, Try.ntmps96
    go_wp2
    go_ret
    exact ⟨ret_int (by omega), rfl⟩
  · go_enter Try.func96, Try.ntmps96
    go_wp2
    go_ret
    exact ⟨ret_int (by omega), rfl⟩

theorem gcd_step (a b : Nat) : Nat.gcd b (a % b) = Nat.gcd a b := by
  rw [Nat.gcd_comm a b, Nat.gcd_rec b a, Nat.gcd_comm]

def GcdEnd (a b : Int) (w : World) (e : Ending) (w' : World) : Prop := e = .returned (.int .i64 (Int.gcd a b : Int)) ∧ ∃ k, w' = w.drewN k

set_option maxHeartbeats 400000 in
theorem gcd_any (a b : Int) (ha : -9223372036854775807 ≤ a ∧ a ≤ 9223372036854775807) (hb : -9223372036854775807 ≤ b ∧ b ≤ 9223372036854775807) (w : World) :
    Calls Try.prog 85 #[.int .i64 a, .int .i64 b] w (GcdEnd a b w) := by
  go_enter Try.func85, Try.ntmps85
  go_wp2_with fail
  refine (abs_any a ha _).mono ?_
  rintro e w1 ⟨rfl, rfl⟩
  go_wp2_with fail
  refine (abs_any b hb _).mono ?_
  rintro e w1 ⟨rfl, rfl⟩
  go_wp2_with fail
  go_loopw [0, 1] (fun x y wr => ∃ m n k : Nat, x = .int .i64 m ∧ y = .int .i64 n ∧ m ≤ 9223372036854775807 ∧ n ≤ 9223372036854775807 ∧ Nat.gcd m n = Int.gcd a b ∧ wr = w.drewN k) (fun x y _ => (intOf y).toNat)
  case atStart => exact ⟨a.natAbs, b.natAbs, 0, rfl, rfl, by omega, by omega, rfl, rfl⟩
  case round =>
    obtain ⟨m, n, k, rfl, rfl, hm, hn, hg, rfl⟩ := hrel
    have HG := Lib.hid hg
    clear hg
    by_cases h0 : n = 0
    · subst h0
      go_wp2_with fail
      go_ret
      refine ⟨ret_int ?_, k, rfl⟩
      have := HG.out
      rw [← this]; simp
    · have hlt := Nat.mod_lt m (Nat.pos_of_ne_zero h0)
      go_wp2_with fail
      go_region
      go_wp2_with fail
      go_roundw
      case rel => exact ⟨n, m % n, k + 1, rfl, by simp, by omega, by omega, by rw [gcd_step]; exact HG.out, rfl⟩
      case measure => simp [intOf]; omega

set_option maxHeartbeats 400000 in
theorem within_yes (n lo hi : Int) (h1 : lo ≤ n) (h2 : n ≤ hi) (w : World) :
    Calls Try.prog 39 #[.int .i64 n, .int .i64 lo, .int .i64 hi] w fun e w' => e = .returned (.bool true) ∧ w = w' := by
  go_enter Try.func39, Try.ntmps39
  go_wp2
  go_ret
  exact ⟨ret_bool (by simp), rfl⟩
set_option maxHeartbeats 400000 in
theorem within_no (n lo hi : Int) (h : ¬ (lo ≤ n ∧ n ≤ hi)) (w : World) :
    Calls Try.prog 39 #[.int .i64 n, .int .i64 lo, .int .i64 hi] w fun e w' => e = .returned (.bool false) ∧ w = w' := by
  by_cases h1 : lo ≤ n
  · have h2 : ¬ n ≤ hi := fun h2 => h ⟨h1, h2⟩
    clear h
    go_enter Try.func39, Try.ntmps39
    go_wp2
    go_ret
    exact ⟨ret_bool (by simp), rfl⟩
  · clear h
    go_enter Try.func39, Try.ntmps39
    go_wp2
    go_ret
    exact ⟨rfl, rfl⟩

set_option maxHeartbeats 400000 in
theorem isRat_any (n d : Int) (w : World) :
    Calls Try.prog 69 #[.agg #[.int .i64 n, .int .i64 d]] w fun e w' => e = .returned (.bool (okQ n d)) ∧ Below w.heap.size w w' := by
  by_cases h1 : 1 ≤ d ∧ d ≤ 1000000000
  · by_cases h2 : -1000000000 ≤ n ∧ n ≤ 1000000000
    · have hk := okQ_eq h1 h2
      have HK := Lib.hid hk
      clear hk
      go_enter Try.func69, Try.ntmps69
      go_wp2_with fail
      refine (within_yes d _ _ h1.1 h1.2 _).mono ?_
      rintro e w1 ⟨rfl, rfl⟩
      go_wp2_with fail
      refine (within_yes n _ _ h2.1 h2.2 _).mono ?_
      rintro e w1 ⟨rfl, rfl⟩
      go_wp2_with fail
      refine (gcd_any n d (by omega) (by omega) _).mono ?_
      rintro e w1 ⟨rfl, k, rfl⟩
      go_wp2_with fail
      go_ret
      exact ⟨ret_bool HK.out.symm, below_drewN ((Below.refl _ _).alloc (Nat.le_refl _) _) _⟩
    · have HK := Lib.hid (okQ_no2 (d := d) h2)
      go_enter Try.func69, Try.ntmps69
      go_wp2_with fail
      refine (within_yes d _ _ h1.1 h1.2 _).mono ?_
      rintro e w1 ⟨rfl, rfl⟩
      go_wp2_with fail
      refine (within_no n _ _ h2 _).mono ?_
      rintro e w1 ⟨rfl, rfl⟩
      go_wp2_with fail
      go_ret
      exact ⟨ret_bool HK.out.symm, ((Below.refl _ _).alloc (Nat.le_refl _) _)⟩
  · have HK := Lib.hid (okQ_no1 (n := n) h1)
    go_enter Try.func69, Try.ntmps69
    go_wp2_with fail
    refine (within_no d _ _ h1 _).mono ?_
    rintro e w1 ⟨rfl, rfl⟩
    go_wp2_with fail
    go_ret
    exact ⟨ret_bool HK.out.symm, ((Below.refl _ _).alloc (Nat.le_refl _) _)⟩
end Go.Proofs.Ytkeajfgcjmhmiaa

namespace Go.Proofs.Ytkeajfgcjmhmiaa
open Go.RowKit

set_option maxHeartbeats 400000 in
theorem l1In_yes (n lo hi : Int) (h1 : lo ≤ n) (h2 : n ≤ hi) (w : World) :
    Calls Try.prog 48 #[.int .i64 n, .int .i64 lo, .int .i64 hi] w fun e w' => e = .returned (.bool true) ∧ w' = w := by
  go_enter Try.func48, Try.ntmps48
  go_wp2
  go_ret
  exact ⟨ret_bool (by simp), rfl⟩
set_option maxHeartbeats 400000 in
theorem l1In_no (n lo hi : Int) (h : ¬ (lo ≤ n ∧ n ≤ hi)) (w : World) :
    Calls Try.prog 48 #[.int .i64 n, .int .i64 lo, .int .i64 hi] w fun e w' => e = .returned (.bool false) ∧ w' = w := by
  by_cases h1 : lo ≤ n
  · have h2 : ¬ n ≤ hi := fun h2 => h ⟨h1, h2⟩
    clear h
    go_enter Try.func48, Try.ntmps48
    go_wp2
    go_ret
    exact ⟨ret_bool (by simp), rfl⟩
  · clear h
    go_enter Try.func48, Try.ntmps48
    go_wp2
    go_ret
    exact ⟨rfl, rfl⟩

set_option maxHeartbeats 400000 in
theorem l1Most_any (a b : Int) (w : World) :
    Calls Try.prog 93 #[.int .i64 a, .int .i64 b] w fun e w' => e = .returned (.int .i64 (max a b)) ∧ w' = w := by
  by_cases h : b < a
  · go_enter Try.func93, Try.ntmps93
    go_wp2
    go_ret
    exact ⟨ret_int (by omega), rfl⟩
  · go_enter Try.func93, Try.ntmps93
    go_wp2
    go_ret
    exact ⟨ret_int (by omega), rfl⟩

set_option maxHeartbeats 400000 in
theorem l1Abs_any (n : Int) (h : -9223372036854775807 ≤ n ∧ n ≤ 9223372036854775807) (w : World) :
    Calls Try.prog 81 #[.int .i64 n] w fun e w' => e = .returned (.int .i64 (n.natAbs : Int)) ∧ w' = w := by
  go_enter Try.func81, Try.ntmps81
  go_wp2_with fail
  refine (l1Most_any _ _ _).mono ?_
  rintro e w1 ⟨rfl, rfl⟩
  go_wp2_with fail
  go_ret
  exact ⟨ret_int (by omega), rfl⟩

set_option maxHeartbeats 400000 in
theorem raCommon_any (a b : Nat) (ha : a ≤ 9223372036854775807) (hb : b ≤ 9223372036854775807) (w : World) :
    Calls Try.prog 80 #[.int .i64 a, .int .i64 b] w fun e w' => e = .returned (.int .i64 (Nat.gcd a b : Nat)) ∧ w' = w := by
  go_enter Try.func80, Try.ntmps80
  go_wp2_with fail
  go_loop [0, 1] (fun x y => ∃ m n : Nat, x = .int .i64 m ∧ y = .int .i64 n ∧ m ≤ 9223372036854775807 ∧ n ≤ 9223372036854775807 ∧ Nat.gcd m n = Nat.gcd a b) (fun x y => (intOf y).toNat)
  case atStart => exact ⟨a, b, rfl, rfl, by omega, by omega, rfl⟩
  case round =>
    obtain ⟨m, n, rfl, rfl, hm, hn, hg⟩ := hrel
    have HG := Lib.hid hg
    clear hg
    by_cases h0 : n = 0
    · subst h0
      go_wp2_with fail
      go_ret
      refine ⟨ret_int ?_, rfl⟩
      have := HG.out
      rw [← this]; simp
    · have hlt := Nat.mod_lt m (Nat.pos_of_ne_zero h0)
      go_wp2_with fail
      go_round
      case rel => exact ⟨n, m % n, rfl, by simp, by omega, by omega, by rw [gcd_step]; exact HG.out⟩
      case measure => simp [intOf]; omega

set_option maxHeartbeats 400000 in
theorem raGood_any (n d : Int) (w : World) :
    Calls Try.prog 61 #[.agg #[.int .i64 n, .int .i64 d]] w fun e w' => e = .returned (.bool (okQ n d)) ∧ Below w.heap.size w w' := by
  by_cases h1 : 1 ≤ d ∧ d ≤ 1000000000
  · by_cases h2 : -1000000000 ≤ n ∧ n ≤ 1000000000
    · have hk := okQ_eq h1 h2
      have HK := Lib.hid hk
      clear hk
      obtain ⟨m, rfl⟩ : ∃ m : Nat, d = m := ⟨d.toNat, by omega⟩
      go_enter Try.func61, Try.ntmps61
      go_wp2_with fail
      go_quiet ((first | (go_at_call 48; exact Calls.quiet_of_same (l1In_yes _ _ _ (by omega) (by omega) _)) | (go_at_call 81; exact Calls.quiet_of_same (l1Abs_any _ (by omega) _)) | (go_at_call 80; exact Calls.quiet_of_same (raCommon_any _ _ (by omega) (by omega) _))))
      go_wp2_with fail
      go_ret
      exact ⟨ret_bool HK.out.symm, below_drewN ((Below.refl _ _).alloc (Nat.le_refl _) _) _⟩
    · have HK := Lib.hid (okQ_no2 (d := d) h2)
      go_enter Try.func61, Try.ntmps61
      go_wp2_with fail
      go_quiet ((first | (go_at_call 48; exact Calls.quiet_of_same (l1In_yes _ _ _ (by omega) (by omega) _)) | (go_at_call 48; exact Calls.quiet_of_same (l1In_no _ _ _ (by omega) _))))
      go_wp2_with fail
      go_ret
      exact ⟨ret_bool HK.out.symm, below_drewN ((Below.refl _ _).alloc (Nat.le_refl _) _) _⟩
  · have HK := Lib.hid (okQ_no1 (n := n) h1)
    go_enter Try.func61, Try.ntmps61
    go_wp2_with fail
    go_quiet ((go_at_call 48; exact Calls.quiet_of_same (l1In_no _ _ _ (by omega) _)))
    go_wp2_with fail
    go_ret
    exact ⟨ret_bool HK.out.symm, below_drewN ((Below.refl _ _).alloc (Nat.le_refl _) _) _⟩

end Go.Proofs.Ytkeajfgcjmhmiaa

namespace Go.Proofs.Ytkeajfgcjmhmiaa
open Go.RowKit

theorem isRat_is (n d : Int) (t : Bool) (h : okQ n d = t) (w : World) :
    Calls Try.prog 69 #[.agg #[.int .i64 n, .int .i64 d]] w fun e w' => e = .returned (.bool t) ∧ Below w.heap.size w w' := by
  rw [← h]; exact isRat_any n d w
theorem raGood_is (n d : Int) (t : Bool) (h : okQ n d = t) (w : World) :
    Calls Try.prog 61 #[.agg #[.int .i64 n, .int .i64 d]] w fun e w' => e = .returned (.bool t) ∧ Below w.heap.size w w' := by
  rw [← h]; exact raGood_any n d w

theorem natAbs_tdiv_le (n c : Int) : (n.tdiv c).natAbs ≤ n.natAbs := by
  rw [Int.natAbs_tdiv]; exact Nat.div_le_self ..

/-- What 'lowest' gives. -/
def LowEnd (a b : Int) (t : Bool) (w : World) (e : Ending) (w' : World) : Prop :=
  e = .returned (.tuple #[.agg #[.int .i64 a, .int .i64 b], .bool t]) ∧ Below w.heap.size w w'

set_option maxHeartbeats 400000 in
theorem lowest_pos (n d a b : Int) (t : Bool) (h : lowQ n d = (a, b, t)) (hn : -4000000000000000000 ≤ n ∧ n ≤ 4000000000000000000) (h0 : 0 < d) (hd : d ≤ 4000000000000000000) (w : World) :
    Calls Try.prog 100 #[.int .i64 n, .int .i64 d] w (LowEnd a b t w) := by
  have hg : 0 < Int.gcd n d := Int.gcd_pos_of_ne_zero_right n (by omega)
  have hgd : Int.gcd n d ≤ d.natAbs := Nat.le_of_dvd (by omega) (Nat.gcd_dvd_right ..)
  obtain ⟨hk, ht, hf⟩ := lowQ_parts h
  have hcut : cutQ n d = (Int.gcd n d : Int) := by unfold cutQ; rw [if_neg (by omega)]
  rw [hcut] at hk ht
  clear h hcut
  generalize hG : Int.gcd n d = g at *
  have HG := Lib.hid hG
  clear hG
  have hx := natAbs_tdiv_le n g
  have hy := natAbs_tdiv_le d g
  have HK := Lib.hid hk
  have HT := Lib.hid ht
  have HF := Lib.hid hf
  clear hk ht hf
  go_enter Try.func100, Try.ntmps100
  go_wp2_with fail
  refine (gcd_any n d (by omega) (by omega) _).mono ?_
  rintro e w1 ⟨he, k, rfl⟩
  rw [HG.out] at he
  subst he
  go_wp2_with fail
  go_region
  go_wp2_with fail
  refine (isRat_is _ _ t HK.out _).mono ?_
  rintro e w1 ⟨rfl, hb⟩
  obtain ⟨hc, hf⟩ := bcell hb
  have q0 : w1.cell? ⟨w.heap.size, 0, none⟩ = some (.int .i64 0) := by rw [hc _ _ (by simp; omega)]; simp [go_sem]
  have q1 : w1.cell? ⟨w.heap.size, 1, none⟩ = some (.int .i64 0) := by rw [hc _ _ (by simp; omega)]; simp [go_sem]
  cases t
  · obtain ⟨rfl, rfl⟩ := HF.out rfl
    go_wp2_with fail
    refine bodyPost_ret (v := .tuple #[.agg #[.int .i64 (0), .int .i64 (0)], .bool false]) (by simp [results, Try.results100, go_sem, q0, q1]) rfl ⟨rfl, ?_⟩
    exact ((((below_drewN ((Below.refl _ _).alloc (Nat.le_refl _) _) _).alloc (by simp) _).trans (hb.mono (by simp; omega))).setCell (by simp) _).setCell (by simp) _
  · obtain ⟨rfl, rfl⟩ := HT.out rfl
    go_wp2_with fail
    refine bodyPost_ret (v := .tuple #[.agg #[.int .i64 (n.tdiv g), .int .i64 (d.tdiv g)], .bool true]) (by simp [results, Try.results100, go_sem, q0, q1]) rfl ⟨rfl, ?_⟩
    exact ((((below_drewN ((Below.refl _ _).alloc (Nat.le_refl _) _) _).alloc (by simp) _).trans (hb.mono (by simp; omega))).setCell (by simp) _).setCell (by simp) _

set_option maxHeartbeats 400000 in
theorem lowest_neg (n d a b : Int) (t : Bool) (h : lowQ n d = (a, b, t)) (hn : -4000000000000000000 ≤ n ∧ n ≤ 4000000000000000000) (h0 : d < 0) (hd : -4000000000000000000 ≤ d) (w : World) :
    Calls Try.prog 100 #[.int .i64 n, .int .i64 d] w (LowEnd a b t w) := by
  have hg : 0 < Int.gcd n d := Int.gcd_pos_of_ne_zero_right n (by omega)
  have hgd : Int.gcd n d ≤ d.natAbs := Nat.le_of_dvd (by omega) (Nat.gcd_dvd_right ..)
  obtain ⟨hk, ht, hf⟩ := lowQ_parts h
  have hcut : cutQ n d = -(Int.gcd n d : Int) := by unfold cutQ; rw [if_pos h0]
  rw [hcut, Int.tdiv_neg, Int.tdiv_neg] at hk ht
  clear h hcut
  generalize hG : Int.gcd n d = g at *
  have HG := Lib.hid hG
  clear hG
  have hx := natAbs_tdiv_le n g
  have hy := natAbs_tdiv_le d g
  have HK := Lib.hid hk
  have HT := Lib.hid ht
  have HF := Lib.hid hf
  clear hk ht hf
  go_enter Try.func100, Try.ntmps100
  go_wp2_with fail
  refine (gcd_any n d (by omega) (by omega) _).mono ?_
  rintro e w1 ⟨he, k, rfl⟩
  rw [HG.out] at he
  subst he
  go_wp2_with fail
  go_region
  go_wp2_with fail
  refine (isRat_is _ _ t HK.out _).mono ?_
  rintro e w1 ⟨rfl, hb⟩
  obtain ⟨hc, hf⟩ := bcell hb
  have q0 : w1.cell? ⟨w.heap.size, 0, none⟩ = some (.int .i64 0) := by rw [hc _ _ (by simp; omega)]; simp [go_sem]
  have q1 : w1.cell? ⟨w.heap.size, 1, none⟩ = some (.int .i64 0) := by rw [hc _ _ (by simp; omega)]; simp [go_sem]
  cases t
  · obtain ⟨rfl, rfl⟩ := HF.out rfl
    go_wp2_with fail
    refine bodyPost_ret (v := .tuple #[.agg #[.int .i64 (0), .int .i64 (0)], .bool false]) (by simp [results, Try.results100, go_sem, q0, q1]) rfl ⟨rfl, ?_⟩
    exact ((((below_drewN ((Below.refl _ _).alloc (Nat.le_refl _) _) _).alloc (by simp) _).trans (hb.mono (by simp; omega))).setCell (by simp) _).setCell (by simp) _
  · obtain ⟨rfl, rfl⟩ := HT.out rfl
    go_wp2_with fail
    refine bodyPost_ret (v := .tuple #[.agg #[.int .i64 (-(n.tdiv g)), .int .i64 (-(d.tdiv g))], .bool true]) (by simp [results, Try.results100, go_sem, q0, q1]) rfl ⟨rfl, ?_⟩
    exact ((((below_drewN ((Below.refl _ _).alloc (Nat.le_refl _) _) _).alloc (by simp) _).trans (hb.mono (by simp; omega))).setCell (by simp) _).setCell (by simp) _

theorem lowest_any (n d a b : Int) (t : Bool) (h : lowQ n d = (a, b, t)) (hn : -4000000000000000000 ≤ n ∧ n ≤ 4000000000000000000) (h0 : d ≠ 0) (hd : -4000000000000000000 ≤ d ∧ d ≤ 4000000000000000000) (w : World) :
    Calls Try.prog 100 #[.int .i64 n, .int .i64 d] w (LowEnd a b t w) := by
  rcases Int.lt_or_gt_of_ne h0 with h1 | h1
  · exact lowest_neg n d a b t h hn h1 hd.1 w
  · exact lowest_pos n d a b t h hn h1 hd.2 w

set_option maxHeartbeats 400000 in
theorem raMake_pos (n d a b : Int) (t : Bool) (h : lowQ n d = (a, b, t)) (hn : -4000000000000000000 ≤ n ∧ n ≤ 4000000000000000000) (h0 : 0 < d) (hd : d ≤ 4000000000000000000) (w : World) :
    Calls Try.prog 57 #[.int .i64 n, .int .i64 d] w (LowEnd a b t w) := by
  have hg : 0 < Int.gcd n d := Int.gcd_pos_of_ne_zero_right n (by omega)
  have hgd : Int.gcd n d ≤ d.natAbs := Nat.le_of_dvd (by omega) (Nat.gcd_dvd_right ..)
  obtain ⟨hk, ht, hf⟩ := lowQ_parts h
  have hcut : cutQ n d = (Int.gcd n d : Int) := by unfold cutQ; rw [if_neg (by omega)]
  rw [hcut] at hk ht
  clear h hcut
  generalize hG : Int.gcd n d = g at *
  have HG := Lib.hid hG
  clear hG
  have hx := natAbs_tdiv_le n g
  have hy := natAbs_tdiv_le d g
  have HK := Lib.hid hk
  have HT := Lib.hid ht
  have HF := Lib.hid hf
  clear hk ht hf
  go_enter Try.func57, Try.ntmps57
  go_wp2_with fail
  refine (l1Abs_any n (by omega) _).mono ?_
  rintro e w1 ⟨rfl, rfl⟩
  go_wp2_with fail
  refine (l1Abs_any d (by omega) _).mono ?_
  rintro e w1 ⟨rfl, rfl⟩
  go_wp2_with fail
  refine (raCommon_any n.natAbs d.natAbs (by omega) (by omega) _).mono ?_
  rintro e w1 ⟨he, rfl⟩
  rw [show Nat.gcd n.natAbs d.natAbs = g from HG.out] at he
  subst he
  go_wp2_with fail
  go_region
  go_wp2_with fail
  refine (raGood_is _ _ t HK.out _).mono ?_
  rintro e w1 ⟨rfl, hb⟩
  obtain ⟨hc, hf⟩ := bcell hb
  have q0 : w1.cell? ⟨w.heap.size, 0, none⟩ = some (.int .i64 0) := by rw [hc _ _ (by simp; omega)]; simp [go_sem]
  have q1 : w1.cell? ⟨w.heap.size, 1, none⟩ = some (.int .i64 0) := by rw [hc _ _ (by simp; omega)]; simp [go_sem]
  cases t
  · obtain ⟨rfl, rfl⟩ := HF.out rfl
    go_wp2_with fail
    refine bodyPost_ret (v := .tuple #[.agg #[.int .i64 (0), .int .i64 (0)], .bool false]) (by simp [results, Try.results57, go_sem, q0, q1]) rfl ⟨rfl, ?_⟩
    exact ((((below_drewN ((Below.refl _ _).alloc (Nat.le_refl _) _) _).alloc (by simp) _).trans (hb.mono (by simp; omega))).setCell (by simp) _).setCell (by simp) _
  · obtain ⟨rfl, rfl⟩ := HT.out rfl
    go_wp2_with fail
    refine bodyPost_ret (v := .tuple #[.agg #[.int .i64 (n.tdiv g), .int .i64 (d.tdiv g)], .bool true]) (by simp [results, Try.results57, go_sem, q0, q1]) rfl ⟨rfl, ?_⟩
    exact ((((below_drewN ((Below.refl _ _).alloc (Nat.le_refl _) _) _).alloc (by simp) _).trans (hb.mono (by simp; omega))).setCell (by simp) _).setCell (by simp) _

set_option maxHeartbeats 400000 in
theorem raMake_neg (n d a b : Int) (t : Bool) (h : lowQ n d = (a, b, t)) (hn : -4000000000000000000 ≤ n ∧ n ≤ 4000000000000000000) (h0 : d < 0) (hd : -4000000000000000000 ≤ d) (w : World) :
    Calls Try.prog 57 #[.int .i64 n, .int .i64 d] w (LowEnd a b t w) := by
  have hg : 0 < Int.gcd n d := Int.gcd_pos_of_ne_zero_right n (by omega)
  have hgd : Int.gcd n d ≤ d.natAbs := Nat.le_of_dvd (by omega) (Nat.gcd_dvd_right ..)
  obtain ⟨hk, ht, hf⟩ := lowQ_parts h
  have hcut : cutQ n d = -(Int.gcd n d : Int) := by unfold cutQ; rw [if_pos h0]
  rw [hcut, Int.tdiv_neg, Int.tdiv_neg] at hk ht
  clear h hcut
  generalize hG : Int.gcd n d = g at *
  have HG := Lib.hid hG
  clear hG
  have hx := natAbs_tdiv_le n g
  have hy := natAbs_tdiv_le d g
  have HK := Lib.hid hk
  have HT := Lib.hid ht
  have HF := Lib.hid hf
  clear hk ht hf
  go_enter Try.func57, Try.ntmps57
  go_wp2_with fail
  refine (l1Abs_any n (by omega) _).mono ?_
  rintro e w1 ⟨rfl, rfl⟩
  go_wp2_with fail
  refine (l1Abs_any d (by omega) _).mono ?_
  rintro e w1 ⟨rfl, rfl⟩
  go_wp2_with fail
  refine (raCommon_any n.natAbs d.natAbs (by omega) (by omega) _).mono ?_
  rintro e w1 ⟨he, rfl⟩
  rw [show Nat.gcd n.natAbs d.natAbs = g from HG.out] at he
  subst he
  go_wp2_with fail
  go_region
  go_wp2_with fail
  refine (raGood_is _ _ t HK.out _).mono ?_
  rintro e w1 ⟨rfl, hb⟩
  obtain ⟨hc, hf⟩ := bcell hb
  have q0 : w1.cell? ⟨w.heap.size, 0, none⟩ = some (.int .i64 0) := by rw [hc _ _ (by simp; omega)]; simp [go_sem]
  have q1 : w1.cell? ⟨w.heap.size, 1, none⟩ = some (.int .i64 0) := by rw [hc _ _ (by simp; omega)]; simp [go_sem]
  cases t
  · obtain ⟨rfl, rfl⟩ := HF.out rfl
    go_wp2_with fail
    refine bodyPost_ret (v := .tuple #[.agg #[.int .i64 (0), .int .i64 (0)], .bool false]) (by simp [results, Try.results57, go_sem, q0, q1]) rfl ⟨rfl, ?_⟩
    exact ((((below_drewN ((Below.refl _ _).alloc (Nat.le_refl _) _) _).alloc (by simp) _).trans (hb.mono (by simp; omega))).setCell (by simp) _).setCell (by simp) _
  · obtain ⟨rfl, rfl⟩ := HT.out rfl
    go_wp2_with fail
    refine bodyPost_ret (v := .tuple #[.agg #[.int .i64 (-(n.tdiv g)), .int .i64 (-(d.tdiv g))], .bool true]) (by simp [results, Try.results57, go_sem, q0, q1]) rfl ⟨rfl, ?_⟩
    exact ((((below_drewN ((Below.refl _ _).alloc (Nat.le_refl _) _) _).alloc (by simp) _).trans (hb.mono (by simp; omega))).setCell (by simp) _).setCell (by simp) _

set_option maxHeartbeats 400000 in
theorem raMake_zero (n : Int) (w : World) :
    Calls Try.prog 57 #[.int .i64 n, .int .i64 0] w (LowEnd 0 0 false w) := by
  go_enter Try.func57, Try.ntmps57
  go_wp2_with fail
  refine bodyPost_ret (v := .tuple #[.agg #[.int .i64 0, .int .i64 0], .bool false]) (by simp [results, Try.results57, go_sem]) rfl ⟨rfl, ?_⟩
  go_grown

theorem raMake_any (n d a b : Int) (t : Bool) (h : lowQ n d = (a, b, t)) (hn : -4000000000000000000 ≤ n ∧ n ≤ 4000000000000000000) (hd : -4000000000000000000 ≤ d ∧ d ≤ 4000000000000000000) (w : World) :
    Calls Try.prog 57 #[.int .i64 n, .int .i64 d] w (LowEnd a b t w) := by
  by_cases h0 : d = 0
  · subst h0
    rw [lowQ_zero] at h
    simp only [Prod.mk.injEq] at h
    obtain ⟨rfl, rfl, rfl⟩ := h
    exact raMake_zero n w
  · rcases Int.lt_or_gt_of_ne h0 with h1 | h1
    · exact raMake_neg n d a b t h hn h1 hd.1 w
    · exact raMake_pos n d a b t h hn h1 hd.2 w

end Go.Proofs.Ytkeajfgcjmhmiaa

namespace Go.Proofs.Ytkeajfgcjmhmiaa
open Go.RowKit

abbrev Q := Int × Int
abbrev Pt := Q × Q

/-- A slice value that reads as a list of fractions. -/
def RdQ (w : World) (v : Value) (qs : List Q) : Prop :=
  ∃ A c, v = .slice A qs.length c ∧ qs.length ≤ c ∧ c ≤ maxLen ∧ (qs ≠ [] → ∃ g o, A = some ⟨g, o, none⟩ ∧ g < w.heap.size ∧
    ∀ i q, qs[i]? = some q → w.cell? ⟨g, o + i * 2, none⟩ = some (.int .i64 q.1) ∧ w.cell? ⟨g, o + i * 2 + 1, none⟩ = some (.int .i64 q.2))

/-- A slice value that reads as a list of points. -/
def RdP (w : World) (v : Value) (ps : List Pt) : Prop :=
  ∃ A c, v = .slice A ps.length c ∧ ps.length ≤ c ∧ c ≤ maxLen ∧ (ps ≠ [] → ∃ g o, A = some ⟨g, o, none⟩ ∧ g < w.heap.size ∧
    ∀ i p, ps[i]? = some p → w.cell? ⟨g, o + i * 4, none⟩ = some (.int .i64 p.1.1) ∧ w.cell? ⟨g, o + i * 4 + 1, none⟩ = some (.int .i64 p.1.2) ∧
      w.cell? ⟨g, o + i * 4 + 2, none⟩ = some (.int .i64 p.2.1) ∧ w.cell? ⟨g, o + i * 4 + 3, none⟩ = some (.int .i64 p.2.2))

theorem RdQ.keep {w w' : World} {v : Value} {qs : List Q} (h : RdQ w v qs) (hb : Below w.heap.size w w') : RdQ w' v qs := by
  obtain ⟨A, c, hv, h1, h2, h3⟩ := h
  refine ⟨A, c, hv, h1, h2, fun hn => ?_⟩
  obtain ⟨g, o, hA, hg, hc⟩ := h3 hn
  refine ⟨g, o, hA, Nat.lt_of_lt_of_le hg hb.size, fun i q hq => ?_⟩
  obtain ⟨a, b⟩ := hc i q hq
  exact ⟨(hb.cell (p := ⟨g, _, none⟩) hg).trans a, (hb.cell (p := ⟨g, _, none⟩) hg).trans b⟩

theorem RdP.keep {w w' : World} {v : Value} {ps : List Pt} (h : RdP w v ps) (hb : Below w.heap.size w w') : RdP w' v ps := by
  obtain ⟨A, c, hv, h1, h2, h3⟩ := h
  refine ⟨A, c, hv, h1, h2, fun hn => ?_⟩
  obtain ⟨g, o, hA, hg, hc⟩ := h3 hn
  refine ⟨g, o, hA, Nat.lt_of_lt_of_le hg hb.size, fun i q hq => ?_⟩
  obtain ⟨a, b, c, d⟩ := hc i q hq
  exact ⟨(hb.cell (p := ⟨g, _, none⟩) hg).trans a, (hb.cell (p := ⟨g, _, none⟩) hg).trans b, (hb.cell (p := ⟨g, _, none⟩) hg).trans c, (hb.cell (p := ⟨g, _, none⟩) hg).trans d⟩

end Go.Proofs.Ytkeajfgcjmhmiaa

namespace Go.Proofs.Ytkeajfgcjmhmiaa
open Go.RowKit

def AllQ (qs : List Q) (k : Nat) : Prop := ∀ i q, i < k → qs[i]? = some q → okQ q.1 q.2 = true
theorem AllQ.whole {qs : List Q} {t : Bool} (h : AllQ qs qs.length) (ht : qs.all (fun q => okQ q.1 q.2) = t) : t = true := by
  rw [← ht, List.all_eq_true]
  intro q hq
  obtain ⟨i, hi, rfl⟩ := List.getElem_of_mem hq
  exact h i _ hi (List.getElem?_eq_getElem hi)
theorem AllQ.more {qs : List Q} {k : Nat} {n d : Int} (h : AllQ qs k) (hk : k < qs.length) (hq : qs[k] = (n, d)) (ho : okQ n d = true) : AllQ qs (k + 1) := by
  intro i q hi hiq
  by_cases e : i = k
  · subst e
    rw [List.getElem?_eq_getElem hk, hq] at hiq
    cases hiq
    exact ho
  · exact h i q (by omega) hiq
theorem AllQ.fails {qs : List Q} {t : Bool} {k : Nat} {n d : Int} (hk : k < qs.length) (hq : qs[k] = (n, d)) (ho : okQ n d = false) (ht : qs.all (fun q => okQ q.1 q.2) = t) : t = false := by
  rw [← ht, List.all_eq_false]
  exact ⟨qs[k], List.getElem_mem hk, by rw [hq]; simp [ho]⟩
def RelA (qs : List Q) (w : World) (i : Value) (wr : World) : Prop := ∃ k : Nat, k ≤ qs.length ∧ i = .int .i64 k ∧ AllQ qs k ∧ Below w.heap.size w wr

set_option maxHeartbeats 400000 in
theorem areRats_any (qs : List Q) (v : Value) (t : Bool) (w : World) (hv : RdQ w v qs) (ht : qs.all (fun q => okQ q.1 q.2) = t) :
    Calls Try.prog 99 #[v] w fun e w' => e = .returned (.bool t) ∧ Below w.heap.size w w' := by
  obtain ⟨A, c, rfl, hl, hm, hcell⟩ := hv
  unfold maxLen at hm
  have HC := Lib.hid hcell
  have HT := Lib.hid ht
  clear hcell ht
  go_enter Try.func99, Try.ntmps99
  go_wp2_with fail
  go_loopw [7] (fun i wr => RelA qs w i wr) (fun i _ => qs.length - (intOf i).toNat)
  case atStart => exact ⟨0, Nat.zero_le _, rfl, (fun i q h => by omega), Below.refl _ _⟩
  case round =>
    obtain ⟨k, hk, rfl, hall, hb⟩ := hrel
    have HA := Lib.hid hall
    clear hall
    by_cases hlt : k < qs.length
    · obtain ⟨g, o, rfl, hg, hc⟩ := HC.out (by intro h; rw [h] at hlt; simp at hlt)
      have hq := hc k qs[k] (List.getElem?_eq_getElem hlt)
      generalize hqk : qs[k] = q at *
      obtain ⟨n, d⟩ := q
      obtain ⟨c0, c1⟩ := hq
      rw [← hb.cell (p := ⟨g, _, none⟩) hg] at c0 c1
      clear hc HC
      have HQ := Lib.hid hqk
      clear hqk
      rcases hok : okQ n d with _ | _
      all_goals
        have HO := Lib.hid hok
        clear hok
        go_wp2_with fail
        refine (isRat_is n d _ HO.out _).mono ?_
        rintro e w1 ⟨rfl, hb1⟩
        have hb2 : Below w.heap.size w w1 := (hb.alloc hb.size _).trans (hb1.mono (by have := hb.size; simp; omega))
        go_wp2_with fail
      · go_ret
        exact ⟨ret_bool (AllQ.fails hlt HQ.out HO.out HT.out).symm, hb2⟩
      · go_roundw
        case rel => exact ⟨k + 1, by omega, by go_num, AllQ.more HA.out hlt HQ.out HO.out, hb2⟩
        case measure => simp [intOf]; omega
    · obtain rfl : k = qs.length := by omega
      go_wp2_with fail
      go_ret
      exact ⟨ret_bool (AllQ.whole HA.out HT.out).symm, hb⟩

/-- Two fractions in a block of their own. -/
theorem RdQ.two {w : World} {g : Nat} {n1 d1 n2 d2 : Int} (hg : g < w.heap.size) (c0 : w.cell? ⟨g, 0, none⟩ = some (.int .i64 n1)) (c1 : w.cell? ⟨g, 1, none⟩ = some (.int .i64 d1)) (c2 : w.cell? ⟨g, 2, none⟩ = some (.int .i64 n2)) (c3 : w.cell? ⟨g, 3, none⟩ = some (.int .i64 d2)) :
    RdQ w (.slice (some ⟨g, 0, none⟩) 2 2) [(n1, d1), (n2, d2)] := by
  refine ⟨_, 2, rfl, by simp, by simp [maxLen], fun _ => ⟨g, 0, rfl, hg, fun i q hq => ?_⟩⟩
  match i, hq with
  | 0, hq => simp at hq; subst hq; exact ⟨by simpa using c0, by simpa using c1⟩
  | 1, hq => simp at hq; subst hq; exact ⟨by simpa using c2, by simpa using c3⟩

end Go.Proofs.Ytkeajfgcjmhmiaa

namespace Go.Proofs.Ytkeajfgcjmhmiaa
open Go.RowKit

set_option maxHeartbeats 400000 in
theorem addRats_yes (n1 d1 n2 d2 a b : Int) (t : Bool) (h1 : okQ n1 d1 = true) (h2 : okQ n2 d2 = true) (h : lowQ (n1 * d2 + n2 * d1) (d1 * d2) = (a, b, t)) (w : World) :
    Calls Try.prog 97 #[.agg #[.int .i64 n1, .int .i64 d1], .agg #[.int .i64 n2, .int .i64 d2]] w (LowEnd a b t w) := by
  obtain ⟨a1, a2, a3, a4⟩ := okQ_bd h1
  obtain ⟨b1, b2, b3, b4⟩ := okQ_bd h2
  obtain ⟨s1, s2⟩ := Sm.of_ok h1
  obtain ⟨k1, k2⟩ := Sm.of_ok h2
  have m1 := s1.mul k2
  have m2 := k1.mul s2
  have m3 := s2.mul k2
  have m4 : 0 < d1 * d2 := Int.mul_pos (by omega) (by omega)
  clear s1 s2 k1 k2
  have HA := Lib.hid (show [(n1, d1), (n2, d2)].all (fun q => okQ q.1 q.2) = true by simp [h1, h2])
  have HL := Lib.hid h
  clear h h1 h2
  go_enter Try.func97, Try.ntmps97
  go_wp2_with fail
  refine (areRats_any [(n1, d1), (n2, d2)] _ true _ (RdQ.two (by simp) (by simp [go_sem]) (by simp [go_sem]) (by simp [go_sem]) (by simp [go_sem])) HA.out).mono ?_
  rintro e w1 ⟨rfl, hb⟩
  obtain ⟨hc, hf⟩ := bcell hb
  have s0 : Slot w1 (w.heap.size + 2) 0 (.int .i64 0) := slotB hb ⟨by simp [go_sem], by simp [go_sem]⟩
  have s1 : Slot w1 (w.heap.size + 2) 1 (.int .i64 0) := slotB hb ⟨by simp [go_sem], by simp [go_sem]⟩
  have hB : Below w.heap.size w w1 := nextB (by go_grown) (by go_size) hb
  go_wp2_with fail
  refine (lowest_any _ _ a b t HL.out (by omega) (by omega) (by omega) _).mono ?_
  rintro e w2 ⟨rfl, hb2⟩
  obtain ⟨q0, f0⟩ := slotB hb2 s0
  obtain ⟨q1, f1⟩ := slotB hb2 s1
  have hB2 := nextW hB hb2
  clear hc hf
  go_wp2_with fail
  refine bodyPost_ret (v := .tuple #[.agg #[.int .i64 a, .int .i64 b], .bool t]) (by simp [results, Try.results97, go_sem, q0, q1]) rfl ⟨rfl, ?_⟩
  go_grown

set_option maxHeartbeats 400000 in
theorem addRats_no (n1 d1 n2 d2 : Int) (h : (okQ n1 d1 && okQ n2 d2) = false) (w : World) :
    Calls Try.prog 97 #[.agg #[.int .i64 n1, .int .i64 d1], .agg #[.int .i64 n2, .int .i64 d2]] w (LowEnd 0 0 false w) := by
  have HA := Lib.hid (show [(n1, d1), (n2, d2)].all (fun q => okQ q.1 q.2) = false by simpa using h)
  clear h
  go_enter Try.func97, Try.ntmps97
  go_wp2_with fail
  refine (areRats_any [(n1, d1), (n2, d2)] _ false _ (RdQ.two (by simp) (by simp [go_sem]) (by simp [go_sem]) (by simp [go_sem]) (by simp [go_sem])) HA.out).mono ?_
  rintro e w1 ⟨rfl, hb⟩
  obtain ⟨q0, f0⟩ : Slot w1 (w.heap.size + 2) 0 (.int .i64 0) := slotB hb ⟨by simp [go_sem], by simp [go_sem]⟩
  obtain ⟨q1, f1⟩ : Slot w1 (w.heap.size + 2) 1 (.int .i64 0) := slotB hb ⟨by simp [go_sem], by simp [go_sem]⟩
  have hB : Below w.heap.size w w1 := nextB (by go_grown) (by go_size) hb
  go_wp2_with fail
  refine bodyPost_ret (v := .tuple #[.agg #[.int .i64 0, .int .i64 0], .bool false]) (by simp [results, Try.results97, go_sem, q0, q1]) rfl ⟨rfl, ?_⟩
  go_grown

theorem addRats_any (n1 d1 n2 d2 a b : Int) (t : Bool) (h : addQ n1 d1 n2 d2 = (a, b, t)) (w : World) :
    Calls Try.prog 97 #[.agg #[.int .i64 n1, .int .i64 d1], .agg #[.int .i64 n2, .int .i64 d2]] w (LowEnd a b t w) := by
  unfold addQ at h
  by_cases hk : (okQ n1 d1 && okQ n2 d2) = true
  · rw [if_pos hk] at h
    simp only [Bool.and_eq_true] at hk
    exact addRats_yes n1 d1 n2 d2 a b t hk.1 hk.2 h w
  · rw [if_neg hk] at h
    simp only [Prod.mk.injEq] at h
    obtain ⟨rfl, rfl, rfl⟩ := h
    exact addRats_no n1 d1 n2 d2 (by simpa using hk) w

set_option maxHeartbeats 400000 in
theorem mulRats_yes (n1 d1 n2 d2 a b : Int) (t : Bool) (h1 : okQ n1 d1 = true) (h2 : okQ n2 d2 = true) (h : lowQ (n1 * n2) (d1 * d2) = (a, b, t)) (w : World) :
    Calls Try.prog 98 #[.agg #[.int .i64 n1, .int .i64 d1], .agg #[.int .i64 n2, .int .i64 d2]] w (LowEnd a b t w) := by
  obtain ⟨a1, a2, a3, a4⟩ := okQ_bd h1
  obtain ⟨b1, b2, b3, b4⟩ := okQ_bd h2
  obtain ⟨s1, s2⟩ := Sm.of_ok h1
  obtain ⟨k1, k2⟩ := Sm.of_ok h2
  have m1 := s1.mul k1
  have m3 := s2.mul k2
  have m4 : 0 < d1 * d2 := Int.mul_pos (by omega) (by omega)
  clear s1 s2 k1 k2
  have HA := Lib.hid (show [(n1, d1), (n2, d2)].all (fun q => okQ q.1 q.2) = true by simp [h1, h2])
  have HL := Lib.hid h
  clear h h1 h2
  go_enter Try.func98, Try.ntmps98
  go_wp2_with fail
  refine (areRats_any [(n1, d1), (n2, d2)] _ true _ (RdQ.two (by simp) (by simp [go_sem]) (by simp [go_sem]) (by simp [go_sem]) (by simp [go_sem])) HA.out).mono ?_
  rintro e w1 ⟨rfl, hb⟩
  obtain ⟨hc, hf⟩ := bcell hb
  have s0 : Slot w1 (w.heap.size + 2) 0 (.int .i64 0) := slotB hb ⟨by simp [go_sem], by simp [go_sem]⟩
  have s1 : Slot w1 (w.heap.size + 2) 1 (.int .i64 0) := slotB hb ⟨by simp [go_sem], by simp [go_sem]⟩
  have hB : Below w.heap.size w w1 := nextB (by go_grown) (by go_size) hb
  go_wp2_with fail
  refine (lowest_any _ _ a b t HL.out (by omega) (by omega) (by omega) _).mono ?_
  rintro e w2 ⟨rfl, hb2⟩
  obtain ⟨q0, f0⟩ := slotB hb2 s0
  obtain ⟨q1, f1⟩ := slotB hb2 s1
  have hB2 := nextW hB hb2
  clear hc hf
  go_wp2_with fail
  refine bodyPost_ret (v := .tuple #[.agg #[.int .i64 a, .int .i64 b], .bool t]) (by simp [results, Try.results98, go_sem, q0, q1]) rfl ⟨rfl, ?_⟩
  go_grown

set_option maxHeartbeats 400000 in
theorem mulRats_no (n1 d1 n2 d2 : Int) (h : (okQ n1 d1 && okQ n2 d2) = false) (w : World) :
    Calls Try.prog 98 #[.agg #[.int .i64 n1, .int .i64 d1], .agg #[.int .i64 n2, .int .i64 d2]] w (LowEnd 0 0 false w) := by
  have HA := Lib.hid (show [(n1, d1), (n2, d2)].all (fun q => okQ q.1 q.2) = false by simpa using h)
  clear h
  go_enter Try.func98, Try.ntmps98
  go_wp2_with fail
  refine (areRats_any [(n1, d1), (n2, d2)] _ false _ (RdQ.two (by simp) (by simp [go_sem]) (by simp [go_sem]) (by simp [go_sem]) (by simp [go_sem])) HA.out).mono ?_
  rintro e w1 ⟨rfl, hb⟩
  obtain ⟨q0, f0⟩ : Slot w1 (w.heap.size + 2) 0 (.int .i64 0) := slotB hb ⟨by simp [go_sem], by simp [go_sem]⟩
  obtain ⟨q1, f1⟩ : Slot w1 (w.heap.size + 2) 1 (.int .i64 0) := slotB hb ⟨by simp [go_sem], by simp [go_sem]⟩
  have hB : Below w.heap.size w w1 := nextB (by go_grown) (by go_size) hb
  go_wp2_with fail
  refine bodyPost_ret (v := .tuple #[.agg #[.int .i64 0, .int .i64 0], .bool false]) (by simp [results, Try.results98, go_sem, q0, q1]) rfl ⟨rfl, ?_⟩
  go_grown

theorem mulRats_any (n1 d1 n2 d2 a b : Int) (t : Bool) (h : mulQ n1 d1 n2 d2 = (a, b, t)) (w : World) :
    Calls Try.prog 98 #[.agg #[.int .i64 n1, .int .i64 d1], .agg #[.int .i64 n2, .int .i64 d2]] w (LowEnd a b t w) := by
  unfold mulQ at h
  by_cases hk : (okQ n1 d1 && okQ n2 d2) = true
  · rw [if_pos hk] at h
    simp only [Bool.and_eq_true] at hk
    exact mulRats_yes n1 d1 n2 d2 a b t hk.1 hk.2 h w
  · rw [if_neg hk] at h
    simp only [Prod.mk.injEq] at h
    obtain ⟨rfl, rfl, rfl⟩ := h
    exact mulRats_no n1 d1 n2 d2 (by simpa using hk) w

set_option maxHeartbeats 400000 in
theorem divRats_yes (n1 d1 n2 d2 a b : Int) (t : Bool) (h1 : okQ n1 d1 = true) (h2 : okQ n2 d2 = true) (hn0 : n2 ≠ 0) (h : lowQ (n1 * d2) (d1 * n2) = (a, b, t)) (w : World) :
    Calls Try.prog 90 #[.agg #[.int .i64 n1, .int .i64 d1], .agg #[.int .i64 n2, .int .i64 d2]] w (LowEnd a b t w) := by
  obtain ⟨a1, a2, a3, a4⟩ := okQ_bd h1
  obtain ⟨b1, b2, b3, b4⟩ := okQ_bd h2
  obtain ⟨s1, s2⟩ := Sm.of_ok h1
  obtain ⟨k1, k2⟩ := Sm.of_ok h2
  have m1 := s1.mul k2
  have m3 := s2.mul k1
  have m4 : d1 * n2 ≠ 0 := Int.mul_ne_zero (by omega) hn0
  clear s1 s2 k1 k2
  have HA := Lib.hid (show [(n1, d1), (n2, d2)].all (fun q => okQ q.1 q.2) = true by simp [h1, h2])
  have HL := Lib.hid h
  have hn1 : ((n2 : Int) == 0) = false := by simpa using hn0
  clear h h1 h2
  go_enter Try.func90, Try.ntmps90
  go_wp2_with fail
  refine (areRats_any [(n1, d1), (n2, d2)] _ true _ (RdQ.two (by simp) (by simp [go_sem]) (by simp [go_sem]) (by simp [go_sem]) (by simp [go_sem])) HA.out).mono ?_
  rintro e w1 ⟨rfl, hb⟩
  obtain ⟨hc, hf⟩ := bcell hb
  have s0 : Slot w1 (w.heap.size + 2) 0 (.int .i64 0) := slotB hb ⟨by simp [go_sem], by simp [go_sem]⟩
  have s1 : Slot w1 (w.heap.size + 2) 1 (.int .i64 0) := slotB hb ⟨by simp [go_sem], by simp [go_sem]⟩
  have hB : Below w.heap.size w w1 := nextB (by go_grown) (by go_size) hb
  go_wp2_with fail
  refine (lowest_any _ _ a b t HL.out (by omega) m4 (by omega) _).mono ?_
  rintro e w2 ⟨rfl, hb2⟩
  obtain ⟨q0, f0⟩ := slotB hb2 s0
  obtain ⟨q1, f1⟩ := slotB hb2 s1
  have hB2 := nextW hB hb2
  clear hc hf
  go_wp2_with fail
  refine bodyPost_ret (v := .tuple #[.agg #[.int .i64 a, .int .i64 b], .bool t]) (by simp [results, Try.results90, go_sem, q0, q1]) rfl ⟨rfl, ?_⟩
  go_grown

set_option maxHeartbeats 400000 in
theorem divRats_no (n1 d1 n2 d2 : Int) (h : (okQ n1 d1 && okQ n2 d2) = false) (w : World) :
    Calls Try.prog 90 #[.agg #[.int .i64 n1, .int .i64 d1], .agg #[.int .i64 n2, .int .i64 d2]] w (LowEnd 0 0 false w) := by
  have HA := Lib.hid (show [(n1, d1), (n2, d2)].all (fun q => okQ q.1 q.2) = false by simpa using h)
  clear h
  go_enter Try.func90, Try.ntmps90
  go_wp2_with fail
  refine (areRats_any [(n1, d1), (n2, d2)] _ false _ (RdQ.two (by simp) (by simp [go_sem]) (by simp [go_sem]) (by simp [go_sem]) (by simp [go_sem])) HA.out).mono ?_
  rintro e w1 ⟨rfl, hb⟩
  obtain ⟨q0, f0⟩ : Slot w1 (w.heap.size + 2) 0 (.int .i64 0) := slotB hb ⟨by simp [go_sem], by simp [go_sem]⟩
  obtain ⟨q1, f1⟩ : Slot w1 (w.heap.size + 2) 1 (.int .i64 0) := slotB hb ⟨by simp [go_sem], by simp [go_sem]⟩
  have hB : Below w.heap.size w w1 := nextB (by go_grown) (by go_size) hb
  go_wp2_with fail
  refine bodyPost_ret (v := .tuple #[.agg #[.int .i64 0, .int .i64 0], .bool false]) (by simp [results, Try.results90, go_sem, q0, q1]) rfl ⟨rfl, ?_⟩
  go_grown

set_option maxHeartbeats 400000 in
theorem divRats_zero (n1 d1 d2 : Int) (h : (okQ n1 d1 && okQ 0 d2) = true) (w : World) :
    Calls Try.prog 90 #[.agg #[.int .i64 n1, .int .i64 d1], .agg #[.int .i64 0, .int .i64 d2]] w (LowEnd 0 0 false w) := by
  have HA := Lib.hid (show [(n1, d1), (0, d2)].all (fun q => okQ q.1 q.2) = true by simpa using h)
  clear h
  go_enter Try.func90, Try.ntmps90
  go_wp2_with fail
  refine (areRats_any [(n1, d1), (0, d2)] _ true _ (RdQ.two (by simp) (by simp [go_sem]) (by simp [go_sem]) (by simp [go_sem]) (by simp [go_sem])) HA.out).mono ?_
  rintro e w1 ⟨rfl, hb⟩
  have c0 : w1.cell? ⟨w.heap.size + 1, 0, none⟩ = some (.int .i64 0) := cellB hb (by simp [go_sem])
  obtain ⟨q0, f0⟩ : Slot w1 (w.heap.size + 2) 0 (.int .i64 0) := slotB hb ⟨by simp [go_sem], by simp [go_sem]⟩
  obtain ⟨q1, f1⟩ : Slot w1 (w.heap.size + 2) 1 (.int .i64 0) := slotB hb ⟨by simp [go_sem], by simp [go_sem]⟩
  have hB : Below w.heap.size w w1 := nextB (by go_grown) (by go_size) hb
  go_wp2_with fail
  refine bodyPost_ret (v := .tuple #[.agg #[.int .i64 0, .int .i64 0], .bool false]) (by simp [results, Try.results90, go_sem, q0, q1]) rfl ⟨rfl, ?_⟩
  go_grown

theorem divRats_any (n1 d1 n2 d2 a b : Int) (t : Bool) (h : divQ n1 d1 n2 d2 = (a, b, t)) (w : World) :
    Calls Try.prog 90 #[.agg #[.int .i64 n1, .int .i64 d1], .agg #[.int .i64 n2, .int .i64 d2]] w (LowEnd a b t w) := by
  unfold divQ at h
  by_cases hk : (okQ n1 d1 && okQ n2 d2) = true
  · by_cases h0 : n2 = 0
    · subst h0
      rw [if_neg (by simp)] at h
      simp only [Prod.mk.injEq] at h
      obtain ⟨rfl, rfl, rfl⟩ := h
      exact divRats_zero n1 d1 d2 hk w
    · rw [if_pos ⟨hk, h0⟩] at h
      simp only [Bool.and_eq_true] at hk
      exact divRats_yes n1 d1 n2 d2 a b t hk.1 hk.2 h0 h w
  · rw [if_neg (fun hh => hk hh.1)] at h
    simp only [Prod.mk.injEq] at h
    obtain ⟨rfl, rfl, rfl⟩ := h
    exact divRats_no n1 d1 n2 d2 (by simpa using hk) w

end Go.Proofs.Ytkeajfgcjmhmiaa

namespace Go.Proofs.Ytkeajfgcjmhmiaa
open Go.RowKit


set_option maxHeartbeats 400000 in
theorem raAdd_any (n1 d1 n2 d2 a b : Int) (t : Bool) (s1 : Sm n1) (s2 : Sm d1) (k1 : Sm n2) (k2 : Sm d2) (h : lowQ (n1 * d2 + n2 * d1) (d1 * d2) = (a, b, t)) (w : World) :
    Calls Try.prog 95 #[.agg #[.int .i64 n1, .int .i64 d1], .agg #[.int .i64 n2, .int .i64 d2]] w (LowEnd a b t w) := by
  have m1 := s1.mul k2
  have m2 := k1.mul s2
  have m3 := s2.mul k2
  have hs2 := s2.bd
  have HL := Lib.hid h

  clear h s1 s2 k1 k2
  go_enter Try.func95, Try.ntmps95
  go_wp2_with fail
  refine (raMake_any _ _ a b t HL.out (by omega) (by omega) _).mono ?_
  rintro e w1 ⟨rfl, hb⟩
  obtain ⟨q0, f0⟩ : Slot w1 (w.heap.size + 2) 0 (.int .i64 0) := slotB hb ⟨by simp [go_sem], by simp [go_sem]⟩
  obtain ⟨q1, f1⟩ : Slot w1 (w.heap.size + 2) 1 (.int .i64 0) := slotB hb ⟨by simp [go_sem], by simp [go_sem]⟩
  have hB : Below w.heap.size w w1 := nextB (by go_grown) (by go_size) hb
  go_wp2_with fail
  refine bodyPost_ret (v := .tuple #[.agg #[.int .i64 a, .int .i64 b], .bool t]) (by simp [results, Try.results95, go_sem, q0, q1]) rfl ⟨rfl, ?_⟩
  go_grown

set_option maxHeartbeats 400000 in
theorem raSub_any (n1 d1 n2 d2 a b : Int) (t : Bool) (s1 : Sm n1) (s2 : Sm d1) (k1 : Sm n2) (k2 : Sm d2) (h : lowQ (n1 * d2 - n2 * d1) (d1 * d2) = (a, b, t)) (w : World) :
    Calls Try.prog 75 #[.agg #[.int .i64 n1, .int .i64 d1], .agg #[.int .i64 n2, .int .i64 d2]] w (LowEnd a b t w) := by
  have m1 := s1.mul k2
  have m2 := k1.mul s2
  have m3 := s2.mul k2
  have hs2 := s2.bd
  have HL := Lib.hid h

  clear h s1 s2 k1 k2
  go_enter Try.func75, Try.ntmps75
  go_wp2_with fail
  refine (raMake_any _ _ a b t HL.out (by omega) (by omega) _).mono ?_
  rintro e w1 ⟨rfl, hb⟩
  obtain ⟨q0, f0⟩ : Slot w1 (w.heap.size + 2) 0 (.int .i64 0) := slotB hb ⟨by simp [go_sem], by simp [go_sem]⟩
  obtain ⟨q1, f1⟩ : Slot w1 (w.heap.size + 2) 1 (.int .i64 0) := slotB hb ⟨by simp [go_sem], by simp [go_sem]⟩
  have hB : Below w.heap.size w w1 := nextB (by go_grown) (by go_size) hb
  go_wp2_with fail
  refine bodyPost_ret (v := .tuple #[.agg #[.int .i64 a, .int .i64 b], .bool t]) (by simp [results, Try.results75, go_sem, q0, q1]) rfl ⟨rfl, ?_⟩
  go_grown

set_option maxHeartbeats 400000 in
theorem raMul_any (n1 d1 n2 d2 a b : Int) (t : Bool) (s1 : Sm n1) (s2 : Sm d1) (k1 : Sm n2) (k2 : Sm d2) (h : lowQ (n1 * n2) (d1 * d2) = (a, b, t)) (w : World) :
    Calls Try.prog 94 #[.agg #[.int .i64 n1, .int .i64 d1], .agg #[.int .i64 n2, .int .i64 d2]] w (LowEnd a b t w) := by
  have m1 := s1.mul k1
  have m3 := s2.mul k2
  have hs2 := s2.bd
  have HL := Lib.hid h

  clear h s1 s2 k1 k2
  go_enter Try.func94, Try.ntmps94
  go_wp2_with fail
  refine (raMake_any _ _ a b t HL.out (by omega) (by omega) _).mono ?_
  rintro e w1 ⟨rfl, hb⟩
  obtain ⟨q0, f0⟩ : Slot w1 (w.heap.size + 2) 0 (.int .i64 0) := slotB hb ⟨by simp [go_sem], by simp [go_sem]⟩
  obtain ⟨q1, f1⟩ : Slot w1 (w.heap.size + 2) 1 (.int .i64 0) := slotB hb ⟨by simp [go_sem], by simp [go_sem]⟩
  have hB : Below w.heap.size w w1 := nextB (by go_grown) (by go_size) hb
  go_wp2_with fail
  refine bodyPost_ret (v := .tuple #[.agg #[.int .i64 a, .int .i64 b], .bool t]) (by simp [results, Try.results94, go_sem, q0, q1]) rfl ⟨rfl, ?_⟩
  go_grown

set_option maxHeartbeats 400000 in
theorem raDiv_nz (n1 d1 n2 d2 a b : Int) (t : Bool) (s1 : Sm n1) (s2 : Sm d1) (k1 : Sm n2) (k2 : Sm d2) (hn0 : n2 ≠ 0) (h : lowQ (n1 * d2) (d1 * n2) = (a, b, t)) (w : World) :
    Calls Try.prog 76 #[.agg #[.int .i64 n1, .int .i64 d1], .agg #[.int .i64 n2, .int .i64 d2]] w (LowEnd a b t w) := by
  have m1 := s1.mul k2
  have m3 := s2.mul k1
  have hs2 := s2.bd
  have HL := Lib.hid h
  have hn1 : ((n2 : Int) == 0) = false := by simpa using hn0
  clear h s1 s2 k1 k2
  go_enter Try.func76, Try.ntmps76
  go_wp2_with fail
  refine (raMake_any _ _ a b t HL.out (by omega) (by omega) _).mono ?_
  rintro e w1 ⟨rfl, hb⟩
  obtain ⟨q0, f0⟩ : Slot w1 (w.heap.size + 2) 0 (.int .i64 0) := slotB hb ⟨by simp [go_sem], by simp [go_sem]⟩
  obtain ⟨q1, f1⟩ : Slot w1 (w.heap.size + 2) 1 (.int .i64 0) := slotB hb ⟨by simp [go_sem], by simp [go_sem]⟩
  have hB : Below w.heap.size w w1 := nextB (by go_grown) (by go_size) hb
  go_wp2_with fail
  refine bodyPost_ret (v := .tuple #[.agg #[.int .i64 a, .int .i64 b], .bool t]) (by simp [results, Try.results76, go_sem, q0, q1]) rfl ⟨rfl, ?_⟩
  go_grown

set_option maxHeartbeats 400000 in
theorem raDiv_zero (n1 d1 d2 : Int) (w : World) :
    Calls Try.prog 76 #[.agg #[.int .i64 n1, .int .i64 d1], .agg #[.int .i64 0, .int .i64 d2]] w (LowEnd 0 0 false w) := by
  go_enter Try.func76, Try.ntmps76
  go_wp2_with fail
  refine bodyPost_ret (v := .tuple #[.agg #[.int .i64 0, .int .i64 0], .bool false]) (by simp [results, Try.results76, go_sem]) rfl ⟨rfl, ?_⟩
  go_grown

theorem raDiv_any (n1 d1 n2 d2 a b : Int) (t : Bool) (s1 : Sm n1) (s2 : Sm d1) (k1 : Sm n2) (k2 : Sm d2) (h : lowQ (n1 * d2) (d1 * n2) = (a, b, t)) (w : World) :
    Calls Try.prog 76 #[.agg #[.int .i64 n1, .int .i64 d1], .agg #[.int .i64 n2, .int .i64 d2]] w (LowEnd a b t w) := by
  by_cases h0 : n2 = 0
  · subst h0
    rw [Int.mul_zero, lowQ_zero] at h
    simp only [Prod.mk.injEq] at h
    obtain ⟨rfl, rfl, rfl⟩ := h
    exact raDiv_zero n1 d1 d2 w
  · exact raDiv_nz n1 d1 n2 d2 a b t s1 s2 k1 k2 h0 h w

end Go.Proofs.Ytkeajfgcjmhmiaa

namespace Go.Proofs.Ytkeajfgcjmhmiaa
open Go.RowKit

theorem negated_any (n d : Int) (h : -9223372036854775807 ≤ n ∧ n ≤ 9223372036854775807) (w : World) :
    Calls Try.prog 101 #[.agg #[.int .i64 n, .int .i64 d]] w fun e w' => e = .returned (.agg #[.int .i64 (-n), .int .i64 d]) ∧ Below w.heap.size w w' := by
  go_enter Try.func101, Try.ntmps101
  go_wp2_with fail
  refine bodyPost_ret (v := .agg #[.int .i64 (-n), .int .i64 d]) (by simp [results, Try.results101, go_sem]) rfl ⟨rfl, ?_⟩
  go_grown

theorem negated_min (d : Int) (w : World) :
    Calls Try.prog 101 #[.agg #[.int .i64 (-9223372036854775808), .int .i64 d]] w fun e w' => e = .returned (.agg #[.int .i64 (-9223372036854775808), .int .i64 d]) ∧ Below w.heap.size w w' := by
  go_enter Try.func101, Try.ntmps101
  go_wp2_with fail
  refine bodyPost_ret (v := .agg #[.int .i64 (-9223372036854775808), .int .i64 d]) (by simp [results, Try.results101, go_sem, wrap64]) rfl ⟨rfl, ?_⟩
  go_grown

/-- What 'negated' makes of a number. -/
def negQ (n : Int) : Int := if n = -9223372036854775808 then n else -n
theorem negated_all (n d : Int) (h : -9223372036854775808 ≤ n ∧ n ≤ 9223372036854775807) (w : World) :
    Calls Try.prog 101 #[.agg #[.int .i64 n, .int .i64 d]] w fun e w' => e = .returned (.agg #[.int .i64 (negQ n), .int .i64 d]) ∧ Below w.heap.size w w' := by
  unfold negQ
  split
  · rename_i h0; subst h0; exact negated_min d w
  · exact negated_any n d (by omega) w

theorem okQ_neg (n d : Int) : okQ (-n) d = okQ n d := by
  unfold okQ; rw [Int.neg_gcd]; congr 1; rw [eq_iff_iff]; constructor <;> intro h <;> omega
theorem addQ_neg (n1 d1 n2 d2 : Int) : addQ n1 d1 (negQ n2) d2 = subQ n1 d1 n2 d2 := by
  unfold negQ
  split
  · rename_i h0
    subst h0
    have : okQ (-9223372036854775808) d2 = false := okQ_no2 (by omega)
    unfold addQ subQ
    simp [this]
  · unfold addQ subQ
    rw [okQ_neg, Int.neg_mul, Int.sub_eq_add_neg]

/-- The two fractions in their boxes. -/
def BoxS (h : Nat) (n1 d1 n2 d2 : Int) (w' : World) : Prop :=
  w'.cell? ⟨h, 0, none⟩ = some (.int .i64 n1) ∧ w'.cell? ⟨h, 1, none⟩ = some (.int .i64 d1) ∧ w'.cell? ⟨h + 1, 0, none⟩ = some (.int .i64 n2) ∧ w'.cell? ⟨h + 1, 1, none⟩ = some (.int .i64 d2)
theorem BoxS.keep {h : Nat} {n1 d1 n2 d2 : Int} {X w1 : World} (k : BoxS h n1 d1 n2 d2 X) (hb : Below X.heap.size X w1) : BoxS h n1 d1 n2 d2 w1 :=
  ⟨cellB hb k.1, cellB hb k.2.1, cellB hb k.2.2.1, cellB hb k.2.2.2⟩
theorem BoxS.store {h : Nat} {n1 d1 n2 d2 : Int} {X : World} (k : BoxS h n1 d1 n2 d2 X) (g o : Nat) (v : Value) (hg : h + 2 ≤ g) : BoxS h n1 d1 n2 d2 (X.setCell ⟨g, o, none⟩ v) := by
  refine ⟨?_, ?_, ?_, ?_⟩ <;> rw [World.cell?_setCell_other _ _ _ _ (by simp only [ne_eq, Addr.mk.injEq]; omega)]
  · exact k.1
  · exact k.2.1
  · exact k.2.2.1
  · exact k.2.2.2

set_option maxHeartbeats 400000 in
theorem subRats_in (n1 d1 n2 d2 a b : Int) (t : Bool) (hn : -9223372036854775808 ≤ n2 ∧ n2 ≤ 9223372036854775807) (h : addQ n1 d1 (negQ n2) d2 = (a, b, t)) (w : World) :
    Calls Try.prog 91 #[.agg #[.int .i64 n1, .int .i64 d1], .agg #[.int .i64 n2, .int .i64 d2]] w (LowEnd a b t w) := by
  have HL := Lib.hid h
  clear h
  go_enter Try.func91, Try.ntmps91
  go_wp2_with fail
  go_region_held3 (fun w' => w'.cell? ⟨w.heap.size, 0, none⟩ = some (.int .i64 n1) ∧ w'.cell? ⟨w.heap.size, 1, none⟩ = some (.int .i64 d1) ∧ w'.cell? ⟨w.heap.size + 1, 0, none⟩ = some (.int .i64 n2) ∧ w'.cell? ⟨w.heap.size + 1, 1, none⟩ = some (.int .i64 d2))
    ((first | (refine ⟨?_, ?_, ?_, ?_⟩ <;> (simp [go_sem]; done)) | exact BoxS.keep (by assumption) hb2 | exact BoxS.keep (by assumption) hb | exact BoxS.store (BoxS.store (by assumption) _ _ _ (Nat.le_refl _)) _ _ _ (Nat.le_refl _)))
    ((first | (go_at_call 101; refine (negated_all n2 d2 hn _).mono ?_; rintro e w1 ⟨rfl, hb⟩; have s0 := slotB (b := w.heap.size + 2) (o := 0) (v := .int .i64 0) hb ⟨by simp [go_sem], by simp [go_sem]⟩; have s1 := slotB (b := w.heap.size + 2) (o := 1) (v := .int .i64 0) hb ⟨by simp [go_sem], by simp [go_sem]⟩; have hB := nextB (B := w.heap.size) (w := w) (by go_grown) (by go_size) hb) | (go_at_call 97; refine (addRats_any _ _ _ _ a b t HL.out _).mono ?_; rintro e w2 ⟨rfl, hb2⟩; obtain ⟨q0, f0⟩ := slotB hb2 s0; obtain ⟨q1, f1⟩ := slotB hb2 s1; have hB2 := nextW hB hb2)))
  go_wp2_with fail
  refine bodyPost_ret (v := .tuple #[.agg #[.int .i64 a, .int .i64 b], .bool t]) (by simp [results, Try.results91, go_sem, q0, q1]) rfl ⟨rfl, ?_⟩
  go_grown

theorem subRats_any (n1 d1 n2 d2 a b : Int) (t : Bool) (hn : -9223372036854775808 ≤ n2 ∧ n2 ≤ 9223372036854775807) (h : subQ n1 d1 n2 d2 = (a, b, t)) (w : World) :
    Calls Try.prog 91 #[.agg #[.int .i64 n1, .int .i64 d1], .agg #[.int .i64 n2, .int .i64 d2]] w (LowEnd a b t w) := by
  exact subRats_in n1 d1 n2 d2 a b t hn (by rw [addQ_neg]; exact h) w

end Go.Proofs.Ytkeajfgcjmhmiaa

namespace Go.Proofs.Ytkeajfgcjmhmiaa
open Go.RowKit

/-- The greatest whole number that is not greater than a / b. -/
def downQ (a b : Int) : Int := if a.tmod b < 0 then a.tdiv b - 1 else a.tdiv b

set_option maxHeartbeats 400000 in
theorem compare_any (n1 d1 n2 d2 : Int) (s1 : Sm n1) (s2 : Sm d1) (k1 : Sm n2) (k2 : Sm d2) (w : World) :
    Calls Try.prog 64 #[.agg #[.int .i64 n1, .int .i64 d1], .agg #[.int .i64 n2, .int .i64 d2]] w fun e w' => e = .returned (.int .i64 (cmpQ n1 d1 n2 d2)) ∧ Below w.heap.size w w' := by
  have m1 := s1.mul k2
  have m2 := k1.mul s2
  clear s1 s2 k1 k2
  by_cases h1 : n1 * d2 < n2 * d1
  · have HC := Lib.hid (show cmpQ n1 d1 n2 d2 = -1 by unfold cmpQ; rw [if_pos h1])
    go_enter Try.func64, Try.ntmps64
    go_wp2_with fail
    go_quiet (fail)
    go_wp2_with fail
    go_ret
    exact ⟨ret_int HC.out.symm, by go_grown; exact below_drewN (by go_grown) _⟩
  · by_cases h2 : n2 * d1 < n1 * d2
    · have HC := Lib.hid (show cmpQ n1 d1 n2 d2 = 1 by unfold cmpQ; rw [if_neg h1, if_pos h2])
      go_enter Try.func64, Try.ntmps64
      go_wp2_with fail
      go_quiet (fail)
      go_wp2_with fail
      go_ret
      exact ⟨ret_int HC.out.symm, by go_grown; exact below_drewN (by go_grown) _⟩
    · have HC := Lib.hid (show cmpQ n1 d1 n2 d2 = 0 by unfold cmpQ; rw [if_neg h1, if_neg h2])
      go_enter Try.func64, Try.ntmps64
      go_wp2_with fail
      go_quiet (fail)
      go_wp2_with fail
      go_ret
      exact ⟨ret_int HC.out.symm, by go_grown; exact below_drewN (by go_grown) _⟩

theorem tdiv_bd {a : Int} (b : Int) {m : Int} (h : -m ≤ a ∧ a ≤ m) : -m ≤ a.tdiv b ∧ a.tdiv b ≤ m := by
  have := natAbs_tdiv_le a b; omega
theorem tmod_bd {a b m : Int} (hb : 1 ≤ b) (h : b ≤ m) : -m ≤ a.tmod b ∧ a.tmod b ≤ m := by
  have h1 : (a.tmod b).natAbs < b.natAbs := by rw [Int.natAbs_tmod]; exact Nat.mod_lt _ (by omega)
  omega
theorem downQ_bd {a b m : Int} (h : -m ≤ a ∧ a ≤ m) : -m - 1 ≤ downQ a b ∧ downQ a b ≤ m := by
  have := tdiv_bd b h; unfold downQ; split <;> omega

end Go.Proofs.Ytkeajfgcjmhmiaa

namespace Go.Proofs.Ytkeajfgcjmhmiaa
open Go.RowKit

theorem l1Sign_any (n : Int) (w : World) :
    Calls Try.prog 51 #[.int .i64 n] w fun e w' => e = .returned (.int .i64 (if 0 < n then 1 else if n < 0 then -1 else 0)) ∧ w' = w := by
  by_cases h1 : 0 < n
  · go_enter Try.func51, Try.ntmps51
    go_wp2
    go_ret
    exact ⟨rfl, rfl⟩
  · by_cases h2 : n < 0
    · go_enter Try.func51, Try.ntmps51
      go_wp2
      go_ret
      exact ⟨rfl, rfl⟩
    · go_enter Try.func51, Try.ntmps51
      go_wp2
      go_ret
      exact ⟨rfl, rfl⟩

theorem sign_cmp (x y : Int) : (if 0 < x - y then (1 : Int) else if x - y < 0 then -1 else 0) = (if x < y then -1 else if y < x then 1 else 0) := by
  split <;> split <;> (try split) <;> omega

set_option maxHeartbeats 400000 in
theorem raCmp_any (n1 d1 n2 d2 : Int) (s1 : Sm n1) (s2 : Sm d1) (k1 : Sm n2) (k2 : Sm d2) (w : World) :
    Calls Try.prog 29 #[.agg #[.int .i64 n1, .int .i64 d1], .agg #[.int .i64 n2, .int .i64 d2]] w fun e w' => e = .returned (.int .i64 (cmpQ n1 d1 n2 d2)) ∧ Below w.heap.size w w' := by
  have m1 := s1.mul k2
  have m2 := k1.mul s2
  clear s1 s2 k1 k2
  have HC := Lib.hid (show _ = cmpQ n1 d1 n2 d2 from sign_cmp (n1 * d2) (n2 * d1))
  go_enter Try.func29, Try.ntmps29
  go_wp2_with fail
  refine (l1Sign_any _ _).mono ?_
  rintro e w1 ⟨he, rfl⟩
  rw [HC.out] at he
  subst he
  go_wp2_with fail
  go_ret
  exact ⟨rfl, by go_grown⟩


end Go.Proofs.Ytkeajfgcjmhmiaa
