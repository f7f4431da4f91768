/- Plain facts on fractions, with no program in sight: what 'valid' means, and a fraction in lowest terms. -/
import Derived.RowKit
namespace Go.Proofs.Ytkdhhopfefhdjaa
open Go.RowKit

/-- A fraction is valid. -/
def okQ (n d : Int) : Bool := decide (1 ≤ d ∧ d ≤ 1000000000 ∧ -1000000000 ≤ n ∧ n ≤ 1000000000 ∧ Int.gcd n d = 1)

theorem okQ_mk {n d : Int} (h1 : 1 ≤ d) (h2 : d ≤ 1000000000) (h3 : -1000000000 ≤ n) (h4 : n ≤ 1000000000) (h5 : Int.gcd n d = 1) : okQ n d = true := by
  simp only [okQ, decide_eq_true_eq]; exact ⟨h1, h2, h3, h4, h5⟩
theorem okQ_bd {n d : Int} (h : okQ n d = true) : 1 ≤ d ∧ d ≤ 1000000000 ∧ -1000000000 ≤ n ∧ n ≤ 1000000000 := by
  simp only [okQ, decide_eq_true_eq] at h; exact ⟨h.1, h.2.1, h.2.2.1, h.2.2.2.1⟩
theorem okQ_gcd {n d : Int} (h : okQ n d = true) : Int.gcd n d = 1 := by
  simp only [okQ, decide_eq_true_eq] at h; exact h.2.2.2.2
theorem okQ_no1 {n d : Int} (h : ¬ (1 ≤ d ∧ d ≤ 1000000000)) : okQ n d = false := by
  simp only [okQ, decide_eq_false_iff_not]; intro hh; exact h ⟨hh.1, hh.2.1⟩
theorem okQ_no2 {n d : Int} (h : ¬ (-1000000000 ≤ n ∧ n ≤ 1000000000)) : okQ n d = false := by
  simp only [okQ, decide_eq_false_iff_not]; intro hh; exact h ⟨hh.2.2.1, hh.2.2.2.1⟩
theorem okQ_eq {n d : Int} (h1 : 1 ≤ d ∧ d ≤ 1000000000) (h2 : -1000000000 ≤ n ∧ n ≤ 1000000000) : okQ n d = (((Int.gcd n d : Nat) : Int) == 1) := by
  rw [Bool.eq_iff_iff]
  simp only [okQ, decide_eq_true_eq, beq_iff_eq]
  constructor
  · intro h; omega
  · intro h; exact ⟨h1.1, h1.2, h2.1, h2.2, by omega⟩

/-- The divisor by which a fraction is cut: of the denominator's sign. -/
def cutQ (n d : Int) : Int := if d < 0 then - (Int.gcd n d : Int) else (Int.gcd n d : Int)

/-- A fraction in lowest terms, and whether it is valid: (0, 0, false) if not. -/
def lowQ (n d : Int) : Int × Int × Bool :=
  if okQ (n.tdiv (cutQ n d)) (d.tdiv (cutQ n d)) = true then (n.tdiv (cutQ n d), d.tdiv (cutQ n d), true) else (0, 0, false)

theorem lowQ_yes {n d : Int} (h : okQ (n.tdiv (cutQ n d)) (d.tdiv (cutQ n d)) = true) : lowQ n d = (n.tdiv (cutQ n d), d.tdiv (cutQ n d), true) := by
  unfold lowQ; rw [if_pos h]
theorem lowQ_no {n d : Int} (h : okQ (n.tdiv (cutQ n d)) (d.tdiv (cutQ n d)) = false) : lowQ n d = (0, 0, false) := by
  unfold lowQ; rw [if_neg (by rw [h]; decide)]
theorem lowQ_zero (n : Int) : lowQ n 0 = (0, 0, false) := by
  refine lowQ_no (okQ_no1 ?_); simp

/-- The result of 'lowest' is valid or nought. -/
theorem lowQ_ok {n d a b : Int} {t : Bool} (h : lowQ n d = (a, b, t)) : (t = true → okQ a b = true) ∧ (t = false → a = 0 ∧ b = 0) := by
  unfold lowQ at h
  split at h
  · rename_i hk; simp only [Prod.mk.injEq] at h; obtain ⟨rfl, rfl, rfl⟩ := h
    exact ⟨fun _ => hk, (fun h => by cases h)⟩
  · simp only [Prod.mk.injEq] at h; obtain ⟨rfl, rfl, rfl⟩ := h
    exact ⟨(fun h => by cases h), fun _ => ⟨rfl, rfl⟩⟩

theorem cutQ_dvd (n d : Int) : cutQ n d ∣ n ∧ cutQ n d ∣ d := by
  unfold cutQ
  split
  · exact ⟨Int.neg_dvd.2 (Int.gcd_dvd_left ..), Int.neg_dvd.2 (Int.gcd_dvd_right ..)⟩
  · exact ⟨Int.gcd_dvd_left .., Int.gcd_dvd_right ..⟩
theorem cutQ_ne {n d : Int} (h : d ≠ 0) : cutQ n d ≠ 0 := by
  have : 0 < Int.gcd n d := Int.gcd_pos_of_ne_zero_right n h
  unfold cutQ; split <;> omega
theorem tdiv_cutQ (n d : Int) : n.tdiv (cutQ n d) = n / cutQ n d ∧ d.tdiv (cutQ n d) = d / cutQ n d :=
  ⟨Int.tdiv_eq_ediv_of_dvd (cutQ_dvd n d).1, Int.tdiv_eq_ediv_of_dvd (cutQ_dvd n d).2⟩
theorem lowQ_parts {n d a b : Int} {t : Bool} (h : lowQ n d = (a, b, t)) : okQ (n.tdiv (cutQ n d)) (d.tdiv (cutQ n d)) = t ∧ (t = true → a = n.tdiv (cutQ n d) ∧ b = d.tdiv (cutQ n d)) ∧ (t = false → a = 0 ∧ b = 0) := by
  unfold lowQ at h
  split at h
  · rename_i hk; simp only [Prod.mk.injEq] at h; obtain ⟨rfl, rfl, rfl⟩ := h
    exact ⟨hk, fun _ => ⟨rfl, rfl⟩, (fun h => by cases h)⟩
  · rename_i hk; simp only [Prod.mk.injEq] at h; obtain ⟨rfl, rfl, rfl⟩ := h
    exact ⟨by simpa using hk, (fun h => by cases h), fun _ => ⟨rfl, rfl⟩⟩
theorem cutQ_bd (n d : Int) (h : d ≠ 0) : (cutQ n d).natAbs ≤ d.natAbs := by
  have h1 : Int.gcd n d ∣ d.natAbs := Nat.gcd_dvd_right ..
  have h2 := Nat.le_of_dvd (by omega) h1
  unfold cutQ; split <;> omega

def addQ (n1 d1 n2 d2 : Int) : Int × Int × Bool := if (okQ n1 d1 && okQ n2 d2) = true then lowQ (n1 * d2 + n2 * d1) (d1 * d2) else (0, 0, false)
def subQ (n1 d1 n2 d2 : Int) : Int × Int × Bool := if (okQ n1 d1 && okQ n2 d2) = true then lowQ (n1 * d2 - n2 * d1) (d1 * d2) else (0, 0, false)
def mulQ (n1 d1 n2 d2 : Int) : Int × Int × Bool := if (okQ n1 d1 && okQ n2 d2) = true then lowQ (n1 * n2) (d1 * d2) else (0, 0, false)
def divQ (n1 d1 n2 d2 : Int) : Int × Int × Bool := if (okQ n1 d1 && okQ n2 d2) = true ∧ n2 ≠ 0 then lowQ (n1 * d2) (d1 * n2) else (0, 0, false)
def midQ (n1 d1 n2 d2 : Int) : Int × Int × Bool := if (okQ n1 d1 && okQ n2 d2) = true then lowQ (n1 * d2 + n2 * d1) (2 * d1 * d2) else (0, 0, false)
/-- The order of two fractions: -1, 0 or 1. -/
def cmpQ (n1 d1 n2 d2 : Int) : Int := if n1 * d2 < n2 * d1 then -1 else if n2 * d1 < n1 * d2 then 1 else 0

/-- A number that takes part in the numbers of fractions. -/
def Sm (n : Int) : Prop := -1000000000 ≤ n ∧ n ≤ 1000000000
theorem Sm.bd {n : Int} (h : Sm n) : -1000000000 ≤ n ∧ n ≤ 1000000000 := h
theorem Sm.of_ok {n d : Int} (h : okQ n d = true) : Sm n ∧ Sm d := by
  obtain ⟨a, b, c, d⟩ := okQ_bd h; exact ⟨⟨c, d⟩, by omega, by omega⟩
theorem Sm.zero : Sm 0 := by unfold Sm; omega
theorem Sm.of_low {n d a b : Int} {t : Bool} (h : lowQ n d = (a, b, t)) : Sm a ∧ Sm b := by
  obtain ⟨h1, h2⟩ := lowQ_ok h
  cases t
  · obtain ⟨rfl, rfl⟩ := h2 rfl; exact ⟨Sm.zero, Sm.zero⟩
  · exact Sm.of_ok (h1 rfl)

theorem mul_bd {a b : Int} (h1 : -1000000000 ≤ a) (h2 : a ≤ 1000000000) (h3 : -1000000000 ≤ b) (h4 : b ≤ 1000000000) : -1000000000000000000 ≤ a * b ∧ a * b ≤ 1000000000000000000 := by
  have h : (a * b).natAbs ≤ 1000000000 * 1000000000 := by
    rw [Int.natAbs_mul]; exact Nat.mul_le_mul (by omega) (by omega)
  omega

theorem Sm.mul {a b : Int} (h : Sm a) (k : Sm b) : -1000000000000000000 ≤ a * b ∧ a * b ≤ 1000000000000000000 := mul_bd h.1 h.2 k.1 k.2
theorem Sm.two {a b : Int} (h : Sm a) (k : Sm b) : -2000000000000000000 ≤ 2 * a * b ∧ 2 * a * b ≤ 2000000000000000000 := by
  have := h.mul k; rw [Int.mul_assoc]; omega

end Go.Proofs.Ytkdhhopfefhdjaa
