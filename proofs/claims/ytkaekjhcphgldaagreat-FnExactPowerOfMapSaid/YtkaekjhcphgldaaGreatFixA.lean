/- The program's fraction between two points whose value is itself. -/
import Derived.Test.YtkaekjhcphgldaaGreatFix0
import Derived.BigQuiet
namespace Go.Proofs.YtkaekjhcphgldaaGreat
open Go.RowKit

theorem absI_nat (n : Int) : absI n = (n.natAbs : Int) := by unfold absI; split <;> omega

/-- Bounds of all that the program reckons between two points. -/
structure BetwBd (a b c d e f g h : Int) : Prop where
  m1 : -10000 ≤ a * d ∧ a * d ≤ 10000
  m2 : -10000 ≤ c * b ∧ c * b ≤ 10000
  m3 : -10000 ≤ e * h ∧ e * h ≤ 10000
  m4 : -10000 ≤ g * f ∧ g * f ≤ 10000
  o1 : 0 ≤ ((a * d - c * b).natAbs : Int) * f ∧ ((a * d - c * b).natAbs : Int) * f ≤ 2000000
  o2 : 0 ≤ ((a * d - c * b).natAbs : Int) * f * h ∧ ((a * d - c * b).natAbs : Int) * f * h ≤ 200000000
  t1 : 0 ≤ ((e * h - g * f).natAbs : Int) * b ∧ ((e * h - g * f).natAbs : Int) * b ≤ 2000000
  t2 : 0 ≤ ((e * h - g * f).natAbs : Int) * b * d ∧ ((e * h - g * f).natAbs : Int) * b * d ≤ 200000000
  n1 : -10000 ≤ a * f ∧ a * f ≤ 10000
  n2 : -10000 ≤ e * b ∧ e * b ≤ 10000
  n3 : -10000 ≤ b * f ∧ b * f ≤ 10000
theorem betwBd {a b c d e f g h : Int} (hp : CoP ((a, b), (c, d))) (hq : CoP ((e, f), (g, h))) : BetwBd a b c d e f g h := by
  have n1 := coordQ_bd hp.1
  have n2 := coordQ_bd hp.2
  have n3 := coordQ_bd hq.1
  have n4 := coordQ_bd hq.2
  simp only at n1 n2 n3 n4
  have m1 := bd2 (a := a) (b := d) (m := 100) (k := 100) (by omega) (by omega) (by omega)
  have m2 := bd2 (a := c) (b := b) (m := 100) (k := 100) (by omega) (by omega) (by omega)
  have m3 := bd2 (a := e) (b := h) (m := 100) (k := 100) (by omega) (by omega) (by omega)
  have m4 := bd2 (a := g) (b := f) (m := 100) (k := 100) (by omega) (by omega) (by omega)
  have k1 := bd2 (a := a) (b := f) (m := 100) (k := 100) (by omega) (by omega) (by omega)
  have k2 := bd2 (a := e) (b := b) (m := 100) (k := 100) (by omega) (by omega) (by omega)
  have k3 := bd2 (a := b) (b := f) (m := 100) (k := 100) (by omega) (by omega) (by omega)
  have o1 := mul_fits (a := ((a * d - c * b).natAbs : Int)) (b := f) (m := 20000) (k := 100) (by omega) (by omega) (by omega) (by omega)
  have o2 := mul_fits (a := ((a * d - c * b).natAbs : Int) * f) (b := h) (m := 2000000) (k := 100) o1.1 (by omega) (by omega) (by omega)
  have t1 := mul_fits (a := ((e * h - g * f).natAbs : Int)) (b := b) (m := 20000) (k := 100) (by omega) (by omega) (by omega) (by omega)
  have t2 := mul_fits (a := ((e * h - g * f).natAbs : Int) * b) (b := d) (m := 2000000) (k := 100) t1.1 (by omega) (by omega) (by omega)
  exact ⟨by omega, by omega, by omega, by omega, by omega, by omega, by omega, by omega, by omega, by omega, by omega⟩

/-- The denominator that the program hands on is not 0. -/
theorem betw_pos {a b c d e f g h : Int} (hp : CoP ((a, b), (c, d))) (hq : CoP ((e, f), (g, h))) (hc : crossF ((a, b), (c, d)) ((e, f), (g, h)) = true) :
    b * f * (((a * d - c * b).natAbs : Int) * f * h + ((e * h - g * f).natAbs : Int) * b * d) ≠ 0 := by
  obtain ⟨_, _, _, _, _, _, _, _, _, _, _, _, hb⟩ := betw_is hp hq hc
  intro h0
  have := hb.flag
  unfold betwQ betw1 betw2 at this
  simp only [absI_nat] at this
  rw [h0, lowQ_zero] at this
  simp at this


end Go.Proofs.YtkaekjhcphgldaaGreat
