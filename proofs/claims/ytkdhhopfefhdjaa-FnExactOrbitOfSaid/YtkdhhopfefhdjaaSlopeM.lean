/- Plain: differences and quotients of coordinates fit. -/
import Derived.Test.YtkdhhopfefhdjaaMathMap
namespace Go.Proofs.Ytkdhhopfefhdjaa

theorem lowQ_fits {N D : Int} (h1 : 1 ≤ D) (h2 : D ≤ 1000000000) (h3 : -1000000000 ≤ N) (h4 : N ≤ 1000000000) :
    ∃ a b, lowQ N D = (a, b, true) ∧ 1 ≤ b ∧ b ≤ D ∧ (-N.natAbs ≤ a ∧ a ≤ N.natAbs) ∧ a * D = N * b ∧ okQ a b = true := by
  have hc : cutQ N D = (Int.gcd N D : Int) := by unfold cutQ; rw [if_neg (by omega)]
  have hg : 0 < Int.gcd N D := Int.gcd_pos_of_ne_zero_right _ (by omega)
  have ea := (tdiv_cutQ N D).1
  have eb := (tdiv_cutQ N D).2
  rw [hc] at ea eb
  have hgcd : Int.gcd (N / (Int.gcd N D : Int)) (D / (Int.gcd N D : Int)) = 1 := Int.gcd_ediv_gcd_ediv_gcd hg
  obtain ⟨a, ha⟩ : (Int.gcd N D : Int) ∣ N := Int.gcd_dvd_left ..
  obtain ⟨b, hb⟩ : (Int.gcd N D : Int) ∣ D := Int.gcd_dvd_right ..
  generalize Int.gcd N D = g at *
  have h0 : (g : Int) ≠ 0 := by omega
  have qa : N / (g : Int) = a := by rw [ha]; exact Int.mul_ediv_cancel_left _ h0
  have qb : D / (g : Int) = b := by rw [hb]; exact Int.mul_ediv_cancel_left _ h0
  rw [qa, qb] at hgcd
  rw [qa] at ea
  rw [qb] at eb
  have b1 : 1 ≤ b := by
    rcases Int.lt_or_le 0 b with h | h
    · omega
    · have := Int.mul_nonpos_of_nonneg_of_nonpos (show (0 : Int) ≤ g by omega) h
      omega
  have b2 : b ≤ D := by
    rw [hb]
    have := Int.mul_le_mul_of_nonneg_right (show (1 : Int) ≤ g by omega) (show 0 ≤ b by omega)
    omega
  have a1 : a.natAbs ≤ N.natAbs := by
    rw [ha, Int.natAbs_mul]
    exact Nat.le_mul_of_pos_left _ (by omega)
  have hok : okQ a b = true := okQ_mk b1 (by omega) (by omega) (by omega) hgcd
  refine ⟨a, b, ?_, b1, b2, by omega, ?_, hok⟩
  · have := lowQ_yes (n := N) (d := D) (by rw [hc, ea, eb]; exact hok)
    rw [hc, ea, eb] at this
    exact this
  · conv => lhs; rw [hb]
    conv => rhs; rw [ha]
    rw [← Int.mul_assoc, Int.mul_comm a]

theorem mul_fits {a b m k : Int} (h1 : 0 ≤ a) (h2 : a ≤ m) (h3 : 0 ≤ b) (h4 : b ≤ k) : 0 ≤ a * b ∧ a * b ≤ m * k :=
  ⟨Int.mul_nonneg h1 h3, Int.le_trans (Int.mul_le_mul_of_nonneg_right h2 h3) (Int.mul_le_mul_of_nonneg_left h4 (by omega))⟩

/-- A difference of two coordinates. -/
theorem sub_coord {n1 d1 n2 d2 : Int} (h1 : coordQ n1 d1 = true) (h2 : coordQ n2 d2 = true) :
    ∃ a b, subQ n1 d1 n2 d2 = (a, b, true) ∧ lowQ (n1 * d2 - n2 * d1) (d1 * d2) = (a, b, true) ∧ 1 ≤ b ∧ b ≤ 10000 ∧ -10000 ≤ a ∧ a ≤ 10000 ∧ okQ a b = true ∧ (n2 * d1 < n1 * d2 → 0 < a) := by
  have b1 := coordQ_bd h1
  have b2 := coordQ_bd h2
  have k1 := unitQ_ok (coordQ_unit h1)
  have k2 := unitQ_ok (coordQ_unit h2)
  obtain ⟨m1, m2⟩ := mul_fits (a := n1) (b := d2) (m := 100) (k := 100) (by omega) (by omega) (by omega) (by omega)
  obtain ⟨m3, m4⟩ := mul_fits (a := n2) (b := d1) (m := 100) (k := 100) (by omega) (by omega) (by omega) (by omega)
  obtain ⟨m5, m6⟩ := mul_fits (a := d1) (b := d2) (m := 100) (k := 100) (by omega) (by omega) (by omega) (by omega)
  have m7 : 0 < d1 * d2 := Int.mul_pos (by omega) (by omega)
  have hs : subQ n1 d1 n2 d2 = lowQ (n1 * d2 - n2 * d1) (d1 * d2) := by unfold subQ; rw [if_pos (by rw [k1, k2]; rfl)]
  rw [hs]
  generalize n1 * d2 = x at *
  generalize n2 * d1 = y at *
  generalize d1 * d2 = z at *
  obtain ⟨a, b, e, c1, c2, c3, c4, c5⟩ := lowQ_fits (N := x - y) (D := z) (by omega) (by omega) (by omega) (by omega)
  refine ⟨a, b, e, e, c1, by omega, by omega, by omega, c5, fun hlt => ?_⟩
  rcases Int.lt_or_le 0 a with h | h
  · exact h
  · exfalso
    have p1 : 0 < (x - y) * b := Int.mul_pos (by omega) (by omega)
    have p2 : a * z ≤ 0 := by
      have := Int.mul_nonneg (show 0 ≤ -a by omega) (show 0 ≤ z by omega)
      rw [Int.neg_mul] at this
      omega
    omega

/-- The slope between two points of a map. -/
theorem slope_fits {p q : Pt} (hp1 : coordQ p.1.1 p.1.2 = true) (hp2 : coordQ p.2.1 p.2.2 = true) (hq1 : coordQ q.1.1 q.1.2 = true) (hq2 : coordQ q.2.1 q.2.2 = true) (hl : lessQ p.1.1 p.1.2 q.1.1 q.1.2 = true) :
    ∃ u1 u2 f1 f2 s1 s2, subQ q.2.1 q.2.2 p.2.1 p.2.2 = (u1, u2, true) ∧ lowQ (q.2.1 * p.2.2 - p.2.1 * q.2.2) (q.2.2 * p.2.2) = (u1, u2, true) ∧
      subQ q.1.1 q.1.2 p.1.1 p.1.2 = (f1, f2, true) ∧ lowQ (q.1.1 * p.1.2 - p.1.1 * q.1.2) (q.1.2 * p.1.2) = (f1, f2, true) ∧
      divQ u1 u2 f1 f2 = (s1, s2, true) ∧ lowQ (u1 * f2) (u2 * f1) = (s1, s2, true) ∧ Sm u1 ∧ Sm u2 ∧ Sm f1 ∧ Sm f2 ∧ okQ s1 s2 = true ∧ f1 ≠ 0 := by
  obtain ⟨u1, u2, e1, e2, c1, c2, c3, c4, c5, -⟩ := sub_coord hq2 hp2
  obtain ⟨f1, f2, g1, g2, k1, k2, k3, k4, k5, k6⟩ := sub_coord hq1 hp1
  have hf : 0 < f1 := k6 (by simpa [lessQ] using hl)
  obtain ⟨m1, m2⟩ := mul_fits (a := u2) (b := f1) (m := 10000) (k := 10000) (by omega) (by omega) (by omega) (by omega)
  have m3 : 0 < u2 * f1 := Int.mul_pos (by omega) hf
  have m4 : -100000000 ≤ u1 * f2 ∧ u1 * f2 ≤ 100000000 := by
    rcases Int.le_total 0 u1 with h | h
    · obtain ⟨a1, a2⟩ := mul_fits (a := u1) (b := f2) (m := 10000) (k := 10000) h (by omega) (by omega) (by omega)
      omega
    · obtain ⟨a1, a2⟩ := mul_fits (a := -u1) (b := f2) (m := 10000) (k := 10000) (by omega) (by omega) (by omega) (by omega)
      rw [Int.neg_mul] at a1 a2
      omega
  have hd : divQ u1 u2 f1 f2 = lowQ (u1 * f2) (u2 * f1) := by unfold divQ; rw [if_pos ⟨by rw [c5, k5]; rfl, by omega⟩]
  generalize hN : u1 * f2 = N at *
  generalize hD : u2 * f1 = D at *
  obtain ⟨a, b, e, -, -, -, -, ho⟩ := lowQ_fits (N := N) (D := D) (by omega) (by omega) (by omega) (by omega)
  refine ⟨u1, u2, f1, f2, a, b, e1, e2, g1, g2, by rw [hd]; exact e, by rw [hN, hD]; exact e, ?_, ?_, ?_, ?_, ho, by omega⟩
  · unfold Sm; omega
  · unfold Sm; omega
  · unfold Sm; omega
  · unfold Sm; omega

end Go.Proofs.Ytkdhhopfefhdjaa
