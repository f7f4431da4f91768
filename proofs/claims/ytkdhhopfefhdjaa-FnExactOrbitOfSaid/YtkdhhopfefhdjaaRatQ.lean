/- Plain: fractions as rational numbers. No program in sight. -/
import Derived.Test.YtkdhhopfefhdjaaSlopeM
namespace Go.Proofs.Ytkdhhopfefhdjaa

/-- The rational number of a numerator and a denominator. -/
def toR (q : Q) : Rat := (q.1 : Rat) / (q.2 : Rat)
/-- A rational number as a fraction, if it is small enough. -/
def fitR (r : Rat) : Int × Int × Bool := if okQ r.num r.den = true then (r.num, (r.den : Int), true) else (0, 0, false)

theorem toR_divInt (q : Q) : toR q = Rat.divInt q.1 q.2 := (Rat.divInt_eq_div ..).symm

theorem lowQ_fit (N D : Int) (h : D ≠ 0) : lowQ N D = fitR (toR (N, D)) := by
  have e1 : N.tdiv (cutQ N D) = (toR (N, D)).num := by
    rw [toR_divInt, Rat.num_divInt, (tdiv_cutQ N D).1]
    unfold cutQ
    rw [Int.gcd_comm D N]
    split
    · rename_i h1
      rw [Int.sign_eq_neg_one_of_neg h1, Int.ediv_neg, Int.neg_mul, Int.one_mul, Int.neg_ediv_of_dvd (Int.gcd_dvd_left ..)]
    · rw [Int.sign_eq_one_of_pos (by omega), Int.one_mul]
  have e2 : D.tdiv (cutQ N D) = ((toR (N, D)).den : Int) := by
    rw [toR_divInt, Rat.den_divInt, if_neg h, (tdiv_cutQ N D).2]
    unfold cutQ
    rw [Int.gcd_comm D N]
    rw [Int.natCast_ediv]
    split
    · rename_i h1
      rw [Int.ediv_neg, ← Int.neg_ediv_of_dvd (Int.gcd_dvd_right ..), Int.ofNat_natAbs_of_nonpos (by omega)]
    · rw [Int.natAbs_of_nonneg (by omega)]
  unfold lowQ fitR
  rw [e1, e2]

theorem toR_num {a b : Int} (h : okQ a b = true) : (toR (a, b)).num = a ∧ ((toR (a, b)).den : Int) = b := by
  have h1 := okQ_bd h
  have h2 := okQ_gcd h
  rw [toR_divInt]
  constructor
  · rw [Rat.num_divInt, Int.gcd_comm, h2, Int.sign_eq_one_of_pos (by omega)]; simp
  · rw [Rat.den_divInt, if_neg (by omega), Int.gcd_comm, h2]; simp; omega
theorem fitR_toR {a b : Int} (h : okQ a b = true) : fitR (toR (a, b)) = (a, b, true) := by
  obtain ⟨e1, e2⟩ := toR_num h
  unfold fitR; rw [e1, e2, if_pos h]
theorem toR_inj {p q : Q} (hp : okQ p.1 p.2 = true) (hq : okQ q.1 q.2 = true) (h : toR p = toR q) : p = q := by
  obtain ⟨a, b⟩ := p
  obtain ⟨c, d⟩ := q
  obtain ⟨e1, e2⟩ := toR_num hp
  obtain ⟨f1, f2⟩ := toR_num hq
  rw [h] at e1 e2
  simp only at *
  rw [← e1, ← e2, f1, f2]
theorem fitR_yes {r : Rat} {a b : Int} (h : fitR r = (a, b, true)) : toR (a, b) = r ∧ okQ a b = true := by
  unfold fitR at h
  split at h
  · rename_i hk
    simp only [Prod.mk.injEq, and_true] at h
    obtain ⟨rfl, rfl⟩ := h
    refine ⟨?_, hk⟩
    show ((r.num : Rat) / ((r.den : Int) : Rat)) = r
    rw [← Rat.divInt_eq_div, Rat.num_divInt_den]
  · simp at h
theorem fitR_no {r : Rat} {a b : Int} (h : fitR r = (a, b, false)) : a = 0 ∧ b = 0 := by
  unfold fitR at h
  split at h
  · simp at h
  · simp only [Prod.mk.injEq, and_true] at h; exact ⟨h.1.symm, h.2.symm⟩
theorem fitR_iff {r : Rat} {a b : Int} : fitR r = (a, b, true) ↔ (toR (a, b) = r ∧ okQ a b = true) :=
  ⟨fitR_yes, fun ⟨h1, h2⟩ => by rw [← h1]; exact fitR_toR h2⟩

theorem den_ne {n d : Int} (h : okQ n d = true) : (d : Rat) ≠ 0 := by
  have := okQ_bd h
  intro e
  have : d = 0 := Rat.intCast_inj.1 (e.trans Rat.intCast_zero.symm)
  omega
theorem den_pos {n d : Int} (h : okQ n d = true) : (0 : Rat) < (d : Rat) := by
  have := okQ_bd h
  rw [← Rat.intCast_zero]; exact Rat.intCast_lt_intCast.2 (by omega)

theorem addQ_fit {n1 d1 n2 d2 : Int} (h1 : okQ n1 d1 = true) (h2 : okQ n2 d2 = true) : addQ n1 d1 n2 d2 = fitR (toR (n1, d1) + toR (n2, d2)) := by
  have a := okQ_bd h1
  have b := okQ_bd h2
  unfold addQ
  rw [if_pos (by rw [h1, h2]; rfl), lowQ_fit _ _ (Int.mul_ne_zero (by omega) (by omega))]
  congr 1
  have e1 := den_ne h1
  have e2 := den_ne h2
  simp only [toR, Rat.intCast_add, Rat.intCast_mul]
  grind
theorem subQ_fit {n1 d1 n2 d2 : Int} (h1 : okQ n1 d1 = true) (h2 : okQ n2 d2 = true) : subQ n1 d1 n2 d2 = fitR (toR (n1, d1) - toR (n2, d2)) := by
  have a := okQ_bd h1
  have b := okQ_bd h2
  unfold subQ
  rw [if_pos (by rw [h1, h2]; rfl), lowQ_fit _ _ (Int.mul_ne_zero (by omega) (by omega))]
  congr 1
  have e1 := den_ne h1
  have e2 := den_ne h2
  simp only [toR, Rat.intCast_sub, Rat.intCast_mul]
  grind
theorem mulQ_fit {n1 d1 n2 d2 : Int} (h1 : okQ n1 d1 = true) (h2 : okQ n2 d2 = true) : mulQ n1 d1 n2 d2 = fitR (toR (n1, d1) * toR (n2, d2)) := by
  have a := okQ_bd h1
  have b := okQ_bd h2
  unfold mulQ
  rw [if_pos (by rw [h1, h2]; rfl), lowQ_fit _ _ (Int.mul_ne_zero (by omega) (by omega))]
  congr 1
  have e1 := den_ne h1
  have e2 := den_ne h2
  simp only [toR, Rat.intCast_mul]
  grind
theorem midQ_fit {n1 d1 n2 d2 : Int} (h1 : okQ n1 d1 = true) (h2 : okQ n2 d2 = true) : midQ n1 d1 n2 d2 = fitR ((toR (n1, d1) + toR (n2, d2)) / 2) := by
  have a := okQ_bd h1
  have b := okQ_bd h2
  unfold midQ
  rw [if_pos (by rw [h1, h2]; rfl), lowQ_fit _ _ (Int.mul_ne_zero (Int.mul_ne_zero (by omega) (by omega)) (by omega))]
  congr 1
  have e1 := den_ne h1
  have e2 := den_ne h2
  simp only [toR, Rat.intCast_mul, Rat.intCast_add]
  have : ((2 : Int) : Rat) = 2 := rfl
  rw [this]
  grind
theorem num_zero {n d : Int} (h : okQ n d = true) : toR (n, d) = 0 ↔ n = 0 := by
  have := den_ne h
  unfold toR
  constructor
  · intro e
    have e2 : (n : Rat) = 0 := by simp only at e; grind
    exact Rat.intCast_inj.1 (e2.trans Rat.intCast_zero.symm)
  · rintro rfl; simp only [Rat.intCast_zero]; grind
theorem divQ_fit {n1 d1 n2 d2 : Int} (h1 : okQ n1 d1 = true) (h2 : okQ n2 d2 = true) (h0 : toR (n2, d2) ≠ 0) : divQ n1 d1 n2 d2 = fitR (toR (n1, d1) / toR (n2, d2)) := by
  have a := okQ_bd h1
  have b := okQ_bd h2
  have hn : n2 ≠ 0 := fun e => h0 ((num_zero h2).2 e)
  have hn2 : (n2 : Rat) ≠ 0 := fun e => hn (Rat.intCast_inj.1 (e.trans Rat.intCast_zero.symm))
  unfold divQ
  rw [if_pos ⟨by rw [h1, h2]; rfl, hn⟩, lowQ_fit _ _ (Int.mul_ne_zero (by omega) (by omega))]
  congr 1
  have e1 := den_ne h1
  have e2 := den_ne h2
  simp only [toR, Rat.intCast_mul]
  grind
theorem divQ_zero {n1 d1 n2 d2 : Int} (h2 : okQ n2 d2 = true) (h0 : toR (n2, d2) = 0) : divQ n1 d1 n2 d2 = (0, 0, false) := by
  have hn : n2 = 0 := (num_zero h2).1 h0
  unfold divQ
  rw [if_neg (by intro h; exact h.2 hn)]

theorem lessQ_iff {n1 d1 n2 d2 : Int} (h1 : 1 ≤ d1) (h2 : 1 ≤ d2) : lessQ n1 d1 n2 d2 = true ↔ toR (n1, d1) < toR (n2, d2) := by
  have e1 : (0 : Rat) < (d1 : Rat) := by rw [← Rat.intCast_zero]; exact Rat.intCast_lt_intCast.2 (by omega)
  have e2 : (0 : Rat) < (d2 : Rat) := by rw [← Rat.intCast_zero]; exact Rat.intCast_lt_intCast.2 (by omega)
  simp only [lessQ, decide_eq_true_eq, toR]
  rw [Rat.div_lt_iff e1, ← Rat.intCast_lt_intCast, Rat.intCast_mul, Rat.intCast_mul]
  have : (n2 : Rat) / d2 * d1 = (n2 * d1) / d2 := by grind
  rw [this, Rat.lt_div_iff e2]
theorem cmpQ_lt {n1 d1 n2 d2 : Int} (h1 : 1 ≤ d1) (h2 : 1 ≤ d2) : cmpQ n1 d1 n2 d2 < 0 ↔ toR (n1, d1) < toR (n2, d2) := by
  rw [← lessQ_iff h1 h2, lessQ_cmp]; simp
theorem cmpQ_swap (n1 d1 n2 d2 : Int) : cmpQ n2 d2 n1 d1 = - cmpQ n1 d1 n2 d2 := by
  unfold cmpQ; split <;> split <;> first | omega | (split <;> omega)
theorem cmpQ_gt {n1 d1 n2 d2 : Int} (h1 : 1 ≤ d1) (h2 : 1 ≤ d2) : 0 < cmpQ n1 d1 n2 d2 ↔ toR (n2, d2) < toR (n1, d1) := by
  rw [← cmpQ_lt h2 h1, cmpQ_swap n1 d1]; omega
theorem cmpQ_eq {n1 d1 n2 d2 : Int} (h1 : 1 ≤ d1) (h2 : 1 ≤ d2) : cmpQ n1 d1 n2 d2 = 0 ↔ toR (n1, d1) = toR (n2, d2) := by
  have a := cmpQ_lt (n1 := n1) (n2 := n2) h1 h2
  have b := cmpQ_gt (n1 := n1) (n2 := n2) h1 h2
  constructor
  · intro h
    have h3 : ¬ toR (n1, d1) < toR (n2, d2) := fun hh => by have := a.2 hh; omega
    have h4 : ¬ toR (n2, d2) < toR (n1, d1) := fun hh => by have := b.2 hh; omega
    grind
  · intro h
    have h3 : ¬ cmpQ n1 d1 n2 d2 < 0 := fun hh => by have := a.1 hh; grind
    have h4 : ¬ 0 < cmpQ n1 d1 n2 d2 := fun hh => by have := b.1 hh; grind
    omega
theorem cmpQ_abs (n1 d1 n2 d2 : Int) : cmpQ n1 d1 n2 d2 = -1 ∨ cmpQ n1 d1 n2 d2 = 0 ∨ cmpQ n1 d1 n2 d2 = 1 := by
  unfold cmpQ; split
  · simp
  · split <;> simp

theorem unitQ_iff {n d : Int} : unitQ n d = true ↔ okQ n d = true ∧ 0 ≤ toR (n, d) ∧ toR (n, d) ≤ 1 := by
  constructor
  · intro h
    have h1 := unitQ_ok h
    have h2 := unitQ_bd h
    have h3 := den_pos h1
    refine ⟨h1, ?_, ?_⟩
    · unfold toR
      have : (0 : Rat) ≤ (n : Rat) := by rw [← Rat.intCast_zero]; exact Rat.intCast_le_intCast.2 (by omega)
      rw [Rat.div_def]
      exact Rat.mul_nonneg this (Rat.le_of_lt (Rat.inv_pos.2 h3))
    · unfold toR
      have : (n : Rat) ≤ (d : Rat) := Rat.intCast_le_intCast.2 (by omega)
      rw [← Rat.not_lt, Rat.lt_div_iff h3]
      grind
  · rintro ⟨h1, h2, h3⟩
    have h4 := den_pos h1
    have e : toR (n, d) * d = n := by unfold toR; have := den_ne h1; simp only; grind
    simp only [unitQ, Bool.and_eq_true, decide_eq_true_eq]
    refine ⟨h1, ?_, ?_⟩
    · apply Rat.intCast_le_intCast.1
      rw [← e, Rat.intCast_zero]; exact Rat.mul_nonneg h2 (Rat.le_of_lt h4)
    · apply Rat.intCast_le_intCast.1
      rw [← e]
      have := Rat.mul_le_mul_of_nonneg_right h3 (Rat.le_of_lt h4)
      grind


end Go.Proofs.Ytkdhhopfefhdjaa
