/- Plain: the fixed points of a map and the fractions before a value. -/
import Derived.Test.YtkeajfgcjmhmiaaRis
namespace Go.Proofs.Ytkeajfgcjmhmiaa
open Go.RowKit

/-- All pieces. -/
def pcs (ps : List Pt) : List (Pt × Pt) := ps.zip ps.tail
theorem pcs_len (ps : List Pt) : (pcs ps).length = ps.length - 1 := by
  unfold pcs; rw [List.length_zip, List.length_tail]; omega
theorem pcs_get {ps : List Pt} {i : Nat} {p q : Pt} (hp : ps[i]? = some p) (hq : ps[i + 1]? = some q) : (pcs ps)[i]? = some (p, q) := by
  unfold pcs
  rw [List.getElem?_zip_eq_some, List.getElem?_tail]
  exact ⟨hp, hq⟩
theorem mem_pcs {ps : List Pt} {s : Pt × Pt} : s ∈ pcs ps ↔ ∃ i : Nat, ps[i]? = some s.1 ∧ ps[i + 1]? = some s.2 := by
  constructor
  · intro h
    obtain ⟨i, hi⟩ := List.getElem?_of_mem h
    unfold pcs at hi
    rw [List.getElem?_zip_eq_some, List.getElem?_tail] at hi
    exact ⟨i, hi⟩
  · rintro ⟨i, h1, h2⟩
    exact List.mem_of_getElem? (pcs_get h1 h2)
/-- In a list of two or more, every member is an end of a piece. -/
theorem pcs_ends {ps : List Pt} (h : 2 ≤ ps.length) (p : Pt) : p ∈ ps ↔ ∃ s ∈ pcs ps, p = s.1 ∨ p = s.2 := by
  constructor
  · intro hp
    obtain ⟨i, hi⟩ := List.getElem?_of_mem hp
    have hl := (List.getElem?_eq_some_iff.1 hi).1
    by_cases h0 : i + 1 < ps.length
    · exact ⟨(p, ps[i + 1]), mem_pcs.2 ⟨i, hi, List.getElem?_eq_getElem h0⟩, Or.inl rfl⟩
    · refine ⟨(ps[i - 1], p), mem_pcs.2 ⟨i - 1, List.getElem?_eq_getElem (by omega), ?_⟩, Or.inr rfl⟩
      rw [show i - 1 + 1 = i by omega]; exact hi
  · rintro ⟨s, hs, h⟩
    obtain ⟨i, h1, h2⟩ := mem_pcs.1 hs
    rcases h with rfl | rfl
    · exact List.mem_of_getElem? h1
    · exact List.mem_of_getElem? h2

theorem toR_mul {a b : Int} (h : okQ a b = true) : toR (a, b) * (b : Rat) = (a : Rat) := by
  unfold toR; exact Rat.div_mul_cancel (den_ne h)

theorem fit_pos {r : Rat} {N D : Int} (hr : r * (D : Rat) = (N : Rat)) (h1 : 1 ≤ D) (h2 : D ≤ 1000000000) (h3 : -1000000000 ≤ N ∧ N ≤ 1000000000) : ∃ a b, fitR r = (a, b, true) ∧ okQ a b = true ∧ toR (a, b) = r := by
  have hD : (D : Rat) ≠ 0 := by
    intro h
    have := Rat.intCast_eq_zero_iff.1 h
    omega
  have e : toR (N, D) = r := by
    unfold toR
    show (N : Rat) / (D : Rat) = r
    rw [← hr]
    exact Rat.mul_div_cancel hD
  obtain ⟨a, b, e1, -, -, -, -, ho⟩ := lowQ_fits h1 h2 h3.1 h3.2
  rw [lowQ_fit N D (by omega), e] at e1
  exact ⟨a, b, e1, ho, (fitR_yes e1).1⟩
theorem fit_of {r : Rat} {N D : Int} (hr : r * (D : Rat) = (N : Rat)) (h1 : D ≠ 0) (h2 : -1000000000 ≤ D ∧ D ≤ 1000000000) (h3 : -1000000000 ≤ N ∧ N ≤ 1000000000) : ∃ a b, fitR r = (a, b, true) ∧ okQ a b = true ∧ toR (a, b) = r := by
  rcases Int.lt_or_lt_of_ne h1 with h | h
  · refine fit_pos (N := -N) (D := -D) ?_ (by omega) (by omega) (by omega)
    rw [Rat.intCast_neg, Rat.intCast_neg, ← hr]
    grind
  · exact fit_pos hr (by omega) (by omega) h3

theorem lowQ_sub {n1 d1 n2 d2 : Int} (h1 : okQ n1 d1 = true) (h2 : okQ n2 d2 = true) : lowQ (n1 * d2 - n2 * d1) (d1 * d2) = fitR (toR (n1, d1) - toR (n2, d2)) := by
  rw [← subQ_fit h1 h2]; simp [subQ, h1, h2]
theorem lowQ_mul {n1 d1 n2 d2 : Int} (h1 : okQ n1 d1 = true) (h2 : okQ n2 d2 = true) : lowQ (n1 * n2) (d1 * d2) = fitR (toR (n1, d1) * toR (n2, d2)) := by
  rw [← mulQ_fit h1 h2]; simp [mulQ, h1, h2]
theorem lowQ_div {n1 d1 n2 d2 : Int} (h1 : okQ n1 d1 = true) (h2 : okQ n2 d2 = true) (h0 : n2 ≠ 0) : lowQ (n1 * d2) (d1 * n2) = fitR (toR (n1, d1) / toR (n2, d2)) := by
  rw [← divQ_fit h1 h2 (fun h => h0 ((num_zero h2).1 h))]; simp [divQ, h1, h2, h0]

def absI (n : Int) : Int := if n < 0 then -n else n
/-- The fraction between two points whose value is itself, as the program has it. -/
def betw1 (p q : Pt) : Int := absI (p.1.1 * p.2.2 - p.2.1 * p.1.2) * q.1.2 * q.2.2
def betw2 (p q : Pt) : Int := absI (q.1.1 * q.2.2 - q.2.1 * q.1.2) * p.1.2 * p.2.2
def betwQ (p q : Pt) : Int × Int × Bool := lowQ (p.1.1 * q.1.2 * betw2 p q + q.1.1 * p.1.2 * betw1 p q) (p.1.2 * q.1.2 * (betw1 p q + betw2 p q))

/-- Coordinates. -/
def CoP (p : Pt) : Prop := coordQ p.1.1 p.1.2 = true ∧ coordQ p.2.1 p.2.2 = true

/-- All that the reference makes of a piece whose ends lie on both sides of the diagonal. -/
structure Betw (p q : Pt) (a1 a2 b1 b2 t1 t2 f1 f2 u1 u2 m1 m2 : Int) : Prop where
  a : lowQ (p.2.1 * q.1.1) (p.2.2 * q.1.2) = (a1, a2, true)
  b : lowQ (q.2.1 * p.1.1) (q.2.2 * p.1.2) = (b1, b2, true)
  t : lowQ (a1 * b2 - b1 * a2) (a2 * b2) = (t1, t2, true)
  f : lowQ (q.1.1 * p.1.2 - p.1.1 * q.1.2) (q.1.2 * p.1.2) = (f1, f2, true)
  u : lowQ (q.2.1 * p.2.2 - p.2.1 * q.2.2) (q.2.2 * p.2.2) = (u1, u2, true)
  m : lowQ (f1 * u2 - u1 * f2) (f2 * u2) = (m1, m2, true)
  x : lowQ (t1 * m2) (t2 * m1) = ((betwQ p q).1, (betwQ p q).2.1, true)
  ok : okQ (betwQ p q).1 (betwQ p q).2.1 = true
  flag : (betwQ p q).2.2 = true
  sa : Sm a1 ∧ Sm a2
  sb : Sm b1 ∧ Sm b2
  st : Sm t1 ∧ Sm t2
  sf : Sm f1 ∧ Sm f2
  su : Sm u1 ∧ Sm u2
  sm : Sm m1 ∧ Sm m2

theorem bd2 {a b : Int} {m k : Int} (h1 : -m ≤ a ∧ a ≤ m) (h2 : -k ≤ b ∧ b ≤ k) (hm : 0 ≤ m) : -(m * k) ≤ a * b ∧ a * b ≤ m * k := by
  have hk : 0 ≤ k := by omega
  have e1 : (a * b).natAbs ≤ (m * k).natAbs := by
    rw [Int.natAbs_mul, Int.natAbs_mul]
    exact Nat.mul_le_mul (by omega) (by omega)
  have e2 : 0 ≤ m * k := Int.mul_nonneg hm hk
  omega

/-- Off the diagonal on both sides. -/
def crossF (p q : Pt) : Bool := decide (cmpQ p.1.1 p.1.2 p.2.1 p.2.2 * cmpQ q.1.1 q.1.2 q.2.1 q.2.2 < 0)
theorem sgn_mul {a b : Int} (ha : a = -1 ∨ a = 0 ∨ a = 1) (hb : b = -1 ∨ b = 0 ∨ b = 1) : a * b < 0 ↔ (a < 0 ∧ 0 < b) ∨ (0 < a ∧ b < 0) := by
  rcases ha with rfl | rfl | rfl <;> rcases hb with rfl | rfl | rfl <;> decide
theorem crossF_iff {p q : Pt} (hp : CoP p) (hq : CoP q) : crossF p q = true ↔ (toR p.1 < toR p.2 ∧ toR q.2 < toR q.1) ∨ (toR p.2 < toR p.1 ∧ toR q.1 < toR q.2) := by
  have k1 := okQ_bd (unitQ_ok (coordQ_unit hp.1))
  have k2 := okQ_bd (unitQ_ok (coordQ_unit hp.2))
  have k3 := okQ_bd (unitQ_ok (coordQ_unit hq.1))
  have k4 := okQ_bd (unitQ_ok (coordQ_unit hq.2))
  unfold crossF
  rw [decide_eq_true_iff, sgn_mul (cmpQ_abs ..) (cmpQ_abs ..), cmpQ_lt k1.1 k2.1, cmpQ_gt k3.1 k4.1, cmpQ_gt k1.1 k2.1, cmpQ_lt k3.1 k4.1]

theorem betw_is {p q : Pt} (hp : CoP p) (hq : CoP q) (hc : crossF p q = true) : ∃ a1 a2 b1 b2 t1 t2 f1 f2 u1 u2 m1 m2, Betw p q a1 a2 b1 b2 t1 t2 f1 f2 u1 u2 m1 m2 := by
  have hc := (crossF_iff hp hq).1 hc
  obtain ⟨⟨a, b⟩, c, d⟩ := p
  obtain ⟨⟨e, f⟩, g, h⟩ := q
  obtain ⟨hp1, hp2⟩ := hp
  obtain ⟨hq1, hq2⟩ := hq
  simp only at *
  have k1 := unitQ_ok (coordQ_unit hp1)
  have k2 := unitQ_ok (coordQ_unit hp2)
  have k3 := unitQ_ok (coordQ_unit hq1)
  have k4 := unitQ_ok (coordQ_unit hq2)
  have n1 := coordQ_bd hp1
  have n2 := coordQ_bd hp2
  have n3 := coordQ_bd hq1
  have n4 := coordQ_bd hq2
  have r1 := toR_mul k1
  have r2 := toR_mul k2
  have r3 := toR_mul k3
  have r4 := toR_mul k4
  have d1 := den_pos k1
  have d2 := den_pos k2
  have d3 := den_pos k3
  have d4 := den_pos k4
  generalize hP : toR (a, b) = P at *
  generalize hR : toR (c, d) = R at *
  generalize hS : toR (e, f) = S at *
  generalize hT : toR (g, h) = T at *
  have bdf : 1 ≤ d * f ∧ d * f ≤ 10000 := by
    have := Int.mul_pos (show (0 : Int) < d by omega) (show (0 : Int) < f by omega)
    have := bd2 (m := 100) (k := 100) (show -100 ≤ d ∧ d ≤ 100 by omega) (show -100 ≤ f ∧ f ≤ 100 by omega) (by omega)
    omega
  have bhb : 1 ≤ h * b ∧ h * b ≤ 10000 := by
    have := Int.mul_pos (show (0 : Int) < h by omega) (show (0 : Int) < b by omega)
    have := bd2 (m := 100) (k := 100) (show -100 ≤ h ∧ h ≤ 100 by omega) (show -100 ≤ b ∧ b ≤ 100 by omega) (by omega)
    omega
  have bfb : 1 ≤ f * b ∧ f * b ≤ 10000 := by
    have := Int.mul_pos (show (0 : Int) < f by omega) (show (0 : Int) < b by omega)
    have := bd2 (m := 100) (k := 100) (show -100 ≤ f ∧ f ≤ 100 by omega) (show -100 ≤ b ∧ b ≤ 100 by omega) (by omega)
    omega
  have bhd : 1 ≤ h * d ∧ h * d ≤ 10000 := by
    have := Int.mul_pos (show (0 : Int) < h by omega) (show (0 : Int) < d by omega)
    have := bd2 (m := 100) (k := 100) (show -100 ≤ h ∧ h ≤ 100 by omega) (show -100 ≤ d ∧ d ≤ 100 by omega) (by omega)
    omega
  have bce : -10000 ≤ c * e ∧ c * e ≤ 10000 := bd2 (m := 100) (k := 100) (by omega) (by omega) (by omega)
  have bga : -10000 ≤ g * a ∧ g * a ≤ 10000 := bd2 (m := 100) (k := 100) (by omega) (by omega) (by omega)
  have bad : 0 ≤ a * d ∧ a * d ≤ 10000 := ⟨Int.mul_nonneg (by omega) (by omega), (bd2 (m := 100) (k := 100) (by omega) (by omega) (by omega)).2⟩
  have bcb : 0 ≤ c * b ∧ c * b ≤ 10000 := ⟨Int.mul_nonneg (by omega) (by omega), (bd2 (m := 100) (k := 100) (by omega) (by omega) (by omega)).2⟩
  have beh : 0 ≤ e * h ∧ e * h ≤ 10000 := ⟨Int.mul_nonneg (by omega) (by omega), (bd2 (m := 100) (k := 100) (by omega) (by omega) (by omega)).2⟩
  have bgf : 0 ≤ g * f ∧ g * f ≤ 10000 := ⟨Int.mul_nonneg (by omega) (by omega), (bd2 (m := 100) (k := 100) (by omega) (by omega) (by omega)).2⟩
  have beb : 0 ≤ e * b ∧ e * b ≤ 10000 := ⟨Int.mul_nonneg (by omega) (by omega), (bd2 (m := 100) (k := 100) (by omega) (by omega) (by omega)).2⟩
  have baf : 0 ≤ a * f ∧ a * f ≤ 10000 := ⟨Int.mul_nonneg (by omega) (by omega), (bd2 (m := 100) (k := 100) (by omega) (by omega) (by omega)).2⟩
  have bgd : 0 ≤ g * d ∧ g * d ≤ 10000 := ⟨Int.mul_nonneg (by omega) (by omega), (bd2 (m := 100) (k := 100) (by omega) (by omega) (by omega)).2⟩
  have bch : 0 ≤ c * h ∧ c * h ≤ 10000 := ⟨Int.mul_nonneg (by omega) (by omega), (bd2 (m := 100) (k := 100) (by omega) (by omega) (by omega)).2⟩
  -- the reference's steps
  obtain ⟨a1, a2, ea, oa, ra⟩ := fit_pos (r := R * S) (N := c * e) (D := d * f) (by simp only [Rat.intCast_mul]; grind) (by omega) (by omega) (by omega)
  obtain ⟨b1, b2, eb, ob, rb⟩ := fit_pos (r := T * P) (N := g * a) (D := h * b) (by simp only [Rat.intCast_mul]; grind) (by omega) (by omega) (by omega)
  have bD : 1 ≤ (d * f) * (h * b) ∧ (d * f) * (h * b) ≤ 100000000 := by
    have := Int.mul_pos (show (0 : Int) < d * f by omega) (show (0 : Int) < h * b by omega)
    have := bd2 (m := 10000) (k := 10000) (show -10000 ≤ d * f ∧ d * f ≤ 10000 by omega) (show -10000 ≤ h * b ∧ h * b ≤ 10000 by omega) (by omega)
    omega
  have bN1 := bd2 (m := 10000) (k := 10000) bce (show -10000 ≤ h * b ∧ h * b ≤ 10000 by omega) (by omega)
  have bN2 := bd2 (m := 10000) (k := 10000) bga (show -10000 ≤ d * f ∧ d * f ≤ 10000 by omega) (by omega)
  obtain ⟨t1, t2, et, ot, rt⟩ := fit_pos (r := R * S - T * P) (N := (c * e) * (h * b) - (g * a) * (d * f)) (D := (d * f) * (h * b)) (by simp only [Rat.intCast_mul, Rat.intCast_sub]; grind) (by omega) (by omega) (by omega)
  obtain ⟨f1, f2, ef, of', rf⟩ := fit_pos (r := S - P) (N := e * b - a * f) (D := f * b) (by simp only [Rat.intCast_mul, Rat.intCast_sub]; grind) (by omega) (by omega) (by omega)
  obtain ⟨u1, u2, eu, ou, ru⟩ := fit_pos (r := T - R) (N := g * d - c * h) (D := h * d) (by simp only [Rat.intCast_mul, Rat.intCast_sub]; grind) (by omega) (by omega) (by omega)
  have bM1 := bd2 (m := 10000) (k := 10000) (show -10000 ≤ e * b - a * f ∧ e * b - a * f ≤ 10000 by omega) (show -10000 ≤ h * d ∧ h * d ≤ 10000 by omega) (by omega)
  have bM2 := bd2 (m := 10000) (k := 10000) (show -10000 ≤ g * d - c * h ∧ g * d - c * h ≤ 10000 by omega) (show -10000 ≤ f * b ∧ f * b ≤ 10000 by omega) (by omega)
  have hDD : (f * b) * (h * d) = (d * f) * (h * b) := by grind
  obtain ⟨m1, m2, em, om, rm⟩ := fit_pos (r := (S - P) - (T - R)) (N := (e * b - a * f) * (h * d) - (g * d - c * h) * (f * b)) (D := (f * b) * (h * d)) (by simp only [Rat.intCast_mul, Rat.intCast_sub]; grind) (by omega) (by omega) (by omega)
  have hM : (S - P) - (T - R) ≠ 0 := by grind
  have hMI : (e * b - a * f) * (h * d) - (g * d - c * h) * (f * b) ≠ 0 := by
    intro h0
    apply hM
    have hz : ((S - P) - (T - R)) * ((((f * b) * (h * d) : Int)) : Rat) = (((e * b - a * f) * (h * d) - (g * d - c * h) * (f * b) : Int) : Rat) := by simp only [Rat.intCast_mul, Rat.intCast_sub]; grind
    rw [h0] at hz
    have hne : ((((f * b) * (h * d) : Int)) : Rat) ≠ 0 := by
      intro h1
      have := Rat.intCast_eq_zero_iff.1 h1
      omega
    rcases Rat.mul_eq_zero.1 hz with h1 | h1
    · exact h1
    · exact absurd h1 hne
  obtain ⟨x1, x2, ex, ox, rx⟩ := fit_of (r := (R * S - T * P) / ((S - P) - (T - R))) (N := (c * e) * (h * b) - (g * a) * (d * f)) (D := (e * b - a * f) * (h * d) - (g * d - c * h) * (f * b)) (by
    have h1 : (R * S - T * P) / ((S - P) - (T - R)) * ((S - P) - (T - R)) = R * S - T * P := Rat.div_mul_cancel hM
    generalize (R * S - T * P) / ((S - P) - (T - R)) = X at h1
    simp only [Rat.intCast_mul, Rat.intCast_sub]
    rw [← r1, ← r2, ← r3, ← r4]
    grind) hMI (by omega) (by omega)
  -- the program's
  have hx : betwQ ((a, b), (c, d)) ((e, f), (g, h)) = (x1, x2, true) := by
    have hv : ∃ s : Rat, s ≠ 0 ∧ ((betw1 ((a, b), (c, d)) ((e, f), (g, h)) : Int) : Rat) = s * (R - P) * ((b : Rat) * d * f * h) ∧ ((betw2 ((a, b), (c, d)) ((e, f), (g, h)) : Int) : Rat) = s * (S - T) * ((b : Rat) * d * f * h) := by
      have l1 := lessQ_iff (n1 := a) (d1 := b) (n2 := c) (d2 := d) (by omega) (by omega)
      have l2 := lessQ_iff (n1 := c) (d1 := d) (n2 := a) (d2 := b) (by omega) (by omega)
      have l3 := lessQ_iff (n1 := e) (d1 := f) (n2 := g) (d2 := h) (by omega) (by omega)
      have l4 := lessQ_iff (n1 := g) (d1 := h) (n2 := e) (d2 := f) (by omega) (by omega)
      rw [hP, hR] at l1
      rw [hP, hR] at l2
      rw [hS, hT] at l3
      rw [hS, hT] at l4
      simp only [lessQ, decide_eq_true_eq] at l1 l2 l3 l4
      rcases hc with ⟨h1, h2⟩ | ⟨h1, h2⟩
      · have i1 := l1.2 h1
        have i2 := l4.2 h2
        refine ⟨1, by decide, ?_, ?_⟩
        · simp only [betw1, absI]
          rw [if_pos (by omega)]
          simp only [Rat.intCast_mul, Rat.intCast_sub, Rat.intCast_neg]
          rw [← r1, ← r2]
          grind
        · simp only [betw2, absI]
          rw [if_neg (by omega)]
          simp only [Rat.intCast_mul, Rat.intCast_sub]
          rw [← r3, ← r4]
          grind
      · have i1 := l2.2 h1
        have i2 := l3.2 h2
        refine ⟨-1, by decide, ?_, ?_⟩
        · simp only [betw1, absI]
          rw [if_neg (by omega)]
          simp only [Rat.intCast_mul, Rat.intCast_sub]
          rw [← r1, ← r2]
          grind
        · simp only [betw2, absI]
          rw [if_pos (by omega)]
          simp only [Rat.intCast_mul, Rat.intCast_sub, Rat.intCast_neg]
          rw [← r3, ← r4]
          grind
    obtain ⟨s, hs0, v1, v2⟩ := hv
    have h1 : (R * S - T * P) / ((S - P) - (T - R)) * ((S - P) - (T - R)) = R * S - T * P := Rat.div_mul_cancel hM
    unfold betwQ
    generalize betw1 ((a, b), (c, d)) ((e, f), (g, h)) = B1 at *
    generalize betw2 ((a, b), (c, d)) ((e, f), (g, h)) = B2 at *
    generalize (R * S - T * P) / ((S - P) - (T - R)) = X at *
    have eD : ((b * f * (B1 + B2) : Int) : Rat) = (s * ((b : Rat) * f * ((b : Rat) * d * f * h))) * ((S - P) - (T - R)) := by
      simp only [Rat.intCast_mul, Rat.intCast_add, v1, v2]
      grind
    have eN : ((a * f * B2 + e * b * B1 : Int) : Rat) = (s * ((b : Rat) * f * ((b : Rat) * d * f * h))) * (R * S - T * P) := by
      simp only [Rat.intCast_mul, Rat.intCast_add, v1, v2]
      rw [← r1, ← r3]
      grind
    have g1 : (b : Rat) ≠ 0 := den_ne k1
    have g2 : (d : Rat) ≠ 0 := den_ne k2
    have g3 : (f : Rat) ≠ 0 := den_ne k3
    have g4 : (h : Rat) ≠ 0 := den_ne k4
    have hne : ∀ x y : Rat, x ≠ 0 → y ≠ 0 → x * y ≠ 0 := fun x y hx hy h => by
      rcases Rat.mul_eq_zero.1 h with h | h
      · exact hx h
      · exact hy h
    have hDR : ((b * f * (B1 + B2) : Int) : Rat) ≠ 0 := by
      rw [eD]
      exact hne _ _ (hne _ _ hs0 (hne _ _ (hne _ _ g1 g3) (hne _ _ (hne _ _ (hne _ _ g1 g2) g3) g4))) hM
    have hDI : b * f * (B1 + B2) ≠ 0 := fun h0 => hDR (by rw [h0]; rfl)
    have hX : toR (a * f * B2 + e * b * B1, b * f * (B1 + B2)) = X := by
      unfold toR
      show ((a * f * B2 + e * b * B1 : Int) : Rat) / ((b * f * (B1 + B2) : Int) : Rat) = X
      have : X * ((b * f * (B1 + B2) : Int) : Rat) = ((a * f * B2 + e * b * B1 : Int) : Rat) := by
        rw [eD, eN, ← h1]
        grind
      rw [← this]
      exact Rat.mul_div_cancel hDR
    show lowQ (a * f * B2 + e * b * B1) (b * f * (B1 + B2)) = _
    rw [lowQ_fit _ _ hDI, hX]
    exact ex
  refine ⟨a1, a2, b1, b2, t1, t2, f1, f2, u1, u2, m1, m2, ?_⟩
  have m0 : m1 ≠ 0 := by
    intro h0
    have := (num_zero om).2 h0
    rw [rm] at this
    exact hM this
  constructor
  · rw [lowQ_mul k2 k3, hR, hS]; exact ea
  · rw [lowQ_mul k4 k1, hT, hP]; exact eb
  · rw [lowQ_sub oa ob, ra, rb]; exact et
  · rw [lowQ_sub k3 k1, hS, hP]; exact ef
  · rw [lowQ_sub k4 k2, hT, hR]; exact eu
  · rw [lowQ_sub of' ou, rf, ru]; exact em
  · rw [lowQ_div ot om m0, rt, rm, hx]; exact ex
  · rw [hx]; exact ox
  · rw [hx]
  · exact Sm.of_ok oa
  · exact Sm.of_ok ob
  · exact Sm.of_ok ot
  · exact Sm.of_ok of'
  · exact Sm.of_ok ou
  · exact Sm.of_ok om

/-- The fixed points of a piece that are told. -/
def fixPc (s : Pt × Pt) : List Q :=
  (if s.1.1 = s.1.2 then [s.1.1] else []) ++ (if s.2.1 = s.2.2 then [s.2.1] else []) ++ (if crossF s.1 s.2 = true then [((betwQ s.1 s.2).1, (betwQ s.1 s.2).2.1)] else [])
def fixQ (ps : List Pt) : List Q := setQ ((pcs ps).flatMap fixPc)
/-- .. as the program lists them. -/
def fixA (ps : List Pt) : List Q := (ps.filter (fun p => decide (p.1 = p.2))).map (·.1)
def fixB (cs : List (Pt × Pt)) : List Q := (cs.filter (fun s => crossF s.1 s.2)).map (fun s => ((betwQ s.1 s.2).1, (betwQ s.1 s.2).2.1))
theorem okMap_pc {ps : List Pt} (h : okMap ps = true) {s : Pt × Pt} (hs : s ∈ pcs ps) : CoP s.1 ∧ CoP s.2 := by
  obtain ⟨i, h1, h2⟩ := mem_pcs.1 hs
  exact ⟨okMap_coord h h1, okMap_coord h h2⟩
theorem fixPc_ok {ps : List Pt} (h : okMap ps = true) : OkL ((pcs ps).flatMap fixPc) := fun x hx => by
  obtain ⟨s, hs, hm⟩ := List.mem_flatMap.1 hx
  obtain ⟨c1, c2⟩ := okMap_pc h hs
  unfold fixPc at hm
  rcases List.mem_append.1 hm with hm | hm
  · rcases List.mem_append.1 hm with hm | hm
    · split at hm
      · obtain rfl := List.mem_singleton.1 hm
        exact unitQ_ok (coordQ_unit c1.1)
      · simp at hm
    · split at hm
      · obtain rfl := List.mem_singleton.1 hm
        exact unitQ_ok (coordQ_unit c2.1)
      · simp at hm
  · split at hm
    · rename_i hc
      obtain rfl := List.mem_singleton.1 hm
      obtain ⟨_, _, _, _, _, _, _, _, _, _, _, _, hb⟩ := betw_is c1 c2 hc
      exact hb.ok
    · simp at hm
theorem fix_mem {ps : List Pt} (h : 2 ≤ ps.length) (x : Q) : x ∈ fixA ps ++ fixB (pcs ps) ↔ x ∈ (pcs ps).flatMap fixPc := by
  rw [List.mem_append, List.mem_flatMap]
  unfold fixA fixB fixPc
  simp only [List.mem_map, List.mem_filter, decide_eq_true_eq, List.mem_append]
  constructor
  · rintro (⟨p, ⟨hp, he⟩, rfl⟩ | ⟨s, ⟨hs, hc⟩, rfl⟩)
    · obtain ⟨s, hs, rfl | rfl⟩ := (pcs_ends h p).1 hp
      · exact ⟨s, hs, Or.inl (Or.inl (by rw [if_pos he]; simp))⟩
      · exact ⟨s, hs, Or.inl (Or.inr (by rw [if_pos he]; simp))⟩
    · exact ⟨s, hs, Or.inr (by rw [if_pos hc]; simp)⟩
  · rintro ⟨s, hs, (hm | hm) | hm⟩
    · split at hm
      · rename_i he
        exact Or.inl ⟨s.1, ⟨(pcs_ends h s.1).2 ⟨s, hs, Or.inl rfl⟩, he⟩, (List.mem_singleton.1 hm).symm⟩
      · simp at hm
    · split at hm
      · rename_i he
        exact Or.inl ⟨s.2, ⟨(pcs_ends h s.2).2 ⟨s, hs, Or.inr rfl⟩, he⟩, (List.mem_singleton.1 hm).symm⟩
      · simp at hm
    · split at hm
      · rename_i hc
        exact Or.inr ⟨s, ⟨hs, hc⟩, (List.mem_singleton.1 hm).symm⟩
      · simp at hm
theorem fix_ok {ps : List Pt} (h : okMap ps = true) (h2 : 2 ≤ ps.length) : OkL (fixA ps ++ fixB (pcs ps)) := fun x hx => fixPc_ok h x ((fix_mem h2 x).1 hx)
theorem fix_set {ps : List Pt} (h : okMap ps = true) (h2 : 2 ≤ ps.length) : setQ (fixA ps ++ fixB (pcs ps)) = fixQ ps :=
  setQ_of (fixPc_ok h) (setQ_up (fix_ok h h2)) (fun x => by rw [setQ_mem, fix_mem h2])

end Go.Proofs.Ytkeajfgcjmhmiaa
