/- Plain: fractions as rational numbers. No program in sight. · Plain: the value of a map at a fraction. · The reference's slope and line. · The reference's value on a line. · The reference's piece and value. · The value of a map: the reference's imAt, the program's value. · The program's value, and ValueAt of both. · ValueAt of both. -/
import Derived.Test.YtkeajfgcjmhmiaaCalcs
import Derived.Test.YtkeajfgcjmhmiaaFrac
import Derived.Test.YtkeajfgcjmhmiaaMaps
namespace Go.Proofs.Ytkeajfgcjmhmiaa

/-- The rational number of a numerator and a denominator. -/
def toR (q : Q) : Rat := (q.1 : Rat) / (q.2 : Rat)
/-- A rational number as a fraction, if it is small enough. -/
def fitR (r : Rat) : Int × Int × Bool := if okQ r.num r.den = true then (r.num, (r.den : Int), true) else (0, 0, false)

theorem toR_divInt (q : Q) : toR q = Rat.divInt q.1 q.2 := (Rat.divInt_eq_div ..).symm

theorem lowQ_fit (N D : Int) (h : D ≠ 0) : lowQ N D = fitR (toR (N, D)) := by
  have e1 : N.tdiv (cutQ N D) = (toR (N, D)).num := by
    rw [toR_divInt, Rat.num_divInt, (tdiv_cutQ N D).1]
    unfold cutQ
    rw [Int.gcd_comm D N]
    split
    · rename_i h1
      rw [Int.sign_eq_neg_one_of_neg h1, Int.ediv_neg, Int.neg_mul, Int.one_mul, Int.neg_ediv_of_dvd (Int.gcd_dvd_left ..)]
    · rw [Int.sign_eq_one_of_pos (by omega), Int.one_mul]
  have e2 : D.tdiv (cutQ N D) = ((toR (N, D)).den : Int) := by
    rw [toR_divInt, Rat.den_divInt, if_neg h, (tdiv_cutQ N D).2]
    unfold cutQ
    rw [Int.gcd_comm D N]
    rw [Int.natCast_ediv]
    split
    · rename_i h1
      rw [Int.ediv_neg, ← Int.neg_ediv_of_dvd (Int.gcd_dvd_right ..), Int.ofNat_natAbs_of_nonpos (by omega)]
    · rw [Int.natAbs_of_nonneg (by omega)]
  unfold lowQ fitR
  rw [e1, e2]

theorem toR_num {a b : Int} (h : okQ a b = true) : (toR (a, b)).num = a ∧ ((toR (a, b)).den : Int) = b := by
  have h1 := okQ_bd h
  have h2 := okQ_gcd h
  rw [toR_divInt]
  constructor
  · rw [Rat.num_divInt, Int.gcd_comm, h2, Int.sign_eq_one_of_pos (by omega)]; simp
  · rw [Rat.den_divInt, if_neg (by omega), Int.gcd_comm, h2]; simp; omega
theorem fitR_toR {a b : Int} (h : okQ a b = true) : fitR (toR (a, b)) = (a, b, true) := by
  obtain ⟨e1, e2⟩ := toR_num h
  unfold fitR; rw [e1, e2, if_pos h]
theorem toR_inj {p q : Q} (hp : okQ p.1 p.2 = true) (hq : okQ q.1 q.2 = true) (h : toR p = toR q) : p = q := by
  obtain ⟨a, b⟩ := p
  obtain ⟨c, d⟩ := q
  obtain ⟨e1, e2⟩ := toR_num hp
  obtain ⟨f1, f2⟩ := toR_num hq
  rw [h] at e1 e2
  simp only at *
  rw [← e1, ← e2, f1, f2]
theorem fitR_yes {r : Rat} {a b : Int} (h : fitR r = (a, b, true)) : toR (a, b) = r ∧ okQ a b = true := by
  unfold fitR at h
  split at h
  · rename_i hk
    simp only [Prod.mk.injEq, and_true] at h
    obtain ⟨rfl, rfl⟩ := h
    refine ⟨?_, hk⟩
    show ((r.num : Rat) / ((r.den : Int) : Rat)) = r
    rw [← Rat.divInt_eq_div, Rat.num_divInt_den]
  · simp at h
theorem fitR_no {r : Rat} {a b : Int} (h : fitR r = (a, b, false)) : a = 0 ∧ b = 0 := by
  unfold fitR at h
  split at h
  · simp at h
  · simp only [Prod.mk.injEq, and_true] at h; exact ⟨h.1.symm, h.2.symm⟩
theorem fitR_iff {r : Rat} {a b : Int} : fitR r = (a, b, true) ↔ (toR (a, b) = r ∧ okQ a b = true) :=
  ⟨fitR_yes, fun ⟨h1, h2⟩ => by rw [← h1]; exact fitR_toR h2⟩

theorem den_ne {n d : Int} (h : okQ n d = true) : (d : Rat) ≠ 0 := by
  have := okQ_bd h
  intro e
  have : d = 0 := Rat.intCast_inj.1 (e.trans Rat.intCast_zero.symm)
  omega
theorem den_pos {n d : Int} (h : okQ n d = true) : (0 : Rat) < (d : Rat) := by
  have := okQ_bd h
  rw [← Rat.intCast_zero]; exact Rat.intCast_lt_intCast.2 (by omega)

theorem addQ_fit {n1 d1 n2 d2 : Int} (h1 : okQ n1 d1 = true) (h2 : okQ n2 d2 = true) : addQ n1 d1 n2 d2 = fitR (toR (n1, d1) + toR (n2, d2)) := by
  have a := okQ_bd h1
  have b := okQ_bd h2
  unfold addQ
  rw [if_pos (by rw [h1, h2]; rfl), lowQ_fit _ _ (Int.mul_ne_zero (by omega) (by omega))]
  congr 1
  have e1 := den_ne h1
  have e2 := den_ne h2
  simp only [toR, Rat.intCast_add, Rat.intCast_mul]
  grind
theorem subQ_fit {n1 d1 n2 d2 : Int} (h1 : okQ n1 d1 = true) (h2 : okQ n2 d2 = true) : subQ n1 d1 n2 d2 = fitR (toR (n1, d1) - toR (n2, d2)) := by
  have a := okQ_bd h1
  have b := okQ_bd h2
  unfold subQ
  rw [if_pos (by rw [h1, h2]; rfl), lowQ_fit _ _ (Int.mul_ne_zero (by omega) (by omega))]
  congr 1
  have e1 := den_ne h1
  have e2 := den_ne h2
  simp only [toR, Rat.intCast_sub, Rat.intCast_mul]
  grind
theorem mulQ_fit {n1 d1 n2 d2 : Int} (h1 : okQ n1 d1 = true) (h2 : okQ n2 d2 = true) : mulQ n1 d1 n2 d2 = fitR (toR (n1, d1) * toR (n2, d2)) := by
  have a := okQ_bd h1
  have b := okQ_bd h2
  unfold mulQ
  rw [if_pos (by rw [h1, h2]; rfl), lowQ_fit _ _ (Int.mul_ne_zero (by omega) (by omega))]
  congr 1
  have e1 := den_ne h1
  have e2 := den_ne h2
  simp only [toR, Rat.intCast_mul]
  grind
theorem midQ_fit {n1 d1 n2 d2 : Int} (h1 : okQ n1 d1 = true) (h2 : okQ n2 d2 = true) : midQ n1 d1 n2 d2 = fitR ((toR (n1, d1) + toR (n2, d2)) / 2) := by
  have a := okQ_bd h1
  have b := okQ_bd h2
  unfold midQ
  rw [if_pos (by rw [h1, h2]; rfl), lowQ_fit _ _ (Int.mul_ne_zero (Int.mul_ne_zero (by omega) (by omega)) (by omega))]
  congr 1
  have e1 := den_ne h1
  have e2 := den_ne h2
  simp only [toR, Rat.intCast_mul, Rat.intCast_add]
  have : ((2 : Int) : Rat) = 2 := rfl
  rw [this]
  grind
theorem num_zero {n d : Int} (h : okQ n d = true) : toR (n, d) = 0 ↔ n = 0 := by
  have := den_ne h
  unfold toR
  constructor
  · intro e
    have e2 : (n : Rat) = 0 := by simp only at e; grind
    exact Rat.intCast_inj.1 (e2.trans Rat.intCast_zero.symm)
  · rintro rfl; simp only [Rat.intCast_zero]; grind
theorem divQ_fit {n1 d1 n2 d2 : Int} (h1 : okQ n1 d1 = true) (h2 : okQ n2 d2 = true) (h0 : toR (n2, d2) ≠ 0) : divQ n1 d1 n2 d2 = fitR (toR (n1, d1) / toR (n2, d2)) := by
  have a := okQ_bd h1
  have b := okQ_bd h2
  have hn : n2 ≠ 0 := fun e => h0 ((num_zero h2).2 e)
  have hn2 : (n2 : Rat) ≠ 0 := fun e => hn (Rat.intCast_inj.1 (e.trans Rat.intCast_zero.symm))
  unfold divQ
  rw [if_pos ⟨by rw [h1, h2]; rfl, hn⟩, lowQ_fit _ _ (Int.mul_ne_zero (by omega) (by omega))]
  congr 1
  have e1 := den_ne h1
  have e2 := den_ne h2
  simp only [toR, Rat.intCast_mul]
  grind
theorem divQ_zero {n1 d1 n2 d2 : Int} (h2 : okQ n2 d2 = true) (h0 : toR (n2, d2) = 0) : divQ n1 d1 n2 d2 = (0, 0, false) := by
  have hn : n2 = 0 := (num_zero h2).1 h0
  unfold divQ
  rw [if_neg (by intro h; exact h.2 hn)]

theorem lessQ_iff {n1 d1 n2 d2 : Int} (h1 : 1 ≤ d1) (h2 : 1 ≤ d2) : lessQ n1 d1 n2 d2 = true ↔ toR (n1, d1) < toR (n2, d2) := by
  have e1 : (0 : Rat) < (d1 : Rat) := by rw [← Rat.intCast_zero]; exact Rat.intCast_lt_intCast.2 (by omega)
  have e2 : (0 : Rat) < (d2 : Rat) := by rw [← Rat.intCast_zero]; exact Rat.intCast_lt_intCast.2 (by omega)
  simp only [lessQ, decide_eq_true_eq, toR]
  rw [Rat.div_lt_iff e1, ← Rat.intCast_lt_intCast, Rat.intCast_mul, Rat.intCast_mul]
  have : (n2 : Rat) / d2 * d1 = (n2 * d1) / d2 := by grind
  rw [this, Rat.lt_div_iff e2]
theorem cmpQ_lt {n1 d1 n2 d2 : Int} (h1 : 1 ≤ d1) (h2 : 1 ≤ d2) : cmpQ n1 d1 n2 d2 < 0 ↔ toR (n1, d1) < toR (n2, d2) := by
  rw [← lessQ_iff h1 h2, lessQ_cmp]; simp
theorem cmpQ_swap (n1 d1 n2 d2 : Int) : cmpQ n2 d2 n1 d1 = - cmpQ n1 d1 n2 d2 := by
  unfold cmpQ; split <;> split <;> first | omega | (split <;> omega)
theorem cmpQ_gt {n1 d1 n2 d2 : Int} (h1 : 1 ≤ d1) (h2 : 1 ≤ d2) : 0 < cmpQ n1 d1 n2 d2 ↔ toR (n2, d2) < toR (n1, d1) := by
  rw [← cmpQ_lt h2 h1, cmpQ_swap n1 d1]; omega
theorem cmpQ_eq {n1 d1 n2 d2 : Int} (h1 : 1 ≤ d1) (h2 : 1 ≤ d2) : cmpQ n1 d1 n2 d2 = 0 ↔ toR (n1, d1) = toR (n2, d2) := by
  have a := cmpQ_lt (n1 := n1) (n2 := n2) h1 h2
  have b := cmpQ_gt (n1 := n1) (n2 := n2) h1 h2
  constructor
  · intro h
    have h3 : ¬ toR (n1, d1) < toR (n2, d2) := fun hh => by have := a.2 hh; omega
    have h4 : ¬ toR (n2, d2) < toR (n1, d1) := fun hh => by have := b.2 hh; omega
    grind
  · intro h
    have h3 : ¬ cmpQ n1 d1 n2 d2 < 0 := fun hh => by have := a.1 hh; grind
    have h4 : ¬ 0 < cmpQ n1 d1 n2 d2 := fun hh => by have := b.1 hh; grind
    omega
theorem cmpQ_abs (n1 d1 n2 d2 : Int) : cmpQ n1 d1 n2 d2 = -1 ∨ cmpQ n1 d1 n2 d2 = 0 ∨ cmpQ n1 d1 n2 d2 = 1 := by
  unfold cmpQ; split
  · simp
  · split <;> simp

theorem unitQ_iff {n d : Int} : unitQ n d = true ↔ okQ n d = true ∧ 0 ≤ toR (n, d) ∧ toR (n, d) ≤ 1 := by
  constructor
  · intro h
    have h1 := unitQ_ok h
    have h2 := unitQ_bd h
    have h3 := den_pos h1
    refine ⟨h1, ?_, ?_⟩
    · unfold toR
      have : (0 : Rat) ≤ (n : Rat) := by rw [← Rat.intCast_zero]; exact Rat.intCast_le_intCast.2 (by omega)
      rw [Rat.div_def]
      exact Rat.mul_nonneg this (Rat.le_of_lt (Rat.inv_pos.2 h3))
    · unfold toR
      have : (n : Rat) ≤ (d : Rat) := Rat.intCast_le_intCast.2 (by omega)
      rw [← Rat.not_lt, Rat.lt_div_iff h3]
      grind
  · rintro ⟨h1, h2, h3⟩
    have h4 := den_pos h1
    have e : toR (n, d) * d = n := by unfold toR; have := den_ne h1; simp only; grind
    simp only [unitQ, Bool.and_eq_true, decide_eq_true_eq]
    refine ⟨h1, ?_, ?_⟩
    · apply Rat.intCast_le_intCast.1
      rw [← e, Rat.intCast_zero]; exact Rat.mul_nonneg h2 (Rat.le_of_lt h4)
    · apply Rat.intCast_le_intCast.1
      rw [← e]
      have := Rat.mul_le_mul_of_nonneg_right h3 (Rat.le_of_lt h4)
      grind


end Go.Proofs.Ytkeajfgcjmhmiaa

namespace Go.Proofs.Ytkeajfgcjmhmiaa

/-- The first piece that has a fraction. -/
def pieceN (ps : List Pt) (x : Q) : Nat := ps.tail.findIdx (fromQ x.1 x.2)

theorem fromQ_iff {x : Q} {p : Pt} (h1 : 1 ≤ x.2) (h2 : 1 ≤ p.1.2) : fromQ x.1 x.2 p = true ↔ toR x ≤ toR p.1 := by
  have := lessQ_iff (n1 := p.1.1) (n2 := x.1) h2 h1
  unfold fromQ
  rw [← Rat.not_lt, Bool.not_eq_true', ← Bool.not_eq_true, this]
theorem fromQ_not {x : Q} {p : Pt} (h1 : 1 ≤ x.2) (h2 : 1 ≤ p.1.2) : fromQ x.1 x.2 p = false ↔ toR p.1 < toR x := by
  rw [← Bool.not_eq_true, fromQ_iff h1 h2, Rat.not_le]

theorem toR_zero (d : Int) : toR (0, d) = 0 := by unfold toR; simp only [Rat.intCast_zero]; rw [Rat.div_def, Rat.zero_mul]
theorem toR_one : toR (1, 1) = 1 := by decide +kernel

/-- What is known of the piece that has a fraction. -/
structure AtPiece (ps : List Pt) (x : Q) (p q : Pt) : Prop where
  here : ps[pieceN ps x]? = some p
  next : ps[pieceN ps x + 1]? = some q
  cx : coordQ p.1.1 p.1.2 = true
  cy : coordQ p.2.1 p.2.2 = true
  dx : coordQ q.1.1 q.1.2 = true
  dy : coordQ q.2.1 q.2.2 = true
  rise : lessQ p.1.1 p.1.2 q.1.1 q.1.2 = true
  low : toR p.1 ≤ toR x
  high : toR x ≤ toR q.1
  idx : max (idxB (fromQ x.1 x.2) ps - 1) 0 = pieceN ps x
  left : pieceN ps x ≠ 0 → toR p.1 < toR x

theorem atPiece {ps : List Pt} {x : Q} (hm : okMap ps = true) (hx : unitQ x.1 x.2 = true) : ∃ p q, AtPiece ps x p q := by
  have hl := okMap_len hm
  have hc : ∀ {i : Nat} {p : Pt}, ps[i]? = some p → _ := @okMap_coord ps hm
  have hr : ∀ {i : Nat} {p q : Pt}, ps[i]? = some p → ps[i + 1]? = some q → _ := @okMap_rising ps hm
  have hf := okMap_first hm
  have hla := okMap_last hm
  obtain ⟨x0, x1, x2⟩ := unitQ_iff.1 hx
  have xd := (okQ_bd x0).1
  match ps with
  | [] => simp at hl
  | [_] => simp at hl
  | p0 :: r0 :: r =>
    have hlast : ∃ l ∈ (r0 :: r), l.1 = (1, 1) := by
      rw [List.getLast?_cons_cons] at hla
      cases h : (r0 :: r).getLast? with
      | none => rw [h] at hla; simp at hla
      | some l => rw [h] at hla; simp at hla; exact ⟨l, List.mem_of_getLast? h, hla⟩
    obtain ⟨l, hlm, hl1⟩ := hlast
    have hex : ∃ y ∈ (r0 :: r), fromQ x.1 x.2 y = true := ⟨l, hlm, (fromQ_iff xd (by rw [hl1]; decide)).2 (by rw [hl1]; show _ ≤ toR (1, 1); rw [toR_one]; exact x2)⟩
    have hN : pieceN (p0 :: r0 :: r) x = (r0 :: r).findIdx (fromQ x.1 x.2) := rfl
    have hlt : (r0 :: r).findIdx (fromQ x.1 x.2) < (r0 :: r).length := List.findIdx_lt_length_of_exists hex
    have hp0 : toR p0.1 = 0 := by
      simp at hf; rw [hf]; exact toR_zero 1
    have hat : ∀ y, (r0 :: r)[(r0 :: r).findIdx (fromQ x.1 x.2)]? = some y → fromQ x.1 x.2 y = true := fun y hy => by
      have := List.findIdx_getElem (p := fromQ x.1 x.2) (xs := r0 :: r) (w := hlt)
      rw [List.getElem?_eq_getElem hlt] at hy
      cases hy; exact this
    have hbe : ∀ j y, j < (r0 :: r).findIdx (fromQ x.1 x.2) → (r0 :: r)[j]? = some y → fromQ x.1 x.2 y = false := fun j y hj hy => by
      have := List.not_of_lt_findIdx hj
      rw [List.getElem?_eq_getElem (by omega)] at hy
      cases hy
      simpa using this
    have hidx : max (idxB (fromQ x.1 x.2) (p0 :: r0 :: r) - 1) 0 = ((r0 :: r).findIdx (fromQ x.1 x.2) : Int) := by
      unfold idxB
      rw [List.findIdx?_cons]
      cases h0 : fromQ x.1 x.2 p0
      · simp only [Bool.false_eq_true, if_false]
        rw [List.findIdx?_eq_some_of_exists hex]
        simp
      · simp only [if_true]
        have hr0 : fromQ x.1 x.2 r0 = true := by
          have a := (fromQ_iff xd (by have := (coordQ_bd (hc (i := 0) (p := p0) rfl).1); omega)).1 h0
          have b := (lessQ_iff (by have := (coordQ_bd (hc (i := 0) (p := p0) rfl).1); omega) (by have := (coordQ_bd (hc (i := 1) (p := r0) rfl).1); omega)).1 (hr (i := 0) (p := p0) (q := r0) rfl rfl)
          refine (fromQ_iff xd (by have := (coordQ_bd (hc (i := 1) (p := r0) rfl).1); omega)).2 ?_
          exact Rat.le_of_lt (Std.lt_of_le_of_lt a b)
        rw [List.findIdx_cons, hr0]
        rfl
    generalize (r0 :: r).findIdx (fromQ x.1 x.2) = i at *
    have hlt2 : i < (p0 :: r0 :: r).length := by rw [List.length_cons]; omega
    have hq : (p0 :: r0 :: r)[i + 1]? = some ((r0 :: r)[i]'hlt) := by simp [List.getElem?_eq_getElem hlt]
    have hp : (p0 :: r0 :: r)[i]? = some ((p0 :: r0 :: r)[i]'hlt2) := List.getElem?_eq_getElem hlt2
    refine ⟨_, _, ⟨by rw [hN]; exact hp, by rw [hN]; exact hq, (hc hp).1, (hc hp).2, (hc hq).1, (hc hq).2, hr hp hq, ?_, ?_, by rw [hN]; exact hidx, ?_⟩⟩
    · cases i with
      | zero => show toR p0.1 ≤ _; rw [hp0]; exact x1
      | succ j =>
        have := hbe j _ (by omega) hp
        have h2 := (fromQ_not xd (by have := (coordQ_bd (hc hp).1); omega)).1 this
        exact Rat.le_of_lt h2
    · exact (fromQ_iff xd (by have := (coordQ_bd (hc hq).1); omega)).1 (hat _ hq)
    · rw [hN]
      intro hne
      cases i with
      | zero => exact absurd rfl hne
      | succ j =>
        have := hbe j _ (by omega) hp
        exact (fromQ_not xd (by have := (coordQ_bd (hc hp).1); omega)).1 this

theorem pieceN_before {ps : List Pt} {x : Q} {k : Nat} {y : Pt} (hk : k < pieceN ps x) (hy : ps[k + 1]? = some y) : lessQ y.1.1 y.1.2 x.1 x.2 = true := by
  have h1 := List.not_of_lt_findIdx hk
  have h2 : ps.tail[k]? = some y := by rw [List.getElem?_tail]; exact hy
  obtain ⟨h3, h4⟩ := List.getElem?_eq_some_iff.1 h2
  rw [h4] at h1
  simpa [fromQ] using h1
theorem pieceN_here {ps : List Pt} {x : Q} {y : Pt} (hy : ps[pieceN ps x + 1]? = some y) : lessQ y.1.1 y.1.2 x.1 x.2 = false := by
  have h2 : ps.tail[pieceN ps x]? = some y := by rw [List.getElem?_tail]; exact hy
  obtain ⟨h3, h4⟩ := List.getElem?_eq_some_iff.1 h2
  have h5 := List.findIdx_getElem (p := fromQ x.1 x.2) (xs := ps.tail) (w := h3)
  unfold pieceN at h4
  rw [h4] at h5
  simpa [fromQ] using h5

/-- The slope between two points. -/
def slopeQ (p q : Pt) : Q :=
  let u := subQ q.2.1 q.2.2 p.2.1 p.2.2
  let f := subQ q.1.1 q.1.2 p.1.1 p.1.2
  let s := divQ u.1 u.2.1 f.1 f.2.1
  (s.1, s.2.1)

theorem slopeQ_ok {p q : Pt} (cx : coordQ p.1.1 p.1.2 = true) (cy : coordQ p.2.1 p.2.2 = true) (dx : coordQ q.1.1 q.1.2 = true) (dy : coordQ q.2.1 q.2.2 = true) (hl : lessQ p.1.1 p.1.2 q.1.1 q.1.2 = true) :
    okQ (slopeQ p q).1 (slopeQ p q).2 = true ∧ toR (slopeQ p q) * (toR q.1 - toR p.1) = toR q.2 - toR p.2 := by
  obtain ⟨u1, u2, f1, f2, s1, s2, e1, -, e2, -, e3, -, -, -, -, -, ok, -⟩ := slope_fits cx cy dx dy hl
  have hs : slopeQ p q = (s1, s2) := by unfold slopeQ; rw [e1, e2]; simp only; rw [e3]
  rw [hs]
  refine ⟨ok, ?_⟩
  have k1 := unitQ_ok (coordQ_unit cx)
  have k2 := unitQ_ok (coordQ_unit cy)
  have k3 := unitQ_ok (coordQ_unit dx)
  have k4 := unitQ_ok (coordQ_unit dy)
  rw [subQ_fit k4 k2] at e1
  rw [subQ_fit k3 k1] at e2
  obtain ⟨r1, o1⟩ := fitR_yes e1
  obtain ⟨r2, o2⟩ := fitR_yes e2
  have hlt := (lessQ_iff (okQ_bd k1).1 (okQ_bd k3).1).1 hl
  have r2n : toR (f1, f2) ≠ 0 := by rw [r2]; grind
  rw [divQ_fit o1 o2 r2n] at e3
  obtain ⟨r3, -⟩ := fitR_yes e3
  rw [r3, r1, r2]
  have : toR (q.1.1, q.1.2) - toR (p.1.1, p.1.2) ≠ 0 := by grind
  show _ * (toR (q.1.1, q.1.2) - toR (p.1.1, p.1.2)) = toR (q.2.1, q.2.2) - toR (p.2.1, p.2.2)
  grind

/-- The value on a line, as the program reckons it; and whether all parts fit. -/
def onQ (p : Pt) (s x : Q) : Q × Bool :=
  let d := subQ x.1 x.2 p.1.1 p.1.2
  let m := mulQ s.1 s.2 (keepQ d).1 (keepQ d).2
  let r := addQ p.2.1 p.2.2 (keepQ m).1 (keepQ m).2
  (keepQ r, d.2.2 && m.2.2 && r.2.2)

theorem okQ_zero : okQ 0 1 = true := by decide
theorem unitQ_zero : unitQ 0 1 = true := by decide
theorem keepQ_ok {r : Rat} : okQ (keepQ (fitR r)).1 (keepQ (fitR r)).2 = true := by
  unfold keepQ fitR
  split
  · rename_i h; rw [if_pos rfl]; exact h
  · rw [if_neg (by decide)]; exact okQ_zero
theorem keepQ_cases (r : Rat) : ((fitR r).2.2 = true ∧ toR (keepQ (fitR r)) = r) ∨ ((fitR r).2.2 = false ∧ keepQ (fitR r) = (0, 1)) := by
  rcases h : fitR r with ⟨a, b, t⟩
  cases t
  · exact .inr ⟨rfl, rfl⟩
  · exact .inl ⟨rfl, (fitR_yes h).1⟩
theorem fitR_of {a b : Int} {r : Rat} (h : okQ a b = true) (e : toR (a, b) = r) : fitR r = (a, b, true) := by rw [← e]; exact fitR_toR h

theorem between_unit {X x Z Y V s : Rat} (h1 : X ≤ x) (h2 : x ≤ Z) (h3 : X < Z) (y1 : 0 ≤ Y) (y2 : Y ≤ 1) (v1 : 0 ≤ V) (v2 : V ≤ 1) (hs : s * (Z - X) = V - Y) : 0 ≤ Y + s * (x - X) ∧ Y + s * (x - X) ≤ 1 := by
  have e : (Y + s * (x - X)) * (Z - X) = Y * (Z - x) + V * (x - X) := by grind
  have p : 0 < Z - X := by grind
  have a : 0 ≤ Z - x := by grind
  have b : 0 ≤ x - X := by grind
  have c1 : 0 ≤ Y * (Z - x) := Rat.mul_nonneg y1 a
  have c2 : 0 ≤ V * (x - X) := Rat.mul_nonneg v1 b
  have d1 : Y * (Z - x) ≤ 1 * (Z - x) := Rat.mul_le_mul_of_nonneg_right y2 a
  have d2 : V * (x - X) ≤ 1 * (x - X) := Rat.mul_le_mul_of_nonneg_right v2 b
  constructor
  · apply Rat.not_lt.1
    intro hh
    have : (Y + s * (x - X)) * (Z - X) < 0 * (Z - X) := Rat.mul_lt_mul_of_pos_right hh p
    grind
  · apply Rat.not_lt.1
    intro hh
    have : 1 * (Z - X) < (Y + s * (x - X)) * (Z - X) := Rat.mul_lt_mul_of_pos_right hh p
    grind

theorem onQ_unit {ps : List Pt} {x : Q} {p q : Pt} (h : AtPiece ps x p q) (hx : unitQ x.1 x.2 = true) : unitQ (onQ p (slopeQ p q) x).1.1 (onQ p (slopeQ p q) x).1.2 = true := by
  obtain ⟨x0, x1, x2⟩ := unitQ_iff.1 hx
  obtain ⟨so, se⟩ := slopeQ_ok h.cx h.cy h.dx h.dy h.rise
  obtain ⟨k1, -, -⟩ := unitQ_iff.1 (coordQ_unit h.cx)
  obtain ⟨k2, y1, y2⟩ := unitQ_iff.1 (coordQ_unit h.cy)
  obtain ⟨k3, -, -⟩ := unitQ_iff.1 (coordQ_unit h.dx)
  obtain ⟨k4, v1, v2⟩ := unitQ_iff.1 (coordQ_unit h.dy)
  have hlt := (lessQ_iff (okQ_bd k1).1 (okQ_bd k3).1).1 h.rise
  have hb := between_unit h.low h.high hlt y1 y2 v1 v2 se
  unfold onQ
  simp only
  rw [subQ_fit x0 k1]
  have dk := keepQ_ok (r := toR (x.1, x.2) - toR (p.1.1, p.1.2))
  rw [mulQ_fit so dk]
  have mk := keepQ_ok (r := toR ((slopeQ p q).1, (slopeQ p q).2) * toR ((keepQ (fitR (toR (x.1, x.2) - toR (p.1.1, p.1.2)))).1, (keepQ (fitR (toR (x.1, x.2) - toR (p.1.1, p.1.2)))).2))
  rw [addQ_fit k2 mk]
  rcases keepQ_cases (toR (x.1, x.2) - toR (p.1.1, p.1.2)) with ⟨-, e1⟩ | ⟨-, e1⟩
  · rcases keepQ_cases (toR ((slopeQ p q).1, (slopeQ p q).2) * toR ((keepQ (fitR (toR (x.1, x.2) - toR (p.1.1, p.1.2)))).1, (keepQ (fitR (toR (x.1, x.2) - toR (p.1.1, p.1.2)))).2)) with ⟨-, e2⟩ | ⟨-, e2⟩
    · replace e1 : toR ((keepQ (fitR (toR (x.1, x.2) - toR (p.1.1, p.1.2)))).1, (keepQ (fitR (toR (x.1, x.2) - toR (p.1.1, p.1.2)))).2) = toR (x.1, x.2) - toR (p.1.1, p.1.2) := e1
      rw [e1] at e2 ⊢
      replace e2 : toR ((keepQ (fitR (toR ((slopeQ p q).1, (slopeQ p q).2) * (toR (x.1, x.2) - toR (p.1.1, p.1.2))))).1, (keepQ (fitR (toR ((slopeQ p q).1, (slopeQ p q).2) * (toR (x.1, x.2) - toR (p.1.1, p.1.2))))).2) = toR ((slopeQ p q).1, (slopeQ p q).2) * (toR (x.1, x.2) - toR (p.1.1, p.1.2)) := e2
      rw [e2]
      rcases keepQ_cases (toR (p.2.1, p.2.2) + toR ((slopeQ p q).1, (slopeQ p q).2) * (toR (x.1, x.2) - toR (p.1.1, p.1.2))) with ⟨-, e3⟩ | ⟨-, e3⟩
      · exact unitQ_iff.2 ⟨keepQ_ok, (by rw [← e3] at hb; exact hb.1), (by rw [← e3] at hb; exact hb.2)⟩
      · rw [e3]; exact unitQ_zero
    · rw [e2, toR_zero, Rat.add_zero, fitR_toR k2]; exact coordQ_unit h.cy
  · rw [e1, toR_zero, Rat.mul_zero]
    have : fitR 0 = (0, 1, true) := by decide +kernel
    rw [this]
    show unitQ (keepQ (fitR (toR (p.2.1, p.2.2) + toR (0, 1)))).1 (keepQ (fitR (toR (p.2.1, p.2.2) + toR (0, 1)))).2 = true
    rw [toR_zero, Rat.add_zero, fitR_toR k2]; exact coordQ_unit h.cy

/-- The value of a map at a fraction; and whether all parts fit. -/
def valQ (ps : List Pt) (x : Q) : Q × Bool :=
  let p := ps.getD (pieceN ps x) ((0, 1), 0, 1)
  let q := ps.getD (pieceN ps x + 1) ((0, 1), 0, 1)
  onQ p (slopeQ p q) x
theorem valQ_at {ps : List Pt} {x : Q} {p q : Pt} (h : AtPiece ps x p q) : valQ ps x = onQ p (slopeQ p q) x := by
  unfold valQ
  rw [List.getD_eq_getElem?_getD, List.getD_eq_getElem?_getD, h.here, h.next]
  rfl
theorem valQ_unit {ps : List Pt} {x : Q} (hm : okMap ps = true) (hx : unitQ x.1 x.2 = true) : unitQ (valQ ps x).1.1 (valQ ps x).1.2 = true := by
  obtain ⟨p, q, h⟩ := atPiece hm hx
  rw [valQ_at h]; exact onQ_unit h hx

end Go.Proofs.Ytkeajfgcjmhmiaa

namespace Go.Proofs.Ytkeajfgcjmhmiaa
open Go.RowKit

set_option maxHeartbeats 800000 in
theorem imSlope_raw (x1 x2 x3 x4 y1 y2 y3 y4 u1 u2 f1 f2 s1 s2 : Int) (w : World) (m1 : Sm x1) (m2 : Sm x2) (m3 : Sm x3) (m4 : Sm x4) (n1 : Sm y1) (n2 : Sm y2) (n3 : Sm y3) (n4 : Sm y4) (a1 : Sm u1) (a2 : Sm u2) (b1 : Sm f1) (b2 : Sm f2)
    (hu : lowQ (y3 * x4 - x3 * y4) (y4 * x4) = (u1, u2, true)) (hf : lowQ (y1 * x2 - x1 * y2) (y2 * x2) = (f1, f2, true)) (hd : lowQ (u1 * f2) (u2 * f1) = (s1, s2, true)) :
    Calls Try.prog 53 #[.agg #[.int .i64 x1, .int .i64 x2, .int .i64 x3, .int .i64 x4], .agg #[.int .i64 y1, .int .i64 y2, .int .i64 y3, .int .i64 y4]] w fun e w' => e = .returned (.agg #[.int .i64 s1, .int .i64 s2]) ∧ Below w.heap.size w w' := by
  have HU := Lib.hid hu
  have HF := Lib.hid hf
  have HD := Lib.hid hd
  clear hu hf hd
  go_enter Try.func53, Try.ntmps53
  go_wp2_with fail
  refine (raSub_any y3 y4 x3 x4 u1 u2 true n3 n4 m3 m4 HU.out _).mono ?_
  rintro e w1 ⟨rfl, hb⟩
  have hB := nextB (B := w.heap.size) (w := w) (by go_grown) (by go_size) hb
  have k1 : w1.cell? ⟨w.heap.size, 0, none⟩ = some (.int .i64 x1) := cellB hb (by simp [go_sem])
  have k2 : w1.cell? ⟨w.heap.size, 1, none⟩ = some (.int .i64 x2) := cellB hb (by simp [go_sem])
  have k3 : w1.cell? ⟨w.heap.size + 1, 0, none⟩ = some (.int .i64 y1) := cellB hb (by simp [go_sem])
  have k4 : w1.cell? ⟨w.heap.size + 1, 1, none⟩ = some (.int .i64 y2) := cellB hb (by simp [go_sem])
  have r0 : Slot w1 (w.heap.size + 2) 0 (.int .i64 0) := slotB hb ⟨by simp [go_sem], by simp [go_sem]⟩
  have r1 : Slot w1 (w.heap.size + 2) 1 (.int .i64 0) := slotB hb ⟨by simp [go_sem], by simp [go_sem]⟩
  have y0 := lt_of_cell k1
  have y1' := lt_of_cell k3
  have z1 := lt_of_cell r0.1
  clear hb
  go_wp2_with fail
  refine (raSub_any y1 y2 x1 x2 f1 f2 true n1 n2 m1 m2 HF.out _).mono ?_
  rintro e w2 ⟨rfl, hb⟩
  replace hB : Below w.heap.size w w2 := nextB (by go_grown) (by go_size) hb
  have j1 : w2.cell? ⟨w1.heap.size, 0, none⟩ = some (.int .i64 u1) := cellB hb (slotNew _ _ _ _).1.1
  have j2 : w2.cell? ⟨w1.heap.size, 1, none⟩ = some (.int .i64 u2) := cellB hb (slotNew _ _ _ _).2.1
  replace r0 := slotB hb (slotA _ r0)
  replace r1 := slotB hb (slotA _ r1)
  have y2' := lt_of_cell j1
  have y3' := lt_of_cell r0.1
  clear hb k1 k2 k3 k4
  go_wp2_with fail
  refine (raDiv_any u1 u2 f1 f2 s1 s2 true a1 a2 b1 b2 HD.out _).mono ?_
  rintro e w3 ⟨rfl, hb⟩
  replace hB : Below w.heap.size w w3 := nextB (by go_grown) (by go_size) hb
  obtain ⟨q0, z0⟩ := slotB hb (slotA _ r0)
  obtain ⟨q1, z1⟩ := slotB hb (slotA _ r1)
  have z2 := lt_of_cell q0
  clear hb j1 j2 r0 r1
  go_wp2_with fail
  refine bodyPost_ret (v := .agg #[.int .i64 s1, .int .i64 s2]) (by simp [results, Try.results53, go_sem, q0, q1, z2]) rfl ⟨rfl, ?_⟩
  go_grown

theorem coord_smQ {a b : Int} (h : coordQ a b = true) : Sm a ∧ Sm b := Sm.of_ok (unitQ_ok (coordQ_unit h))

theorem imSlope_is {p q : Pt} {s1 s2 : Int} (cx : coordQ p.1.1 p.1.2 = true) (cy : coordQ p.2.1 p.2.2 = true) (dx : coordQ q.1.1 q.1.2 = true) (dy : coordQ q.2.1 q.2.2 = true) (hl : lessQ p.1.1 p.1.2 q.1.1 q.1.2 = true) (hs : slopeQ p q = (s1, s2)) (w : World) :
    Calls Try.prog 53 #[.agg #[.int .i64 p.1.1, .int .i64 p.1.2, .int .i64 p.2.1, .int .i64 p.2.2], .agg #[.int .i64 q.1.1, .int .i64 q.1.2, .int .i64 q.2.1, .int .i64 q.2.2]] w fun e w' => e = .returned (.agg #[.int .i64 s1, .int .i64 s2]) ∧ Below w.heap.size w w' := by
  obtain ⟨u1, u2, f1, f2, t1, t2, e1, e2, e3, e4, e5, e6, a1, a2, b1, b2, -, -⟩ := slope_fits cx cy dx dy hl
  have : (t1, t2) = (s1, s2) := by rw [← hs]; unfold slopeQ; rw [e1, e3]; simp only; rw [e5]
  cases this
  exact imSlope_raw _ _ _ _ _ _ _ _ u1 u2 f1 f2 _ _ w (coord_smQ cx).1 (coord_smQ cx).2 (coord_smQ cy).1 (coord_smQ cy).2 (coord_smQ dx).1 (coord_smQ dx).2 (coord_smQ dy).1 (coord_smQ dy).2 a1 a2 b1 b2 e2 e4 e6
theorem slope_is {p q : Pt} {s1 s2 : Int} (cx : coordQ p.1.1 p.1.2 = true) (cy : coordQ p.2.1 p.2.2 = true) (dx : coordQ q.1.1 q.1.2 = true) (dy : coordQ q.2.1 q.2.2 = true) (hl : lessQ p.1.1 p.1.2 q.1.1 q.1.2 = true) (hs : slopeQ p q = (s1, s2)) (v : Value) (w : World) :
    Calls Try.prog 52 #[v, .agg #[.int .i64 p.1.1, .int .i64 p.1.2, .int .i64 p.2.1, .int .i64 p.2.2], .agg #[.int .i64 q.1.1, .int .i64 q.1.2, .int .i64 q.2.1, .int .i64 q.2.2]] w fun e w' => e = .returned (.agg #[.int .i64 s1, .int .i64 s2]) ∧ Below w.heap.size w w' := by
  obtain ⟨u1, u2, f1, f2, t1, t2, e1, e2, e3, e4, e5, e6, a1, a2, b1, b2, -, -⟩ := slope_fits cx cy dx dy hl
  have : (t1, t2) = (s1, s2) := by rw [← hs]; unfold slopeQ; rw [e1, e3]; simp only; rw [e5]
  cases this
  have k1 := (coord_smQ cx).1.bd
  have k2 := (coord_smQ cy).1.bd
  exact slope_fine _ _ _ _ _ _ _ _ u1 u2 f1 f2 _ _ v w (by omega) (by omega) e1 e3 e5

end Go.Proofs.Ytkeajfgcjmhmiaa

namespace Go.Proofs.Ytkeajfgcjmhmiaa
open Go.RowKit

def CutOn (w : World) (y1 y2 m1 m2 : Int) (t : Bool) (s10 s11 : Value) (wx : World) : Prop :=
  VarQ wx s10 (w.heap.size + 4) m1 m2 ∧ s11 = .bool t ∧ wx.cell? ⟨w.heap.size, 2, none⟩ = some (.int .i64 y1) ∧ wx.cell? ⟨w.heap.size, 3, none⟩ = some (.int .i64 y2) ∧ Slot wx (w.heap.size + 3) 0 (.int .i64 0) ∧ Slot wx (w.heap.size + 3) 1 (.int .i64 0) ∧ Below w.heap.size w wx

set_option maxHeartbeats 1600000 in
theorem imOn_raw (p1 p2 p3 p4 q1 q2 q3 q4 x1 x2 s1 s2 d1 d2 m1 m2 r1 r2 a b : Int) (td tm tr t : Bool) (w : World) (hsm : (Sm p1 ∧ Sm p2 ∧ Sm p3 ∧ Sm p4) ∧ Sm x1 ∧ Sm x2 ∧ Sm s1 ∧ Sm s2)
    (hs : ∀ W, Calls Try.prog 53 #[.agg #[.int .i64 p1, .int .i64 p2, .int .i64 p3, .int .i64 p4], .agg #[.int .i64 q1, .int .i64 q2, .int .i64 q3, .int .i64 q4]] W fun e w' => e = .returned (.agg #[.int .i64 s1, .int .i64 s2]) ∧ Below W.heap.size W w')
    (hd : lowQ (x1 * p2 - p1 * x2) (x2 * p2) = (d1, d2, td)) (hm : lowQ (d1 * s1) (d2 * s2) = (m1, m2, tm)) (hr : lowQ (p3 * m2 + m1 * p4) (p4 * m2) = (r1, r2, tr)) (ha : (if td && tm then (r1, r2, tr) else (0, 0, false)) = (a, b, t)) :
    Calls Try.prog 84 #[.agg #[.int .i64 p1, .int .i64 p2, .int .i64 p3, .int .i64 p4], .agg #[.int .i64 q1, .int .i64 q2, .int .i64 q3, .int .i64 q4], .agg #[.int .i64 x1, .int .i64 x2]] w (LowEnd a b t w) := by
  obtain ⟨⟨u1, u2, u3, u4⟩, u5, u6, u7, u8⟩ := hsm
  have v1 := (Sm.of_low hd).1
  have v2 := (Sm.of_low hd).2
  have v3 := (Sm.of_low hm).1
  have v4 := (Sm.of_low hm).2
  have HS := Lib.hid hs
  have HD := Lib.hid hd
  have HM := Lib.hid hm
  have HR := Lib.hid hr
  have HA := Lib.hid ha
  clear hs hd hm hr ha
  go_enter Try.func84, Try.ntmps84
  go_wp2_with fail
  refine (raSub_any x1 x2 p1 p2 d1 d2 td u5 u6 u1 u2 HD.out _).mono ?_
  rintro e w1 ⟨rfl, hb⟩
  have hB : Below w.heap.size w w1 := nextB (by go_grown) (by go_size) hb
  have c1 : w1.cell? ⟨w.heap.size, 0, none⟩ = some (.int .i64 p1) := cellB hb (by simp [go_sem])
  have c2 : w1.cell? ⟨w.heap.size, 1, none⟩ = some (.int .i64 p2) := cellB hb (by simp [go_sem])
  have c3 : w1.cell? ⟨w.heap.size, 2, none⟩ = some (.int .i64 p3) := cellB hb (by simp [go_sem])
  have c4 : w1.cell? ⟨w.heap.size, 3, none⟩ = some (.int .i64 p4) := cellB hb (by simp [go_sem])
  have c5 : w1.cell? ⟨w.heap.size + 1, 0, none⟩ = some (.int .i64 q1) := cellB hb (by simp [go_sem])
  have c6 : w1.cell? ⟨w.heap.size + 1, 1, none⟩ = some (.int .i64 q2) := cellB hb (by simp [go_sem])
  have c7 : w1.cell? ⟨w.heap.size + 1, 2, none⟩ = some (.int .i64 q3) := cellB hb (by simp [go_sem])
  have c8 : w1.cell? ⟨w.heap.size + 1, 3, none⟩ = some (.int .i64 q4) := cellB hb (by simp [go_sem])
  have r0 : Slot w1 (w.heap.size + 3) 0 (.int .i64 0) := slotB hb ⟨by simp [go_sem], by simp [go_sem]⟩
  have r1 : Slot w1 (w.heap.size + 3) 1 (.int .i64 0) := slotB hb ⟨by simp [go_sem], by simp [go_sem]⟩
  have z := lt_of_cell r0.1
  clear hb
  go_wp2_with fail
  go_cut [10, 11] (fun s10 s11 wx => CutOn w p3 p4 m1 m2 tm s10 s11 wx)
  case first =>
    go_name_world W hW
    have f0 : W.cell? ⟨w1.heap.size, 0, none⟩ = some (.int .i64 d1) := by rw [← hW]; exact (slotNew _ _ _ _).1.1
    have f1 : W.cell? ⟨w1.heap.size, 1, none⟩ = some (.int .i64 d2) := by rw [← hW]; exact (slotNew _ _ _ _).2.1
    have g0 : Below w1.heap.size w1 W := by rw [← hW]; go_grown
    have kL : Facts [(w1.heap.size, 0, .int .i64 d1), (w1.heap.size, 1, .int .i64 d2), (w.heap.size, 0, .int .i64 p1), (w.heap.size, 1, .int .i64 p2), (w.heap.size, 2, .int .i64 p3), (w.heap.size, 3, .int .i64 p4), (w.heap.size + 1, 0, .int .i64 q1), (w.heap.size + 1, 1, .int .i64 q2), (w.heap.size + 1, 2, .int .i64 q3), (w.heap.size + 1, 3, .int .i64 q4)] W :=
      ⟨f0, f1, cellB g0 c1, cellB g0 c2, cellB g0 c3, cellB g0 c4, cellB g0 c5, cellB g0 c6, cellB g0 c7, cellB g0 c8⟩
    replace r0 := slotB g0 r0
    replace r1 := slotB g0 r1
    replace hB := nextW hB g0
    have zW := lt_of_cell f0
    have zR := lt_of_cell r0.1
    clear hW c1 c2 c3 c4 c5 c6 c7 c8 f0 f1
    go_region_held3 (fun w' => w'.cell? ⟨w1.heap.size, 0, none⟩ = some (.int .i64 d1) ∧ w'.cell? ⟨w1.heap.size, 1, none⟩ = some (.int .i64 d2) ∧ w'.cell? ⟨w.heap.size, 0, none⟩ = some (.int .i64 p1) ∧ w'.cell? ⟨w.heap.size, 1, none⟩ = some (.int .i64 p2) ∧ w'.cell? ⟨w.heap.size, 2, none⟩ = some (.int .i64 p3) ∧ w'.cell? ⟨w.heap.size, 3, none⟩ = some (.int .i64 p4) ∧ w'.cell? ⟨w.heap.size + 1, 0, none⟩ = some (.int .i64 q1) ∧ w'.cell? ⟨w.heap.size + 1, 1, none⟩ = some (.int .i64 q2) ∧ w'.cell? ⟨w.heap.size + 1, 2, none⟩ = some (.int .i64 q3) ∧ w'.cell? ⟨w.heap.size + 1, 3, none⟩ = some (.int .i64 q4))
      ((exact Facts.keep kL (by go_grown)))
      ((first
        | (go_at_call 53; (with_reducible refine (HS.out _).mono ?_); rintro e w2 ⟨rfl, hb2⟩; have hX2 : Below W.heap.size W w2 := nextX (by go_grown) hb2; have z2 := hX2.size; (first | (with_reducible have n2 := fresh2 hb2) | (with_reducible have n2 := fresh2D hb2) | skip))
        | (go_at_call 94; (with_reducible refine (raMul_any d1 d2 s1 s2 m1 m2 tm v1 v2 u7 u8 HM.out _).mono ?_); rintro e w3 ⟨rfl, hb3⟩; have hX3 : Below W.heap.size W w3 := nextX (by go_grown) hb3; have z3 := hX3.size; (first | (with_reducible have n3 := fresh2 hb3) | (with_reducible have n3 := Fresh2.keep n2 hb3) | skip); (first | obtain ⟨⟨p0, f0⟩, p1, f1⟩ := n3 | skip))))
    all_goals
      go_wp2_with fail
      go_meet
      first
        | exact ⟨VarQ.made (by omega) _ _ _, rfl, cellB (by go_grown) kL.2.2.2.2.1, cellB (by go_grown) kL.2.2.2.2.2.1, slotB (by go_grown) r0, slotB (by go_grown) r1, nextW hB (by go_grown)⟩
        | exact ⟨VarQ.stored ⟨p0, f0⟩ ⟨p1, f1⟩ (by omega) _ _, rfl, cellB (by go_grown) kL.2.2.2.2.1, cellB (by go_grown) kL.2.2.2.2.2.1, slotB (by go_grown) r0, slotB (by go_grown) r1, nextW hB (by go_grown)⟩
  case rest =>
    clear r0 r1 hB c1 c2 c3 c4 c5 c6 c7 c8 z
    obtain ⟨⟨g, rfl, hg, ⟨m0, -⟩, m9, -⟩, rfl, e0, e1, ⟨q0, k0⟩, ⟨q1, k1⟩, hB⟩ := hcut
    have z1 := lt_of_cell e0
    have z3 := lt_of_cell m0
    rcases td with _ | _
    · have E := HA.out
      simp at E
      obtain ⟨rfl, rfl, rfl⟩ := E
      go_wp2_with fail
      refine bodyPost_ret (v := .tuple #[.agg #[.int .i64 0, .int .i64 0], .bool false]) (by simp [results, Try.results84, go_sem, q0, q1]) rfl ⟨rfl, ?_⟩
      go_grown
    · rcases tm with _ | _
      · have E := HA.out
        simp at E
        obtain ⟨rfl, rfl, rfl⟩ := E
        go_wp2_with fail
        refine bodyPost_ret (v := .tuple #[.agg #[.int .i64 0, .int .i64 0], .bool false]) (by simp [results, Try.results84, go_sem, q0, q1]) rfl ⟨rfl, ?_⟩
        go_grown
      · have E := HA.out
        simp at E
        obtain ⟨rfl, rfl, rfl⟩ := E
        go_wp2_with fail
        refine (raAdd_any p3 p4 m1 m2 _ _ _ u3 u4 v3 v4 HR.out _).mono ?_
        rintro e w4 ⟨rfl, hb⟩
        replace hB := nextB hB (by go_size) hb
        obtain ⟨q0, k0⟩ := slotB hb ⟨q0, k0⟩
        obtain ⟨q1, k1⟩ := slotB hb ⟨q1, k1⟩
        go_wp2_with fail
        refine bodyPost_ret (by simp [results, Try.results84, go_sem, q0, q1]) rfl ⟨rfl, ?_⟩
        go_grown

end Go.Proofs.Ytkeajfgcjmhmiaa

namespace Go.Proofs.Ytkeajfgcjmhmiaa
open Go.RowKit

def RelPc (N : Nat) (w : World) (i : Value) (wr : World) : Prop := ∃ k : Nat, k ≤ N ∧ i = .int .i64 k ∧ Below w.heap.size w wr

set_option maxHeartbeats 1600000 in
theorem imPiece_raw (ps : List Pt) (v : Value) (x1 x2 : Int) (N : Nat) (w : World) (hv : RdP w v ps) (hx : AllX ps) (k1 : Sm x1) (k2 : Sm x2) (hN : N + 1 < ps.length) (hbe : ∀ k y, k < N → ps[k + 1]? = some y → lessQ y.1.1 y.1.2 x1 x2 = true) (hat : ∀ y, ps[N + 1]? = some y → lessQ y.1.1 y.1.2 x1 x2 = false) :
    Calls Try.prog 83 #[v, .agg #[.int .i64 x1, .int .i64 x2]] w fun e w' => e = .returned (.int .i64 N) ∧ Below w.heap.size w w' := by
  obtain ⟨A, c, rfl, hl, hm, hcell⟩ := hv
  unfold maxLen at hm
  obtain ⟨g, o, rfl, hg, hc⟩ := hcell (by intro h; rw [h] at hN; simp at hN)
  have HC := Lib.hid hc
  have HX := Lib.hid hx
  have HBE := Lib.hid hbe
  have HAT := Lib.hid hat
  clear hcell hc hx hbe hat
  go_enter Try.func83, Try.ntmps83
  go_wp2_with fail
  go_name_world W hW
  have e0 : W.cell? ⟨w.heap.size, 0, none⟩ = some (.int .i64 x1) := by rw [← hW]; simp [go_sem]
  have e1 : W.cell? ⟨w.heap.size, 1, none⟩ = some (.int .i64 x2) := by rw [← hW]; simp [go_sem]
  have hB : Below w.heap.size w W := by rw [← hW]; go_grown
  clear hW
  go_loopw [5] (fun i wr => RelPc N W i wr) (fun i _ => N - (intOf i).toNat)
  case atStart => exact ⟨0, Nat.zero_le _, rfl, Below.refl _ _⟩
  case round =>
    obtain ⟨k, hk, rfl, hb⟩ := hrel
    by_cases hlt : k + 2 < ps.length
    · have hq := List.getElem?_eq_getElem (show k + 1 < ps.length by omega)
      have hmem := List.getElem_mem (show k + 1 < ps.length by omega)
      generalize ps[k + 1] = q at *
      obtain ⟨⟨a1, a2⟩, a3, a4⟩ := q
      obtain ⟨c0, c1, c2, c3⟩ := HC.out (k + 1) _ hq
      have sx := HX.out _ hmem
      have hg' : g < W.heap.size := Nat.lt_of_lt_of_le hg hB.size
      rw [← hB.cell (p := ⟨g, _, none⟩) hg, ← hb.cell (p := ⟨g, _, none⟩) hg'] at c0 c1
      have d0 := cellB hb e0
      have d1 := cellB hb e1
      clear c2 c3
      have HQ := Lib.hid hq
      have HSX := Lib.hid sx
      clear hq hmem sx
      obtain ⟨v, hv⟩ : ∃ v, cmpQ a1 a2 x1 x2 = v := ⟨_, rfl⟩
      have hle : lessQ a1 a2 x1 x2 = decide (v < 0) := by rw [lessQ_cmp, hv]
      have HV := Lib.hid hv
      have b0 : (0 : Int) ≤ (k : Int) := by omega
      have b1 : (k : Int) + 2 < (ps.length : Int) := by omega
      have b1' : decide ((k : Int) + 2 < (ps.length : Int)) = true := by simpa using b1
      have b2 : (k : Int) + 1 < (ps.length : Int) := by omega
      have b3 : (0 : Int) ≤ (k : Int) + 1 := by omega
      have t2 : ((k : Int) + 1).toNat = k + 1 := by omega
      have v1 : IntKind.i64.wrap ((k : Int) + 2) = (k : Int) + 2 := IntWalk.i64_in _ (by omega)
      have v2 : IntKind.i64.wrap ((k : Int) + 1) = (k : Int) + 1 := IntWalk.i64_in _ (by omega)
      rcases Int.lt_or_le v 0 with h0 | h0
      · have hd : decide (v < (0 : Int)) = true := by simpa using h0
        have hkN : k < N := by
          by_cases e : k = N
          · subst e; have := HAT.out _ HQ.out; rw [hle, hd] at this; cases this
          · omega
        clear hle hv
        go_wp2_with fail
        refine wp_region_below (by kernel_rfl) (by kernel_rfl) ?_
        iterate 16 (first
          | (refine stepS rfl ?_; simp only [Act.put, List.setIfInBounds_toArray, List.set_cons_zero, List.set_cons_succ])
          | (refine stepV (v := ?_) rfl (fun W hW => ?_) ?_
             rotate_left
             focus
               have qc0 := cellB hW.out c0
               have qc1 := cellB hW.out c1
               have qc2 := cellB hW.out d0
               have qc3 := cellB hW.out d1
               go_simp
               try with_reducible rfl
               done
             simp only [Act.put, List.setIfInBounds_toArray, List.set_cons_zero, List.set_cons_succ])
          | (refine stepC rfl (fun W hW => ?_) (fun W hW => callB hW (raCmp_is a1 a2 x1 x2 v HSX.out ⟨k1, k2⟩ HV.out _)) ?_
             focus
               go_simp
               try with_reducible rfl
               done
             simp only [Act.put, List.setIfInBounds_toArray, List.set_cons_zero, List.set_cons_succ]))
        refine stepN ?_
        intro w1 hw1
        have hB2 := nextW hb hw1.out
        clear hw1 c0 c1 d0 d1 hb v1 v2 t2 hd b1'
        go_wp2_with fail
        go_roundw
        case rel => exact ⟨k + 1, by omega, by go_num, hB2⟩
        case measure => simp [intOf]; omega
      · have hd : decide (v < (0 : Int)) = false := by simpa using h0
        obtain rfl : k = N := by
          by_cases e : k = N
          · exact e
          · have := HBE.out _ _ (show k < N by omega) HQ.out; rw [hle, hd] at this; cases this
        clear hle hv
        go_wp2_with fail
        refine wp_region_below (by kernel_rfl) (by kernel_rfl) ?_
        iterate 16 (first
          | (refine stepS rfl ?_; simp only [Act.put, List.setIfInBounds_toArray, List.set_cons_zero, List.set_cons_succ])
          | (refine stepV (v := ?_) rfl (fun W hW => ?_) ?_
             rotate_left
             focus
               have qc0 := cellB hW.out c0
               have qc1 := cellB hW.out c1
               have qc2 := cellB hW.out d0
               have qc3 := cellB hW.out d1
               go_simp
               try with_reducible rfl
               done
             simp only [Act.put, List.setIfInBounds_toArray, List.set_cons_zero, List.set_cons_succ])
          | (refine stepC rfl (fun W hW => ?_) (fun W hW => callB hW (raCmp_is a1 a2 x1 x2 v HSX.out ⟨k1, k2⟩ HV.out _)) ?_
             focus
               go_simp
               try with_reducible rfl
               done
             simp only [Act.put, List.setIfInBounds_toArray, List.set_cons_zero, List.set_cons_succ]))
        refine stepN ?_
        intro w1 hw1
        have hB2 := nextW hb hw1.out
        clear hw1 c0 c1 d0 d1 hb v1 v2 t2 hd b1'
        go_wp2_with fail
        go_ret
        exact ⟨rfl, nextW hB hB2⟩
    · obtain rfl : k = N := by omega
      have b1' : decide ((k : Int) + 2 < (ps.length : Int)) = false := by simp; omega
      have b1 : (ps.length : Int) ≤ (k : Int) + 2 := by omega
      have v1 : IntKind.i64.wrap ((k : Int) + 2) = (k : Int) + 2 := IntWalk.i64_in _ (by omega)
      go_wp2_with fail
      refine wp_region_below (by kernel_rfl) (by kernel_rfl) ?_
      iterate 16 (first
        | (refine stepS rfl ?_; simp only [Act.put, List.setIfInBounds_toArray, List.set_cons_zero, List.set_cons_succ])
        | (refine stepV (v := ?_) rfl (fun W hW => ?_) ?_
           rotate_left
           focus
             go_simp
             try with_reducible rfl
             done
           simp only [Act.put, List.setIfInBounds_toArray, List.set_cons_zero, List.set_cons_succ]))
      refine stepN ?_
      intro w1 hw1
      have hB2 := nextW hb hw1.out
      clear hw1 v1 b1'
      go_wp2_with fail
      go_ret
      exact ⟨rfl, nextW hB hB2⟩

end Go.Proofs.Ytkeajfgcjmhmiaa

namespace Go.Proofs.Ytkeajfgcjmhmiaa
open Go.RowKit

/-- What the reference's value gives: nought where a part does not fit. -/
def atQ (ps : List Pt) (x : Q) : Int × Int × Bool := if (valQ ps x).2 = true then ((valQ ps x).1.1, (valQ ps x).1.2, true) else (0, 0, false)

theorem coord4 {p : Pt} (cx : coordQ p.1.1 p.1.2 = true) (cy : coordQ p.2.1 p.2.2 = true) : Sm p.1.1 ∧ Sm p.1.2 ∧ Sm p.2.1 ∧ Sm p.2.2 := ⟨(coord_smQ cx).1, (coord_smQ cx).2, (coord_smQ cy).1, (coord_smQ cy).2⟩

theorem lowQ_keep {n d : Int} (h : (lowQ n d).2.2 = true) : keepQ (lowQ n d) = ((lowQ n d).1, (lowQ n d).2.1) := by unfold keepQ; rw [if_pos h]

/-- The reference's line, at a piece of a map. -/
theorem imOn_is {ps : List Pt} {x1 x2 : Int} {p q : Pt} (h : AtPiece ps (x1, x2) p q) (hx : unitQ x1 x2 = true) (a b : Int) (t : Bool) (ha : atQ ps (x1, x2) = (a, b, t)) (w : World) :
    Calls Try.prog 84 #[.agg #[.int .i64 p.1.1, .int .i64 p.1.2, .int .i64 p.2.1, .int .i64 p.2.2], .agg #[.int .i64 q.1.1, .int .i64 q.1.2, .int .i64 q.2.1, .int .i64 q.2.2], .agg #[.int .i64 x1, .int .i64 x2]] w (LowEnd a b t w) := by
  rcases hs : slopeQ p q with ⟨s1, s2⟩
  have xs : Sm x1 ∧ Sm x2 := Sm.of_ok (unitQ_ok hx)
  obtain ⟨so, -⟩ := slopeQ_ok h.cx h.cy h.dx h.dy h.rise
  rw [hs] at so
  have ss : Sm s1 ∧ Sm s2 := Sm.of_ok so
  rcases hd : lowQ (x1 * p.1.2 - p.1.1 * x2) (x2 * p.1.2) with ⟨d1, d2, td⟩
  rcases hm : lowQ (d1 * s1) (d2 * s2) with ⟨m1, m2, tm⟩
  rcases hr : lowQ (p.2.1 * m2 + m1 * p.2.2) (p.2.2 * m2) with ⟨r1, r2, tr⟩
  have k1 := unitQ_ok hx
  have k2 := unitQ_ok (coordQ_unit h.cx)
  have k3 := unitQ_ok (coordQ_unit h.cy)
  refine imOn_raw _ _ _ _ _ _ _ _ x1 x2 s1 s2 d1 d2 m1 m2 r1 r2 a b td tm tr t w ⟨coord4 h.cx h.cy, xs.1, xs.2, ss.1, ss.2⟩ (fun W => imSlope_is h.cx h.cy h.dx h.dy h.rise hs W) hd hm hr ?_
  rw [← ha]
  unfold atQ
  rw [valQ_at h, hs]
  unfold onQ
  simp only
  have e1 : subQ x1 x2 p.1.1 p.1.2 = (d1, d2, td) := by unfold subQ; rw [if_pos (by rw [k1, k2]; rfl)]; exact hd
  rw [e1]
  cases td
  · simp
  · have o1 := (lowQ_ok hd).1 rfl
    have e2 : mulQ s1 s2 (keepQ (d1, d2, true)).1 (keepQ (d1, d2, true)).2 = (m1, m2, tm) := by
      show mulQ s1 s2 d1 d2 = _
      unfold mulQ; rw [if_pos (by rw [so, o1]; rfl), Int.mul_comm s1, Int.mul_comm s2]; exact hm
    rw [e2]
    cases tm
    · simp
    · have o2 := (lowQ_ok hm).1 rfl
      have e3 : addQ p.2.1 p.2.2 (keepQ (m1, m2, true)).1 (keepQ (m1, m2, true)).2 = (r1, r2, tr) := by
        show addQ p.2.1 p.2.2 m1 m2 = _
        unfold addQ; rw [if_pos (by rw [k3, o2]; rfl)]; exact hr
      rw [e3]
      cases tr
      · have := (lowQ_ok hr).2 rfl
        simp [this.1, this.2]
      · simp [keepQ]

theorem imPiece_is {ps : List Pt} {x1 x2 : Int} {p q : Pt} (v : Value) (w : World) (h : AtPiece ps (x1, x2) p q) (hv : RdP w v ps) (hm : okMap ps = true) (hx : unitQ x1 x2 = true) :
    Calls Try.prog 83 #[v, .agg #[.int .i64 x1, .int .i64 x2]] w fun e w' => e = .returned (.int .i64 (pieceN ps (x1, x2))) ∧ Below w.heap.size w w' := by
  have xs : Sm x1 ∧ Sm x2 := Sm.of_ok (unitQ_ok hx)
  refine imPiece_raw ps v x1 x2 (pieceN ps (x1, x2)) w hv (fun p hp => ?_) xs.1 xs.2 ?_ (fun k y hk hy => pieceN_before hk hy) (fun y hy => pieceN_here hy)
  · obtain ⟨i, hi, rfl⟩ := List.getElem_of_mem hp
    exact coord_smQ (okMap_coord hm (List.getElem?_eq_getElem hi)).1
  · exact (List.getElem?_eq_some_iff.1 h.next).1

set_option maxHeartbeats 1600000 in
theorem imAt_is (ps : List Pt) (v : Value) (x1 x2 a b : Int) (t : Bool) (w : World) (hv : RdP w v ps) (hm : okMap ps = true) (hx : unitQ x1 x2 = true) (ha : atQ ps (x1, x2) = (a, b, t)) :
    Calls Try.prog 68 #[v, .agg #[.int .i64 x1, .int .i64 x2]] w (LowEnd a b t w) := by
  obtain ⟨p, q, h⟩ := atPiece (x := (x1, x2)) hm hx
  have hv0 := hv
  obtain ⟨A, c, rfl, hl, hmx, hcell⟩ := hv
  unfold maxLen at hmx
  have hN := (List.getElem?_eq_some_iff.1 h.next).1
  obtain ⟨g, o, rfl, hg, hc⟩ := hcell (by intro h; rw [h] at hN; simp at hN)
  obtain ⟨c0, c1, c2, c3⟩ := hc _ _ h.here
  obtain ⟨d0, d1, d2, d3⟩ := hc _ _ h.next
  have HP := Lib.hid (fun W hW => imPiece_is (ps := ps) (.slice (some ⟨g, o, none⟩) ps.length c) W h hW hm hx)
  have HO := Lib.hid (imOn_is h hx a b t ha)
  have HV := Lib.hid hv0
  clear hcell hc ha hv0 hx hm h
  generalize pieceN ps (x1, x2) = N at *
  obtain ⟨⟨p1, p2⟩, p3, p4⟩ := p
  obtain ⟨⟨q1, q2⟩, q3, q4⟩ := q
  go_enter Try.func68, Try.ntmps68
  go_wp2_with fail
  refine (HP.out _ (HV.out.keep (by go_grown))).mono ?_
  rintro e w1 ⟨rfl, hb⟩
  have hX : Below w.heap.size w w1 := nextX (by go_grown) hb
  replace c0 := cellB hX c0
  replace c1 := cellB hX c1
  replace c2 := cellB hX c2
  replace c3 := cellB hX c3
  replace d0 := cellB hX d0
  replace d1 := cellB hX d1
  replace d2 := cellB hX d2
  replace d3 := cellB hX d3
  have e0 : w1.cell? ⟨w.heap.size, 0, none⟩ = some (.int .i64 x1) := cellB hb (by simp [go_sem])
  have e1 : w1.cell? ⟨w.heap.size, 1, none⟩ = some (.int .i64 x2) := cellB hb (by simp [go_sem])
  obtain ⟨r0, r0'⟩ : Slot w1 (w.heap.size + 1) 0 (.int .i64 0) := slotB hb ⟨by simp [go_sem], by simp [go_sem]⟩
  obtain ⟨r1, r1'⟩ : Slot w1 (w.heap.size + 1) 1 (.int .i64 0) := slotB hb ⟨by simp [go_sem], by simp [go_sem]⟩
  have b0 : (0 : Int) ≤ (N : Int) := by omega
  have b1 : (N : Int) < (ps.length : Int) := by omega
  have b2 : (N : Int) + 1 < (ps.length : Int) := by omega
  have b3 : (0 : Int) ≤ (N : Int) + 1 := by omega
  have t2 : ((N : Int) + 1).toNat = N + 1 := by omega
  have v1 : IntKind.i64.wrap ((N : Int)) = (N : Int) := IntWalk.i64_in _ (by omega)
  have v2 : IntKind.i64.wrap ((N : Int) + 1) = (N : Int) + 1 := IntWalk.i64_in _ (by omega)
  clear hb
  have kL : Facts [(g, o + N * 4, .int .i64 p1), (g, o + N * 4 + 1, .int .i64 p2), (g, o + N * 4 + 2, .int .i64 p3), (g, o + N * 4 + 3, .int .i64 p4), (g, o + (N + 1) * 4, .int .i64 q1), (g, o + (N + 1) * 4 + 1, .int .i64 q2), (g, o + (N + 1) * 4 + 2, .int .i64 q3), (g, o + (N + 1) * 4 + 3, .int .i64 q4), (w.heap.size, 0, .int .i64 x1), (w.heap.size, 1, .int .i64 x2)] w1 := ⟨c0, c1, c2, c3, d0, d1, d2, d3, e0, e1⟩
  go_wp2_with fail
  go_region_held3 (fun w' => w'.cell? ⟨g, o + N * 4, none⟩ = some (.int .i64 p1) ∧ w'.cell? ⟨g, o + N * 4 + 1, none⟩ = some (.int .i64 p2) ∧ w'.cell? ⟨g, o + N * 4 + 2, none⟩ = some (.int .i64 p3) ∧ w'.cell? ⟨g, o + N * 4 + 3, none⟩ = some (.int .i64 p4) ∧ w'.cell? ⟨g, o + (N + 1) * 4, none⟩ = some (.int .i64 q1) ∧ w'.cell? ⟨g, o + (N + 1) * 4 + 1, none⟩ = some (.int .i64 q2) ∧ w'.cell? ⟨g, o + (N + 1) * 4 + 2, none⟩ = some (.int .i64 q3) ∧ w'.cell? ⟨g, o + (N + 1) * 4 + 3, none⟩ = some (.int .i64 q4) ∧ w'.cell? ⟨w.heap.size, 0, none⟩ = some (.int .i64 x1) ∧ w'.cell? ⟨w.heap.size, 1, none⟩ = some (.int .i64 x2))
    ((first | (refine Facts.keep kL ?_; go_grown; done) | (refine Facts.put (Facts.put (Facts.keep kL ?_) ?_) ?_ <;> first | (go_grown; done) | (simp; omega))))
    ((first
      | (go_at_call 84; (with_reducible refine (HO.out _).mono ?_); rintro e w2 ⟨rfl, hb2⟩; have hX2 : Below w1.heap.size w1 w2 := nextX (by go_grown) hb2; have z2 := hX2.size; obtain ⟨q0, k0⟩ := slotB hX2 ⟨r0, r0'⟩; obtain ⟨q1, k1⟩ := slotB hX2 ⟨r1, r1'⟩)))
  go_wp2_with fail
  refine bodyPost_ret (v := .tuple #[.agg #[.int .i64 a, .int .i64 b], .bool t]) (by simp [results, Try.results68, go_sem, q0, q1]) rfl ⟨rfl, ?_⟩
  have hF := nextW hX hX2
  go_grown

end Go.Proofs.Ytkeajfgcjmhmiaa

namespace Go.Proofs.Ytkeajfgcjmhmiaa
open Go.RowKit

/-- A slice that lies in a block older than g. -/
def Old (g : Nat) (v : Value) : Prop := ∀ A n c, v = .slice (some A) n c → A.block < g
theorem RdP.keepU {g : Nat} {w w' : World} {v : Value} {ps : List Pt} (h : RdP w v ps) (hb : But g w w') (ho : Old g v) : RdP w' v ps := by
  obtain ⟨A, c, rfl, h1, h2, h3⟩ := h
  refine ⟨A, c, rfl, h1, h2, fun hn => ?_⟩
  obtain ⟨b, o, rfl, hg, hc⟩ := h3 hn
  have hlt : b < g := ho _ _ _ rfl
  refine ⟨b, o, rfl, Nat.lt_of_lt_of_le hg hb.size, fun i p hp => ?_⟩
  obtain ⟨a1, a2, a3, a4⟩ := hc i p hp
  exact ⟨cellU hb (by omega) a1, cellU hb (by omega) a2, cellU hb (by omega) a3, cellU hb (by omega) a4⟩
theorem RdP.old {w : World} {v : Value} {ps : List Pt} (h : RdP w v ps) (hn : ps ≠ []) {g : Nat} (hg : w.heap.size ≤ g) : Old g v := by
  obtain ⟨A, c, rfl, h1, h2, h3⟩ := h
  obtain ⟨b, o, rfl, hb, -⟩ := h3 hn
  intro A' n c' e
  cases e
  exact Nat.lt_of_lt_of_le hb hg
theorem Old.le {g k : Nat} {v : Value} (h : Old g v) (hk : g ≤ k) : Old k v := fun A n c e => Nat.lt_of_lt_of_le (h A n c e) hk
theorem okMap_ne {ps : List Pt} (h : okMap ps = true) : ps ≠ [] := by
  have := (okMap_len h).1
  intro e; rw [e] at this; simp at this

theorem pieceAt_map {ps : List Pt} {x1 x2 : Int} {p q : Pt} (v : Value) (w : World) (h : AtPiece ps (x1, x2) p q) (hv : RdP w v ps) (hm : okMap ps = true) (hx : unitQ x1 x2 = true) :
    Calls Try.prog 70 #[v, .agg #[.int .i64 x1, .int .i64 x2]] w fun e w' => e = .returned (.int .i64 (pieceN ps (x1, x2))) ∧ Below w.heap.size w w' := by
  have xs : Sm x1 ∧ Sm x2 := Sm.of_ok (unitQ_ok hx)
  refine pieceAt_is ps v x1 x2 (idxB (fromQ x1 x2) ps) _ w hv (fun p hp => ?_) xs.1 xs.2 rfl ?_ h.idx
  · obtain ⟨i, hi, rfl⟩ := List.getElem_of_mem hp
    exact coord_smQ (okMap_coord hm (List.getElem?_eq_getElem hi)).1
  · have := idxB_bd (fromQ x1 x2) ps
    have := (okMap_len hm).2
    omega

/-- The program's line, at a piece of a map. -/
theorem line_at {ps : List Pt} {x1 x2 : Int} {p q : Pt} (h : AtPiece ps (x1, x2) p q) {s1 s2 y1 y2 : Int} {t bad bad' : Bool} (hs : slopeQ p q = (s1, s2)) (hy : valQ ps (x1, x2) = ((y1, y2), t)) (hb : (bad || !t) = bad') (g : Nat) (w : World) (hg : Slot w g 0 (.bool bad)) :
    Calls Try.prog 71 #[.pointer (some ⟨g, 0, none⟩), .agg #[.int .i64 p.1.1, .int .i64 p.1.2, .int .i64 p.2.1, .int .i64 p.2.2], .agg #[.int .i64 s1, .int .i64 s2], .agg #[.int .i64 x1, .int .i64 x2]] w (KeepEnd g y1 y2 bad' w) := by
  have k1 := (coord_smQ h.cx).1.bd
  rw [valQ_at h, hs] at hy
  unfold onQ at hy
  simp only [Prod.mk.injEq] at hy
  obtain ⟨hr, ht⟩ := hy
  refine line_any p.1.1 p.1.2 p.2.1 p.2.2 s1 s2 x1 x2 (keepQ (subQ x1 x2 p.1.1 p.1.2)).1 (keepQ (subQ x1 x2 p.1.1 p.1.2)).2
    (keepQ (mulQ s1 s2 (keepQ (subQ x1 x2 p.1.1 p.1.2)).1 (keepQ (subQ x1 x2 p.1.1 p.1.2)).2)).1 (keepQ (mulQ s1 s2 (keepQ (subQ x1 x2 p.1.1 p.1.2)).1 (keepQ (subQ x1 x2 p.1.1 p.1.2)).2)).2
    y1 y2 bad _ _ bad' g w hg (by omega) rfl rfl rfl rfl hr ?_
  rw [← hb, ← ht]
  cases bad <;> simp [Bool.not_and]

set_option maxHeartbeats 1600000 in
theorem value_is (ps : List Pt) (v : Value) (x1 x2 y1 y2 : Int) (t bad bad' : Bool) (gc : Nat) (w : World) (hs : Slot w gc 0 (.bool bad)) (hv : RdP w v ps) (ho : Old gc v) (hm : okMap ps = true) (hx : unitQ x1 x2 = true) (hy : valQ ps (x1, x2) = ((y1, y2), t)) (hb : (bad || !t) = bad') :
    Calls Try.prog 38 #[.pointer (some ⟨gc, 0, none⟩), v, .agg #[.int .i64 x1, .int .i64 x2]] w (KeepEnd gc y1 y2 bad' w) := by
  obtain ⟨p, q, h⟩ := atPiece (x := (x1, x2)) hm hx
  have hgc := lt_of_cell hs.1
  have hv0 := hv
  obtain ⟨A, c, rfl, hl, hmx, hcell⟩ := hv
  unfold maxLen at hmx
  have hN := (List.getElem?_eq_some_iff.1 h.next).1
  obtain ⟨g, o, rfl, hg, hc⟩ := hcell (by intro h; rw [h] at hN; simp at hN)
  have hgg : g < gc := ho _ _ _ rfl
  obtain ⟨c0, c1, c2, c3⟩ := hc _ _ h.here
  obtain ⟨d0, d1, d2, d3⟩ := hc _ _ h.next
  obtain ⟨⟨s1, s2⟩, hsl⟩ : ∃ s, slopeQ p q = s := ⟨_, rfl⟩
  have HP := Lib.hid (fun W hW => pieceAt_map (ps := ps) (.slice (some ⟨g, o, none⟩) ps.length c) W h hW hm hx)
  have HSl := Lib.hid (slope_is h.cx h.cy h.dx h.dy h.rise hsl)
  have HO := Lib.hid (line_at h hsl hy hb gc)
  have HV := Lib.hid hv0
  have HS := Lib.hid hs
  clear hcell hc hy hv0 hx hm h hsl hb hs ho
  generalize pieceN ps (x1, x2) = N at *
  obtain ⟨⟨p1, p2⟩, p3, p4⟩ := p
  obtain ⟨⟨q1, q2⟩, q3, q4⟩ := q
  go_enter Try.func38, Try.ntmps38
  go_wp2_with fail
  refine (HP.out _ (HV.out.keep (by go_grown))).mono ?_
  rintro e w1 ⟨rfl, hb⟩
  have hX : Below w.heap.size w w1 := nextX (by go_grown) hb
  replace c0 := cellB hX c0
  replace c1 := cellB hX c1
  replace c2 := cellB hX c2
  replace c3 := cellB hX c3
  replace d0 := cellB hX d0
  replace d1 := cellB hX d1
  replace d2 := cellB hX d2
  replace d3 := cellB hX d3
  have e0 : w1.cell? ⟨w.heap.size, 0, none⟩ = some (.int .i64 x1) := cellB hb (by simp [go_sem])
  have e1 : w1.cell? ⟨w.heap.size, 1, none⟩ = some (.int .i64 x2) := cellB hb (by simp [go_sem])
  obtain ⟨r0, r0'⟩ : Slot w1 (w.heap.size + 1) 0 (.int .i64 0) := slotB hb ⟨by simp [go_sem], by simp [go_sem]⟩
  obtain ⟨r1, r1'⟩ : Slot w1 (w.heap.size + 1) 1 (.int .i64 0) := slotB hb ⟨by simp [go_sem], by simp [go_sem]⟩
  have z1 := hX.size
  have hS1 := slotB hX HS.out
  have b0 : (0 : Int) ≤ (N : Int) := by omega
  have b1 : (N : Int) < (ps.length : Int) := by omega
  have b2 : (N : Int) + 1 < (ps.length : Int) := by omega
  have b3 : (0 : Int) ≤ (N : Int) + 1 := by omega
  have t2 : ((N : Int) + 1).toNat = N + 1 := by omega
  have v1 : IntKind.i64.wrap ((N : Int)) = (N : Int) := IntWalk.i64_in _ (by omega)
  have v2 : IntKind.i64.wrap ((N : Int) + 1) = (N : Int) + 1 := IntWalk.i64_in _ (by omega)
  clear hb
  have HS1 := Lib.hid hS1
  clear hS1
  have kL : Facts [(g, o + N * 4, .int .i64 p1), (g, o + N * 4 + 1, .int .i64 p2), (g, o + N * 4 + 2, .int .i64 p3), (g, o + N * 4 + 3, .int .i64 p4), (g, o + (N + 1) * 4, .int .i64 q1), (g, o + (N + 1) * 4 + 1, .int .i64 q2), (g, o + (N + 1) * 4 + 2, .int .i64 q3), (g, o + (N + 1) * 4 + 3, .int .i64 q4), (w.heap.size, 0, .int .i64 x1), (w.heap.size, 1, .int .i64 x2)] w1 := ⟨c0, c1, c2, c3, d0, d1, d2, d3, e0, e1⟩
  go_wp2_with fail
  go_region_held3 (fun w' => w'.cell? ⟨g, o + N * 4, none⟩ = some (.int .i64 p1) ∧ w'.cell? ⟨g, o + N * 4 + 1, none⟩ = some (.int .i64 p2) ∧ w'.cell? ⟨g, o + N * 4 + 2, none⟩ = some (.int .i64 p3) ∧ w'.cell? ⟨g, o + N * 4 + 3, none⟩ = some (.int .i64 p4) ∧ w'.cell? ⟨g, o + (N + 1) * 4, none⟩ = some (.int .i64 q1) ∧ w'.cell? ⟨g, o + (N + 1) * 4 + 1, none⟩ = some (.int .i64 q2) ∧ w'.cell? ⟨g, o + (N + 1) * 4 + 2, none⟩ = some (.int .i64 q3) ∧ w'.cell? ⟨g, o + (N + 1) * 4 + 3, none⟩ = some (.int .i64 q4) ∧ w'.cell? ⟨w.heap.size, 0, none⟩ = some (.int .i64 x1) ∧ w'.cell? ⟨w.heap.size, 1, none⟩ = some (.int .i64 x2))
    ((first | exact kL3 | (refine Facts.keep kL ?_; go_grown; done) | (refine Facts.put (Facts.put kL3 ?_) ?_ <;> (simp; omega))))
    ((first
      | (go_at_call 52; (with_reducible refine (HSl.out _ _).mono ?_); rintro e w2 ⟨rfl, hb2⟩; have hX2 : Below w1.heap.size w1 w2 := nextX (by go_grown) hb2; have z2 := hX2.size)
      | (go_at_call 71; (with_reducible refine (HO.out _ (slotB hX2 HS1.out)).mono ?_); rintro e w3 ⟨rfl, g3, k3⟩; have kL3 := Facts.keepU (Facts.keep kL hX2) k3 (by simp; omega); obtain ⟨q0, k0⟩ := slotU k3 (by omega) (slotB hX2 ⟨r0, r0'⟩); obtain ⟨q1, k1⟩ := slotU k3 (by omega) (slotB hX2 ⟨r1, r1'⟩))))
  go_wp2_with fail
  refine bodyPost_ret (v := .agg #[.int .i64 y1, .int .i64 y2]) (by simp [results, Try.results38, go_sem, q0, q1]) rfl ⟨rfl, ?_, ?_⟩
  · refine slotS (slotS g3 ?_) ?_ <;> simp <;> omega
  · refine But.setNew (But.setNew (But.trans (But.of_below (nextW hX hX2) (Nat.le_refl _)) k3) ?_ _) ?_ _ <;> omega

end Go.Proofs.Ytkeajfgcjmhmiaa

namespace Go.Proofs.Ytkeajfgcjmhmiaa
open Go.RowKit

def vaQ (ps : List Pt) (x : Q) : Int × Int × Bool := if okMap ps = true ∧ unitQ x.1 x.2 = true then atQ ps x else (0, 0, false)

set_option maxHeartbeats 800000 in
theorem iValueAt_is (ps : List Pt) (v : Value) (x1 x2 a b : Int) (t : Bool) (w : World) (hv : RdP w v ps) (hn : ps.length ≤ 1048576) (ha : vaQ ps (x1, x2) = (a, b, t)) :
    Calls Try.prog 16 #[v, .agg #[.int .i64 x1, .int .i64 x2]] w (LowEnd a b t w) := by
  have HV := Lib.hid hv
  rcases hm : okMap ps with _ | _
  · have E : (0, 0, false) = (a, b, t) := by rw [← ha]; unfold vaQ; rw [if_neg (by rw [hm]; simp)]
    cases E
    have HM := Lib.hid hm
    clear hv ha hm
    go_enter Try.func16, Try.ntmps16
    go_wp2_with fail
    refine (isMap_is ps v false _ (HV.out.keep (by go_grown)) hn HM.out).mono ?_
    rintro e w1 ⟨rfl, hb⟩
    have hX : Below w.heap.size w w1 := nextX (by go_grown) hb
    obtain ⟨r0, r0'⟩ : Slot w1 (w.heap.size + 1) 0 (.int .i64 0) := slotB hb ⟨by simp [go_sem], by simp [go_sem]⟩
    obtain ⟨r1, r1'⟩ : Slot w1 (w.heap.size + 1) 1 (.int .i64 0) := slotB hb ⟨by simp [go_sem], by simp [go_sem]⟩
    clear hb
    go_wp2_with fail
    refine bodyPost_ret (v := .tuple #[.agg #[.int .i64 0, .int .i64 0], .bool false]) (by simp [results, Try.results16, go_sem, r0, r1]) rfl ⟨rfl, ?_⟩
    go_grown
  · rcases hx : unitQ x1 x2 with _ | _
    · have E : (0, 0, false) = (a, b, t) := by rw [← ha]; unfold vaQ; rw [if_neg (by rw [hx]; simp)]
      cases E
      have HM := Lib.hid hm
      have HX := Lib.hid hx
      clear hv ha hm hx
      go_enter Try.func16, Try.ntmps16
      go_wp2_with fail
      refine (isMap_is ps v true _ (HV.out.keep (by go_grown)) hn HM.out).mono ?_
      rintro e w1 ⟨rfl, hb⟩
      have hX : Below w.heap.size w w1 := nextX (by go_grown) hb
      have e0 : w1.cell? ⟨w.heap.size, 0, none⟩ = some (.int .i64 x1) := cellB hb (by simp [go_sem])
      have e1 : w1.cell? ⟨w.heap.size, 1, none⟩ = some (.int .i64 x2) := cellB hb (by simp [go_sem])
      have r0 : Slot w1 (w.heap.size + 1) 0 (.int .i64 0) := slotB hb ⟨by simp [go_sem], by simp [go_sem]⟩
      have r1 : Slot w1 (w.heap.size + 1) 1 (.int .i64 0) := slotB hb ⟨by simp [go_sem], by simp [go_sem]⟩
      clear hb
      go_wp2_with fail
      refine (isUnit_any x1 x2 _).mono ?_
      rintro e w2 ⟨he, hb⟩
      rw [HX.out] at he
      subst he
      replace hX := nextX hX hb
      obtain ⟨r0, r0'⟩ := slotB hb r0
      obtain ⟨r1, r1'⟩ := slotB hb r1
      clear hb e0 e1
      go_wp2_with fail
      refine bodyPost_ret (v := .tuple #[.agg #[.int .i64 0, .int .i64 0], .bool false]) (by simp [results, Try.results16, go_sem, r0, r1]) rfl ⟨rfl, ?_⟩
      go_grown
    · have E : atQ ps (x1, x2) = (a, b, t) := by rw [← ha]; unfold vaQ; rw [if_pos ⟨hm, hx⟩]
      rcases hr : valQ ps (x1, x2) with ⟨⟨y1, y2⟩, ty⟩
      have HY := Lib.hid hr
      have HE := Lib.hid (show (if ty = true then (y1, y2, true) else (0, 0, false)) = (a, b, t) by rw [← E]; unfold atQ; rw [hr])
      have HM := Lib.hid hm
      have HX := Lib.hid hx
      clear hv ha hm hx E hr
      go_enter Try.func16, Try.ntmps16
      go_wp2_with fail
      refine (isMap_is ps v true _ (HV.out.keep (by go_grown)) hn HM.out).mono ?_
      rintro e w1 ⟨rfl, hb⟩
      have hX : Below w.heap.size w w1 := nextX (by go_grown) hb
      have e0 : w1.cell? ⟨w.heap.size, 0, none⟩ = some (.int .i64 x1) := cellB hb (by simp [go_sem])
      have e1 : w1.cell? ⟨w.heap.size, 1, none⟩ = some (.int .i64 x2) := cellB hb (by simp [go_sem])
      have r0 : Slot w1 (w.heap.size + 1) 0 (.int .i64 0) := slotB hb ⟨by simp [go_sem], by simp [go_sem]⟩
      have r1 : Slot w1 (w.heap.size + 1) 1 (.int .i64 0) := slotB hb ⟨by simp [go_sem], by simp [go_sem]⟩
      clear hb
      go_wp2_with fail
      refine (isUnit_any x1 x2 _).mono ?_
      rintro e w2 ⟨he, hb⟩
      rw [HX.out] at he
      subst he
      replace hX := nextX hX hb
      replace r0 := slotB hb r0
      replace r1 := slotB hb r1
      replace e0 := cellB hb e0
      replace e1 := cellB hb e1
      have z := lt_of_cell r0.1
      have z' := lt_of_cell e0
      clear hb
      go_wp2_with fail
      refine (value_is ps v x1 x2 y1 y2 ty false _ w2.heap.size _ ⟨by simp [go_sem], by simp [go_sem]⟩ (HV.out.keep (by go_grown)) (HV.out.old (okMap_ne HM.out) hX.size) HM.out HX.out HY.out rfl).mono ?_
      rintro e w3 ⟨rfl, g3, k3⟩
      replace hX := But.below (B := w.heap.size) (w0 := w) (by go_grown) k3 (by omega) (by go_size)
      obtain ⟨r0, r0'⟩ := slotU k3 (by omega) (slotA _ r0)
      obtain ⟨r1, r1'⟩ := slotU k3 (by omega) (slotA _ r1)
      have z3 := lt_of_cell r0
      obtain ⟨g3, g3'⟩ := g3
      have z4 := lt_of_cell g3
      clear k3 e0 e1
      have E := HE.out
      cases ty
      · simp at E
        obtain ⟨rfl, rfl, rfl⟩ := E
        go_wp2_with fail
        refine bodyPost_ret (v := .tuple #[.agg #[.int .i64 0, .int .i64 0], .bool false]) (by simp [results, Try.results16, go_sem, r0, r1, z3]) rfl ⟨rfl, ?_⟩
        go_grown
      · simp at E
        obtain ⟨rfl, rfl, rfl⟩ := E
        go_wp2_with fail
        refine bodyPost_ret (v := .tuple #[.agg #[.int .i64 y1, .int .i64 y2], .bool true]) (by simp [results, Try.results16, go_sem, r0, r1, z3]) rfl ⟨rfl, ?_⟩
        go_grown

end Go.Proofs.Ytkeajfgcjmhmiaa
