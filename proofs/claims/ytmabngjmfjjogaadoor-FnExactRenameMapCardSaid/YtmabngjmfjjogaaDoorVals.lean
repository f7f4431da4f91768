/- Plain: fractions as rational numbers. No program in sight. · Plain: the value of a map at a fraction. · The reference's slope and line. · The reference's value on a line. · The reference's piece and value. · The value of a map: the reference's imAt, the program's value. · The program's value, and ValueAt of both. · ValueAt of both. -/
import Derived.Test.YtmabngjmfjjogaaDoorCalcs
import Derived.Test.YtmabngjmfjjogaaDoorFrac
import Derived.Test.YtmabngjmfjjogaaDoorMaps
namespace Go.Proofs.YtmabngjmfjjogaaDoor

/-- The rational number of a numerator and a denominator. -/
def toR (q : Q) : Rat := (q.1 : Rat) / (q.2 : Rat)
/-- A rational number as a fraction, if it is small enough. -/
def fitR (r : Rat) : Int × Int × Bool := if okQ r.num r.den = true then (r.num, (r.den : Int), true) else (0, 0, false)

theorem toR_divInt (q : Q) : toR q = Rat.divInt q.1 q.2 := (Rat.divInt_eq_div ..).symm

theorem lowQ_fit (N D : Int) (h : D ≠ 0) : lowQ N D = fitR (toR (N, D)) := by
  have e1 : N.tdiv (cutQ N D) = (toR (N, D)).num := by
    rw [toR_divInt, Rat.num_divInt, (tdiv_cutQ N D).1]
    unfold cutQ
    rw [Int.gcd_comm D N]
    split
    · rename_i h1
      rw [Int.sign_eq_neg_one_of_neg h1, Int.ediv_neg, Int.neg_mul, Int.one_mul, Int.neg_ediv_of_dvd (Int.gcd_dvd_left ..)]
    · rw [Int.sign_eq_one_of_pos (by omega), Int.one_mul]
  have e2 : D.tdiv (cutQ N D) = ((toR (N, D)).den : Int) := by
    rw [toR_divInt, Rat.den_divInt, if_neg h, (tdiv_cutQ N D).2]
    unfold cutQ
    rw [Int.gcd_comm D N]
    rw [Int.natCast_ediv]
    split
    · rename_i h1
      rw [Int.ediv_neg, ← Int.neg_ediv_of_dvd (Int.gcd_dvd_right ..), Int.ofNat_natAbs_of_nonpos (by omega)]
    · rw [Int.natAbs_of_nonneg (by omega)]
  unfold lowQ fitR
  rw [e1, e2]

theorem toR_num {a b : Int} (h : okQ a b = true) : (toR (a, b)).num = a ∧ ((toR (a, b)).den : Int) = b := by
  have h1 := okQ_bd h
  have h2 := okQ_gcd h
  rw [toR_divInt]
  constructor
  · rw [Rat.num_divInt, Int.gcd_comm, h2, Int.sign_eq_one_of_pos (by omega)]; simp
  · rw [Rat.den_divInt, if_neg (by omega), Int.gcd_comm, h2]; simp; omega
theorem fitR_toR {a b : Int} (h : okQ a b = true) : fitR (toR (a, b)) = (a, b, true) := by
  obtain ⟨e1, e2⟩ := toR_num h
  unfold fitR; rw [e1, e2, if_pos h]
theorem toR_inj {p q : Q} (hp : okQ p.1 p.2 = true) (hq : okQ q.1 q.2 = true) (h : toR p = toR q) : p = q := by
  obtain ⟨a, b⟩ := p
  obtain ⟨c, d⟩ := q
  obtain ⟨e1, e2⟩ := toR_num hp
  obtain ⟨f1, f2⟩ := toR_num hq
  rw [h] at e1 e2
  simp only at *
  rw [← e1, ← e2, f1, f2]
theorem fitR_yes {r : Rat} {a b : Int} (h : fitR r = (a, b, true)) : toR (a, b) = r ∧ okQ a b = true := by
  unfold fitR at h
  split at h
  · rename_i hk
    simp only [Prod.mk.injEq, and_true] at h
    obtain ⟨rfl, rfl⟩ := h
    refine ⟨?_, hk⟩
    show ((r.num : Rat) / ((r.den : Int) : Rat)) = r
    rw [← Rat.divInt_eq_div, Rat.num_divInt_den]
  · simp at h
theorem fitR_no {r : Rat} {a b : Int} (h : fitR r = (a, b, false)) : a = 0 ∧ b = 0 := by
  unfold fitR at h
  split at h
  · simp at h
  · simp only [Prod.mk.injEq, and_true] at h; exact ⟨h.1.symm, h.2.symm⟩
theorem fitR_iff {r : Rat} {a b : Int} : fitR r = (a, b, true) ↔ (toR (a, b) = r ∧ okQ a b = true) :=
  ⟨fitR_yes, fun ⟨h1, h2⟩ => by rw [← h1]; exact fitR_toR h2⟩

theorem den_ne {n d : Int} (h : okQ n d = true) : (d : Rat) ≠ 0 := by
  have := okQ_bd h
  intro e
  have : d = 0 := Rat.intCast_inj.1 (e.trans Rat.intCast_zero.symm)
  omega
theorem den_pos {n d : Int} (h : okQ n d = true) : (0 : Rat) < (d : Rat) := by
  have := okQ_bd h
  rw [← Rat.intCast_zero]; exact Rat.intCast_lt_intCast.2 (by omega)

theorem addQ_fit {n1 d1 n2 d2 : Int} (h1 : okQ n1 d1 = true) (h2 : okQ n2 d2 = true) : addQ n1 d1 n2 d2 = fitR (toR (n1, d1) + toR (n2, d2)) := by
  have a := okQ_bd h1
  have b := okQ_bd h2
  unfold addQ
  rw [if_pos (by rw [h1, h2]; rfl), lowQ_fit _ _ (Int.mul_ne_zero (by omega) (by omega))]
  congr 1
  have e1 := den_ne h1
  have e2 := den_ne h2
  simp only [toR, Rat.intCast_add, Rat.intCast_mul]
  grind
theorem subQ_fit {n1 d1 n2 d2 : Int} (h1 : okQ n1 d1 = true) (h2 : okQ n2 d2 = true) : subQ n1 d1 n2 d2 = fitR (toR (n1, d1) - toR (n2, d2)) := by
  have a := okQ_bd h1
  have b := okQ_bd h2
  unfold subQ
  rw [if_pos (by rw [h1, h2]; rfl), lowQ_fit _ _ (Int.mul_ne_zero (by omega) (by omega))]
  congr 1
  have e1 := den_ne h1
  have e2 := den_ne h2
  simp only [toR, Rat.intCast_sub, Rat.intCast_mul]
  grind
theorem mulQ_fit {n1 d1 n2 d2 : Int} (h1 : okQ n1 d1 = true) (h2 : okQ n2 d2 = true) : mulQ n1 d1 n2 d2 = fitR (toR (n1, d1) * toR (n2, d2)) := by
  have a := okQ_bd h1
  have b := okQ_bd h2
  unfold mulQ
  rw [if_pos (by rw [h1, h2]; rfl), lowQ_fit _ _ (Int.mul_ne_zero (by omega) (by omega))]
  congr 1
  have e1 := den_ne h1
  have e2 := den_ne h2
  simp only [toR, Rat.intCast_mul]
  grind
theorem midQ_fit {n1 d1 n2 d2 : Int} (h1 : okQ n1 d1 = true) (h2 : okQ n2 d2 = true) : midQ n1 d1 n2 d2 = fitR ((toR (n1, d1) + toR (n2, d2)) / 2) := by
  have a := okQ_bd h1
  have b := okQ_bd h2
  unfold midQ
  rw [if_pos (by rw [h1, h2]; rfl), lowQ_fit _ _ (Int.mul_ne_zero (Int.mul_ne_zero (by omega) (by omega)) (by omega))]
  congr 1
  have e1 := den_ne h1
  have e2 := den_ne h2
  simp only [toR, Rat.intCast_mul, Rat.intCast_add]
  have : ((2 : Int) : Rat) = 2 := rfl
  rw [this]
  grind
theorem num_zero {n d : Int} (h : okQ n d = true) : toR (n, d) = 0 ↔ n = 0 := by
  have := den_ne h
  unfold toR
  constructor
  · intro e
    have e2 : (n : Rat) = 0 := by simp only at e; grind
    exact Rat.intCast_inj.1 (e2.trans Rat.intCast_zero.symm)
  · rintro rfl; simp only [Rat.intCast_zero]; grind
theorem divQ_fit {n1 d1 n2 d2 : Int} (h1 : okQ n1 d1 = true) (h2 : okQ n2 d2 = true) (h0 : toR (n2, d2) ≠ 0) : divQ n1 d1 n2 d2 = fitR (toR (n1, d1) / toR (n2, d2)) := by
  have a := okQ_bd h1
  have b := okQ_bd h2
  have hn : n2 ≠ 0 := fun e => h0 ((num_zero h2).2 e)
  have hn2 : (n2 : Rat) ≠ 0 := fun e => hn (Rat.intCast_inj.1 (e.trans Rat.intCast_zero.symm))
  unfold divQ
  rw [if_pos ⟨by rw [h1, h2]; rfl, hn⟩, lowQ_fit _ _ (Int.mul_ne_zero (by omega) (by omega))]
  congr 1
  have e1 := den_ne h1
  have e2 := den_ne h2
  simp only [toR, Rat.intCast_mul]
  grind
theorem divQ_zero {n1 d1 n2 d2 : Int} (h2 : okQ n2 d2 = true) (h0 : toR (n2, d2) = 0) : divQ n1 d1 n2 d2 = (0, 0, false) := by
  have hn : n2 = 0 := (num_zero h2).1 h0
  unfold divQ
  rw [if_neg (by intro h; exact h.2 hn)]

theorem lessQ_iff {n1 d1 n2 d2 : Int} (h1 : 1 ≤ d1) (h2 : 1 ≤ d2) : lessQ n1 d1 n2 d2 = true ↔ toR (n1, d1) < toR (n2, d2) := by
  have e1 : (0 : Rat) < (d1 : Rat) := by rw [← Rat.intCast_zero]; exact Rat.intCast_lt_intCast.2 (by omega)
  have e2 : (0 : Rat) < (d2 : Rat) := by rw [← Rat.intCast_zero]; exact Rat.intCast_lt_intCast.2 (by omega)
  simp only [lessQ, decide_eq_true_eq, toR]
  rw [Rat.div_lt_iff e1, ← Rat.intCast_lt_intCast, Rat.intCast_mul, Rat.intCast_mul]
  have : (n2 : Rat) / d2 * d1 = (n2 * d1) / d2 := by grind
  rw [this, Rat.lt_div_iff e2]
theorem cmpQ_lt {n1 d1 n2 d2 : Int} (h1 : 1 ≤ d1) (h2 : 1 ≤ d2) : cmpQ n1 d1 n2 d2 < 0 ↔ toR (n1, d1) < toR (n2, d2) := by
  rw [← lessQ_iff h1 h2, lessQ_cmp]; simp
theorem cmpQ_swap (n1 d1 n2 d2 : Int) : cmpQ n2 d2 n1 d1 = - cmpQ n1 d1 n2 d2 := by
  unfold cmpQ; split <;> split <;> first | omega | (split <;> omega)
theorem cmpQ_gt {n1 d1 n2 d2 : Int} (h1 : 1 ≤ d1) (h2 : 1 ≤ d2) : 0 < cmpQ n1 d1 n2 d2 ↔ toR (n2, d2) < toR (n1, d1) := by
  rw [← cmpQ_lt h2 h1, cmpQ_swap n1 d1]; omega
theorem cmpQ_eq {n1 d1 n2 d2 : Int} (h1 : 1 ≤ d1) (h2 : 1 ≤ d2) : cmpQ n1 d1 n2 d2 = 0 ↔ toR (n1, d1) = toR (n2, d2) := by
  have a := cmpQ_lt (n1 := n1) (n2 := n2) h1 h2
  have b := cmpQ_gt (n1 := n1) (n2 := n2) h1 h2
  constructor
  · intro h
    have h3 : ¬ toR (n1, d1) < toR (n2, d2) := fun hh => by have := a.2 hh; omega
    have h4 : ¬ toR (n2, d2) < toR (n1, d1) := fun hh => by have := b.2 hh; omega
    grind
  · intro h
    have h3 : ¬ cmpQ n1 d1 n2 d2 < 0 := fun hh => by have := a.1 hh; grind
    have h4 : ¬ 0 < cmpQ n1 d1 n2 d2 := fun hh => by have := b.1 hh; grind
    omega
theorem cmpQ_abs (n1 d1 n2 d2 : Int) : cmpQ n1 d1 n2 d2 = -1 ∨ cmpQ n1 d1 n2 d2 = 0 ∨ cmpQ n1 d1 n2 d2 = 1 := by
  unfold cmpQ; split
  · simp
  · split <;> simp

theorem unitQ_iff {n d : Int} : unitQ n d = true ↔ okQ n d = true ∧ 0 ≤ toR (n, d) ∧ toR (n, d) ≤ 1 := by
  constructor
  · intro h
    have h1 := unitQ_ok h
    have h2 := unitQ_bd h
    have h3 := den_pos h1
    refine ⟨h1, ?_, ?_⟩
    · unfold toR
      have : (0 : Rat) ≤ (n : Rat) := by rw [← Rat.intCast_zero]; exact Rat.intCast_le_intCast.2 (by omega)
      rw [Rat.div_def]
      exact Rat.mul_nonneg this (Rat.le_of_lt (Rat.inv_pos.2 h3))
    · unfold toR
      have : (n : Rat) ≤ (d : Rat) := Rat.intCast_le_intCast.2 (by omega)
      rw [← Rat.not_lt, Rat.lt_div_iff h3]
      grind
  · rintro ⟨h1, h2, h3⟩
    have h4 := den_pos h1
    have e : toR (n, d) * d = n := by unfold toR; have := den_ne h1; simp only; grind
    simp only [unitQ, Bool.and_eq_true, decide_eq_true_eq]
    refine ⟨h1, ?_, ?_⟩
    · apply Rat.intCast_le_intCast.1
      rw [← e, Rat.intCast_zero]; exact Rat.mul_nonneg h2 (Rat.le_of_lt h4)
    · apply Rat.intCast_le_intCast.1
      rw [← e]
      have := Rat.mul_le_mul_of_nonneg_right h3 (Rat.le_of_lt h4)
      grind


end Go.Proofs.YtmabngjmfjjogaaDoor

namespace Go.Proofs.YtmabngjmfjjogaaDoor

/-- The first piece that has a fraction. -/
def pieceN (ps : List Pt) (x : Q) : Nat := ps.tail.findIdx (fromQ x.1 x.2)

theorem fromQ_iff {x : Q} {p : Pt} (h1 : 1 ≤ x.2) (h2 : 1 ≤ p.1.2) : fromQ x.1 x.2 p = true ↔ toR x ≤ toR p.1 := by
  have := lessQ_iff (n1 := p.1.1) (n2 := x.1) h2 h1
  unfold fromQ
  rw [← Rat.not_lt, Bool.not_eq_true', ← Bool.not_eq_true, this]
theorem fromQ_not {x : Q} {p : Pt} (h1 : 1 ≤ x.2) (h2 : 1 ≤ p.1.2) : fromQ x.1 x.2 p = false ↔ toR p.1 < toR x := by
  rw [← Bool.not_eq_true, fromQ_iff h1 h2, Rat.not_le]

theorem toR_zero (d : Int) : toR (0, d) = 0 := by unfold toR; simp only [Rat.intCast_zero]; rw [Rat.div_def, Rat.zero_mul]
theorem toR_one : toR (1, 1) = 1 := by decide +kernel

/-- What is known of the piece that has a fraction. -/
structure AtPiece (ps : List Pt) (x : Q) (p q : Pt) : Prop where
  here : ps[pieceN ps x]? = some p
  next : ps[pieceN ps x + 1]? = some q
  cx : coordQ p.1.1 p.1.2 = true
  cy : coordQ p.2.1 p.2.2 = true
  dx : coordQ q.1.1 q.1.2 = true
  dy : coordQ q.2.1 q.2.2 = true
  rise : lessQ p.1.1 p.1.2 q.1.1 q.1.2 = true
  low : toR p.1 ≤ toR x
  high : toR x ≤ toR q.1
  idx : max (idxB (fromQ x.1 x.2) ps - 1) 0 = pieceN ps x
  left : pieceN ps x ≠ 0 → toR p.1 < toR x

theorem atPiece {ps : List Pt} {x : Q} (hm : okMap ps = true) (hx : unitQ x.1 x.2 = true) : ∃ p q, AtPiece ps x p q := by
  have hl := okMap_len hm
  have hc : ∀ {i : Nat} {p : Pt}, ps[i]? = some p → _ := @okMap_coord ps hm
  have hr : ∀ {i : Nat} {p q : Pt}, ps[i]? = some p → ps[i + 1]? = some q → _ := @okMap_rising ps hm
  have hf := okMap_first hm
  have hla := okMap_last hm
  obtain ⟨x0, x1, x2⟩ := unitQ_iff.1 hx
  have xd := (okQ_bd x0).1
  match ps with
  | [] => simp at hl
  | [_] => simp at hl
  | p0 :: r0 :: r =>
    have hlast : ∃ l ∈ (r0 :: r), l.1 = (1, 1) := by
      rw [List.getLast?_cons_cons] at hla
      cases h : (r0 :: r).getLast? with
      | none => rw [h] at hla; simp at hla
      | some l => rw [h] at hla; simp at hla; exact ⟨l, List.mem_of_getLast? h, hla⟩
    obtain ⟨l, hlm, hl1⟩ := hlast
    have hex : ∃ y ∈ (r0 :: r), fromQ x.1 x.2 y = true := ⟨l, hlm, (fromQ_iff xd (by rw [hl1]; decide)).2 (by rw [hl1]; show _ ≤ toR (1, 1); rw [toR_one]; exact x2)⟩
    have hN : pieceN (p0 :: r0 :: r) x = (r0 :: r).findIdx (fromQ x.1 x.2) := rfl
    have hlt : (r0 :: r).findIdx (fromQ x.1 x.2) < (r0 :: r).length := List.findIdx_lt_length_of_exists hex
    have hp0 : toR p0.1 = 0 := by
      simp at hf; rw [hf]; exact toR_zero 1
    have hat : ∀ y, (r0 :: r)[(r0 :: r).findIdx (fromQ x.1 x.2)]? = some y → fromQ x.1 x.2 y = true := fun y hy => by
      have := List.findIdx_getElem (p := fromQ x.1 x.2) (xs := r0 :: r) (w := hlt)
      rw [List.getElem?_eq_getElem hlt] at hy
      cases hy; exact this
    have hbe : ∀ j y, j < (r0 :: r).findIdx (fromQ x.1 x.2) → (r0 :: r)[j]? = some y → fromQ x.1 x.2 y = false := fun j y hj hy => by
      have := List.not_of_lt_findIdx hj
      rw [List.getElem?_eq_getElem (by omega)] at hy
      cases hy
      simpa using this
    have hidx : max (idxB (fromQ x.1 x.2) (p0 :: r0 :: r) - 1) 0 = ((r0 :: r).findIdx (fromQ x.1 x.2) : Int) := by
      unfold idxB
      rw [List.findIdx?_cons]
      cases h0 : fromQ x.1 x.2 p0
      · simp only [Bool.false_eq_true, if_false]
        rw [List.findIdx?_eq_some_of_exists hex]
        simp
      · simp only [if_true]
        have hr0 : fromQ x.1 x.2 r0 = true := by
          have a := (fromQ_iff xd (by have := (coordQ_bd (hc (i := 0) (p := p0) rfl).1); omega)).1 h0
          have b := (lessQ_iff (by have := (coordQ_bd (hc (i := 0) (p := p0) rfl).1); omega) (by have := (coordQ_bd (hc (i := 1) (p := r0) rfl).1); omega)).1 (hr (i := 0) (p := p0) (q := r0) rfl rfl)
          refine (fromQ_iff xd (by have := (coordQ_bd (hc (i := 1) (p := r0) rfl).1); omega)).2 ?_
          exact Rat.le_of_lt (Std.lt_of_le_of_lt a b)
        rw [List.findIdx_cons, hr0]
        rfl
    generalize (r0 :: r).findIdx (fromQ x.1 x.2) = i at *
    have hlt2 : i < (p0 :: r0 :: r).length := by rw [List.length_cons]; omega
    have hq : (p0 :: r0 :: r)[i + 1]? = some ((r0 :: r)[i]'hlt) := by simp [List.getElem?_eq_getElem hlt]
    have hp : (p0 :: r0 :: r)[i]? = some ((p0 :: r0 :: r)[i]'hlt2) := List.getElem?_eq_getElem hlt2
    refine ⟨_, _, ⟨by rw [hN]; exact hp, by rw [hN]; exact hq, (hc hp).1, (hc hp).2, (hc hq).1, (hc hq).2, hr hp hq, ?_, ?_, by rw [hN]; exact hidx, ?_⟩⟩
    · cases i with
      | zero => show toR p0.1 ≤ _; rw [hp0]; exact x1
      | succ j =>
        have := hbe j _ (by omega) hp
        have h2 := (fromQ_not xd (by have := (coordQ_bd (hc hp).1); omega)).1 this
        exact Rat.le_of_lt h2
    · exact (fromQ_iff xd (by have := (coordQ_bd (hc hq).1); omega)).1 (hat _ hq)
    · rw [hN]
      intro hne
      cases i with
      | zero => exact absurd rfl hne
      | succ j =>
        have := hbe j _ (by omega) hp
        exact (fromQ_not xd (by have := (coordQ_bd (hc hp).1); omega)).1 this

theorem pieceN_before {ps : List Pt} {x : Q} {k : Nat} {y : Pt} (hk : k < pieceN ps x) (hy : ps[k + 1]? = some y) : lessQ y.1.1 y.1.2 x.1 x.2 = true := by
  have h1 := List.not_of_lt_findIdx hk
  have h2 : ps.tail[k]? = some y := by rw [List.getElem?_tail]; exact hy
  obtain ⟨h3, h4⟩ := List.getElem?_eq_some_iff.1 h2
  rw [h4] at h1
  simpa [fromQ] using h1
theorem pieceN_here {ps : List Pt} {x : Q} {y : Pt} (hy : ps[pieceN ps x + 1]? = some y) : lessQ y.1.1 y.1.2 x.1 x.2 = false := by
  have h2 : ps.tail[pieceN ps x]? = some y := by rw [List.getElem?_tail]; exact hy
  obtain ⟨h3, h4⟩ := List.getElem?_eq_some_iff.1 h2
  have h5 := List.findIdx_getElem (p := fromQ x.1 x.2) (xs := ps.tail) (w := h3)
  unfold pieceN at h4
  rw [h4] at h5
  simpa [fromQ] using h5

/-- The slope between two points. -/
def slopeQ (p q : Pt) : Q :=
  let u := subQ q.2.1 q.2.2 p.2.1 p.2.2
  let f := subQ q.1.1 q.1.2 p.1.1 p.1.2
  let s := divQ u.1 u.2.1 f.1 f.2.1
  (s.1, s.2.1)

theorem slopeQ_ok {p q : Pt} (cx : coordQ p.1.1 p.1.2 = true) (cy : coordQ p.2.1 p.2.2 = true) (dx : coordQ q.1.1 q.1.2 = true) (dy : coordQ q.2.1 q.2.2 = true) (hl : lessQ p.1.1 p.1.2 q.1.1 q.1.2 = true) :
    okQ (slopeQ p q).1 (slopeQ p q).2 = true ∧ toR (slopeQ p q) * (toR q.1 - toR p.1) = toR q.2 - toR p.2 := by
  obtain ⟨u1, u2, f1, f2, s1, s2, e1, -, e2, -, e3, -, -, -, -, -, ok, -⟩ := slope_fits cx cy dx dy hl
  have hs : slopeQ p q = (s1, s2) := by unfold slopeQ; rw [e1, e2]; simp only; rw [e3]
  rw [hs]
  refine ⟨ok, ?_⟩
  have k1 := unitQ_ok (coordQ_unit cx)
  have k2 := unitQ_ok (coordQ_unit cy)
  have k3 := unitQ_ok (coordQ_unit dx)
  have k4 := unitQ_ok (coordQ_unit dy)
  rw [subQ_fit k4 k2] at e1
  rw [subQ_fit k3 k1] at e2
  obtain ⟨r1, o1⟩ := fitR_yes e1
  obtain ⟨r2, o2⟩ := fitR_yes e2
  have hlt := (lessQ_iff (okQ_bd k1).1 (okQ_bd k3).1).1 hl
  have r2n : toR (f1, f2) ≠ 0 := by rw [r2]; grind
  rw [divQ_fit o1 o2 r2n] at e3
  obtain ⟨r3, -⟩ := fitR_yes e3
  rw [r3, r1, r2]
  have : toR (q.1.1, q.1.2) - toR (p.1.1, p.1.2) ≠ 0 := by grind
  show _ * (toR (q.1.1, q.1.2) - toR (p.1.1, p.1.2)) = toR (q.2.1, q.2.2) - toR (p.2.1, p.2.2)
  grind

/-- The value on a line, as the program reckons it; and whether all parts fit. -/
def onQ (p : Pt) (s x : Q) : Q × Bool :=
  let d := subQ x.1 x.2 p.1.1 p.1.2
  let m := mulQ s.1 s.2 (keepQ d).1 (keepQ d).2
  let r := addQ p.2.1 p.2.2 (keepQ m).1 (keepQ m).2
  (keepQ r, d.2.2 && m.2.2 && r.2.2)

theorem okQ_zero : okQ 0 1 = true := by decide
theorem unitQ_zero : unitQ 0 1 = true := by decide
theorem keepQ_ok {r : Rat} : okQ (keepQ (fitR r)).1 (keepQ (fitR r)).2 = true := by
  unfold keepQ fitR
  split
  · rename_i h; rw [if_pos rfl]; exact h
  · rw [if_neg (by decide)]; exact okQ_zero
theorem keepQ_cases (r : Rat) : ((fitR r).2.2 = true ∧ toR (keepQ (fitR r)) = r) ∨ ((fitR r).2.2 = false ∧ keepQ (fitR r) = (0, 1)) := by
  rcases h : fitR r with ⟨a, b, t⟩
  cases t
  · exact .inr ⟨rfl, rfl⟩
  · exact .inl ⟨rfl, (fitR_yes h).1⟩
theorem fitR_of {a b : Int} {r : Rat} (h : okQ a b = true) (e : toR (a, b) = r) : fitR r = (a, b, true) := by rw [← e]; exact fitR_toR h

theorem between_unit {X x Z Y V s : Rat} (h1 : X ≤ x) (h2 : x ≤ Z) (h3 : X < Z) (y1 : 0 ≤ Y) (y2 : Y ≤ 1) (v1 : 0 ≤ V) (v2 : V ≤ 1) (hs : s * (Z - X) = V - Y) : 0 ≤ Y + s * (x - X) ∧ Y + s * (x - X) ≤ 1 := by
  have e : (Y + s * (x - X)) * (Z - X) = Y * (Z - x) + V * (x - X) := by grind
  have p : 0 < Z - X := by grind
  have a : 0 ≤ Z - x := by grind
  have b : 0 ≤ x - X := by grind
  have c1 : 0 ≤ Y * (Z - x) := Rat.mul_nonneg y1 a
  have c2 : 0 ≤ V * (x - X) := Rat.mul_nonneg v1 b
  have d1 : Y * (Z - x) ≤ 1 * (Z - x) := Rat.mul_le_mul_of_nonneg_right y2 a
  have d2 : V * (x - X) ≤ 1 * (x - X) := Rat.mul_le_mul_of_nonneg_right v2 b
  constructor
  · apply Rat.not_lt.1
    intro hh
    have : (Y + s * (x - X)) * (Z - X) < 0 * (Z - X) := Rat.mul_lt_mul_of_pos_right hh p
    grind
  · apply Rat.not_lt.1
    intro hh
    have : 1 * (Z - X) < (Y + s * (x - X)) * (Z - X) := Rat.mul_lt_mul_of_pos_right hh p
    grind

theorem onQ_unit {ps : List Pt} {x : Q} {p q : Pt} (h : AtPiece ps x p q) (hx : unitQ x.1 x.2 = true) : unitQ (onQ p (slopeQ p q) x).1.1 (onQ p (slopeQ p q) x).1.2 = true := by
  obtain ⟨x0, x1, x2⟩ := unitQ_iff.1 hx
  obtain ⟨so, se⟩ := slopeQ_ok h.cx h.cy h.dx h.dy h.rise
  obtain ⟨k1, -, -⟩ := unitQ_iff.1 (coordQ_unit h.cx)
  obtain ⟨k2, y1, y2⟩ := unitQ_iff.1 (coordQ_unit h.cy)
  obtain ⟨k3, -, -⟩ := unitQ_iff.1 (coordQ_unit h.dx)
  obtain ⟨k4, v1, v2⟩ := unitQ_iff.1 (coordQ_unit h.dy)
  have hlt := (lessQ_iff (okQ_bd k1).1 (okQ_bd k3).1).1 h.rise
  have hb := between_unit h.low h.high hlt y1 y2 v1 v2 se
  unfold onQ
  simp only
  rw [subQ_fit x0 k1]
  have dk := keepQ_ok (r := toR (x.1, x.2) - toR (p.1.1, p.1.2))
  rw [mulQ_fit so dk]
  have mk := keepQ_ok (r := toR ((slopeQ p q).1, (slopeQ p q).2) * toR ((keepQ (fitR (toR (x.1, x.2) - toR (p.1.1, p.1.2)))).1, (keepQ (fitR (toR (x.1, x.2) - toR (p.1.1, p.1.2)))).2))
  rw [addQ_fit k2 mk]
  rcases keepQ_cases (toR (x.1, x.2) - toR (p.1.1, p.1.2)) with ⟨-, e1⟩ | ⟨-, e1⟩
  · rcases keepQ_cases (toR ((slopeQ p q).1, (slopeQ p q).2) * toR ((keepQ (fitR (toR (x.1, x.2) - toR (p.1.1, p.1.2)))).1, (keepQ (fitR (toR (x.1, x.2) - toR (p.1.1, p.1.2)))).2)) with ⟨-, e2⟩ | ⟨-, e2⟩
    · replace e1 : toR ((keepQ (fitR (toR (x.1, x.2) - toR (p.1.1, p.1.2)))).1, (keepQ (fitR (toR (x.1, x.2) - toR (p.1.1, p.1.2)))).2) = toR (x.1, x.2) - toR (p.1.1, p.1.2) := e1
      rw [e1] at e2 ⊢
      replace e2 : toR ((keepQ (fitR (toR ((slopeQ p q).1, (slopeQ p q).2) * (toR (x.1, x.2) - toR (p.1.1, p.1.2))))).1, (keepQ (fitR (toR ((slopeQ p q).1, (slopeQ p q).2) * (toR (x.1, x.2) - toR (p.1.1, p.1.2))))).2) = toR ((slopeQ p q).1, (slopeQ p q).2) * (toR (x.1, x.2) - toR (p.1.1, p.1.2)) := e2
      rw [e2]
      rcases keepQ_cases (toR (p.2.1, p.2.2) + toR ((slopeQ p q).1, (slopeQ p q).2) * (toR (x.1, x.2) - toR (p.1.1, p.1.2))) with ⟨-, e3⟩ | ⟨-, e3⟩
      · exact unitQ_iff.2 ⟨keepQ_ok, (by rw [← e3] at hb; exact hb.1), (by rw [← e3] at hb; exact hb.2)⟩
      · rw [e3]; exact unitQ_zero
    · rw [e2, toR_zero, Rat.add_zero, fitR_toR k2]; exact coordQ_unit h.cy
  · rw [e1, toR_zero, Rat.mul_zero]
    have : fitR 0 = (0, 1, true) := by decide +kernel
    rw [this]
    show unitQ (keepQ (fitR (toR (p.2.1, p.2.2) + toR (0, 1)))).1 (keepQ (fitR (toR (p.2.1, p.2.2) + toR (0, 1)))).2 = true
    rw [toR_zero, Rat.add_zero, fitR_toR k2]; exact coordQ_unit h.cy

/-- The value of a map at a fraction; and whether all parts fit. -/
def valQ (ps : List Pt) (x : Q) : Q × Bool :=
  let p := ps.getD (pieceN ps x) ((0, 1), 0, 1)
  let q := ps.getD (pieceN ps x + 1) ((0, 1), 0, 1)
  onQ p (slopeQ p q) x
theorem valQ_at {ps : List Pt} {x : Q} {p q : Pt} (h : AtPiece ps x p q) : valQ ps x = onQ p (slopeQ p q) x := by
  unfold valQ
  rw [List.getD_eq_getElem?_getD, List.getD_eq_getElem?_getD, h.here, h.next]
  rfl
theorem valQ_unit {ps : List Pt} {x : Q} (hm : okMap ps = true) (hx : unitQ x.1 x.2 = true) : unitQ (valQ ps x).1.1 (valQ ps x).1.2 = true := by
  obtain ⟨p, q, h⟩ := atPiece hm hx
  rw [valQ_at h]; exact onQ_unit h hx

end Go.Proofs.YtmabngjmfjjogaaDoor

namespace Go.Proofs.YtmabngjmfjjogaaDoor
open Go.RowKit

theorem coord_smQ {a b : Int} (h : coordQ a b = true) : Sm a ∧ Sm b := Sm.of_ok (unitQ_ok (coordQ_unit h))

end Go.Proofs.YtmabngjmfjjogaaDoor

namespace Go.Proofs.YtmabngjmfjjogaaDoor
open Go.RowKit

def CutOn (w : World) (y1 y2 m1 m2 : Int) (t : Bool) (s10 s11 : Value) (wx : World) : Prop :=
  VarQ wx s10 (w.heap.size + 4) m1 m2 ∧ s11 = .bool t ∧ wx.cell? ⟨w.heap.size, 2, none⟩ = some (.int .i64 y1) ∧ wx.cell? ⟨w.heap.size, 3, none⟩ = some (.int .i64 y2) ∧ Slot wx (w.heap.size + 3) 0 (.int .i64 0) ∧ Slot wx (w.heap.size + 3) 1 (.int .i64 0) ∧ Below w.heap.size w wx

end Go.Proofs.YtmabngjmfjjogaaDoor

namespace Go.Proofs.YtmabngjmfjjogaaDoor
open Go.RowKit

def RelPc (N : Nat) (w : World) (i : Value) (wr : World) : Prop := ∃ k : Nat, k ≤ N ∧ i = .int .i64 k ∧ Below w.heap.size w wr

end Go.Proofs.YtmabngjmfjjogaaDoor

namespace Go.Proofs.YtmabngjmfjjogaaDoor
open Go.RowKit

/-- What the reference's value gives: nought where a part does not fit. -/
def atQ (ps : List Pt) (x : Q) : Int × Int × Bool := if (valQ ps x).2 = true then ((valQ ps x).1.1, (valQ ps x).1.2, true) else (0, 0, false)

theorem coord4 {p : Pt} (cx : coordQ p.1.1 p.1.2 = true) (cy : coordQ p.2.1 p.2.2 = true) : Sm p.1.1 ∧ Sm p.1.2 ∧ Sm p.2.1 ∧ Sm p.2.2 := ⟨(coord_smQ cx).1, (coord_smQ cx).2, (coord_smQ cy).1, (coord_smQ cy).2⟩

theorem lowQ_keep {n d : Int} (h : (lowQ n d).2.2 = true) : keepQ (lowQ n d) = ((lowQ n d).1, (lowQ n d).2.1) := by unfold keepQ; rw [if_pos h]

end Go.Proofs.YtmabngjmfjjogaaDoor

namespace Go.Proofs.YtmabngjmfjjogaaDoor
open Go.RowKit

/-- A slice that lies in a block older than g. -/
def Old (g : Nat) (v : Value) : Prop := ∀ A n c, v = .slice (some A) n c → A.block < g
theorem RdP.keepU {g : Nat} {w w' : World} {v : Value} {ps : List Pt} (h : RdP w v ps) (hb : But g w w') (ho : Old g v) : RdP w' v ps := by
  obtain ⟨A, c, rfl, h1, h2, h3⟩ := h
  refine ⟨A, c, rfl, h1, h2, fun hn => ?_⟩
  obtain ⟨b, o, rfl, hg, hc⟩ := h3 hn
  have hlt : b < g := ho _ _ _ rfl
  refine ⟨b, o, rfl, Nat.lt_of_lt_of_le hg hb.size, fun i p hp => ?_⟩
  obtain ⟨a1, a2, a3, a4⟩ := hc i p hp
  exact ⟨cellU hb (by omega) a1, cellU hb (by omega) a2, cellU hb (by omega) a3, cellU hb (by omega) a4⟩
theorem RdP.old {w : World} {v : Value} {ps : List Pt} (h : RdP w v ps) (hn : ps ≠ []) {g : Nat} (hg : w.heap.size ≤ g) : Old g v := by
  obtain ⟨A, c, rfl, h1, h2, h3⟩ := h
  obtain ⟨b, o, rfl, hb, -⟩ := h3 hn
  intro A' n c' e
  cases e
  exact Nat.lt_of_lt_of_le hb hg
theorem Old.le {g k : Nat} {v : Value} (h : Old g v) (hk : g ≤ k) : Old k v := fun A n c e => Nat.lt_of_lt_of_le (h A n c e) hk
theorem okMap_ne {ps : List Pt} (h : okMap ps = true) : ps ≠ [] := by
  have := (okMap_len h).1
  intro e; rw [e] at this; simp at this

end Go.Proofs.YtmabngjmfjjogaaDoor

namespace Go.Proofs.YtmabngjmfjjogaaDoor
open Go.RowKit

def vaQ (ps : List Pt) (x : Q) : Int × Int × Bool := if okMap ps = true ∧ unitQ x.1 x.2 = true then atQ ps x else (0, 0, false)

end Go.Proofs.YtmabngjmfjjogaaDoor
