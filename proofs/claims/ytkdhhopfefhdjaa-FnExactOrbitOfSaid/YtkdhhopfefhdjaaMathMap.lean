/- Plain facts: when points are a map. No program in sight. -/
import Derived.Test.YtkdhhopfefhdjaaData
namespace Go.Proofs.Ytkdhhopfefhdjaa
open Go.RowKit

/-- A fraction is valid and from 0 to 1; .. and of a small denominator. -/
def unitQ (n d : Int) : Bool := okQ n d && decide (0 ≤ n ∧ n ≤ d)
def coordQ (n d : Int) : Bool := unitQ n d && decide (d ≤ 100)
def lessQ (n1 d1 n2 d2 : Int) : Bool := decide (n1 * d2 < n2 * d1)

theorem unitQ_ok {n d : Int} (h : unitQ n d = true) : okQ n d = true := by
  simp only [unitQ, Bool.and_eq_true] at h; exact h.1
theorem unitQ_bd {n d : Int} (h : unitQ n d = true) : 0 ≤ n ∧ n ≤ d ∧ 1 ≤ d ∧ d ≤ 1000000000 := by
  simp only [unitQ, Bool.and_eq_true, decide_eq_true_eq] at h
  have := okQ_bd h.1; omega
theorem coordQ_unit {n d : Int} (h : coordQ n d = true) : unitQ n d = true := by
  simp only [coordQ, Bool.and_eq_true] at h; exact h.1
theorem coordQ_bd {n d : Int} (h : coordQ n d = true) : 0 ≤ n ∧ n ≤ d ∧ 1 ≤ d ∧ d ≤ 100 := by
  have h1 := unitQ_bd (coordQ_unit h)
  simp only [coordQ, Bool.and_eq_true, decide_eq_true_eq] at h
  omega
theorem lessQ_cmp (n1 d1 n2 d2 : Int) : lessQ n1 d1 n2 d2 = decide (cmpQ n1 d1 n2 d2 < 0) := by
  unfold lessQ cmpQ
  by_cases h : n1 * d2 < n2 * d1
  · rw [if_pos h]; simp [h]
  · rw [if_neg h]; split <;> simp [h]

/-- Fractions rise. -/
def risingB : List Q → Bool
  | [] => true
  | [_] => true
  | x :: y :: r => lessQ x.1 x.2 y.1 y.2 && risingB (y :: r)

theorem risingB_iff : ∀ l : List Q, risingB l = true ↔ ∀ (i : Nat) (x y : Q), l[i]? = some x → l[i + 1]? = some y → lessQ x.1 x.2 y.1 y.2 = true
  | [] => by simp [risingB]
  | [x] => by
    constructor
    · intro _ i a b ha hb
      simp at hb
    · intro _; rfl
  | x :: y :: r => by
    rw [risingB, Bool.and_eq_true, risingB_iff (y :: r)]
    constructor
    · rintro ⟨h1, h2⟩ i a b ha hb
      cases i with
      | zero => simp at ha hb; subst ha hb; exact h1
      | succ i => exact h2 i a b (by simpa using ha) (by simpa using hb)
    · intro h
      exact ⟨h 0 x y (by simp) (by simp), fun i a b ha hb => h (i + 1) a b (by simpa using ha) (by simpa using hb)⟩

/-- Points are a map. -/
def okMap (ps : List Pt) : Bool :=
  decide (2 ≤ ps.length ∧ ps.length ≤ 12) && ps.all (fun p => coordQ p.1.1 p.1.2 && coordQ p.2.1 p.2.2) &&
    decide ((ps.head?).map (·.1) = some (0, 1)) && decide ((ps.getLast?).map (·.1) = some (1, 1)) && risingB (ps.map (·.1))

theorem okMap_len {ps : List Pt} (h : okMap ps = true) : 2 ≤ ps.length ∧ ps.length ≤ 12 := by
  simp only [okMap, Bool.and_eq_true, decide_eq_true_eq] at h; exact h.1.1.1.1
theorem okMap_coord {ps : List Pt} (h : okMap ps = true) {i : Nat} {p : Pt} (hp : ps[i]? = some p) : coordQ p.1.1 p.1.2 = true ∧ coordQ p.2.1 p.2.2 = true := by
  simp only [okMap, Bool.and_eq_true, decide_eq_true_eq, List.all_eq_true] at h
  exact h.1.1.1.2 p (List.mem_of_getElem? hp)
theorem okMap_first {ps : List Pt} (h : okMap ps = true) : (ps.head?).map (·.1) = some (0, 1) := by
  simp only [okMap, Bool.and_eq_true, decide_eq_true_eq] at h; exact h.1.1.2
theorem okMap_last {ps : List Pt} (h : okMap ps = true) : (ps.getLast?).map (·.1) = some (1, 1) := by
  simp only [okMap, Bool.and_eq_true, decide_eq_true_eq] at h; exact h.1.2
theorem okMap_rising {ps : List Pt} (h : okMap ps = true) {i : Nat} {p q : Pt} (hp : ps[i]? = some p) (hq : ps[i + 1]? = some q) : lessQ p.1.1 p.1.2 q.1.1 q.1.2 = true := by
  simp only [okMap, Bool.and_eq_true] at h
  exact (risingB_iff _).1 h.2 i p.1 q.1 (by simp [hp]) (by simp [hq])

end Go.Proofs.Ytkdhhopfefhdjaa
