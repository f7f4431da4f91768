/- Places and periods: slices.Index, orAt, periodIn, orPeriod, PeriodOf of both. -/
import Derived.Test.YtkeajfgcjmhmiaaSlopes
import Derived.Test.YtkeajfgcjmhmiaaMarks
namespace Go.Proofs.Ytkeajfgcjmhmiaa
open Go.RowKit

def NoneQ (l : List Q) (x : Q) (k : Nat) : Prop := ∀ i y, i < k → l[i]? = some y → y ≠ x
theorem NoneQ.more {l : List Q} {x y : Q} {k : Nat} (h : NoneQ l x k) (hy : l[k]? = some y) (hn : y ≠ x) : NoneQ l x (k + 1) := by
  intro i z hi hz
  by_cases e : i = k
  · subst e; rw [hy] at hz; cases hz; exact hn
  · exact h i z (by omega) hz
theorem NoneQ.found {l : List Q} {x : Q} {k : Nat} (h : NoneQ l x k) (hy : l[k]? = some x) : idxQ l x = k := by
  obtain ⟨hk, he⟩ := List.getElem?_eq_some_iff.1 hy
  have : l.findIdx? (fun y => decide (y = x)) = some k := by
    rw [List.findIdx?_eq_some_iff_getElem]
    refine ⟨hk, by simp [he], fun j hj => ?_⟩
    have := h j l[j] hj (List.getElem?_eq_getElem (by omega))
    simpa using this
  unfold idxQ; rw [this]
theorem NoneQ.none {l : List Q} {x : Q} (h : NoneQ l x l.length) : idxQ l x = -1 := by
  have : l.findIdx? (fun y => decide (y = x)) = Option.none := by
    rw [List.findIdx?_eq_none_iff]
    intro y hy
    obtain ⟨i, hi, rfl⟩ := List.getElem_of_mem hy
    simpa using h i _ hi (List.getElem?_eq_getElem hi)
  unfold idxQ; rw [this]
theorem idxQ_bd (l : List Q) (x : Q) : -1 ≤ idxQ l x ∧ idxQ l x ≤ l.length := by
  unfold idxQ
  cases h : l.findIdx? (fun y => decide (y = x)) with
  | none => simp
  | some i =>
    have := (List.findIdx?_eq_some_iff_getElem.1 h).1
    simp
    omega
theorem idxQ_lt (l : List Q) (x : Q) (h : 0 ≤ idxQ l x) : idxQ l x < l.length := by
  unfold idxQ at *
  cases hh : l.findIdx? (fun y => decide (y = x)) with
  | none => rw [hh] at h; simp at h
  | some i =>
    have := (List.findIdx?_eq_some_iff_getElem.1 hh).1
    simp
    omega
def RelIx (l : List Q) (x : Q) (w : World) (i : Value) (wr : World) : Prop := ∃ k : Nat, k ≤ l.length ∧ i = .int .i64 k ∧ NoneQ l x k ∧ Below w.heap.size w wr
theorem q_or {a1 a2 b1 b2 : Int} (h : ((a1, a2) : Q) ≠ (b1, b2)) : (((a1 : Int) == b1) = false) ∨ (((a1 : Int) == b1) = true ∧ ((a2 : Int) == b2) = false) := by
  rcases h1 : ((a1 : Int) == b1) with _ | _
  · exact .inl rfl
  · rcases h2 : ((a2 : Int) == b2) with _ | _
    · exact .inr ⟨rfl, rfl⟩
    · exact absurd (Prod.ext (by simpa using h1) (by simpa using h2)) h
theorem RdQ.take {w : World} {A : Option Addr} {n c : Nat} {l : List Q} (h : RdQ w (.slice A n c) l) (j : Nat) (hj : j ≤ n) : RdQ w (.slice A j c) (l.take j) := by
  obtain ⟨A', c', he, h1, h2, h3⟩ := h
  simp only [Value.slice.injEq] at he
  obtain ⟨rfl, rfl, rfl⟩ := he
  have hl : (l.take j).length = j := by rw [List.length_take]; omega
  refine ⟨A, c, by rw [hl], by rw [hl]; omega, h2, fun hn => ?_⟩
  obtain ⟨g, o, rfl, hg, hc⟩ := h3 (by rintro rfl; simp at hn)
  refine ⟨g, o, rfl, hg, fun i q hq => hc i q ?_⟩
  rw [List.getElem?_take] at hq
  split at hq
  · exact hq
  · cases hq



/-- What has been seen up to place j: no earlier one met again. -/
theorem perFrom_step {l : List Q} {n j : Nat} {q : Q} (hq : l[j]? = some q) : perFrom l (n + 1) j = if 0 ≤ idxQ (l.take j) q then (idxQ (l.take j) q, (j : Int) - idxQ (l.take j) q, true) else perFrom l n (j + 1) := by
  rw [perFrom]
  simp only [List.getD_eq_getElem?_getD, hq, Option.getD_some]
theorem perFrom_step' {l : List Q} {j : Nat} {q : Q} (hq : l[j]? = some q) : perFrom l (l.length - j) j = if 0 ≤ idxQ (l.take j) q then (idxQ (l.take j) q, (j : Int) - idxQ (l.take j) q, true) else perFrom l (l.length - (j + 1)) (j + 1) := by
  have := (List.getElem?_eq_some_iff.1 hq).1
  rw [show l.length - j = (l.length - (j + 1)) + 1 from by omega, perFrom_step hq]
def RelPr (l : List Q) (r : Int × Int × Bool) (w : World) (i : Value) (wr : World) : Prop := ∃ j : Nat, j ≤ l.length ∧ i = .int .i64 j ∧ perFrom l (l.length - j) j = r ∧ Below w.heap.size w wr

def perOf (ps : List Pt) (x : Q) (k : Nat) : Int × Int × Bool := if (orbQ ps x k).length = k + 1 then perQ (orbQ ps x k) else (0, 0, false)
end Go.Proofs.Ytkeajfgcjmhmiaa
