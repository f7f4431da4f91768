/- How a slice of fractions and a slice of points lie in memory. -/
import Derived.Test.YtkdhhopfefhdjaaMath
import Derived.WalkKit
namespace Go.Proofs.Ytkdhhopfefhdjaa
open Go.RowKit

abbrev Q := Int × Int
abbrev Pt := Q × Q

/-- A slice value that reads as a list of fractions. -/
def RdQ (w : World) (v : Value) (qs : List Q) : Prop :=
  ∃ A c, v = .slice A qs.length c ∧ qs.length ≤ c ∧ c ≤ maxLen ∧ (qs ≠ [] → ∃ g o, A = some ⟨g, o, none⟩ ∧ g < w.heap.size ∧
    ∀ i q, qs[i]? = some q → w.cell? ⟨g, o + i * 2, none⟩ = some (.int .i64 q.1) ∧ w.cell? ⟨g, o + i * 2 + 1, none⟩ = some (.int .i64 q.2))

/-- A slice value that reads as a list of points. -/
def RdP (w : World) (v : Value) (ps : List Pt) : Prop :=
  ∃ A c, v = .slice A ps.length c ∧ ps.length ≤ c ∧ c ≤ maxLen ∧ (ps ≠ [] → ∃ g o, A = some ⟨g, o, none⟩ ∧ g < w.heap.size ∧
    ∀ i p, ps[i]? = some p → w.cell? ⟨g, o + i * 4, none⟩ = some (.int .i64 p.1.1) ∧ w.cell? ⟨g, o + i * 4 + 1, none⟩ = some (.int .i64 p.1.2) ∧
      w.cell? ⟨g, o + i * 4 + 2, none⟩ = some (.int .i64 p.2.1) ∧ w.cell? ⟨g, o + i * 4 + 3, none⟩ = some (.int .i64 p.2.2))

theorem RdQ.keep {w w' : World} {v : Value} {qs : List Q} (h : RdQ w v qs) (hb : Below w.heap.size w w') : RdQ w' v qs := by
  obtain ⟨A, c, hv, h1, h2, h3⟩ := h
  refine ⟨A, c, hv, h1, h2, fun hn => ?_⟩
  obtain ⟨g, o, hA, hg, hc⟩ := h3 hn
  refine ⟨g, o, hA, Nat.lt_of_lt_of_le hg hb.size, fun i q hq => ?_⟩
  obtain ⟨a, b⟩ := hc i q hq
  exact ⟨(hb.cell (p := ⟨g, _, none⟩) hg).trans a, (hb.cell (p := ⟨g, _, none⟩) hg).trans b⟩

theorem RdP.keep {w w' : World} {v : Value} {ps : List Pt} (h : RdP w v ps) (hb : Below w.heap.size w w') : RdP w' v ps := by
  obtain ⟨A, c, hv, h1, h2, h3⟩ := h
  refine ⟨A, c, hv, h1, h2, fun hn => ?_⟩
  obtain ⟨g, o, hA, hg, hc⟩ := h3 hn
  refine ⟨g, o, hA, Nat.lt_of_lt_of_le hg hb.size, fun i q hq => ?_⟩
  obtain ⟨a, b, c, d⟩ := hc i q hq
  exact ⟨(hb.cell (p := ⟨g, _, none⟩) hg).trans a, (hb.cell (p := ⟨g, _, none⟩) hg).trans b, (hb.cell (p := ⟨g, _, none⟩) hg).trans c, (hb.cell (p := ⟨g, _, none⟩) hg).trans d⟩

end Go.Proofs.Ytkdhhopfefhdjaa
