/- SimpleMap and AreSameMap of both. -/
import Derived.Test.YtkaekjhcphgldaaSimple
namespace Go.Proofs.Ytkaekjhcphgldaa
open Go.RowKit

/-- What a call leaves that gives a row of points and a bool. -/
def RetPB (w : World) (ps : List Pt) (t : Bool) (e : Ending) (w' : World) : Prop := ∃ r, e = .returned (.tuple #[r, .bool t]) ∧ OwP w.heap.size 56 w' r ps ∧ Below w.heap.size w w'
def simpleMapQ (ps : List Pt) : List Pt × Bool := if okMap ps = true then (simpleQ ps, true) else ([], false)
theorem simpleMapQ_len {ps l : List Pt} {t : Bool} (h : simpleMapQ ps = (l, t)) : l.length ≤ 1048576 := by
  unfold simpleMapQ at h
  split at h
  · rename_i hh
    obtain ⟨rfl, -⟩ := Prod.mk.inj h
    have := simpleQ_len ps
    have := okMap_len hh
    omega
  · obtain ⟨rfl, -⟩ := Prod.mk.inj h; simp

def RelEq (ps qs : List Pt) (w : World) (i : Value) (wr : World) : Prop := ∃ k : Nat, k ≤ ps.length ∧ i = .int .i64 k ∧ ps.take k = qs.take k ∧ Below w.heap.size w wr
theorem pts_or {a1 a2 a3 a4 b1 b2 b3 b4 : Int} (h : (((a1, a2), a3, a4) : Pt) ≠ ((b1, b2), b3, b4)) :
    (((a1 : Int) == b1) = false) ∨ (((a1 : Int) == b1) = true ∧ ((a2 : Int) == b2) = false) ∨ (((a1 : Int) == b1) = true ∧ ((a2 : Int) == b2) = true ∧ ((a3 : Int) == b3) = false) ∨ (((a1 : Int) == b1) = true ∧ ((a2 : Int) == b2) = true ∧ ((a3 : Int) == b3) = true ∧ ((a4 : Int) == b4) = false) := by
  rcases h1 : ((a1 : Int) == b1) with _ | _
  · exact .inl rfl
  · rcases h2 : ((a2 : Int) == b2) with _ | _
    · exact .inr (.inl ⟨rfl, rfl⟩)
    · rcases h3 : ((a3 : Int) == b3) with _ | _
      · exact .inr (.inr (.inl ⟨rfl, rfl, rfl⟩))
      · rcases h4 : ((a4 : Int) == b4) with _ | _
        · exact .inr (.inr (.inr ⟨rfl, rfl, rfl, rfl⟩))
        · refine absurd ?_ h
          simp at h1 h2 h3 h4
          rw [h1, h2, h3, h4]
theorem take_ne {ps qs : List Pt} {k : Nat} {p q : Pt} (hp : ps[k]? = some p) (hq : qs[k]? = some q) (h : p ≠ q) : decide (ps = qs) = false := by
  rw [decide_eq_false_iff_not]
  rintro rfl
  rw [hp] at hq
  exact h (Option.some.inj hq)

end Go.Proofs.Ytkaekjhcphgldaa
