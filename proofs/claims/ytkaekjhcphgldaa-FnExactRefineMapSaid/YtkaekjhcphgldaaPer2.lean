/- PeriodOf of both. -/
import Derived.Test.YtkaekjhcphgldaaPer
namespace Go.Proofs.Ytkaekjhcphgldaa
open Go.RowKit

def perN (ps : List Pt) (x : Q) (n : Int) : Int × Int × Bool := if isStartB ps x n = true then perOf ps x n.toNat else (0, 0, false)
theorem perN_yes {ps : List Pt} {x : Q} {n : Int} {l : List Q} (h : orbOf ps x n = (l, true)) : perN ps x n = perQ l := by
  unfold orbOf at h
  split at h
  · rename_i hh
    unfold perN perOf
    rw [if_pos hh.1, if_pos hh.2]
    obtain ⟨rfl, -⟩ := Prod.mk.inj h
    rfl
  · simp at h
theorem perN_no {ps : List Pt} {x : Q} {n : Int} {l : List Q} (h : orbOf ps x n = (l, false)) : perN ps x n = (0, 0, false) := by
  unfold orbOf at h
  split at h
  · simp at h
  · rename_i hh
    unfold perN perOf
    by_cases h1 : isStartB ps x n = true
    · rw [if_pos h1, if_neg (fun h2 => hh ⟨h1, h2⟩)]
    · rw [if_neg h1]

end Go.Proofs.Ytkaekjhcphgldaa
