/- The program's fixed points of a map. -/
import Derived.Test.YtkaekjhcphgldaaGreatFixA
import Derived.Test.YtkaekjhcphgldaaGreatRisE
namespace Go.Proofs.YtkaekjhcphgldaaGreat
open Go.RowKit

theorem fixA_snoc {ps : List Pt} {k : Nat} {p : Pt} (h : ps[k]? = some p) : fixA (ps.take (k + 1)) = fixA (ps.take k) ++ (if p.1 = p.2 then [p.1] else []) := by
  rw [take_snoc_get h]
  unfold fixA
  rw [List.filter_append, List.map_append]
  by_cases e : p.1 = p.2
  · rw [if_pos e]; simp [e]
  · rw [if_neg e]; simp [e]
theorem fixB_snoc {ps : List Pt} {k : Nat} {p q : Pt} (hp : ps[k]? = some p) (hq : ps[k + 1]? = some q) : fixB ((pcs ps).take (k + 1)) = fixB ((pcs ps).take k) ++ (if crossF p q = true then [((betwQ p q).1, (betwQ p q).2.1)] else []) := by
  rw [take_snoc_get (pcs_get hp hq)]
  unfold fixB
  rw [List.filter_append, List.map_append]
  by_cases e : crossF p q = true
  · rw [if_pos e]; simp [e]
  · rw [if_neg e]; simp [e]
theorem fixA_len (ps : List Pt) : (fixA ps).length ≤ ps.length := by
  unfold fixA; rw [List.length_map]; exact List.length_filter_le _ _
theorem fixB_len (cs : List (Pt × Pt)) : (fixB cs).length ≤ cs.length := by
  unfold fixB; rw [List.length_map]; exact List.length_filter_le _ _

/-- A variable that holds a point: a block of its own. -/
def VarP (wx : World) (s : Value) (lo : Nat) (a b c d : Int) : Prop := ∃ g, s = .pointer (some ⟨g, 0, none⟩) ∧ lo ≤ g ∧ wx.cell? ⟨g, 0, none⟩ = some (.int .i64 a) ∧ wx.cell? ⟨g, 1, none⟩ = some (.int .i64 b) ∧ wx.cell? ⟨g, 2, none⟩ = some (.int .i64 c) ∧ wx.cell? ⟨g, 3, none⟩ = some (.int .i64 d)
theorem cross_le (p q : Pt) : -1 ≤ cmpQ p.1.1 p.1.2 p.2.1 p.2.2 * cmpQ q.1.1 q.1.2 q.2.1 q.2.2 ∧ cmpQ p.1.1 p.1.2 p.2.1 p.2.2 * cmpQ q.1.1 q.1.2 q.2.1 q.2.2 ≤ 1 := by
  rcases cmpQ_abs p.1.1 p.1.2 p.2.1 p.2.2 with h | h | h <;> rcases cmpQ_abs q.1.1 q.1.2 q.2.1 q.2.2 with k | k | k <;> rw [h, k] <;> decide


end Go.Proofs.YtkaekjhcphgldaaGreat
