/- Plain: orbits. -/
import Derived.Test.YtkdhhopfefhdjaaValM
namespace Go.Proofs.Ytkdhhopfefhdjaa

/-- The fractions from x on, as far as they can be reckoned, for at most n steps. -/
def orbQ (ps : List Pt) (x : Q) : Nat → List Q
  | 0 => [x]
  | k + 1 =>
    let l := orbQ ps x k
    let v := valQ ps (l.getLastD x)
    if l.length = k + 1 ∧ v.2 = true then l ++ [v.1] else l

theorem orbQ_len (ps : List Pt) (x : Q) : ∀ k, 1 ≤ (orbQ ps x k).length ∧ (orbQ ps x k).length ≤ k + 1
  | 0 => by simp [orbQ]
  | k + 1 => by
    have ih := orbQ_len ps x k
    rw [orbQ]
    split
    · simp; omega
    · omega
theorem orbQ_ne (ps : List Pt) (x : Q) (k : Nat) : orbQ ps x k ≠ [] := by
  have := (orbQ_len ps x k).1
  intro e; rw [e] at this; simp at this
theorem orbQ_go {ps : List Pt} {x y z : Q} {k : Nat} (hl : (orbQ ps x k).length = k + 1) (hy : (orbQ ps x k)[k]? = some y) (hv : valQ ps y = (z, true)) : orbQ ps x (k + 1) = orbQ ps x k ++ [z] := by
  have : (orbQ ps x k).getLastD x = y := by
    rw [List.getLastD_eq_getLast?, List.getLast?_eq_getElem?, hl, Nat.add_sub_cancel, hy]; rfl
  rw [orbQ, this, hv]; simp [hl]
theorem orbQ_stop {ps : List Pt} {x y z : Q} {k : Nat} (hl : (orbQ ps x k).length = k + 1) (hy : (orbQ ps x k)[k]? = some y) (hv : valQ ps y = (z, false)) : ∀ m, orbQ ps x (k + m) = orbQ ps x k
  | 0 => rfl
  | m + 1 => by
    have ih := orbQ_stop hl hy hv m
    have : (orbQ ps x k).getLastD x = y := by
      rw [List.getLastD_eq_getLast?, List.getLast?_eq_getElem?, hl, Nat.add_sub_cancel, hy]; rfl
    rw [← Nat.add_assoc, orbQ, ih, this, hv]; simp
theorem orbQ_stopped {ps : List Pt} {x y z : Q} {k n : Nat} (hl : (orbQ ps x k).length = k + 1) (hy : (orbQ ps x k)[k]? = some y) (hv : valQ ps y = (z, false)) (hn : k ≤ n) : orbQ ps x n = orbQ ps x k := by
  have := orbQ_stop hl hy hv (n - k)
  rwa [show k + (n - k) = n from by omega] at this
theorem orbQ_unit {ps : List Pt} {x : Q} (hm : okMap ps = true) (hx : unitQ x.1 x.2 = true) : ∀ k, ∀ y ∈ orbQ ps x k, unitQ y.1 y.2 = true
  | 0 => by simp [orbQ]; exact hx
  | k + 1 => by
    have ih := orbQ_unit hm hx k
    rw [orbQ]
    split
    · intro y hy
      rcases List.mem_append.1 hy with h | h
      · exact ih y h
      · simp at h; subst h
        refine valQ_unit hm ?_
        rw [List.getLast?_eq_some_getLast (orbQ_ne ps x k)]
        exact ih _ (List.getLast_mem (orbQ_ne ps x k))
    · exact ih

/-- The first place of a fraction in a list. -/
def idxQ (l : List Q) (x : Q) : Int := match l.findIdx? (fun y => decide (y = x)) with | some i => i | none => -1

/-- The preperiod and the period that a list shows: from place j on. -/
def perFrom (l : List Q) : Nat → Nat → Int × Int × Bool
  | 0, _ => (0, 0, false)
  | n + 1, j =>
    let k := idxQ (l.take j) (l.getD j (0, 0))
    if 0 ≤ k then (k, j - k, true) else perFrom l n (j + 1)
def perQ (l : List Q) : Int × Int × Bool := perFrom l l.length 0

end Go.Proofs.Ytkdhhopfefhdjaa
