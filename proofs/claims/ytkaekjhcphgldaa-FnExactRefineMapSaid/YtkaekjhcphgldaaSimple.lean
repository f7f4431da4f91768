/- simple, imSimple, SimpleMap of both. -/
import Derived.Test.YtkaekjhcphgldaaSlopes
import Derived.Test.YtkaekjhcphgldaaMarks
namespace Go.Proofs.Ytkaekjhcphgldaa
open Go.RowKit

/-- The points between the first and the k+1st that are kept. -/
def keptQ (ps : List Pt) : Nat → List Pt
  | 0 => []
  | k + 1 => keptQ ps k ++ (match ps[k]?, ps[k + 1]?, ps[k + 2]? with
    | some p, some q, some r => if slopeQ p q = slopeQ q r then [] else [q]
    | _, _, _ => [])
def simpleQ (ps : List Pt) : List Pt := ps.take 1 ++ keptQ ps (ps.length - 2) ++ ps.drop (ps.length - 1)
theorem keptQ_keep {ps : List Pt} {k : Nat} {p q r : Pt} (hp : ps[k]? = some p) (hq : ps[k + 1]? = some q) (hr : ps[k + 2]? = some r) (h : slopeQ p q ≠ slopeQ q r) : keptQ ps (k + 1) = keptQ ps k ++ [q] := by
  rw [keptQ, hp, hq, hr]; simp only; rw [if_neg h]
theorem keptQ_drop {ps : List Pt} {k : Nat} {p q r : Pt} (hp : ps[k]? = some p) (hq : ps[k + 1]? = some q) (hr : ps[k + 2]? = some r) (h : slopeQ p q = slopeQ q r) : keptQ ps (k + 1) = keptQ ps k := by
  rw [keptQ, hp, hq, hr]; simp only; rw [if_pos h, List.append_nil]
theorem keptQ_len (ps : List Pt) : ∀ k, (keptQ ps k).length ≤ k
  | 0 => Nat.le_refl _
  | k + 1 => by
    have := keptQ_len ps k
    rw [keptQ, List.length_append]
    have h2 : (match ps[k]?, ps[k + 1]?, ps[k + 2]? with
      | some p, some q, some r => if slopeQ p q = slopeQ q r then [] else [q]
      | _, _, _ => ([] : List Pt)).length ≤ 1 := by
      split
      · split <;> simp
      · simp
    omega
theorem keptQ_mem (ps : List Pt) : ∀ k, ∀ q ∈ keptQ ps k, q ∈ ps
  | 0, q, h => by simp [keptQ] at h
  | k + 1, q, h => by
    rw [keptQ, List.mem_append] at h
    rcases h with h | h
    · exact keptQ_mem ps k q h
    · split at h
      · rename_i hq _
        split at h
        · simp at h
        · simp at h; subst h; exact List.mem_of_getElem? hq
      · simp at h
theorem simpleQ_mem {ps : List Pt} {q : Pt} (h : q ∈ simpleQ ps) : q ∈ ps := by
  unfold simpleQ at h
  rw [List.mem_append, List.mem_append] at h
  rcases h with (h | h) | h
  · exact List.mem_of_mem_take h
  · exact keptQ_mem ps _ q h
  · exact List.mem_of_mem_drop h
theorem simpleQ_len (ps : List Pt) : (simpleQ ps).length ≤ ps.length + 2 := by
  unfold simpleQ
  rw [List.length_append, List.length_append, List.length_take, List.length_drop]
  have := keptQ_len ps (ps.length - 2)
  omega
theorem take_one {ps : List Pt} {p : Pt} (h : ps[0]? = some p) : ps.take 1 = [p] := by
  cases ps with
  | nil => simp at h
  | cons a r => simp at h; subst h; rfl
theorem drop_last {ps : List Pt} {p : Pt} (h : ps[ps.length - 1]? = some p) : ps.drop (ps.length - 1) = [p] := by
  obtain ⟨h1, h2⟩ := List.getElem?_eq_some_iff.1 h
  rw [List.drop_eq_getElem_cons h1, h2, List.drop_eq_nil_of_le (by omega)]

/-- A call that gives a row of points of its own. -/
def RetPs (w : World) (ps : List Pt) (e : Ending) (w' : World) : Prop := ∃ r, e = .returned r ∧ OwP w.heap.size 56 w' r ps ∧ Below w.heap.size w w'
theorem OwP.one (w : World) (base : Nat) (e : TypeId) (a b c d : Int) (hb : base ≤ w.heap.size) : OwP base e (w.alloc (.cells #[.int .i64 a, .int .i64 b, .int .i64 c, .int .i64 d] e)) (.slice (some ⟨w.heap.size, 0, none⟩) 1 1) [((a, b), c, d)] :=
  ⟨rfl, .inr ⟨w.heap.size, 1, _, rfl, hb, heap_alloc_new w _, Nat.le_refl _, by simp [maxLen], rfl, by simp [rowP]⟩⟩

def RelSm (ps : List Pt) (b : Nat) (W0 : World) (out i : Value) (wr : World) : Prop :=
  ∃ k : Nat, k + 2 ≤ ps.length ∧ i = .int .i64 (k + 1) ∧ OwP b 56 wr out (ps.take 1 ++ keptQ ps k) ∧ Below b W0 wr
/-- .. with the last point behind them. -/
def RelSp (ps : List Pt) (b : Nat) (W0 : World) (out i : Value) (wr : World) : Prop :=
  RelSm ps b W0 out i wr ∨ (i = .int .i64 ps.length ∧ OwP b 56 wr out (simpleQ ps) ∧ Below b W0 wr)

end Go.Proofs.Ytkaekjhcphgldaa
