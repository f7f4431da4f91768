/- Fractions in increasing order, each once: plain laws. -/
import Derived.Test.YtkeajfgcjmhmiaaGreatDoorM12
namespace Go.Proofs.YtkeajfgcjmhmiaaGreatDoor
open Go.RowKit

def OkL (l : List Q) : Prop := ∀ q ∈ l, okQ q.1 q.2 = true
/-- A fraction put in its place, once. -/
def insQ (x : Q) : List Q → List Q
  | [] => [x]
  | y :: r => if lessQ y.1 y.2 x.1 x.2 = true then y :: insQ x r else if y = x then y :: r else x :: y :: r
theorem insQ_mem (x : Q) : ∀ (l : List Q) (y : Q), y ∈ insQ x l ↔ y = x ∨ y ∈ l
  | [], y => by simp [insQ]
  | z :: r, y => by
    unfold insQ
    split
    · rw [List.mem_cons, List.mem_cons, insQ_mem x r y]
      exact ⟨fun h => by rcases h with h | h | h <;> simp [h], fun h => by rcases h with h | h | h <;> simp [h]⟩
    · split
      · rename_i h; subst h
        simp
      · simp
theorem insQ_ok {x : Q} {l : List Q} (hx : okQ x.1 x.2 = true) (hl : OkL l) : OkL (insQ x l) := fun y hy => by
  rcases (insQ_mem x l y).1 hy with rfl | h
  · exact hx
  · exact hl y h
theorem insQ_skip {x : Q} : ∀ {l : List Q} {k : Nat}, (∀ i y, i < k → l[i]? = some y → lessQ y.1 y.2 x.1 x.2 = true) → insQ x l = l.take k ++ insQ x (l.drop k)
  | _, 0, _ => by simp
  | [], k + 1, _ => by simp
  | y :: r, k + 1, h => by
    have h0 := h 0 y (by omega) rfl
    rw [List.take_succ_cons, List.drop_succ_cons, List.cons_append, ← insQ_skip (k := k) (fun i z hi hz => h (i + 1) z (by omega) (by simpa using hz))]
    conv => lhs; unfold insQ
    rw [if_pos h0]
theorem insQ_end {x : Q} {l : List Q} (h : ∀ i y, i < l.length → l[i]? = some y → lessQ y.1 y.2 x.1 x.2 = true) : insQ x l = l ++ [x] := by
  rw [insQ_skip h, List.take_length, List.drop_length]; rfl
theorem insQ_have {x y : Q} {l : List Q} {k : Nat} (h : ∀ i y, i < k → l[i]? = some y → lessQ y.1 y.2 x.1 x.2 = true) (hk : l[k]? = some y) (hn : lessQ y.1 y.2 x.1 x.2 = false) (he : y = x) : insQ x l = l := by
  obtain ⟨h1, h2⟩ := List.getElem?_eq_some_iff.1 hk
  rw [insQ_skip h, List.drop_eq_getElem_cons h1, h2]
  unfold insQ
  rw [if_neg (by rw [hn]; simp), if_pos he]
  rw [← h2, ← List.drop_eq_getElem_cons h1, List.take_append_drop]
theorem insQ_put {x y : Q} {l : List Q} {k : Nat} (h : ∀ i y, i < k → l[i]? = some y → lessQ y.1 y.2 x.1 x.2 = true) (hk : l[k]? = some y) (hn : lessQ y.1 y.2 x.1 x.2 = false) (he : y ≠ x) : insQ x l = l.take k ++ x :: l.drop k := by
  obtain ⟨h1, h2⟩ := List.getElem?_eq_some_iff.1 hk
  rw [insQ_skip h, List.drop_eq_getElem_cons h1, h2]
  conv => lhs; arg 2; unfold insQ
  rw [if_neg (by rw [hn]; simp), if_neg he]

theorem insQ_len (x : Q) : ∀ l : List Q, (insQ x l).length ≤ l.length + 1
  | [] => Nat.le_refl _
  | y :: r => by
    have := insQ_len x r
    unfold insQ
    split
    · simp; omega
    · split <;> simp
end Go.Proofs.YtkeajfgcjmhmiaaGreatDoor
