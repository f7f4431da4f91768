/- The laws' own marks: markPointS, markRatS, heldRatS, heldPointS, eqRatS; rows that lie apart. · The laws' own marks: markRatS, markPointS, heldRatS, heldPointS. · Places and periods: slices.Index, orAt, periodIn, orPeriod, PeriodOf of both. -/
import Derived.Test.YtkeajfgcjmhmiaaGreatDoorM11
import Derived.Test.YtkeajfgcjmhmiaaGreatDoorM2
import Derived.Test.YtkeajfgcjmhmiaaGreatDoorM3
import Derived.Test.YtkeajfgcjmhmiaaGreatDoorM12
namespace Go.Proofs.YtkeajfgcjmhmiaaGreatDoor
open Go.RowKit

/-- Rows in blocks of their own. -/
def Sep (v u : Value) : Prop := ∀ b, v.ownBlock = some b → u.ownBlock ≠ some b
theorem Sep.symm {v u : Value} (h : Sep v u) : Sep u v := fun b h1 h2 => h b h2 h1
end Go.Proofs.YtkeajfgcjmhmiaaGreatDoor

namespace Go.Proofs.YtkeajfgcjmhmiaaGreatDoor
open Go.RowKit

theorem ownsRow_slice {base n size : Nat} {e : TypeId} {w : World} {v : Value} {xs : List Value} (h : w.ownsRow base e size v n xs) : ∃ A cap, v = .slice A n cap ∧ n ≤ cap ∧ cap ≤ maxLen := by
  rcases h.2 with ⟨rfl, rfl⟩ | ⟨g, cap, cur, rfl, hb, hh, hle, hm, -, -⟩
  · exact ⟨none, 0, rfl, Nat.le_refl _, Nat.zero_le _⟩
  · exact ⟨_, _, rfl, hle, hm⟩
end Go.Proofs.YtkeajfgcjmhmiaaGreatDoor

namespace Go.Proofs.YtkeajfgcjmhmiaaGreatDoor
open Go.RowKit

def NoneQ (l : List Q) (x : Q) (k : Nat) : Prop := ∀ i y, i < k → l[i]? = some y → y ≠ x
theorem NoneQ.more {l : List Q} {x y : Q} {k : Nat} (h : NoneQ l x k) (hy : l[k]? = some y) (hn : y ≠ x) : NoneQ l x (k + 1) := by
  intro i z hi hz
  by_cases e : i = k
  · subst e; rw [hy] at hz; cases hz; exact hn
  · exact h i z (by omega) hz
theorem NoneQ.found {l : List Q} {x : Q} {k : Nat} (h : NoneQ l x k) (hy : l[k]? = some x) : idxQ l x = k := by
  obtain ⟨hk, he⟩ := List.getElem?_eq_some_iff.1 hy
  have : l.findIdx? (fun y => decide (y = x)) = some k := by
    rw [List.findIdx?_eq_some_iff_getElem]
    refine ⟨hk, by simp [he], fun j hj => ?_⟩
    have := h j l[j] hj (List.getElem?_eq_getElem (by omega))
    simpa using this
  unfold idxQ; rw [this]
theorem NoneQ.none {l : List Q} {x : Q} (h : NoneQ l x l.length) : idxQ l x = -1 := by
  have : l.findIdx? (fun y => decide (y = x)) = Option.none := by
    rw [List.findIdx?_eq_none_iff]
    intro y hy
    obtain ⟨i, hi, rfl⟩ := List.getElem_of_mem hy
    simpa using h i _ hi (List.getElem?_eq_getElem hi)
  unfold idxQ; rw [this]
theorem q_or {a1 a2 b1 b2 : Int} (h : ((a1, a2) : Q) ≠ (b1, b2)) : (((a1 : Int) == b1) = false) ∨ (((a1 : Int) == b1) = true ∧ ((a2 : Int) == b2) = false) := by
  rcases h1 : ((a1 : Int) == b1) with _ | _
  · exact .inl rfl
  · rcases h2 : ((a2 : Int) == b2) with _ | _
    · exact .inr ⟨rfl, rfl⟩
    · exact absurd (Prod.ext (by simpa using h1) (by simpa using h2)) h
theorem RdQ.take {w : World} {A : Option Addr} {n c : Nat} {l : List Q} (h : RdQ w (.slice A n c) l) (j : Nat) (hj : j ≤ n) : RdQ w (.slice A j c) (l.take j) := by
  obtain ⟨A', c', he, h1, h2, h3⟩ := h
  simp only [Value.slice.injEq] at he
  obtain ⟨rfl, rfl, rfl⟩ := he
  have hl : (l.take j).length = j := by rw [List.length_take]; omega
  refine ⟨A, c, by rw [hl], by rw [hl]; omega, h2, fun hn => ?_⟩
  obtain ⟨g, o, rfl, hg, hc⟩ := h3 (by rintro rfl; simp at hn)
  refine ⟨g, o, rfl, hg, fun i q hq => hc i q ?_⟩
  rw [List.getElem?_take] at hq
  split at hq
  · exact hq
  · cases hq

end Go.Proofs.YtkeajfgcjmhmiaaGreatDoor
