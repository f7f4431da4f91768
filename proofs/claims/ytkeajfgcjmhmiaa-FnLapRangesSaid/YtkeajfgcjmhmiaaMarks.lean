/- The laws' own marks: markPointS, markRatS, heldRatS, heldPointS, eqRatS; rows that lie apart. · The laws' own marks: markRatS, markPointS, heldRatS, heldPointS. -/
import Derived.Test.YtkeajfgcjmhmiaaOrbs
import Derived.Test.YtkeajfgcjmhmiaaMaps
import Derived.Test.YtkeajfgcjmhmiaaLaws
namespace Go.Proofs.Ytkeajfgcjmhmiaa
open Go.RowKit

/-- Rows in blocks of their own. -/
def Sep (v u : Value) : Prop := ∀ b, v.ownBlock = some b → u.ownBlock ≠ some b
theorem Sep.symm {v u : Value} (h : Sep v u) : Sep u v := fun b h1 h2 => h b h2 h1
theorem sep_rows {b1 b2 s1 s2 n1 n2 : Nat} {e1 e2 : TypeId} {w w' : World} {v u : Value} {xs ys : List Value} (h : w.ownsRow b1 e1 s1 v n1 xs) (k : w'.ownsRow b2 e2 s2 u n2 ys) (hb : w.heap.size ≤ b2) : Sep v u := fun b hv hu => by
  have := (World.ownsRow.lt h b hv).2
  have := (World.ownsRow.lt k b hu).1
  omega
/-- A slice that came in lies below a row of the call's own. -/
def OldP (lo : Nat) (v : Value) (ps : List Pt) : Prop := ps ≠ [] → Old lo v
theorem RdP.oldP {w : World} {v : Value} {ps : List Pt} (h : RdP w v ps) {lo : Nat} (hl : w.heap.size ≤ lo) : OldP lo v ps := fun hn => h.old hn hl
theorem RdP.keepO {lo g : Nat} {w w' : World} {v : Value} {ps : List Pt} (h : RdP w v ps) (hb : But g w w') (ho : OldP lo v ps) (hg : lo ≤ g) : RdP w' v ps := by
  by_cases hn : ps = []
  · subst hn
    obtain ⟨A, c, rfl, h1, h2, -⟩ := h
    exact ⟨A, c, rfl, h1, h2, fun hh => absurd rfl hh⟩
  · exact h.keepU hb ((ho hn).le hg)

/-- What a mark leaves: the world is as it was but for one block, that of the row (or a new one). -/
def Marked (base : Nat) (v : Value) (w w' : World) : Prop := ∃ g, base ≤ g ∧ But g w w' ∧ (v.ownBlock = some g ∨ w.heap.size ≤ g)
theorem OwQ.keepM {g b : Nat} {e : TypeId} {w w' : World} {v u : Value} {qs : List Q} (h : OwQ b e w u qs) (hb : But g w w') (hg : v.ownBlock = some g ∨ w.heap.size ≤ g) (hs : Sep v u) : OwQ b e w' u qs := by
  refine h.keepU hb ?_
  rcases hg with hg | hg
  · exact hs g hg
  · intro hu
    have := (World.ownsRow.lt h g hu).2
    omega
theorem OwP.keepM {g b : Nat} {e : TypeId} {w w' : World} {v u : Value} {qs : List Pt} (h : OwP b e w u qs) (hb : But g w w') (hg : v.ownBlock = some g ∨ w.heap.size ≤ g) (hs : Sep v u) : OwP b e w' u qs := by
  refine h.keepU hb ?_
  rcases hg with hg | hg
  · exact hs g hg
  · intro hu
    have := (World.ownsRow.lt h g hu).2
    omega

/-- The marks k, k + 1, .. -/
def marks (k : Int) : Nat → List Value
  | 0 => []
  | n + 1 => marks k n ++ [.int .i64 (k + n)]
theorem marks_len (k : Int) : ∀ n, (marks k n).length = n
  | 0 => rfl
  | n + 1 => by rw [marks, List.length_append, marks_len k n]; rfl
theorem marks_get (k : Int) : ∀ (n i : Nat), i < n → (marks k n)[i]? = some (.int .i64 (k + i))
  | n + 1, i, h => by
    rw [marks]
    rcases Nat.lt_or_ge i n with h1 | h1
    · rw [List.getElem?_append_left (by rw [marks_len]; exact h1)]; exact marks_get k n i h1
    · obtain rfl : i = n := by omega
      rw [List.getElem?_append_right (by rw [marks_len]; omega), marks_len]; simp

/-- The first m cells are marked. -/
theorem mark_next {xs : List Value} {k : Int} {m : Nat} (h : m < xs.length) : (marks k m ++ xs.drop m).set m (.int .i64 (k + m)) = marks k (m + 1) ++ xs.drop (m + 1) := by
  rw [List.set_append_right _ _ (by rw [marks_len]; omega), marks_len, Nat.sub_self, List.drop_eq_getElem_cons h, List.set_cons_zero, marks, List.append_assoc]
  rfl
theorem ownsRow_lit {base n size : Nat} {e : TypeId} {w : World} {v : Value} {xs : List Value} (h : w.ownsRow base e size v n xs) (h0 : 0 < n) :
    ∃ g cap, v = .slice (some ⟨g, 0, none⟩) n cap ∧ n ≤ cap ∧ cap ≤ maxLen ∧ base ≤ g ∧ g < w.heap.size ∧ (∀ j, j < n * size → w.cell? ⟨g, j, none⟩ = xs[j]?) ∧ ∀ j, w.frozen? ⟨g, j, none⟩ = false := by
  have h0' := h
  rcases h.2 with ⟨rfl, hn⟩ | ⟨g, cap, cur, rfl, hb, hh, hle, hm, -, -⟩
  · omega
  · exact ⟨g, cap, rfl, hle, hm, hb, (Array.getElem?_eq_some_iff.1 hh).1, fun j hj => World.ownsRow.cellAt h0' j hj, fun j => by simp [World.frozen?, hh]⟩

end Go.Proofs.Ytkeajfgcjmhmiaa

namespace Go.Proofs.Ytkeajfgcjmhmiaa
open Go.RowKit

theorem mark_at {xs : List Value} {k u : Int} {m : Nat} (hu : u = k + m) (h : m < xs.length) : (marks k m ++ xs.drop m).set m (.int .i64 u) = marks k (m + 1) ++ xs.drop (m + 1) := by rw [hu]; exact mark_next h
theorem ownsRow_slice {base n size : Nat} {e : TypeId} {w : World} {v : Value} {xs : List Value} (h : w.ownsRow base e size v n xs) : ∃ A cap, v = .slice A n cap ∧ n ≤ cap ∧ cap ≤ maxLen := by
  rcases h.2 with ⟨rfl, rfl⟩ | ⟨g, cap, cur, rfl, hb, hh, hle, hm, -, -⟩
  · exact ⟨none, 0, rfl, Nat.le_refl _, Nat.zero_le _⟩
  · exact ⟨_, _, rfl, hle, hm⟩
theorem ownsRow_at {base n size : Nat} {e : TypeId} {w : World} {v : Value} {xs : List Value} (h : w.ownsRow base e size v n xs) (hb : base ≤ w.heap.size) : ∃ g, base ≤ g ∧ (v.ownBlock = some g ∨ (v.ownBlock = none ∧ w.heap.size ≤ g)) := by
  rcases h.2 with ⟨rfl, rfl⟩ | ⟨g, cap, cur, rfl, hb, hh, hle, hm, -, -⟩
  · exact ⟨w.heap.size, hb, .inr ⟨rfl, Nat.le_refl _⟩⟩
  · exact ⟨g, hb, .inl rfl⟩

def RelMk (base n size g : Nat) (e : TypeId) (v : Value) (xs : List Value) (k : Int) (w : World) (q i : Value) (wr : World) : Prop :=
  ∃ (j : Nat) (kk : Int), j ≤ n ∧ i = .int .i64 j ∧ q = .int .i64 kk ∧ kk = k + j * size ∧ wr.ownsRow base e size v n (marks k (j * size) ++ xs.drop (j * size)) ∧ But g w wr
def RelHd (n size : Nat) (k : Int) (w : World) (q i : Value) (wr : World) : Prop :=
  ∃ (j : Nat) (kk : Int), j ≤ n ∧ i = .int .i64 j ∧ q = .int .i64 kk ∧ kk = k + j * size ∧ Below w.heap.size w wr
def MarkEnd (base : Nat) (e : TypeId) (size : Nat) (v : Value) (n : Nat) (k : Int) (w : World) (x : Ending) (w' : World) : Prop :=
  x = .returned (.int .i64 (k + ((n * size : Nat) : Int))) ∧ ∃ g, base ≤ g ∧ But g w w' ∧ (v.ownBlock = some g ∨ w.heap.size ≤ g) ∧ w'.ownsRow base e size v n (marks k (n * size))





end Go.Proofs.Ytkeajfgcjmhmiaa
