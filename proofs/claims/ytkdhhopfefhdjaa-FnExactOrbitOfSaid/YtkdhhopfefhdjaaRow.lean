/- Slices of points and of fractions: what they read as, and what the call's own rows are good for. -/
import Derived.Test.YtkdhhopfefhdjaaBase
import Derived.Test.YtkdhhopfefhdjaaData
import Derived.Deep.OwnRows
namespace Go.Proofs.Ytkdhhopfefhdjaa
open Go.RowKit

/-- The cells of points, of fractions. -/
def rowP (ps : List Pt) : List Value := ps.flatMap fun p => [.int .i64 p.1.1, .int .i64 p.1.2, .int .i64 p.2.1, .int .i64 p.2.2]
def rowQ (qs : List Q) : List Value := qs.flatMap fun q => [.int .i64 q.1, .int .i64 q.2]

theorem rowP_len (ps : List Pt) : (rowP ps).length = ps.length * 4 := by
  induction ps with
  | nil => rfl
  | cons p ps ih => unfold rowP at *; rw [List.flatMap_cons, List.length_append, ih]; simp; omega
theorem rowQ_len (qs : List Q) : (rowQ qs).length = qs.length * 2 := by
  induction qs with
  | nil => rfl
  | cons p ps ih => unfold rowQ at *; rw [List.flatMap_cons, List.length_append, ih]; simp; omega
theorem rowP_app (a b : List Pt) : rowP (a ++ b) = rowP a ++ rowP b := by unfold rowP; rw [List.flatMap_append]
theorem rowQ_app (a b : List Q) : rowQ (a ++ b) = rowQ a ++ rowQ b := by unfold rowQ; rw [List.flatMap_append]

theorem rowP_get : ∀ (ps : List Pt) (i : Nat) (p : Pt), ps[i]? = some p → (rowP ps)[i * 4]? = some (.int .i64 p.1.1) ∧ (rowP ps)[i * 4 + 1]? = some (.int .i64 p.1.2) ∧ (rowP ps)[i * 4 + 2]? = some (.int .i64 p.2.1) ∧ (rowP ps)[i * 4 + 3]? = some (.int .i64 p.2.2)
  | [], i, p, h => by simp at h
  | q :: ps, 0, p, h => by simp at h; subst h; simp [rowP]
  | q :: ps, i + 1, p, h => by
    have ih := rowP_get ps i p (by simpa using h)
    have e : rowP (q :: ps) = [.int .i64 q.1.1, .int .i64 q.1.2, .int .i64 q.2.1, .int .i64 q.2.2] ++ rowP ps := by simp [rowP]
    have f : ∀ j, (rowP (q :: ps))[j + 4]? = (rowP ps)[j]? := fun j => by rw [e, List.getElem?_append_right (by simp)]; simp
    rw [show (i + 1) * 4 = i * 4 + 4 from by omega, show i * 4 + 4 + 1 = i * 4 + 1 + 4 from by omega, show i * 4 + 4 + 2 = i * 4 + 2 + 4 from by omega, show i * 4 + 4 + 3 = i * 4 + 3 + 4 from by omega, f, f, f, f]
    exact ih
theorem rowQ_get : ∀ (qs : List Q) (i : Nat) (q : Q), qs[i]? = some q → (rowQ qs)[i * 2]? = some (.int .i64 q.1) ∧ (rowQ qs)[i * 2 + 1]? = some (.int .i64 q.2)
  | [], i, p, h => by simp at h
  | q :: ps, 0, p, h => by simp at h; subst h; simp [rowQ]
  | q :: ps, i + 1, p, h => by
    have ih := rowQ_get ps i p (by simpa using h)
    have e : rowQ (q :: ps) = [.int .i64 q.1, .int .i64 q.2] ++ rowQ ps := by simp [rowQ]
    have f : ∀ j, (rowQ (q :: ps))[j + 2]? = (rowQ ps)[j]? := fun j => by rw [e, List.getElem?_append_right (by simp)]; simp
    rw [show (i + 1) * 2 = i * 2 + 2 from by omega, show i * 2 + 2 + 1 = i * 2 + 1 + 2 from by omega, f, f]
    exact ih

/-- A row of the call's own: what it reads as. -/
def OwP (base : Nat) (e : TypeId) (w : World) (v : Value) (ps : List Pt) : Prop := w.ownsRow base e 4 v ps.length (rowP ps)
def OwQ (base : Nat) (e : TypeId) (w : World) (v : Value) (qs : List Q) : Prop := w.ownsRow base e 2 v qs.length (rowQ qs)

theorem OwP.read {base : Nat} {e : TypeId} {w : World} {v : Value} {ps : List Pt} (h : OwP base e w v ps) : RdP w v ps := by
  have h0 := h
  rcases h.2 with ⟨rfl, hn⟩ | ⟨g, cap, cur, rfl, hb, hh, hl, hm, hs, hx⟩
  · have : ps = [] := List.eq_nil_of_length_eq_zero hn
    subst this
    exact ⟨_, _, rfl, Nat.le_refl _, by simp [maxLen], fun hne => absurd rfl hne⟩
  · refine ⟨_, _, rfl, hl, hm, fun _ => ⟨g, 0, rfl, ?_, fun i p hp => ?_⟩⟩
    · exact (Array.getElem?_eq_some_iff.1 hh).1
    · have hi : i < ps.length := (List.getElem?_eq_some_iff.1 hp).1
      obtain ⟨a, b, c, d⟩ := rowP_get ps i p hp
      have hc := fun j hj => World.ownsRow.cellAt h0 j hj
      refine ⟨?_, ?_, ?_, ?_⟩
      · rw [Nat.zero_add, hc _ (by omega)]; exact a
      · rw [Nat.zero_add, hc _ (by omega)]; exact b
      · rw [Nat.zero_add, hc _ (by omega)]; exact c
      · rw [Nat.zero_add, hc _ (by omega)]; exact d
theorem OwQ.read {base : Nat} {e : TypeId} {w : World} {v : Value} {qs : List Q} (h : OwQ base e w v qs) : RdQ w v qs := by
  have h0 := h
  rcases h.2 with ⟨rfl, hn⟩ | ⟨g, cap, cur, rfl, hb, hh, hl, hm, hs, hx⟩
  · have : qs = [] := List.eq_nil_of_length_eq_zero hn
    subst this
    exact ⟨_, _, rfl, Nat.le_refl _, by simp [maxLen], fun hne => absurd rfl hne⟩
  · refine ⟨_, _, rfl, hl, hm, fun _ => ⟨g, 0, rfl, ?_, fun i p hp => ?_⟩⟩
    · exact (Array.getElem?_eq_some_iff.1 hh).1
    · have hi : i < qs.length := (List.getElem?_eq_some_iff.1 hp).1
      obtain ⟨a, b⟩ := rowQ_get qs i p hp
      have hc := fun j hj => World.ownsRow.cellAt h0 j hj
      refine ⟨?_, ?_⟩
      · rw [Nat.zero_add, hc _ (by omega)]; exact a
      · rw [Nat.zero_add, hc _ (by omega)]; exact b

theorem ownsRow_keep {base : Nat} {e : TypeId} {size n : Nat} {w w' : World} {v : Value} {xs : List Value} (h : w.ownsRow base e size v n xs) (hb : Below w.heap.size w w') : w'.ownsRow base e size v n xs := by
  obtain ⟨h1, h2⟩ := h
  refine ⟨h1, ?_⟩
  rcases h2 with h2 | ⟨g, cap, cur, rfl, hg, hh, h3⟩
  · exact .inl h2
  · have hlt : g < w.heap.size := (Array.getElem?_eq_some_iff.1 hh).1
    exact .inr ⟨g, cap, cur, rfl, hg, (hb.block g hlt).trans hh, h3⟩
theorem OwP.keep {base : Nat} {e : TypeId} {w w' : World} {v : Value} {ps : List Pt} (h : OwP base e w v ps) (hb : Below w.heap.size w w') : OwP base e w' v ps := ownsRow_keep h hb
theorem OwQ.keep {base : Nat} {e : TypeId} {w w' : World} {v : Value} {qs : List Q} (h : OwQ base e w v qs) (hb : Below w.heap.size w w') : OwQ base e w' v qs := ownsRow_keep h hb

/-- The j-th cell of points. -/
def cellP (ps : List Pt) (j : Nat) : Value := (rowP ps).getD j (.int .i64 0)
theorem cellP_get {ps : List Pt} {i : Nat} {p : Pt} (h : ps[i]? = some p) : cellP ps (i * 4) = .int .i64 p.1.1 ∧ cellP ps (i * 4 + 1) = .int .i64 p.1.2 ∧ cellP ps (i * 4 + 2) = .int .i64 p.2.1 ∧ cellP ps (i * 4 + 3) = .int .i64 p.2.2 := by
  obtain ⟨a, b, c, d⟩ := rowP_get ps i p h
  simp only [cellP, List.getD_eq_getElem?_getD, a, b, c, d, Option.getD_some, and_self]

/-- A block of n points' cells that is known whole is a row of the call's own. -/
theorem OwP.of_row {base g : Nat} {e : TypeId} {w : World} {ps : List Pt} {f : Nat → Value} (h : w.rowIs g e (ps.length * 4) f) (hf : ∀ j, j < ps.length * 4 → f j = cellP ps j) (hb : base ≤ g) (hm : ps.length ≤ maxLen) :
    OwP base e w (.slice (some ⟨g, 0, none⟩) ps.length ps.length) ps := by
  obtain ⟨c, hh, hs, hc⟩ := h
  refine ⟨rowP_len ps, .inr ⟨g, _, c, rfl, hb, hh, Nat.le_refl _, hm, hs, ?_⟩⟩
  apply List.ext_getElem?
  intro j
  rw [List.getElem?_take]
  split
  · rename_i hj
    rw [Array.getElem?_toList, hc j hj, hf j hj, cellP, List.getD_eq_getElem?_getD, List.getElem?_eq_getElem (by rw [rowP_len]; omega)]
    rfl
  · rename_i hj
    rw [List.getElem?_eq_none]
    rw [rowP_len]; omega

end Go.Proofs.Ytkdhhopfefhdjaa
