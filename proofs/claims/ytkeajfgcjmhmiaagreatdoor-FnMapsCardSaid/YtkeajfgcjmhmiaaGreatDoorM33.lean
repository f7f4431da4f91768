/- Plain: the function that a list of points stands for; it is kept where points on a line are left out. · Plain: a list of points of a function that is linear between them; values of maps as that function. -/
import Derived.Test.YtkeajfgcjmhmiaaGreatDoorM32
namespace Go.Proofs.YtkeajfgcjmhmiaaGreatDoor
open Go.RowKit

def slR (p q : Pt) : Rat := (toR q.2 - toR p.2) / (toR q.1 - toR p.1)
/-- The value at x of the line through two points. -/
def lineR (p q : Pt) (x : Rat) : Rat := toR p.2 + slR p q * (x - toR p.1)
def evalR : List Pt → Rat → Rat
  | [], _ => 0
  | [p], _ => toR p.2
  | p :: q :: r, x => if x ≤ toR q.1 then lineR p q x else evalR (q :: r) x
def UpX (l : List Pt) : Prop := l.Pairwise (fun p q => toR p.1 < toR q.1)
theorem UpX.head {p q : Pt} {l : List Pt} (h : UpX (p :: q :: l)) : toR p.1 < toR q.1 := (List.pairwise_cons.1 h).1 q List.mem_cons_self
theorem UpX.tail {p : Pt} {l : List Pt} (h : UpX (p :: l)) : UpX l := (List.pairwise_cons.1 h).2
theorem UpX.skip {p q : Pt} {l : List Pt} (h : UpX (p :: q :: l)) : UpX (p :: l) :=
  List.pairwise_cons.2 ⟨fun r hr => (List.pairwise_cons.1 h).1 r (List.mem_cons_of_mem _ hr), h.tail.tail⟩
theorem slR_mul {p q : Pt} (h : toR p.1 < toR q.1) : slR p q * (toR q.1 - toR p.1) = toR q.2 - toR p.2 := by
  unfold slR
  exact Rat.div_mul_cancel (by grind)
theorem slR_of {p q : Pt} {s : Rat} (h : toR p.1 < toR q.1) (hs : s * (toR q.1 - toR p.1) = toR q.2 - toR p.2) : s = slR p q := by
  have e := slR_mul h
  have hne : toR q.1 - toR p.1 ≠ 0 := by grind
  have : (s - slR p q) * (toR q.1 - toR p.1) = 0 := by grind
  rcases Rat.mul_eq_zero.1 this with h | h
  · grind
  · exact absurd h hne
theorem lineR_left (p q : Pt) : lineR p q (toR p.1) = toR p.2 := by unfold lineR; grind
theorem lineR_right {p q : Pt} (h : toR p.1 < toR q.1) : lineR p q (toR q.1) = toR q.2 := by
  have := slR_mul h
  unfold lineR; grind
/-- Three points on a line. -/
theorem slR_join {a q r : Pt} (h1 : toR a.1 < toR q.1) (h2 : toR q.1 < toR r.1) (e : slR a q = slR q r) : slR a r = slR q r := by
  have e1 := slR_mul h1
  have e2 := slR_mul h2
  rw [e] at e1
  exact (slR_of (s := slR q r) (by grind) (by grind)).symm
theorem lineR_join {a q r : Pt} (h1 : toR a.1 < toR q.1) (h2 : toR q.1 < toR r.1) (e : slR a q = slR q r) (x : Rat) : lineR a r x = lineR a q x ∧ lineR a r x = lineR q r x := by
  have e3 := slR_join h1 h2 e
  have e1 := slR_mul h1
  unfold lineR
  rw [e3, e]
  refine ⟨rfl, ?_⟩
  rw [e] at e1
  grind
theorem evalR_first {p : Pt} {l : List Pt} (h : UpX (p :: l)) : evalR (p :: l) (toR p.1) = toR p.2 := by
  cases l with
  | nil => rfl
  | cons q l =>
    have := h.head
    rw [evalR, if_pos (Rat.le_of_lt this), lineR_left]
/-- A point on the line between its neighbours may be left out. -/
theorem evalR_skip {a q r : Pt} {t : List Pt} (h : UpX (a :: q :: r :: t)) (e : slR a q = slR q r) (x : Rat) : evalR (a :: r :: t) x = evalR (a :: q :: r :: t) x := by
  have h1 := h.head
  have h2 := h.tail.head
  obtain ⟨e1, e2⟩ := lineR_join h1 h2 e x
  rw [evalR, evalR, evalR]
  by_cases c1 : x ≤ toR q.1
  · rw [if_pos (by grind), if_pos c1, e1]
  · rw [if_neg c1]
    by_cases c2 : x ≤ toR r.1
    · rw [if_pos c2, if_pos c2, e2]
    · rw [if_neg c2, if_neg c2]

/-- The points behind the first that are kept: each with its neighbours' slopes. -/
def keptL : Pt → Pt → List Pt → List Pt
  | _, q, [] => [q]
  | p, q, r :: t => (if slR p q = slR q r then [] else [q]) ++ keptL q r t
theorem evalR_kept : ∀ (t : List Pt) (a p q : Pt), UpX (a :: q :: t) → toR p.1 < toR q.1 → slR a q = slR p q → ∀ x, evalR (a :: keptL p q t) x = evalR (a :: q :: t) x
  | [], a, p, q, _, _, _, x => rfl
  | r :: t, a, p, q, h, hp, e, x => by
    rw [keptL]
    by_cases c : slR p q = slR q r
    · rw [if_pos c, List.nil_append]
      have e2 : slR a q = slR q r := e.trans c
      rw [evalR_kept t a q r h.skip h.tail.head (slR_join h.head h.tail.head e2) x]
      exact evalR_skip h e2 x
    · rw [if_neg c]
      show evalR (a :: q :: keptL q r t) x = _
      rw [evalR, evalR]
      by_cases c1 : x ≤ toR q.1
      · rw [if_pos c1, if_pos c1]
      · rw [if_neg c1, if_neg c1]
        exact evalR_kept t q q r h.tail h.tail.head rfl x
/-- No inner point lies on a line with its neighbours. -/
def NoLine : List Pt → Prop
  | p :: q :: r :: t => slR p q ≠ slR q r ∧ NoLine (q :: r :: t)
  | _ => True
theorem keptL_head : ∀ (t : List Pt) (a p q : Pt), UpX (a :: q :: t) → toR p.1 < toR q.1 → slR a q = slR p q → ∃ z t', keptL p q t = z :: t' ∧ slR a z = slR p q
  | [], a, p, q, _, _, e => ⟨q, [], rfl, e⟩
  | r :: t, a, p, q, h, hp, e => by
    rw [keptL]
    by_cases c : slR p q = slR q r
    · rw [if_pos c, List.nil_append, c]
      exact keptL_head t a q r h.skip h.tail.head (slR_join h.head h.tail.head (e.trans c))
    · rw [if_neg c]
      exact ⟨q, keptL q r t, rfl, e⟩
theorem kept_noLine : ∀ (t : List Pt) (a p q : Pt), UpX (a :: q :: t) → toR p.1 < toR q.1 → slR a q = slR p q → NoLine (a :: keptL p q t)
  | [], a, p, q, _, _, _ => trivial
  | r :: t, a, p, q, h, hp, e => by
    rw [keptL]
    by_cases c : slR p q = slR q r
    · rw [if_pos c, List.nil_append]
      exact kept_noLine t a q r h.skip h.tail.head (slR_join h.head h.tail.head (e.trans c))
    · rw [if_neg c]
      show NoLine (a :: q :: keptL q r t)
      obtain ⟨z, t', hz, hs⟩ := keptL_head t q q r h.tail h.tail.head rfl
      have ih := kept_noLine t q q r h.tail h.tail.head rfl
      rw [hz] at ih ⊢
      refine ⟨?_, ih⟩
      rw [hs, e]
      exact c
end Go.Proofs.YtkeajfgcjmhmiaaGreatDoor

namespace Go.Proofs.YtkeajfgcjmhmiaaGreatDoor
open Go.RowKit

theorem evalR_behind {p q : Pt} {l : List Pt} (hu : UpX (p :: q :: l)) {x : Rat} (hx : toR q.1 ≤ x) : evalR (p :: q :: l) x = evalR (q :: l) x := by
  by_cases c : x = toR q.1
  · subst c
    rw [evalR_first hu.tail, evalR, if_pos Rat.le_refl, lineR_right hu.head]
  · rw [evalR, if_neg (by grind)]
theorem evalR_at : ∀ (i : Nat) (ps : List Pt) (p q : Pt), UpX ps → ps[i]? = some p → ps[i + 1]? = some q → ∀ x, toR p.1 ≤ x → x ≤ toR q.1 → evalR ps x = lineR p q x
  | 0, a :: b :: t, p, q, _, h1, h2, x, _, x2 => by
    simp only [List.getElem?_cons_zero, List.getElem?_cons_succ, Option.some.injEq] at h1 h2
    subst h1; subst h2
    rw [evalR, if_pos x2]
  | i + 1, a :: b :: t, p, q, hu, h1, h2, x, x1, x2 => by
    have h1' : (b :: t)[i]? = some p := by simpa using h1
    have hb : toR b.1 ≤ toR p.1 := by
      cases i with
      | zero => simp at h1'; rw [h1']; exact Rat.le_refl
      | succ i =>
        have hm : p ∈ t := List.mem_of_getElem? (by simpa using h1')
        exact Rat.le_of_lt ((List.pairwise_cons.1 hu.tail).1 p hm)
    rw [evalR_behind hu (by grind)]
    exact evalR_at i (b :: t) p q hu.tail h1' (by simpa using h2) x x1 x2
  | _, [], _, _, _, h1, _, _, _, _ => by simp at h1
  | _, [a], _, _, _, h1, h2, _, _, _ => by simp at h2
theorem okMap_upX {ps : List Pt} (hm : okMap ps = true) : UpX ps := by
  unfold UpX
  rw [List.pairwise_iff_getElem]
  intro i j hi hj hij
  exact okMap_lt hm (List.getElem?_eq_getElem hi) (List.getElem?_eq_getElem hj) hij
/-- A slope of the program's is that of the line. -/
theorem slopeQ_sl {p q : Pt} (hp : CoP p) (hq : CoP q) (hl : lessQ p.1.1 p.1.2 q.1.1 q.1.2 = true) (hlt : toR p.1 < toR q.1) : toR (slopeQ p q) = slR p q :=
  slR_of hlt (slopeQ_ok hp.1 hp.2 hq.1 hq.2 hl).2
end Go.Proofs.YtkeajfgcjmhmiaaGreatDoor
