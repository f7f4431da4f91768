/- Plain: the fractions of a map before a value. -/
import Derived.Test.YtkeajfgcjmhmiaaFix0
namespace Go.Proofs.Ytkeajfgcjmhmiaa
open Go.RowKit

theorem keep_ok {N D : Int} {a b : Int} {t : Bool} (h : lowQ N D = (a, b, t)) : okQ (keepQ (a, b, t)).1 (keepQ (a, b, t)).2 = true := by
  unfold keepQ
  cases t with
  | true => exact (lowQ_ok h).1 rfl
  | false => exact (by decide : okQ 0 1 = true)
theorem keepAdd_ok (n1 d1 n2 d2 : Int) : okQ (keepQ (addQ n1 d1 n2 d2)).1 (keepQ (addQ n1 d1 n2 d2)).2 = true := by
  unfold addQ
  split
  · exact keep_ok rfl
  · decide

/-- The fraction at which a piece has a value, as the reference has it. -/
def backQ (p q : Pt) (y : Q) : Int × Int × Bool :=
  if (subQ y.1 y.2 p.2.1 p.2.2).2.2 = true then
    if (divQ (subQ y.1 y.2 p.2.1 p.2.2).1 (subQ y.1 y.2 p.2.1 p.2.2).2.1 (slopeQ p q).1 (slopeQ p q).2).2.2 = true then
      addQ p.1.1 p.1.2 (divQ (subQ y.1 y.2 p.2.1 p.2.2).1 (subQ y.1 y.2 p.2.1 p.2.2).2.1 (slopeQ p q).1 (slopeQ p q).2).1 (divQ (subQ y.1 y.2 p.2.1 p.2.2).1 (subQ y.1 y.2 p.2.1 p.2.2).2.1 (slopeQ p q).1 (slopeQ p q).2).2.1
    else (0, 0, false)
  else (0, 0, false)
/-- .. as the program has it. -/
def backD (p : Pt) (y : Q) : Int × Int × Bool := subQ y.1 y.2 p.2.1 p.2.2
def backM (p q : Pt) (y : Q) : Int × Int × Bool := divQ (keepQ (backD p y)).1 (keepQ (backD p y)).2 (slopeQ p q).1 (slopeQ p q).2
def backR (p q : Pt) (y : Q) : Int × Int × Bool := addQ p.1.1 p.1.2 (keepQ (backM p q y)).1 (keepQ (backM p q y)).2
def backV (p q : Pt) (y : Q) : Q := keepQ (backR p q y)
def backT (p q : Pt) (y : Q) : Bool := (backD p y).2.2 && (backM p q y).2.2 && (backR p q y).2.2
theorem backV_ok (p q : Pt) (y : Q) : okQ (backV p q y).1 (backV p q y).2 = true := keepAdd_ok ..
theorem back_flag (p q : Pt) (y : Q) : backT p q y = (backQ p q y).2.2 := by
  unfold backT backQ
  show ((backD p y).2.2 && (backM p q y).2.2 && (backR p q y).2.2) = _
  rw [show subQ y.1 y.2 p.2.1 p.2.2 = backD p y from rfl]
  by_cases h : (backD p y).2.2 = true
  · rw [if_pos h]
    have e1 : keepQ (backD p y) = ((backD p y).1, (backD p y).2.1) := by unfold keepQ; rw [if_pos h]
    have e2 : backM p q y = divQ (backD p y).1 (backD p y).2.1 (slopeQ p q).1 (slopeQ p q).2 := by unfold backM; rw [e1]
    rw [← e2, h]
    by_cases k : (backM p q y).2.2 = true
    · rw [if_pos k, k]
      have e3 : keepQ (backM p q y) = ((backM p q y).1, (backM p q y).2.1) := by unfold keepQ; rw [if_pos k]
      unfold backR; rw [e3]; rfl
    · rw [if_neg k]; simp only [Bool.not_eq_true] at k; rw [k]; rfl
  · rw [if_neg h]; simp only [Bool.not_eq_true] at h; rw [h]; rfl
theorem back_value {p q : Pt} {y : Q} (h : (backQ p q y).2.2 = true) : backV p q y = ((backQ p q y).1, (backQ p q y).2.1) := by
  have h0 := h
  unfold backQ at h ⊢
  rw [show subQ y.1 y.2 p.2.1 p.2.2 = backD p y from rfl] at h ⊢
  by_cases h1 : (backD p y).2.2 = true
  · rw [if_pos h1] at h ⊢
    have e1 : keepQ (backD p y) = ((backD p y).1, (backD p y).2.1) := by unfold keepQ; rw [if_pos h1]
    have e2 : backM p q y = divQ (backD p y).1 (backD p y).2.1 (slopeQ p q).1 (slopeQ p q).2 := by unfold backM; rw [e1]
    rw [← e2] at h ⊢
    by_cases k : (backM p q y).2.2 = true
    · rw [if_pos k] at h ⊢
      have e3 : keepQ (backM p q y) = ((backM p q y).1, (backM p q y).2.1) := by unfold keepQ; rw [if_pos k]
      have e4 : backR p q y = addQ p.1.1 p.1.2 (backM p q y).1 (backM p q y).2.1 := by unfold backR; rw [e3]
      rw [← e4] at h ⊢
      unfold backV keepQ; rw [if_pos h]
    · rw [if_neg k] at h; simp at h
  · rw [if_neg h1] at h; simp at h

/-- The value lies between those of the ends. -/
def crossY (y : Q) (p q : Pt) : Bool := decide (cmpQ p.2.1 p.2.2 y.1 y.2 * cmpQ q.2.1 q.2.2 y.1 y.2 < 0)
def befPc (y : Q) (s : Pt × Pt) : List Q :=
  (if s.1.2 = y then [s.1.1] else []) ++ (if s.2.2 = y then [s.2.1] else []) ++ (if crossY y s.1 s.2 = true then [((backQ s.1 s.2 y).1, (backQ s.1 s.2 y).2.1)] else [])
def badPc (y : Q) (s : Pt × Pt) : Bool := crossY y s.1 s.2 && !(backQ s.1 s.2 y).2.2
def befOk (y : Q) (ps : List Pt) : Bool := !(pcs ps).any (badPc y)
def befQ (y : Q) (ps : List Pt) : List Q := setQ ((pcs ps).flatMap (befPc y))
/-- .. as the program lists them: behind the first point. -/
def befI (y : Q) (s : Pt × Pt) : List Q := (if s.2.2 = y then [s.2.1] else []) ++ (if crossY y s.1 s.2 = true then [backV s.1 s.2 y] else [])
/-- .. all points before the k-th. -/
def befL (y : Q) (ps : List Pt) (k : Nat) : List Q :=
  ((ps.take k).take 1).flatMap (fun p => if p.2 = y then [p.1] else []) ++ ((pcs ps).take (k - 1)).flatMap (befI y)
def befB (y : Q) (ps : List Pt) (k : Nat) : Bool := ((pcs ps).take (k - 1)).any (badPc y)

theorem befPc_ok {y : Q} {ps : List Pt} (h : okMap ps = true) (hb : befOk y ps = true) : OkL ((pcs ps).flatMap (befPc y)) := fun x hx => by
  obtain ⟨s, hs, hm⟩ := List.mem_flatMap.1 hx
  obtain ⟨c1, c2⟩ := okMap_pc h hs
  unfold befPc at hm
  rcases List.mem_append.1 hm with hm | hm
  · rcases List.mem_append.1 hm with hm | hm
    · split at hm
      · obtain rfl := List.mem_singleton.1 hm
        exact unitQ_ok (coordQ_unit c1.1)
      · simp at hm
    · split at hm
      · obtain rfl := List.mem_singleton.1 hm
        exact unitQ_ok (coordQ_unit c2.1)
      · simp at hm
  · split at hm
    · rename_i hc
      obtain rfl := List.mem_singleton.1 hm
      have hf : (backQ s.1 s.2 y).2.2 = true := by
        unfold befOk at hb
        rw [Bool.not_eq_true', List.any_eq_false] at hb
        have := hb s hs
        unfold badPc at this
        rw [hc] at this
        simpa using this
      rw [← back_value hf]
      exact backV_ok ..
    · simp at hm
theorem befL_ok {y : Q} {ps : List Pt} (h : okMap ps = true) (k : Nat) : OkL (befL y ps k) := fun x hx => by
  unfold befL at hx
  rcases List.mem_append.1 hx with hx | hx
  · obtain ⟨p, hp, hm⟩ := List.mem_flatMap.1 hx
    split at hm
    · obtain rfl := List.mem_singleton.1 hm
      obtain ⟨i, hi⟩ := List.getElem?_of_mem (List.mem_of_mem_take (List.mem_of_mem_take hp))
      exact unitQ_ok (coordQ_unit (okMap_coord h hi).1)
    · simp at hm
  · obtain ⟨s, hs, hm⟩ := List.mem_flatMap.1 hx
    obtain ⟨c1, c2⟩ := okMap_pc h (List.mem_of_mem_take hs)
    unfold befI at hm
    rcases List.mem_append.1 hm with hm | hm
    · split at hm
      · obtain rfl := List.mem_singleton.1 hm
        exact unitQ_ok (coordQ_unit c2.1)
      · simp at hm
    · split at hm
      · obtain rfl := List.mem_singleton.1 hm
        exact backV_ok ..
      · simp at hm
theorem bef_mem {y : Q} {ps : List Pt} (h2 : 2 ≤ ps.length) (hb : befOk y ps = true) (x : Q) : x ∈ befL y ps ps.length ↔ x ∈ (pcs ps).flatMap (befPc y) := by
  have hv : ∀ s ∈ pcs ps, crossY y s.1 s.2 = true → backV s.1 s.2 y = ((backQ s.1 s.2 y).1, (backQ s.1 s.2 y).2.1) := fun s hs hc => by
    refine back_value ?_
    unfold befOk at hb
    rw [Bool.not_eq_true', List.any_eq_false] at hb
    have := hb s hs
    unfold badPc at this
    rw [hc] at this
    simpa using this
  have e0 : befL y ps ps.length = (ps.take 1).flatMap (fun p => if p.2 = y then [p.1] else []) ++ (pcs ps).flatMap (befI y) := by
    unfold befL
    rw [List.take_length, List.take_of_length_le (l := pcs ps) (by rw [pcs_len]; exact Nat.le_refl _)]
  rw [e0, List.mem_append, List.mem_flatMap, List.mem_flatMap, List.mem_flatMap]
  have hend := pcs_ends h2
  constructor
  · rintro (⟨p, hp, hm⟩ | ⟨s, hs, hm⟩)
    · obtain ⟨s, hs, he⟩ := (hend p).1 (List.mem_of_mem_take hp)
      split at hm
      · rename_i hy
        refine ⟨s, hs, ?_⟩
        unfold befPc
        rw [List.mem_append, List.mem_append]
        rcases he with rfl | rfl
        · exact Or.inl (Or.inl (by rw [if_pos hy]; exact hm))
        · exact Or.inl (Or.inr (by rw [if_pos hy]; exact hm))
      · simp at hm
    · refine ⟨s, hs, ?_⟩
      unfold befI at hm
      unfold befPc
      rw [List.mem_append, List.mem_append]
      rcases List.mem_append.1 hm with hm | hm
      · exact Or.inl (Or.inr hm)
      · refine Or.inr ?_
        split at hm
        · rename_i hc
          rw [if_pos hc, ← hv s hs hc]; exact hm
        · simp at hm
  · rintro ⟨s, hs, hm⟩
    unfold befPc at hm
    rw [List.mem_append, List.mem_append] at hm
    rcases hm with (hm | hm) | hm
    · split at hm
      · rename_i hy
        obtain rfl := List.mem_singleton.1 hm
        obtain ⟨i, h1, h3⟩ := mem_pcs.1 hs
        rcases i with _ | i
        · refine Or.inl ⟨s.1, ?_, by rw [if_pos hy]; simp⟩
          have : (ps.take 1)[0]? = some s.1 := by rw [List.getElem?_take_of_lt (by omega)]; exact h1
          exact List.mem_of_getElem? this
        · have hi : i < ps.length := by have := (List.getElem?_eq_some_iff.1 h1).1; omega
          refine Or.inr ⟨(ps[i], s.1), mem_pcs.2 ⟨i, List.getElem?_eq_getElem hi, h1⟩, ?_⟩
          unfold befI; rw [if_pos hy]; simp
      · simp at hm
    · split at hm
      · rename_i hy
        refine Or.inr ⟨s, hs, ?_⟩
        unfold befI; rw [if_pos hy]; exact List.mem_append_left _ hm
      · simp at hm
    · split at hm
      · rename_i hc
        refine Or.inr ⟨s, hs, ?_⟩
        unfold befI; rw [if_pos hc, hv s hs hc]; exact List.mem_append_right _ hm
      · simp at hm
theorem bef_set {y : Q} {ps : List Pt} (h : okMap ps = true) (h2 : 2 ≤ ps.length) (hb : befOk y ps = true) : setQ (befL y ps ps.length) = befQ y ps :=
  setQ_of (befPc_ok h hb) (setQ_up (befL_ok h _)) (fun x => by rw [setQ_mem, bef_mem h2 hb])
theorem befB_end (y : Q) (ps : List Pt) : befB y ps ps.length = !befOk y ps := by
  unfold befB befOk
  rw [List.take_of_length_le (by rw [pcs_len]; exact Nat.le_refl _), Bool.not_not]

end Go.Proofs.Ytkeajfgcjmhmiaa
