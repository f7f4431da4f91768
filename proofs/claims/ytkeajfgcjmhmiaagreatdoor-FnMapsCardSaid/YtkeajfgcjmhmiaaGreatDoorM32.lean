/- Plain: a map's values at its points and within its pieces; fixed points have their own value; a map has one; the points before a value have it. -/
import Derived.Test.YtkeajfgcjmhmiaaGreatDoorM31
namespace Go.Proofs.YtkeajfgcjmhmiaaGreatDoor
open Go.RowKit

theorem okMap_lt {ps : List Pt} (hm : okMap ps = true) {i j : Nat} {p q : Pt} (hp : ps[i]? = some p) (hq : ps[j]? = some q) (hij : i < j) : toR p.1 < toR q.1 := by
  have hd : ∀ {i : Nat} {p : Pt}, ps[i]? = some p → 1 ≤ p.1.2 := fun hp => by have := coordQ_bd (okMap_coord hm hp).1; omega
  obtain ⟨d, rfl⟩ : ∃ d, j = i + 1 + d := ⟨j - (i + 1), by omega⟩
  clear hij
  induction d generalizing q with
  | zero => exact (lessQ_iff (hd hp) (hd hq)).1 (okMap_rising hm hp hq)
  | succ d ih =>
    have hlt : i + 1 + d < ps.length := by have := (List.getElem?_eq_some_iff.1 hq).1; omega
    have hm1 := List.getElem?_eq_getElem hlt
    have h1 := ih hm1
    have h2 := (lessQ_iff (hd hm1) (hd hq)).1 (okMap_rising hm hm1 (by rw [show i + 1 + d + 1 = i + 1 + (d + 1) by omega]; exact hq))
    generalize toR p.1 = a at *
    exact Std.lt_trans h1 h2
theorem okMap_le {ps : List Pt} (hm : okMap ps = true) {i j : Nat} {p q : Pt} (hp : ps[i]? = some p) (hq : ps[j]? = some q) (hij : i ≤ j) : toR p.1 ≤ toR q.1 := by
  rcases Nat.lt_or_eq_of_le hij with h | rfl
  · exact Rat.le_of_lt (okMap_lt hm hp hq h)
  · rw [hp] at hq; injection hq with h; rw [h]; exact Rat.le_refl

/-- A line's value, if all parts fit. -/
theorem onQ_of {p : Pt} {s x d m r : Q} (kx : okQ x.1 x.2 = true) (k1 : okQ p.1.1 p.1.2 = true) (k2 : okQ p.2.1 p.2.2 = true) (ks : okQ s.1 s.2 = true) (kd : okQ d.1 d.2 = true) (km : okQ m.1 m.2 = true) (kr : okQ r.1 r.2 = true)
    (hd : toR d = toR x - toR p.1) (hm : toR m = toR s * toR d) (hr : toR r = toR p.2 + toR m) : onQ p s x = (r, true) := by
  have e1 : subQ x.1 x.2 p.1.1 p.1.2 = (d.1, d.2, true) := by rw [subQ_fit kx k1]; exact fitR_of kd hd
  have e2 : mulQ s.1 s.2 d.1 d.2 = (m.1, m.2, true) := by rw [mulQ_fit ks kd]; exact fitR_of km hm
  have e3 : addQ p.2.1 p.2.2 m.1 m.2 = (r.1, r.2, true) := by rw [addQ_fit k2 km]; exact fitR_of kr hr
  unfold onQ
  simp only
  rw [e1, show keepQ (d.1, d.2, true) = d from rfl, e2, show keepQ (m.1, m.2, true) = m from rfl, e3]
  rfl
/-- The slope's parts, as fractions. -/
theorem slope_parts {p q : Pt} (cx : coordQ p.1.1 p.1.2 = true) (cy : coordQ p.2.1 p.2.2 = true) (dx : coordQ q.1.1 q.1.2 = true) (dy : coordQ q.2.1 q.2.2 = true) (hl : lessQ p.1.1 p.1.2 q.1.1 q.1.2 = true) :
    ∃ u f : Q, okQ u.1 u.2 = true ∧ okQ f.1 f.2 = true ∧ toR u = toR q.2 - toR p.2 ∧ toR f = toR q.1 - toR p.1 := by
  obtain ⟨u1, u2, f1, f2, s1, s2, e1, -, e2, -⟩ := slope_fits cx cy dx dy hl
  rw [subQ_fit (unitQ_ok (coordQ_unit dy)) (unitQ_ok (coordQ_unit cy))] at e1
  rw [subQ_fit (unitQ_ok (coordQ_unit dx)) (unitQ_ok (coordQ_unit cx))] at e2
  obtain ⟨r1, o1⟩ := fitR_yes e1
  obtain ⟨r2, o2⟩ := fitR_yes e2
  exact ⟨(u1, u2), (f1, f2), o1, o2, r1, r2⟩
theorem valQ_point {ps : List Pt} (hm : okMap ps = true) {j : Nat} {p : Pt} (hp : ps[j]? = some p) : valQ ps p.1 = (p.2, true) := by
  have hx := coordQ_unit (okMap_coord hm hp).1
  obtain ⟨a, b, h⟩ := atPiece hm hx
  rw [valQ_at h]
  obtain ⟨ks, es⟩ := slopeQ_ok h.cx h.cy h.dx h.dy h.rise
  obtain ⟨u, f, ku, kf, eu, ef⟩ := slope_parts h.cx h.cy h.dx h.dy h.rise
  have k1 := unitQ_ok (coordQ_unit h.cx)
  have k2 := unitQ_ok (coordQ_unit h.cy)
  have k4 := unitQ_ok (coordQ_unit h.dy)
  have kx := unitQ_ok hx
  rcases Nat.lt_or_ge (pieceN ps p.1) j with hj | hj
  · have h1 := okMap_le hm h.next hp hj
    have h2 := h.high
    have e : j = pieceN ps p.1 + 1 := by
      rcases Nat.lt_or_eq_of_le hj with h3 | h3
      · have := okMap_lt hm h.next hp h3
        grind
      · exact h3.symm
    have hb := h.next
    rw [← e, hp] at hb
    injection hb with hb
    subst hb
    exact onQ_of (d := f) (m := u) kx k1 k2 ks kf ku k4 ef (by rw [eu, ef, es]) (by rw [eu]; grind)
  · have h1 := okMap_le hm hp h.here hj
    have h2 := h.low
    have e : j = pieceN ps p.1 := by
      rcases Nat.lt_or_eq_of_le hj with h3 | h3
      · have := okMap_lt hm hp h.here h3
        grind
      · exact h3
    have ha := h.here
    rw [← e, hp] at ha
    injection ha with ha
    subst ha
    exact onQ_of (d := (0, 1)) (m := (0, 1)) kx k1 k2 ks okQ_zero okQ_zero k2 (by rw [toR_zero]; grind) (by rw [toR_zero]; grind) (by rw [toR_zero]; grind)
theorem vaQ_point {ps : List Pt} (hm : okMap ps = true) {j : Nat} {p : Pt} (hp : ps[j]? = some p) : vaQ ps p.1 = (p.2.1, p.2.2, true) := by
  unfold vaQ atQ
  rw [if_pos ⟨hm, coordQ_unit (okMap_coord hm hp).1⟩, valQ_point hm hp]
  rfl
theorem vaQ_yes {ps : List Pt} {x : Q} {a b : Int} (h : vaQ ps x = (a, b, true)) : okMap ps = true ∧ unitQ x.1 x.2 = true ∧ valQ ps x = ((a, b), true) := by
  unfold vaQ at h
  split at h
  · rename_i hh
    refine ⟨hh.1, hh.2, ?_⟩
    unfold atQ at h
    split at h
    · rename_i h2
      have e := Prod.mk.inj h
      have e2 := Prod.mk.inj e.2
      rw [← e.1, ← e2.1, ← h2]
    · simp at h
  · simp at h
theorem vaQ_of {ps : List Pt} {x : Q} {a b : Int} (hm : okMap ps = true) (hx : unitQ x.1 x.2 = true) (h : valQ ps x = ((a, b), true)) : vaQ ps x = (a, b, true) := by
  unfold vaQ atQ
  rw [if_pos ⟨hm, hx⟩, h]
  rfl

end Go.Proofs.YtkeajfgcjmhmiaaGreatDoor
