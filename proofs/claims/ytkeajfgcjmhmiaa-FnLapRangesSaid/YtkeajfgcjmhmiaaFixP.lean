/- Plain: a map's values at its points and within its pieces; fixed points have their own value; a map has one; the points before a value have it. -/
import Derived.Test.YtkeajfgcjmhmiaaBef0
namespace Go.Proofs.Ytkeajfgcjmhmiaa
open Go.RowKit

theorem okMap_lt {ps : List Pt} (hm : okMap ps = true) {i j : Nat} {p q : Pt} (hp : ps[i]? = some p) (hq : ps[j]? = some q) (hij : i < j) : toR p.1 < toR q.1 := by
  have hd : ∀ {i : Nat} {p : Pt}, ps[i]? = some p → 1 ≤ p.1.2 := fun hp => by have := coordQ_bd (okMap_coord hm hp).1; omega
  obtain ⟨d, rfl⟩ : ∃ d, j = i + 1 + d := ⟨j - (i + 1), by omega⟩
  clear hij
  induction d generalizing q with
  | zero => exact (lessQ_iff (hd hp) (hd hq)).1 (okMap_rising hm hp hq)
  | succ d ih =>
    have hlt : i + 1 + d < ps.length := by have := (List.getElem?_eq_some_iff.1 hq).1; omega
    have hm1 := List.getElem?_eq_getElem hlt
    have h1 := ih hm1
    have h2 := (lessQ_iff (hd hm1) (hd hq)).1 (okMap_rising hm hm1 (by rw [show i + 1 + d + 1 = i + 1 + (d + 1) by omega]; exact hq))
    generalize toR p.1 = a at *
    exact Std.lt_trans h1 h2
theorem okMap_le {ps : List Pt} (hm : okMap ps = true) {i j : Nat} {p q : Pt} (hp : ps[i]? = some p) (hq : ps[j]? = some q) (hij : i ≤ j) : toR p.1 ≤ toR q.1 := by
  rcases Nat.lt_or_eq_of_le hij with h | rfl
  · exact Rat.le_of_lt (okMap_lt hm hp hq h)
  · rw [hp] at hq; injection hq with h; rw [h]; exact Rat.le_refl

/-- A line's value, if all parts fit. -/
theorem onQ_of {p : Pt} {s x d m r : Q} (kx : okQ x.1 x.2 = true) (k1 : okQ p.1.1 p.1.2 = true) (k2 : okQ p.2.1 p.2.2 = true) (ks : okQ s.1 s.2 = true) (kd : okQ d.1 d.2 = true) (km : okQ m.1 m.2 = true) (kr : okQ r.1 r.2 = true)
    (hd : toR d = toR x - toR p.1) (hm : toR m = toR s * toR d) (hr : toR r = toR p.2 + toR m) : onQ p s x = (r, true) := by
  have e1 : subQ x.1 x.2 p.1.1 p.1.2 = (d.1, d.2, true) := by rw [subQ_fit kx k1]; exact fitR_of kd hd
  have e2 : mulQ s.1 s.2 d.1 d.2 = (m.1, m.2, true) := by rw [mulQ_fit ks kd]; exact fitR_of km hm
  have e3 : addQ p.2.1 p.2.2 m.1 m.2 = (r.1, r.2, true) := by rw [addQ_fit k2 km]; exact fitR_of kr hr
  unfold onQ
  simp only
  rw [e1, show keepQ (d.1, d.2, true) = d from rfl, e2, show keepQ (m.1, m.2, true) = m from rfl, e3]
  rfl
theorem onQ_val {p : Pt} {s x r : Q} (kx : okQ x.1 x.2 = true) (k1 : okQ p.1.1 p.1.2 = true) (k2 : okQ p.2.1 p.2.2 = true) (ks : okQ s.1 s.2 = true) (h : onQ p s x = (r, true)) : toR r = toR p.2 + toR s * (toR x - toR p.1) ∧ okQ r.1 r.2 = true := by
  unfold onQ at h
  simp only at h
  rw [subQ_fit kx k1] at h
  rcases e1 : fitR (toR (x.1, x.2) - toR (p.1.1, p.1.2)) with ⟨d1, d2, t1⟩
  rw [e1] at h
  cases t1 with
  | false => simp at h
  | true =>
    obtain ⟨v1, o1⟩ := fitR_yes e1
    rw [show keepQ (d1, d2, true) = (d1, d2) from rfl] at h
    simp only at h
    rw [mulQ_fit ks o1] at h
    rcases e2 : fitR (toR (s.1, s.2) * toR (d1, d2)) with ⟨m1, m2, t2⟩
    rw [e2] at h
    cases t2 with
    | false => simp at h
    | true =>
      obtain ⟨v2, o2⟩ := fitR_yes e2
      rw [show keepQ (m1, m2, true) = (m1, m2) from rfl] at h
      simp only at h
      rw [addQ_fit k2 o2] at h
      rcases e3 : fitR (toR (p.2.1, p.2.2) + toR (m1, m2)) with ⟨r1, r2, t3⟩
      rw [e3] at h
      cases t3 with
      | false => simp at h
      | true =>
        obtain ⟨v3, o3⟩ := fitR_yes e3
        obtain rfl : (r1, r2) = r := by
          have := (Prod.mk.inj h).1
          rw [← this]; rfl
        refine ⟨?_, o3⟩
        rw [v3, v2, v1]

theorem pieceN_lt {ps : List Pt} {x : Q} {p q : Pt} (h : AtPiece ps x p q) (hm : okMap ps = true) {j : Nat} {r : Pt} (hr : ps[j]? = some r) (hlt : toR r.1 < toR x) : j ≤ pieceN ps x := by
  apply Nat.le_of_not_lt
  intro hj
  have := okMap_le hm h.next hr hj
  have := h.high
  grind
theorem pieceN_gt {ps : List Pt} {x : Q} {p q : Pt} (h : AtPiece ps x p q) (hm : okMap ps = true) {j : Nat} {r : Pt} (hr : ps[j + 1]? = some r) (hle : toR x ≤ toR r.1) : pieceN ps x ≤ j := by
  apply Nat.le_of_not_lt
  intro hj
  have h1 := okMap_le hm hr h.here hj
  have h2 := h.left (by omega)
  grind
/-- Within a piece (its left end left out) the piece is found. -/
theorem valQ_inside {ps : List Pt} (hm : okMap ps = true) {i : Nat} {p q : Pt} (hp : ps[i]? = some p) (hq : ps[i + 1]? = some q) {x : Q} (hx : unitQ x.1 x.2 = true) (h1 : toR p.1 < toR x) (h2 : toR x ≤ toR q.1) : valQ ps x = onQ p (slopeQ p q) x := by
  obtain ⟨a, b, h⟩ := atPiece hm hx
  have e : pieceN ps x = i := Nat.le_antisymm (pieceN_gt h hm hq h2) (pieceN_lt h hm hp h1)
  have ha := h.here
  have hb := h.next
  rw [e] at ha hb
  rw [ha] at hp; rw [hb] at hq
  injection hp with hp; injection hq with hq
  subst hp; subst hq
  exact valQ_at h

/-- The slope's parts, as fractions. -/
theorem slope_parts {p q : Pt} (cx : coordQ p.1.1 p.1.2 = true) (cy : coordQ p.2.1 p.2.2 = true) (dx : coordQ q.1.1 q.1.2 = true) (dy : coordQ q.2.1 q.2.2 = true) (hl : lessQ p.1.1 p.1.2 q.1.1 q.1.2 = true) :
    ∃ u f : Q, okQ u.1 u.2 = true ∧ okQ f.1 f.2 = true ∧ toR u = toR q.2 - toR p.2 ∧ toR f = toR q.1 - toR p.1 := by
  obtain ⟨u1, u2, f1, f2, s1, s2, e1, -, e2, -⟩ := slope_fits cx cy dx dy hl
  rw [subQ_fit (unitQ_ok (coordQ_unit dy)) (unitQ_ok (coordQ_unit cy))] at e1
  rw [subQ_fit (unitQ_ok (coordQ_unit dx)) (unitQ_ok (coordQ_unit cx))] at e2
  obtain ⟨r1, o1⟩ := fitR_yes e1
  obtain ⟨r2, o2⟩ := fitR_yes e2
  exact ⟨(u1, u2), (f1, f2), o1, o2, r1, r2⟩
theorem valQ_point {ps : List Pt} (hm : okMap ps = true) {j : Nat} {p : Pt} (hp : ps[j]? = some p) : valQ ps p.1 = (p.2, true) := by
  have hx := coordQ_unit (okMap_coord hm hp).1
  obtain ⟨a, b, h⟩ := atPiece hm hx
  rw [valQ_at h]
  obtain ⟨ks, es⟩ := slopeQ_ok h.cx h.cy h.dx h.dy h.rise
  obtain ⟨u, f, ku, kf, eu, ef⟩ := slope_parts h.cx h.cy h.dx h.dy h.rise
  have k1 := unitQ_ok (coordQ_unit h.cx)
  have k2 := unitQ_ok (coordQ_unit h.cy)
  have k4 := unitQ_ok (coordQ_unit h.dy)
  have kx := unitQ_ok hx
  rcases Nat.lt_or_ge (pieceN ps p.1) j with hj | hj
  · have h1 := okMap_le hm h.next hp hj
    have h2 := h.high
    have e : j = pieceN ps p.1 + 1 := by
      rcases Nat.lt_or_eq_of_le hj with h3 | h3
      · have := okMap_lt hm h.next hp h3
        grind
      · exact h3.symm
    have hb := h.next
    rw [← e, hp] at hb
    injection hb with hb
    subst hb
    exact onQ_of (d := f) (m := u) kx k1 k2 ks kf ku k4 ef (by rw [eu, ef, es]) (by rw [eu]; grind)
  · have h1 := okMap_le hm hp h.here hj
    have h2 := h.low
    have e : j = pieceN ps p.1 := by
      rcases Nat.lt_or_eq_of_le hj with h3 | h3
      · have := okMap_lt hm hp h.here h3
        grind
      · exact h3
    have ha := h.here
    rw [← e, hp] at ha
    injection ha with ha
    subst ha
    exact onQ_of (d := (0, 1)) (m := (0, 1)) kx k1 k2 ks okQ_zero okQ_zero k2 (by rw [toR_zero]; grind) (by rw [toR_zero]; grind) (by rw [toR_zero]; grind)
theorem vaQ_point {ps : List Pt} (hm : okMap ps = true) {j : Nat} {p : Pt} (hp : ps[j]? = some p) : vaQ ps p.1 = (p.2.1, p.2.2, true) := by
  unfold vaQ atQ
  rw [if_pos ⟨hm, coordQ_unit (okMap_coord hm hp).1⟩, valQ_point hm hp]
  rfl
theorem vaQ_yes {ps : List Pt} {x : Q} {a b : Int} (h : vaQ ps x = (a, b, true)) : okMap ps = true ∧ unitQ x.1 x.2 = true ∧ valQ ps x = ((a, b), true) := by
  unfold vaQ at h
  split at h
  · rename_i hh
    refine ⟨hh.1, hh.2, ?_⟩
    unfold atQ at h
    split at h
    · rename_i h2
      have e := Prod.mk.inj h
      have e2 := Prod.mk.inj e.2
      rw [← e.1, ← e2.1, ← h2]
    · simp at h
  · simp at h
theorem vaQ_of {ps : List Pt} {x : Q} {a b : Int} (hm : okMap ps = true) (hx : unitQ x.1 x.2 = true) (h : valQ ps x = ((a, b), true)) : vaQ ps x = (a, b, true) := by
  unfold vaQ atQ
  rw [if_pos ⟨hm, hx⟩, h]
  rfl

theorem betw_val {p q : Pt} (hp : CoP p) (hq : CoP q) (hl : toR p.1 < toR q.1) (hc : crossF p q = true) :
    okQ (betwQ p q).1 (betwQ p q).2.1 = true ∧ toR p.1 < toR ((betwQ p q).1, (betwQ p q).2.1) ∧ toR ((betwQ p q).1, (betwQ p q).2.1) < toR q.1 ∧
      ∀ s : Rat, s * (toR q.1 - toR p.1) = toR q.2 - toR p.2 → toR p.2 + s * (toR ((betwQ p q).1, (betwQ p q).2.1) - toR p.1) = toR ((betwQ p q).1, (betwQ p q).2.1) := by
  obtain ⟨a1, a2, b1, b2, t1, t2, f1, f2, u1, u2, m1, m2, hb⟩ := betw_is hp hq hc
  have kpx := unitQ_ok (coordQ_unit hp.1)
  have kpy := unitQ_ok (coordQ_unit hp.2)
  have kqx := unitQ_ok (coordQ_unit hq.1)
  have kqy := unitQ_ok (coordQ_unit hq.2)
  have ha := hb.a
  rw [lowQ_mul kpy kqx] at ha
  obtain ⟨va, oa⟩ := fitR_yes ha
  have hb' := hb.b
  rw [lowQ_mul kqy kpx] at hb'
  obtain ⟨vb, ob⟩ := fitR_yes hb'
  have ht := hb.t
  rw [lowQ_sub oa ob] at ht
  obtain ⟨vt, ot⟩ := fitR_yes ht
  have hf := hb.f
  rw [lowQ_sub kqx kpx] at hf
  obtain ⟨vf, of'⟩ := fitR_yes hf
  have hu := hb.u
  rw [lowQ_sub kqy kpy] at hu
  obtain ⟨vu, ou⟩ := fitR_yes hu
  have hmm := hb.m
  rw [lowQ_sub of' ou] at hmm
  obtain ⟨vm, om⟩ := fitR_yes hmm
  have hcc := (crossF_iff hp hq).1 hc
  have hX := hb.x
  rw [va, vb] at vt
  rw [vf, vu] at vm
  change toR (t1, t2) = toR p.2 * toR q.1 - toR q.2 * toR p.1 at vt
  change toR (m1, m2) = (toR q.1 - toR p.1) - (toR q.2 - toR p.2) at vm
  have hne : toR (m1, m2) ≠ 0 := by rw [vm]; rcases hcc with ⟨h1, h2⟩ | ⟨h1, h2⟩ <;> grind
  have hm0 : m1 ≠ 0 := fun e => hne ((num_zero om).2 e)
  rw [lowQ_div ot om hm0] at hX
  obtain ⟨vx, ox⟩ := fitR_yes hX
  rw [vt, vm] at vx
  rw [vm] at hne
  generalize toR ((betwQ p q).1, (betwQ p q).2.1) = X at *
  generalize toR p.1 = A at *
  generalize toR p.2 = B at *
  generalize toR q.1 = C at *
  generalize toR q.2 = D at *
  have hx : X * ((C - A) - (D - B)) = B * C - D * A := by rw [vx]; exact Rat.div_mul_cancel hne
  refine ⟨ox, ?_, ?_, ?_⟩
  · have e : (X - A) * ((C - A) - (D - B)) = (B - A) * (C - A) := by grind
    apply Rat.not_le.1
    intro hle
    rcases hcc with ⟨h1, h2⟩ | ⟨h1, h2⟩
    · have p1 : 0 < (B - A) * (C - A) := Rat.mul_pos (by grind) (by grind)
      have p2 : 0 ≤ (A - X) * ((C - A) - (D - B)) := Rat.mul_nonneg (by grind) (by grind)
      grind
    · have p1 : 0 < (A - B) * (C - A) := Rat.mul_pos (by grind) (by grind)
      have p2 : 0 ≤ (A - X) * ((D - B) - (C - A)) := Rat.mul_nonneg (by grind) (by grind)
      grind
  · have e : (C - X) * ((C - A) - (D - B)) = (C - D) * (C - A) := by grind
    apply Rat.not_le.1
    intro hle
    rcases hcc with ⟨h1, h2⟩ | ⟨h1, h2⟩
    · have p1 : 0 < (C - D) * (C - A) := Rat.mul_pos (by grind) (by grind)
      have p2 : 0 ≤ (X - C) * ((C - A) - (D - B)) := Rat.mul_nonneg (by grind) (by grind)
      grind
    · have p1 : 0 < (D - C) * (C - A) := Rat.mul_pos (by grind) (by grind)
      have p2 : 0 ≤ (X - C) * ((D - B) - (C - A)) := Rat.mul_nonneg (by grind) (by grind)
      grind
  · intro s hs
    have e : ((B + s * (X - A)) - X) * (C - A) = 0 := by grind
    have hca : C - A ≠ 0 := by grind
    rcases Rat.mul_eq_zero.1 e with h | h
    · grind
    · exact absurd h hca

theorem unit_of {x : Q} {a c : Rat} (hx : okQ x.1 x.2 = true) (h1 : 0 ≤ a) (h2 : a ≤ toR x) (h3 : toR x ≤ c) (h4 : c ≤ 1) : unitQ x.1 x.2 = true := by
  refine unitQ_iff.2 ⟨hx, ?_, ?_⟩
  · show 0 ≤ toR x; grind
  · show toR x ≤ 1; grind
theorem coP_bd {p : Pt} (h : CoP p) : (0 ≤ toR p.1 ∧ toR p.1 ≤ 1) ∧ 0 ≤ toR p.2 ∧ toR p.2 ≤ 1 := ⟨(unitQ_iff.1 (coordQ_unit h.1)).2, (unitQ_iff.1 (coordQ_unit h.2)).2⟩

theorem fixed_va {ps : List Pt} {x : Q} {a b : Int} (hm : okMap ps = true) (hx : x ∈ fixQ ps) (h : vaQ ps x = (a, b, true)) : (a, b) = x := by
  obtain ⟨-, hu, hv⟩ := vaQ_yes h
  unfold fixQ at hx
  rw [setQ_mem] at hx
  obtain ⟨s, hs, hmem⟩ := List.mem_flatMap.1 hx
  obtain ⟨i, h1, h2⟩ := mem_pcs.1 hs
  unfold fixPc at hmem
  rcases List.mem_append.1 hmem with hmem | hmem
  · rcases List.mem_append.1 hmem with hmem | hmem
    · split at hmem
      · rename_i he
        obtain rfl := List.mem_singleton.1 hmem
        rw [valQ_point hm h1] at hv
        rw [← (Prod.mk.inj hv).1, he]
      · simp at hmem
    · split at hmem
      · rename_i he
        obtain rfl := List.mem_singleton.1 hmem
        rw [valQ_point hm h2] at hv
        rw [← (Prod.mk.inj hv).1, he]
      · simp at hmem
  · split at hmem
    · rename_i hc
      obtain rfl := List.mem_singleton.1 hmem
      obtain ⟨c1, c2⟩ := okMap_pc hm hs
      have hl := okMap_lt hm h1 h2 (by omega)
      obtain ⟨ko, l1, l2, hval⟩ := betw_val c1 c2 hl hc
      rw [valQ_inside hm h1 h2 hu l1 (Rat.le_of_lt l2)] at hv
      obtain ⟨ks, es⟩ := slopeQ_ok c1.1 c1.2 c2.1 c2.2 (okMap_rising hm h1 h2)
      obtain ⟨e, ke⟩ := onQ_val ko (unitQ_ok (coordQ_unit c1.1)) (unitQ_ok (coordQ_unit c1.2)) ks hv
      rw [hval _ es] at e
      exact toR_inj ke ko e
    · simp at hmem

theorem cross_iff {y : Q} {p q : Pt} (hp : CoP p) (hq : CoP q) (hy : unitQ y.1 y.2 = true) : crossY y p q = true ↔ (toR p.2 < toR y ∧ toR y < toR q.2) ∨ (toR y < toR p.2 ∧ toR q.2 < toR y) := by
  have k0 := okQ_bd (unitQ_ok hy)
  have k2 := okQ_bd (unitQ_ok (coordQ_unit hp.2))
  have k4 := okQ_bd (unitQ_ok (coordQ_unit hq.2))
  unfold crossY
  rw [decide_eq_true_iff, sgn_mul (cmpQ_abs ..) (cmpQ_abs ..), cmpQ_lt k2.1 k0.1, cmpQ_gt k4.1 k0.1, cmpQ_gt k2.1 k0.1, cmpQ_lt k4.1 k0.1]
theorem before_va {ps : List Pt} {x y : Q} (hm : okMap ps = true) (hy : unitQ y.1 y.2 = true) (hb : befOk y ps = true) (hx : x ∈ befQ y ps) : vaQ ps x = (y.1, y.2, true) := by
  unfold befQ at hx
  rw [setQ_mem] at hx
  obtain ⟨s, hs, hmem⟩ := List.mem_flatMap.1 hx
  obtain ⟨i, h1, h2⟩ := mem_pcs.1 hs
  unfold befPc at hmem
  rcases List.mem_append.1 hmem with hmem | hmem
  · rcases List.mem_append.1 hmem with hmem | hmem
    · split at hmem
      · rename_i he
        obtain rfl := List.mem_singleton.1 hmem
        rw [vaQ_point hm h1, he]
      · simp at hmem
    · split at hmem
      · rename_i he
        obtain rfl := List.mem_singleton.1 hmem
        rw [vaQ_point hm h2, he]
      · simp at hmem
  · split at hmem
    · rename_i hc
      have hf : (backQ s.1 s.2 y).2.2 = true := by
        unfold befOk at hb
        rw [Bool.not_eq_true', List.any_eq_false] at hb
        have := hb s hs
        unfold badPc at this
        rw [hc] at this
        simpa using this
      obtain rfl := List.mem_singleton.1 hmem
      obtain ⟨c1, c2⟩ := okMap_pc hm hs
      have hl := okMap_lt hm h1 h2 (by omega)
      obtain ⟨ks, es⟩ := slopeQ_ok c1.1 c1.2 c2.1 c2.2 (okMap_rising hm h1 h2)
      have hcc := (cross_iff c1 c2 hy).1 hc
      have ky := unitQ_ok hy
      have kpx := unitQ_ok (coordQ_unit c1.1)
      have kpy := unitQ_ok (coordQ_unit c1.2)
      have hs0 : toR (slopeQ s.1 s.2) ≠ 0 := by
        intro e
        rw [e, Rat.zero_mul] at es
        grind
      unfold backQ at hf ⊢
      rw [subQ_fit ky kpy] at hf ⊢
      rcases e1 : fitR (toR (y.1, y.2) - toR (s.1.2.1, s.1.2.2)) with ⟨d1, d2, t1⟩
      rw [e1] at hf
      cases t1 with
      | false => simp at hf
      | true =>
        obtain ⟨v1, o1⟩ := fitR_yes e1
        simp only [if_true] at hf ⊢
        rw [divQ_fit o1 ks hs0] at hf ⊢
        rcases e2 : fitR (toR (d1, d2) / toR ((slopeQ s.1 s.2).1, (slopeQ s.1 s.2).2)) with ⟨m1, m2, t2⟩
        rw [e2] at hf
        cases t2 with
        | false => simp at hf
        | true =>
          obtain ⟨v2, o2⟩ := fitR_yes e2
          simp only [if_true] at hf ⊢
          rw [addQ_fit kpx o2] at hf ⊢
          rcases e3 : fitR (toR (s.1.1.1, s.1.1.2) + toR (m1, m2)) with ⟨r1, r2, t3⟩
          rw [e3] at hf
          obtain rfl : t3 = true := hf
          obtain ⟨v3, o3⟩ := fitR_yes e3
          rw [v2, v1] at v3
          change toR (r1, r2) = toR s.1.1 + (toR y - toR s.1.2) / toR (slopeQ s.1 s.2) at v3
          change toR (m1, m2) = toR (d1, d2) / toR (slopeQ s.1 s.2) at v2
          change toR (d1, d2) = toR y - toR s.1.2 at v1
          have em : toR (m1, m2) * toR (slopeQ s.1 s.2) = toR (d1, d2) := by rw [v2]; exact Rat.div_mul_cancel hs0
          have er : toR (r1, r2) = toR s.1.1 + toR (m1, m2) := by rw [v2, v1]; exact v3
          have hin : toR s.1.1 < toR (r1, r2) ∧ toR (r1, r2) < toR s.2.1 := by
            generalize toR (r1, r2) = R at *
            generalize toR (m1, m2) = M at *
            generalize toR (slopeQ s.1 s.2) = S at *
            generalize toR s.1.1 = A at *
            generalize toR s.1.2 = B at *
            generalize toR s.2.1 = C at *
            generalize toR s.2.2 = D at *
            generalize toR y = Y at *
            rw [v1] at em
            have w1 : M * (D - B) = (Y - B) * (C - A) := by grind
            have w2 : (C - A - M) * (D - B) = (D - Y) * (C - A) := by grind
            constructor
            · apply Rat.not_le.1
              intro hle
              rcases hcc with ⟨g1, g2⟩ | ⟨g1, g2⟩
              · have p1 : 0 < (Y - B) * (C - A) := Rat.mul_pos (by grind) (by grind)
                have p2 : 0 ≤ (-M) * (D - B) := Rat.mul_nonneg (by grind) (by grind)
                grind
              · have p1 : 0 < (B - Y) * (C - A) := Rat.mul_pos (by grind) (by grind)
                have p2 : 0 ≤ (-M) * (B - D) := Rat.mul_nonneg (by grind) (by grind)
                grind
            · apply Rat.not_le.1
              intro hle
              rcases hcc with ⟨g1, g2⟩ | ⟨g1, g2⟩
              · have p1 : 0 < (D - Y) * (C - A) := Rat.mul_pos (by grind) (by grind)
                have p2 : 0 ≤ (M - (C - A)) * (D - B) := Rat.mul_nonneg (by grind) (by grind)
                grind
              · have p1 : 0 < (Y - D) * (C - A) := Rat.mul_pos (by grind) (by grind)
                have p2 : 0 ≤ (M - (C - A)) * (B - D) := Rat.mul_nonneg (by grind) (by grind)
                grind
          have hu : unitQ r1 r2 = true := unit_of (x := (r1, r2)) o3 (coP_bd c1).1.1 (Rat.le_of_lt hin.1) (Rat.le_of_lt hin.2) (coP_bd c2).1.2
          refine vaQ_of hm hu ?_
          rw [valQ_inside (x := (r1, r2)) hm h1 h2 hu hin.1 (Rat.le_of_lt hin.2)]
          exact onQ_of (d := (m1, m2)) (m := (d1, d2)) (r := y) o3 kpx kpy ks o2 o1 ky (by rw [er]; grind) (by rw [← em]; grind) (by rw [v1]; grind)
    · simp at hmem

theorem fixQ_up {ps : List Pt} (hm : okMap ps = true) : UpQ (fixQ ps) := setQ_up (fixPc_ok hm)
theorem befQ_up {ps : List Pt} {y : Q} (hm : okMap ps = true) (hb : befOk y ps = true) : UpQ (befQ y ps) := setQ_up (befPc_ok hm hb)

/-- Where a sign changes, two neighbours show it. -/
theorem fixed_ne {ps : List Pt} (hm : okMap ps = true) : fixQ ps ≠ [] := by
  intro he
  have hno : ∀ x, x ∉ (pcs ps).flatMap fixPc := fun x hx => by
    have : x ∈ fixQ ps := (setQ_mem _ x).2 hx
    rw [he] at this; simp at this
  have hl := okMap_len hm
  have hne : ∀ {i : Nat} {p : Pt}, ps[i]? = some p → toR p.1 ≠ toR p.2 := fun {i p} hp e => by
    have hc := okMap_coord hm hp
    have e2 : p.1 = p.2 := toR_inj (unitQ_ok (coordQ_unit hc.1)) (unitQ_ok (coordQ_unit hc.2)) e
    obtain ⟨s, hs, h⟩ := (pcs_ends hl.1 p).1 (List.mem_of_getElem? hp)
    refine hno p.1 (List.mem_flatMap.2 ⟨s, hs, ?_⟩)
    unfold fixPc
    rcases h with rfl | rfl
    · rw [if_pos e2]; simp
    · rw [if_pos e2]; simp
  have hall : ∀ (i : Nat) (p : Pt), ps[i]? = some p → toR p.1 < toR p.2 := by
    intro i
    induction i with
    | zero =>
      intro p hp
      have hf := okMap_first hm
      have e0 : ps.head? = some p := by rw [List.head?_eq_getElem?]; exact hp
      rw [e0] at hf
      have e1 : p.1 = (0, 1) := by simpa using hf
      have hb := (coP_bd (okMap_coord hm hp)).2.1
      have h0 : toR p.1 = 0 := by rw [e1]; exact toR_zero 1
      have := hne hp
      rw [h0] at this ⊢
      grind
    | succ i ih =>
      intro q hq
      have hlt : i < ps.length := by have := (List.getElem?_eq_some_iff.1 hq).1; omega
      have hp := List.getElem?_eq_getElem hlt
      have h1 := ih _ hp
      apply Rat.not_le.1
      intro hle
      have h2 := hne hq
      have h3 : toR q.2 < toR q.1 := by grind
      have hs : (ps[i], q) ∈ pcs ps := mem_pcs.2 ⟨i, hp, hq⟩
      obtain ⟨c1, c2⟩ := okMap_pc hm hs
      have hc : crossF ps[i] q = true := (crossF_iff c1 c2).2 (Or.inl ⟨h1, h3⟩)
      refine hno ((betwQ ps[i] q).1, (betwQ ps[i] q).2.1) (List.mem_flatMap.2 ⟨_, hs, ?_⟩)
      unfold fixPc
      rw [if_pos hc]; simp
  have hla := okMap_last hm
  rcases e : ps.getLast? with _ | p
  · rw [e] at hla; simp at hla
  · rw [e] at hla
    have e1 : p.1 = (1, 1) := by simpa using hla
    rw [List.getLast?_eq_getElem?] at e
    have h1 := hall _ _ e
    have h2 := (coP_bd (okMap_coord hm e)).2.2
    rw [e1, toR_one] at h1
    grind
end Go.Proofs.Ytkeajfgcjmhmiaa
