/- Plain: a map's values at its points and within its pieces; fixed points have their own value; a map has one; the points before a value have it. · Plain: the function that a list of points stands for; it is kept where points on a line are left out. -/
import Derived.Test.YtkeajfgcjmhmiaaGreatJ16
namespace Go.Proofs.YtkeajfgcjmhmiaaGreat
open Go.RowKit

theorem okMap_lt {ps : List Pt} (hm : okMap ps = true) {i j : Nat} {p q : Pt} (hp : ps[i]? = some p) (hq : ps[j]? = some q) (hij : i < j) : toR p.1 < toR q.1 := by
  have hd : ∀ {i : Nat} {p : Pt}, ps[i]? = some p → 1 ≤ p.1.2 := fun hp => by have := coordQ_bd (okMap_coord hm hp).1; omega
  obtain ⟨d, rfl⟩ : ∃ d, j = i + 1 + d := ⟨j - (i + 1), by omega⟩
  clear hij
  induction d generalizing q with
  | zero => exact (lessQ_iff (hd hp) (hd hq)).1 (okMap_rising hm hp hq)
  | succ d ih =>
    have hlt : i + 1 + d < ps.length := by have := (List.getElem?_eq_some_iff.1 hq).1; omega
    have hm1 := List.getElem?_eq_getElem hlt
    have h1 := ih hm1
    have h2 := (lessQ_iff (hd hm1) (hd hq)).1 (okMap_rising hm hm1 (by rw [show i + 1 + d + 1 = i + 1 + (d + 1) by omega]; exact hq))
    generalize toR p.1 = a at *
    exact Std.lt_trans h1 h2
theorem okMap_le {ps : List Pt} (hm : okMap ps = true) {i j : Nat} {p q : Pt} (hp : ps[i]? = some p) (hq : ps[j]? = some q) (hij : i ≤ j) : toR p.1 ≤ toR q.1 := by
  rcases Nat.lt_or_eq_of_le hij with h | rfl
  · exact Rat.le_of_lt (okMap_lt hm hp hq h)
  · rw [hp] at hq; injection hq with h; rw [h]; exact Rat.le_refl

/-- A line's value, if all parts fit. -/
theorem onQ_of {p : Pt} {s x d m r : Q} (kx : okQ x.1 x.2 = true) (k1 : okQ p.1.1 p.1.2 = true) (k2 : okQ p.2.1 p.2.2 = true) (ks : okQ s.1 s.2 = true) (kd : okQ d.1 d.2 = true) (km : okQ m.1 m.2 = true) (kr : okQ r.1 r.2 = true)
    (hd : toR d = toR x - toR p.1) (hm : toR m = toR s * toR d) (hr : toR r = toR p.2 + toR m) : onQ p s x = (r, true) := by
  have e1 : subQ x.1 x.2 p.1.1 p.1.2 = (d.1, d.2, true) := by rw [subQ_fit kx k1]; exact fitR_of kd hd
  have e2 : mulQ s.1 s.2 d.1 d.2 = (m.1, m.2, true) := by rw [mulQ_fit ks kd]; exact fitR_of km hm
  have e3 : addQ p.2.1 p.2.2 m.1 m.2 = (r.1, r.2, true) := by rw [addQ_fit k2 km]; exact fitR_of kr hr
  unfold onQ
  simp only
  rw [e1, show keepQ (d.1, d.2, true) = d from rfl, e2, show keepQ (m.1, m.2, true) = m from rfl, e3]
  rfl
theorem onQ_val {p : Pt} {s x r : Q} (kx : okQ x.1 x.2 = true) (k1 : okQ p.1.1 p.1.2 = true) (k2 : okQ p.2.1 p.2.2 = true) (ks : okQ s.1 s.2 = true) (h : onQ p s x = (r, true)) : toR r = toR p.2 + toR s * (toR x - toR p.1) ∧ okQ r.1 r.2 = true := by
  unfold onQ at h
  simp only at h
  rw [subQ_fit kx k1] at h
  rcases e1 : fitR (toR (x.1, x.2) - toR (p.1.1, p.1.2)) with ⟨d1, d2, t1⟩
  rw [e1] at h
  cases t1 with
  | false => simp at h
  | true =>
    obtain ⟨v1, o1⟩ := fitR_yes e1
    rw [show keepQ (d1, d2, true) = (d1, d2) from rfl] at h
    simp only at h
    rw [mulQ_fit ks o1] at h
    rcases e2 : fitR (toR (s.1, s.2) * toR (d1, d2)) with ⟨m1, m2, t2⟩
    rw [e2] at h
    cases t2 with
    | false => simp at h
    | true =>
      obtain ⟨v2, o2⟩ := fitR_yes e2
      rw [show keepQ (m1, m2, true) = (m1, m2) from rfl] at h
      simp only at h
      rw [addQ_fit k2 o2] at h
      rcases e3 : fitR (toR (p.2.1, p.2.2) + toR (m1, m2)) with ⟨r1, r2, t3⟩
      rw [e3] at h
      cases t3 with
      | false => simp at h
      | true =>
        obtain ⟨v3, o3⟩ := fitR_yes e3
        obtain rfl : (r1, r2) = r := by
          have := (Prod.mk.inj h).1
          rw [← this]; rfl
        refine ⟨?_, o3⟩
        rw [v3, v2, v1]

/-- The slope's parts, as fractions. -/
theorem slope_parts {p q : Pt} (cx : coordQ p.1.1 p.1.2 = true) (cy : coordQ p.2.1 p.2.2 = true) (dx : coordQ q.1.1 q.1.2 = true) (dy : coordQ q.2.1 q.2.2 = true) (hl : lessQ p.1.1 p.1.2 q.1.1 q.1.2 = true) :
    ∃ u f : Q, okQ u.1 u.2 = true ∧ okQ f.1 f.2 = true ∧ toR u = toR q.2 - toR p.2 ∧ toR f = toR q.1 - toR p.1 := by
  obtain ⟨u1, u2, f1, f2, s1, s2, e1, -, e2, -⟩ := slope_fits cx cy dx dy hl
  rw [subQ_fit (unitQ_ok (coordQ_unit dy)) (unitQ_ok (coordQ_unit cy))] at e1
  rw [subQ_fit (unitQ_ok (coordQ_unit dx)) (unitQ_ok (coordQ_unit cx))] at e2
  obtain ⟨r1, o1⟩ := fitR_yes e1
  obtain ⟨r2, o2⟩ := fitR_yes e2
  exact ⟨(u1, u2), (f1, f2), o1, o2, r1, r2⟩
theorem valQ_point {ps : List Pt} (hm : okMap ps = true) {j : Nat} {p : Pt} (hp : ps[j]? = some p) : valQ ps p.1 = (p.2, true) := by
  have hx := coordQ_unit (okMap_coord hm hp).1
  obtain ⟨a, b, h⟩ := atPiece hm hx
  rw [valQ_at h]
  obtain ⟨ks, es⟩ := slopeQ_ok h.cx h.cy h.dx h.dy h.rise
  obtain ⟨u, f, ku, kf, eu, ef⟩ := slope_parts h.cx h.cy h.dx h.dy h.rise
  have k1 := unitQ_ok (coordQ_unit h.cx)
  have k2 := unitQ_ok (coordQ_unit h.cy)
  have k4 := unitQ_ok (coordQ_unit h.dy)
  have kx := unitQ_ok hx
  rcases Nat.lt_or_ge (pieceN ps p.1) j with hj | hj
  · have h1 := okMap_le hm h.next hp hj
    have h2 := h.high
    have e : j = pieceN ps p.1 + 1 := by
      rcases Nat.lt_or_eq_of_le hj with h3 | h3
      · have := okMap_lt hm h.next hp h3
        grind
      · exact h3.symm
    have hb := h.next
    rw [← e, hp] at hb
    injection hb with hb
    subst hb
    exact onQ_of (d := f) (m := u) kx k1 k2 ks kf ku k4 ef (by rw [eu, ef, es]) (by rw [eu]; grind)
  · have h1 := okMap_le hm hp h.here hj
    have h2 := h.low
    have e : j = pieceN ps p.1 := by
      rcases Nat.lt_or_eq_of_le hj with h3 | h3
      · have := okMap_lt hm hp h.here h3
        grind
      · exact h3
    have ha := h.here
    rw [← e, hp] at ha
    injection ha with ha
    subst ha
    exact onQ_of (d := (0, 1)) (m := (0, 1)) kx k1 k2 ks okQ_zero okQ_zero k2 (by rw [toR_zero]; grind) (by rw [toR_zero]; grind) (by rw [toR_zero]; grind)
theorem vaQ_yes {ps : List Pt} {x : Q} {a b : Int} (h : vaQ ps x = (a, b, true)) : okMap ps = true ∧ unitQ x.1 x.2 = true ∧ valQ ps x = ((a, b), true) := by
  unfold vaQ at h
  split at h
  · rename_i hh
    refine ⟨hh.1, hh.2, ?_⟩
    unfold atQ at h
    split at h
    · rename_i h2
      have e := Prod.mk.inj h
      have e2 := Prod.mk.inj e.2
      rw [← e.1, ← e2.1, ← h2]
    · simp at h
  · simp at h
theorem vaQ_of {ps : List Pt} {x : Q} {a b : Int} (hm : okMap ps = true) (hx : unitQ x.1 x.2 = true) (h : valQ ps x = ((a, b), true)) : vaQ ps x = (a, b, true) := by
  unfold vaQ atQ
  rw [if_pos ⟨hm, hx⟩, h]
  rfl

theorem coP_bd {p : Pt} (h : CoP p) : (0 ≤ toR p.1 ∧ toR p.1 ≤ 1) ∧ 0 ≤ toR p.2 ∧ toR p.2 ≤ 1 := ⟨(unitQ_iff.1 (coordQ_unit h.1)).2, (unitQ_iff.1 (coordQ_unit h.2)).2⟩

theorem cross_iff {y : Q} {p q : Pt} (hp : CoP p) (hq : CoP q) (hy : unitQ y.1 y.2 = true) : crossY y p q = true ↔ (toR p.2 < toR y ∧ toR y < toR q.2) ∨ (toR y < toR p.2 ∧ toR q.2 < toR y) := by
  have k0 := okQ_bd (unitQ_ok hy)
  have k2 := okQ_bd (unitQ_ok (coordQ_unit hp.2))
  have k4 := okQ_bd (unitQ_ok (coordQ_unit hq.2))
  unfold crossY
  rw [decide_eq_true_iff, sgn_mul (cmpQ_abs ..) (cmpQ_abs ..), cmpQ_lt k2.1 k0.1, cmpQ_gt k4.1 k0.1, cmpQ_gt k2.1 k0.1, cmpQ_lt k4.1 k0.1]
end Go.Proofs.YtkeajfgcjmhmiaaGreat

namespace Go.Proofs.YtkeajfgcjmhmiaaGreat
open Go.RowKit

def slR (p q : Pt) : Rat := (toR q.2 - toR p.2) / (toR q.1 - toR p.1)
/-- The value at x of the line through two points. -/
def lineR (p q : Pt) (x : Rat) : Rat := toR p.2 + slR p q * (x - toR p.1)
def evalR : List Pt → Rat → Rat
  | [], _ => 0
  | [p], _ => toR p.2
  | p :: q :: r, x => if x ≤ toR q.1 then lineR p q x else evalR (q :: r) x
def UpX (l : List Pt) : Prop := l.Pairwise (fun p q => toR p.1 < toR q.1)
theorem UpX.head {p q : Pt} {l : List Pt} (h : UpX (p :: q :: l)) : toR p.1 < toR q.1 := (List.pairwise_cons.1 h).1 q List.mem_cons_self
theorem UpX.tail {p : Pt} {l : List Pt} (h : UpX (p :: l)) : UpX l := (List.pairwise_cons.1 h).2
theorem UpX.skip {p q : Pt} {l : List Pt} (h : UpX (p :: q :: l)) : UpX (p :: l) :=
  List.pairwise_cons.2 ⟨fun r hr => (List.pairwise_cons.1 h).1 r (List.mem_cons_of_mem _ hr), h.tail.tail⟩
theorem slR_mul {p q : Pt} (h : toR p.1 < toR q.1) : slR p q * (toR q.1 - toR p.1) = toR q.2 - toR p.2 := by
  unfold slR
  exact Rat.div_mul_cancel (by grind)
theorem slR_of {p q : Pt} {s : Rat} (h : toR p.1 < toR q.1) (hs : s * (toR q.1 - toR p.1) = toR q.2 - toR p.2) : s = slR p q := by
  have e := slR_mul h
  have hne : toR q.1 - toR p.1 ≠ 0 := by grind
  have : (s - slR p q) * (toR q.1 - toR p.1) = 0 := by grind
  rcases Rat.mul_eq_zero.1 this with h | h
  · grind
  · exact absurd h hne
theorem lineR_left (p q : Pt) : lineR p q (toR p.1) = toR p.2 := by unfold lineR; grind
theorem lineR_right {p q : Pt} (h : toR p.1 < toR q.1) : lineR p q (toR q.1) = toR q.2 := by
  have := slR_mul h
  unfold lineR; grind
/-- Three points on a line. -/
theorem slR_join {a q r : Pt} (h1 : toR a.1 < toR q.1) (h2 : toR q.1 < toR r.1) (e : slR a q = slR q r) : slR a r = slR q r := by
  have e1 := slR_mul h1
  have e2 := slR_mul h2
  rw [e] at e1
  exact (slR_of (s := slR q r) (by grind) (by grind)).symm
theorem lineR_join {a q r : Pt} (h1 : toR a.1 < toR q.1) (h2 : toR q.1 < toR r.1) (e : slR a q = slR q r) (x : Rat) : lineR a r x = lineR a q x ∧ lineR a r x = lineR q r x := by
  have e3 := slR_join h1 h2 e
  have e1 := slR_mul h1
  unfold lineR
  rw [e3, e]
  refine ⟨rfl, ?_⟩
  rw [e] at e1
  grind
theorem evalR_first {p : Pt} {l : List Pt} (h : UpX (p :: l)) : evalR (p :: l) (toR p.1) = toR p.2 := by
  cases l with
  | nil => rfl
  | cons q l =>
    have := h.head
    rw [evalR, if_pos (Rat.le_of_lt this), lineR_left]
/-- A point on the line between its neighbours may be left out. -/
theorem evalR_skip {a q r : Pt} {t : List Pt} (h : UpX (a :: q :: r :: t)) (e : slR a q = slR q r) (x : Rat) : evalR (a :: r :: t) x = evalR (a :: q :: r :: t) x := by
  have h1 := h.head
  have h2 := h.tail.head
  obtain ⟨e1, e2⟩ := lineR_join h1 h2 e x
  rw [evalR, evalR, evalR]
  by_cases c1 : x ≤ toR q.1
  · rw [if_pos (by grind), if_pos c1, e1]
  · rw [if_neg c1]
    by_cases c2 : x ≤ toR r.1
    · rw [if_pos c2, if_pos c2, e2]
    · rw [if_neg c2, if_neg c2]

/-- The points behind the first that are kept: each with its neighbours' slopes. -/
def keptL : Pt → Pt → List Pt → List Pt
  | _, q, [] => [q]
  | p, q, r :: t => (if slR p q = slR q r then [] else [q]) ++ keptL q r t
theorem evalR_kept : ∀ (t : List Pt) (a p q : Pt), UpX (a :: q :: t) → toR p.1 < toR q.1 → slR a q = slR p q → ∀ x, evalR (a :: keptL p q t) x = evalR (a :: q :: t) x
  | [], a, p, q, _, _, _, x => rfl
  | r :: t, a, p, q, h, hp, e, x => by
    rw [keptL]
    by_cases c : slR p q = slR q r
    · rw [if_pos c, List.nil_append]
      have e2 : slR a q = slR q r := e.trans c
      rw [evalR_kept t a q r h.skip h.tail.head (slR_join h.head h.tail.head e2) x]
      exact evalR_skip h e2 x
    · rw [if_neg c]
      show evalR (a :: q :: keptL q r t) x = _
      rw [evalR, evalR]
      by_cases c1 : x ≤ toR q.1
      · rw [if_pos c1, if_pos c1]
      · rw [if_neg c1, if_neg c1]
        exact evalR_kept t q q r h.tail h.tail.head rfl x
/-- No inner point lies on a line with its neighbours. -/
def NoLine : List Pt → Prop
  | p :: q :: r :: t => slR p q ≠ slR q r ∧ NoLine (q :: r :: t)
  | _ => True
theorem keptL_head : ∀ (t : List Pt) (a p q : Pt), UpX (a :: q :: t) → toR p.1 < toR q.1 → slR a q = slR p q → ∃ z t', keptL p q t = z :: t' ∧ slR a z = slR p q
  | [], a, p, q, _, _, e => ⟨q, [], rfl, e⟩
  | r :: t, a, p, q, h, hp, e => by
    rw [keptL]
    by_cases c : slR p q = slR q r
    · rw [if_pos c, List.nil_append, c]
      exact keptL_head t a q r h.skip h.tail.head (slR_join h.head h.tail.head (e.trans c))
    · rw [if_neg c]
      exact ⟨q, keptL q r t, rfl, e⟩
theorem kept_noLine : ∀ (t : List Pt) (a p q : Pt), UpX (a :: q :: t) → toR p.1 < toR q.1 → slR a q = slR p q → NoLine (a :: keptL p q t)
  | [], a, p, q, _, _, _ => trivial
  | r :: t, a, p, q, h, hp, e => by
    rw [keptL]
    by_cases c : slR p q = slR q r
    · rw [if_pos c, List.nil_append]
      exact kept_noLine t a q r h.skip h.tail.head (slR_join h.head h.tail.head (e.trans c))
    · rw [if_neg c]
      show NoLine (a :: q :: keptL q r t)
      obtain ⟨z, t', hz, hs⟩ := keptL_head t q q r h.tail h.tail.head rfl
      have ih := kept_noLine t q q r h.tail h.tail.head rfl
      rw [hz] at ih ⊢
      refine ⟨?_, ih⟩
      rw [hs, e]
      exact c
def lastX : Pt → List Pt → Rat
  | p, [] => toR p.1
  | _, q :: t => lastX q t
theorem lastX_ge : ∀ (l : List Pt) (p : Pt), UpX (p :: l) → toR p.1 ≤ lastX p l
  | [], p, _ => Rat.le_refl
  | q :: t, p, h => by
    have h1 := h.head
    have h2 := lastX_ge t q h.tail
    show toR p.1 ≤ lastX q t
    grind
def OkPts (l : List Pt) : Prop := ∀ p ∈ l, okQ p.1.1 p.1.2 = true ∧ okQ p.2.1 p.2.2 = true
theorem uniq_lt {p q q' : Pt} {l m : List Pt} (hl : UpX (p :: q :: l)) (hm : UpX (p :: q' :: m)) (nl : NoLine (p :: q :: l)) (he : lastX p (q :: l) = lastX p (q' :: m))
    (hx : ∀ x, toR p.1 ≤ x → x ≤ lastX p (q :: l) → evalR (p :: q :: l) x = evalR (p :: q' :: m) x) : ¬ toR q.1 < toR q'.1 := by
  intro hlt
  have g1 := lastX_ge m q' hm.tail
  change lastX q l = lastX q' m at he
  cases l with
  | nil => change toR q.1 = _ at he; grind
  | cons r l =>
    have g2 := lastX_ge l r hl.tail.tail
    change lastX r l = lastX q' m at he
    have hpq := hl.head
    have hqr := hl.tail.head
    have hpq' := hm.head
    have e0 := hx (toR q.1) (Rat.le_of_lt hpq) (by show _ ≤ lastX r l; grind)
    rw [evalR, if_pos Rat.le_refl, evalR, if_pos (Rat.le_of_lt hlt), lineR_right hpq] at e0
    have es : slR p q' = slR p q := by
      refine slR_of hpq ?_
      unfold lineR at e0
      grind
    obtain ⟨x, x1, x2, x3⟩ : ∃ x, toR q.1 < x ∧ x ≤ toR r.1 ∧ x ≤ toR q'.1 := by
      by_cases c : toR r.1 ≤ toR q'.1
      · exact ⟨toR r.1, hqr, Rat.le_refl, c⟩
      · exact ⟨toR q'.1, hlt, by grind, Rat.le_refl⟩
    have e1 := hx x (by grind) (by show _ ≤ lastX r l; grind)
    rw [evalR, if_neg (by grind), evalR, if_pos x2, evalR, if_pos x3] at e1
    have h1 := slR_mul hpq
    unfold lineR at e0 e1
    rw [es] at e0 e1
    have : (slR q r - slR p q) * (x - toR q.1) = 0 := by grind
    rcases Rat.mul_eq_zero.1 this with h | h
    · exact nl.1 (by grind)
    · grind
theorem uniq : ∀ (l m : List Pt) (p : Pt), UpX (p :: l) → UpX (p :: m) → NoLine (p :: l) → NoLine (p :: m) → OkPts l → OkPts m → lastX p l = lastX p m →
    (∀ x, toR p.1 ≤ x → x ≤ lastX p l → evalR (p :: l) x = evalR (p :: m) x) → l = m
  | [], [], _, _, _, _, _, _, _, _, _ => rfl
  | [], q :: m, p, _, hm, _, _, _, _, he, _ => by
    have := lastX_ge m q hm.tail
    have := hm.head
    change toR p.1 = lastX q m at he
    grind
  | q :: l, [], p, hl, _, _, _, _, _, he, _ => by
    have := lastX_ge l q hl.tail
    have := hl.head
    change lastX q l = toR p.1 at he
    grind
  | q :: l, q' :: m, p, hl, hm, nl, nm, ol, om, he, hx => by
    have n1 := uniq_lt hl hm nl he hx
    have n2 := uniq_lt hm hl nm he.symm (fun x h1 h2 => (hx x h1 (by rw [he]; exact h2)).symm)
    have ex : toR q.1 = toR q'.1 := by grind
    have g := lastX_ge l q hl.tail
    have hpq := hl.head
    have hpq' := hm.head
    have e0 := hx (toR q.1) (Rat.le_of_lt hpq) g
    rw [evalR, if_pos Rat.le_refl, evalR, if_pos (by rw [ex]; exact Rat.le_refl), lineR_right hpq] at e0
    rw [ex, lineR_right hpq'] at e0
    have k := ol q List.mem_cons_self
    have k' := om q' List.mem_cons_self
    obtain rfl : q = q' := Prod.ext (toR_inj k.1 k'.1 ex) (toR_inj k.2 k'.2 e0)
    have hn : ∀ {r : Pt} {t : List Pt}, NoLine (p :: r :: t) → NoLine (r :: t) := fun {r t} h => by
      cases t with
      | nil => trivial
      | cons s t => exact h.2
    have := uniq l m q hl.tail hm.tail (hn nl) (hn nm) (fun r hr => ol r (List.mem_cons_of_mem _ hr)) (fun r hr => om r (List.mem_cons_of_mem _ hr)) he (fun x h1 h2 => by
      by_cases c : x = toR q.1
      · subst c; rw [evalR_first hl.tail, evalR_first hm.tail]
      · have := hx x (by grind) h2
        rw [evalR, if_neg (by grind), evalR, if_neg (by grind)] at this
        exact this)
    rw [this]
end Go.Proofs.YtkeajfgcjmhmiaaGreat
