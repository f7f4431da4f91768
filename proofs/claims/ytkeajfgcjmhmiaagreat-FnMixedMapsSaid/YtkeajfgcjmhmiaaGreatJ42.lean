/- Plain: a list of points of a function that is linear between them; values of maps as that function. · Plain: a map made simple has the same function; maps with one function are one map when made simple. -/
import Derived.Test.YtkeajfgcjmhmiaaGreatJ41
import Derived.Test.YtkeajfgcjmhmiaaGreatJ24
namespace Go.Proofs.YtkeajfgcjmhmiaaGreat
open Go.RowKit

def LinOn (F : Rat → Rat) : List Pt → Prop
  | p :: q :: t => (∀ x, toR p.1 ≤ x → x ≤ toR q.1 → F x = lineR p q x) ∧ LinOn F (q :: t)
  | [p] => F (toR p.1) = toR p.2
  | [] => True
theorem evalR_lin {F : Rat → Rat} : ∀ (l : List Pt) (p : Pt), UpX (p :: l) → LinOn F (p :: l) → ∀ x, toR p.1 ≤ x → x ≤ lastX p l → evalR (p :: l) x = F x
  | [], p, _, h, x, h1, h2 => by
    change x ≤ toR p.1 at h2
    obtain rfl : x = toR p.1 := by grind
    exact h.symm
  | q :: l, p, hu, h, x, h1, h2 => by
    rw [evalR]
    by_cases c : x ≤ toR q.1
    · rw [if_pos c, h.1 x h1 c]
    · rw [if_neg c]
      exact evalR_lin l q hu.tail h.2 x (by grind) h2
theorem evalR_behind {p q : Pt} {l : List Pt} (hu : UpX (p :: q :: l)) {x : Rat} (hx : toR q.1 ≤ x) : evalR (p :: q :: l) x = evalR (q :: l) x := by
  by_cases c : x = toR q.1
  · subst c
    rw [evalR_first hu.tail, evalR, if_pos Rat.le_refl, lineR_right hu.head]
  · rw [evalR, if_neg (by grind)]
/-- Between two neighbouring places it is linear. -/
theorem evalR_between : ∀ (l : List Pt) (p : Pt) (u v : Rat), UpX (p :: l) → toR p.1 ≤ u → u < v → v ≤ lastX p l → (∀ r ∈ l, ¬ (u < toR r.1 ∧ toR r.1 < v)) →
    ∃ s, ∀ x, u ≤ x → x ≤ v → evalR (p :: l) x = evalR (p :: l) u + s * (x - u)
  | [], p, u, v, _, h1, h2, h3, _ => by
    change v ≤ toR p.1 at h3
    grind
  | q :: l, p, u, v, hu, h1, h2, h3, h4 => by
    by_cases c : v ≤ toR q.1
    · refine ⟨slR p q, fun x x1 x2 => ?_⟩
      rw [evalR, if_pos (by grind), evalR, if_pos (by grind)]
      unfold lineR
      grind
    · have h5 := h4 q List.mem_cons_self
      have h6 : toR q.1 ≤ u := by grind
      obtain ⟨s, hs⟩ := evalR_between l q u v hu.tail h6 h2 h3 (fun r hr => h4 r (List.mem_cons_of_mem _ hr))
      refine ⟨s, fun x x1 x2 => ?_⟩
      rw [evalR_behind hu (by grind), evalR_behind hu h6]
      exact hs x x1 x2
theorem evalR_at : ∀ (i : Nat) (ps : List Pt) (p q : Pt), UpX ps → ps[i]? = some p → ps[i + 1]? = some q → ∀ x, toR p.1 ≤ x → x ≤ toR q.1 → evalR ps x = lineR p q x
  | 0, a :: b :: t, p, q, _, h1, h2, x, _, x2 => by
    simp only [List.getElem?_cons_zero, List.getElem?_cons_succ, Option.some.injEq] at h1 h2
    subst h1; subst h2
    rw [evalR, if_pos x2]
  | i + 1, a :: b :: t, p, q, hu, h1, h2, x, x1, x2 => by
    have h1' : (b :: t)[i]? = some p := by simpa using h1
    have hb : toR b.1 ≤ toR p.1 := by
      cases i with
      | zero => simp at h1'; rw [h1']; exact Rat.le_refl
      | succ i =>
        have hm : p ∈ t := List.mem_of_getElem? (by simpa using h1')
        exact Rat.le_of_lt ((List.pairwise_cons.1 hu.tail).1 p hm)
    rw [evalR_behind hu (by grind)]
    exact evalR_at i (b :: t) p q hu.tail h1' (by simpa using h2) x x1 x2
  | _, [], _, _, _, h1, _, _, _, _ => by simp at h1
  | _, [a], _, _, _, h1, h2, _, _, _ => by simp at h2
theorem okMap_upX {ps : List Pt} (hm : okMap ps = true) : UpX ps := by
  unfold UpX
  rw [List.pairwise_iff_getElem]
  intro i j hi hj hij
  exact okMap_lt hm (List.getElem?_eq_getElem hi) (List.getElem?_eq_getElem hj) hij
/-- A slope of the program's is that of the line. -/
theorem slopeQ_sl {p q : Pt} (hp : CoP p) (hq : CoP q) (hl : lessQ p.1.1 p.1.2 q.1.1 q.1.2 = true) (hlt : toR p.1 < toR q.1) : toR (slopeQ p q) = slR p q :=
  slR_of hlt (slopeQ_ok hp.1 hp.2 hq.1 hq.2 hl).2
/-- A value, where it is told, is the function's. -/
theorem valQ_eval {ps : List Pt} {x v : Q} (hm : okMap ps = true) (hx : unitQ x.1 x.2 = true) (hv : valQ ps x = (v, true)) : evalR ps (toR x) = toR v ∧ okQ v.1 v.2 = true := by
  obtain ⟨p, q, h⟩ := atPiece hm hx
  rw [valQ_at h] at hv
  have hlt := okMap_lt hm h.here h.next (by omega)
  obtain ⟨ks, es⟩ := slopeQ_ok h.cx h.cy h.dx h.dy h.rise
  obtain ⟨e, kv⟩ := onQ_val (unitQ_ok hx) (unitQ_ok (coordQ_unit h.cx)) (unitQ_ok (coordQ_unit h.cy)) ks hv
  refine ⟨?_, kv⟩
  rw [evalR_at _ ps p q (okMap_upX hm) h.here h.next (toR x) h.low h.high, e, slR_of hlt es]
  rfl
end Go.Proofs.YtkeajfgcjmhmiaaGreat

namespace Go.Proofs.YtkeajfgcjmhmiaaGreat
open Go.RowKit

theorem keptQ_cons (a : Pt) (l : List Pt) : ∀ k, keptQ (a :: l) (k + 1) = (match l[0]?, l[1]? with | some q, some r => if slopeQ a q = slopeQ q r then [] else [q] | _, _ => []) ++ keptQ l k
  | 0 => by
    rw [keptQ, keptQ, keptQ]
    simp only [List.getElem?_cons_zero, Nat.zero_add, List.getElem?_cons_succ, List.nil_append, List.append_nil]
    rcases l[0]? with _ | q
    · rfl
    · rcases l[1]? with _ | r <;> rfl
  | k + 1 => by
    rw [keptQ, keptQ_cons a l k, keptQ, List.append_assoc]
    rfl
def keptS : Pt → Pt → List Pt → List Pt
  | _, q, [] => [q]
  | p, q, r :: t => (if slopeQ p q = slopeQ q r then [] else [q]) ++ keptS q r t
theorem simpleQ_eq : ∀ (t : List Pt) (p q : Pt), simpleQ (p :: q :: t) = p :: keptS p q t
  | [], p, q => rfl
  | r :: t, p, q => by
    have ih := simpleQ_eq t q r
    unfold simpleQ at ih ⊢
    simp only [List.length_cons, List.take_succ_cons, List.take_zero, Nat.add_sub_cancel, List.cons_append, List.nil_append, List.cons.injEq, true_and] at ih ⊢
    rw [show t.length + 1 + 1 + 1 - 2 = t.length + 1 by omega, keptQ_cons]
    rw [show t.length + 1 + 1 - 2 = t.length by omega] at ih
    simp only [List.drop_succ_cons] at ih ⊢
    rw [keptS, ← ih]
    simp only [List.getElem?_cons_zero, List.getElem?_cons_succ, List.append_assoc]
def GoodL : List Pt → Prop
  | p :: q :: t => (CoP p ∧ CoP q ∧ lessQ p.1.1 p.1.2 q.1.1 q.1.2 = true) ∧ GoodL (q :: t)
  | _ => True
theorem goodL_of : ∀ (l : List Pt), RiseC l → GoodL l
  | [], _ => trivial
  | [_], _ => trivial
  | p :: q :: t, h => ⟨⟨h.coord 0 p rfl, h.coord 1 q rfl, h.rise 0 p q rfl rfl⟩, goodL_of (q :: t) ⟨fun i r hr => h.coord (i + 1) r hr, fun i r s hr hs => h.rise (i + 1) r s hr hs⟩⟩
theorem slope_iff {p q r : Pt} (h1 : CoP p ∧ CoP q ∧ lessQ p.1.1 p.1.2 q.1.1 q.1.2 = true) (h2 : CoP q ∧ CoP r ∧ lessQ q.1.1 q.1.2 r.1.1 r.1.2 = true) : slopeQ p q = slopeQ q r ↔ slR p q = slR q r := by
  have b1 := okQ_bd (unitQ_ok (coordQ_unit h1.1.1))
  have b2 := okQ_bd (unitQ_ok (coordQ_unit h1.2.1.1))
  have b3 := okQ_bd (unitQ_ok (coordQ_unit h2.2.1.1))
  have l1 := (lessQ_iff (n1 := p.1.1) (n2 := q.1.1) b1.1 b2.1).1 h1.2.2
  have l2 := (lessQ_iff (n1 := q.1.1) (n2 := r.1.1) b2.1 b3.1).1 h2.2.2
  have e1 := slopeQ_sl h1.1 h1.2.1 h1.2.2 l1
  have e2 := slopeQ_sl h2.1 h2.2.1 h2.2.2 l2
  have k1 := (slopeQ_ok h1.1.1 h1.1.2 h1.2.1.1 h1.2.1.2 h1.2.2).1
  have k2 := (slopeQ_ok h2.1.1 h2.1.2 h2.2.1.1 h2.2.1.2 h2.2.2).1
  constructor
  · intro h; rw [← e1, ← e2, h]
  · intro h; exact toR_inj k1 k2 (by rw [e1, e2, h])
theorem keptS_eq : ∀ (t : List Pt) (p q : Pt), GoodL (p :: q :: t) → keptS p q t = keptL p q t
  | [], _, _, _ => rfl
  | r :: t, p, q, h => by
    rw [keptS, keptL, keptS_eq t q r h.2]
    by_cases c : slR p q = slR q r
    · rw [if_pos c, if_pos ((slope_iff h.1 h.2.1).2 c)]
    · rw [if_neg c, if_neg (fun e => c ((slope_iff h.1 h.2.1).1 e))]
theorem simple_two {ps : List Pt} (hm : okMap ps = true) : ∃ p q t, ps = p :: q :: t ∧ simpleQ ps = p :: keptL p q t ∧ UpX (p :: q :: t) ∧ toR p.1 < toR q.1 := by
  have hl := okMap_len hm
  match ps, hl with
  | p :: q :: t, _ =>
    have hu := okMap_upX hm
    exact ⟨p, q, t, rfl, by rw [simpleQ_eq, keptS_eq t p q (goodL_of _ (okMap_riseC hm))], hu, hu.head⟩
theorem simple_eval {ps : List Pt} (hm : okMap ps = true) (x : Rat) : evalR (simpleQ ps) x = evalR ps x := by
  obtain ⟨p, q, t, rfl, e, hu, hlt⟩ := simple_two hm
  rw [e]
  exact evalR_kept t p p q hu hlt rfl x
theorem keptL_sub : ∀ (t : List Pt) (p q : Pt), (keptL p q t).Sublist (q :: t)
  | [], _, q => List.Sublist.refl _
  | r :: t, p, q => by
    rw [keptL]
    have ih := keptL_sub t q r
    split
    · rw [List.nil_append]; exact ih.trans (List.sublist_cons_self _ _)
    · exact ih.cons_cons q
theorem lastX_kept : ∀ (t : List Pt) (a p q : Pt), lastX a (keptL p q t) = lastX q t
  | [], _, _, _ => rfl
  | r :: t, a, p, q => by
    rw [keptL]
    split
    · rw [List.nil_append]; exact lastX_kept t a q r
    · exact lastX_kept t q q r
theorem lastX_last : ∀ (l : List Pt) (p z : Pt), (p :: l).getLast? = some z → lastX p l = toR z.1
  | [], p, z, h => by simp at h; rw [← h]; rfl
  | q :: l, p, z, h => by
    rw [List.getLast?_cons_cons] at h
    exact lastX_last l q z h
theorem okMap_lastX {p : Pt} {l : List Pt} (hm : okMap (p :: l) = true) : lastX p l = 1 := by
  have hla := okMap_last hm
  rcases e : (p :: l).getLast? with _ | z
  · rw [e] at hla; simp at hla
  · rw [e] at hla
    have e1 : z.1 = (1, 1) := by simpa using hla
    rw [lastX_last l p z e, e1, toR_one]
theorem okMap_okPts {ps : List Pt} (hm : okMap ps = true) : OkPts ps := fun p hp => by
  obtain ⟨i, hi, rfl⟩ := List.getElem_of_mem hp
  have := okMap_coord hm (List.getElem?_eq_getElem hi)
  exact ⟨unitQ_ok (coordQ_unit this.1), unitQ_ok (coordQ_unit this.2)⟩
theorem okMap_head0 {p : Pt} {l : List Pt} (hm : okMap (p :: l) = true) : toR p.1 = 0 := by
  have hf := okMap_first hm
  have e1 : p.1 = (0, 1) := by simpa using hf
  rw [e1]; exact toR_zero 1
/-- Maps are the same when made simple if and only if they have one function. -/
theorem same_iff {ps qs : List Pt} (h1 : okMap ps = true) (h2 : okMap qs = true) : simpleQ ps = simpleQ qs ↔ ∀ x, 0 ≤ x → x ≤ 1 → evalR ps x = evalR qs x := by
  constructor
  · intro h x _ _
    rw [← simple_eval h1, ← simple_eval h2, h]
  · intro h
    obtain ⟨p, q, t, rfl, e, hu, hlt⟩ := simple_two h1
    obtain ⟨p', q', t', rfl, e', hu', hlt'⟩ := simple_two h2
    have z := okMap_head0 h1
    have z' := okMap_head0 h2
    have l1 := okMap_lastX h1
    have l2 := okMap_lastX h2
    change lastX q t = 1 at l1
    change lastX q' t' = 1 at l2
    have k := okMap_okPts h1
    have k' := okMap_okPts h2
    have e0 := h 0 Rat.le_refl (by decide)
    have f1 := evalR_first hu
    have f2 := evalR_first hu'
    rw [z] at f1
    rw [z'] at f2
    rw [f1, f2] at e0
    obtain rfl : p = p' := Prod.ext (toR_inj (k p List.mem_cons_self).1 (k' p' List.mem_cons_self).1 (by rw [z, z'])) (toR_inj (k p List.mem_cons_self).2 (k' p' List.mem_cons_self).2 e0)
    rw [e, e']
    have s1 := keptL_sub t p q
    have s2 := keptL_sub t' p q'
    have u1 : UpX (p :: keptL p q t) := List.Pairwise.sublist (s1.cons_cons p) hu
    have u2 : UpX (p :: keptL p q' t') := List.Pairwise.sublist (s2.cons_cons p) hu'
    have := uniq _ _ p u1 u2 (kept_noLine t p p q hu hlt rfl) (kept_noLine t' p p q' hu' hlt' rfl)
      (fun r hr => k r (List.mem_cons_of_mem _ (s1.subset hr))) (fun r hr => k' r (List.mem_cons_of_mem _ (s2.subset hr)))
      (by rw [lastX_kept, lastX_kept, l1, l2]) (fun x x1 x2 => by
        rw [lastX_kept, l1] at x2
        rw [evalR_kept t p p q hu hlt rfl x, evalR_kept t' p p q' hu' hlt' rfl x]
        exact h x (by rw [← z]; exact x1) x2)
    rw [this]
/-- The value at a place fits where place and value have small denominators. -/
theorem valQ_coord {ps : List Pt} {x y : Q} (hm : okMap ps = true) (hx : coordQ x.1 x.2 = true) (hy : coordQ y.1 y.2 = true) (he : evalR ps (toR x) = toR y) : valQ ps x = (y, true) := by
  have ux := coordQ_unit hx
  obtain ⟨p, q, h⟩ := atPiece hm ux
  rw [valQ_at h]
  obtain ⟨ks, es⟩ := slopeQ_ok h.cx h.cy h.dx h.dy h.rise
  have hlt := okMap_lt hm h.here h.next (by omega)
  have k1 := unitQ_ok (coordQ_unit h.cx)
  have k2 := unitQ_ok (coordQ_unit h.cy)
  obtain ⟨d1, d2, e1, -, -, -, -, -, od, -⟩ := sub_coord hx h.cx
  obtain ⟨m1, m2, e2, -, -, -, -, -, om, -⟩ := sub_coord hy h.cy
  rw [subQ_fit (unitQ_ok ux) k1] at e1
  rw [subQ_fit (unitQ_ok (coordQ_unit hy)) k2] at e2
  obtain ⟨r1, -⟩ := fitR_yes e1
  obtain ⟨r2, -⟩ := fitR_yes e2
  rw [evalR_at _ ps p q (okMap_upX hm) h.here h.next (toR x) h.low h.high] at he
  unfold lineR at he
  have hs := slR_of hlt es
  refine onQ_of (d := (d1, d2)) (m := (m1, m2)) (unitQ_ok ux) k1 k2 ks od om (unitQ_ok (coordQ_unit hy)) r1 ?_ ?_
  · rw [r1, r2, hs]
    change toR y - toR p.2 = slR p q * (toR x - toR p.1)
    grind
  · rw [r2]
    change toR y = toR p.2 + (toR y - toR p.2)
    grind
end Go.Proofs.YtkeajfgcjmhmiaaGreat
