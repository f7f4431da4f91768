/- Plain: a map made simple has the same function; maps with one function are one map when made simple. -/
import Derived.Test.YtkeajfgcjmhmiaaGreatDoorM33
import Derived.Test.YtkeajfgcjmhmiaaGreatDoorM34
namespace Go.Proofs.YtkeajfgcjmhmiaaGreatDoor
open Go.RowKit

theorem keptQ_cons (a : Pt) (l : List Pt) : ∀ k, keptQ (a :: l) (k + 1) = (match l[0]?, l[1]? with | some q, some r => if slopeQ a q = slopeQ q r then [] else [q] | _, _ => []) ++ keptQ l k
  | 0 => by
    rw [keptQ, keptQ, keptQ]
    simp only [List.getElem?_cons_zero, Nat.zero_add, List.getElem?_cons_succ, List.nil_append, List.append_nil]
    rcases l[0]? with _ | q
    · rfl
    · rcases l[1]? with _ | r <;> rfl
  | k + 1 => by
    rw [keptQ, keptQ_cons a l k, keptQ, List.append_assoc]
    rfl
def keptS : Pt → Pt → List Pt → List Pt
  | _, q, [] => [q]
  | p, q, r :: t => (if slopeQ p q = slopeQ q r then [] else [q]) ++ keptS q r t
theorem simpleQ_eq : ∀ (t : List Pt) (p q : Pt), simpleQ (p :: q :: t) = p :: keptS p q t
  | [], p, q => rfl
  | r :: t, p, q => by
    have ih := simpleQ_eq t q r
    unfold simpleQ at ih ⊢
    simp only [List.length_cons, List.take_succ_cons, List.take_zero, Nat.add_sub_cancel, List.cons_append, List.nil_append, List.cons.injEq, true_and] at ih ⊢
    rw [show t.length + 1 + 1 + 1 - 2 = t.length + 1 by omega, keptQ_cons]
    rw [show t.length + 1 + 1 - 2 = t.length by omega] at ih
    simp only [List.drop_succ_cons] at ih ⊢
    rw [keptS, ← ih]
    simp only [List.getElem?_cons_zero, List.getElem?_cons_succ, List.append_assoc]
def GoodL : List Pt → Prop
  | p :: q :: t => (CoP p ∧ CoP q ∧ lessQ p.1.1 p.1.2 q.1.1 q.1.2 = true) ∧ GoodL (q :: t)
  | _ => True
theorem goodL_of : ∀ (l : List Pt), RiseC l → GoodL l
  | [], _ => trivial
  | [_], _ => trivial
  | p :: q :: t, h => ⟨⟨h.coord 0 p rfl, h.coord 1 q rfl, h.rise 0 p q rfl rfl⟩, goodL_of (q :: t) ⟨fun i r hr => h.coord (i + 1) r hr, fun i r s hr hs => h.rise (i + 1) r s hr hs⟩⟩
theorem slope_iff {p q r : Pt} (h1 : CoP p ∧ CoP q ∧ lessQ p.1.1 p.1.2 q.1.1 q.1.2 = true) (h2 : CoP q ∧ CoP r ∧ lessQ q.1.1 q.1.2 r.1.1 r.1.2 = true) : slopeQ p q = slopeQ q r ↔ slR p q = slR q r := by
  have b1 := okQ_bd (unitQ_ok (coordQ_unit h1.1.1))
  have b2 := okQ_bd (unitQ_ok (coordQ_unit h1.2.1.1))
  have b3 := okQ_bd (unitQ_ok (coordQ_unit h2.2.1.1))
  have l1 := (lessQ_iff (n1 := p.1.1) (n2 := q.1.1) b1.1 b2.1).1 h1.2.2
  have l2 := (lessQ_iff (n1 := q.1.1) (n2 := r.1.1) b2.1 b3.1).1 h2.2.2
  have e1 := slopeQ_sl h1.1 h1.2.1 h1.2.2 l1
  have e2 := slopeQ_sl h2.1 h2.2.1 h2.2.2 l2
  have k1 := (slopeQ_ok h1.1.1 h1.1.2 h1.2.1.1 h1.2.1.2 h1.2.2).1
  have k2 := (slopeQ_ok h2.1.1 h2.1.2 h2.2.1.1 h2.2.1.2 h2.2.2).1
  constructor
  · intro h; rw [← e1, ← e2, h]
  · intro h; exact toR_inj k1 k2 (by rw [e1, e2, h])
theorem keptS_eq : ∀ (t : List Pt) (p q : Pt), GoodL (p :: q :: t) → keptS p q t = keptL p q t
  | [], _, _, _ => rfl
  | r :: t, p, q, h => by
    rw [keptS, keptL, keptS_eq t q r h.2]
    by_cases c : slR p q = slR q r
    · rw [if_pos c, if_pos ((slope_iff h.1 h.2.1).2 c)]
    · rw [if_neg c, if_neg (fun e => c ((slope_iff h.1 h.2.1).1 e))]
theorem simple_two {ps : List Pt} (hm : okMap ps = true) : ∃ p q t, ps = p :: q :: t ∧ simpleQ ps = p :: keptL p q t ∧ UpX (p :: q :: t) ∧ toR p.1 < toR q.1 := by
  have hl := okMap_len hm
  match ps, hl with
  | p :: q :: t, _ =>
    have hu := okMap_upX hm
    exact ⟨p, q, t, rfl, by rw [simpleQ_eq, keptS_eq t p q (goodL_of _ (okMap_riseC hm))], hu, hu.head⟩
theorem simple_eval {ps : List Pt} (hm : okMap ps = true) (x : Rat) : evalR (simpleQ ps) x = evalR ps x := by
  obtain ⟨p, q, t, rfl, e, hu, hlt⟩ := simple_two hm
  rw [e]
  exact evalR_kept t p p q hu hlt rfl x
theorem keptL_sub : ∀ (t : List Pt) (p q : Pt), (keptL p q t).Sublist (q :: t)
  | [], _, q => List.Sublist.refl _
  | r :: t, p, q => by
    rw [keptL]
    have ih := keptL_sub t q r
    split
    · rw [List.nil_append]; exact ih.trans (List.sublist_cons_self _ _)
    · exact ih.cons_cons q
/-- The value at a place fits where place and value have small denominators. -/
theorem valQ_coord {ps : List Pt} {x y : Q} (hm : okMap ps = true) (hx : coordQ x.1 x.2 = true) (hy : coordQ y.1 y.2 = true) (he : evalR ps (toR x) = toR y) : valQ ps x = (y, true) := by
  have ux := coordQ_unit hx
  obtain ⟨p, q, h⟩ := atPiece hm ux
  rw [valQ_at h]
  obtain ⟨ks, es⟩ := slopeQ_ok h.cx h.cy h.dx h.dy h.rise
  have hlt := okMap_lt hm h.here h.next (by omega)
  have k1 := unitQ_ok (coordQ_unit h.cx)
  have k2 := unitQ_ok (coordQ_unit h.cy)
  obtain ⟨d1, d2, e1, -, -, -, -, -, od, -⟩ := sub_coord hx h.cx
  obtain ⟨m1, m2, e2, -, -, -, -, -, om, -⟩ := sub_coord hy h.cy
  rw [subQ_fit (unitQ_ok ux) k1] at e1
  rw [subQ_fit (unitQ_ok (coordQ_unit hy)) k2] at e2
  obtain ⟨r1, -⟩ := fitR_yes e1
  obtain ⟨r2, -⟩ := fitR_yes e2
  rw [evalR_at _ ps p q (okMap_upX hm) h.here h.next (toR x) h.low h.high] at he
  unfold lineR at he
  have hs := slR_of hlt es
  refine onQ_of (d := (d1, d2)) (m := (m1, m2)) (unitQ_ok ux) k1 k2 ks od om (unitQ_ok (coordQ_unit hy)) r1 ?_ ?_
  · rw [r1, r2, hs]
    change toR y - toR p.2 = slR p q * (toR x - toR p.1)
    grind
  · rw [r2]
    change toR y = toR p.2 + (toR y - toR p.2)
    grind
end Go.Proofs.YtkeajfgcjmhmiaaGreatDoor
