/- The reference's fixed points of a map; FixedPoints of both. -/
import Derived.Test.YtkaekjhcphgldaaGreatFixB
import Derived.Test.YtkaekjhcphgldaaGreatPut
namespace Go.Proofs.YtkaekjhcphgldaaGreat
open Go.RowKit

def putsQ (xs l : List Q) : List Q := xs.foldl (fun l x => insQ x l) l
theorem putsQ_app (xs ys l : List Q) : putsQ (xs ++ ys) l = putsQ ys (putsQ xs l) := by unfold putsQ; rw [List.foldl_append]
theorem putsQ_ok : ∀ {xs l : List Q}, OkL xs → OkL l → OkL (putsQ xs l)
  | [], _, _, h => h
  | x :: r, _, h, k => putsQ_ok (xs := r) (fun q hq => h q (List.mem_cons_of_mem _ hq)) (insQ_ok (h x List.mem_cons_self) k)
theorem putsQ_len (xs l : List Q) : (putsQ xs l).length ≤ l.length + xs.length := foldQ_len xs l
theorem fixPc_len (s : Pt × Pt) : (fixPc s).length ≤ 3 := by
  unfold fixPc
  rw [List.length_append, List.length_append]
  repeat' split
  all_goals simp
theorem coP_ok {p : Pt} (h : CoP p) : okQ p.1.1 p.1.2 = true ∧ okQ p.2.1 p.2.2 = true := ⟨unitQ_ok (coordQ_unit h.1), unitQ_ok (coordQ_unit h.2)⟩
theorem eq_cmp {p : Pt} (h : CoP p) : p.1 = p.2 ↔ cmpQ p.2.1 p.2.2 p.1.1 p.1.2 = 0 := by
  obtain ⟨h1, h2⟩ := coP_ok h
  rw [cmpQ_eq (okQ_bd h2).1 (okQ_bd h1).1]
  exact ⟨fun e => by rw [e], fun e => toR_inj h1 h2 e.symm⟩
theorem fixPc_cmp {p q : Pt} (hp : CoP p) (hq : CoP q) : fixPc (p, q) = (if cmpQ p.2.1 p.2.2 p.1.1 p.1.2 = 0 then [p.1] else []) ++ (if cmpQ q.2.1 q.2.2 q.1.1 q.1.2 = 0 then [q.1] else []) ++ (if cmpQ p.2.1 p.2.2 p.1.1 p.1.2 * cmpQ q.2.1 q.2.2 q.1.1 q.1.2 < 0 then [((betwQ p q).1, (betwQ p q).2.1)] else []) := by
  have e1 : (p.1 = p.2) = (cmpQ p.2.1 p.2.2 p.1.1 p.1.2 = 0) := propext (eq_cmp hp)
  have e2 : (q.1 = q.2) = (cmpQ q.2.1 q.2.2 q.1.1 q.1.2 = 0) := propext (eq_cmp hq)
  have e3 : (crossF p q = true) = (cmpQ p.2.1 p.2.2 p.1.1 p.1.2 * cmpQ q.2.1 q.2.2 q.1.1 q.1.2 < 0) := by
    unfold crossF
    rw [decide_eq_true_eq, cmpQ_swap p.1.1, cmpQ_swap q.1.1, Int.neg_mul_neg]
  unfold fixPc
  simp only [e1, e2, e3]


theorem flat_len {α β : Type} (f : α → List β) (m : Nat) (h : ∀ a, (f a).length ≤ m) : ∀ l : List α, (l.flatMap f).length ≤ m * l.length
  | [] => by simp
  | a :: r => by
    have := flat_len f m h r
    have := h a
    rw [List.flatMap_cons, List.length_append, List.length_cons, Nat.mul_succ]
    omega
theorem flat_take {α β : Type} {f : α → List β} {l : List α} {k : Nat} {x : β} (h : x ∈ (l.take k).flatMap f) : x ∈ l.flatMap f := by
  obtain ⟨a, ha, hx⟩ := List.mem_flatMap.1 h
  exact List.mem_flatMap.2 ⟨a, List.mem_of_mem_take ha, hx⟩
theorem flat_snoc {α β : Type} {f : α → List β} {l : List α} {k : Nat} {a : α} (h : l[k]? = some a) : (l.take (k + 1)).flatMap f = (l.take k).flatMap f ++ f a := by
  rw [take_snoc_get h, List.flatMap_append]; simp

/-- What FixedPoints gives. -/
def fixedQ (ps : List Pt) : List Q × Bool := if okMap ps = true then (fixQ ps, true) else ([], false)
theorem fixQ_len {ps : List Pt} : (fixQ ps).length ≤ 3 * (ps.length - 1) := by
  unfold fixQ
  have h1 := setQ_len ((pcs ps).flatMap fixPc)
  have h2 := flat_len fixPc 3 fixPc_len (pcs ps)
  rw [pcs_len] at h2
  omega
theorem fixedQ_len {ps : List Pt} {l : List Q} {t : Bool} (h : fixedQ ps = (l, t)) : l.length ≤ 1048576 := by
  unfold fixedQ at h
  split at h
  · rename_i hh
    obtain ⟨rfl, -⟩ := Prod.mk.inj h
    have h1 := @fixQ_len ps
    have := okMap_len hh
    omega
  · obtain ⟨rfl, -⟩ := Prod.mk.inj h; simp
def fixUpTo (ps : List Pt) (k : Nat) : List Q := putsQ (((pcs ps).take k).flatMap fixPc) []
theorem fixUpTo_all (ps : List Pt) {k : Nat} (h : ps.length - 1 ≤ k) : fixUpTo ps k = fixQ ps := by
  unfold fixUpTo fixQ putsQ setQ
  rw [List.take_of_length_le (by rw [pcs_len]; exact h)]
theorem fixUpTo_len (ps : List Pt) (k : Nat) : (fixUpTo ps k).length ≤ 3 * (ps.length - 1) := by
  unfold fixUpTo
  have h1 := putsQ_len (((pcs ps).take k).flatMap fixPc) []
  have h2 := flat_len fixPc 3 fixPc_len ((pcs ps).take k)
  rw [List.length_take, pcs_len] at h2
  simp only [List.length_nil] at h1
  omega
theorem fixUpTo_ok {ps : List Pt} (h : okMap ps = true) (k : Nat) : OkL (fixUpTo ps k) :=
  putsQ_ok (fun x hx => fixPc_ok h x (flat_take hx)) (fun q hq => by simp at hq)
theorem fixUpTo_next {ps : List Pt} {k : Nat} {p q : Pt} (hp : ps[k]? = some p) (hq : ps[k + 1]? = some q) : fixUpTo ps (k + 1) = putsQ (fixPc (p, q)) (fixUpTo ps k) := by
  unfold fixUpTo
  rw [flat_snoc (pcs_get hp hq), putsQ_app]



end Go.Proofs.YtkaekjhcphgldaaGreat
