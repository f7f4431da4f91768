/- Fractions in increasing order, each once: plain laws. -/
import Derived.Test.YtkeajfgcjmhmiaaSlopes
namespace Go.Proofs.Ytkeajfgcjmhmiaa
open Go.RowKit

def OkL (l : List Q) : Prop := ∀ q ∈ l, okQ q.1 q.2 = true
def UpQ (l : List Q) : Prop := l.Pairwise (fun p q => toR p < toR q)
/-- A fraction put in its place, once. -/
def insQ (x : Q) : List Q → List Q
  | [] => [x]
  | y :: r => if lessQ y.1 y.2 x.1 x.2 = true then y :: insQ x r else if y = x then y :: r else x :: y :: r
theorem insQ_mem (x : Q) : ∀ (l : List Q) (y : Q), y ∈ insQ x l ↔ y = x ∨ y ∈ l
  | [], y => by simp [insQ]
  | z :: r, y => by
    unfold insQ
    split
    · rw [List.mem_cons, List.mem_cons, insQ_mem x r y]
      exact ⟨fun h => by rcases h with h | h | h <;> simp [h], fun h => by rcases h with h | h | h <;> simp [h]⟩
    · split
      · rename_i h; subst h
        simp
      · simp
theorem insQ_ok {x : Q} {l : List Q} (hx : okQ x.1 x.2 = true) (hl : OkL l) : OkL (insQ x l) := fun y hy => by
  rcases (insQ_mem x l y).1 hy with rfl | h
  · exact hx
  · exact hl y h
theorem insQ_up {x : Q} (hx : okQ x.1 x.2 = true) : ∀ {l : List Q}, OkL l → UpQ l → UpQ (insQ x l)
  | [], _, _ => List.pairwise_singleton _ _
  | y :: r, hl, hu => by
    have hy := hl y List.mem_cons_self
    have hr : OkL r := fun q hq => hl q (List.mem_cons_of_mem _ hq)
    unfold UpQ at hu
    rw [List.pairwise_cons] at hu
    have li := lessQ_iff (n1 := y.1) (n2 := x.1) (okQ_bd hy).1 (okQ_bd hx).1
    unfold insQ UpQ
    split
    · rename_i h
      rw [List.pairwise_cons]
      refine ⟨fun z hz => ?_, insQ_up hx hr hu.2⟩
      rcases (insQ_mem x r z).1 hz with rfl | h2
      · exact li.1 h
      · exact hu.1 z h2
    · rename_i h
      split
      · rw [List.pairwise_cons]; exact hu
      · rename_i hne
        have hlt : toR x < toR y := by
          have h1 : ¬ toR y < toR x := fun h2 => h (li.2 h2)
          have h2 : toR x ≠ toR y := fun h3 => hne (toR_inj hy hx h3.symm)
          grind
        rw [List.pairwise_cons, List.pairwise_cons]
        refine ⟨fun z hz => ?_, hu⟩
        rcases List.mem_cons.1 hz with rfl | h2
        · exact hlt
        · exact Std.lt_trans hlt (hu.1 z h2)
theorem insQ_skip {x : Q} : ∀ {l : List Q} {k : Nat}, (∀ i y, i < k → l[i]? = some y → lessQ y.1 y.2 x.1 x.2 = true) → insQ x l = l.take k ++ insQ x (l.drop k)
  | _, 0, _ => by simp
  | [], k + 1, _ => by simp
  | y :: r, k + 1, h => by
    have h0 := h 0 y (by omega) rfl
    rw [List.take_succ_cons, List.drop_succ_cons, List.cons_append, ← insQ_skip (k := k) (fun i z hi hz => h (i + 1) z (by omega) (by simpa using hz))]
    conv => lhs; unfold insQ
    rw [if_pos h0]
theorem insQ_end {x : Q} {l : List Q} (h : ∀ i y, i < l.length → l[i]? = some y → lessQ y.1 y.2 x.1 x.2 = true) : insQ x l = l ++ [x] := by
  rw [insQ_skip h, List.take_length, List.drop_length]; rfl
theorem insQ_have {x y : Q} {l : List Q} {k : Nat} (h : ∀ i y, i < k → l[i]? = some y → lessQ y.1 y.2 x.1 x.2 = true) (hk : l[k]? = some y) (hn : lessQ y.1 y.2 x.1 x.2 = false) (he : y = x) : insQ x l = l := by
  obtain ⟨h1, h2⟩ := List.getElem?_eq_some_iff.1 hk
  rw [insQ_skip h, List.drop_eq_getElem_cons h1, h2]
  unfold insQ
  rw [if_neg (by rw [hn]; simp), if_pos he]
  rw [← h2, ← List.drop_eq_getElem_cons h1, List.take_append_drop]
theorem insQ_put {x y : Q} {l : List Q} {k : Nat} (h : ∀ i y, i < k → l[i]? = some y → lessQ y.1 y.2 x.1 x.2 = true) (hk : l[k]? = some y) (hn : lessQ y.1 y.2 x.1 x.2 = false) (he : y ≠ x) : insQ x l = l.take k ++ x :: l.drop k := by
  obtain ⟨h1, h2⟩ := List.getElem?_eq_some_iff.1 hk
  rw [insQ_skip h, List.drop_eq_getElem_cons h1, h2]
  conv => lhs; arg 2; unfold insQ
  rw [if_neg (by rw [hn]; simp), if_neg he]

theorem up_uniq : ∀ {l r : List Q}, UpQ l → UpQ r → (∀ x, x ∈ l ↔ x ∈ r) → l = r
  | [], [], _, _, _ => rfl
  | [], y :: r, _, _, h => by have := (h y).2 List.mem_cons_self; simp at this
  | x :: l, [], _, _, h => by have := (h x).1 List.mem_cons_self; simp at this
  | x :: l, y :: r, hl, hr, h => by
    unfold UpQ at hl hr
    rw [List.pairwise_cons] at hl hr
    have hxy : x = y := by
      rcases List.mem_cons.1 ((h x).1 List.mem_cons_self) with h1 | h1
      · exact h1
      · rcases List.mem_cons.1 ((h y).2 List.mem_cons_self) with h2 | h2
        · exact h2.symm
        · exact absurd (Std.lt_trans (hl.1 y h2) (hr.1 x h1)) (by grind)
    subst hxy
    congr 1
    refine up_uniq hl.2 hr.2 (fun z => ⟨fun hz => ?_, fun hz => ?_⟩)
    · rcases List.mem_cons.1 ((h z).1 (List.mem_cons_of_mem _ hz)) with h1 | h1
      · subst h1; exact absurd (hl.1 z hz) (by grind)
      · exact h1
    · rcases List.mem_cons.1 ((h z).2 (List.mem_cons_of_mem _ hz)) with h1 | h1
      · subst h1; exact absurd (hr.1 z hz) (by grind)
      · exact h1

/-- Fractions in increasing order, each once. -/
def setQ (qs : List Q) : List Q := qs.foldl (fun l x => insQ x l) []
theorem foldQ_mem : ∀ (qs l : List Q) (x : Q), x ∈ qs.foldl (fun l x => insQ x l) l ↔ x ∈ l ∨ x ∈ qs
  | [], l, x => by simp
  | q :: qs, l, x => by
    rw [List.foldl_cons, foldQ_mem qs _ x, insQ_mem, List.mem_cons]
    exact ⟨fun h => by rcases h with (h | h) | h <;> simp [h], fun h => by rcases h with h | h | h <;> simp [h]⟩
theorem foldQ_up : ∀ {qs l : List Q}, OkL qs → OkL l → UpQ l → UpQ (qs.foldl (fun l x => insQ x l) l)
  | [], _, _, _, h => h
  | q :: qs, _, h1, h2, h3 => foldQ_up (qs := qs) (fun p hp => h1 p (List.mem_cons_of_mem _ hp)) (insQ_ok (h1 q List.mem_cons_self) h2) (insQ_up (h1 q List.mem_cons_self) h2 h3)
theorem setQ_mem (qs : List Q) (x : Q) : x ∈ setQ qs ↔ x ∈ qs := by unfold setQ; rw [foldQ_mem]; simp
theorem setQ_up {qs : List Q} (h : OkL qs) : UpQ (setQ qs) := foldQ_up h (fun q hq => by simp at hq) List.Pairwise.nil
theorem setQ_of {qs r : List Q} (h : OkL qs) (hu : UpQ r) (hm : ∀ x, x ∈ r ↔ x ∈ qs) : r = setQ qs := up_uniq hu (setQ_up h) (fun x => by rw [hm, setQ_mem])
theorem insQ_len (x : Q) : ∀ l : List Q, (insQ x l).length ≤ l.length + 1
  | [] => Nat.le_refl _
  | y :: r => by
    have := insQ_len x r
    unfold insQ
    split
    · simp; omega
    · split <;> simp
theorem foldQ_len : ∀ (qs l : List Q), (qs.foldl (fun l x => insQ x l) l).length ≤ l.length + qs.length
  | [], l => by simp
  | q :: qs, l => by
    have h1 := foldQ_len qs (insQ q l)
    have h2 := insQ_len q l
    rw [List.foldl_cons, List.length_cons]
    omega
theorem setQ_len (qs : List Q) : (setQ qs).length ≤ qs.length := by
  have := foldQ_len qs []
  unfold setQ
  simpa using this

/-- Equal neighbours once: what slices.Compact leaves. -/
def compQ : List Q → List Q
  | [] => []
  | x :: l => match compQ l with
    | [] => [x]
    | y :: r => if x = y then y :: r else x :: y :: r
theorem compQ_mem : ∀ (l : List Q) (x : Q), x ∈ compQ l ↔ x ∈ l
  | [], x => by simp [compQ]
  | y :: l, x => by
    have ih := compQ_mem l x
    unfold compQ
    rcases h : compQ l with _ | ⟨z, r⟩
    · rw [h] at ih; simp at ih; simp [ih]
    · rw [h] at ih
      simp only
      split
      · rename_i e; subst e
        rw [ih, List.mem_cons]
        refine ⟨fun h => .inr h, fun h => ?_⟩
        rcases h with rfl | h
        · exact ih.1 List.mem_cons_self
        · exact h
      · rw [List.mem_cons, ih, List.mem_cons]
theorem compQ_up : ∀ {l : List Q}, OkL l → l.Pairwise (fun p q => toR p ≤ toR q) → UpQ (compQ l)
  | [], _, _ => List.Pairwise.nil
  | x :: l, ho, h => by
    rw [List.pairwise_cons] at h
    have ih := compQ_up (fun q hq => ho q (List.mem_cons_of_mem _ hq)) h.2
    unfold compQ
    rcases hc : compQ l with _ | ⟨y, r⟩
    · exact List.pairwise_singleton _ _
    · rw [hc] at ih
      simp only
      split
      · exact ih
      · rename_i hne
        unfold UpQ at ih ⊢
        rw [List.pairwise_cons]
        refine ⟨fun z hz => ?_, ih⟩
        have hy : y ∈ l := (compQ_mem l y).1 (by rw [hc]; exact List.mem_cons_self)
        have h1 := h.1 y hy
        have h2 : toR x ≠ toR y := fun e => hne (toR_inj (ho x List.mem_cons_self) (ho y (List.mem_cons_of_mem _ hy)) e)
        rw [List.pairwise_cons] at ih
        rcases List.mem_cons.1 hz with rfl | h3
        · grind
        · have := ih.1 z h3
          grind

end Go.Proofs.Ytkeajfgcjmhmiaa
