/- Plain: the points of a map at any places that hold its own have its function. · Plain: a map is linear between places that hold its own and those before another map's; so the map of values of values is. · Plain: the points of values of values have the composed function. · Plain: what is made simple is simple. -/
import Derived.Test.YtkeajfgcjmhmiaaGreatJ42
namespace Go.Proofs.YtkeajfgcjmhmiaaGreat
open Go.RowKit

def ptsV (f : List Pt) (xs : List Q) : List Pt := xs.map (fun x => (x, (valQ f x).1))
theorem linOn_vals {f : List Pt} (hm : okMap f = true) : ∀ (xs : List Q), UpQ xs → (∀ x ∈ xs, unitQ x.1 x.2 = true ∧ (valQ f x).2 = true) → (∀ r ∈ f, ∀ u ∈ xs.head?, toR u < toR r.1 → r.1 ∈ xs) → LinOn (evalR f) (ptsV f xs)
  | [], _, _, _ => trivial
  | [u], _, h, _ => by
    obtain ⟨h1, h2⟩ := h u List.mem_cons_self
    exact (valQ_eval hm h1 (Prod.ext rfl h2)).1
  | u :: v :: t, hu, h, hr => by
    have huv : toR u < toR v := (List.pairwise_cons.1 hu).1 v List.mem_cons_self
    obtain ⟨u1, u2⟩ := h u List.mem_cons_self
    obtain ⟨v1, v2⟩ := h v (List.mem_cons_of_mem _ List.mem_cons_self)
    have eu := (valQ_eval hm u1 (Prod.ext rfl u2)).1
    have ev := (valQ_eval hm v1 (Prod.ext rfl v2)).1
    have hno : ∀ r ∈ f, ¬ (toR u < toR r.1 ∧ toR r.1 < toR v) := fun r hrf hh => by
      have hmem := hr r hrf u rfl hh.1
      rcases List.mem_cons.1 hmem with e | hmem
      · rw [e] at hh; exact absurd hh.1 (by grind)
      · rcases List.mem_cons.1 hmem with e | hmem
        · rw [e] at hh; exact absurd hh.2 (by grind)
        · have := (List.pairwise_cons.1 (List.pairwise_cons.1 hu).2).1 _ hmem
          grind
    obtain ⟨-, a1, a2⟩ := unitQ_iff.1 u1
    obtain ⟨-, b1, b2⟩ := unitQ_iff.1 v1
    have hl : ∃ s, ∀ x, toR u ≤ x → x ≤ toR v → evalR f x = evalR f (toR u) + s * (x - toR u) := by
      have hl2 := okMap_len hm
      match f, hl2, hm, hno with
      | p :: l, _, hm, hno =>
        have z := okMap_head0 hm
        have o := okMap_lastX hm
        exact evalR_between l p (toR u) (toR v) (okMap_upX hm) (by rw [z]; exact a1) huv (by rw [o]; exact b2) (fun r hr => hno r (List.mem_cons_of_mem _ hr))
    obtain ⟨s, hs⟩ := hl
    refine ⟨fun x x1 x2 => ?_, linOn_vals hm (v :: t) (List.pairwise_cons.1 hu).2 (fun x hx => h x (List.mem_cons_of_mem _ hx)) (fun r hrf w hw hlt => ?_)⟩
    · have e := hs (toR v) (Rat.le_of_lt huv) Rat.le_refl
      have es : s = slR (u, (valQ f u).1) (v, (valQ f v).1) := by
        refine slR_of huv ?_
        show s * (toR v - toR u) = toR (valQ f v).1 - toR (valQ f u).1
        rw [← eu, ← ev, e]; grind
      rw [hs x x1 x2, eu, es]
      rfl
    · simp only [List.head?_cons, Option.mem_def, Option.some.injEq] at hw
      subst hw
      have := hr r hrf u rfl (by grind)
      rcases List.mem_cons.1 this with e | h'
      · rw [e] at hlt; exact absurd hlt (by grind)
      · exact h'
/-- .. on the whole unit interval. -/
theorem eval_vals {f : List Pt} (hm : okMap f = true) {xs : List Q} (hu : UpQ xs) (h : ∀ x ∈ xs, unitQ x.1 x.2 = true ∧ (valQ f x).2 = true) (hf : ∀ r ∈ f, r.1 ∈ xs) : ∀ x, 0 ≤ x → x ≤ 1 → evalR (ptsV f xs) x = evalR f x := by
  intro x x1 x2
  have hlin := linOn_vals hm xs hu h (fun r hr _ _ _ => hf r hr)
  have hl := okMap_len hm
  have hup : UpX (ptsV f xs) := by
    unfold UpX ptsV
    rw [List.pairwise_map]
    exact hu
  match xs, hlin, hup, hu, h, hf with
  | [], _, _, _, _, hf =>
    match f, hl with
    | p :: l, _ => exact absurd (hf p List.mem_cons_self) (by simp)
  | u :: t, hlin, hup, hu, h, hf =>
    have hu0 : toR u ≤ 0 := by
      match f, hl, hm, hf with
      | p :: l, _, hm, hf =>
        have z := okMap_head0 hm
        rcases List.mem_cons.1 (hf p List.mem_cons_self) with e | e
        · rw [← e, z]; exact Rat.le_refl
        · have h1 := (List.pairwise_cons.1 hu).1 _ e
          obtain ⟨-, a1, -⟩ := unitQ_iff.1 (h u List.mem_cons_self).1
          change 0 ≤ toR u at a1
          grind
    have hlast : ∀ (t : List Q) (u : Q), UpQ (u :: t) → ∀ y ∈ u :: t, toR y ≤ lastX (u, (valQ f u).1) (ptsV f t) := by
      intro t
      induction t with
      | nil => intro u _ y hy; simp at hy; subst hy; exact Rat.le_refl
      | cons v t ih =>
        intro u hu y hy
        have h1 := ih v (List.pairwise_cons.1 hu).2
        rcases List.mem_cons.1 hy with rfl | hy
        · have h2 := h1 v List.mem_cons_self
          have h3 := (List.pairwise_cons.1 hu).1 v List.mem_cons_self
          show toR y ≤ lastX (v, (valQ f v).1) (ptsV f t)
          grind
        · exact h1 y hy
    have h1 : (1 : Rat) ≤ lastX (u, (valQ f u).1) (ptsV f t) := by
      have hla := okMap_last hm
      rcases e : f.getLast? with _ | z
      · rw [e] at hla; simp at hla
      · rw [e] at hla
        have e1 : z.1 = (1, 1) := by simpa using hla
        have := hlast t u hu _ (hf z (List.mem_of_getLast? e))
        rw [e1, toR_one] at this
        exact this
    exact evalR_lin (ptsV f t) (u, (valQ f u).1) hup hlin x (by show toR u ≤ x; grind) (by grind)
end Go.Proofs.YtkeajfgcjmhmiaaGreat

namespace Go.Proofs.YtkeajfgcjmhmiaaGreat
open Go.RowKit

theorem back_val {p q : Pt} {y : Q} (c1 : CoP p) (c2 : CoP q) (hl : toR p.1 < toR q.1) (hle : lessQ p.1.1 p.1.2 q.1.1 q.1.2 = true) (ky : okQ y.1 y.2 = true) (hs : slR p q ≠ 0) (hf : (backQ p q y).2.2 = true) :
    (toR ((backQ p q y).1, (backQ p q y).2.1) - toR p.1) * slR p q = toR y - toR p.2 := by
  have kpx := unitQ_ok (coordQ_unit c1.1)
  have kpy := unitQ_ok (coordQ_unit c1.2)
  obtain ⟨ks, -⟩ := slopeQ_ok c1.1 c1.2 c2.1 c2.2 hle
  have esl := slopeQ_sl c1 c2 hle hl
  have hs0 : toR (slopeQ p q) ≠ 0 := by rw [esl]; exact hs
  unfold backQ at hf ⊢
  rw [subQ_fit ky kpy] at hf ⊢
  rcases e1 : fitR (toR (y.1, y.2) - toR (p.2.1, p.2.2)) with ⟨d1, d2, t1⟩
  rw [e1] at hf
  cases t1 with
  | false => simp at hf
  | true =>
    obtain ⟨v1, o1⟩ := fitR_yes e1
    simp only [if_true] at hf ⊢
    rw [divQ_fit o1 ks hs0] at hf ⊢
    rcases e2 : fitR (toR (d1, d2) / toR ((slopeQ p q).1, (slopeQ p q).2)) with ⟨m1, m2, t2⟩
    rw [e2] at hf
    cases t2 with
    | false => simp at hf
    | true =>
      obtain ⟨v2, o2⟩ := fitR_yes e2
      simp only [if_true] at hf ⊢
      rw [addQ_fit kpx o2] at hf ⊢
      rcases e3 : fitR (toR (p.1.1, p.1.2) + toR (m1, m2)) with ⟨r1, r2, t3⟩
      rw [e3] at hf
      obtain rfl : t3 = true := hf
      obtain ⟨v3, -⟩ := fitR_yes e3
      change toR (r1, r2) = toR p.1 + toR (m1, m2) at v3
      change toR (m1, m2) = toR (d1, d2) / toR (slopeQ p q) at v2
      change toR (d1, d2) = toR y - toR p.2 at v1
      have em : toR (m1, m2) * toR (slopeQ p q) = toR (d1, d2) := by rw [v2]; exact Rat.div_mul_cancel hs0
      show (toR (r1, r2) - toR p.1) * slR p q = _
      rw [← esl, v3, ← v1, ← em]
      grind
theorem between_mul {s a b c : Rat} (h : (a - b) * s < (c - b) * s) (hs : 0 < s) : a < c := by
  apply Rat.not_le.1
  intro hle
  have := Rat.mul_nonneg (show 0 ≤ a - c by grind) (Rat.le_of_lt hs)
  grind
/-- Where a map crosses a value between two places, one of the places before that value lies between them. -/
theorem cut_between {g : List Pt} (hm : okMap g = true) {y u v : Q} (hy : unitQ y.1 y.2 = true) (hb : befOk y g = true) (hu : unitQ u.1 u.2 = true) (hv : unitQ v.1 v.2 = true) (huv : toR u < toR v)
    (hno : ∀ r ∈ g, ¬ (toR u < toR r.1 ∧ toR r.1 < toR v)) (hc : (evalR g (toR u) < toR y ∧ toR y < evalR g (toR v)) ∨ (evalR g (toR v) < toR y ∧ toR y < evalR g (toR u))) :
    ∃ z ∈ befQ y g, toR u < toR z ∧ toR z < toR v := by
  obtain ⟨p, q, h⟩ := atPiece hm hv
  obtain ⟨-, u0, -⟩ := unitQ_iff.1 hu
  change 0 ≤ toR u at u0
  have hlt := okMap_lt hm h.here h.next (by omega)
  have hpv : toR p.1 < toR v := by
    by_cases h0 : pieceN g v = 0
    · have hp := h.here
      rw [h0] at hp
      match g, hm, hp with
      | a :: l, hm, hp =>
        simp at hp
        have z := okMap_head0 hm
        rw [hp] at z
        grind
    · exact h.left h0
  have hpu : toR p.1 ≤ toR u := by
    have := hno p (List.mem_of_getElem? h.here)
    grind
  have c1 : CoP p := ⟨h.cx, h.cy⟩
  have c2 : CoP q := ⟨h.dx, h.dy⟩
  have hup := okMap_upX hm
  have eu := evalR_at _ g p q hup h.here h.next (toR u) hpu (by have := h.high; grind)
  have ev := evalR_at _ g p q hup h.here h.next (toR v) (Rat.le_of_lt hpv) h.high
  rw [eu, ev] at hc
  unfold lineR at hc
  have es := slR_mul hlt
  have hh := h.high
  have hq : (p, q) ∈ pcs g := mem_pcs.2 ⟨_, h.here, h.next⟩
  generalize hS : slR p q = s at *
  have hcase : (0 < s ∧ toR p.2 < toR y ∧ toR y < toR q.2) ∨ (s < 0 ∧ toR y < toR p.2 ∧ toR q.2 < toR y) := by
    rcases hc with ⟨x1, x2⟩ | ⟨x1, x2⟩
    · left
      have hs : 0 < s := by
        apply Rat.not_le.1
        intro hle
        have := Rat.mul_nonneg (show 0 ≤ -s by grind) (show 0 ≤ toR v - toR u by grind)
        grind
      have m1 := Rat.mul_nonneg (Rat.le_of_lt hs) (show 0 ≤ toR u - toR p.1 by grind)
      have m2 := Rat.mul_nonneg (Rat.le_of_lt hs) (show 0 ≤ toR q.1 - toR v by grind)
      exact ⟨hs, by grind, by grind⟩
    · right
      have hs : s < 0 := by
        apply Rat.not_le.1
        intro hle
        have := Rat.mul_nonneg hle (show 0 ≤ toR v - toR u by grind)
        grind
      have m1 := Rat.mul_nonneg (show 0 ≤ -s by grind) (show 0 ≤ toR u - toR p.1 by grind)
      have m2 := Rat.mul_nonneg (show 0 ≤ -s by grind) (show 0 ≤ toR q.1 - toR v by grind)
      exact ⟨hs, by grind, by grind⟩
  have hcr : crossY y p q = true := (cross_iff c1 c2 hy).2 (by rcases hcase with ⟨-, a, b⟩ | ⟨-, a, b⟩; exact Or.inl ⟨a, b⟩; exact Or.inr ⟨a, b⟩)
  have hf : (backQ p q y).2.2 = true := by
    unfold befOk at hb
    rw [Bool.not_eq_true', List.any_eq_false] at hb
    have := hb (p, q) hq
    unfold badPc at this
    simp only at this
    rw [hcr] at this
    simpa using this
  have hbv := back_val c1 c2 hlt h.rise (unitQ_ok hy) (by rw [hS]; rcases hcase with ⟨a, -⟩ | ⟨a, -⟩ <;> grind) hf
  rw [hS] at hbv
  refine ⟨((backQ p q y).1, (backQ p q y).2.1), ?_, ?_⟩
  · unfold befQ
    rw [setQ_mem]
    refine List.mem_flatMap.2 ⟨(p, q), hq, ?_⟩
    unfold befPc
    simp only
    rw [if_pos hcr]
    simp
  · generalize toR ((backQ p q y).1, (backQ p q y).2.1) = Z at *
    rcases hc with ⟨x1, x2⟩ | ⟨x1, x2⟩ <;> rcases hcase with ⟨hs, -⟩ | ⟨hs, -⟩
    · exact ⟨between_mul (s := s) (b := toR p.1) (by grind) hs, between_mul (s := s) (b := toR p.1) (by grind) hs⟩
    · have := Rat.mul_nonneg (show 0 ≤ -s by grind) (show 0 ≤ toR v - toR u by grind)
      grind
    · have := Rat.mul_nonneg (Rat.le_of_lt hs) (show 0 ≤ toR v - toR u by grind)
      grind
    · exact ⟨between_mul (s := -s) (b := toR p.1) (by grind) (by grind), between_mul (s := -s) (b := toR p.1) (by grind) (by grind)⟩
end Go.Proofs.YtkeajfgcjmhmiaaGreat

namespace Go.Proofs.YtkeajfgcjmhmiaaGreat
open Go.RowKit

theorem lastX_pts {V : Q → Q} : ∀ (t : List Q) (u : Q), UpQ (u :: t) → ∀ y ∈ u :: t, toR y ≤ lastX (u, V u) (t.map (fun x => (x, V x)))
  | [], u, _, y, hy => by simp at hy; subst hy; exact Rat.le_refl
  | v :: t, u, hu, y, hy => by
    have h1 := lastX_pts (V := V) t v (List.pairwise_cons.1 hu).2
    rcases List.mem_cons.1 hy with rfl | hy
    · have h2 := h1 v List.mem_cons_self
      have h3 := (List.pairwise_cons.1 hu).1 v List.mem_cons_self
      show toR y ≤ lastX (v, V v) (t.map (fun x => (x, V x)))
      grind
    · exact h1 y hy
theorem eval_all {F : Rat → Rat} {V : Q → Q} {xs : List Q} (hu : UpQ xs) (h : ∀ x ∈ xs, unitQ x.1 x.2 = true) (h0 : ((0, 1) : Q) ∈ xs) (h1 : ((1, 1) : Q) ∈ xs) (hl : LinOn F (xs.map (fun x => (x, V x)))) :
    ∀ x, 0 ≤ x → x ≤ 1 → evalR (xs.map (fun x => (x, V x))) x = F x := by
  intro x x1 x2
  have hup : UpX (xs.map (fun x => (x, V x))) := by
    unfold UpX
    rw [List.pairwise_map]
    exact hu
  match xs, hu, h, h0, h1, hl, hup with
  | u :: t, hu, h, h0, h1, hl, hup =>
    have hu0 : toR u ≤ 0 := by
      rcases List.mem_cons.1 h0 with e | e
      · rw [← e, toR_zero]; exact Rat.le_refl
      · have a1 := (List.pairwise_cons.1 hu).1 _ e
        rw [toR_zero] at a1
        exact Rat.le_of_lt a1
    have hl1 := lastX_pts (V := V) t u hu (1, 1) h1
    rw [toR_one] at hl1
    exact evalR_lin (t.map (fun x => (x, V x))) (u, V u) hup hl x (by show toR u ≤ x; grind) (by grind)
theorem betw_lin {f : List Pt} (hm : okMap f = true) {a b : Rat} (h1 : 0 ≤ a) (h2 : a < b) (h3 : b ≤ 1) (hno : ∀ r ∈ f, ¬ (a < toR r.1 ∧ toR r.1 < b)) : ∃ s, ∀ x, a ≤ x → x ≤ b → evalR f x = evalR f a + s * (x - a) := by
  have hl := okMap_len hm
  match f, hl, hm, hno with
  | p :: l, _, hm, hno =>
    have z := okMap_head0 hm
    have o := okMap_lastX hm
    exact evalR_between l p a b (okMap_upX hm) (by rw [z]; exact h1) h2 (by rw [o]; exact h3) (fun r hr => hno r (List.mem_cons_of_mem _ hr))
def comW (f g : List Pt) (x : Q) : Q := (valQ f (valQ g x).1).1
theorem linOn_comp {f g : List Pt} (hf : okMap f = true) (hg : okMap g = true) (hb : ∀ r ∈ f, befOk r.1 g = true) : ∀ (xs : List Q), UpQ xs →
    (∀ x ∈ xs, unitQ x.1 x.2 = true ∧ (valQ g x).2 = true ∧ (valQ f (valQ g x).1).2 = true) → (∀ r ∈ g, ∀ u ∈ xs.head?, toR u < toR r.1 → r.1 ∈ xs) →
    (∀ r ∈ f, ∀ z ∈ befQ r.1 g, ∀ u ∈ xs.head?, toR u < toR z → z ∈ xs) → LinOn (fun x => evalR f (evalR g x)) (xs.map (fun x => (x, comW f g x)))
  | [], _, _, _, _ => trivial
  | [u], _, h, _, _ => by
    obtain ⟨h1, h2, h3⟩ := h u List.mem_cons_self
    have e1 := (valQ_eval hg h1 (Prod.ext rfl h2)).1
    have e2 := (valQ_eval hf (valQ_unit hg h1) (Prod.ext rfl h3)).1
    show evalR f (evalR g (toR u)) = toR (comW f g u)
    rw [e1, e2]
    rfl
  | u :: v :: t, hu, h, hr, hz => by
    have huv : toR u < toR v := (List.pairwise_cons.1 hu).1 v List.mem_cons_self
    obtain ⟨u1, u2, u3⟩ := h u List.mem_cons_self
    obtain ⟨v1, v2, v3⟩ := h v (List.mem_cons_of_mem _ List.mem_cons_self)
    have eu := (valQ_eval hg u1 (Prod.ext rfl u2)).1
    have ev := (valQ_eval hg v1 (Prod.ext rfl v2)).1
    have fu := (valQ_eval hf (valQ_unit hg u1) (Prod.ext rfl u3)).1
    have fv := (valQ_eval hf (valQ_unit hg v1) (Prod.ext rfl v3)).1
    have hin : ∀ z : Q, z ∈ u :: v :: t → ¬ (toR u < toR z ∧ toR z < toR v) := fun z hmem hh => by
      rcases List.mem_cons.1 hmem with rfl | hmem
      · grind
      · rcases List.mem_cons.1 hmem with rfl | hmem
        · grind
        · have := (List.pairwise_cons.1 (List.pairwise_cons.1 hu).2).1 _ hmem
          grind
    have hno : ∀ r ∈ g, ¬ (toR u < toR r.1 ∧ toR r.1 < toR v) := fun r hrg hh => hin _ (hr r hrg u rfl hh.1) hh
    obtain ⟨-, a1, a2⟩ := unitQ_iff.1 u1
    obtain ⟨-, b1, b2⟩ := unitQ_iff.1 v1
    obtain ⟨s, hs⟩ := betw_lin hg (a := toR u) (b := toR v) a1 huv b2 hno
    have gu := unitQ_iff.1 (valQ_unit hg u1)
    have gv := unitQ_iff.1 (valQ_unit hg v1)
    have hcut : ∀ r ∈ f, ¬ ((evalR g (toR u) < toR r.1 ∧ toR r.1 < evalR g (toR v)) ∨ (evalR g (toR v) < toR r.1 ∧ toR r.1 < evalR g (toR u))) := fun r hrf hc => by
      have ru : unitQ r.1.1 r.1.2 = true := by
        obtain ⟨i, hi, rfl⟩ := List.getElem_of_mem hrf
        exact coordQ_unit (okMap_coord hf (List.getElem?_eq_getElem hi)).1
      obtain ⟨z, hzm, z1, z2⟩ := cut_between hg ru (hb r hrf) u1 v1 huv hno hc
      exact hin z (hz r hrf z hzm u rfl z1) ⟨z1, z2⟩
    have hv' := hs (toR v) (Rat.le_of_lt huv) Rat.le_refl
    have ga : 0 ≤ evalR g (toR u) ∧ evalR g (toR u) ≤ 1 := by rw [eu]; exact gu.2
    have gb : 0 ≤ evalR g (toR v) ∧ evalR g (toR v) ≤ 1 := by rw [ev]; exact gv.2
    have key : ∃ k, ∀ x, toR u ≤ x → x ≤ toR v → evalR f (evalR g x) = evalR f (evalR g (toR u)) + k * (x - toR u) := by
      by_cases c0 : s = 0
      · exact ⟨0, fun x x1 x2 => by rw [hs x x1 x2, c0]; grind⟩
      · by_cases c1 : 0 < s
        · have m0 := Rat.mul_pos c1 (show 0 < toR v - toR u by grind)
          obtain ⟨s', h'⟩ := betw_lin hf (a := evalR g (toR u)) (b := evalR g (toR v)) ga.1 (by grind) gb.2 (fun r hrf hh => hcut r hrf (Or.inl hh))
          refine ⟨s' * s, fun x x1 x2 => ?_⟩
          have m1 := Rat.mul_nonneg (Rat.le_of_lt c1) (show 0 ≤ x - toR u by grind)
          have m2 := Rat.mul_nonneg (Rat.le_of_lt c1) (show 0 ≤ toR v - x by grind)
          have e := hs x x1 x2
          rw [h' (evalR g x) (by grind) (by grind), e]
          grind
        · have c2 : 0 < -s := by grind
          have m0 := Rat.mul_pos c2 (show 0 < toR v - toR u by grind)
          obtain ⟨s', h'⟩ := betw_lin hf (a := evalR g (toR v)) (b := evalR g (toR u)) gb.1 (by grind) ga.2 (fun r hrf hh => hcut r hrf (Or.inr hh))
          have hu' := h' (evalR g (toR u)) (by grind) Rat.le_refl
          refine ⟨s' * s, fun x x1 x2 => ?_⟩
          have m1 := Rat.mul_nonneg (Rat.le_of_lt c2) (show 0 ≤ x - toR u by grind)
          have m2 := Rat.mul_nonneg (Rat.le_of_lt c2) (show 0 ≤ toR v - x by grind)
          have e := hs x x1 x2
          rw [hu', h' (evalR g x) (by grind) (by grind), e]
          grind
    obtain ⟨k, hk⟩ := key
    have Fu : evalR f (evalR g (toR u)) = toR (comW f g u) := by rw [eu, fu]; rfl
    have Fv : evalR f (evalR g (toR v)) = toR (comW f g v) := by rw [ev, fv]; rfl
    refine ⟨fun x x1 x2 => ?_, linOn_comp hf hg hb (v :: t) (List.pairwise_cons.1 hu).2 (fun x hx => h x (List.mem_cons_of_mem _ hx)) (fun r hrg w hw hlt => ?_) (fun r hrf z hzm w hw hlt => ?_)⟩
    · have e := hk (toR v) (Rat.le_of_lt huv) Rat.le_refl
      have es : k = slR (u, comW f g u) (v, comW f g v) := by
        refine slR_of huv ?_
        show k * (toR v - toR u) = toR (comW f g v) - toR (comW f g u)
        rw [← Fu, ← Fv, e]; grind
      show evalR f (evalR g x) = _
      rw [hk x x1 x2, Fu, es]
      rfl
    · simp only [List.head?_cons, Option.mem_def, Option.some.injEq] at hw
      subst hw
      rcases List.mem_cons.1 (hr r hrg u rfl (by grind)) with e | h'
      · rw [e] at hlt; exact absurd hlt (by grind)
      · exact h'
    · simp only [List.head?_cons, Option.mem_def, Option.some.injEq] at hw
      subst hw
      rcases List.mem_cons.1 (hz r hrf z hzm u rfl (by grind)) with e | h'
      · rw [e] at hlt; exact absurd hlt (by grind)
      · exact h'
end Go.Proofs.YtkeajfgcjmhmiaaGreat

namespace Go.Proofs.YtkeajfgcjmhmiaaGreat
open Go.RowKit

theorem kept_id : ∀ (t : List Pt) (p q : Pt), NoLine (p :: q :: t) → keptL p q t = q :: t
  | [], _, _, _ => rfl
  | r :: t, p, q, h => by
    rw [keptL, if_neg h.1, kept_id t q r h.2]
    rfl
theorem riseC_pts {l : List Pt} (hc : ∀ p ∈ l, CoP p) (hu : UpX l) : RiseC l := by
  refine ⟨fun i p hp => hc p (List.mem_of_getElem? hp), fun i p q hp hq => ?_⟩
  have c1 := hc p (List.mem_of_getElem? hp)
  have c2 := hc q (List.mem_of_getElem? hq)
  have b1 := okQ_bd (unitQ_ok (coordQ_unit c1.1))
  have b2 := okQ_bd (unitQ_ok (coordQ_unit c2.1))
  rw [lessQ_iff b1.1 b2.1]
  unfold UpX at hu
  rw [List.pairwise_iff_getElem] at hu
  obtain ⟨i1, rfl⟩ := List.getElem?_eq_some_iff.1 hp
  obtain ⟨i2, rfl⟩ := List.getElem?_eq_some_iff.1 hq
  exact hu i (i + 1) i1 i2 (by omega)
theorem simple_two' {ps : List Pt} (hc : ∀ p ∈ ps, CoP p) (hu : UpX ps) (h2 : 2 ≤ ps.length) : ∃ p q t, ps = p :: q :: t ∧ simpleQ ps = p :: keptL p q t ∧ UpX (p :: q :: t) ∧ toR p.1 < toR q.1 := by
  match ps, h2 with
  | p :: q :: t, _ => exact ⟨p, q, t, rfl, by rw [simpleQ_eq, keptS_eq t p q (goodL_of _ (riseC_pts hc hu))], hu, hu.head⟩
theorem simple_eval' {ps : List Pt} (hc : ∀ p ∈ ps, CoP p) (hu : UpX ps) (h2 : 2 ≤ ps.length) (x : Rat) : evalR (simpleQ ps) x = evalR ps x := by
  obtain ⟨p, q, t, rfl, e, hu, hlt⟩ := simple_two' hc hu h2
  rw [e]
  exact evalR_kept t p p q hu hlt rfl x
theorem simple_sub {ps : List Pt} (hc : ∀ p ∈ ps, CoP p) (hu : UpX ps) (h2 : 2 ≤ ps.length) : (simpleQ ps).Sublist ps := by
  obtain ⟨p, q, t, rfl, e, hu, hlt⟩ := simple_two' hc hu h2
  rw [e]
  exact (keptL_sub t p q).cons_cons p
theorem simple_noLine {ps : List Pt} (hc : ∀ p ∈ ps, CoP p) (hu : UpX ps) (h2 : 2 ≤ ps.length) : NoLine (simpleQ ps) := by
  obtain ⟨p, q, t, rfl, e, hu, hlt⟩ := simple_two' hc hu h2
  rw [e]
  exact kept_noLine t p p q hu hlt rfl
theorem keptL_ne : ∀ (t : List Pt) (p q : Pt), ∃ z t', keptL p q t = z :: t'
  | [], _, q => ⟨q, [], rfl⟩
  | r :: t, p, q => by
    rw [keptL]
    split
    · rw [List.nil_append]; exact keptL_ne t q r
    · exact ⟨q, keptL q r t, rfl⟩
theorem simple_long {ps : List Pt} (hc : ∀ p ∈ ps, CoP p) (hu : UpX ps) (h2 : 2 ≤ ps.length) : 2 ≤ (simpleQ ps).length := by
  obtain ⟨p, q, t, rfl, e, hu, hlt⟩ := simple_two' hc hu h2
  obtain ⟨z, t', hz⟩ := keptL_ne t p q
  rw [e, hz]
  simp
theorem simple_idem {ps : List Pt} (hc : ∀ p ∈ ps, CoP p) (hu : UpX ps) (h2 : 2 ≤ ps.length) : simpleQ (simpleQ ps) = simpleQ ps := by
  have hs := simple_sub hc hu h2
  have hn := simple_noLine hc hu h2
  have hl := simple_long hc hu h2
  obtain ⟨p, q, t, e, e2, -, -⟩ := simple_two' (ps := simpleQ ps) (fun p hp => hc p (hs.subset hp)) (List.Pairwise.sublist hs hu) hl
  rw [e2]
  rw [e] at hn ⊢
  rw [kept_id t p q hn]
theorem okMap_coP {ps : List Pt} (hm : okMap ps = true) : ∀ p ∈ ps, CoP p := fun p hp => by
  obtain ⟨i, hi, rfl⟩ := List.getElem_of_mem hp
  exact okMap_coord hm (List.getElem?_eq_getElem hi)
/-- A list of points has the value of each of its points. -/
theorem eval_point : ∀ (l : List Pt), UpX l → ∀ p ∈ l, evalR l (toR p.1) = toR p.2
  | [], _, p, hp => by simp at hp
  | [a], _, p, hp => by simp at hp; subst hp; rfl
  | a :: b :: t, hu, p, hp => by
    rcases List.mem_cons.1 hp with rfl | hp
    · exact evalR_first hu
    · have hb : toR b.1 ≤ toR p.1 := by
        rcases List.mem_cons.1 hp with rfl | hp'
        · exact Rat.le_refl
        · exact Rat.le_of_lt ((List.pairwise_cons.1 hu.tail).1 p hp')
      rw [evalR_behind hu hb]
      exact eval_point (b :: t) hu.tail p hp
end Go.Proofs.YtkeajfgcjmhmiaaGreat
