/- Plain: what a text of a map is read back to. -/
import Derived.Test.YtkeajfgcjmhmiaaGreatDoorM26
import Derived.Test.YtkeajfgcjmhmiaaGreatDoorM27
namespace Go.Proofs.YtkeajfgcjmhmiaaGreatDoor
open Go.RowKit

theorem ratL_no {n d : Int} {c : UInt8} (hc : c.toNat < 47 ∨ 57 < c.toNat) (h45 : c ≠ 45) : c ∉ ratL n d := by
  unfold ratL
  simp only [List.mem_append, List.mem_singleton, not_or]
  refine ⟨⟨itoa_no (by omega) h45, ?_⟩, itoa_no (by omega) h45⟩
  rintro rfl
  simp at hc
/-- A point's text without its end. -/
def bodyL (p : Pt) : List UInt8 := ratL p.1.1 p.1.2 ++ 32 :: ratL p.2.1 p.2.2
theorem ptL_body (p : Pt) : ptL p = bodyL p ++ [59] := by simp [ptL, bodyL]
theorem body_no (p : Pt) : (59 : UInt8) ∉ bodyL p := by
  unfold bodyL
  simp only [List.mem_append, List.mem_cons, not_or]
  exact ⟨ratL_no (by decide) (by decide), by decide, ratL_no (by decide) (by decide)⟩
theorem cut_pt (p : Pt) (r : List UInt8) : Lib.cut (ptL p ++ r) [59] = (bodyL p, r, true) := by
  rw [ptL_body, List.append_assoc, List.singleton_append]
  exact cut_sep (body_no p)
theorem cut_body (p : Pt) : Lib.cut (bodyL p) [32] = (ratL p.1.1 p.1.2, ratL p.2.1 p.2.2, true) := cut_sep (ratL_no (by decide) (by decide))
theorem cut_yes {s a b : List UInt8} {c : UInt8} (h : Lib.cut s [c] = (a, b, true)) : s = a ++ c :: b := by
  have key : ∀ (s : List UInt8) (i : Nat), Lib.index s [c] = i → s = s.take i ++ c :: s.drop (i + 1) := by
    intro s
    induction s with
    | nil => intro i hi; simp [Lib.index] at hi; try omega
    | cons x r ih =>
      intro i hi
      rw [Lib.index] at hi
      by_cases hx : c = x
      · subst hx
        rw [if_pos (by simp [List.isPrefixOf])] at hi
        obtain rfl : i = 0 := by omega
        simp
      · rw [if_neg (by simp [List.isPrefixOf]; exact hx)] at hi
        have hs : -1 ≤ Lib.index r [c] := Lib.index_ge r [c]
        split at hi
        · omega
        · rename_i h1
          have h2 : Lib.index r [c] ≠ -1 := by simpa using h1
          obtain ⟨j, rfl⟩ : ∃ j, i = j + 1 := ⟨i - 1, by omega⟩
          have := ih j (by omega)
          rw [List.take_succ_cons, List.drop_succ_cons, List.cons_append, ← this]
  unfold Lib.cut at h
  split at h
  · rename_i h0
    cases h
    have := key s (Lib.index s [c]).toNat (by omega)
    simpa using this
  · cases h
theorem body_inj {p q : Pt} (hp : okQ p.1.1 p.1.2 = true ∧ okQ p.2.1 p.2.2 = true) (hq : okQ q.1.1 q.1.2 = true ∧ okQ q.2.1 q.2.2 = true) (h : bodyL p = bodyL q) : p = q := by
  have h1 := cut_body p
  rw [h, cut_body q] at h1
  simp only [Prod.mk.injEq, and_true] at h1
  obtain ⟨a, b⟩ := h1
  have x := ratL_inj hq.1 hp.1 a
  have y := ratL_inj hq.2 hp.2 b
  exact Prod.ext (Prod.ext x.1.symm x.2.symm) (Prod.ext y.1.symm y.2.symm)
theorem mapL_cons (p : Pt) (r : List Pt) : mapL (p :: r) = ptL p ++ mapL r := rfl
theorem mapL_snoc (r : List Pt) (p : Pt) : mapL (r ++ [p]) = mapL r ++ ptL p := by unfold mapL; rw [List.flatMap_append]; simp
theorem mapL_split : ∀ {qs ps : List Pt} {r : List UInt8}, OkP ps → OkP qs → mapL ps = mapL qs ++ r → ∃ ts, ps = qs ++ ts ∧ mapL ts = r
  | [], ps, r, _, _, h => ⟨ps, rfl, h⟩
  | q :: qs, ps, r, hp, hq, h => by
    rw [mapL_cons, List.append_assoc] at h
    cases ps with
    | nil =>
      exfalso
      have := congrArg List.length h
      simp [mapL, ptL_body] at this
    | cons p ps =>
      rw [mapL_cons] at h
      have h1 := cut_pt p (mapL ps)
      rw [h, cut_pt] at h1
      simp only [Prod.mk.injEq, and_true] at h1
      obtain ⟨a, b⟩ := h1
      obtain rfl := body_inj (hq q (List.mem_cons_self ..)) (hp p (List.mem_cons_self ..)) a
      obtain ⟨ts, rfl, ht⟩ := mapL_split (fun x hx => hp x (List.mem_cons_of_mem _ hx)) (fun x hx => hq x (List.mem_cons_of_mem _ hx)) b.symm
      exact ⟨ts, rfl, ht⟩
theorem mapL_nil {ps : List Pt} (h : mapL ps = []) : ps = [] := by
  cases ps with
  | nil => rfl
  | cons p r => rw [mapL_cons, ptL_body] at h; simp at h
theorem mapL_inj {qs ps : List Pt} (hp : OkP ps) (hq : OkP qs) (h : mapL ps = mapL qs) : ps = qs := by
  obtain ⟨ts, rfl, ht⟩ := mapL_split (r := []) hp hq (by rw [h, List.append_nil])
  rw [mapL_nil ht, List.append_nil]
theorem mapL_long (ps : List Pt) : 2 * ps.length ≤ (mapL ps).length := by
  induction ps with
  | nil => simp
  | cons p r ih =>
    rw [mapL_cons, ptL_body]
    simp only [bodyL, List.length_append, List.length_cons, List.length_nil]
    omega

/-- The first point of a text, and the rest. -/
def Heads (r : List UInt8) (p : Pt) (r' : List UInt8) : Prop := okQ p.1.1 p.1.2 = true ∧ okQ p.2.1 p.2.2 = true ∧ r = ptL p ++ r'
/-- The steps of readPoints tell whether a text begins with a point's text. -/
theorem head_yes {r word rest head tail : List UInt8} {x1 x2 y1 y2 : Int} (h1 : Lib.cut r [59] = (word, rest, true)) (h2 : Lib.cut word [32] = (head, tail, true)) (hx : psQ head = ((x1, x2), true)) (hy : psQ tail = ((y1, y2), true)) : Heads r ((x1, x2), y1, y2) rest := by
  rcases psQ_cases hx with ⟨-, o1, rfl⟩ | ⟨h, -⟩
  · rcases psQ_cases hy with ⟨-, o2, rfl⟩ | ⟨h, -⟩
    · refine ⟨o1, o2, ?_⟩
      rw [cut_yes h1, cut_yes h2, ptL_body]
      simp [bodyL]
    · cases h
  · cases h
theorem head_no {r word rest head tail : List UInt8} {x1 x2 y1 y2 : Int} {f g t u : Bool} (h1 : Lib.cut r [59] = (word, rest, f)) (h2 : Lib.cut word [32] = (head, tail, g)) (hx : psQ head = ((x1, x2), t)) (hy : psQ tail = ((y1, y2), u)) (hn : ¬ (f = true ∧ g = true ∧ t = true ∧ u = true)) : ∀ p r', ¬ Heads r p r' := by
  rintro p r' ⟨o1, o2, rfl⟩
  rw [cut_pt] at h1
  simp only [Prod.mk.injEq] at h1
  obtain ⟨rfl, rfl, rfl⟩ := h1
  rw [cut_body] at h2
  simp only [Prod.mk.injEq] at h2
  obtain ⟨rfl, rfl, rfl⟩ := h2
  have a := psQ_yes (s := ratL p.1.1 p.1.2) (q := p.1) ⟨o1, rfl⟩
  have b := psQ_yes (s := ratL p.2.1 p.2.2) (q := p.2) ⟨o2, rfl⟩
  rw [hx] at a
  rw [hy] at b
  exact hn ⟨rfl, rfl, (Prod.mk.inj a).2, (Prod.mk.inj b).2⟩

/-- s is the text of the points ps. -/
def PtsOf (s : List UInt8) (ps : List Pt) : Prop := OkP ps ∧ mapL ps = s
theorem PtsOf.one {s : List UInt8} {ps qs : List Pt} (h : PtsOf s ps) (k : PtsOf s qs) : ps = qs := mapL_inj h.1 k.1 (h.2.trans k.2.symm)
/-- s is the text of the map ps. -/
def MapOf (s : List UInt8) (ps : List Pt) : Prop := okMap ps = true ∧ mapL ps = s
theorem MapOf.pts {s : List UInt8} {ps : List Pt} (h : MapOf s ps) : PtsOf s ps := ⟨OkP.of_map h.1, h.2⟩
open Classical in
noncomputable def pmQ (s : List UInt8) : List Pt × Bool := if h : ∃ ps, MapOf s ps then (h.choose, true) else ([], false)
theorem pmQ_yes {s : List UInt8} {ps : List Pt} (h : MapOf s ps) : pmQ s = (ps, true) := by
  have hx : ∃ q, MapOf s q := ⟨ps, h⟩
  unfold pmQ
  rw [dif_pos hx]
  exact Prod.ext (hx.choose_spec.pts.one h.pts) rfl
theorem pmQ_no {s : List UInt8} (h : ∀ q, ¬ MapOf s q) : pmQ s = ([], false) := by
  unfold pmQ
  rw [dif_neg (fun hx => h hx.choose hx.choose_spec)]
open Classical in
/-- What readPoints gives: the points with a text. -/
noncomputable def rpQ (s : List UInt8) : List Pt × Bool := if h : ∃ ps, PtsOf s ps then (h.choose, true) else ([], false)
theorem rpQ_yes {s : List UInt8} {ps : List Pt} (h : PtsOf s ps) : rpQ s = (ps, true) := by
  have hx : ∃ q, PtsOf s q := ⟨ps, h⟩
  unfold rpQ
  rw [dif_pos hx]
  exact Prod.ext (hx.choose_spec.one h) rfl
theorem rpQ_no {s : List UInt8} (h : ∀ q, ¬ PtsOf s q) : rpQ s = ([], false) := by
  unfold rpQ
  rw [dif_neg (fun hx => h hx.choose hx.choose_spec)]
/-- A text that goes on, after points, with no point is no text of points. -/
theorem rpQ_stop {s r : List UInt8} {qs : List Pt} (hs : s = mapL qs ++ r) (ho : OkP qs) (hr : r ≠ []) (hn : ∀ p r', ¬ Heads r p r') : rpQ s = ([], false) := by
  refine rpQ_no (fun ps h => ?_)
  obtain ⟨ts, rfl, ht⟩ := mapL_split (r := r) h.1 ho (h.2.trans hs)
  cases ts with
  | nil => exact hr ht.symm
  | cons p ts =>
    have hp := h.1 p (by simp)
    exact hn p (mapL ts) ⟨hp.1, hp.2, ht.symm⟩
theorem pm_of_rp {s : List UInt8} {qs m : List Pt} {f t : Bool} (h : rpQ s = (qs, f)) (hl : pmQ s = (m, t)) : (f = true ∧ okMap qs = true ∧ m = qs ∧ t = true) ∨ ((f = false ∨ okMap qs = false) ∧ m = [] ∧ t = false) := by
  by_cases hx : ∃ q, PtsOf s q
  · obtain ⟨q, hq⟩ := hx
    rw [rpQ_yes hq] at h
    cases h
    rcases ho : okMap qs with _ | _
    · rw [pmQ_no (fun p hp => by rw [hp.pts.one hq, ] at hp; exact absurd hp.1 (by rw [ho]; simp))] at hl
      cases hl
      exact .inr ⟨.inr rfl, rfl, rfl⟩
    · rw [pmQ_yes ⟨ho, hq.2⟩] at hl
      cases hl
      exact .inl ⟨rfl, rfl, rfl, rfl⟩
  · rw [rpQ_no (fun q hq => hx ⟨q, hq⟩)] at h
    cases h
    rw [pmQ_no (fun q hq => hx ⟨q, hq.pts⟩)] at hl
    cases hl
    exact .inr ⟨.inl rfl, rfl, rfl⟩
theorem rpQ_ok {s : List UInt8} {qs : List Pt} {f : Bool} (h : rpQ s = (qs, f)) : OkP qs ∧ 2 * qs.length ≤ s.length := by
  by_cases hx : ∃ q, PtsOf s q
  · obtain ⟨q, hq⟩ := hx
    rw [rpQ_yes hq] at h
    cases h
    refine ⟨hq.1, ?_⟩
    rw [← hq.2]
    exact mapL_long _
  · rw [rpQ_no (fun q hq => hx ⟨q, hq⟩)] at h
    cases h
    exact ⟨fun p hp => by simp at hp, by simp⟩

/-- The pieces of a text of points. -/
theorem spL_map : ∀ ps : List Pt, spL 59 (mapL ps) = ps.map bodyL ++ [[]]
  | [] => rfl
  | p :: r => by
    rw [mapL_cons, ptL_body, List.append_assoc, List.singleton_append, spL_app (body_no p), spL_map r]
    rfl
theorem spL_body (p : Pt) : spL 32 (bodyL p) = [ratL p.1.1 p.1.2, ratL p.2.1 p.2.2] := by
  unfold bodyL
  rw [spL_app (ratL_no (by decide) (by decide)), spL_one (ratL_no (by decide) (by decide))]
theorem spL_some (c : UInt8) (s : List UInt8) : spL c s ≠ [] := by
  cases s with
  | nil => simp [spL]
  | cons x r =>
    unfold spL
    split
    · simp
    · split <;> simp
theorem spL_mem {c : UInt8} : ∀ {s l : List UInt8}, l ∈ spL c s → l.length ≤ s.length
  | [], l, h => by simp [spL] at h; subst h; simp
  | x :: r, l, h => by
    unfold spL at h
    split at h
    · rcases List.mem_cons.1 h with rfl | h
      · simp
      · have := spL_mem h; simp; omega
    · split at h
      · simp at h; subst h; simp
      · rename_i h1 t1 heq
        rcases List.mem_cons.1 h with rfl | h
        · have := spL_mem (c := c) (s := r) (l := h1) (by rw [heq]; simp)
          simp; omega
        · have := spL_mem (c := c) (s := r) (l := l) (by rw [heq]; simp [h])
          simp; omega
theorem map_bodies {s : List UInt8} {q : List Pt} (h : MapOf s q) : spL 59 s = q.map bodyL ++ [[]] := by rw [← h.2, spL_map]
/-- What a piece of a map's text is. -/
theorem piece_of {s l : List UInt8} {q : List Pt} {k : Nat} (h : MapOf s q) (hk : k + 1 < (spL 59 s).length) (hl : (spL 59 s)[k]? = some l) : ∃ p, q[k]? = some p ∧ okQ p.1.1 p.1.2 = true ∧ okQ p.2.1 p.2.2 = true ∧ l = bodyL p := by
  rw [map_bodies h] at hk hl
  simp at hk
  rw [List.getElem?_append_left (by simpa using hk), List.getElem?_map] at hl
  have hp := List.getElem?_eq_getElem hk
  rw [hp] at hl
  simp at hl
  have ho := OkP.of_map h.1 _ (List.mem_of_getElem? hp)
  exact ⟨_, hp, ho.1, ho.2, hl.symm⟩
theorem pm_bad {s l : List UInt8} {k : Nat} {m : List Pt} {t : Bool} (hl : pmQ s = (m, t)) (hk : k + 1 < (spL 59 s).length) (hg : (spL 59 s)[k]? = some l) (hn : ∀ p : Pt, okQ p.1.1 p.1.2 = true → okQ p.2.1 p.2.2 = true → l ≠ bodyL p) : m = [] ∧ t = false := by
  rw [pmQ_no (fun q hq => by obtain ⟨p, -, o1, o2, e⟩ := piece_of hq hk hg; exact hn p o1 o2 e)] at hl
  cases hl
  exact ⟨rfl, rfl⟩
theorem pm_many {s : List UInt8} {m : List Pt} {t : Bool} (hl : pmQ s = (m, t)) (h : 13 < (spL 59 s).length) : m = [] ∧ t = false := by
  rw [pmQ_no (fun q hq => by have := okMap_len hq.1; rw [map_bodies hq] at h; simp at h; omega)] at hl
  cases hl
  exact ⟨rfl, rfl⟩
theorem pm_end {s : List UInt8} {m qs : List Pt} {t : Bool} (hl : pmQ s = (m, t)) (ho : OkP qs) (hb : qs.map bodyL = (spL 59 s).take ((spL 59 s).length - 1)) : (okMap qs = true ∧ mapL qs = s ∧ m = qs ∧ t = true) ∨ ((okMap qs = false ∨ mapL qs ≠ s) ∧ m = [] ∧ t = false) := by
  by_cases h : MapOf s qs
  · rw [pmQ_yes h] at hl
    cases hl
    exact .inl ⟨h.1, h.2, rfl, rfl⟩
  · rw [pmQ_no (fun q hq => h (by
      have e : qs = q := by
        rw [map_bodies hq] at hb
        simp at hb
        have hoq := OkP.of_map hq.1
        clear h hl hq
        induction qs generalizing q with
        | nil => cases q with
          | nil => rfl
          | cons => simp at hb
        | cons p r ih => cases q with
          | nil => simp at hb
          | cons p' r' =>
            simp only [List.map_cons, List.cons.injEq] at hb
            obtain rfl := body_inj (ho p (List.mem_cons_self ..)) (hoq p' (List.mem_cons_self ..)) hb.1
            rw [ih (fun x hx => ho x (List.mem_cons_of_mem _ hx)) r' hb.2 (fun x hx => hoq x (List.mem_cons_of_mem _ hx))]
      rw [e]; exact hq))] at hl
    cases hl
    refine .inr ⟨?_, rfl, rfl⟩
    rcases ho : okMap qs with _ | _
    · exact .inl rfl
    · exact .inr (fun e => h ⟨ho, e⟩)
/-- The steps of the reference's loop at a piece. -/
theorem piece_yes {l a b : List UInt8} {x1 x2 y1 y2 : Int} (h : spL 32 l = [a, b]) (hx : psQ a = ((x1, x2), true)) (hy : psQ b = ((y1, y2), true)) : okQ x1 x2 = true ∧ okQ y1 y2 = true ∧ l = bodyL ((x1, x2), y1, y2) := by
  have key : ∀ l : List UInt8, ∀ a b, spL 32 l = [a, b] → l = a ++ 32 :: b := by
    intro l
    induction l with
    | nil => intro a b h; simp [spL] at h
    | cons x r ih =>
      intro a b h
      unfold spL at h
      split at h
      · rename_i hx
        simp only [List.cons.injEq] at h
        obtain ⟨rfl, h⟩ := h
        have one : ∀ r b : List UInt8, spL 32 r = [b] → r = b := by
          intro r
          induction r with
          | nil => intro b h; simp [spL] at h; exact h.symm
          | cons y r ih =>
            intro b h
            unfold spL at h
            split at h
            · simp at h
              exact absurd h.2 (spL_some _ _)
            · split at h
              · rename_i he; simp at h; subst h; exact absurd he (spL_some _ _)
              · rename_i he; simp at h; obtain ⟨rfl, rfl⟩ := h; rw [ih _ he]
        rw [one r b h, hx]
        rfl
      · split at h
        · simp at h
        · rename_i he
          simp only [List.cons.injEq] at h
          obtain ⟨rfl, rfl⟩ := h
          rw [ih _ _ he]
          rfl
  rcases psQ_cases hx with ⟨-, o1, rfl⟩ | ⟨h, -⟩
  · rcases psQ_cases hy with ⟨-, o2, rfl⟩ | ⟨h, -⟩
    · exact ⟨o1, o2, key _ _ _ h⟩
    · cases h
  · cases h
theorem piece_no {l a b : List UInt8} {x1 x2 y1 y2 : Int} {t u : Bool} (h : spL 32 l = [a, b]) (hx : psQ a = ((x1, x2), t)) (hy : psQ b = ((y1, y2), u)) (hn : ¬ (t = true ∧ u = true)) : ∀ p : Pt, okQ p.1.1 p.1.2 = true → okQ p.2.1 p.2.2 = true → l ≠ bodyL p := by
  rintro p o1 o2 rfl
  rw [spL_body] at h
  simp only [List.cons.injEq, and_true] at h
  obtain ⟨rfl, rfl⟩ := h
  have e1 := psQ_yes (s := ratL p.1.1 p.1.2) (q := p.1) ⟨o1, rfl⟩
  have e2 := psQ_yes (s := ratL p.2.1 p.2.2) (q := p.2) ⟨o2, rfl⟩
  rw [hx] at e1
  rw [hy] at e2
  exact hn ⟨(Prod.mk.inj e1).2, (Prod.mk.inj e2).2⟩
theorem piece_two {l : List UInt8} (h : (spL 32 l).length ≠ 2) : ∀ p : Pt, okQ p.1.1 p.1.2 = true → okQ p.2.1 p.2.2 = true → l ≠ bodyL p := by
  rintro p o1 o2 rfl
  rw [spL_body] at h
  exact h rfl

end Go.Proofs.YtkeajfgcjmhmiaaGreatDoor
