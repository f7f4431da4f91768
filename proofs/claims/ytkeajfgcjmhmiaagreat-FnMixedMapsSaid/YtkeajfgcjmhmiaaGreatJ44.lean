/- Plain: compositions have the values of values, powers add up, maps that are the same have no distance and commute. · DoCommute of both. -/
import Derived.Test.YtkeajfgcjmhmiaaGreatJ32
import Derived.Test.YtkeajfgcjmhmiaaGreatJ34
import Derived.Test.YtkeajfgcjmhmiaaGreatJ43
import Derived.Test.YtkeajfgcjmhmiaaGreatJ25
import Derived.Test.YtkeajfgcjmhmiaaGreatJ30
import Derived.Test.YtkeajfgcjmhmiaaGreatJ31
namespace Go.Proofs.YtkeajfgcjmhmiaaGreat
open Go.RowKit

theorem not_bad {l : List Pt} (h : l.any badPt = false) : ∀ p ∈ l, CoP p := fun p hp => by
  have := List.any_eq_false.1 h p hp
  unfold badPt at this
  unfold CoP
  simpa using this
theorem made_parts {l m : List Pt} (h : madeQ l = (m, true)) : (∀ p ∈ l, CoP p) ∧ m = simpleQ l ∧ okMap m = true := by
  unfold madeQ at h
  split at h
  · rename_i hh
    obtain ⟨rfl, -⟩ := Prod.mk.inj h
    exact ⟨not_bad hh.1, rfl, hh.2⟩
  · cases h
/-- A list of points made a map has the list's function, and is simple. -/
theorem made_eval {l m : List Pt} (hj : Joined l) (h : madeQ l = (m, true)) : okMap m = true ∧ simpleQ m = m ∧ ∀ x, evalR m x = evalR l x := by
  obtain ⟨hc, rfl, hm⟩ := made_parts h
  exact ⟨hm, simple_idem hc hj.up hj.len.1, fun x => simple_eval' hc hj.up hj.len.1 x⟩
theorem map_ends {g : List Pt} (hg : okMap g = true) : ((0, 1) : Q) ∈ g.map (·.1) ∧ ((1, 1) : Q) ∈ g.map (·.1) := by
  have h1 := okMap_first hg
  have h2 := okMap_last hg
  constructor
  · cases e : g.head? with
    | none => rw [e] at h1; simp at h1
    | some z =>
      rw [e] at h1
      have e1 : z.1 = (0, 1) := by simpa using h1
      exact List.mem_map.2 ⟨z, List.mem_of_head? e, e1⟩
  · cases e : g.getLast? with
    | none => rw [e] at h2; simp at h2
    | some z =>
      rw [e] at h2
      have e1 : z.1 = (1, 1) := by simpa using h2
      exact List.mem_map.2 ⟨z, List.mem_of_getLast? e, e1⟩
theorem cutAll_xs {g : List Pt} {ys : List Q} {x : Q} (h : x ∈ g.map (·.1)) : x ∈ cutAll g ys := by
  unfold cutAll cutL
  rw [setQ_mem]
  exact List.mem_append_left _ h
theorem cutAll_bef {g : List Pt} {ys : List Q} (hg : okMap g = true) (hy : OkL ys) (hb : cutOk g ys = true) {y x : Q} (hm : y ∈ ys) (hx : x ∈ befQ y g) : x ∈ cutAll g ys := by
  have hbad : cutBad g ys ys.length = false := by rw [cutBad_end, hb]; rfl
  have := (cutS_mem (g := g) ys ys.length x).2 (Or.inr ⟨y, by rw [List.take_length]; exact hm, hx⟩)
  rw [cut_same hg hy hbad] at this
  exact this
/-- The composition's function. -/
theorem com_eval {f g c : List Pt} (hf : okMap f = true) (hg : okMap g = true) (h : comQ f g = (c, true)) :
    okMap c = true ∧ simpleQ c = c ∧ ∀ x, 0 ≤ x → x ≤ 1 → evalR c x = evalR f (evalR g x) := by
  by_cases hh : (cutOk g (f.map (·.1)) && (comXs f g).all (comT f g)) = true
  · obtain ⟨h1, h2⟩ := Bool.and_eq_true_iff.1 hh
    rw [comQ_yes h1 h2] at h
    obtain ⟨e1, e2, e3⟩ := made_eval (comL_joined hf hg) h
    refine ⟨e1, e2, fun x x1 x2 => ?_⟩
    rw [e3]
    have hox := (xs_unit hf).ok
    have hun := cutAll_unit hg hox
    have hup := cutAll_up hg hox
    have ht : ∀ x ∈ comXs f g, unitQ x.1 x.2 = true ∧ (valQ g x).2 = true ∧ (valQ f (valQ g x).1).2 = true := fun x hx => by
      have := List.all_eq_true.1 h2 x hx
      unfold comT at this
      rw [Bool.and_eq_true] at this
      exact ⟨hun x hx, this.1, this.2⟩
    have hb : ∀ r ∈ f, befOk r.1 g = true := fun r hr => by
      unfold cutOk at h1
      exact List.all_eq_true.1 h1 r.1 (List.mem_map.2 ⟨r, hr, rfl⟩)
    have hlin := linOn_comp hf hg hb (comXs f g) hup ht (fun r hr _ _ _ => cutAll_xs (List.mem_map.2 ⟨r, hr, rfl⟩))
      (fun r hr z hz _ _ _ => cutAll_bef hg hox h1 (List.mem_map.2 ⟨r, hr, rfl⟩) hz)
    exact eval_all (F := fun x => evalR f (evalR g x)) (V := comW f g) hup hun (cutAll_xs (map_ends hg).1) (cutAll_xs (map_ends hg).2) hlin x x1 x2
  · rw [comQ_no (by simpa using hh)] at h
    cases h
theorem composeQ_parts {f g c : List Pt} (h : composeQ f g = (c, true)) : okMap f = true ∧ okMap g = true ∧ comQ f g = (c, true) := by
  unfold composeQ at h
  split at h
  · rename_i hh
    rw [Bool.and_eq_true] at hh
    exact ⟨hh.1, hh.2, h⟩
  · cases h
/-- A composition has the values of values. -/
theorem compose_value {f g c : List Pt} (h : composeQ f g = (c, true)) {x : Q} {y1 y2 z1 z2 w1 w2 : Int} (hy : vaQ g x = (y1, y2, true)) (hz : vaQ f (y1, y2) = (z1, z2, true)) (hw : vaQ c x = (w1, w2, true)) : w1 = z1 ∧ w2 = z2 := by
  obtain ⟨hf, hg, hc⟩ := composeQ_parts h
  obtain ⟨m, s, e⟩ := com_eval hf hg hc
  obtain ⟨-, ux, vy⟩ := vaQ_yes hy
  obtain ⟨-, uy, vz⟩ := vaQ_yes hz
  obtain ⟨-, -, vw⟩ := vaQ_yes hw
  obtain ⟨a1, -⟩ := valQ_eval hg ux vy
  obtain ⟨a2, k2⟩ := valQ_eval hf uy vz
  obtain ⟨a3, k3⟩ := valQ_eval m ux vw
  obtain ⟨-, b1, b2⟩ := unitQ_iff.1 ux
  have := e (toR x) b1 b2
  rw [a1] at this
  rw [a2] at this
  rw [a3] at this
  have he := toR_inj (p := (w1, w2)) (q := (z1, z2)) k3 k2 this
  exact Prod.mk.inj he
theorem compose_simple {f g c : List Pt} (h : composeQ f g = (c, true)) : okMap c = true ∧ simpleMapQ c = (c, true) := by
  obtain ⟨hf, hg, hc⟩ := composeQ_parts h
  obtain ⟨m, s, -⟩ := com_eval hf hg hc
  exact ⟨m, by unfold simpleMapQ; rw [if_pos m, s]⟩
/-- A power is the map behind the power before. -/
theorem power_next {f p : List Pt} {n : Int} (h : powerQ f n = (p, true)) (hn : 0 < n) : ∃ l, powerQ f (n - 1) = (l, true) ∧ composeQ f l = (p, true) := by
  unfold powerQ at h
  split at h
  · rename_i hh
    split at h
    · rename_i ht
      obtain ⟨k, hk⟩ : ∃ k : Nat, n.toNat = k + 1 := ⟨n.toNat - 1, by omega⟩
      have hk1 : (n - 1).toNat = k := by omega
      rw [hk] at ht h
      have hkt : (powQ f k).2 = true := by
        unfold powQ at ht
        split at ht
        · assumption
        · simp at ht
      have hc : comQ f (powQ f k).1 = (p, true) := by
        unfold powQ at h
        rw [if_pos hkt] at h
        exact h
      refine ⟨(powQ f k).1, ?_, ?_⟩
      · unfold powerQ
        rw [if_pos ⟨hh.1, by omega, by omega⟩, hk1, if_pos hkt]
        exact Prod.ext rfl hkt
      · unfold composeQ
        rw [if_pos (by rw [hh.1, powQ_map f k hkt]; rfl)]
        exact hc
    · cases h
  · cases h
theorem lineR_range {p q : Pt} {lo hi : Rat} (h : toR p.1 < toR q.1) (p1 : lo ≤ toR p.2) (p2 : toR p.2 ≤ hi) (q1 : lo ≤ toR q.2) (q2 : toR q.2 ≤ hi) {x : Rat} (x1 : toR p.1 ≤ x) (x2 : x ≤ toR q.1) : lo ≤ lineR p q x ∧ lineR p q x ≤ hi := by
  have hs := slR_mul h
  unfold lineR
  by_cases c : 0 ≤ slR p q
  · have m1 := Rat.mul_nonneg c (show 0 ≤ x - toR p.1 by grind)
    have m2 := Rat.mul_nonneg c (show 0 ≤ toR q.1 - x by grind)
    constructor <;> grind
  · have c' : 0 ≤ -slR p q := by grind
    have m1 := Rat.mul_nonneg c' (show 0 ≤ x - toR p.1 by grind)
    have m2 := Rat.mul_nonneg c' (show 0 ≤ toR q.1 - x by grind)
    constructor <;> grind
theorem eval_range {lo hi : Rat} : ∀ (l : List Pt) (p : Pt), UpX (p :: l) → (∀ r ∈ p :: l, lo ≤ toR r.2 ∧ toR r.2 ≤ hi) → ∀ x, toR p.1 ≤ x → x ≤ lastX p l → lo ≤ evalR (p :: l) x ∧ evalR (p :: l) x ≤ hi
  | [], p, _, h, x, _, _ => h p List.mem_cons_self
  | q :: l, p, hu, h, x, x1, x2 => by
    have hp := h p List.mem_cons_self
    have hq := h q (List.mem_cons_of_mem _ List.mem_cons_self)
    rw [evalR]
    by_cases c : x ≤ toR q.1
    · rw [if_pos c]
      exact lineR_range hu.head hp.1 hp.2 hq.1 hq.2 x1 c
    · rw [if_neg c]
      exact eval_range l q hu.tail (fun r hr => h r (List.mem_cons_of_mem _ hr)) x (by grind) x2
theorem map_range {f : List Pt} (hf : okMap f = true) {x : Rat} (x1 : 0 ≤ x) (x2 : x ≤ 1) : 0 ≤ evalR f x ∧ evalR f x ≤ 1 := by
  have hl := okMap_len hf
  match f, hl, hf with
  | p :: l, _, hf =>
    have z := okMap_head0 hf
    have o := okMap_lastX hf
    refine eval_range l p (okMap_upX hf) (fun r hr => ?_) x (by rw [z]; exact x1) (by rw [o]; exact x2)
    exact (coP_bd (okMap_coP hf r hr)).2
/-- Maps with one function commute. -/
theorem same_comm {f g c d : List Pt} (hs : simpleQ f = simpleQ g) (h1 : composeQ f g = (c, true)) (h2 : composeQ g f = (d, true)) : c = d := by
  obtain ⟨hf, hg, hc⟩ := composeQ_parts h1
  obtain ⟨-, -, hd⟩ := composeQ_parts h2
  obtain ⟨m1, s1, e1⟩ := com_eval hf hg hc
  obtain ⟨m2, s2, e2⟩ := com_eval hg hf hd
  rw [← s1, ← s2]
  refine (same_iff m1 m2).2 (fun x x1 x2 => ?_)
  rw [e1 x x1 x2, e2 x x1 x2]
  have hfn := (same_iff hf hg).1 hs
  rw [hfn x x1 x2]
  obtain ⟨a, b⟩ := map_range hg x1 x2
  rw [hfn _ a b]
theorem lowR_zero {n d : Int} (h : okQ n d = true) : n = 0 ↔ toR (n, d) = 0 := by
  constructor
  · rintro rfl; exact toR_zero d
  · intro e
    have := toR_mul h
    rw [e] at this
    have h0 : (n : Rat) = 0 := by grind
    exact_mod_cast h0
/-- A greatest distance is nought where all are. -/
theorem far_zero {l1 l2 : List Q} (h1 : OkL l1) (h2 : OkL l2) (hl : l1.length = l2.length) : ∀ k, k ≤ l1.length → (farN l1 l2 k).2 = false → 0 ≤ toR (farN l1 l2 k).1 ∧ (toR (farN l1 l2 k).1 = 0 ↔ ∀ (i : Nat) (a b : Q), i < k → l1[i]? = some a → l2[i]? = some b → a = b)
  | 0, _, _ => by
    refine ⟨?_, ?_⟩
    · show 0 ≤ toR (0, 1); rw [toR_zero]; exact Rat.le_refl
    · constructor
      · intro _ i a b hi; omega
      · intro _; exact toR_zero 1
  | k + 1, hk, hb => by
    have ha := List.getElem?_eq_getElem (show k < l1.length by omega)
    have hc := List.getElem?_eq_getElem (show k < l2.length by omega)
    generalize l1[k] = a at ha
    generalize l2[k] = b at hc
    have oa := h1 a (List.mem_of_getElem? ha)
    have ob := h2 b (List.mem_of_getElem? hc)
    rw [farN_next ha hc] at hb ⊢
    simp only [Bool.or_eq_false_iff, Bool.not_eq_false'] at hb
    obtain ⟨i1, i2⟩ := far_zero h1 h2 hl k (by omega) hb.1
    have of := farN_ok l1 l2 k
    have hd : 0 ≤ toR (keepQ (absQ a b)) ∧ (toR (keepQ (absQ a b)) = 0 ↔ a = b) := by
      have hb2 := hb.2
      unfold absQ at hb2 ⊢
      split
      · rename_i hlt
        rw [if_pos hlt] at hb2
        rw [subQ_fit ob oa] at hb2 ⊢
        have hlt2 := (lessQ_iff (okQ_bd oa).1 (okQ_bd ob).1).1 hlt
        rcases keepQ_cases (toR (b.1, b.2) - toR (a.1, a.2)) with ⟨_, e⟩ | ⟨e, _⟩
        · rw [e]
          refine ⟨by grind, ⟨fun h => ?_, ?_⟩⟩
          · exfalso; grind
          · rintro rfl; grind
        · rw [e] at hb2; cases hb2
      · rename_i hlt
        rw [if_neg hlt] at hb2
        rw [subQ_fit oa ob] at hb2 ⊢
        have hlt2 : ¬ toR (a.1, a.2) < toR (b.1, b.2) := fun h => hlt ((lessQ_iff (okQ_bd oa).1 (okQ_bd ob).1).2 h)
        rcases keepQ_cases (toR (a.1, a.2) - toR (b.1, b.2)) with ⟨_, e⟩ | ⟨e, _⟩
        · rw [e]
          refine ⟨by grind, ⟨fun h => ?_, ?_⟩⟩
          · exact toR_inj oa ob (show toR (a.1, a.2) = toR (b.1, b.2) by grind)
          · rintro rfl; grind
        · rw [e] at hb2; cases hb2
    have ok := keepAbs_ok a b
    generalize keepQ (absQ a b) = d at hd ok
    have hbig : 0 ≤ toR (bigQ (farN l1 l2 k).1 d) ∧ (toR (bigQ (farN l1 l2 k).1 d) = 0 ↔ toR (farN l1 l2 k).1 = 0 ∧ toR d = 0) := by
      unfold bigQ
      have hx := lessQ_iff (n1 := (farN l1 l2 k).1.1) (n2 := d.1) (okQ_bd of).1 (okQ_bd ok).1
      change _ ↔ toR (farN l1 l2 k).1 < toR d at hx
      split
      · rename_i hlt
        have := hx.1 hlt
        refine ⟨hd.1, ⟨fun h => ⟨by grind, h⟩, fun h => h.2⟩⟩
      · rename_i hlt
        have : ¬ toR (farN l1 l2 k).1 < toR d := fun h => hlt (hx.2 h)
        refine ⟨i1, ⟨fun h => ⟨h, by grind⟩, fun h => h.1⟩⟩
    refine ⟨hbig.1, hbig.2.trans ?_⟩
    rw [i2, hd.2]
    constructor
    · rintro ⟨x1, x2⟩ i u v hi hu hv
      by_cases e : i = k
      · subst e
        rw [ha] at hu; rw [hc] at hv
        cases hu; cases hv
        exact x2
      · exact x1 i u v (by omega) hu hv
    · intro hh
      exact ⟨fun i u v hi => hh i u v (by omega), hh k a b (by omega) ha hc⟩
theorem both_xs {f g : List Pt} : (∀ r ∈ f, r.1 ∈ bothQ f g) ∧ ∀ r ∈ g, r.1 ∈ bothQ f g := by
  unfold bothQ
  constructor
  · intro r hr; rw [setQ_mem, List.mem_append]; exact Or.inl (List.mem_map.2 ⟨r, hr, rfl⟩)
  · intro r hr; rw [setQ_mem, List.mem_append]; exact Or.inr (List.mem_map.2 ⟨r, hr, rfl⟩)
/-- Maps have one function if and only if their values are equal at the places of both. -/
theorem both_same {f g : List Pt} (hf : okMap f = true) (hg : okMap g = true) (ha : allFine f g = true) : simpleQ f = simpleQ g ↔ ∀ x ∈ bothQ f g, (valQ f x).1 = (valQ g x).1 := by
  have hun := bothQ_unit hf hg
  have hup : UpQ (bothQ f g) := setQ_up ((okL_xs hf).app (okL_xs hg))
  have hfi : ∀ x ∈ bothQ f g, (valQ f x).2 = true ∧ (valQ g x).2 = true := fun x hx => by
    unfold allFine at ha
    have := List.all_eq_true.1 ha x hx
    unfold fineV at this
    rwa [Bool.and_eq_true] at this
  rw [same_iff hf hg]
  constructor
  · intro h x hx
    obtain ⟨-, b1, b2⟩ := unitQ_iff.1 (hun x hx)
    obtain ⟨e1, k1⟩ := valQ_eval hf (hun x hx) (Prod.ext rfl (hfi x hx).1)
    obtain ⟨e2, k2⟩ := valQ_eval hg (hun x hx) (Prod.ext rfl (hfi x hx).2)
    exact toR_inj k1 k2 (by rw [← e1, ← e2]; exact h (toR x) b1 b2)
  · intro h x x1 x2
    rw [← eval_vals hf hup (fun x hx => ⟨hun x hx, (hfi x hx).1⟩) both_xs.1 x x1 x2, ← eval_vals hg hup (fun x hx => ⟨hun x hx, (hfi x hx).2⟩) both_xs.2 x x1 x2]
    have : ptsV f (bothQ f g) = ptsV g (bothQ f g) := by
      unfold ptsV
      exact List.map_congr_left (fun x hx => by rw [h x hx])
    rw [this]
/-- Maps that are the same have no distance. -/
theorem great_same {f g : List Pt} {m1 m2 : Int} {s t : Bool} (h : greatQ f g = (m1, m2, true)) (hs : sameQ f g = (s, t)) : t = true ∧ s = decide (m1 = 0) := by
  unfold greatQ at h
  split at h
  · rename_i hh
    rw [Bool.and_eq_true] at hh
    obtain ⟨hf, hg⟩ := hh
    unfold sameQ at hs
    rw [if_pos ⟨hf, hg⟩] at hs
    obtain ⟨rfl, rfl⟩ := Prod.mk.inj hs
    refine ⟨rfl, ?_⟩
    split at h
    · rename_i h2
      rw [Bool.and_eq_true, Bool.not_eq_true'] at h2
      obtain ⟨ha, hn⟩ := h2
      injection h with h3 h4
      injection h4 with h4 _
      have oA : OkL (valA f g) := fun q hq => by
        unfold valA at hq
        obtain ⟨x, hx, rfl⟩ := List.mem_map.1 hq
        exact unitQ_ok (valQ_unit hf (bothQ_unit hf hg x hx))
      have oB : OkL (valB f g) := fun q hq => by
        unfold valB at hq
        obtain ⟨x, hx, rfl⟩ := List.mem_map.1 hq
        exact unitQ_ok (valQ_unit hg (bothQ_unit hf hg x hx))
      have lA : (valA f g).length = (bothQ f g).length := by unfold valA; rw [List.length_map]
      have lB : (valB f g).length = (bothQ f g).length := by unfold valB; rw [List.length_map]
      have key := (far_zero oA oB (by rw [lA, lB]) (bothQ f g).length (by rw [lA]; exact Nat.le_refl _) hn).2
      have hok := farN_ok (valA f g) (valB f g) (bothQ f g).length
      have hz := lowR_zero hok
      have e0 : m1 = 0 ↔ simpleQ f = simpleQ g := by
        rw [← h3, both_same hf hg ha]
        show (farN (valA f g) (valB f g) (bothQ f g).length).1.1 = 0 ↔ _
        rw [hz]
        refine key.trans ⟨fun hk x hx => ?_, fun hk i a b hi hu hv => ?_⟩
        · obtain ⟨i, hi⟩ := List.getElem?_of_mem hx
          refine hk i _ _ (List.getElem?_eq_some_iff.1 hi).1 ?_ ?_
          · unfold valA; rw [List.getElem?_map, hi]; rfl
          · unfold valB; rw [List.getElem?_map, hi]; rfl
        · have hx := List.getElem?_eq_getElem hi
          unfold valA at hu
          unfold valB at hv
          rw [List.getElem?_map, hx] at hu hv
          cases hu; cases hv
          exact hk _ (List.mem_of_getElem? hx)
      rw [Bool.eq_iff_iff, decide_eq_true_iff, decide_eq_true_iff, e0]
    · cases h
  · cases h
/-- Maps that are the same commute. -/
theorem same_commutes {f g : List Pt} {d t : Bool} (h : commQ f g = (d, true)) (hs : sameQ f g = (true, t)) : d = true := by
  unfold commQ at h
  split at h
  · rename_i hh
    rw [Bool.and_eq_true] at hh
    obtain ⟨rfl, -⟩ := Prod.mk.inj h
    unfold sameQ at hs
    split at hs
    · obtain ⟨h1, -⟩ := Prod.mk.inj hs
      exact decide_eq_true (same_comm (of_decide_eq_true h1) (Prod.ext rfl hh.1) (Prod.ext rfl hh.2))
    · cases hs
  · cases h
end Go.Proofs.YtkeajfgcjmhmiaaGreat

namespace Go.Proofs.YtkeajfgcjmhmiaaGreat
open Go.RowKit

theorem commQ_no {f g : List Pt} {s t : Bool} (hl : commQ f g = (s, t)) (h : ((composeQ f g).2 && (composeQ g f).2) = false) : false = s ∧ false = t := by
  unfold commQ at hl; rw [if_neg (by rw [h]; simp)] at hl; exact Prod.mk.inj hl
theorem commQ_yes {f g : List Pt} {s t : Bool} (hl : commQ f g = (s, t)) (h : ((composeQ f g).2 && (composeQ g f).2) = true) : decide ((composeQ f g).1 = (composeQ g f).1) = s ∧ true = t := by
  unfold commQ at hl; rw [if_pos h] at hl; exact Prod.mk.inj hl
theorem composeQ_map {f g : List Pt} (h : (okMap f && okMap g) = false) : composeQ f g = ([], false) := by
  unfold composeQ; rw [if_neg (by rw [h]; simp)]
theorem composeQ_com {f g : List Pt} (h : (okMap f && okMap g) = true) : composeQ f g = comQ f g := by
  unfold composeQ; rw [if_pos h]

set_option maxHeartbeats 1600000 in
theorem iDoCommute_is (f g : List Pt) (vf vg : Value) (s t : Bool) (hl : commQ f g = (s, t)) (w : World) (hf : RdP w vf f) (hg : RdP w vg g) (hn : f.length ≤ 1048576) (hk : g.length ≤ 1048576) :
    Calls Tryz.prog 21 #[vf, vg] w (fun e w' => e = .returned (.tuple #[.bool s, .bool t]) ∧ Below w.heap.size w w') := by
  have HF := Lib.hid hf
  have HG := Lib.hid hg
  have HL := Lib.hid hl
  rcases h1 : composeQ f g with ⟨m1, t1⟩
  rcases h2 : composeQ g f with ⟨m2, t2⟩
  have H1 := Lib.hid h1
  have H2 := Lib.hid h2
  have HT := Lib.hid (show ((composeQ f g).2 && (composeQ g f).2) = (t1 && t2) by rw [h1, h2])
  have HD := Lib.hid (show decide ((composeQ f g).1 = (composeQ g f).1) = decide (m1 = m2) by rw [h1, h2])
  clear hl hf hg h1 h2
  go_enter Tryz.func21, Tryz.ntmps21
  go_wp2_with fail
  refine (iComposeMaps_is f g vf vg m1 t1 H1.out _ (HF.out.keep (by go_grown)) (HG.out.keep (by go_grown)) hn hk).mono ?_
  rintro e w1 ⟨r1, rfl, ow1, hb⟩
  have hB : Below w.heap.size w w1 := nextX (by go_grown) hb
  have HO1 := Lib.hid ow1.read
  clear ow1 hb
  go_wp2_with fail
  refine (iComposeMaps_is g f vg vf m2 t2 H2.out _ (HG.out.keep (nextX hB (by go_grown))) (HF.out.keep (nextX hB (by go_grown))) hk hn).mono ?_
  rintro e w2 ⟨r2, rfl, ow2, hb⟩
  have hX : Below w1.heap.size w1 w2 := nextX (by go_grown) hb
  have HO2 := Lib.hid ow2.read
  have HO3 := Lib.hid (HO1.out.keep hX)
  replace hB := nextX hB hX
  clear ow2 hb hX HO1
  rcases t1 with _ | _
  · obtain ⟨rfl, rfl⟩ := commQ_no HL.out HT.out
    go_wp2_with fail
    go_ret2
    exact ⟨rfl, hB⟩
  · rcases t2 with _ | _
    · obtain ⟨rfl, rfl⟩ := commQ_no HL.out HT.out
      go_wp2_with fail
      go_ret2
      exact ⟨rfl, hB⟩
    · obtain ⟨hs, rfl⟩ := commQ_yes HL.out HT.out
      rw [HD.out] at hs
      have HS := Lib.hid hs
      clear hs
      go_wp2_with fail
      refine (equalPts m1 m2 _ _ _ (HO3.out.keep (by go_grown)) (HO2.out.keep (by go_grown))).mono ?_
      rintro e w3 ⟨he, hb⟩
      rw [HS.out] at he
      subst he
      have hB3 : Below w.heap.size w w3 := nextX hB (nextX (by go_grown) hb)
      clear hb
      go_wp2_with fail
      go_ret2
      exact ⟨rfl, hB3⟩

set_option maxHeartbeats 1600000 in
theorem sDoCommute_is (f g : List Pt) (vf vg : Value) (s t : Bool) (hl : commQ f g = (s, t)) (w : World) (hf : RdP w vf f) (hg : RdP w vg g) (hn : f.length ≤ 1048576) (hk : g.length ≤ 1048576) :
    Calls Tryz.prog 22 #[vf, vg] w (fun e w' => e = .returned (.tuple #[.bool s, .bool t]) ∧ Below w.heap.size w w') := by
  have HF := Lib.hid hf
  have HG := Lib.hid hg
  have HL := Lib.hid hl
  rcases hm : (okMap f && okMap g) with _ | _
  · obtain ⟨rfl, rfl⟩ := commQ_no hl (by rw [composeQ_map hm]; rfl)
    have HM := Lib.hid hm
    clear hf hg hl hm
    go_enter Tryz.func22, Tryz.ntmps22
    go_wp2_with fail
    refine (coTwo_is f g _ _ false HM.out _ (HF.out.keep (by go_grown)) (HG.out.keep (by go_grown)) hn hk).mono ?_
    rintro e w1 ⟨rfl, hb⟩
    go_wp2_with fail
    go_ret2
    exact ⟨rfl, hb⟩
  · have hm2 : (okMap g && okMap f) = true := by rw [Bool.and_comm]; exact hm
    have HM := Lib.hid hm
    have HMF := Lib.hid (show okMap f = true by simp at hm; exact hm.1)
    have HMG := Lib.hid (show okMap g = true by simp at hm; exact hm.2)
    rcases h1 : comQ f g with ⟨m1, t1⟩
    rcases h2 : comQ g f with ⟨m2, t2⟩
    have H1 := Lib.hid h1
    have H2 := Lib.hid h2
    have HT := Lib.hid (show ((composeQ f g).2 && (composeQ g f).2) = (t1 && t2) by rw [composeQ_com hm, composeQ_com hm2, h1, h2])
    have HD := Lib.hid (show decide ((composeQ f g).1 = (composeQ g f).1) = decide (m1 = m2) by rw [composeQ_com hm, composeQ_com hm2, h1, h2])
    clear hf hg hl hm hm2 h1 h2
    go_enter Tryz.func22, Tryz.ntmps22
    go_wp2_with fail
    refine (coTwo_is f g _ _ true HM.out _ (HF.out.keep (by go_grown)) (HG.out.keep (by go_grown)) hn hk).mono ?_
    rintro e w1 ⟨rfl, hb⟩
    have hB : Below w.heap.size w w1 := hb
    clear hb
    go_wp2_with fail
    refine (coCompose_is f g _ _ m1 t1 H1.out _ (HF.out.keep (nextX hB (by go_grown))) (HG.out.keep (nextX hB (by go_grown))) HMF.out HMG.out).mono ?_
    rintro e w2 ⟨r1, rfl, ow1, hb⟩
    have hX : Below w1.heap.size w1 w2 := nextX (by go_grown) hb
    have HO1 := Lib.hid ow1.read
    replace hB := nextX hB hX
    clear ow1 hb hX
    go_wp2_with fail
    refine (coCompose_is g f _ _ m2 t2 H2.out _ (HG.out.keep (nextX hB (by go_grown))) (HF.out.keep (nextX hB (by go_grown))) HMG.out HMF.out).mono ?_
    rintro e w3 ⟨r2, rfl, ow2, hb⟩
    have hX : Below w2.heap.size w2 w3 := nextX (by go_grown) hb
    have HO2 := Lib.hid ow2.read
    have HO3 := Lib.hid (HO1.out.keep hX)
    replace hB := nextX hB hX
    clear ow2 hb hX HO1
    rcases t1 with _ | _
    · obtain ⟨rfl, rfl⟩ := commQ_no HL.out HT.out
      go_wp2_with fail
      go_ret2
      exact ⟨rfl, hB⟩
    · rcases t2 with _ | _
      · obtain ⟨rfl, rfl⟩ := commQ_no HL.out HT.out
        go_wp2_with fail
        go_ret2
        exact ⟨rfl, hB⟩
      · obtain ⟨hs, rfl⟩ := commQ_yes HL.out HT.out
        rw [HD.out] at hs
        have HS := Lib.hid hs
        clear hs
        go_wp2_with fail
        refine (coEqual_is m1 m2 _ _ _ (HO3.out.keep (by go_grown)) (HO2.out.keep (by go_grown))).mono ?_
        rintro e w4 ⟨he, hb⟩
        rw [HS.out] at he
        subst he
        have hB3 : Below w.heap.size w w4 := nextX hB (nextX (by go_grown) hb)
        clear hb
        go_wp2_with fail
        go_ret2
        exact ⟨rfl, hB3⟩

end Go.Proofs.YtkeajfgcjmhmiaaGreat
