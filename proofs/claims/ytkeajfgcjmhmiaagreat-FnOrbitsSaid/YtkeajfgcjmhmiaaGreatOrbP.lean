/- Plain: orbits go on step by step; visits are counted; distances look the same from both sides. -/
import Derived.Test.YtkeajfgcjmhmiaaGreatDen
import Derived.Test.YtkeajfgcjmhmiaaGreatVis
import Derived.Test.YtkeajfgcjmhmiaaGreatDist2
namespace Go.Proofs.YtkeajfgcjmhmiaaGreat
open Go.RowKit

def OkL' (l : List Q) : Prop := ∀ q ∈ l, okQ q.1 q.2 = true
/-- An orbit that stops at place k looks the same from then on. -/
theorem orbQ_same {ps : List Pt} {x : Q} {k : Nat} : ∀ (d m : Nat), (orbQ ps x (m + d)).length = k + 1 → k ≤ m → orbQ ps x m = orbQ ps x (m + d)
  | 0, _, _, _ => rfl
  | d + 1, m, h, hk => by
    rw [show m + (d + 1) = (m + d) + 1 by omega] at h ⊢
    have e : orbQ ps x (m + d + 1) = orbQ ps x (m + d) := by
      have hh : orbQ ps x (m + d + 1) = _ := rfl
      rw [orbQ] at hh h
      simp only at hh h
      split at h
      · rename_i h2
        rw [List.length_append, h2.1] at h
        simp at h; omega
      · rename_i h2
        rw [orbQ, if_neg h2]
    rw [e] at h ⊢
    exact orbQ_same d m h hk
theorem orbQ_at {ps : List Pt} {x : Q} {k n m : Nat} (h : (orbQ ps x n).length = k + 1) (hk : k ≤ m) (hm : m ≤ n) : (orbQ ps x m).length = k + 1 := by
  have := orbQ_same (ps := ps) (x := x) (k := k) (n - m) m (by rw [show m + (n - m) = n by omega]; exact h) hk
  rw [this, show m + (n - m) = n by omega]; exact h
theorem orbQ_head (ps : List Pt) (x : Q) : ∀ n, (orbQ ps x n)[0]? = some x
  | 0 => rfl
  | n + 1 => by
    have ih := orbQ_head ps x n
    rw [orbQ]
    split
    · rw [List.getElem?_append_left (by have := (orbQ_len ps x n).1; omega)]; exact ih
    · exact ih
theorem orbQ_step {ps : List Pt} {x : Q} : ∀ (n : Nat) {i : Nat} {y z : Q}, (orbQ ps x n)[i]? = some y → (orbQ ps x n)[i + 1]? = some z → valQ ps y = (z, true)
  | 0, i, y, z, _, h2 => by simp [orbQ] at h2
  | n + 1, i, y, z, h1, h2 => by
    rw [orbQ] at h1 h2
    try simp only at h1 h2
    split at h1
    · rename_i hc
      rw [if_pos hc] at h2
      rcases Nat.lt_or_ge (i + 1) (orbQ ps x n).length with hlt | hge
      · rw [List.getElem?_append_left (by omega)] at h1
        rw [List.getElem?_append_left hlt] at h2
        exact orbQ_step n h1 h2
      · have hi : i + 1 = (orbQ ps x n).length := by
          have := (List.getElem?_eq_some_iff.1 h2).1
          rw [List.length_append, List.length_singleton] at this
          omega
        rw [List.getElem?_append_left (by omega)] at h1
        rw [List.getElem?_append_right (by omega), show i + 1 - (orbQ ps x n).length = 0 by omega] at h2
        have e : (orbQ ps x n).getLastD x = y := by
          rw [List.getLastD_eq_getLast?, List.getLast?_eq_getElem?, show (orbQ ps x n).length - 1 = i by omega, h1]; rfl
        rw [e] at hc h2
        rw [List.getElem?_cons_zero] at h2
        injection h2 with h2
        rw [← h2]
        exact Prod.ext rfl hc.2
    · rename_i hc
      rw [if_neg hc] at h2
      exact orbQ_step n h1 h2

theorem denMax_le (l : List Q) : ∀ (m : Int), m ≤ l.foldl (fun m q => max m q.2) m ∧ ∀ q ∈ l, q.2 ≤ l.foldl (fun m q => max m q.2) m := by
  induction l with
  | nil => intro m; simp
  | cons a l ih =>
    intro m
    have h := ih (max m a.2)
    rw [List.foldl_cons]
    refine ⟨by omega, fun q hq => ?_⟩
    rcases List.mem_cons.1 hq with rfl | hq
    · omega
    · exact h.2 q hq

/-- All that the law says of an orbit. -/
structure OrbLaw (ps : List Pt) (x : Q) (n : Int) (l : List Q) (t : Bool) (y1 y2 : Int) (s : Int) (t3 : Bool) (d : Int) : Prop where
  goes : t = (t3 && decide (s = n))
  long : t = true → l.length = n.toNat + 1 ∧ 0 ≤ n
  first : t = true → l[0]? = some x
  last : t = true → l[n.toNat]? = some (y1, y2)
  den : t = true → ∀ q ∈ l, q.2 ≤ d
  step : t = true → ∀ (i : Nat) (y z : Q), l[i]? = some y → l[i + 1]? = some z → vaQ ps y = (z.1, z.2, true)
  less : t3 = true → s < n → 0 ≤ s ∧ n ≤ 60 ∧ (∃ a b, iterQ ps x s = (a, b, true)) ∧ ∃ a b, iterQ ps x (s + 1) = (a, b, false)
theorem stepsQ_yes {ps : List Pt} {x : Q} {n s : Int} (h : stepsQ ps x n = (s, true)) : isStartB ps x n = true ∧ s = ((orbQ ps x n.toNat).length : Int) - 1 := by
  unfold stepsQ at h
  split at h
  · rename_i hh; exact ⟨hh, (Prod.mk.inj h).1.symm⟩
  · simp at h
theorem iterQ_flag {ps : List Pt} {x : Q} {n a b : Int} {t t2 : Bool} {l : List Q} (h : orbOf ps x n = (l, t)) (h2 : iterQ ps x n = (a, b, t2)) : t2 = t ∧ (t = true → l[n.toNat]? = some (a, b)) := by
  unfold iterQ at h2
  rw [h] at h2
  cases t with
  | false => simp only [Bool.false_eq_true, if_false] at h2; exact ⟨(Prod.mk.inj (Prod.mk.inj h2).2).2.symm, by simp⟩
  | true =>
    simp only [if_true] at h2
    have e := Prod.mk.inj h2
    have e2 := Prod.mk.inj e.2
    refine ⟨e2.2.symm, fun _ => ?_⟩
    obtain ⟨k, rfl, hl, -⟩ := orbOf_yes h
    rw [← e.1, ← e2.1]
    have hk : (k : Int).toNat < l.length := by simp; omega
    rw [List.getD_eq_getElem?_getD, List.getElem?_eq_getElem hk]
    rfl
theorem orb_law {ps : List Pt} {x : Q} {n : Int} {l : List Q} {t t1 : Bool} {y1 y2 s d : Int} {t3 t5 : Bool} (h1 : orbOf ps x n = (l, t)) (h2 : iterQ ps x n = (y1, y2, t1)) (h3 : stepsQ ps x n = (s, t3)) (h4 : denQ ps x n = (d, t5)) :
    t1 = t ∧ t5 = t ∧ OrbLaw ps x n l t y1 y2 s t3 d := by
  obtain ⟨e1, e2⟩ := iterQ_flag h1 h2
  unfold denQ at h4
  rw [h1] at h4
  obtain ⟨rfl, rfl⟩ := Prod.mk.inj h4
  have hgo : t = (t3 && decide (s = n)) := by
    unfold orbOf at h1
    unfold stepsQ at h3
    by_cases hs : isStartB ps x n = true
    · rw [if_pos hs] at h3
      obtain ⟨-, -, n0, n1⟩ := isStartB_parts hs
      obtain ⟨rfl, rfl⟩ := Prod.mk.inj h3
      by_cases hl : (orbQ ps x n.toNat).length = n.toNat + 1
      · rw [if_pos ⟨hs, hl⟩] at h1
        rw [← (Prod.mk.inj h1).2, decide_eq_true (by omega)]; rfl
      · rw [if_neg (fun h => hl h.2)] at h1
        rw [← (Prod.mk.inj h1).2, decide_eq_false (by omega)]; rfl
    · rw [if_neg hs] at h3
      rw [if_neg (fun h => hs h.1)] at h1
      rw [← (Prod.mk.inj h1).2, ← (Prod.mk.inj h3).2]; rfl
  have hyes : t = true → l = orbQ ps x n.toNat ∧ isStartB ps x n = true ∧ (orbQ ps x n.toNat).length = n.toNat + 1 := fun ht => by
    subst ht
    unfold orbOf at h1
    split at h1
    · rename_i hh; exact ⟨(Prod.mk.inj h1).1.symm, hh.1, hh.2⟩
    · simp at h1
  refine ⟨e1, rfl, hgo, fun ht => ?_, fun ht => ?_, e2, fun ht q hq => (denMax_le l 0).2 q hq, fun ht i y z hy hz => ?_, fun ht hlt => ?_⟩
  · obtain ⟨rfl, hs, hl⟩ := hyes ht
    exact ⟨hl, (isStartB_parts hs).2.2.1⟩
  · obtain ⟨rfl, -, -⟩ := hyes ht
    exact orbQ_head ps x _
  · obtain ⟨rfl, hs, -⟩ := hyes ht
    obtain ⟨hm, hx, -, -⟩ := isStartB_parts hs
    have hu := orbQ_unit hm hx _ y (List.mem_of_getElem? hy)
    have hv := orbQ_step _ hy hz
    unfold vaQ atQ
    rw [if_pos ⟨hm, hu⟩, hv]
    rfl
  · subst ht
    obtain ⟨hs, hsl⟩ := stepsQ_yes h3
    obtain ⟨hm, hx, n0, n1⟩ := isStartB_parts hs
    have h1l := (orbQ_len ps x n.toNat).1
    obtain ⟨k, rfl⟩ : ∃ k : Nat, s = k := ⟨s.toNat, by omega⟩
    have hkl : (orbQ ps x n.toNat).length = k + 1 := by omega
    have a1 := orbQ_at hkl (Nat.le_refl k) (by omega)
    have a2 := orbQ_at hkl (show k ≤ k + 1 by omega) (by omega)
    have hsk : isStartB ps x k = true := by
      unfold isStartB
      rw [hm, hx, decide_eq_true (by omega)]; rfl
    refine ⟨by omega, n1, ?_, ?_⟩
    · have ho := orbOf_b hsk a1
      unfold iterQ
      rw [ho]
      exact ⟨_, _, rfl⟩
    · have ho : orbOf ps x ((k : Int) + 1) = ([], false) := orbOf_c (k := k + 1) (by omega)
      unfold iterQ
      rw [ho]
      exact ⟨0, 0, rfl⟩

/-- All places lie in the unit interval. -/
theorem visits_all {ps : List Pt} {x : Q} {n : Int} {a b : Q} {v : Int} (h : visQ ps x n a b = (v, true)) : 0 ≤ n ∧ n ≤ 60 ∧ visQ ps x n (0, 1) (1, 1) = (n + 1, true) ∧ v ≤ n + 1 := by
  unfold visQ at h
  split at h
  · rcases ho : orbOf ps x n with ⟨l, t⟩
    rw [ho] at h
    obtain ⟨hv, rfl⟩ := Prod.mk.inj h
    simp only at hv
    obtain ⟨k, rfl, hl, hk⟩ := orbOf_yes ho
    refine ⟨by omega, by omega, ?_, ?_⟩
    · unfold visQ
      rw [if_pos (by decide), ho]
      have : visN l (0, 1) (1, 1) = l.length := by
        unfold visN
        rw [List.countP_eq_length]
        intro q hq
        have := unitQ_bd (orbOf_unit ho q hq)
        unfold lessQ
        rw [decide_eq_false (by omega), decide_eq_false (by omega)]; rfl
      rw [this, hl]; simp
    · have := List.countP_le_length (p := fun y : Q => !lessQ y.1 y.2 a.1 a.2 && !lessQ b.1 b.2 y.1 y.2) (l := l)
      rw [← hv]
      unfold visN
      omega
  · simp at h

theorem absQ_comm {a b : Q} (ha : okQ a.1 a.2 = true) (hb : okQ b.1 b.2 = true) : absQ a b = absQ b a := by
  unfold absQ
  have l1 := lessQ_iff (n1 := a.1) (n2 := b.1) (okQ_bd ha).1 (okQ_bd hb).1
  have l2 := lessQ_iff (n1 := b.1) (n2 := a.1) (okQ_bd hb).1 (okQ_bd ha).1
  by_cases h1 : lessQ a.1 a.2 b.1 b.2 = true
  · rw [if_pos h1, if_neg]
    intro h2
    have := l1.1 h1
    have := l2.1 h2
    grind
  · by_cases h2 : lessQ b.1 b.2 a.1 a.2 = true
    · rw [if_neg h1, if_pos h2]
    · rw [if_neg h1, if_neg h2]
      rw [l1] at h1
      rw [l2] at h2
      obtain rfl : a = b := toR_inj ha hb (by show toR (a.1, a.2) = toR (b.1, b.2); grind)
      rfl
theorem farN_comm {l1 l2 : List Q} (h1 : OkL' l1) (h2 : OkL' l2) : ∀ k, farN l1 l2 k = farN l2 l1 k
  | 0 => rfl
  | k + 1 => by
    have ih := farN_comm h1 h2 k
    rw [farN, farN, ih]
    rcases e1 : l1[k]? with _ | a
    · rcases e2 : l2[k]? with _ | b <;> rfl
    · rcases e2 : l2[k]? with _ | b
      · rfl
      · simp only
        rw [absQ_comm (h1 a (List.mem_of_getElem? e1)) (h2 b (List.mem_of_getElem? e2))]
theorem farQ_comm {ps : List Pt} {x y : Q} {n : Int} {a b : Int} (h : farQ ps x y n = (a, b, true)) : farQ ps y x n = (a, b, true) := by
  rcases h1 : orbOf ps x n with ⟨l1, t1⟩
  rcases h2 : orbOf ps y n with ⟨l2, t2⟩
  unfold farQ at h ⊢
  rw [h1, h2] at h ⊢
  cases t1 with
  | false => simp at h
  | true =>
    cases t2 with
    | false => simp at h
    | true =>
      obtain ⟨k, hk, hl1, -⟩ := orbOf_yes h1
      obtain ⟨k', hk', hl2, -⟩ := orbOf_yes h2
      have e : l2.length = l1.length := by omega
      have hc := farN_comm (l1 := l1) (l2 := l2) (fun q hq => unitQ_ok (orbOf_unit h1 q hq)) (fun q hq => unitQ_ok (orbOf_unit h2 q hq)) l1.length
      simp only at h ⊢
      rw [e, ← hc]
      exact h
theorem bigQ_nn {a b : Q} (ha : 0 ≤ a.1) (hb : 0 ≤ b.1) : 0 ≤ (bigQ a b).1 := by unfold bigQ; split <;> assumption
theorem lowQ_nn {N D a b : Int} {t : Bool} (hN : 0 ≤ N) (hD : 0 < D) (h : lowQ N D = (a, b, t)) : 0 ≤ a := by
  rw [lowQ_fit N D (by omega)] at h
  cases t with
  | false => have := (fitR_no h).1; omega
  | true =>
    obtain ⟨e, ho⟩ := fitR_yes h
    have h0 : (0 : Rat) ≤ toR (N, D) := by
      apply Rat.not_lt.1
      intro hh
      rw [← toR_zero 1] at hh
      have := (lessQ_iff (n1 := N) (d1 := D) (n2 := 0) (d2 := 1) (by omega) (by decide)).2 hh
      unfold lessQ at this
      have := of_decide_eq_true this
      omega
    apply Int.not_lt.1
    intro ha
    have hd := (okQ_bd ho).1
    have := (lessQ_iff (n1 := a) (d1 := b) (n2 := 0) (d2 := 1) hd (by decide)).1 (by unfold lessQ; exact decide_eq_true (by omega))
    rw [e, toR_zero] at this
    grind
theorem absQ_nn {a b : Q} (ha : okQ a.1 a.2 = true) (hb : okQ b.1 b.2 = true) : 0 ≤ (absQ a b).1 := by
  rw [absQ_low ha hb]
  have h1 := (okQ_bd ha).1
  have h2 := (okQ_bd hb).1
  split <;> rename_i h <;> unfold lessQ at h
  · rw [decide_eq_true_iff] at h
    exact lowQ_nn (a := _) (b := _) (t := _) (by omega) (Int.mul_pos (by omega) (by omega)) rfl
  · rw [decide_eq_true_iff] at h
    exact lowQ_nn (a := _) (b := _) (t := _) (by omega) (Int.mul_pos (by omega) (by omega)) rfl
theorem farN_nn {l1 l2 : List Q} (h1 : OkL' l1) (h2 : OkL' l2) : ∀ k, 0 ≤ (farN l1 l2 k).1.1
  | 0 => by show (0 : Int) ≤ 0; omega
  | k + 1 => by
    have ih := farN_nn h1 h2 k
    rw [farN]
    split
    · rename_i a b e1 e2
      refine bigQ_nn ih ?_
      unfold keepQ
      split
      · exact absQ_nn (h1 a (List.mem_of_getElem? e1)) (h2 b (List.mem_of_getElem? e2))
      · show (0 : Int) ≤ 0; omega
    · exact ih
theorem farQ_nn {ps : List Pt} {x y : Q} {n : Int} {a b : Int} (h : farQ ps x y n = (a, b, true)) : 0 ≤ a ∧ okQ a b = true := by
  unfold farQ at h
  split at h
  · have e := Prod.mk.inj h
    have e2 := Prod.mk.inj e.2
    rw [← e.1, ← e2.1]
    rcases h1 : orbOf ps x n with ⟨l1, t1⟩
    rcases h2 : orbOf ps y n with ⟨l2, t2⟩
    exact ⟨farN_nn (fun q hq => unitQ_ok (orbOf_unit h1 q hq)) (fun q hq => unitQ_ok (orbOf_unit h2 q hq)) _, farN_ok _ _ _⟩
  · simp at h
end Go.Proofs.YtkeajfgcjmhmiaaGreat
