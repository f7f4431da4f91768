/- Places and periods: slices.Index, orAt, periodIn, orPeriod, PeriodOf of both. -/
import Derived.Test.YtkdhhopfefhdjaaSlopes
import Derived.Test.YtkdhhopfefhdjaaMarks
namespace Go.Proofs.Ytkdhhopfefhdjaa
open Go.RowKit

def NoneQ (l : List Q) (x : Q) (k : Nat) : Prop := ∀ i y, i < k → l[i]? = some y → y ≠ x
theorem NoneQ.more {l : List Q} {x y : Q} {k : Nat} (h : NoneQ l x k) (hy : l[k]? = some y) (hn : y ≠ x) : NoneQ l x (k + 1) := by
  intro i z hi hz
  by_cases e : i = k
  · subst e; rw [hy] at hz; cases hz; exact hn
  · exact h i z (by omega) hz
theorem NoneQ.found {l : List Q} {x : Q} {k : Nat} (h : NoneQ l x k) (hy : l[k]? = some x) : idxQ l x = k := by
  obtain ⟨hk, he⟩ := List.getElem?_eq_some_iff.1 hy
  have : l.findIdx? (fun y => decide (y = x)) = some k := by
    rw [List.findIdx?_eq_some_iff_getElem]
    refine ⟨hk, by simp [he], fun j hj => ?_⟩
    have := h j l[j] hj (List.getElem?_eq_getElem (by omega))
    simpa using this
  unfold idxQ; rw [this]
theorem NoneQ.none {l : List Q} {x : Q} (h : NoneQ l x l.length) : idxQ l x = -1 := by
  have : l.findIdx? (fun y => decide (y = x)) = Option.none := by
    rw [List.findIdx?_eq_none_iff]
    intro y hy
    obtain ⟨i, hi, rfl⟩ := List.getElem_of_mem hy
    simpa using h i _ hi (List.getElem?_eq_getElem hi)
  unfold idxQ; rw [this]
theorem idxQ_bd (l : List Q) (x : Q) : -1 ≤ idxQ l x ∧ idxQ l x ≤ l.length := by
  unfold idxQ
  cases h : l.findIdx? (fun y => decide (y = x)) with
  | none => simp
  | some i =>
    have := (List.findIdx?_eq_some_iff_getElem.1 h).1
    simp
    omega
theorem idxQ_lt (l : List Q) (x : Q) (h : 0 ≤ idxQ l x) : idxQ l x < l.length := by
  unfold idxQ at *
  cases hh : l.findIdx? (fun y => decide (y = x)) with
  | none => rw [hh] at h; simp at h
  | some i =>
    have := (List.findIdx?_eq_some_iff_getElem.1 hh).1
    simp
    omega
def RelIx (l : List Q) (x : Q) (w : World) (i : Value) (wr : World) : Prop := ∃ k : Nat, k ≤ l.length ∧ i = .int .i64 k ∧ NoneQ l x k ∧ Below w.heap.size w wr
theorem q_or {a1 a2 b1 b2 : Int} (h : ((a1, a2) : Q) ≠ (b1, b2)) : (((a1 : Int) == b1) = false) ∨ (((a1 : Int) == b1) = true ∧ ((a2 : Int) == b2) = false) := by
  rcases h1 : ((a1 : Int) == b1) with _ | _
  · exact .inl rfl
  · rcases h2 : ((a2 : Int) == b2) with _ | _
    · exact .inr ⟨rfl, rfl⟩
    · exact absurd (Prod.ext (by simpa using h1) (by simpa using h2)) h
theorem RdQ.take {w : World} {A : Option Addr} {n c : Nat} {l : List Q} (h : RdQ w (.slice A n c) l) (j : Nat) (hj : j ≤ n) : RdQ w (.slice A j c) (l.take j) := by
  obtain ⟨A', c', he, h1, h2, h3⟩ := h
  simp only [Value.slice.injEq] at he
  obtain ⟨rfl, rfl, rfl⟩ := he
  have hl : (l.take j).length = j := by rw [List.length_take]; omega
  refine ⟨A, c, by rw [hl], by rw [hl]; omega, h2, fun hn => ?_⟩
  obtain ⟨g, o, rfl, hg, hc⟩ := h3 (by rintro rfl; simp at hn)
  refine ⟨g, o, rfl, hg, fun i q hq => hc i q ?_⟩
  rw [List.getElem?_take] at hq
  split at hq
  · exact hq
  · cases hq

set_option maxHeartbeats 1600000 in
theorem indexQ_is (l : List Q) (v : Value) (x1 x2 : Int) (w : World) (hv : RdQ w v l) :
    Calls Try.prog 150 #[v, .agg #[.int .i64 x1, .int .i64 x2]] w fun e w' => e = .returned (.int .i64 (idxQ l (x1, x2))) ∧ Below w.heap.size w w' := by
  obtain ⟨A, c, rfl, hl, hm, hcell⟩ := hv
  unfold maxLen at hm
  have HC := Lib.hid hcell
  clear hcell
  go_enter Try.func150, Try.ntmps150
  go_wp2_with fail
  go_name_world W0 hW
  have hB0 : Below w.heap.size w W0 := by rw [← hW]; go_grown
  have HE := Lib.hid (show W0.cell? ⟨w.heap.size, 0, none⟩ = some (.int .i64 x1) ∧ W0.cell? ⟨w.heap.size, 1, none⟩ = some (.int .i64 x2) by rw [← hW]; exact ⟨by simp [go_sem], by simp [go_sem]⟩)
  clear hW
  go_loopw [8] (fun i wr => RelIx l (x1, x2) W0 i wr) (fun i _ => l.length - (intOf i).toNat)
  case atStart => exact ⟨0, Nat.zero_le _, rfl, (fun i y hi => by omega), Below.refl _ _⟩
  case round =>
    obtain ⟨k, hk, rfl, hno, hb⟩ := hrel
    have HN := Lib.hid hno
    clear hno
    by_cases hlt : k < l.length
    · obtain ⟨g, o, rfl, hg, hc⟩ := HC.out (by intro h; rw [h] at hlt; simp at hlt)
      have hq := List.getElem?_eq_getElem hlt
      generalize l[k] = q at *
      obtain ⟨a1, a2⟩ := q
      obtain ⟨c0, c1⟩ := hc _ _ hq
      have hBw := nextW hB0 hb
      rw [← hBw.cell (p := ⟨g, _, none⟩) hg] at c0 c1
      have e0' := cellB hb HE.out.1
      have e1' := cellB hb HE.out.2
      have ze := lt_of_cell e0'
      have zc := lt_of_cell c0
      have HQ := Lib.hid hq
      clear hc HC hq hBw
      by_cases he : ((x1, x2) : Q) = (a1, a2)
      · obtain ⟨rfl, rfl⟩ := Prod.mk.inj he
        have HF := Lib.hid (HN.out.found HQ.out)
        clear he
        go_wp2_with fail
        refine wp_region_below (by kernel_rfl) (by kernel_rfl) ?_
        iterate 6 (first
          | (refine stepS rfl ?_; simp only [Act.put, List.setIfInBounds_toArray, List.set_cons_zero, List.set_cons_succ])
          | (refine stepV (v := ?_) rfl (fun W hW => ?_) ?_
             rotate_left
             focus
               have qc0 := cellB hW.out e0'
               have qc1 := cellB hW.out e1'
               have qc2 := cellB hW.out c0
               have qc3 := cellB hW.out c1
               go_simp
               try with_reducible rfl
               done
             simp only [Act.put, List.setIfInBounds_toArray, List.set_cons_zero, List.set_cons_succ]))
        refine stepN ?_
        intro w2 hw2
        have hB2 := nextW hb hw2.out
        clear hw2 e0' e1' c0 c1
        go_wp2_with fail
        go_ret
        exact ⟨ret_int HF.out.symm, nextW hB0 hB2⟩
      · have HM := Lib.hid (HN.out.more HQ.out (fun h => he h.symm))
        have hor := q_or he
        clear he
        rcases hor with e1 | ⟨e1, e2⟩
        all_goals
        go_wp2_with fail
        refine wp_region_below (by kernel_rfl) (by kernel_rfl) ?_
        iterate 6 (first
          | (refine stepS rfl ?_; simp only [Act.put, List.setIfInBounds_toArray, List.set_cons_zero, List.set_cons_succ])
          | (refine stepV (v := ?_) rfl (fun W hW => ?_) ?_
             rotate_left
             focus
               have qc0 := cellB hW.out e0'
               have qc1 := cellB hW.out e1'
               have qc2 := cellB hW.out c0
               have qc3 := cellB hW.out c1
               go_simp
               try with_reducible rfl
               done
             simp only [Act.put, List.setIfInBounds_toArray, List.set_cons_zero, List.set_cons_succ]))
        refine stepN ?_
        intro w2 hw2
        have hB2 := nextW hb hw2.out
        clear hw2 e0' e1' c0 c1
        go_wp2_with fail
        go_roundw
        case rel => exact ⟨k + 1, by omega, by go_num, HM.out, hB2⟩
        case measure => simp [intOf]; omega
    · obtain rfl : k = l.length := by omega
      have HF := Lib.hid HN.out.none
      go_wp2_with fail
      go_ret
      exact ⟨ret_int HF.out.symm, nextW hB0 hb⟩

set_option maxHeartbeats 1600000 in
theorem orAt_is (l : List Q) (v : Value) (x1 x2 : Int) (w : World) (hv : RdQ w v l) :
    Calls Try.prog 149 #[v, .agg #[.int .i64 x1, .int .i64 x2]] w fun e w' => e = .returned (.int .i64 (idxQ l (x1, x2))) ∧ Below w.heap.size w w' := by
  obtain ⟨A, c, rfl, hl, hm, hcell⟩ := hv
  unfold maxLen at hm
  have HC := Lib.hid hcell
  clear hcell
  go_enter Try.func149, Try.ntmps149
  go_wp2_with fail
  go_name_world W0 hW
  have hB0 : Below w.heap.size w W0 := by rw [← hW]; go_grown
  have HE := Lib.hid (show W0.cell? ⟨w.heap.size, 0, none⟩ = some (.int .i64 x1) ∧ W0.cell? ⟨w.heap.size, 1, none⟩ = some (.int .i64 x2) by rw [← hW]; exact ⟨by simp [go_sem], by simp [go_sem]⟩)
  clear hW
  go_loopw [9] (fun i wr => RelIx l (x1, x2) W0 i wr) (fun i _ => l.length - (intOf i).toNat)
  case atStart => exact ⟨0, Nat.zero_le _, rfl, (fun i y hi => by omega), Below.refl _ _⟩
  case round =>
    obtain ⟨k, hk, rfl, hno, hb⟩ := hrel
    have HN := Lib.hid hno
    clear hno
    by_cases hlt : k < l.length
    · obtain ⟨g, o, rfl, hg, hc⟩ := HC.out (by intro h; rw [h] at hlt; simp at hlt)
      have hq := List.getElem?_eq_getElem hlt
      generalize l[k] = q at *
      obtain ⟨a1, a2⟩ := q
      obtain ⟨c0, c1⟩ := hc _ _ hq
      have hBw := nextW hB0 hb
      rw [← hBw.cell (p := ⟨g, _, none⟩) hg] at c0 c1
      have e0' := cellB hb HE.out.1
      have e1' := cellB hb HE.out.2
      have ze := lt_of_cell e0'
      have zc := lt_of_cell c0
      have HQ := Lib.hid hq
      clear hc HC hq hBw
      by_cases he : ((x1, x2) : Q) = (a1, a2)
      · obtain ⟨rfl, rfl⟩ := Prod.mk.inj he
        have HF := Lib.hid (HN.out.found HQ.out)
        clear he
        go_wp2_with fail
        have hB2 : Below W0.heap.size W0 (wr.alloc (.cells #[.int .i64 x1, .int .i64 x2] 34)) := by have := hb.size; go_grown
        go_ret
        exact ⟨ret_int HF.out.symm, nextW hB0 hB2⟩
      · have HM := Lib.hid (HN.out.more HQ.out (fun h => he h.symm))
        have hor := q_or he
        clear he
        rcases hor with e1 | ⟨e1, e2⟩
        all_goals
        go_wp2_with fail
        have hB2 : Below W0.heap.size W0 (wr.alloc (.cells #[.int .i64 a1, .int .i64 a2] 34)) := by have := hb.size; go_grown
        go_roundw
        case rel => exact ⟨k + 1, by omega, by go_num, HM.out, hB2⟩
        case measure => simp [intOf]; omega
    · obtain rfl : k = l.length := by omega
      have HF := Lib.hid HN.out.none
      go_wp2_with fail
      go_ret
      exact ⟨ret_int HF.out.symm, nextW hB0 hb⟩

/-- What has been seen up to place j: no earlier one met again. -/
theorem perFrom_step {l : List Q} {n j : Nat} {q : Q} (hq : l[j]? = some q) : perFrom l (n + 1) j = if 0 ≤ idxQ (l.take j) q then (idxQ (l.take j) q, (j : Int) - idxQ (l.take j) q, true) else perFrom l n (j + 1) := by
  rw [perFrom]
  simp only [List.getD_eq_getElem?_getD, hq, Option.getD_some]
theorem perFrom_step' {l : List Q} {j : Nat} {q : Q} (hq : l[j]? = some q) : perFrom l (l.length - j) j = if 0 ≤ idxQ (l.take j) q then (idxQ (l.take j) q, (j : Int) - idxQ (l.take j) q, true) else perFrom l (l.length - (j + 1)) (j + 1) := by
  have := (List.getElem?_eq_some_iff.1 hq).1
  rw [show l.length - j = (l.length - (j + 1)) + 1 from by omega, perFrom_step hq]
def RelPr (l : List Q) (r : Int × Int × Bool) (w : World) (i : Value) (wr : World) : Prop := ∃ j : Nat, j ≤ l.length ∧ i = .int .i64 j ∧ perFrom l (l.length - j) j = r ∧ Below w.heap.size w wr

set_option maxRecDepth 100000 in
set_option maxHeartbeats 1600000 in
theorem periodIn_is (l : List Q) (v : Value) (a b : Int) (t : Bool) (w : World) (hv : RdQ w v l) (hp : perQ l = (a, b, t)) :
    Calls Try.prog 109 #[v] w fun e w' => e = .returned (.tuple #[.int .i64 a, .int .i64 b, .bool t]) ∧ Below w.heap.size w w' := by
  have HRd := Lib.hid hv
  have HP := Lib.hid (show perFrom l (l.length - 0) 0 = (a, b, t) from hp)
  obtain ⟨A, cp, rfl, hl, hm, -⟩ := hv
  unfold maxLen at hm
  clear hp
  go_enter Try.func109, Try.ntmps109
  go_wp2_with fail
  go_loopw [10] (fun i wr => RelPr l (a, b, t) w i wr) (fun i _ => l.length - (intOf i).toNat)
  case atStart => exact ⟨0, Nat.zero_le _, rfl, HP.out, Below.refl _ _⟩
  case round =>
    obtain ⟨j, hj, rfl, hpf, hb⟩ := hrel
    have HF := Lib.hid hpf
    clear hpf
    by_cases hlt : j < l.length
    · have hq := List.getElem?_eq_getElem hlt
      generalize l[j] = q at *
      obtain ⟨q1, q2⟩ := q
      have hRd := RdQ.keep HRd.out hb
      obtain ⟨A1, c1, he, -, -, hcell⟩ := hRd
      simp only [Value.slice.injEq] at he
      obtain ⟨rfl, -, rfl⟩ := he
      obtain ⟨g1, o1, rfl, hg1, hc⟩ := hcell (by intro h; rw [h] at hq; simp at hq)
      obtain ⟨c0, c1⟩ := hc _ _ hq
      have hst := perFrom_step' hq
      have hT := RdQ.take (RdQ.keep HRd.out hb) j (by omega)
      have hbd := idxQ_bd (l.take j) (q1, q2)
      rw [HF.out] at hst
      generalize hix : idxQ (l.take j) (q1, q2) = x at *
      have hjl : (l.take j).length = j := by rw [List.length_take]; omega
      rw [hjl] at hbd
      have HX := Lib.hid hix
      have HST := Lib.hid hst
      have HT := Lib.hid hT
      clear hcell hc hq hst hix hT hjl
      have b0 : (0 : Int) ≤ (j : Int) := by omega
      have b1 : (j : Int) ≤ (cp : Int) := by omega
      have b2 : (j : Int).toNat = j := by omega
      go_wp2_with fail
      go_name_world W2 hW
      have hXW : Below wr.heap.size wr W2 := by rw [← hW]; go_grown
      have f0 : W2.cell? ⟨wr.heap.size, 0, none⟩ = some (.int .i64 q1) := by rw [← hW]; simp [go_sem]
      have f1 : W2.cell? ⟨wr.heap.size, 1, none⟩ = some (.int .i64 q2) := by rw [← hW]; simp [go_sem]
      have HT2 := Lib.hid (HT.out.keep hXW)
      replace hb := nextW hb hXW
      clear hW c0 c1
      refine wp_region_below (by kernel_rfl) (by kernel_rfl) ?_
      iterate 6 (first
        | (refine stepS rfl ?_; simp only [Act.put, List.setIfInBounds_toArray, List.set_cons_zero, List.set_cons_succ])
        | (refine stepV (v := ?_) rfl (fun W hW => ?_) ?_
           rotate_left
           focus
             have qc0 := cellB hW.out f0
             have qc1 := cellB hW.out f1
             go_simp
             try with_reducible rfl
             done
           simp only [Act.put, List.setIfInBounds_toArray, List.set_cons_zero, List.set_cons_succ])
        | (refine stepC rfl (fun W hW => ?_) (fun W hW => callB hW (by have hh := indexQ_is (l.take j) _ q1 q2 _ (HT2.out.keep hW.out); rw [HX.out] at hh; exact hh)) ?_
           focus
             go_simp
             try with_reducible rfl
             done
           simp only [Act.put, List.setIfInBounds_toArray, List.set_cons_zero, List.set_cons_succ]))
      refine stepN ?_
      intro w2 hw2
      have hB2 := nextW hb hw2.out
      clear hw2 f0 f1 b1 b2
      by_cases hx0 : 0 ≤ x
      · have E := HST.out
        rw [if_pos hx0] at E
        obtain ⟨rfl, h2⟩ := Prod.mk.inj E
        obtain ⟨rfl, rfl⟩ := Prod.mk.inj h2
        clear E h2
        go_wp2_with fail
        go_ret3
        exact ⟨rfl, hB2⟩
      · have E := HST.out
        rw [if_neg hx0] at E
        have HE := Lib.hid E.symm
        have hx1 : x < 0 := by omega
        clear E
        go_wp2_with fail
        go_roundw
        case rel => first | exact ⟨j + 1, hlt, rfl, HE.out, hB2⟩ | ((repeat apply Exists.intro); refine ⟨⟨j + 1, hlt, rfl, HE.out, hB2⟩, ?_⟩; (repeat' (first | rfl | (refine And.intro rfl ?_) | go_num)))
        case measure => simp [intOf]; omega
    · obtain rfl : j = l.length := by omega
      have E := HF.out
      rw [Nat.sub_self] at E
      simp only [perFrom] at E
      obtain ⟨rfl, h2⟩ := Prod.mk.inj E
      obtain ⟨rfl, rfl⟩ := Prod.mk.inj h2
      clear E h2
      go_wp2_with fail
      go_ret3
      exact ⟨rfl, hb⟩

def perOf (ps : List Pt) (x : Q) (k : Nat) : Int × Int × Bool := if (orbQ ps x k).length = k + 1 then perQ (orbQ ps x k) else (0, 0, false)
set_option maxRecDepth 100000 in
set_option maxHeartbeats 1600000 in
theorem orPeriod_is (ps : List Pt) (v : Value) (x1 x2 : Int) (k : Nat) (a b : Int) (t : Bool) (hp : perOf ps (x1, x2) k = (a, b, t)) (w : World) (hv : RdP w v ps) (hm : okMap ps = true) (hx : unitQ x1 x2 = true) (hk : k ≤ 60) :
    Calls Try.prog 108 #[v, .agg #[.int .i64 x1, .int .i64 x2], .int .i64 k] w fun e w' => e = .returned (.tuple #[.int .i64 a, .int .i64 b, .bool t]) ∧ Below w.heap.size w w' := by
  have HV := Lib.hid hv
  have hlen := orbQ_len ps (x1, x2) k
  by_cases hf : (orbQ ps (x1, x2) k).length = k + 1
  rotate_left
  · obtain ⟨rfl, h2⟩ : 0 = a ∧ (0, false) = (b, t) := by unfold perOf at hp; rw [if_neg hf] at hp; exact Prod.mk.inj hp
    obtain ⟨rfl, rfl⟩ := Prod.mk.inj h2
    obtain ⟨m, hmm⟩ : ∃ m, (orbQ ps (x1, x2) k).length = m := ⟨_, rfl⟩
    rw [hmm] at hlen hf
    have HMM := Lib.hid hmm
    clear hp h2 hv hmm
    go_enter Try.func108, Try.ntmps108
    go_wp2_with fail
    refine (orRun_is ps v x1 x2 k _ (HV.out.keep (by go_grown)) hm hx hk).mono ?_
    rintro e w1 ⟨r, rfl, ow, hb⟩
    have hX : Below w.heap.size w w1 := nextX (by go_grown) hb
    obtain ⟨g, cap, rfl, hc1, hc2, hg1, hg2, -⟩ := ow.lit HMM.out (by omega)
    unfold maxLen at hc2
    have b0 : (m : Int) ≤ (k : Int) := by omega
    clear ow hb
    go_wp2_with fail
    go_ret3
    exact ⟨rfl, hX⟩
  · have hp' : perQ (orbQ ps (x1, x2) k) = (a, b, t) := by unfold perOf at hp; rwa [if_pos hf] at hp
    have HOR := Lib.hid (orRun_is ps v x1 x2 k)
    have HMH := Lib.hid (And.intro hm hx)
    generalize orbQ ps (x1, x2) k = l at *
    have HP := Lib.hid (show perFrom l (l.length - 0) 0 = (a, b, t) from hp')
    have HF0 := Lib.hid hf
    clear hp hp' hv hm hx
    go_enter Try.func108, Try.ntmps108
    go_wp2_with fail
    refine (HOR.out _ (HV.out.keep (by go_grown)) HMH.out.1 HMH.out.2 hk).mono ?_
    rintro e w1 ⟨r, rfl, ow, hb⟩
    have hX : Below w.heap.size w w1 := nextX (by go_grown) hb
    obtain ⟨A, cp, rfl, hl, hm⟩ := ownsRow_slice ow
    unfold maxLen at hm
    have HRd := Lib.hid ow.read
    have b0 : (k : Int) < (l.length : Int) := by omega
    clear ow hb hf hlen
    go_wp2_with fail
    go_loopw [23] (fun i wr => RelPr l (a, b, t) w1 i wr) (fun i _ => l.length - (intOf i).toNat)
    case atStart => exact ⟨0, Nat.zero_le _, rfl, HP.out, Below.refl _ _⟩
    case round =>
      obtain ⟨j, hj, rfl, hpf, hb⟩ := hrel
      have HF := Lib.hid hpf
      clear hpf
      by_cases hlt : j < l.length
      · have hq := List.getElem?_eq_getElem hlt
        generalize l[j] = q at *
        obtain ⟨q1, q2⟩ := q
        have hRd := RdQ.keep HRd.out hb
        obtain ⟨A1, c1, he, -, -, hcell⟩ := hRd
        simp only [Value.slice.injEq] at he
        obtain ⟨rfl, -, rfl⟩ := he
        obtain ⟨g1, o1, rfl, hg1, hc⟩ := hcell (by intro h; rw [h] at hq; simp at hq)
        obtain ⟨c0, c1⟩ := hc _ _ hq
        have hst := perFrom_step' hq
        have hT := RdQ.take (RdQ.keep HRd.out hb) j (by omega)
        have hbd := idxQ_bd (l.take j) (q1, q2)
        rw [HF.out] at hst
        generalize hix : idxQ (l.take j) (q1, q2) = x at *
        have hjl : (l.take j).length = j := by rw [List.length_take]; omega
        rw [hjl] at hbd
        have HX := Lib.hid hix
        have HST := Lib.hid hst
        have HT := Lib.hid hT
        clear hcell hc hq hst hix hT hjl
        have b0 : (0 : Int) ≤ (j : Int) := by omega
        have b1 : (j : Int) ≤ (cp : Int) := by omega
        have b2 : (j : Int).toNat = j := by omega
        go_wp2_with fail
        go_name_world W2 hW
        have hXW : Below wr.heap.size wr W2 := by rw [← hW]; go_grown
        have f0 : W2.cell? ⟨wr.heap.size, 0, none⟩ = some (.int .i64 q1) := by rw [← hW]; simp [go_sem]
        have f1 : W2.cell? ⟨wr.heap.size, 1, none⟩ = some (.int .i64 q2) := by rw [← hW]; simp [go_sem]
        have HT2 := Lib.hid (HT.out.keep hXW)
        replace hb := nextW hb hXW
        clear hW c0 c1
        refine wp_region_below (by kernel_rfl) (by kernel_rfl) ?_
        iterate 6 (first
          | (refine stepS rfl ?_; simp only [Act.put, List.setIfInBounds_toArray, List.set_cons_zero, List.set_cons_succ])
          | (refine stepV (v := ?_) rfl (fun W hW => ?_) ?_
             rotate_left
             focus
               have qc0 := cellB hW.out f0
               have qc1 := cellB hW.out f1
               go_simp
               try with_reducible rfl
               done
             simp only [Act.put, List.setIfInBounds_toArray, List.set_cons_zero, List.set_cons_succ])
          | (refine stepC rfl (fun W hW => ?_) (fun W hW => callB hW (by have hh := orAt_is (l.take j) _ q1 q2 _ (HT2.out.keep hW.out); rw [HX.out] at hh; exact hh)) ?_
             focus
               go_simp
               try with_reducible rfl
               done
             simp only [Act.put, List.setIfInBounds_toArray, List.set_cons_zero, List.set_cons_succ]))
        refine stepN ?_
        intro w2 hw2
        have hB2 := nextW hb hw2.out
        clear hw2 f0 f1 b1 b2
        by_cases hx0 : 0 ≤ x
        · have E := HST.out
          rw [if_pos hx0] at E
          obtain ⟨rfl, h2⟩ := Prod.mk.inj E
          obtain ⟨rfl, rfl⟩ := Prod.mk.inj h2
          clear E h2
          go_wp2_with fail
          go_ret3
          exact ⟨rfl, nextW hX hB2⟩
        · have E := HST.out
          rw [if_neg hx0] at E
          have HE := Lib.hid E.symm
          have hx1 : x < 0 := by omega
          clear E
          go_wp2_with fail
          go_roundw
          case rel => first | exact ⟨j + 1, hlt, rfl, HE.out, hB2⟩ | ((repeat apply Exists.intro); refine ⟨⟨j + 1, hlt, rfl, HE.out, hB2⟩, ?_⟩; (repeat' (first | rfl | (refine And.intro rfl ?_) | go_num)))
          case measure => simp [intOf]; omega
      · obtain rfl : j = l.length := by omega
        have E := HF.out
        rw [Nat.sub_self] at E
        simp only [perFrom] at E
        obtain ⟨rfl, h2⟩ := Prod.mk.inj E
        obtain ⟨rfl, rfl⟩ := Prod.mk.inj h2
        clear E h2
        go_wp2_with fail
        go_ret3
        exact ⟨rfl, nextW hX hb⟩

end Go.Proofs.Ytkdhhopfefhdjaa
