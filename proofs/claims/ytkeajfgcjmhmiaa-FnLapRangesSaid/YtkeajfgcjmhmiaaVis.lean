/- areUnits, imTwo; VisitsOf of both. -/
import Derived.Test.YtkeajfgcjmhmiaaSlopes
import Derived.Test.YtkeajfgcjmhmiaaMarks
import Derived.Carry
namespace Go.Proofs.Ytkeajfgcjmhmiaa
open Go.RowKit

open Go.ChangeShapes Go.WideShapes Go.ChangeAt Go.Joins in
theorem trodAll_five {H : Type} {enc : TypeId × Value → H} {P : Program} {w : World} {base : Nat} {spare : Nat → Bool} {held : Bool} {t t' t'' t3 t4 : TypeId} {args : Array Value} {ds : List (DataW H)} {ps : List MemPlace} (h : DataW.TrodAll enc P w base spare held [t, t', t'', t3, t4] args.toList ds ps) :
    ∃ v v' v'' v3 v4 d d' d'' d3 d4 p p' p'' p3 p4, args = #[v, v', v'', v3, v4] ∧ ds = [d, d', d'', d3, d4] ∧ ps = p ++ p' ++ p'' ++ p3 ++ p4 ∧ DataW.Trod enc P w base spare held t v d p ∧ DataW.Trod enc P w base spare held t' v' d' p' ∧ DataW.Trod enc P w base spare held t'' v'' d'' p'' ∧ DataW.Trod enc P w base spare held t3 v3 d3 p3 ∧ DataW.Trod enc P w base spare held t4 v4 d4 p4 := by
  obtain ⟨v, vs, d, ds', p, q, hargs, rfl, rfl, hd, hrest⟩ := trodAll_cons h
  obtain ⟨v', vs', d', ds'', p', q', rfl, rfl, rfl, hd', hrest'⟩ := trodAll_cons hrest
  obtain ⟨v'', vs'', d'', dsx, p'', q'', rfl, rfl, rfl, hd'', hrest''⟩ := trodAll_cons hrest'
  obtain ⟨v3, vs3, d3, ds3, p3, q3, rfl, rfl, rfl, hd3, hrest3⟩ := trodAll_cons hrest''
  obtain ⟨v4, vs4, d4, ds4, p4, q4, rfl, rfl, rfl, hd4, hrest4⟩ := trodAll_cons hrest3
  obtain ⟨rfl, rfl, rfl⟩ := trodAll_nil hrest4
  exact ⟨v, v', v'', v3, v4, d, d', d'', d3, d4, p, p', p'', p3, p4, by cases args; simp_all, rfl, by simp, hd, hd', hd'', hd3, hd4⟩

def badU (q : Q) : Bool := !unitQ q.1 q.2
def IndexEnd (qs : List Q) (w : World) (e : Ending) (w' : World) : Prop := ∃ j : Int, e = .returned (.int .i64 j) ∧ decide (0 ≤ j) = qs.any badU ∧ Below w.heap.size w w'
def RelU (qs : List Q) (w : World) (i : Value) (wr : World) : Prop := ∃ k : Nat, k ≤ qs.length ∧ i = .int .i64 k ∧ (∀ i q, i < k → qs[i]? = some q → badU q = false) ∧ Below w.heap.size w wr

set_option maxHeartbeats 400000 in
theorem unitF (n d : Int) (w : World) :
    Calls Try.prog 63 #[.agg #[.int .i64 n, .int .i64 d]] w fun e w' => e = .returned (.bool (badU (n, d))) ∧ Below w.heap.size w w' := by
  go_enter Try.func63, Try.ntmps63
  go_wp2_with fail
  refine (isUnit_any n d _).mono ?_
  rintro e w1 ⟨rfl, hb⟩
  have hX : Below w.heap.size w w1 := nextX (by go_grown) hb
  have HX := Lib.hid (show (!unitQ n d) = badU (n, d) from rfl)
  generalize unitQ n d = x at *
  go_wp2_with fail
  go_ret
  exact ⟨ret_bool HX.out, hX⟩

set_option maxHeartbeats 800000 in
theorem indexUnits (qs : List Q) (v : Value) (w : World) (hv : RdQ w v qs) :
    Calls Try.prog 82 #[v, .func (.func 63) #[] #[]] w (IndexEnd qs w) := by
  obtain ⟨A, c, rfl, hl, hm, hcell⟩ := hv
  unfold maxLen at hm
  have HC := Lib.hid hcell
  clear hcell
  go_enter Try.func82, Try.ntmps82
  go_wp2_with fail
  go_loopw [8] (fun i wr => RelU qs w i wr) (fun i _ => qs.length - (intOf i).toNat)
  case atStart => exact ⟨0, Nat.zero_le _, rfl, (fun i q h => by omega), Below.refl _ _⟩
  case round =>
    obtain ⟨k, hk, rfl, hno, hb⟩ := hrel
    have HN := Lib.hid hno
    clear hno
    by_cases hlt : k < qs.length
    · obtain ⟨g, o, rfl, hg, hc⟩ := HC.out (by intro h; rw [h] at hlt; simp at hlt)
      have hq := List.getElem?_eq_getElem hlt
      generalize qs[k] = q at *
      obtain ⟨a1, a2⟩ := q
      obtain ⟨c0, c1⟩ := hc _ _ hq
      rw [← hb.cell (p := ⟨g, _, none⟩) hg] at c0 c1
      clear hc HC
      have HQ := Lib.hid hq
      clear hq
      rcases hbb : badU (a1, a2) with _ | _
      all_goals
        have HB := Lib.hid hbb
        clear hbb
        go_wp2_with fail
        refine (unitF a1 a2 _).mono ?_
        rintro e w1 ⟨he, hb1⟩
        rw [HB.out] at he
        subst he
        have hB := nextX hb hb1
        clear hb1 c0 c1
        go_wp2_with fail
      · go_roundw
        case rel =>
          refine ⟨k + 1, by omega, by go_num, ?_, hB⟩
          intro i q hi hq
          by_cases e : i = k
          · subst e; rw [HQ.out] at hq; cases hq; exact HB.out
          · exact HN.out i q (by omega) hq
        case measure => simp [intOf]; omega
      · have HI := Lib.hid (show qs.any badU = true from List.any_eq_true.2 ⟨_, List.mem_of_getElem? HQ.out, HB.out⟩)
        go_ret
        exact ⟨_, rfl, by rw [HI.out]; simp, hB⟩
    · obtain rfl : k = qs.length := by omega
      have HI := Lib.hid (show qs.any badU = false by
        rw [List.any_eq_false]
        intro q hq
        obtain ⟨i, hi, rfl⟩ := List.getElem_of_mem hq
        rw [HN.out i _ hi (List.getElem?_eq_getElem hi)]; decide)
      go_wp2_with fail
      go_ret
      exact ⟨_, rfl, by rw [HI.out]; decide, hb⟩

theorem any_bad_units (qs : List Q) : (!qs.any badU) = qs.all (fun q => unitQ q.1 q.2) := by
  induction qs with
  | nil => rfl
  | cons q r ih => rw [List.any_cons, List.all_cons, ← ih, badU, Bool.not_or, Bool.not_not]

theorem areUnits_is (qs : List Q) (v : Value) (t : Bool) (w : World) (hv : RdQ w v qs) (ht : qs.all (fun q => unitQ q.1 q.2) = t) :
    Calls Try.prog 31 #[v] w fun e w' => e = .returned (.bool t) ∧ Below w.heap.size w w' := by
  have HV := Lib.hid hv
  have HT := Lib.hid ((any_bad_units qs).trans ht)
  clear hv ht
  have h1 : Calls Try.prog 62 #[v, .func (.func 63) #[] #[]] w fun e w' => e = .returned (.bool (qs.any badU)) ∧ Below w.heap.size w w' := by
    go_enter Try.func62, Try.ntmps62
    go_wp2_with fail
    refine (indexUnits qs v _ HV.out).mono ?_
    rintro e w1 ⟨j, rfl, hj, hb⟩
    have HJ := Lib.hid hj
    clear hj
    go_wp2_with fail
    go_ret
    exact ⟨ret_bool HJ.out, hb⟩
  go_enter Try.func31, Try.ntmps31
  go_wp2_with fail
  refine h1.mono ?_
  rintro e w1 ⟨rfl, hb⟩
  generalize qs.any badU = x at *
  clear h1
  go_wp2_with fail
  go_ret
  exact ⟨ret_bool HT.out, hb⟩

def okAB (a b : Q) : Bool := unitQ a.1 a.2 && (unitQ b.1 b.2 && !lessQ b.1 b.2 a.1 a.2)
theorem okAB_parts {a b : Q} (h : okAB a b = true) : unitQ a.1 a.2 = true ∧ unitQ b.1 b.2 = true ∧ lessQ b.1 b.2 a.1 a.2 = false := by
  unfold okAB at h; simp only [Bool.and_eq_true, Bool.not_eq_true'] at h; exact h
theorem cmp_le {n1 d1 n2 d2 : Int} : decide (cmpQ n1 d1 n2 d2 ≤ 0) = !lessQ n2 d2 n1 d1 := by
  rw [lessQ_cmp, cmpQ_swap n1 d1 n2 d2]
  by_cases h : cmpQ n1 d1 n2 d2 ≤ 0
  · simp [h]
  · simp [h]; omega
def visN (l : List Q) (a b : Q) : Nat := l.countP (fun y => !lessQ y.1 y.2 a.1 a.2 && !lessQ b.1 b.2 y.1 y.2)
theorem visN_snoc {l : List Q} {j : Nat} {q : Q} {a b : Q} (h : l[j]? = some q) : visN (l.take (j + 1)) a b = visN (l.take j) a b + (if (!lessQ q.1 q.2 a.1 a.2 && !lessQ b.1 b.2 q.1 q.2) = true then 1 else 0) := by
  unfold visN
  rw [take_snoc_get h, List.countP_append, List.countP_singleton]
theorem visN_le (l : List Q) (a b : Q) (j : Nat) : visN (l.take j) a b ≤ j := by
  unfold visN
  have := List.countP_le_length (p := fun y : Q => !lessQ y.1 y.2 a.1 a.2 && !lessQ b.1 b.2 y.1 y.2) (l := l.take j)
  rw [List.length_take] at this
  omega
def visQ (ps : List Pt) (x : Q) (n : Int) (a b : Q) : Int × Bool := if okAB a b = true then ((visN (orbOf ps x n).1 a b : Int), (orbOf ps x n).2) else (0, false)
def RelVis (l : List Q) (a b : Q) (W0 : World) (m i : Value) (wr : World) : Prop := ∃ j : Nat, j ≤ l.length ∧ i = .int .i64 j ∧ m = .int .i64 (visN (l.take j) a b : Nat) ∧ Below W0.heap.size W0 wr

set_option maxHeartbeats 800000 in
theorem imTwo_is (ps : List Pt) (v : Value) (a1 a2 b1 b2 : Int) (t : Bool) (w : World) (hv : RdP w v ps) (hn : ps.length ≤ 1048576) (ht : (okMap ps && okAB (a1, a2) (b1, b2)) = t) :
    Calls Try.prog 34 #[v, .agg #[.int .i64 a1, .int .i64 a2], .agg #[.int .i64 b1, .int .i64 b2]] w fun e w' => e = .returned (.bool t) ∧ Below w.heap.size w w' := by
  have HV := Lib.hid hv
  rcases hm : okMap ps with _ | _
  · obtain rfl : false = t := by rw [← ht, hm]; rfl
    have HM := Lib.hid hm
    clear hv ht hm
    go_enter Try.func34, Try.ntmps34
    go_wp2_with fail
    refine (imGood_is ps v false _ (HV.out.keep (by go_grown)) hn HM.out).mono ?_
    rintro e w1 ⟨rfl, hb⟩
    have hX : Below w.heap.size w w1 := nextX (by go_grown) hb
    have b00 : w1.cell? ⟨w.heap.size, 0, none⟩ = some (.int .i64 a1) := cellB hb (by simp [go_sem])
    have b01 : w1.cell? ⟨w.heap.size, 1, none⟩ = some (.int .i64 a2) := cellB hb (by simp [go_sem])
    have b10 : w1.cell? ⟨w.heap.size + 1, 0, none⟩ = some (.int .i64 b1) := cellB hb (by simp [go_sem])
    have b11 : w1.cell? ⟨w.heap.size + 1, 1, none⟩ = some (.int .i64 b2) := cellB hb (by simp [go_sem])
    have zb00 := lt_of_cell b00
    have zb10 := lt_of_cell b10
    have hB : Below w.heap.size w w1 := hX
    clear hb hX
    go_wp2_with fail
    go_ret
    exact ⟨rfl, hB⟩
  · rw [hm, Bool.true_and] at ht
    have HM := Lib.hid hm
    unfold okAB at ht
    simp only at ht
    rcases ha : unitQ a1 a2 with _ | _
    · obtain rfl : false = t := by rw [← ht, ha]; rfl
      have HA := Lib.hid ha
      clear hv ht hm ha
      go_enter Try.func34, Try.ntmps34
      go_wp2_with fail
      refine (imGood_is ps v true _ (HV.out.keep (by go_grown)) hn HM.out).mono ?_
      rintro e w1 ⟨rfl, hb⟩
      have hX : Below w.heap.size w w1 := nextX (by go_grown) hb
      have b00 : w1.cell? ⟨w.heap.size, 0, none⟩ = some (.int .i64 a1) := cellB hb (by simp [go_sem])
      have b01 : w1.cell? ⟨w.heap.size, 1, none⟩ = some (.int .i64 a2) := cellB hb (by simp [go_sem])
      have b10 : w1.cell? ⟨w.heap.size + 1, 0, none⟩ = some (.int .i64 b1) := cellB hb (by simp [go_sem])
      have b11 : w1.cell? ⟨w.heap.size + 1, 1, none⟩ = some (.int .i64 b2) := cellB hb (by simp [go_sem])
      have zb00 := lt_of_cell b00
      have zb10 := lt_of_cell b10
      have hB : Below w.heap.size w w1 := hX
      clear hb hX
      go_wp2_with fail
      refine (raUnit_any a1 a2 _).mono ?_
      rintro e w2 ⟨he, hb⟩
      rw [HA.out] at he
      subst he
      have hX : Below w1.heap.size w1 w2 := nextX (by go_grown) hb
      replace b00 := cellB hX b00
      replace b01 := cellB hX b01
      replace b10 := cellB hX b10
      replace b11 := cellB hX b11
      have zb00 := Nat.lt_of_lt_of_le zb00 hX.size
      have zb10 := Nat.lt_of_lt_of_le zb10 hX.size
      replace hB := nextW hB hX
      clear hb hX
      go_wp2_with fail
      go_ret
      exact ⟨rfl, hB⟩
    · rw [ha, Bool.true_and] at ht
      have HA := Lib.hid ha
      rcases hbb : unitQ b1 b2 with _ | _
      · obtain rfl : false = t := by rw [← ht, hbb]; rfl
        have HB := Lib.hid hbb
        clear hv ht hm ha hbb
        go_enter Try.func34, Try.ntmps34
        go_wp2_with fail
        refine (imGood_is ps v true _ (HV.out.keep (by go_grown)) hn HM.out).mono ?_
        rintro e w1 ⟨rfl, hb⟩
        have hX : Below w.heap.size w w1 := nextX (by go_grown) hb
        have b00 : w1.cell? ⟨w.heap.size, 0, none⟩ = some (.int .i64 a1) := cellB hb (by simp [go_sem])
        have b01 : w1.cell? ⟨w.heap.size, 1, none⟩ = some (.int .i64 a2) := cellB hb (by simp [go_sem])
        have b10 : w1.cell? ⟨w.heap.size + 1, 0, none⟩ = some (.int .i64 b1) := cellB hb (by simp [go_sem])
        have b11 : w1.cell? ⟨w.heap.size + 1, 1, none⟩ = some (.int .i64 b2) := cellB hb (by simp [go_sem])
        have zb00 := lt_of_cell b00
        have zb10 := lt_of_cell b10
        have hB : Below w.heap.size w w1 := hX
        clear hb hX
        go_wp2_with fail
        refine (raUnit_any a1 a2 _).mono ?_
        rintro e w2 ⟨he, hb⟩
        rw [HA.out] at he
        subst he
        have hX : Below w1.heap.size w1 w2 := nextX (by go_grown) hb
        replace b00 := cellB hX b00
        replace b01 := cellB hX b01
        replace b10 := cellB hX b10
        replace b11 := cellB hX b11
        have zb00 := Nat.lt_of_lt_of_le zb00 hX.size
        have zb10 := Nat.lt_of_lt_of_le zb10 hX.size
        replace hB := nextW hB hX
        clear hb hX
        go_wp2_with fail
        refine (raUnit_any b1 b2 _).mono ?_
        rintro e w3 ⟨he, hb⟩
        rw [HB.out] at he
        subst he
        have hX : Below w2.heap.size w2 w3 := nextX (by go_grown) hb
        replace b00 := cellB hX b00
        replace b01 := cellB hX b01
        replace b10 := cellB hX b10
        replace b11 := cellB hX b11
        have zb00 := Nat.lt_of_lt_of_le zb00 hX.size
        have zb10 := Nat.lt_of_lt_of_le zb10 hX.size
        replace hB := nextW hB hX
        clear hb hX
        go_wp2_with fail
        go_ret
        exact ⟨rfl, hB⟩
      · rw [hbb, Bool.true_and, ← cmp_le] at ht
        have HB := Lib.hid hbb
        have sa := Sm.of_ok (unitQ_ok ha)
        have sb := Sm.of_ok (unitQ_ok hbb)
        obtain ⟨x, hx⟩ : ∃ x, cmpQ a1 a2 b1 b2 = x := ⟨_, rfl⟩
        rw [hx] at ht
        have HX := Lib.hid hx
        have HT := Lib.hid ht
        clear hv ht hm ha hbb hx
        go_enter Try.func34, Try.ntmps34
        go_wp2_with fail
        refine (imGood_is ps v true _ (HV.out.keep (by go_grown)) hn HM.out).mono ?_
        rintro e w1 ⟨rfl, hb⟩
        have hX : Below w.heap.size w w1 := nextX (by go_grown) hb
        have b00 : w1.cell? ⟨w.heap.size, 0, none⟩ = some (.int .i64 a1) := cellB hb (by simp [go_sem])
        have b01 : w1.cell? ⟨w.heap.size, 1, none⟩ = some (.int .i64 a2) := cellB hb (by simp [go_sem])
        have b10 : w1.cell? ⟨w.heap.size + 1, 0, none⟩ = some (.int .i64 b1) := cellB hb (by simp [go_sem])
        have b11 : w1.cell? ⟨w.heap.size + 1, 1, none⟩ = some (.int .i64 b2) := cellB hb (by simp [go_sem])
        have zb00 := lt_of_cell b00
        have zb10 := lt_of_cell b10
        have hB : Below w.heap.size w w1 := hX
        clear hb hX
        go_wp2_with fail
        refine (raUnit_any a1 a2 _).mono ?_
        rintro e w2 ⟨he, hb⟩
        rw [HA.out] at he
        subst he
        have hX : Below w1.heap.size w1 w2 := nextX (by go_grown) hb
        replace b00 := cellB hX b00
        replace b01 := cellB hX b01
        replace b10 := cellB hX b10
        replace b11 := cellB hX b11
        have zb00 := Nat.lt_of_lt_of_le zb00 hX.size
        have zb10 := Nat.lt_of_lt_of_le zb10 hX.size
        replace hB := nextW hB hX
        clear hb hX
        go_wp2_with fail
        refine (raUnit_any b1 b2 _).mono ?_
        rintro e w3 ⟨he, hb⟩
        rw [HB.out] at he
        subst he
        have hX : Below w2.heap.size w2 w3 := nextX (by go_grown) hb
        replace b00 := cellB hX b00
        replace b01 := cellB hX b01
        replace b10 := cellB hX b10
        replace b11 := cellB hX b11
        have zb00 := Nat.lt_of_lt_of_le zb00 hX.size
        have zb10 := Nat.lt_of_lt_of_le zb10 hX.size
        replace hB := nextW hB hX
        clear hb hX
        go_wp2_with fail
        refine (raCmp_is a1 a2 b1 b2 x sa sb HX.out _).mono ?_
        rintro e w4 ⟨rfl, hb⟩
        have hX : Below w3.heap.size w3 w4 := nextX (by go_grown) hb
        replace b00 := cellB hX b00
        replace b01 := cellB hX b01
        replace b10 := cellB hX b10
        replace b11 := cellB hX b11
        have zb00 := Nat.lt_of_lt_of_le zb00 hX.size
        have zb10 := Nat.lt_of_lt_of_le zb10 hX.size
        replace hB := nextW hB hX
        clear hb hX
        go_wp2_with fail
        go_ret
        exact ⟨ret_bool HT.out, hB⟩

end Go.Proofs.Ytkeajfgcjmhmiaa
