/- areUnits, imTwo; VisitsOf of both. -/
import Derived.Test.YtkeajfgcjmhmiaaGreatSlopes
import Derived.Test.YtkeajfgcjmhmiaaGreatMarks
import Derived.Carry
namespace Go.Proofs.YtkeajfgcjmhmiaaGreat
open Go.RowKit

open Go.ChangeShapes Go.WideShapes Go.ChangeAt Go.Joins in
theorem trodAll_five {H : Type} {enc : TypeId × Value → H} {P : Program} {w : World} {base : Nat} {spare : Nat → Bool} {held : Bool} {t t' t'' t3 t4 : TypeId} {args : Array Value} {ds : List (DataW H)} {ps : List MemPlace} (h : DataW.TrodAll enc P w base spare held [t, t', t'', t3, t4] args.toList ds ps) :
    ∃ v v' v'' v3 v4 d d' d'' d3 d4 p p' p'' p3 p4, args = #[v, v', v'', v3, v4] ∧ ds = [d, d', d'', d3, d4] ∧ ps = p ++ p' ++ p'' ++ p3 ++ p4 ∧ DataW.Trod enc P w base spare held t v d p ∧ DataW.Trod enc P w base spare held t' v' d' p' ∧ DataW.Trod enc P w base spare held t'' v'' d'' p'' ∧ DataW.Trod enc P w base spare held t3 v3 d3 p3 ∧ DataW.Trod enc P w base spare held t4 v4 d4 p4 := by
  obtain ⟨v, vs, d, ds', p, q, hargs, rfl, rfl, hd, hrest⟩ := trodAll_cons h
  obtain ⟨v', vs', d', ds'', p', q', rfl, rfl, rfl, hd', hrest'⟩ := trodAll_cons hrest
  obtain ⟨v'', vs'', d'', dsx, p'', q'', rfl, rfl, rfl, hd'', hrest''⟩ := trodAll_cons hrest'
  obtain ⟨v3, vs3, d3, ds3, p3, q3, rfl, rfl, rfl, hd3, hrest3⟩ := trodAll_cons hrest''
  obtain ⟨v4, vs4, d4, ds4, p4, q4, rfl, rfl, rfl, hd4, hrest4⟩ := trodAll_cons hrest3
  obtain ⟨rfl, rfl, rfl⟩ := trodAll_nil hrest4
  exact ⟨v, v', v'', v3, v4, d, d', d'', d3, d4, p, p', p'', p3, p4, by cases args; simp_all, rfl, by simp, hd, hd', hd'', hd3, hd4⟩

def badU (q : Q) : Bool := !unitQ q.1 q.2
def IndexEnd (qs : List Q) (w : World) (e : Ending) (w' : World) : Prop := ∃ j : Int, e = .returned (.int .i64 j) ∧ decide (0 ≤ j) = qs.any badU ∧ Below w.heap.size w w'
def RelU (qs : List Q) (w : World) (i : Value) (wr : World) : Prop := ∃ k : Nat, k ≤ qs.length ∧ i = .int .i64 k ∧ (∀ i q, i < k → qs[i]? = some q → badU q = false) ∧ Below w.heap.size w wr

set_option maxHeartbeats 400000 in
theorem unitF (n d : Int) (w : World) :
    Calls Tryz.prog 159 #[.agg #[.int .i64 n, .int .i64 d]] w fun e w' => e = .returned (.bool (badU (n, d))) ∧ Below w.heap.size w w' := by
  go_enter Tryz.func159, Tryz.ntmps159
  go_wp2_with fail
  refine (isUnit_any n d _).mono ?_
  rintro e w1 ⟨rfl, hb⟩
  have hX : Below w.heap.size w w1 := nextX (by go_grown) hb
  have HX := Lib.hid (show (!unitQ n d) = badU (n, d) from rfl)
  generalize unitQ n d = x at *
  go_wp2_with fail
  go_ret
  exact ⟨ret_bool HX.out, hX⟩

set_option maxHeartbeats 800000 in
theorem indexUnits (qs : List Q) (v : Value) (w : World) (hv : RdQ w v qs) :
    Calls Tryz.prog 183 #[v, .func (.func 159) #[] #[]] w (IndexEnd qs w) := by
  obtain ⟨A, c, rfl, hl, hm, hcell⟩ := hv
  unfold maxLen at hm
  have HC := Lib.hid hcell
  clear hcell
  go_enter Tryz.func183, Tryz.ntmps183
  go_wp2_with fail
  go_loopw [8] (fun i wr => RelU qs w i wr) (fun i _ => qs.length - (intOf i).toNat)
  case atStart => exact ⟨0, Nat.zero_le _, rfl, (fun i q h => by omega), Below.refl _ _⟩
  case round =>
    obtain ⟨k, hk, rfl, hno, hb⟩ := hrel
    have HN := Lib.hid hno
    clear hno
    by_cases hlt : k < qs.length
    · obtain ⟨g, o, rfl, hg, hc⟩ := HC.out (by intro h; rw [h] at hlt; simp at hlt)
      have hq := List.getElem?_eq_getElem hlt
      generalize qs[k] = q at *
      obtain ⟨a1, a2⟩ := q
      obtain ⟨c0, c1⟩ := hc _ _ hq
      rw [← hb.cell (p := ⟨g, _, none⟩) hg] at c0 c1
      clear hc HC
      have HQ := Lib.hid hq
      clear hq
      rcases hbb : badU (a1, a2) with _ | _
      all_goals
        have HB := Lib.hid hbb
        clear hbb
        go_wp2_with fail
        refine (unitF a1 a2 _).mono ?_
        rintro e w1 ⟨he, hb1⟩
        rw [HB.out] at he
        subst he
        have hB := nextX hb hb1
        clear hb1 c0 c1
        go_wp2_with fail
      · go_roundw
        case rel =>
          refine ⟨k + 1, by omega, by go_num, ?_, hB⟩
          intro i q hi hq
          by_cases e : i = k
          · subst e; rw [HQ.out] at hq; cases hq; exact HB.out
          · exact HN.out i q (by omega) hq
        case measure => simp [intOf]; omega
      · have HI := Lib.hid (show qs.any badU = true from List.any_eq_true.2 ⟨_, List.mem_of_getElem? HQ.out, HB.out⟩)
        go_ret
        exact ⟨_, rfl, by rw [HI.out]; simp, hB⟩
    · obtain rfl : k = qs.length := by omega
      have HI := Lib.hid (show qs.any badU = false by
        rw [List.any_eq_false]
        intro q hq
        obtain ⟨i, hi, rfl⟩ := List.getElem_of_mem hq
        rw [HN.out i _ hi (List.getElem?_eq_getElem hi)]; decide)
      go_wp2_with fail
      go_ret
      exact ⟨_, rfl, by rw [HI.out]; decide, hb⟩

theorem any_bad_units (qs : List Q) : (!qs.any badU) = qs.all (fun q => unitQ q.1 q.2) := by
  induction qs with
  | nil => rfl
  | cons q r ih => rw [List.any_cons, List.all_cons, ← ih, badU, Bool.not_or, Bool.not_not]

theorem areUnits_is (qs : List Q) (v : Value) (t : Bool) (w : World) (hv : RdQ w v qs) (ht : qs.all (fun q => unitQ q.1 q.2) = t) :
    Calls Tryz.prog 99 #[v] w fun e w' => e = .returned (.bool t) ∧ Below w.heap.size w w' := by
  have HV := Lib.hid hv
  have HT := Lib.hid ((any_bad_units qs).trans ht)
  clear hv ht
  have h1 : Calls Tryz.prog 158 #[v, .func (.func 159) #[] #[]] w fun e w' => e = .returned (.bool (qs.any badU)) ∧ Below w.heap.size w w' := by
    go_enter Tryz.func158, Tryz.ntmps158
    go_wp2_with fail
    refine (indexUnits qs v _ HV.out).mono ?_
    rintro e w1 ⟨j, rfl, hj, hb⟩
    have HJ := Lib.hid hj
    clear hj
    go_wp2_with fail
    go_ret
    exact ⟨ret_bool HJ.out, hb⟩
  go_enter Tryz.func99, Tryz.ntmps99
  go_wp2_with fail
  refine h1.mono ?_
  rintro e w1 ⟨rfl, hb⟩
  generalize qs.any badU = x at *
  clear h1
  go_wp2_with fail
  go_ret
  exact ⟨ret_bool HT.out, hb⟩

def okAB (a b : Q) : Bool := unitQ a.1 a.2 && (unitQ b.1 b.2 && !lessQ b.1 b.2 a.1 a.2)
theorem okAB_parts {a b : Q} (h : okAB a b = true) : unitQ a.1 a.2 = true ∧ unitQ b.1 b.2 = true ∧ lessQ b.1 b.2 a.1 a.2 = false := by
  unfold okAB at h; simp only [Bool.and_eq_true, Bool.not_eq_true'] at h; exact h
theorem cmp_le {n1 d1 n2 d2 : Int} : decide (cmpQ n1 d1 n2 d2 ≤ 0) = !lessQ n2 d2 n1 d1 := by
  rw [lessQ_cmp, cmpQ_swap n1 d1 n2 d2]
  by_cases h : cmpQ n1 d1 n2 d2 ≤ 0
  · simp [h]
  · simp [h]; omega
def visN (l : List Q) (a b : Q) : Nat := l.countP (fun y => !lessQ y.1 y.2 a.1 a.2 && !lessQ b.1 b.2 y.1 y.2)
theorem visN_snoc {l : List Q} {j : Nat} {q : Q} {a b : Q} (h : l[j]? = some q) : visN (l.take (j + 1)) a b = visN (l.take j) a b + (if (!lessQ q.1 q.2 a.1 a.2 && !lessQ b.1 b.2 q.1 q.2) = true then 1 else 0) := by
  unfold visN
  rw [take_snoc_get h, List.countP_append, List.countP_singleton]
theorem visN_le (l : List Q) (a b : Q) (j : Nat) : visN (l.take j) a b ≤ j := by
  unfold visN
  have := List.countP_le_length (p := fun y : Q => !lessQ y.1 y.2 a.1 a.2 && !lessQ b.1 b.2 y.1 y.2) (l := l.take j)
  rw [List.length_take] at this
  omega
def visQ (ps : List Pt) (x : Q) (n : Int) (a b : Q) : Int × Bool := if okAB a b = true then ((visN (orbOf ps x n).1 a b : Int), (orbOf ps x n).2) else (0, false)
def RelVis (l : List Q) (a b : Q) (W0 : World) (m i : Value) (wr : World) : Prop := ∃ j : Nat, j ≤ l.length ∧ i = .int .i64 j ∧ m = .int .i64 (visN (l.take j) a b : Nat) ∧ Below W0.heap.size W0 wr

set_option maxHeartbeats 800000 in
theorem imTwo_is (ps : List Pt) (v : Value) (a1 a2 b1 b2 : Int) (t : Bool) (w : World) (hv : RdP w v ps) (hn : ps.length ≤ 1048576) (ht : (okMap ps && okAB (a1, a2) (b1, b2)) = t) :
    Calls Tryz.prog 128 #[v, .agg #[.int .i64 a1, .int .i64 a2], .agg #[.int .i64 b1, .int .i64 b2]] w fun e w' => e = .returned (.bool t) ∧ Below w.heap.size w w' := by
  have HV := Lib.hid hv
  rcases hm : okMap ps with _ | _
  · obtain rfl : false = t := by rw [← ht, hm]; rfl
    have HM := Lib.hid hm
    clear hv ht hm
    go_enter Tryz.func128, Tryz.ntmps128
    go_wp2_with fail
    refine (imGood_is ps v false _ (HV.out.keep (by go_grown)) hn HM.out).mono ?_
    rintro e w1 ⟨rfl, hb⟩
    have hX : Below w.heap.size w w1 := nextX (by go_grown) hb
    have b00 : w1.cell? ⟨w.heap.size, 0, none⟩ = some (.int .i64 a1) := cellB hb (by simp [go_sem])
    have b01 : w1.cell? ⟨w.heap.size, 1, none⟩ = some (.int .i64 a2) := cellB hb (by simp [go_sem])
    have b10 : w1.cell? ⟨w.heap.size + 1, 0, none⟩ = some (.int .i64 b1) := cellB hb (by simp [go_sem])
    have b11 : w1.cell? ⟨w.heap.size + 1, 1, none⟩ = some (.int .i64 b2) := cellB hb (by simp [go_sem])
    have zb00 := lt_of_cell b00
    have zb10 := lt_of_cell b10
    have hB : Below w.heap.size w w1 := hX
    clear hb hX
    go_wp2_with fail
    go_ret
    exact ⟨rfl, hB⟩
  · rw [hm, Bool.true_and] at ht
    have HM := Lib.hid hm
    unfold okAB at ht
    simp only at ht
    rcases ha : unitQ a1 a2 with _ | _
    · obtain rfl : false = t := by rw [← ht, ha]; rfl
      have HA := Lib.hid ha
      clear hv ht hm ha
      go_enter Tryz.func128, Tryz.ntmps128
      go_wp2_with fail
      refine (imGood_is ps v true _ (HV.out.keep (by go_grown)) hn HM.out).mono ?_
      rintro e w1 ⟨rfl, hb⟩
      have hX : Below w.heap.size w w1 := nextX (by go_grown) hb
      have b00 : w1.cell? ⟨w.heap.size, 0, none⟩ = some (.int .i64 a1) := cellB hb (by simp [go_sem])
      have b01 : w1.cell? ⟨w.heap.size, 1, none⟩ = some (.int .i64 a2) := cellB hb (by simp [go_sem])
      have b10 : w1.cell? ⟨w.heap.size + 1, 0, none⟩ = some (.int .i64 b1) := cellB hb (by simp [go_sem])
      have b11 : w1.cell? ⟨w.heap.size + 1, 1, none⟩ = some (.int .i64 b2) := cellB hb (by simp [go_sem])
      have zb00 := lt_of_cell b00
      have zb10 := lt_of_cell b10
      have hB : Below w.heap.size w w1 := hX
      clear hb hX
      go_wp2_with fail
      refine (raUnit_any a1 a2 _).mono ?_
      rintro e w2 ⟨he, hb⟩
      rw [HA.out] at he
      subst he
      have hX : Below w1.heap.size w1 w2 := nextX (by go_grown) hb
      replace b00 := cellB hX b00
      replace b01 := cellB hX b01
      replace b10 := cellB hX b10
      replace b11 := cellB hX b11
      have zb00 := Nat.lt_of_lt_of_le zb00 hX.size
      have zb10 := Nat.lt_of_lt_of_le zb10 hX.size
      replace hB := nextW hB hX
      clear hb hX
      go_wp2_with fail
      go_ret
      exact ⟨rfl, hB⟩
    · rw [ha, Bool.true_and] at ht
      have HA := Lib.hid ha
      rcases hbb : unitQ b1 b2 with _ | _
      · obtain rfl : false = t := by rw [← ht, hbb]; rfl
        have HB := Lib.hid hbb
        clear hv ht hm ha hbb
        go_enter Tryz.func128, Tryz.ntmps128
        go_wp2_with fail
        refine (imGood_is ps v true _ (HV.out.keep (by go_grown)) hn HM.out).mono ?_
        rintro e w1 ⟨rfl, hb⟩
        have hX : Below w.heap.size w w1 := nextX (by go_grown) hb
        have b00 : w1.cell? ⟨w.heap.size, 0, none⟩ = some (.int .i64 a1) := cellB hb (by simp [go_sem])
        have b01 : w1.cell? ⟨w.heap.size, 1, none⟩ = some (.int .i64 a2) := cellB hb (by simp [go_sem])
        have b10 : w1.cell? ⟨w.heap.size + 1, 0, none⟩ = some (.int .i64 b1) := cellB hb (by simp [go_sem])
        have b11 : w1.cell? ⟨w.heap.size + 1, 1, none⟩ = some (.int .i64 b2) := cellB hb (by simp [go_sem])
        have zb00 := lt_of_cell b00
        have zb10 := lt_of_cell b10
        have hB : Below w.heap.size w w1 := hX
        clear hb hX
        go_wp2_with fail
        refine (raUnit_any a1 a2 _).mono ?_
        rintro e w2 ⟨he, hb⟩
        rw [HA.out] at he
        subst he
        have hX : Below w1.heap.size w1 w2 := nextX (by go_grown) hb
        replace b00 := cellB hX b00
        replace b01 := cellB hX b01
        replace b10 := cellB hX b10
        replace b11 := cellB hX b11
        have zb00 := Nat.lt_of_lt_of_le zb00 hX.size
        have zb10 := Nat.lt_of_lt_of_le zb10 hX.size
        replace hB := nextW hB hX
        clear hb hX
        go_wp2_with fail
        refine (raUnit_any b1 b2 _).mono ?_
        rintro e w3 ⟨he, hb⟩
        rw [HB.out] at he
        subst he
        have hX : Below w2.heap.size w2 w3 := nextX (by go_grown) hb
        replace b00 := cellB hX b00
        replace b01 := cellB hX b01
        replace b10 := cellB hX b10
        replace b11 := cellB hX b11
        have zb00 := Nat.lt_of_lt_of_le zb00 hX.size
        have zb10 := Nat.lt_of_lt_of_le zb10 hX.size
        replace hB := nextW hB hX
        clear hb hX
        go_wp2_with fail
        go_ret
        exact ⟨rfl, hB⟩
      · rw [hbb, Bool.true_and, ← cmp_le] at ht
        have HB := Lib.hid hbb
        have sa := Sm.of_ok (unitQ_ok ha)
        have sb := Sm.of_ok (unitQ_ok hbb)
        obtain ⟨x, hx⟩ : ∃ x, cmpQ a1 a2 b1 b2 = x := ⟨_, rfl⟩
        rw [hx] at ht
        have HX := Lib.hid hx
        have HT := Lib.hid ht
        clear hv ht hm ha hbb hx
        go_enter Tryz.func128, Tryz.ntmps128
        go_wp2_with fail
        refine (imGood_is ps v true _ (HV.out.keep (by go_grown)) hn HM.out).mono ?_
        rintro e w1 ⟨rfl, hb⟩
        have hX : Below w.heap.size w w1 := nextX (by go_grown) hb
        have b00 : w1.cell? ⟨w.heap.size, 0, none⟩ = some (.int .i64 a1) := cellB hb (by simp [go_sem])
        have b01 : w1.cell? ⟨w.heap.size, 1, none⟩ = some (.int .i64 a2) := cellB hb (by simp [go_sem])
        have b10 : w1.cell? ⟨w.heap.size + 1, 0, none⟩ = some (.int .i64 b1) := cellB hb (by simp [go_sem])
        have b11 : w1.cell? ⟨w.heap.size + 1, 1, none⟩ = some (.int .i64 b2) := cellB hb (by simp [go_sem])
        have zb00 := lt_of_cell b00
        have zb10 := lt_of_cell b10
        have hB : Below w.heap.size w w1 := hX
        clear hb hX
        go_wp2_with fail
        refine (raUnit_any a1 a2 _).mono ?_
        rintro e w2 ⟨he, hb⟩
        rw [HA.out] at he
        subst he
        have hX : Below w1.heap.size w1 w2 := nextX (by go_grown) hb
        replace b00 := cellB hX b00
        replace b01 := cellB hX b01
        replace b10 := cellB hX b10
        replace b11 := cellB hX b11
        have zb00 := Nat.lt_of_lt_of_le zb00 hX.size
        have zb10 := Nat.lt_of_lt_of_le zb10 hX.size
        replace hB := nextW hB hX
        clear hb hX
        go_wp2_with fail
        refine (raUnit_any b1 b2 _).mono ?_
        rintro e w3 ⟨he, hb⟩
        rw [HB.out] at he
        subst he
        have hX : Below w2.heap.size w2 w3 := nextX (by go_grown) hb
        replace b00 := cellB hX b00
        replace b01 := cellB hX b01
        replace b10 := cellB hX b10
        replace b11 := cellB hX b11
        have zb00 := Nat.lt_of_lt_of_le zb00 hX.size
        have zb10 := Nat.lt_of_lt_of_le zb10 hX.size
        replace hB := nextW hB hX
        clear hb hX
        go_wp2_with fail
        refine (raCmp_is a1 a2 b1 b2 x sa sb HX.out _).mono ?_
        rintro e w4 ⟨rfl, hb⟩
        have hX : Below w3.heap.size w3 w4 := nextX (by go_grown) hb
        replace b00 := cellB hX b00
        replace b01 := cellB hX b01
        replace b10 := cellB hX b10
        replace b11 := cellB hX b11
        have zb00 := Nat.lt_of_lt_of_le zb00 hX.size
        have zb10 := Nat.lt_of_lt_of_le zb10 hX.size
        replace hB := nextW hB hX
        clear hb hX
        go_wp2_with fail
        go_ret
        exact ⟨ret_bool HT.out, hB⟩

set_option maxHeartbeats 1600000 in
theorem iVisitsOf_is (ps : List Pt) (v : Value) (x1 x2 n a1 a2 b1 b2 : Int) (k0 : Int) (t : Bool) (hl : visQ ps (x1, x2) n (a1, a2) (b1, b2) = (k0, t)) (w : World) (hv : RdP w v ps) (hn : ps.length ≤ 1048576) :
    Calls Tryz.prog 53 #[v, .agg #[.int .i64 x1, .int .i64 x2], .int .i64 n, .agg #[.int .i64 a1, .int .i64 a2], .agg #[.int .i64 b1, .int .i64 b2]] w fun e w' => e = .returned (.tuple #[.int .i64 k0, .bool t]) ∧ Below w.heap.size w w' := by
  have HV := Lib.hid hv
  rcases hab : okAB (a1, a2) (b1, b2) with _ | _
  · obtain ⟨rfl, rfl⟩ : 0 = k0 ∧ false = t := by unfold visQ at hl; rw [if_neg (by rw [hab]; simp)] at hl; exact Prod.mk.inj hl
    unfold okAB at hab
    simp only at hab
    rcases hu : (unitQ a1 a2 && unitQ b1 b2) with _ | _
    · have HU := Lib.hid hu
      clear hv hl hab hu
      go_enter Tryz.func53, Tryz.ntmps53
      go_wp2_with fail
      refine (areUnits_is [(a1, a2), (b1, b2)] _ false _ (RdQ.two (by simp) (by simp [go_sem]) (by simp [go_sem]) (by simp [go_sem]) (by simp [go_sem])) (by simp only [List.all_cons, List.all_nil, Bool.and_true]; exact HU.out)).mono ?_
      rintro e w1 ⟨rfl, hb⟩
      have hX : Below w.heap.size w w1 := nextX (by go_grown) hb
      have b00 : w1.cell? ⟨w.heap.size, 0, none⟩ = some (.int .i64 x1) := cellB hb (by simp [go_sem])
      have b01 : w1.cell? ⟨w.heap.size, 1, none⟩ = some (.int .i64 x2) := cellB hb (by simp [go_sem])
      have b10 : w1.cell? ⟨w.heap.size + 1, 0, none⟩ = some (.int .i64 a1) := cellB hb (by simp [go_sem])
      have b11 : w1.cell? ⟨w.heap.size + 1, 1, none⟩ = some (.int .i64 a2) := cellB hb (by simp [go_sem])
      have b20 : w1.cell? ⟨w.heap.size + 2, 0, none⟩ = some (.int .i64 b1) := cellB hb (by simp [go_sem])
      have b21 : w1.cell? ⟨w.heap.size + 2, 1, none⟩ = some (.int .i64 b2) := cellB hb (by simp [go_sem])
      have zb00 := lt_of_cell b00
      have zb10 := lt_of_cell b10
      have zb20 := lt_of_cell b20
      have hB : Below w.heap.size w w1 := hX
      clear hb hX
      go_wp2_with fail
      go_ret2
      exact ⟨rfl, hB⟩
    · have HU := Lib.hid hu
      have hp := hu
      rw [Bool.and_eq_true] at hp
      have hle : lessQ b1 b2 a1 a2 = true := by rw [hp.1, hp.2] at hab; simpa using hab
      have sa := Lib.hid (Sm.of_ok (unitQ_ok hp.1))
      have sb := Lib.hid (Sm.of_ok (unitQ_ok hp.2))
      have HLe := Lib.hid hle
      clear hv hl hab hu hp hle
      go_enter Tryz.func53, Tryz.ntmps53
      go_wp2_with fail
      refine (areUnits_is [(a1, a2), (b1, b2)] _ true _ (RdQ.two (by simp) (by simp [go_sem]) (by simp [go_sem]) (by simp [go_sem]) (by simp [go_sem])) (by simp only [List.all_cons, List.all_nil, Bool.and_true]; exact HU.out)).mono ?_
      rintro e w1 ⟨rfl, hb⟩
      have hX : Below w.heap.size w w1 := nextX (by go_grown) hb
      have b00 : w1.cell? ⟨w.heap.size, 0, none⟩ = some (.int .i64 x1) := cellB hb (by simp [go_sem])
      have b01 : w1.cell? ⟨w.heap.size, 1, none⟩ = some (.int .i64 x2) := cellB hb (by simp [go_sem])
      have b10 : w1.cell? ⟨w.heap.size + 1, 0, none⟩ = some (.int .i64 a1) := cellB hb (by simp [go_sem])
      have b11 : w1.cell? ⟨w.heap.size + 1, 1, none⟩ = some (.int .i64 a2) := cellB hb (by simp [go_sem])
      have b20 : w1.cell? ⟨w.heap.size + 2, 0, none⟩ = some (.int .i64 b1) := cellB hb (by simp [go_sem])
      have b21 : w1.cell? ⟨w.heap.size + 2, 1, none⟩ = some (.int .i64 b2) := cellB hb (by simp [go_sem])
      have zb00 := lt_of_cell b00
      have zb10 := lt_of_cell b10
      have zb20 := lt_of_cell b20
      have hB : Below w.heap.size w w1 := hX
      clear hb hX
      go_wp2_with fail
      refine (less_any b1 b2 a1 a2 sb.out.1 sb.out.2 sa.out.1 sa.out.2 _).mono ?_
      rintro e w2 ⟨he, hb⟩
      rw [HLe.out] at he
      subst he
      have hX : Below w1.heap.size w1 w2 := nextX (by go_grown) hb
      replace b00 := cellB hX b00
      replace b01 := cellB hX b01
      replace b10 := cellB hX b10
      replace b11 := cellB hX b11
      replace b20 := cellB hX b20
      replace b21 := cellB hX b21
      have zb00 := Nat.lt_of_lt_of_le zb00 hX.size
      have zb10 := Nat.lt_of_lt_of_le zb10 hX.size
      have zb20 := Nat.lt_of_lt_of_le zb20 hX.size
      replace hB := nextW hB hX
      clear hb hX
      go_wp2_with fail
      go_ret2
      exact ⟨rfl, hB⟩
  · obtain ⟨ha, hbu, hle⟩ := okAB_parts hab
    rcases ho : orbOf ps (x1, x2) n with ⟨l, tt⟩
    obtain ⟨rfl, rfl⟩ : ((visN l (a1, a2) (b1, b2) : Nat) : Int) = k0 ∧ tt = t := by unfold visQ at hl; rw [if_pos hab, ho] at hl; exact Prod.mk.inj hl
    have HL := Lib.hid ho
    have HUn := Lib.hid (orbOf_unit ho)
    have sa := Lib.hid (Sm.of_ok (unitQ_ok ha))
    have sb := Lib.hid (Sm.of_ok (unitQ_ok hbu))
    have HU := Lib.hid (show (unitQ a1 a2 && unitQ b1 b2) = true by rw [ha, hbu]; rfl)
    have HLe := Lib.hid hle
    have hln := orbOf_len ho
    clear hv hl hab ha hbu hle ho
    go_enter Tryz.func53, Tryz.ntmps53
    go_wp2_with fail
    refine (areUnits_is [(a1, a2), (b1, b2)] _ true _ (RdQ.two (by simp) (by simp [go_sem]) (by simp [go_sem]) (by simp [go_sem]) (by simp [go_sem])) (by simp only [List.all_cons, List.all_nil, Bool.and_true]; exact HU.out)).mono ?_
    rintro e w1 ⟨rfl, hb⟩
    have hX : Below w.heap.size w w1 := nextX (by go_grown) hb
    have b00 : w1.cell? ⟨w.heap.size, 0, none⟩ = some (.int .i64 x1) := cellB hb (by simp [go_sem])
    have b01 : w1.cell? ⟨w.heap.size, 1, none⟩ = some (.int .i64 x2) := cellB hb (by simp [go_sem])
    have b10 : w1.cell? ⟨w.heap.size + 1, 0, none⟩ = some (.int .i64 a1) := cellB hb (by simp [go_sem])
    have b11 : w1.cell? ⟨w.heap.size + 1, 1, none⟩ = some (.int .i64 a2) := cellB hb (by simp [go_sem])
    have b20 : w1.cell? ⟨w.heap.size + 2, 0, none⟩ = some (.int .i64 b1) := cellB hb (by simp [go_sem])
    have b21 : w1.cell? ⟨w.heap.size + 2, 1, none⟩ = some (.int .i64 b2) := cellB hb (by simp [go_sem])
    have zb00 := lt_of_cell b00
    have zb10 := lt_of_cell b10
    have zb20 := lt_of_cell b20
    have hB : Below w.heap.size w w1 := hX
    clear hb hX
    go_wp2_with fail
    refine (less_any b1 b2 a1 a2 sb.out.1 sb.out.2 sa.out.1 sa.out.2 _).mono ?_
    rintro e w2 ⟨he, hb⟩
    rw [HLe.out] at he
    subst he
    have hX : Below w1.heap.size w1 w2 := nextX (by go_grown) hb
    replace b00 := cellB hX b00
    replace b01 := cellB hX b01
    replace b10 := cellB hX b10
    replace b11 := cellB hX b11
    replace b20 := cellB hX b20
    replace b21 := cellB hX b21
    have zb00 := Nat.lt_of_lt_of_le zb00 hX.size
    have zb10 := Nat.lt_of_lt_of_le zb10 hX.size
    have zb20 := Nat.lt_of_lt_of_le zb20 hX.size
    replace hB := nextW hB hX
    clear hb hX
    go_wp2_with fail
    refine (iOrbitOf_is ps v x1 x2 n l tt HL.out _ (HV.out.keep (nextX hB (by go_grown))) hn).mono ?_
    rintro e w3 ⟨r, rfl, ow, hb⟩
    have hX : Below w2.heap.size w2 w3 := nextX (by go_grown) hb
    replace b00 := cellB hX b00
    replace b01 := cellB hX b01
    replace b10 := cellB hX b10
    replace b11 := cellB hX b11
    replace b20 := cellB hX b20
    replace b21 := cellB hX b21
    have zb00 := Nat.lt_of_lt_of_le zb00 hX.size
    have zb10 := Nat.lt_of_lt_of_le zb10 hX.size
    have zb20 := Nat.lt_of_lt_of_le zb20 hX.size
    replace hB := nextW hB hX
    clear hb hX
    have HRd := Lib.hid ow.read
    obtain ⟨A, cap, rfl, hle, hm⟩ := ownsRow_slice ow
    unfold maxLen at hm
    clear ow
    go_wp2_with fail
    go_name_world W0 hW
    have hW0 : Below w3.heap.size w3 W0 := by rw [← hW]; go_grown
    have hRd := Lib.hid (RdQ.keep HRd.out hW0)
    have HBx := Lib.hid (And.intro (cellB hW0 b10) (And.intro (cellB hW0 b11) (And.intro (cellB hW0 b20) (cellB hW0 b21))))
    replace hB := nextW hB hW0
    clear hW hW0 b10 b11 b20 b21
    go_loopw [14, 36] (fun m i wr => RelVis (l) (a1, a2) (b1, b2) W0 m i wr) (fun _ i _ => l.length - (intOf i).toNat)
    case atStart => exact ⟨0, Nat.zero_le _, rfl, rfl, Below.refl _ _⟩
    case round =>
      obtain ⟨j, hj, rfl, rfl, hb⟩ := hrel
      have hzb := hb.size
      have hlen : (l).length = l.length := rfl
      by_cases hlt : j < l.length
      · have hq := List.getElem?_eq_getElem (show j < (l).length by rw [hlen]; exact hlt)
        have hvs := visN_snoc (a := (a1, a2)) (b := (b1, b2)) hq
        have hvl := visN_le (l) (a1, a2) (b1, b2) j
        have hqu := HUn.out _ (List.mem_of_getElem? hq)
        generalize (l)[j] = q at *
        obtain ⟨q1, q2⟩ := q
        obtain ⟨A1, c1, he, -, -, hcell⟩ := (RdQ.keep hRd.out hb)
        simp only [Value.slice.injEq] at he
        obtain ⟨rfl, -, -⟩ := he
        obtain ⟨g1, o1, he, -, hc⟩ := hcell (by intro h; rw [h] at hq; simp at hq)
        obtain ⟨d0, d1⟩ := hc _ _ hq
        have sq := Lib.hid (Sm.of_ok (unitQ_ok hqu))
        have e0 := cellB hb HBx.out.1
        have e1 := cellB hb HBx.out.2.1
        have e2 := cellB hb HBx.out.2.2.1
        have e3 := cellB hb HBx.out.2.2.2
        have ze := lt_of_cell e0
        have ze2 := lt_of_cell e2
        subst he
        generalize hdm : visN ((l).take j) (a1, a2) (b1, b2) = M at *
        have hS := Lib.hid hvs
        have HLn := Lib.hid hlen
        clear hq hc hcell hvs hdm hqu hlen
        have hM1 : (M : Int) ≤ 1000000000 := by omega
        have hM0 : (0 : Int) ≤ (M : Int) := by omega
        rcases hl1 : lessQ q1 q2 a1 a2 with _ | _
        · have HL1 := Lib.hid hl1
          rcases hl2 : lessQ b1 b2 q1 q2 with _ | _
          · have HL2 := Lib.hid hl2
            have hS2 := Lib.hid (show (!lessQ q1 q2 a1 a2 && !lessQ b1 b2 q1 q2) = true by rw [hl1, hl2]; rfl)
            clear hl1 hl2
            go_wp2_with fail
            refine (less_any q1 q2 a1 a2 sq.out.1 sq.out.2 sa.out.1 sa.out.2 _).mono ?_
            rintro e w8 ⟨he, hb8⟩
            rw [HL1.out] at he
            subst he
            have hY := nextX (W := wr) (by go_grown) hb8
            have f0 : w8.cell? ⟨wr.heap.size, 0, none⟩ = some (.int .i64 q1) := cellB hb8 (by simp [go_sem])
            have f1 : w8.cell? ⟨wr.heap.size, 1, none⟩ = some (.int .i64 q2) := cellB hb8 (by simp [go_sem])
            replace e2 := cellB hY e2
            replace e3 := cellB hY e3
            clear hb8 d0 d1 e0 e1
            go_wp2_with fail
            refine (less_any b1 b2 q1 q2 sb.out.1 sb.out.2 sq.out.1 sq.out.2 _).mono ?_
            rintro e w9 ⟨he, hb9⟩
            rw [HL2.out] at he
            subst he
            replace hY := nextX hY hb9
            clear hb9 f0 f1 e2 e3
            go_wp2_with fail
            go_roundw
            case rel => exact ⟨j + 1, by have := HLn.out; omega, by go_num, by rw [hS.out, if_pos hS2.out]; go_num, nextX hb hY⟩
            case measure => simp [intOf]; omega
          · have HL2 := Lib.hid hl2
            have hS2 := Lib.hid (show (!lessQ q1 q2 a1 a2 && !lessQ b1 b2 q1 q2) = false by rw [hl1, hl2]; rfl)
            clear hl1 hl2
            go_wp2_with fail
            refine (less_any q1 q2 a1 a2 sq.out.1 sq.out.2 sa.out.1 sa.out.2 _).mono ?_
            rintro e w8 ⟨he, hb8⟩
            rw [HL1.out] at he
            subst he
            have hY := nextX (W := wr) (by go_grown) hb8
            have f0 : w8.cell? ⟨wr.heap.size, 0, none⟩ = some (.int .i64 q1) := cellB hb8 (by simp [go_sem])
            have f1 : w8.cell? ⟨wr.heap.size, 1, none⟩ = some (.int .i64 q2) := cellB hb8 (by simp [go_sem])
            replace e2 := cellB hY e2
            replace e3 := cellB hY e3
            clear hb8 d0 d1 e0 e1
            go_wp2_with fail
            refine (less_any b1 b2 q1 q2 sb.out.1 sb.out.2 sq.out.1 sq.out.2 _).mono ?_
            rintro e w9 ⟨he, hb9⟩
            rw [HL2.out] at he
            subst he
            replace hY := nextX hY hb9
            clear hb9 f0 f1 e2 e3
            go_wp2_with fail
            go_roundw
            case rel => exact ⟨j + 1, by have := HLn.out; omega, by go_num, by rw [hS.out, if_neg (by rw [hS2.out]; decide)]; go_num, nextX hb hY⟩
            case measure => simp [intOf]; omega
        · have HL1 := Lib.hid hl1
          have hS2 := Lib.hid (show (!lessQ q1 q2 a1 a2 && !lessQ b1 b2 q1 q2) = false by rw [hl1]; rfl)
          clear hl1
          go_wp2_with fail
          refine (less_any q1 q2 a1 a2 sq.out.1 sq.out.2 sa.out.1 sa.out.2 _).mono ?_
          rintro e w8 ⟨he, hb8⟩
          rw [HL1.out] at he
          subst he
          have hY := nextX (W := wr) (by go_grown) hb8
          have f0 : w8.cell? ⟨wr.heap.size, 0, none⟩ = some (.int .i64 q1) := cellB hb8 (by simp [go_sem])
          have f1 : w8.cell? ⟨wr.heap.size, 1, none⟩ = some (.int .i64 q2) := cellB hb8 (by simp [go_sem])
          replace e2 := cellB hY e2
          replace e3 := cellB hY e3
          clear hb8 d0 d1 e0 e1
          go_wp2_with fail
          go_roundw
          case rel => exact ⟨j + 1, by have := HLn.out; omega, by go_num, by rw [hS.out, if_neg (by rw [hS2.out]; decide)]; go_num, nextX hb hY⟩
          case measure => simp [intOf]; omega
      · obtain rfl : j = l.length := by omega
        have hE := Lib.hid (show visN ((l).take l.length) (a1, a2) (b1, b2) = visN (l) (a1, a2) (b1, b2) by rw [List.take_of_length_le (Nat.le_of_eq hlen)])
        clear hlen
        go_wp2_with fail
        go_ret2
        exact ⟨by rw [hE.out]; rfl, nextW hB hb⟩


set_option maxHeartbeats 1600000 in
theorem sVisitsOf_is (ps : List Pt) (v : Value) (x1 x2 n a1 a2 b1 b2 : Int) (k0 : Int) (t : Bool) (hl : visQ ps (x1, x2) n (a1, a2) (b1, b2) = (k0, t)) (w : World) (hv : RdP w v ps) (hn : ps.length ≤ 1048576) :
    Calls Tryz.prog 54 #[v, .agg #[.int .i64 x1, .int .i64 x2], .int .i64 n, .agg #[.int .i64 a1, .int .i64 a2], .agg #[.int .i64 b1, .int .i64 b2]] w fun e w' => e = .returned (.tuple #[.int .i64 k0, .bool t]) ∧ Below w.heap.size w w' := by
  have HV := Lib.hid hv
  rcases hs : isStartB ps (x1, x2) n with _ | _
  · obtain ⟨rfl, rfl⟩ : 0 = k0 ∧ false = t := by unfold visQ at hl; rw [orbOf_a hs] at hl; split at hl <;> exact Prod.mk.inj hl
    have HS := Lib.hid hs
    clear hv hl hs
    go_enter Tryz.func54, Tryz.ntmps54
    go_wp2_with fail
    refine (orAsked_is ps v x1 x2 n false _ (HV.out.keep (by go_grown)) hn HS.out).mono ?_
    rintro e w1 ⟨rfl, hb⟩
    have hX : Below w.heap.size w w1 := nextX (by go_grown) hb
    have b00 : w1.cell? ⟨w.heap.size, 0, none⟩ = some (.int .i64 x1) := cellB hb (by simp [go_sem])
    have b01 : w1.cell? ⟨w.heap.size, 1, none⟩ = some (.int .i64 x2) := cellB hb (by simp [go_sem])
    have b10 : w1.cell? ⟨w.heap.size + 1, 0, none⟩ = some (.int .i64 a1) := cellB hb (by simp [go_sem])
    have b11 : w1.cell? ⟨w.heap.size + 1, 1, none⟩ = some (.int .i64 a2) := cellB hb (by simp [go_sem])
    have b20 : w1.cell? ⟨w.heap.size + 2, 0, none⟩ = some (.int .i64 b1) := cellB hb (by simp [go_sem])
    have b21 : w1.cell? ⟨w.heap.size + 2, 1, none⟩ = some (.int .i64 b2) := cellB hb (by simp [go_sem])
    have zb00 := lt_of_cell b00
    have zb10 := lt_of_cell b10
    have zb20 := lt_of_cell b20
    have hB : Below w.heap.size w w1 := hX
    clear hb hX
    go_wp2_with fail
    go_ret2
    exact ⟨rfl, hB⟩
  · obtain ⟨hm, hx, h0, h60⟩ := isStartB_parts hs
    obtain ⟨k, rfl⟩ := Int.eq_ofNat_of_zero_le h0
    have hk : k ≤ 60 := by omega
    have HS := Lib.hid hs
    have HM := Lib.hid (And.intro hm hx)
    have hlen0 := orbQ_len ps (x1, x2) k
    rcases hab : okAB (a1, a2) (b1, b2) with _ | _
    · obtain ⟨rfl, rfl⟩ : 0 = k0 ∧ false = t := by unfold visQ at hl; rw [if_neg (by rw [hab]; simp)] at hl; exact Prod.mk.inj hl
      have HAB := Lib.hid (show (okMap ps && okAB (a1, a2) (b1, b2)) = false by rw [hm, hab]; rfl)
      clear hv hl hs hab hm hx h0 h60
      go_enter Tryz.func54, Tryz.ntmps54
      go_wp2_with fail
      refine (orAsked_is ps v x1 x2 k true _ (HV.out.keep (by go_grown)) hn HS.out).mono ?_
      rintro e w1 ⟨rfl, hb⟩
      have hX : Below w.heap.size w w1 := nextX (by go_grown) hb
      have b00 : w1.cell? ⟨w.heap.size, 0, none⟩ = some (.int .i64 x1) := cellB hb (by simp [go_sem])
      have b01 : w1.cell? ⟨w.heap.size, 1, none⟩ = some (.int .i64 x2) := cellB hb (by simp [go_sem])
      have b10 : w1.cell? ⟨w.heap.size + 1, 0, none⟩ = some (.int .i64 a1) := cellB hb (by simp [go_sem])
      have b11 : w1.cell? ⟨w.heap.size + 1, 1, none⟩ = some (.int .i64 a2) := cellB hb (by simp [go_sem])
      have b20 : w1.cell? ⟨w.heap.size + 2, 0, none⟩ = some (.int .i64 b1) := cellB hb (by simp [go_sem])
      have b21 : w1.cell? ⟨w.heap.size + 2, 1, none⟩ = some (.int .i64 b2) := cellB hb (by simp [go_sem])
      have zb00 := lt_of_cell b00
      have zb10 := lt_of_cell b10
      have zb20 := lt_of_cell b20
      have hB : Below w.heap.size w w1 := hX
      clear hb hX
      go_wp2_with fail
      refine (imTwo_is ps v a1 a2 b1 b2 false _ (HV.out.keep (nextX hB (by go_grown))) hn HAB.out).mono ?_
      rintro e w2 ⟨rfl, hb⟩
      have hX : Below w1.heap.size w1 w2 := nextX (by go_grown) hb
      replace b00 := cellB hX b00
      replace b01 := cellB hX b01
      replace b10 := cellB hX b10
      replace b11 := cellB hX b11
      replace b20 := cellB hX b20
      replace b21 := cellB hX b21
      have zb00 := Nat.lt_of_lt_of_le zb00 hX.size
      have zb10 := Nat.lt_of_lt_of_le zb10 hX.size
      have zb20 := Nat.lt_of_lt_of_le zb20 hX.size
      replace hB := nextW hB hX
      clear hb hX
      go_wp2_with fail
      go_ret2
      exact ⟨rfl, hB⟩
    · obtain ⟨ha, hbu, hle⟩ := okAB_parts hab
      have HAB := Lib.hid (show (okMap ps && okAB (a1, a2) (b1, b2)) = true by rw [hm, hab]; rfl)
      have sa := Lib.hid (Sm.of_ok (unitQ_ok ha))
      have sb := Lib.hid (Sm.of_ok (unitQ_ok hbu))
      have HUn := Lib.hid (orbQ_unit hm hx k)
      by_cases hf : (orbQ ps (x1, x2) k).length = k + 1
      · obtain ⟨rfl, rfl⟩ : ((visN (orbQ ps (x1, x2) k) (a1, a2) (b1, b2) : Nat) : Int) = k0 ∧ true = t := by unfold visQ at hl; rw [if_pos hab, orbOf_b hs hf] at hl; exact Prod.mk.inj hl
        have HF := Lib.hid hf
        clear hv hl hs hab hm hx h0 h60 ha hbu hle hf
        go_enter Tryz.func54, Tryz.ntmps54
        go_wp2_with fail
        refine (orAsked_is ps v x1 x2 k true _ (HV.out.keep (by go_grown)) hn HS.out).mono ?_
        rintro e w1 ⟨rfl, hb⟩
        have hX : Below w.heap.size w w1 := nextX (by go_grown) hb
        have b00 : w1.cell? ⟨w.heap.size, 0, none⟩ = some (.int .i64 x1) := cellB hb (by simp [go_sem])
        have b01 : w1.cell? ⟨w.heap.size, 1, none⟩ = some (.int .i64 x2) := cellB hb (by simp [go_sem])
        have b10 : w1.cell? ⟨w.heap.size + 1, 0, none⟩ = some (.int .i64 a1) := cellB hb (by simp [go_sem])
        have b11 : w1.cell? ⟨w.heap.size + 1, 1, none⟩ = some (.int .i64 a2) := cellB hb (by simp [go_sem])
        have b20 : w1.cell? ⟨w.heap.size + 2, 0, none⟩ = some (.int .i64 b1) := cellB hb (by simp [go_sem])
        have b21 : w1.cell? ⟨w.heap.size + 2, 1, none⟩ = some (.int .i64 b2) := cellB hb (by simp [go_sem])
        have zb00 := lt_of_cell b00
        have zb10 := lt_of_cell b10
        have zb20 := lt_of_cell b20
        have hB : Below w.heap.size w w1 := hX
        clear hb hX
        go_wp2_with fail
        refine (imTwo_is ps v a1 a2 b1 b2 true _ (HV.out.keep (nextX hB (by go_grown))) hn HAB.out).mono ?_
        rintro e w2 ⟨rfl, hb⟩
        have hX : Below w1.heap.size w1 w2 := nextX (by go_grown) hb
        replace b00 := cellB hX b00
        replace b01 := cellB hX b01
        replace b10 := cellB hX b10
        replace b11 := cellB hX b11
        replace b20 := cellB hX b20
        replace b21 := cellB hX b21
        have zb00 := Nat.lt_of_lt_of_le zb00 hX.size
        have zb10 := Nat.lt_of_lt_of_le zb10 hX.size
        have zb20 := Nat.lt_of_lt_of_le zb20 hX.size
        replace hB := nextW hB hX
        clear hb hX
        go_wp2_with fail
        refine (orRun_is ps v x1 x2 k _ (HV.out.keep (nextX hB (by go_grown))) HM.out.1 HM.out.2 hk).mono ?_
        rintro e w3 ⟨r, rfl, ow, hb⟩
        have hX : Below w2.heap.size w2 w3 := nextX (by go_grown) hb
        replace b00 := cellB hX b00
        replace b01 := cellB hX b01
        replace b10 := cellB hX b10
        replace b11 := cellB hX b11
        replace b20 := cellB hX b20
        replace b21 := cellB hX b21
        have zb00 := Nat.lt_of_lt_of_le zb00 hX.size
        have zb10 := Nat.lt_of_lt_of_le zb10 hX.size
        have zb20 := Nat.lt_of_lt_of_le zb20 hX.size
        replace hB := nextW hB hX
        clear hb hX
        have HRd := Lib.hid ow.read
        obtain ⟨g, cap, rfl, hc1, hc2, hg1, hg2, -⟩ := ow.lit HF.out (by omega)
        unfold maxLen at hc2
        clear ow
        have b0 : (k : Int) < ((k + 1 : Nat) : Int) := by omega
        go_wp2_with fail
        go_name_world W0 hW
        have hW0 : Below w3.heap.size w3 W0 := by rw [← hW]; go_grown
        have hRd := Lib.hid (RdQ.keep HRd.out hW0)
        have HBx := Lib.hid (And.intro (cellB hW0 b10) (And.intro (cellB hW0 b11) (And.intro (cellB hW0 b20) (cellB hW0 b21))))
        replace hB := nextW hB hW0
        clear hW hW0 b10 b11 b20 b21
        go_loopw [13, 38] (fun m i wr => RelVis (orbQ ps (x1, x2) k) (a1, a2) (b1, b2) W0 m i wr) (fun _ i _ => (k + 1) - (intOf i).toNat)
        case atStart => exact ⟨0, Nat.zero_le _, rfl, rfl, Below.refl _ _⟩
        case round =>
          obtain ⟨j, hj, rfl, rfl, hb⟩ := hrel
          have hzb := hb.size
          have hlen : (orbQ ps (x1, x2) k).length = (k + 1) := HF.out
          by_cases hlt : j < (k + 1)
          · have hq := List.getElem?_eq_getElem (show j < (orbQ ps (x1, x2) k).length by rw [hlen]; exact hlt)
            have hvs := visN_snoc (a := (a1, a2)) (b := (b1, b2)) hq
            have hvl := visN_le (orbQ ps (x1, x2) k) (a1, a2) (b1, b2) j
            have hqu := HUn.out _ (List.mem_of_getElem? hq)
            generalize (orbQ ps (x1, x2) k)[j] = q at *
            obtain ⟨q1, q2⟩ := q
            obtain ⟨A1, c1, he, -, -, hcell⟩ := (RdQ.keep hRd.out hb)
            simp only [Value.slice.injEq] at he
            obtain ⟨rfl, -, -⟩ := he
            obtain ⟨g1, o1, he, -, hc⟩ := hcell (by intro h; rw [h] at hq; simp at hq)
            obtain ⟨d0, d1⟩ := hc _ _ hq
            have sq := Lib.hid (Sm.of_ok (unitQ_ok hqu))
            have e0 := cellB hb HBx.out.1
            have e1 := cellB hb HBx.out.2.1
            have e2 := cellB hb HBx.out.2.2.1
            have e3 := cellB hb HBx.out.2.2.2
            have ze := lt_of_cell e0
            have ze2 := lt_of_cell e2
            simp only [Option.some.injEq, Addr.mk.injEq, and_true] at he
            obtain ⟨rfl, rfl⟩ := he
            rw [Nat.zero_add] at d0 d1
            generalize hdm : visN ((orbQ ps (x1, x2) k).take j) (a1, a2) (b1, b2) = M at *
            have hS := Lib.hid hvs
            have HLn := Lib.hid hlen
            clear hq hc hcell hvs hdm hqu hlen
            have hM1 : (M : Int) ≤ 1000000000 := by omega
            have hM0 : (0 : Int) ≤ (M : Int) := by omega
            rcases hl1 : lessQ q1 q2 a1 a2 with _ | _
            · have HL1 := Lib.hid hl1
              rcases hl2 : lessQ b1 b2 q1 q2 with _ | _
              · have HL2 := Lib.hid hl2
                have hS2 := Lib.hid (show (!lessQ q1 q2 a1 a2 && !lessQ b1 b2 q1 q2) = true by rw [hl1, hl2]; rfl)
                clear hl1 hl2
                obtain ⟨y1, hy1⟩ : ∃ y, cmpQ a1 a2 q1 q2 = y := ⟨_, rfl⟩
                have dy1 : decide (y1 ≤ (0 : Int)) = true := by rw [← hy1, cmp_le, HL1.out]; rfl
                have HY1 := Lib.hid hy1
                clear hy1
                have dz1 : y1 ≤ (0 : Int) := by simpa using dy1
                go_wp2_with fail
                refine (raCmp_is a1 a2 q1 q2 y1 sa.out sq.out HY1.out _).mono ?_
                rintro e w8 ⟨rfl, hb8⟩
                have hY := nextX (W := wr) (by go_grown) hb8
                have f0 : w8.cell? ⟨wr.heap.size, 0, none⟩ = some (.int .i64 q1) := cellB hb8 (by simp [go_sem])
                have f1 : w8.cell? ⟨wr.heap.size, 1, none⟩ = some (.int .i64 q2) := cellB hb8 (by simp [go_sem])
                replace e2 := cellB hY e2
                replace e3 := cellB hY e3
                clear hb8 d0 d1 e0 e1
                obtain ⟨y2, hy2⟩ : ∃ y, cmpQ q1 q2 b1 b2 = y := ⟨_, rfl⟩
                have dy2 : decide (y2 ≤ (0 : Int)) = true := by rw [← hy2, cmp_le, HL2.out]; rfl
                have HY2 := Lib.hid hy2
                clear hy2
                have dz2 : y2 ≤ (0 : Int) := by simpa using dy2
                go_wp2_with fail
                refine (raCmp_is q1 q2 b1 b2 y2 sq.out sb.out HY2.out _).mono ?_
                rintro e w9 ⟨rfl, hb9⟩
                replace hY := nextX hY hb9
                clear hb9 f0 f1 e2 e3 dy1
                go_wp2_with fail
                go_roundw
                case rel => exact ⟨j + 1, by have := HLn.out; omega, by go_num, by rw [hS.out, if_pos hS2.out]; go_num, nextX hb hY⟩
                case measure => simp [intOf]; omega
              · have HL2 := Lib.hid hl2
                have hS2 := Lib.hid (show (!lessQ q1 q2 a1 a2 && !lessQ b1 b2 q1 q2) = false by rw [hl1, hl2]; rfl)
                clear hl1 hl2
                obtain ⟨y1, hy1⟩ : ∃ y, cmpQ a1 a2 q1 q2 = y := ⟨_, rfl⟩
                have dy1 : decide (y1 ≤ (0 : Int)) = true := by rw [← hy1, cmp_le, HL1.out]; rfl
                have HY1 := Lib.hid hy1
                clear hy1
                have dz1 : y1 ≤ (0 : Int) := by simpa using dy1
                go_wp2_with fail
                refine (raCmp_is a1 a2 q1 q2 y1 sa.out sq.out HY1.out _).mono ?_
                rintro e w8 ⟨rfl, hb8⟩
                have hY := nextX (W := wr) (by go_grown) hb8
                have f0 : w8.cell? ⟨wr.heap.size, 0, none⟩ = some (.int .i64 q1) := cellB hb8 (by simp [go_sem])
                have f1 : w8.cell? ⟨wr.heap.size, 1, none⟩ = some (.int .i64 q2) := cellB hb8 (by simp [go_sem])
                replace e2 := cellB hY e2
                replace e3 := cellB hY e3
                clear hb8 d0 d1 e0 e1
                obtain ⟨y2, hy2⟩ : ∃ y, cmpQ q1 q2 b1 b2 = y := ⟨_, rfl⟩
                have dy2 : decide (y2 ≤ (0 : Int)) = false := by rw [← hy2, cmp_le, HL2.out]; rfl
                have HY2 := Lib.hid hy2
                clear hy2
                have dz2 : (0 : Int) < y2 := by simpa using dy2
                go_wp2_with fail
                refine (raCmp_is q1 q2 b1 b2 y2 sq.out sb.out HY2.out _).mono ?_
                rintro e w9 ⟨rfl, hb9⟩
                replace hY := nextX hY hb9
                clear hb9 f0 f1 e2 e3 dy1
                go_wp2_with fail
                go_roundw
                case rel => exact ⟨j + 1, by have := HLn.out; omega, by go_num, by rw [hS.out, if_neg (by rw [hS2.out]; decide)]; go_num, nextX hb hY⟩
                case measure => simp [intOf]; omega
            · have HL1 := Lib.hid hl1
              have hS2 := Lib.hid (show (!lessQ q1 q2 a1 a2 && !lessQ b1 b2 q1 q2) = false by rw [hl1]; rfl)
              clear hl1
              obtain ⟨y1, hy1⟩ : ∃ y, cmpQ a1 a2 q1 q2 = y := ⟨_, rfl⟩
              have dy1 : decide (y1 ≤ (0 : Int)) = false := by rw [← hy1, cmp_le, HL1.out]; rfl
              have HY1 := Lib.hid hy1
              clear hy1
              have dz1 : (0 : Int) < y1 := by simpa using dy1
              go_wp2_with fail
              refine (raCmp_is a1 a2 q1 q2 y1 sa.out sq.out HY1.out _).mono ?_
              rintro e w8 ⟨rfl, hb8⟩
              have hY := nextX (W := wr) (by go_grown) hb8
              have f0 : w8.cell? ⟨wr.heap.size, 0, none⟩ = some (.int .i64 q1) := cellB hb8 (by simp [go_sem])
              have f1 : w8.cell? ⟨wr.heap.size, 1, none⟩ = some (.int .i64 q2) := cellB hb8 (by simp [go_sem])
              replace e2 := cellB hY e2
              replace e3 := cellB hY e3
              clear hb8 d0 d1 e0 e1
              go_wp2_with fail
              go_roundw
              case rel => exact ⟨j + 1, by have := HLn.out; omega, by go_num, by rw [hS.out, if_neg (by rw [hS2.out]; decide)]; go_num, nextX hb hY⟩
              case measure => simp [intOf]; omega
          · obtain rfl : j = (k + 1) := by omega
            have hE := Lib.hid (show visN ((orbQ ps (x1, x2) k).take (k + 1)) (a1, a2) (b1, b2) = visN (orbQ ps (x1, x2) k) (a1, a2) (b1, b2) by rw [List.take_of_length_le (Nat.le_of_eq hlen)])
            clear hlen
            go_wp2_with fail
            go_ret2
            exact ⟨by rw [hE.out]; rfl, nextW hB hb⟩
      · obtain ⟨rfl, rfl⟩ : 0 = k0 ∧ false = t := by unfold visQ at hl; rw [if_pos hab, orbOf_c hf] at hl; exact Prod.mk.inj hl
        have HF := Lib.hid hf
        clear hv hl hs hab hm hx h0 h60 ha hbu hle hf
        go_enter Tryz.func54, Tryz.ntmps54
        go_wp2_with fail
        refine (orAsked_is ps v x1 x2 k true _ (HV.out.keep (by go_grown)) hn HS.out).mono ?_
        rintro e w1 ⟨rfl, hb⟩
        have hX : Below w.heap.size w w1 := nextX (by go_grown) hb
        have b00 : w1.cell? ⟨w.heap.size, 0, none⟩ = some (.int .i64 x1) := cellB hb (by simp [go_sem])
        have b01 : w1.cell? ⟨w.heap.size, 1, none⟩ = some (.int .i64 x2) := cellB hb (by simp [go_sem])
        have b10 : w1.cell? ⟨w.heap.size + 1, 0, none⟩ = some (.int .i64 a1) := cellB hb (by simp [go_sem])
        have b11 : w1.cell? ⟨w.heap.size + 1, 1, none⟩ = some (.int .i64 a2) := cellB hb (by simp [go_sem])
        have b20 : w1.cell? ⟨w.heap.size + 2, 0, none⟩ = some (.int .i64 b1) := cellB hb (by simp [go_sem])
        have b21 : w1.cell? ⟨w.heap.size + 2, 1, none⟩ = some (.int .i64 b2) := cellB hb (by simp [go_sem])
        have zb00 := lt_of_cell b00
        have zb10 := lt_of_cell b10
        have zb20 := lt_of_cell b20
        have hB : Below w.heap.size w w1 := hX
        clear hb hX
        go_wp2_with fail
        refine (imTwo_is ps v a1 a2 b1 b2 true _ (HV.out.keep (nextX hB (by go_grown))) hn HAB.out).mono ?_
        rintro e w2 ⟨rfl, hb⟩
        have hX : Below w1.heap.size w1 w2 := nextX (by go_grown) hb
        replace b00 := cellB hX b00
        replace b01 := cellB hX b01
        replace b10 := cellB hX b10
        replace b11 := cellB hX b11
        replace b20 := cellB hX b20
        replace b21 := cellB hX b21
        have zb00 := Nat.lt_of_lt_of_le zb00 hX.size
        have zb10 := Nat.lt_of_lt_of_le zb10 hX.size
        have zb20 := Nat.lt_of_lt_of_le zb20 hX.size
        replace hB := nextW hB hX
        clear hb hX
        go_wp2_with fail
        refine (orRun_is ps v x1 x2 k _ (HV.out.keep (nextX hB (by go_grown))) HM.out.1 HM.out.2 hk).mono ?_
        rintro e w3 ⟨r, rfl, ow, hb⟩
        have hX : Below w2.heap.size w2 w3 := nextX (by go_grown) hb
        replace b00 := cellB hX b00
        replace b01 := cellB hX b01
        replace b10 := cellB hX b10
        replace b11 := cellB hX b11
        replace b20 := cellB hX b20
        replace b21 := cellB hX b21
        have zb00 := Nat.lt_of_lt_of_le zb00 hX.size
        have zb10 := Nat.lt_of_lt_of_le zb10 hX.size
        have zb20 := Nat.lt_of_lt_of_le zb20 hX.size
        replace hB := nextW hB hX
        clear hb hX
        obtain ⟨m, hm⟩ : ∃ m, (orbQ ps (x1, x2) k).length = m := ⟨_, rfl⟩
        rw [hm] at hlen0
        have hmk : m ≤ k := by have := HF.out; omega
        obtain ⟨g, cap, rfl, hc1, hc2, hg1, hg2, hcell⟩ := ow.lit hm (by omega)
        unfold maxLen at hc2
        clear hcell ow hm
        have b0 : (m : Int) ≤ (k : Int) := by omega
        go_wp2_with fail
        go_ret2
        exact ⟨rfl, hB⟩


end Go.Proofs.YtkeajfgcjmhmiaaGreat
