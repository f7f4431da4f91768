/- areUnits, imTwo; VisitsOf of both. -/
import Derived.Test.YtkaekjhcphgldaaGreatSlopes
import Derived.Test.YtkaekjhcphgldaaGreatMarks
import Derived.Carry
namespace Go.Proofs.YtkaekjhcphgldaaGreat
open Go.RowKit

open Go.ChangeShapes Go.WideShapes Go.ChangeAt Go.Joins in
theorem trodAll_five {H : Type} {enc : TypeId × Value → H} {P : Program} {w : World} {base : Nat} {spare : Nat → Bool} {held : Bool} {t t' t'' t3 t4 : TypeId} {args : Array Value} {ds : List (DataW H)} {ps : List MemPlace} (h : DataW.TrodAll enc P w base spare held [t, t', t'', t3, t4] args.toList ds ps) :
    ∃ v v' v'' v3 v4 d d' d'' d3 d4 p p' p'' p3 p4, args = #[v, v', v'', v3, v4] ∧ ds = [d, d', d'', d3, d4] ∧ ps = p ++ p' ++ p'' ++ p3 ++ p4 ∧ DataW.Trod enc P w base spare held t v d p ∧ DataW.Trod enc P w base spare held t' v' d' p' ∧ DataW.Trod enc P w base spare held t'' v'' d'' p'' ∧ DataW.Trod enc P w base spare held t3 v3 d3 p3 ∧ DataW.Trod enc P w base spare held t4 v4 d4 p4 := by
  obtain ⟨v, vs, d, ds', p, q, hargs, rfl, rfl, hd, hrest⟩ := trodAll_cons h
  obtain ⟨v', vs', d', ds'', p', q', rfl, rfl, rfl, hd', hrest'⟩ := trodAll_cons hrest
  obtain ⟨v'', vs'', d'', dsx, p'', q'', rfl, rfl, rfl, hd'', hrest''⟩ := trodAll_cons hrest'
  obtain ⟨v3, vs3, d3, ds3, p3, q3, rfl, rfl, rfl, hd3, hrest3⟩ := trodAll_cons hrest''
  obtain ⟨v4, vs4, d4, ds4, p4, q4, rfl, rfl, rfl, hd4, hrest4⟩ := trodAll_cons hrest3
  obtain ⟨rfl, rfl, rfl⟩ := trodAll_nil hrest4
  exact ⟨v, v', v'', v3, v4, d, d', d'', d3, d4, p, p', p'', p3, p4, by cases args; simp_all, rfl, by simp, hd, hd', hd'', hd3, hd4⟩

def badU (q : Q) : Bool := !unitQ q.1 q.2
def IndexEnd (qs : List Q) (w : World) (e : Ending) (w' : World) : Prop := ∃ j : Int, e = .returned (.int .i64 j) ∧ decide (0 ≤ j) = qs.any badU ∧ Below w.heap.size w w'
def RelU (qs : List Q) (w : World) (i : Value) (wr : World) : Prop := ∃ k : Nat, k ≤ qs.length ∧ i = .int .i64 k ∧ (∀ i q, i < k → qs[i]? = some q → badU q = false) ∧ Below w.heap.size w wr

set_option maxHeartbeats 400000 in
theorem unitF (n d : Int) (w : World) :
    Calls Tryz.prog 86 #[.agg #[.int .i64 n, .int .i64 d]] w fun e w' => e = .returned (.bool (badU (n, d))) ∧ Below w.heap.size w w' := by
  go_enter Tryz.func86, Tryz.ntmps86
  go_wp2_with fail
  refine (isUnit_any n d _).mono ?_
  rintro e w1 ⟨rfl, hb⟩
  have hX : Below w.heap.size w w1 := nextX (by go_grown) hb
  have HX := Lib.hid (show (!unitQ n d) = badU (n, d) from rfl)
  generalize unitQ n d = x at *
  go_wp2_with fail
  go_ret
  exact ⟨ret_bool HX.out, hX⟩

set_option maxHeartbeats 800000 in
theorem indexUnits (qs : List Q) (v : Value) (w : World) (hv : RdQ w v qs) :
    Calls Tryz.prog 110 #[v, .func (.func 86) #[] #[]] w (IndexEnd qs w) := by
  obtain ⟨A, c, rfl, hl, hm, hcell⟩ := hv
  unfold maxLen at hm
  have HC := Lib.hid hcell
  clear hcell
  go_enter Tryz.func110, Tryz.ntmps110
  go_wp2_with fail
  go_loopw [8] (fun i wr => RelU qs w i wr) (fun i _ => qs.length - (intOf i).toNat)
  case atStart => exact ⟨0, Nat.zero_le _, rfl, (fun i q h => by omega), Below.refl _ _⟩
  case round =>
    obtain ⟨k, hk, rfl, hno, hb⟩ := hrel
    have HN := Lib.hid hno
    clear hno
    by_cases hlt : k < qs.length
    · obtain ⟨g, o, rfl, hg, hc⟩ := HC.out (by intro h; rw [h] at hlt; simp at hlt)
      have hq := List.getElem?_eq_getElem hlt
      generalize qs[k] = q at *
      obtain ⟨a1, a2⟩ := q
      obtain ⟨c0, c1⟩ := hc _ _ hq
      rw [← hb.cell (p := ⟨g, _, none⟩) hg] at c0 c1
      clear hc HC
      have HQ := Lib.hid hq
      clear hq
      rcases hbb : badU (a1, a2) with _ | _
      all_goals
        have HB := Lib.hid hbb
        clear hbb
        go_wp2_with fail
        refine (unitF a1 a2 _).mono ?_
        rintro e w1 ⟨he, hb1⟩
        rw [HB.out] at he
        subst he
        have hB := nextX hb hb1
        clear hb1 c0 c1
        go_wp2_with fail
      · go_roundw
        case rel =>
          refine ⟨k + 1, by omega, by go_num, ?_, hB⟩
          intro i q hi hq
          by_cases e : i = k
          · subst e; rw [HQ.out] at hq; cases hq; exact HB.out
          · exact HN.out i q (by omega) hq
        case measure => simp [intOf]; omega
      · have HI := Lib.hid (show qs.any badU = true from List.any_eq_true.2 ⟨_, List.mem_of_getElem? HQ.out, HB.out⟩)
        go_ret
        exact ⟨_, rfl, by rw [HI.out]; simp, hB⟩
    · obtain rfl : k = qs.length := by omega
      have HI := Lib.hid (show qs.any badU = false by
        rw [List.any_eq_false]
        intro q hq
        obtain ⟨i, hi, rfl⟩ := List.getElem_of_mem hq
        rw [HN.out i _ hi (List.getElem?_eq_getElem hi)]; decide)
      go_wp2_with fail
      go_ret
      exact ⟨_, rfl, by rw [HI.out]; decide, hb⟩

theorem any_bad_units (qs : List Q) : (!qs.any badU) = qs.all (fun q => unitQ q.1 q.2) := by
  induction qs with
  | nil => rfl
  | cons q r ih => rw [List.any_cons, List.all_cons, ← ih, badU, Bool.not_or, Bool.not_not]

theorem areUnits_is (qs : List Q) (v : Value) (t : Bool) (w : World) (hv : RdQ w v qs) (ht : qs.all (fun q => unitQ q.1 q.2) = t) :
    Calls Tryz.prog 50 #[v] w fun e w' => e = .returned (.bool t) ∧ Below w.heap.size w w' := by
  have HV := Lib.hid hv
  have HT := Lib.hid ((any_bad_units qs).trans ht)
  clear hv ht
  have h1 : Calls Tryz.prog 85 #[v, .func (.func 86) #[] #[]] w fun e w' => e = .returned (.bool (qs.any badU)) ∧ Below w.heap.size w w' := by
    go_enter Tryz.func85, Tryz.ntmps85
    go_wp2_with fail
    refine (indexUnits qs v _ HV.out).mono ?_
    rintro e w1 ⟨j, rfl, hj, hb⟩
    have HJ := Lib.hid hj
    clear hj
    go_wp2_with fail
    go_ret
    exact ⟨ret_bool HJ.out, hb⟩
  go_enter Tryz.func50, Tryz.ntmps50
  go_wp2_with fail
  refine h1.mono ?_
  rintro e w1 ⟨rfl, hb⟩
  generalize qs.any badU = x at *
  clear h1
  go_wp2_with fail
  go_ret
  exact ⟨ret_bool HT.out, hb⟩

def okAB (a b : Q) : Bool := unitQ a.1 a.2 && (unitQ b.1 b.2 && !lessQ b.1 b.2 a.1 a.2)
theorem okAB_parts {a b : Q} (h : okAB a b = true) : unitQ a.1 a.2 = true ∧ unitQ b.1 b.2 = true ∧ lessQ b.1 b.2 a.1 a.2 = false := by
  unfold okAB at h; simp only [Bool.and_eq_true, Bool.not_eq_true'] at h; exact h
theorem cmp_le {n1 d1 n2 d2 : Int} : decide (cmpQ n1 d1 n2 d2 ≤ 0) = !lessQ n2 d2 n1 d1 := by
  rw [lessQ_cmp, cmpQ_swap n1 d1 n2 d2]
  by_cases h : cmpQ n1 d1 n2 d2 ≤ 0
  · simp [h]
  · simp [h]; omega
def visN (l : List Q) (a b : Q) : Nat := l.countP (fun y => !lessQ y.1 y.2 a.1 a.2 && !lessQ b.1 b.2 y.1 y.2)
theorem visN_snoc {l : List Q} {j : Nat} {q : Q} {a b : Q} (h : l[j]? = some q) : visN (l.take (j + 1)) a b = visN (l.take j) a b + (if (!lessQ q.1 q.2 a.1 a.2 && !lessQ b.1 b.2 q.1 q.2) = true then 1 else 0) := by
  unfold visN
  rw [take_snoc_get h, List.countP_append, List.countP_singleton]
theorem visN_le (l : List Q) (a b : Q) (j : Nat) : visN (l.take j) a b ≤ j := by
  unfold visN
  have := List.countP_le_length (p := fun y : Q => !lessQ y.1 y.2 a.1 a.2 && !lessQ b.1 b.2 y.1 y.2) (l := l.take j)
  rw [List.length_take] at this
  omega
def visQ (ps : List Pt) (x : Q) (n : Int) (a b : Q) : Int × Bool := if okAB a b = true then ((visN (orbOf ps x n).1 a b : Int), (orbOf ps x n).2) else (0, false)
def RelVis (l : List Q) (a b : Q) (W0 : World) (m i : Value) (wr : World) : Prop := ∃ j : Nat, j ≤ l.length ∧ i = .int .i64 j ∧ m = .int .i64 (visN (l.take j) a b : Nat) ∧ Below W0.heap.size W0 wr

end Go.Proofs.YtkaekjhcphgldaaGreat
