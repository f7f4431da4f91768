/- made, finish, coIf: points made a simple map. -/
import Derived.Test.YtkaekjhcphgldaaGreatJoinA
namespace Go.Proofs.YtkaekjhcphgldaaGreat
open Go.RowKit

theorem madeQ_of (l : List Pt) : madeQ l = if (made0 l).2 = true then ((made0 l).1, true) else ([], false) := by
  unfold madeQ made0
  by_cases h : l.any badPt = false
  · rw [if_pos h]
    by_cases h2 : okMap (simpleQ l) = true
    · rw [if_pos ⟨h, h2⟩, if_pos h2]
    · rw [if_neg (fun h3 => h2 h3.2), if_neg h2]
  · rw [if_neg h, if_neg (fun h3 => h h3.1)]; rfl
theorem made0_yes {l : List Pt} (h : l.any badPt = false) : made0 l = (simpleQ l, okMap (simpleQ l)) := by unfold made0; rw [if_pos h]
theorem made0_no {l : List Pt} (h : l.any badPt = true) : made0 l = ([], false) := by unfold made0; rw [if_neg (by rw [h]; simp)]
def RelCo (l : List Pt) (w : World) (i : Value) (wr : World) : Prop := ∃ k : Nat, k ≤ l.length ∧ i = .int .i64 k ∧ (∀ j p, j < k → l[j]? = some p → badPt p = false) ∧ Below w.heap.size w wr
theorem allGood {l : List Pt} (h : ∀ j p, j < l.length → l[j]? = some p → badPt p = false) : l.any badPt = false := by
  rw [List.any_eq_false]
  intro p hp
  obtain ⟨i, hi, rfl⟩ := List.getElem_of_mem hp
  rw [h i _ hi (List.getElem?_eq_getElem hi)]; simp
theorem oneBad {l : List Pt} {k : Nat} {p : Pt} (hp : l[k]? = some p) (h : badPt p = true) : l.any badPt = true := List.any_eq_true.2 ⟨p, List.mem_of_getElem? hp, h⟩

set_option maxHeartbeats 800000 in
theorem madeF (a b c d : Int) (w : World) :
    Calls Tryz.prog 95 #[.agg #[.int .i64 a, .int .i64 b, .int .i64 c, .int .i64 d]] w fun e w' => e = .returned (.bool (madeB ((a, b), c, d))) ∧ Below w.heap.size w w' := by
  rcases h : decide (100 < b) with _ | _
  · have n1 : ¬ (100 : Int) < b := by simpa using h
    have n2 : b ≤ (100 : Int) := by omega
    rcases h2 : decide (100 < d) with _ | _
    · have HX := Lib.hid (show madeB ((a, b), c, d) = false by simp [madeB, h, h2])
      have n3 : ¬ (100 : Int) < d := by simpa using h2
      go_enter Tryz.func95, Tryz.ntmps95
      go_wp2_with fail
      go_ret
      exact ⟨ret_bool HX.out.symm, by go_grown⟩
    · have HX := Lib.hid (show madeB ((a, b), c, d) = true by simp [madeB, h, h2])
      have n3 : (100 : Int) < d := by simpa using h2
      go_enter Tryz.func95, Tryz.ntmps95
      go_wp2_with fail
      go_ret
      exact ⟨ret_bool HX.out.symm, by go_grown⟩
  · have HX := Lib.hid (show madeB ((a, b), c, d) = true by simp [madeB, h])
    have n1 : (100 : Int) < b := by simpa using h
    go_enter Tryz.func95, Tryz.ntmps95
    go_wp2_with fail
    go_ret
    exact ⟨ret_bool HX.out.symm, by go_grown⟩

theorem madeF_says (l : List Pt) (w : World) : Says 95 #[] madeB l w := fun W p _ _ => madeF p.1.1 p.1.2 p.2.1 p.2.2 W

set_option maxHeartbeats 800000 in
theorem made_is (l : List Pt) (v : Value) (m : List Pt) (t : Bool) (hq : made0 l = (m, t)) (hj : Joined l) (w : World) (hv : RdP w v l) :
    Calls Tryz.prog 70 #[v] w (RetPB w m t) := by
  have HV := Lib.hid hv
  have HJ := Lib.hid hj
  rcases hb0 : l.any badPt with _ | _
  · rw [made0_yes hb0] at hq
    obtain ⟨rfl, ht⟩ := Prod.mk.inj hq
    have HT := Lib.hid ht
    have HB := Lib.hid hb0
    have HA := Lib.hid (show l.any madeB = false by rw [any_made hj.unit]; exact hb0)
    have hl2 := simpleQ_len l
    have hl3 := hj.len
    clear hv hj hq hb0 ht
    go_enter Tryz.func70, Tryz.ntmps70
    go_wp2_with fail
    refine (containsMade madeB l v _ (HV.out.keep (by go_grown)) (madeF_says _ _)).mono ?_
    rintro e w1 ⟨he, hb⟩
    rw [HA.out] at he
    subst he
    have hX : Below w.heap.size w w1 := nextX (by go_grown) hb
    have hB : Below w.heap.size w w1 := hX
    clear hb hX
    go_wp2_with fail
    have hz1 := hB.size
    refine (simple_is l v _ (HV.out.keep (nextX hB (by go_grown))) (riseC_of HJ.out.unit HJ.out.up HB.out) HJ.out.len).mono ?_
    rintro e w2 ⟨r, rfl, ow, hb⟩
    have hX : Below w1.heap.size w1 w2 := nextX (by go_grown) hb
    replace hB := nextW hB hX
    clear hb hX
    go_wp2_with fail
    refine (isMap_is (simpleQ l) r t _ (ow.read.keep (by go_grown)) (by omega) HT.out).mono ?_
    rintro e w3 ⟨rfl, hb⟩
    have hX : Below w2.heap.size w2 w3 := nextX (by go_grown) hb
    replace ow := ow.keep hX
    replace hB := nextW hB hX
    clear hb hX
    go_wp2_with fail
    go_ret2
    exact ⟨_, rfl, ow.low hz1, hB⟩
  · rw [made0_no hb0] at hq
    obtain ⟨rfl, rfl⟩ := Prod.mk.inj hq
    have HA := Lib.hid (show l.any madeB = true by rw [any_made hj.unit]; exact hb0)
    clear hv hj hq hb0
    go_enter Tryz.func70, Tryz.ntmps70
    go_wp2_with fail
    refine (containsMade madeB l v _ (HV.out.keep (by go_grown)) (madeF_says _ _)).mono ?_
    rintro e w1 ⟨he, hb⟩
    rw [HA.out] at he
    subst he
    have hX : Below w.heap.size w w1 := nextX (by go_grown) hb
    have hB : Below w.heap.size w w1 := hX
    clear hb hX
    go_wp2_with fail
    go_ret2
    exact ⟨_, rfl, World.ownsRow_nil _ _ _ _, hB⟩

set_option maxHeartbeats 800000 in
theorem finish_is (l : List Pt) (v : Value) (bad : Bool) (m : List Pt) (t : Bool) (gc : Nat) (hq : (if bad = true then ([], false) else madeQ l) = (m, t)) (hj : Joined l) (w : World) (hs : w.cell? ⟨gc, 0, none⟩ = some (.bool bad)) (hv : RdP w v l) :
    Calls Tryz.prog 31 #[.pointer (some ⟨gc, 0, none⟩), v] w (RetPB w m t) := by
  have HV := Lib.hid hv
  have HJ := Lib.hid hj
  rcases bad with _ | _
  · simp only [Bool.false_eq_true, if_false] at hq
    rw [madeQ_of] at hq
    rcases hm : made0 l with ⟨m1, t1⟩
    rw [hm] at hq
    have HM := Lib.hid hm
    rcases t1 with _ | _
    · simp only [Bool.false_eq_true, if_false] at hq
      obtain ⟨rfl, rfl⟩ := Prod.mk.inj hq
      clear hv hj hq hm
      go_enter Tryz.func31, Tryz.ntmps31
      go_wp2_with fail
      refine (made_is l v m1 false HM.out HJ.out _ (HV.out.keep (by go_grown))).mono ?_
      rintro e w1 ⟨r, rfl, ow, hb⟩
      have hX : Below w.heap.size w w1 := nextX (by go_grown) hb
      have hB : Below w.heap.size w w1 := hX
      clear hb hX
      go_wp2_with fail
      go_ret2
      exact ⟨_, rfl, World.ownsRow_nil _ _ _ _, hB⟩
    · simp only [if_true] at hq
      obtain ⟨rfl, rfl⟩ := Prod.mk.inj hq
      clear hv hj hq hm
      go_enter Tryz.func31, Tryz.ntmps31
      go_wp2_with fail
      refine (made_is l v m1 true HM.out HJ.out _ (HV.out.keep (by go_grown))).mono ?_
      rintro e w1 ⟨r, rfl, ow, hb⟩
      have hX : Below w.heap.size w w1 := nextX (by go_grown) hb
      have hB : Below w.heap.size w w1 := hX
      clear hb hX
      go_wp2_with fail
      go_ret2
      exact ⟨_, rfl, ow, hB⟩
  · simp only [if_true] at hq
    obtain ⟨rfl, rfl⟩ := Prod.mk.inj hq
    clear hv hj hq
    go_enter Tryz.func31, Tryz.ntmps31
    go_wp2_with fail
    go_ret2
    exact ⟨_, rfl, World.ownsRow_nil _ _ _ _, Below.refl _ _⟩

set_option maxHeartbeats 1600000 in
theorem coIf_is (l : List Pt) (v : Value) (m : List Pt) (t : Bool) (hq : madeQ l = (m, t)) (hj : Joined l) (w : World) (hv : RdP w v l) :
    Calls Tryz.prog 28 #[v] w (RetPB w m t) := by
  have HV := Lib.hid hv
  have HJ := Lib.hid hj
  have HQ := Lib.hid hq
  have hl3 := hj.len
  obtain ⟨A, c, rfl, hl, hm9, hcell⟩ := hv
  unfold maxLen at hm9
  have HC := Lib.hid hcell
  clear hcell hj hq
  go_enter Tryz.func28, Tryz.ntmps28
  go_wp2_with fail
  go_loopw [9] (fun i wr => RelCo l w i wr) (fun i _ => l.length - (intOf i).toNat)
  case atStart => exact ⟨0, Nat.zero_le _, rfl, fun _ _ h => absurd h (Nat.not_lt_zero _), Below.refl _ _⟩
  case round =>
    obtain ⟨k, hk, rfl, hgo, hb⟩ := hrel
    have hzr := hb.size
    have HG := Lib.hid hgo
    clear hgo
    by_cases hlt : k < l.length
    · obtain ⟨g, o, rfl, hg, hc⟩ := HC.out (by intro h; rw [h] at hlt; simp at hlt)
      have hp := List.getElem?_eq_getElem hlt
      obtain ⟨c0, c1, c2, c3⟩ := hc k _ hp
      generalize l[k] = p at *
      obtain ⟨⟨p1, p2⟩, p3, p4⟩ := p
      rw [← hb.cell (p := ⟨g, _, none⟩) hg] at c0 c1 c2 c3
      simp only at c0 c1 c2 c3
      have HP := Lib.hid hp
      clear hc hp HC
      rcases hx : coordQ p1 p2 with _ | _
      · have HX := Lib.hid hx
        have hq := HQ.out
        rw [madeQ_of, made0_no (oneBad HP.out (by simp [badPt, hx]))] at hq
        simp only [Bool.false_eq_true, if_false] at hq
        obtain ⟨rfl, rfl⟩ := Prod.mk.inj hq
        clear hq
        clear hx
        go_wp2_with fail
        refine (imCoord_is p1 p2 false HX.out _).mono ?_
        rintro e w1 ⟨rfl, hb1⟩
        have hB : Below w.heap.size w w1 := nextB (by go_grown) (by go_size) hb1
        clear hb1 c0 c1 c2 c3
        go_wp2_with fail
        go_ret2
        exact ⟨_, rfl, World.ownsRow_nil _ _ _ _, hB⟩
      · rcases hy : coordQ p3 p4 with _ | _
        · have HX := Lib.hid hx
          have HY := Lib.hid hy
          have hq := HQ.out
          rw [madeQ_of, made0_no (oneBad HP.out (by simp [badPt, hy]))] at hq
          simp only [Bool.false_eq_true, if_false] at hq
          obtain ⟨rfl, rfl⟩ := Prod.mk.inj hq
          clear hq
          clear hx hy
          go_wp2_with fail
          refine (imCoord_is p1 p2 true HX.out _).mono ?_
          rintro e w1 ⟨rfl, hb1⟩
          have hB : Below w.heap.size w w1 := nextB (by go_grown) (by go_size) hb1
          have d2 : w1.cell? ⟨wr.heap.size, 2, none⟩ = some (.int .i64 p3) := cellB hb1 (by simp [go_sem])
          have d3 : w1.cell? ⟨wr.heap.size, 3, none⟩ = some (.int .i64 p4) := cellB hb1 (by simp [go_sem])
          clear hb1 c0 c1 c2 c3
          go_wp2_with fail
          refine (imCoord_is p3 p4 false HY.out _).mono ?_
          rintro e w2 ⟨rfl, hb1⟩
          replace hB := nextW hB (nextX (by go_grown) hb1)
          clear hb1 d2 d3
          go_wp2_with fail
          go_ret2
          exact ⟨_, rfl, World.ownsRow_nil _ _ _ _, hB⟩
        · have HX := Lib.hid hx
          have HY := Lib.hid hy
          have HN := Lib.hid (show badPt ((p1, p2), p3, p4) = false by simp [badPt, hx, hy])
          clear hx hy
          go_wp2_with fail
          refine (imCoord_is p1 p2 true HX.out _).mono ?_
          rintro e w1 ⟨rfl, hb1⟩
          have hB : Below w.heap.size w w1 := nextB (by go_grown) (by go_size) hb1
          have d2 : w1.cell? ⟨wr.heap.size, 2, none⟩ = some (.int .i64 p3) := cellB hb1 (by simp [go_sem])
          have d3 : w1.cell? ⟨wr.heap.size, 3, none⟩ = some (.int .i64 p4) := cellB hb1 (by simp [go_sem])
          clear hb1 c0 c1 c2 c3
          go_wp2_with fail
          refine (imCoord_is p3 p4 true HY.out _).mono ?_
          rintro e w2 ⟨rfl, hb1⟩
          replace hB := nextW hB (nextX (by go_grown) hb1)
          clear hb1 d2 d3
          go_wp2_with fail
          go_roundw
          case rel => exact ⟨k + 1, by omega, by go_num, fun j p hj hp => by
              rcases Nat.lt_or_ge j k with h | h
              · exact HG.out j p h hp
              · obtain rfl : j = k := by omega
                have := HP.out; rw [hp] at this; cases this; exact HN.out, hB⟩
          case measure => simp [intOf]; omega
    · obtain rfl : k = l.length := by omega
      have hab := allGood HG.out
      have HAB := Lib.hid hab
      have hq := HQ.out
      rw [madeQ_of, made0_yes hab] at hq
      simp only at hq
      have hzl := simpleQ_len l
      rcases hm : okMap (simpleQ l) with _ | _
      · have HM := Lib.hid hm
        rw [hm] at hq
        simp only [Bool.false_eq_true, if_false] at hq
        obtain ⟨rfl, rfl⟩ := Prod.mk.inj hq
        clear hq hm hab
        go_wp2_with fail
        refine (coSimple_is l _ _ (HV.out.keep (by go_grown)) (riseC_of HJ.out.unit HJ.out.up HAB.out) HJ.out.len).mono ?_
        rintro e w1 ⟨r, rfl, ow, hb1⟩
        have hB : Below w.heap.size w w1 := nextB (by go_grown) (by go_size) hb1
        clear hb1
        go_wp2_with fail
        refine (imGood_is (simpleQ l) r false _ (ow.read.keep (by go_grown)) (by omega) HM.out).mono ?_
        rintro e w2 ⟨rfl, hb1⟩
        replace hB := nextW hB (nextX (by go_grown) hb1)
        clear hb1 ow
        go_wp2_with fail
        go_ret2
        exact ⟨_, rfl, World.ownsRow_nil _ _ _ _, hB⟩
      · have HM := Lib.hid hm
        rw [hm] at hq
        simp only [if_true] at hq
        obtain ⟨rfl, rfl⟩ := Prod.mk.inj hq
        clear hq hm hab
        go_wp2_with fail
        refine (coSimple_is l _ _ (HV.out.keep (by go_grown)) (riseC_of HJ.out.unit HJ.out.up HAB.out) HJ.out.len).mono ?_
        rintro e w1 ⟨r, rfl, ow, hb1⟩
        have hB : Below w.heap.size w w1 := nextB (by go_grown) (by go_size) hb1
        clear hb1
        go_wp2_with fail
        refine (imGood_is (simpleQ l) r true _ (ow.read.keep (by go_grown)) (by omega) HM.out).mono ?_
        rintro e w2 ⟨rfl, hb1⟩
        replace hB := nextW hB (nextX (by go_grown) hb1)
        have HO := Lib.hid ((ow.keep (nextX (by go_grown) hb1)).low (b := w.heap.size) hzr)
        clear hb1 ow
        go_wp2_with fail
        go_ret2
        exact ⟨_, rfl, HO.out, hB⟩

end Go.Proofs.YtkaekjhcphgldaaGreat
