/- SimpleMap and AreSameMap of both. -/
import Derived.Test.YtkeajfgcjmhmiaaGreatJ24
namespace Go.Proofs.YtkeajfgcjmhmiaaGreat
open Go.RowKit

/-- What a call leaves that gives a row of points and a bool. -/
def RetPB (w : World) (ps : List Pt) (t : Bool) (e : Ending) (w' : World) : Prop := ∃ r, e = .returned (.tuple #[r, .bool t]) ∧ OwP w.heap.size 51 w' r ps ∧ Below w.heap.size w w'
def simpleMapQ (ps : List Pt) : List Pt × Bool := if okMap ps = true then (simpleQ ps, true) else ([], false)
def RelEq (ps qs : List Pt) (w : World) (i : Value) (wr : World) : Prop := ∃ k : Nat, k ≤ ps.length ∧ i = .int .i64 k ∧ ps.take k = qs.take k ∧ Below w.heap.size w wr
theorem pts_or {a1 a2 a3 a4 b1 b2 b3 b4 : Int} (h : (((a1, a2), a3, a4) : Pt) ≠ ((b1, b2), b3, b4)) :
    (((a1 : Int) == b1) = false) ∨ (((a1 : Int) == b1) = true ∧ ((a2 : Int) == b2) = false) ∨ (((a1 : Int) == b1) = true ∧ ((a2 : Int) == b2) = true ∧ ((a3 : Int) == b3) = false) ∨ (((a1 : Int) == b1) = true ∧ ((a2 : Int) == b2) = true ∧ ((a3 : Int) == b3) = true ∧ ((a4 : Int) == b4) = false) := by
  rcases h1 : ((a1 : Int) == b1) with _ | _
  · exact .inl rfl
  · rcases h2 : ((a2 : Int) == b2) with _ | _
    · exact .inr (.inl ⟨rfl, rfl⟩)
    · rcases h3 : ((a3 : Int) == b3) with _ | _
      · exact .inr (.inr (.inl ⟨rfl, rfl, rfl⟩))
      · rcases h4 : ((a4 : Int) == b4) with _ | _
        · exact .inr (.inr (.inr ⟨rfl, rfl, rfl, rfl⟩))
        · refine absurd ?_ h
          simp at h1 h2 h3 h4
          rw [h1, h2, h3, h4]
theorem take_ne {ps qs : List Pt} {k : Nat} {p q : Pt} (hp : ps[k]? = some p) (hq : qs[k]? = some q) (h : p ≠ q) : decide (ps = qs) = false := by
  rw [decide_eq_false_iff_not]
  rintro rfl
  rw [hp] at hq
  exact h (Option.some.inj hq)

set_option maxHeartbeats 400000 in
theorem iSimpleMap_is (ps : List Pt) (v : Value) (l : List Pt) (t : Bool) (hl : simpleMapQ ps = (l, t)) (w : World) (hv : RdP w v ps) (hn : ps.length ≤ 1048576) :
    Calls Tryz.prog 15 #[v] w (RetPB w l t) := by
  have HV := Lib.hid hv
  rcases hm : okMap ps with _ | _
  · obtain ⟨rfl, rfl⟩ : [] = l ∧ false = t := by unfold simpleMapQ at hl; rw [if_neg (by rw [hm]; simp)] at hl; exact Prod.mk.inj hl
    have HM := Lib.hid hm
    clear hv hl hm
    go_enter Tryz.func15, Tryz.ntmps15
    go_wp2_with fail
    refine (isMap_is ps v false _ (HV.out.keep (by go_grown)) hn HM.out).mono ?_
    rintro e w1 ⟨rfl, hb⟩
    go_wp2_with fail
    go_ret2
    exact ⟨_, rfl, World.ownsRow_nil _ _ _ _, hb⟩
  · obtain ⟨rfl, rfl⟩ : simpleQ ps = l ∧ true = t := by unfold simpleMapQ at hl; rw [if_pos hm] at hl; exact Prod.mk.inj hl
    have HM := Lib.hid hm
    have hlen := okMap_len hm
    clear hv hl hm
    go_enter Tryz.func15, Tryz.ntmps15
    go_wp2_with fail
    refine (isMap_is ps v true _ (HV.out.keep (by go_grown)) hn HM.out).mono ?_
    rintro e w1 ⟨rfl, hb⟩
    have hz := hb.size
    go_wp2_with fail
    refine (simple_is ps v _ (HV.out.keep hb) (okMap_riseC HM.out) (by omega)).mono ?_
    rintro e w2 ⟨r, rfl, ow, hb2⟩
    have HO := Lib.hid (ow.low (b := w.heap.size) hz)
    clear ow
    go_wp2_with fail
    go_ret2
    exact ⟨_, rfl, HO.out, nextW hb hb2⟩

set_option maxHeartbeats 3200000 in
theorem equalPts (ps qs : List Pt) (v u : Value) (w : World) (hv : RdP w v ps) (hu : RdP w u qs) :
    Calls Tryz.prog 85 #[v, u] w fun e w' => e = .returned (.bool (decide (ps = qs))) ∧ Below w.heap.size w w' := by
  obtain ⟨A, c, rfl, hl, hm, hcell⟩ := hv
  obtain ⟨A', c', rfl, hl', hm', hcell'⟩ := hu
  unfold maxLen at hm hm'
  have HC := Lib.hid hcell
  have HC' := Lib.hid hcell'
  clear hcell hcell'
  by_cases hlen : ps.length = qs.length
  rotate_left
  · have HD := Lib.hid (show decide (ps = qs) = false by rw [decide_eq_false_iff_not]; rintro rfl; exact hlen rfl)
    have hb : ((ps.length : Int) == (qs.length : Int)) = false := by simp; omega
    go_enter Tryz.func85, Tryz.ntmps85
    go_wp2_with fail
    go_ret
    exact ⟨ret_bool HD.out.symm, Below.refl _ _⟩
  · have HLn := Lib.hid hlen
    generalize hq0 : qs.length = m at *
    subst hlen
    go_enter Tryz.func85, Tryz.ntmps85
    go_wp2_with fail
    go_loopw [13] (fun i wr => RelEq ps qs w i wr) (fun i _ => ps.length - (intOf i).toNat)
    case atStart => exact ⟨0, Nat.zero_le _, rfl, rfl, Below.refl _ _⟩
    case round =>
      obtain ⟨k, hk, rfl, htk, hb⟩ := hrel
      have HT := Lib.hid htk
      clear htk
      by_cases hlt : k < ps.length
      · obtain ⟨g, o, rfl, hg, hc⟩ := HC.out (by intro h; rw [h] at hlt; simp at hlt)
        obtain ⟨g', o', rfl, hg', hc'⟩ := HC'.out (by intro h; rw [h] at hq0; simp at hq0; omega)
        have hp := List.getElem?_eq_getElem hlt
        have hq := List.getElem?_eq_getElem (show k < qs.length by omega)
        generalize ps[k] = p at *
        generalize qs[k] = q at *
        obtain ⟨⟨a1, a2⟩, a3, a4⟩ := p
        obtain ⟨⟨b1, b2⟩, b3, b4⟩ := q
        obtain ⟨c0, c1, c2, c3⟩ := hc _ _ hp
        obtain ⟨d0, d1, d2, d3⟩ := hc' _ _ hq
        rw [← hb.cell (p := ⟨g, _, none⟩) hg] at c0 c1 c2 c3
        rw [← hb.cell (p := ⟨g', _, none⟩) hg'] at d0 d1 d2 d3
        have HP := Lib.hid hp
        have HQ := Lib.hid hq
        clear hc hc' HC HC' hp hq
        by_cases he : (((a1, a2), a3, a4) : Pt) = ((b1, b2), b3, b4)
        · obtain ⟨h12, h34⟩ := Prod.mk.inj he
          obtain ⟨rfl, rfl⟩ := Prod.mk.inj h12
          obtain ⟨rfl, rfl⟩ := Prod.mk.inj h34
          have HS := Lib.hid (show ps.take (k + 1) = qs.take (k + 1) by rw [take_snoc_get HP.out, take_snoc_get HQ.out, HT.out])
          clear he h12 h34
          go_wp2_with fail
          refine wp_region_below (by kernel_rfl) (by kernel_rfl) ?_
          iterate 9 (first
            | (refine stepS rfl ?_; simp only [Act.put, List.setIfInBounds_toArray, List.set_cons_zero, List.set_cons_succ])
            | (refine stepV (v := ?_) rfl (fun W hW => ?_) ?_
               rotate_left
               focus
                 have qc0 := cellB hW.out c0
                 have qc1 := cellB hW.out c1
                 have qc2 := cellB hW.out c2
                 have qc3 := cellB hW.out c3
                 have qc4 := cellB hW.out d0
                 have qc5 := cellB hW.out d1
                 have qc6 := cellB hW.out d2
                 have qc7 := cellB hW.out d3
                 go_simp
                 try with_reducible rfl
                 done
               simp only [Act.put, List.setIfInBounds_toArray, List.set_cons_zero, List.set_cons_succ]))
          refine stepN ?_
          intro w2 hw2
          have hB2 := nextW hb hw2.out
          clear hw2 c0 c1 c2 c3 d0 d1 d2 d3
          go_wp2_with fail
          go_roundw
          case rel => exact ⟨k + 1, by omega, by go_num, HS.out, hB2⟩
          case measure => simp [intOf]; omega
        · have HF := Lib.hid (take_ne HP.out HQ.out he)
          have hor := pts_or he
          clear he
          rcases hor with e1 | ⟨e1, e2⟩ | ⟨e1, e2, e3⟩ | ⟨e1, e2, e3, e4⟩
          all_goals
          go_wp2_with fail
          refine wp_region_below (by kernel_rfl) (by kernel_rfl) ?_
          iterate 9 (first
            | (refine stepS rfl ?_; simp only [Act.put, List.setIfInBounds_toArray, List.set_cons_zero, List.set_cons_succ])
            | (refine stepV (v := ?_) rfl (fun W hW => ?_) ?_
               rotate_left
               focus
                 have qc0 := cellB hW.out c0
                 have qc1 := cellB hW.out c1
                 have qc2 := cellB hW.out c2
                 have qc3 := cellB hW.out c3
                 have qc4 := cellB hW.out d0
                 have qc5 := cellB hW.out d1
                 have qc6 := cellB hW.out d2
                 have qc7 := cellB hW.out d3
                 go_simp
                 try with_reducible rfl
                 done
               simp only [Act.put, List.setIfInBounds_toArray, List.set_cons_zero, List.set_cons_succ]))
          refine stepN ?_
          intro w2 hw2
          have hB2 := nextW hb hw2.out
          clear hw2 c0 c1 c2 c3 d0 d1 d2 d3
          go_wp2_with fail
          go_ret
          exact ⟨ret_bool HF.out.symm, hB2⟩
      · obtain rfl : k = ps.length := by omega
        have HE := Lib.hid (show decide (ps = qs) = true by rw [decide_eq_true_eq]; have := HT.out; rwa [List.take_of_length_le (Nat.le_refl _), List.take_of_length_le (by omega)] at this)
        go_wp2_with fail
        go_ret
        exact ⟨ret_bool HE.out.symm, hb⟩

set_option maxHeartbeats 3200000 in
theorem coEqual_is (ps qs : List Pt) (v u : Value) (w : World) (hv : RdP w v ps) (hu : RdP w u qs) :
    Calls Tryz.prog 86 #[v, u] w fun e w' => e = .returned (.bool (decide (ps = qs))) ∧ Below w.heap.size w w' := by
  obtain ⟨A, c, rfl, hl, hm, hcell⟩ := hv
  obtain ⟨A', c', rfl, hl', hm', hcell'⟩ := hu
  unfold maxLen at hm hm'
  have HC := Lib.hid hcell
  have HC' := Lib.hid hcell'
  clear hcell hcell'
  by_cases hlen : ps.length = qs.length
  rotate_left
  · have HD := Lib.hid (show decide (ps = qs) = false by rw [decide_eq_false_iff_not]; rintro rfl; exact hlen rfl)
    have hb : ((ps.length : Int) == (qs.length : Int)) = false := by simp; omega
    go_enter Tryz.func86, Tryz.ntmps86
    go_wp2_with fail
    go_ret
    exact ⟨ret_bool HD.out.symm, Below.refl _ _⟩
  · have HLn := Lib.hid hlen
    generalize hq0 : qs.length = m at *
    subst hlen
    go_enter Tryz.func86, Tryz.ntmps86
    go_wp2_with fail
    go_loopw [14] (fun i wr => RelEq ps qs w i wr) (fun i _ => ps.length - (intOf i).toNat)
    case atStart => exact ⟨0, Nat.zero_le _, rfl, rfl, Below.refl _ _⟩
    case round =>
      obtain ⟨k, hk, rfl, htk, hb⟩ := hrel
      have HT := Lib.hid htk
      clear htk
      by_cases hlt : k < ps.length
      · obtain ⟨g, o, rfl, hg, hc⟩ := HC.out (by intro h; rw [h] at hlt; simp at hlt)
        obtain ⟨g', o', rfl, hg', hc'⟩ := HC'.out (by intro h; rw [h] at hq0; simp at hq0; omega)
        have hp := List.getElem?_eq_getElem hlt
        have hq := List.getElem?_eq_getElem (show k < qs.length by omega)
        generalize ps[k] = p at *
        generalize qs[k] = q at *
        obtain ⟨⟨a1, a2⟩, a3, a4⟩ := p
        obtain ⟨⟨b1, b2⟩, b3, b4⟩ := q
        obtain ⟨c0, c1, c2, c3⟩ := hc _ _ hp
        obtain ⟨d0, d1, d2, d3⟩ := hc' _ _ hq
        rw [← hb.cell (p := ⟨g, _, none⟩) hg] at c0 c1 c2 c3
        rw [← hb.cell (p := ⟨g', _, none⟩) hg'] at d0 d1 d2 d3
        have HP := Lib.hid hp
        have HQ := Lib.hid hq
        clear hc hc' HC HC' hp hq
        by_cases he : (((a1, a2), a3, a4) : Pt) = ((b1, b2), b3, b4)
        · obtain ⟨h12, h34⟩ := Prod.mk.inj he
          obtain ⟨rfl, rfl⟩ := Prod.mk.inj h12
          obtain ⟨rfl, rfl⟩ := Prod.mk.inj h34
          have HS := Lib.hid (show ps.take (k + 1) = qs.take (k + 1) by rw [take_snoc_get HP.out, take_snoc_get HQ.out, HT.out])
          clear he h12 h34
          go_wp2_with fail
          go_name_world W hW
          have hXW : Below wr.heap.size wr W := by rw [← hW]; go_grown
          have f0 : W.cell? ⟨wr.heap.size, 0, none⟩ = some (.int .i64 a1) := by rw [← hW]; simp [go_sem]
          have f1 : W.cell? ⟨wr.heap.size, 1, none⟩ = some (.int .i64 a2) := by rw [← hW]; simp [go_sem]
          have f2 : W.cell? ⟨wr.heap.size, 2, none⟩ = some (.int .i64 a3) := by rw [← hW]; simp [go_sem]
          have f3 : W.cell? ⟨wr.heap.size, 3, none⟩ = some (.int .i64 a4) := by rw [← hW]; simp [go_sem]
          replace d0 := cellB hXW d0
          replace d1 := cellB hXW d1
          replace d2 := cellB hXW d2
          replace d3 := cellB hXW d3
          replace hb := nextW hb hXW
          clear hW
          refine wp_region_below (by kernel_rfl) (by kernel_rfl) ?_
          iterate 6 (first
            | (refine stepS rfl ?_; simp only [Act.put, List.setIfInBounds_toArray, List.set_cons_zero, List.set_cons_succ])
            | (refine stepV (v := ?_) rfl (fun W hW => ?_) ?_
               rotate_left
               focus
                 have qc0 := cellB hW.out f0
                 have qc1 := cellB hW.out f1
                 have qc2 := cellB hW.out f2
                 have qc3 := cellB hW.out f3
                 have qc4 := cellB hW.out d0
                 have qc5 := cellB hW.out d1
                 have qc6 := cellB hW.out d2
                 have qc7 := cellB hW.out d3
                 go_simp
                 try with_reducible rfl
                 done
               simp only [Act.put, List.setIfInBounds_toArray, List.set_cons_zero, List.set_cons_succ]))
          refine stepN ?_
          intro w2 hw2
          have hB2 := nextW hb hw2.out
          clear hw2 c0 c1 c2 c3 d0 d1 d2 d3 f0 f1 f2 f3
          go_wp2_with fail
          go_roundw
          case rel => exact ⟨k + 1, by omega, by go_num, HS.out, hB2⟩
          case measure => simp [intOf]; omega
        · have HF := Lib.hid (take_ne HP.out HQ.out he)
          have hor := pts_or he
          clear he
          rcases hor with e1 | ⟨e1, e2⟩ | ⟨e1, e2, e3⟩ | ⟨e1, e2, e3, e4⟩
          all_goals
          go_wp2_with fail
          go_name_world W hW
          have hXW : Below wr.heap.size wr W := by rw [← hW]; go_grown
          have f0 : W.cell? ⟨wr.heap.size, 0, none⟩ = some (.int .i64 a1) := by rw [← hW]; simp [go_sem]
          have f1 : W.cell? ⟨wr.heap.size, 1, none⟩ = some (.int .i64 a2) := by rw [← hW]; simp [go_sem]
          have f2 : W.cell? ⟨wr.heap.size, 2, none⟩ = some (.int .i64 a3) := by rw [← hW]; simp [go_sem]
          have f3 : W.cell? ⟨wr.heap.size, 3, none⟩ = some (.int .i64 a4) := by rw [← hW]; simp [go_sem]
          replace d0 := cellB hXW d0
          replace d1 := cellB hXW d1
          replace d2 := cellB hXW d2
          replace d3 := cellB hXW d3
          replace hb := nextW hb hXW
          clear hW
          refine wp_region_below (by kernel_rfl) (by kernel_rfl) ?_
          iterate 6 (first
            | (refine stepS rfl ?_; simp only [Act.put, List.setIfInBounds_toArray, List.set_cons_zero, List.set_cons_succ])
            | (refine stepV (v := ?_) rfl (fun W hW => ?_) ?_
               rotate_left
               focus
                 have qc0 := cellB hW.out f0
                 have qc1 := cellB hW.out f1
                 have qc2 := cellB hW.out f2
                 have qc3 := cellB hW.out f3
                 have qc4 := cellB hW.out d0
                 have qc5 := cellB hW.out d1
                 have qc6 := cellB hW.out d2
                 have qc7 := cellB hW.out d3
                 go_simp
                 try with_reducible rfl
                 done
               simp only [Act.put, List.setIfInBounds_toArray, List.set_cons_zero, List.set_cons_succ]))
          refine stepN ?_
          intro w2 hw2
          have hB2 := nextW hb hw2.out
          clear hw2 c0 c1 c2 c3 d0 d1 d2 d3 f0 f1 f2 f3
          go_wp2_with fail
          go_ret
          exact ⟨ret_bool HF.out.symm, hB2⟩
      · obtain rfl : k = ps.length := by omega
        have HE := Lib.hid (show decide (ps = qs) = true by rw [decide_eq_true_eq]; have := HT.out; rwa [List.take_of_length_le (Nat.le_refl _), List.take_of_length_le (by omega)] at this)
        go_wp2_with fail
        go_ret
        exact ⟨ret_bool HE.out.symm, hb⟩

end Go.Proofs.YtkeajfgcjmhmiaaGreat
