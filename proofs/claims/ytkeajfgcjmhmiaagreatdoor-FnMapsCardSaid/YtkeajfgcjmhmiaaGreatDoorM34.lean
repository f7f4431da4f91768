/- simple, imSimple, SimpleMap of both. -/
import Derived.Test.YtkeajfgcjmhmiaaGreatDoorM12
import Derived.Test.YtkeajfgcjmhmiaaGreatDoorM15
namespace Go.Proofs.YtkeajfgcjmhmiaaGreatDoor
open Go.RowKit

/-- The points between the first and the k+1st that are kept. -/
def keptQ (ps : List Pt) : Nat → List Pt
  | 0 => []
  | k + 1 => keptQ ps k ++ (match ps[k]?, ps[k + 1]?, ps[k + 2]? with
    | some p, some q, some r => if slopeQ p q = slopeQ q r then [] else [q]
    | _, _, _ => [])
def simpleQ (ps : List Pt) : List Pt := ps.take 1 ++ keptQ ps (ps.length - 2) ++ ps.drop (ps.length - 1)
theorem keptQ_keep {ps : List Pt} {k : Nat} {p q r : Pt} (hp : ps[k]? = some p) (hq : ps[k + 1]? = some q) (hr : ps[k + 2]? = some r) (h : slopeQ p q ≠ slopeQ q r) : keptQ ps (k + 1) = keptQ ps k ++ [q] := by
  rw [keptQ, hp, hq, hr]; simp only; rw [if_neg h]
theorem keptQ_drop {ps : List Pt} {k : Nat} {p q r : Pt} (hp : ps[k]? = some p) (hq : ps[k + 1]? = some q) (hr : ps[k + 2]? = some r) (h : slopeQ p q = slopeQ q r) : keptQ ps (k + 1) = keptQ ps k := by
  rw [keptQ, hp, hq, hr]; simp only; rw [if_pos h, List.append_nil]
theorem keptQ_len (ps : List Pt) : ∀ k, (keptQ ps k).length ≤ k
  | 0 => Nat.le_refl _
  | k + 1 => by
    have := keptQ_len ps k
    rw [keptQ, List.length_append]
    have h2 : (match ps[k]?, ps[k + 1]?, ps[k + 2]? with
      | some p, some q, some r => if slopeQ p q = slopeQ q r then [] else [q]
      | _, _, _ => ([] : List Pt)).length ≤ 1 := by
      split
      · split <;> simp
      · simp
    omega
theorem simpleQ_len (ps : List Pt) : (simpleQ ps).length ≤ ps.length + 2 := by
  unfold simpleQ
  rw [List.length_append, List.length_append, List.length_take, List.length_drop]
  have := keptQ_len ps (ps.length - 2)
  omega
theorem take_one {ps : List Pt} {p : Pt} (h : ps[0]? = some p) : ps.take 1 = [p] := by
  cases ps with
  | nil => simp at h
  | cons a r => simp at h; subst h; rfl
theorem drop_last {ps : List Pt} {p : Pt} (h : ps[ps.length - 1]? = some p) : ps.drop (ps.length - 1) = [p] := by
  obtain ⟨h1, h2⟩ := List.getElem?_eq_some_iff.1 h
  rw [List.drop_eq_getElem_cons h1, h2, List.drop_eq_nil_of_le (by omega)]

/-- A call that gives a row of points of its own. -/
def RetPs (w : World) (ps : List Pt) (e : Ending) (w' : World) : Prop := ∃ r, e = .returned r ∧ OwP w.heap.size 41 w' r ps ∧ Below w.heap.size w w'
theorem OwP.one (w : World) (base : Nat) (e : TypeId) (a b c d : Int) (hb : base ≤ w.heap.size) : OwP base e (w.alloc (.cells #[.int .i64 a, .int .i64 b, .int .i64 c, .int .i64 d] e)) (.slice (some ⟨w.heap.size, 0, none⟩) 1 1) [((a, b), c, d)] :=
  ⟨rfl, .inr ⟨w.heap.size, 1, _, rfl, hb, heap_alloc_new w _, Nat.le_refl _, by simp [maxLen], rfl, by simp [rowP]⟩⟩

def RelSm (ps : List Pt) (b : Nat) (W0 : World) (out i : Value) (wr : World) : Prop :=
  ∃ k : Nat, k + 2 ≤ ps.length ∧ i = .int .i64 (k + 1) ∧ OwP b 41 wr out (ps.take 1 ++ keptQ ps k) ∧ Below b W0 wr
/-- .. with the last point behind them. -/
def RelSp (ps : List Pt) (b : Nat) (W0 : World) (out i : Value) (wr : World) : Prop :=
  RelSm ps b W0 out i wr ∨ (i = .int .i64 ps.length ∧ OwP b 41 wr out (simpleQ ps) ∧ Below b W0 wr)

set_option maxRecDepth 100000 in
set_option maxHeartbeats 3200000 in
theorem simple_is (ps : List Pt) (v : Value) (w : World) (hv : RdP w v ps) (hr : RiseC ps) (hn : 2 ≤ ps.length ∧ ps.length ≤ 100000) :
    Calls Tryz.prog 27 #[v] w (RetPs w (simpleQ ps)) := by
  have HV := Lib.hid hv
  obtain ⟨A, c, rfl, hl, hm, hcell⟩ := hv
  unfold maxLen at hm
  obtain ⟨g, o, rfl, hg, hc⟩ := hcell (by intro h; rw [h] at hn; simp at hn)
  have HC := Lib.hid hc
  have HR := Lib.hid hr
  clear hcell hc hr
  go_enter Tryz.func27, Tryz.ntmps27
  go_wp2_with fail
  refine (slopes_is ps _ _ (HV.out.keep (by go_grown)) HR.out (by omega)).mono ?_
  rintro e w1 ⟨s, rfl, os, hb1⟩
  have hz1 := hb1.size
  obtain ⟨gs, cs, rfl, hs1, hs2, hs3, hs4, hsc⟩ := os.lit (slopesQ_len ps) (by omega)
  unfold maxLen at hs2
  have HSC := Lib.hid hsc
  clear os hsc
  obtain ⟨⟨⟨p1, p2⟩, p3, p4⟩, hp0⟩ : ∃ p, ps[0]? = some p := ⟨_, List.getElem?_eq_getElem (by omega)⟩
  obtain ⟨c0, c1, c2, c3⟩ := HC.out 0 _ hp0
  rw [Nat.zero_mul, Nat.add_zero] at c0 c1 c2 c3
  replace c0 := cellB hb1 c0
  replace c1 := cellB hb1 c1
  replace c2 := cellB hb1 c2
  replace c3 := cellB hb1 c3
  have HT1 := Lib.hid (take_one hp0)
  have b9 : (0 : Int) < (ps.length : Int) := by omega
  clear hp0
  go_wp2_with fail
  go_name_world W0 hW
  have hB0 : Below w1.heap.size w1 W0 := by rw [← hW]; go_grown
  have HO0 := Lib.hid (show OwP w1.heap.size 41 W0 (.slice (some ⟨w1.heap.size, 0, none⟩) 1 1) [((p1, p2), p3, p4)] by rw [← hW]; exact OwP.one w1 _ _ _ _ _ _ (Nat.le_refl _))
  clear hW c0 c1 c2 c3 b9
  go_loopw [4, 5] (fun out i wr => RelSm ps w1.heap.size W0 out i wr) (fun _ i _ => ps.length - (intOf i).toNat)
  case atStart => exact ⟨0, by omega, rfl, by rw [HT1.out]; exact HO0.out, Below.refl _ _⟩
  case round =>
    obtain ⟨k, hk, rfl, hown, hb⟩ := hrel
    have HO := Lib.hid hown
    have hBr := Below.trans hB0 hb
    have hBw : Below w.heap.size w wr := Below.trans hb1 (hBr.mono hz1)
    have hzr := hBr.size
    have v4 : IntKind.i64.wrap ((ps.length : Int) - 1) = (ps.length : Int) - 1 := IntWalk.i64_in _ (by omega)
    clear hown
    by_cases hlt : k + 2 < ps.length
    · have hp := List.getElem?_eq_getElem (show k < ps.length by omega)
      have hq := List.getElem?_eq_getElem (show k + 1 < ps.length by omega)
      have hr := List.getElem?_eq_getElem hlt
      generalize ps[k] = p at *
      generalize ps[k + 1] = q at *
      generalize ps[k + 2] = r at *
      obtain ⟨⟨s1, s2⟩, hsl⟩ : ∃ s, slopeQ p q = s := ⟨_, rfl⟩
      obtain ⟨⟨t1, t2⟩, htl⟩ : ∃ s, slopeQ q r = s := ⟨_, rfl⟩
      obtain ⟨e0, e1⟩ := HSC.out k _ ((slopesQ_get hp hq).trans (congrArg some hsl))
      obtain ⟨e2, e3⟩ := HSC.out (k + 1) _ ((slopesQ_get hq hr).trans (congrArg some htl))
      replace e0 := (hBr.cell (p := ⟨gs, _, none⟩) hs4).trans e0
      replace e1 := (hBr.cell (p := ⟨gs, _, none⟩) hs4).trans e1
      replace e2 := (hBr.cell (p := ⟨gs, _, none⟩) hs4).trans e2
      replace e3 := (hBr.cell (p := ⟨gs, _, none⟩) hs4).trans e3
      have b0 : (0 : Int) ≤ (k : Int) := by omega
      have b1 : (k : Int) < ((ps.length - 1 : Nat) : Int) := by omega
      have b2 : (k : Int) + 1 < ((ps.length - 1 : Nat) : Int) := by omega
      have b3 : (0 : Int) ≤ (k : Int) + 1 := by omega
      have b4 : (k : Int) + 1 < (ps.length : Int) - 1 := by omega
      have t2' : ((k : Int) + 1).toNat = k + 1 := by omega
      have v2 : IntKind.i64.wrap ((k : Int) + 1) = (k : Int) + 1 := IntWalk.i64_in _ (by omega)
      have v3 : IntKind.i64.wrap (k : Int) = (k : Int) := IntWalk.i64_in _ (by omega)
      by_cases he : slopeQ p q = slopeQ q r
      · have HN := Lib.hid (show OwP w1.heap.size 41 wr u4 (ps.take 1 ++ keptQ ps (k + 1)) by rw [keptQ_drop hp hq hr he]; exact HO.out)
        rw [hsl, htl] at he
        obtain ⟨rfl, rfl⟩ := Prod.mk.inj he
        clear he hsl htl hp hq hr
        go_wp2_with fail
        refine wp_region_below (by kernel_rfl) (by kernel_rfl) ?_
        iterate 10 (first
          | (refine stepS rfl ?_; simp only [Act.put, List.setIfInBounds_toArray, List.set_cons_zero, List.set_cons_succ])
          | (refine stepV (v := ?_) rfl (fun W hW => ?_) ?_
             rotate_left
             focus
               have qc0 := cellB hW.out e0
               have qc1 := cellB hW.out e1
               have qc2 := cellB hW.out e2
               have qc3 := cellB hW.out e3
               go_simp
               try with_reducible rfl
               done
             simp only [Act.put, List.setIfInBounds_toArray, List.set_cons_zero, List.set_cons_succ]))
        refine stepN ?_
        intro w2 hw2
        have hB2 := Below.trans hb (hw2.out.mono hzr)
        have HN2 := Lib.hid (HN.out.keep hw2.out)
        clear hw2 e0 e1 e2 e3 v2 v3 v4 t2' b0 b1 b2 b3
        go_wp2_with fail
        go_roundw
        case rel => exact ⟨k + 1, by omega, by go_num, HN2.out, hB2⟩
        case measure => simp [intOf]; omega
      · have HN := Lib.hid (keptQ_keep hp hq hr he)
        rw [hsl, htl] at he
        have hcq := HC.out (k + 1) _ hq
        obtain ⟨⟨q1, q2⟩, q3, q4⟩ := q
        obtain ⟨d0, d1, d2, d3⟩ := hcq
        replace d0 := (hBw.cell (p := ⟨g, _, none⟩) hg).trans d0
        replace d1 := (hBw.cell (p := ⟨g, _, none⟩) hg).trans d1
        replace d2 := (hBw.cell (p := ⟨g, _, none⟩) hg).trans d2
        replace d3 := (hBw.cell (p := ⟨g, _, none⟩) hg).trans d3
        have hor : (((s1 : Int) == t1) = false) ∨ (((s1 : Int) == t1) = true ∧ ((s2 : Int) == t2) = false) := by
          rcases h1 : ((s1 : Int) == t1) with _ | _
          · exact .inl rfl
          · rcases h2 : ((s2 : Int) == t2) with _ | _
            · exact .inr ⟨rfl, rfl⟩
            · exact absurd (Prod.ext (by simpa using h1) (by simpa using h2)) he
        clear he hsl htl hp hq hr
        rcases hor with he1 | ⟨he1, he2⟩
        all_goals
        go_wp2_with fail
        refine wp_region_below (by kernel_rfl) (by kernel_rfl) ?_
        iterate 10 (first
          | (refine stepS rfl ?_; simp only [Act.put, List.setIfInBounds_toArray, List.set_cons_zero, List.set_cons_succ])
          | (refine stepV (v := ?_) rfl (fun W hW => ?_) ?_
             rotate_left
             focus
               have qc0 := cellB hW.out e0
               have qc1 := cellB hW.out e1
               have qc2 := cellB hW.out e2
               have qc3 := cellB hW.out e3
               go_simp
               try with_reducible rfl
               done
             simp only [Act.put, List.setIfInBounds_toArray, List.set_cons_zero, List.set_cons_succ]))
        refine stepN ?_
        intro w2 hw2
        have hB2 := Below.trans hb (hw2.out.mono hzr)
        have HO2 := Lib.hid (HO.out.keep hw2.out)
        have hz2 := hw2.out.size
        replace d0 := cellB hw2.out d0
        replace d1 := cellB hw2.out d1
        replace d2 := cellB hw2.out d2
        replace d3 := cellB hw2.out d3
        clear hw2 e0 e1 e2 e3
        have b5 : (k : Int) + 1 < (ps.length : Int) := by omega
        go_wp2_with (at_builtin; refine append_p1 _ rfl _ _ rfl w1.heap.size _ (ps.take 1 ++ keptQ ps k) rfl ?own _ _ q1 q2 q3 q4 rfl ?c0 ?c1 ?c2 ?c3 ?len ?base ?_)
        case own => exact (HO2.out.keep (by go_grown))
        case c0 => simp [go_sem]
        case c1 => simp [go_sem]
        case c2 => simp [go_sem]
        case c3 => simp [go_sem]
        case len => have := keptQ_len ps k; rw [List.length_append, List.length_take]; omega
        case base => go_size
        intro v' w' hown hg
        have hB3 : Below w1.heap.size W0 w' := Below.trans (by go_grown) hg
        have HO3 := Lib.hid (show OwP w1.heap.size 41 w' v' (ps.take 1 ++ keptQ ps (k + 1)) by rw [HN.out]; simpa only [List.append_assoc] using hown)
        clear hown hg d0 d1 d2 d3 v2 v3 v4 t2' b0 b1 b2 b3 b5
        go_wp2_with fail
        go_roundw
        case rel => exact ⟨k + 1, by omega, by go_num, HO3.out, hB3⟩
        case measure => simp [intOf]; omega
    · obtain rfl : k = ps.length - 2 := by omega
      obtain ⟨⟨⟨q1, q2⟩, q3, q4⟩, hq⟩ : ∃ q, ps[ps.length - 1]? = some q := ⟨_, List.getElem?_eq_getElem (by omega)⟩
      obtain ⟨d0, d1, d2, d3⟩ := HC.out _ _ hq
      replace d0 := (hBw.cell (p := ⟨g, _, none⟩) hg).trans d0
      replace d1 := (hBw.cell (p := ⟨g, _, none⟩) hg).trans d1
      replace d2 := (hBw.cell (p := ⟨g, _, none⟩) hg).trans d2
      replace d3 := (hBw.cell (p := ⟨g, _, none⟩) hg).trans d3
      have HD := Lib.hid (drop_last hq)
      clear hq
      have hge : (ps.length : Int) - 1 ≤ ((ps.length - 2 : Nat) : Int) + 1 := by omega
      generalize hK : ps.length - 2 = K at *
      have hge2 : decide ((K : Int) + 1 < (ps.length : Int) - 1) = false := by rw [decide_eq_false_iff_not]; omega
      have hge3 : ¬ ((K : Int) + 1 < (ps.length : Int) - 1) := by omega
      have b0 : (0 : Int) ≤ (ps.length : Int) - 1 := by omega
      have b1 : (ps.length : Int) - 1 < (ps.length : Int) := by omega
      have t4 : ((ps.length : Int) - 1).toNat = ps.length - 1 := by omega
      go_wp2_with (at_builtin; refine append_p1 _ rfl _ _ rfl w1.heap.size _ (ps.take 1 ++ keptQ ps K) rfl ?own _ _ q1 q2 q3 q4 rfl ?c0 ?c1 ?c2 ?c3 ?len ?base ?_)
      case own => exact (HO.out.keep (by go_grown))
      case len => have := keptQ_len ps K; omega
      case base => go_size
      intro v' w' hown hg
      have hB3 : Below w.heap.size w w' := Below.trans (by go_grown) (hg.mono hz1)
      have HO3 := Lib.hid (show OwP w.heap.size 41 w' v' (simpleQ ps) by unfold simpleQ; rw [HD.out, hK]; have h5 := hown.low hz1; simpa only [List.append_assoc] using h5)
      clear hown hg d0 d1 d2 d3
      go_wp2_with fail
      go_ret
      exact ⟨_, rfl, HO3.out, hB3⟩

set_option maxRecDepth 100000 in
set_option maxHeartbeats 3200000 in
theorem imSimple_is (ps : List Pt) (v : Value) (w : World) (hv : RdP w v ps) (hr : RiseC ps) (hn : 2 ≤ ps.length ∧ ps.length ≤ 100000) :
    Calls Tryz.prog 28 #[v] w (RetPs w (simpleQ ps)) := by
  obtain ⟨A, c, rfl, hl, hm, hcell⟩ := hv
  unfold maxLen at hm
  obtain ⟨g, o, rfl, hg, hc⟩ := hcell (by intro h; rw [h] at hn; simp at hn)
  have HC := Lib.hid hc
  have HR := Lib.hid hr
  clear hcell hc hr
  obtain ⟨⟨⟨p1, p2⟩, p3, p4⟩, hp0⟩ : ∃ p, ps[0]? = some p := ⟨_, List.getElem?_eq_getElem (by omega)⟩
  obtain ⟨c0, c1, c2, c3⟩ := HC.out 0 _ hp0
  rw [Nat.zero_mul, Nat.add_zero] at c0 c1 c2 c3
  have HT1 := Lib.hid (take_one hp0)
  have b9 : (0 : Int) < (ps.length : Int) := by omega
  clear hp0
  go_enter Tryz.func28, Tryz.ntmps28
  go_wp2_with fail
  go_name_world W0 hW
  have hB0 : Below w.heap.size w W0 := by rw [← hW]; go_grown
  have HO0 := Lib.hid (show OwP w.heap.size 41 W0 (.slice (some ⟨w.heap.size, 0, none⟩) 1 1) [((p1, p2), p3, p4)] by rw [← hW]; exact OwP.one w _ _ _ _ _ _ (Nat.le_refl _))
  clear hW c0 c1 c2 c3 b9
  go_loopw [3, 4] (fun out i wr => RelSp ps w.heap.size W0 out i wr) (fun _ i _ => ps.length - (intOf i).toNat)
  case atStart => exact .inl ⟨0, by omega, rfl, by rw [HT1.out]; exact HO0.out, Below.refl _ _⟩
  case round =>
    rcases hrel with ⟨k, hk, rfl, hown, hb⟩ | ⟨rfl, hown, hb⟩
    rotate_left
    · have HO := Lib.hid hown
      clear hown
      go_wp2_with fail
      go_ret
      exact ⟨_, rfl, HO.out, Below.trans hB0 hb⟩
    have HO := Lib.hid hown
    have hBw := Below.trans hB0 hb
    have hzr := hBw.size
    clear hown
    have b0 : (0 : Int) ≤ (k : Int) := by omega
    have b1 : (k : Int) < (ps.length : Int) := by omega
    have b2 : (k : Int) + 1 < (ps.length : Int) := by omega
    have b3 : (0 : Int) ≤ (k : Int) + 1 := by omega
    have t2' : ((k : Int) + 1).toNat = k + 1 := by omega
    have v2 : IntKind.i64.wrap ((k : Int) + 1) = (k : Int) + 1 := IntWalk.i64_in _ (by omega)
    have v3 : IntKind.i64.wrap (k : Int) = (k : Int) := IntWalk.i64_in _ (by omega)
    have v5 : IntKind.i64.wrap ((k : Int) + 1 + 1) = (k : Int) + 1 + 1 := IntWalk.i64_in _ (by omega)
    have b8 : (0 : Int) ≤ (k : Int) + 1 + 1 := by omega
    have t8 : ((k : Int) + 1 + 1).toNat = k + 2 := by omega
    have hq := List.getElem?_eq_getElem (show k + 1 < ps.length by omega)
    generalize ps[k + 1] = q at *
    by_cases hlt : k + 2 < ps.length
    · have hp := List.getElem?_eq_getElem (show k < ps.length by omega)
      have hr := List.getElem?_eq_getElem hlt
      generalize ps[k] = p at *
      generalize ps[k + 2] = r at *
      obtain ⟨⟨s1, s2⟩, hsl⟩ : ∃ s, slopeQ p q = s := ⟨_, rfl⟩
      obtain ⟨⟨t1, t2⟩, htl⟩ : ∃ s, slopeQ q r = s := ⟨_, rfl⟩
      have kp := HR.out.coord _ _ hp
      have kq := HR.out.coord _ _ hq
      have kr := HR.out.coord _ _ hr
      have HS1 := Lib.hid (imSlope_is kp.1 kp.2 kq.1 kq.2 (HR.out.rise _ _ _ hp hq) hsl)
      have HS2 := Lib.hid (imSlope_is kq.1 kq.2 kr.1 kr.2 (HR.out.rise _ _ _ hq hr) htl)
      clear kp kq kr
      have b6 : (k : Int) + 1 + 1 < (ps.length : Int) := by omega
      have b7 : ((k : Int) + 1 + 1 == (ps.length : Int)) = false := by simp; omega
      by_cases he : slopeQ p q = slopeQ q r
      · have HN := Lib.hid (show OwP w.heap.size 41 wr u3 (ps.take 1 ++ keptQ ps (k + 1)) by rw [keptQ_drop hp hq hr he]; exact HO.out)
        rw [hsl, htl] at he
        obtain ⟨rfl, rfl⟩ := Prod.mk.inj he
        have hc := HC.out (k) _ hp
        obtain ⟨⟨p1, p2⟩, p3, p4⟩ := p
        obtain ⟨c0, c1, c2, c3⟩ := hc
        replace c0 := (hBw.cell (p := ⟨g, _, none⟩) hg).trans c0
        replace c1 := (hBw.cell (p := ⟨g, _, none⟩) hg).trans c1
        replace c2 := (hBw.cell (p := ⟨g, _, none⟩) hg).trans c2
        replace c3 := (hBw.cell (p := ⟨g, _, none⟩) hg).trans c3
        have hd := HC.out (k + 1) _ hq
        obtain ⟨⟨q1, q2⟩, q3, q4⟩ := q
        obtain ⟨d0, d1, d2, d3⟩ := hd
        replace d0 := (hBw.cell (p := ⟨g, _, none⟩) hg).trans d0
        replace d1 := (hBw.cell (p := ⟨g, _, none⟩) hg).trans d1
        replace d2 := (hBw.cell (p := ⟨g, _, none⟩) hg).trans d2
        replace d3 := (hBw.cell (p := ⟨g, _, none⟩) hg).trans d3
        have hf := HC.out (k + 2) _ hr
        obtain ⟨⟨r1, r2⟩, r3, r4⟩ := r
        obtain ⟨f0, f1, f2, f3⟩ := hf
        replace f0 := (hBw.cell (p := ⟨g, _, none⟩) hg).trans f0
        replace f1 := (hBw.cell (p := ⟨g, _, none⟩) hg).trans f1
        replace f2 := (hBw.cell (p := ⟨g, _, none⟩) hg).trans f2
        replace f3 := (hBw.cell (p := ⟨g, _, none⟩) hg).trans f3
        clear he hsl htl hp hq hr
        go_wp2_with fail
        refine wp_region_below (by kernel_rfl) (by kernel_rfl) ?_
        iterate 28 (first
          | (refine stepS rfl ?_; simp only [Act.put, List.setIfInBounds_toArray, List.set_cons_zero, List.set_cons_succ])
          | (refine stepV (v := ?_) rfl (fun W hW => ?_) ?_
             rotate_left
             focus
               have qc0 := cellB hW.out c0
               have qc1 := cellB hW.out c1
               have qc2 := cellB hW.out c2
               have qc3 := cellB hW.out c3
               have qc4 := cellB hW.out d0
               have qc5 := cellB hW.out d1
               have qc6 := cellB hW.out d2
               have qc7 := cellB hW.out d3
               have qc8 := cellB hW.out f0
               have qc9 := cellB hW.out f1
               have qc10 := cellB hW.out f2
               have qc11 := cellB hW.out f3
               go_simp
               try with_reducible rfl
               done
             simp only [Act.put, List.setIfInBounds_toArray, List.set_cons_zero, List.set_cons_succ])
          | (refine stepC rfl (fun W hW => ?_) (fun W hW => callB hW ((HS1.out _))) ?_
             focus
               go_simp
               try with_reducible rfl
               done
             simp only [Act.put, List.setIfInBounds_toArray, List.set_cons_zero, List.set_cons_succ])
          | (refine stepC rfl (fun W hW => ?_) (fun W hW => callB hW ((HS2.out _))) ?_
             focus
               go_simp
               try with_reducible rfl
               done
             simp only [Act.put, List.setIfInBounds_toArray, List.set_cons_zero, List.set_cons_succ]))
        refine stepN ?_
        intro w2 hw2
        have hB2 := Below.trans hb (hw2.out.mono hzr)
        have HN2 := Lib.hid (HN.out.keep hw2.out)
        clear hw2 c0 c1 c2 c3 d0 d1 d2 d3 f0 f1 f2 f3 v2 v3 v5 t2' t8 b0 b1 b2 b3 b7 b8
        go_wp2_with fail
        go_roundw
        case rel => exact .inl ⟨k + 1, by omega, by go_num, HN2.out, hB2⟩
        case measure => simp [intOf]; omega
      · have HN := Lib.hid (keptQ_keep hp hq hr he)
        rw [hsl, htl] at he
        have hc := HC.out (k) _ hp
        obtain ⟨⟨p1, p2⟩, p3, p4⟩ := p
        obtain ⟨c0, c1, c2, c3⟩ := hc
        replace c0 := (hBw.cell (p := ⟨g, _, none⟩) hg).trans c0
        replace c1 := (hBw.cell (p := ⟨g, _, none⟩) hg).trans c1
        replace c2 := (hBw.cell (p := ⟨g, _, none⟩) hg).trans c2
        replace c3 := (hBw.cell (p := ⟨g, _, none⟩) hg).trans c3
        have hd := HC.out (k + 1) _ hq
        obtain ⟨⟨q1, q2⟩, q3, q4⟩ := q
        obtain ⟨d0, d1, d2, d3⟩ := hd
        replace d0 := (hBw.cell (p := ⟨g, _, none⟩) hg).trans d0
        replace d1 := (hBw.cell (p := ⟨g, _, none⟩) hg).trans d1
        replace d2 := (hBw.cell (p := ⟨g, _, none⟩) hg).trans d2
        replace d3 := (hBw.cell (p := ⟨g, _, none⟩) hg).trans d3
        have hf := HC.out (k + 2) _ hr
        obtain ⟨⟨r1, r2⟩, r3, r4⟩ := r
        obtain ⟨f0, f1, f2, f3⟩ := hf
        replace f0 := (hBw.cell (p := ⟨g, _, none⟩) hg).trans f0
        replace f1 := (hBw.cell (p := ⟨g, _, none⟩) hg).trans f1
        replace f2 := (hBw.cell (p := ⟨g, _, none⟩) hg).trans f2
        replace f3 := (hBw.cell (p := ⟨g, _, none⟩) hg).trans f3
        have hor : (((s1 : Int) == t1) = false) ∨ (((s1 : Int) == t1) = true ∧ ((s2 : Int) == t2) = false) := by
          rcases h1 : ((s1 : Int) == t1) with _ | _
          · exact .inl rfl
          · rcases h2 : ((s2 : Int) == t2) with _ | _
            · exact .inr ⟨rfl, rfl⟩
            · exact absurd (Prod.ext (by simpa using h1) (by simpa using h2)) he
        clear he hsl htl hp hq hr
        rcases hor with he1 | ⟨he1, he2⟩
        all_goals
        go_wp2_with fail
        refine wp_region_below (by kernel_rfl) (by kernel_rfl) ?_
        iterate 28 (first
          | (refine stepS rfl ?_; simp only [Act.put, List.setIfInBounds_toArray, List.set_cons_zero, List.set_cons_succ])
          | (refine stepV (v := ?_) rfl (fun W hW => ?_) ?_
             rotate_left
             focus
               have qc0 := cellB hW.out c0
               have qc1 := cellB hW.out c1
               have qc2 := cellB hW.out c2
               have qc3 := cellB hW.out c3
               have qc4 := cellB hW.out d0
               have qc5 := cellB hW.out d1
               have qc6 := cellB hW.out d2
               have qc7 := cellB hW.out d3
               have qc8 := cellB hW.out f0
               have qc9 := cellB hW.out f1
               have qc10 := cellB hW.out f2
               have qc11 := cellB hW.out f3
               go_simp
               try with_reducible rfl
               done
             simp only [Act.put, List.setIfInBounds_toArray, List.set_cons_zero, List.set_cons_succ])
          | (refine stepC rfl (fun W hW => ?_) (fun W hW => callB hW ((HS1.out _))) ?_
             focus
               go_simp
               try with_reducible rfl
               done
             simp only [Act.put, List.setIfInBounds_toArray, List.set_cons_zero, List.set_cons_succ])
          | (refine stepC rfl (fun W hW => ?_) (fun W hW => callB hW ((HS2.out _))) ?_
             focus
               go_simp
               try with_reducible rfl
               done
             simp only [Act.put, List.setIfInBounds_toArray, List.set_cons_zero, List.set_cons_succ]))
        refine stepN ?_
        intro w2 hw2
        have hB2 := Below.trans hb (hw2.out.mono hzr)
        have HO2 := Lib.hid (HO.out.keep hw2.out)
        have hz2 := hw2.out.size
        replace d0 := cellB hw2.out d0
        replace d1 := cellB hw2.out d1
        replace d2 := cellB hw2.out d2
        replace d3 := cellB hw2.out d3
        clear hw2 c0 c1 c2 c3 f0 f1 f2 f3
        go_wp2_with (at_builtin; refine append_p1 _ rfl _ _ rfl w.heap.size _ (ps.take 1 ++ keptQ ps k) rfl ?own _ _ q1 q2 q3 q4 rfl ?c0 ?c1 ?c2 ?c3 ?len ?base ?_)
        case own => exact (HO2.out.keep (by go_grown))
        case c0 => simp [go_sem]
        case c1 => simp [go_sem]
        case c2 => simp [go_sem]
        case c3 => simp [go_sem]
        case len => have := keptQ_len ps k; first | (rw [List.length_append, List.length_take]; omega) | omega
        case base => go_size
        intro v' w' hown hg
        have hB3 : Below w.heap.size W0 w' := Below.trans (by go_grown) hg
        have HO3 := Lib.hid (show OwP w.heap.size 41 w' v' (ps.take 1 ++ keptQ ps (k + 1)) by rw [HN.out]; simpa only [List.append_assoc] using hown)
        clear hown hg d0 d1 d2 d3 v2 v3 v5 t2' t8 b0 b1 b2 b3 b7 b8
        go_wp2_with fail
        go_roundw
        case rel => exact .inl ⟨k + 1, by omega, by go_num, HO3.out, hB3⟩
        case measure => simp [intOf]; omega
    · have hkl : ps.length = k + 2 := by omega
      have HD := Lib.hid (drop_last (show ps[ps.length - 1]? = some q by rw [hkl]; exact hq))
      have b7 : ((k : Int) + 1 + 1 == (ps.length : Int)) = true := by simp; omega
      have HKL := Lib.hid hkl
      have hd := HC.out (k + 1) _ hq
      obtain ⟨⟨q1, q2⟩, q3, q4⟩ := q
      obtain ⟨d0, d1, d2, d3⟩ := hd
      replace d0 := (hBw.cell (p := ⟨g, _, none⟩) hg).trans d0
      replace d1 := (hBw.cell (p := ⟨g, _, none⟩) hg).trans d1
      replace d2 := (hBw.cell (p := ⟨g, _, none⟩) hg).trans d2
      replace d3 := (hBw.cell (p := ⟨g, _, none⟩) hg).trans d3
      clear hq hkl
      go_wp2_with fail
      refine wp_region_below (by kernel_rfl) (by kernel_rfl) ?_
      iterate 28 (first
        | (refine stepS rfl ?_; simp only [Act.put, List.setIfInBounds_toArray, List.set_cons_zero, List.set_cons_succ])
        | (refine stepV (v := ?_) rfl (fun W hW => ?_) ?_
           rotate_left
           focus
             have qc0 := cellB hW.out d0
             have qc1 := cellB hW.out d1
             have qc2 := cellB hW.out d2
             have qc3 := cellB hW.out d3
             go_simp
             try with_reducible rfl
             done
           simp only [Act.put, List.setIfInBounds_toArray, List.set_cons_zero, List.set_cons_succ]))
      refine stepN ?_
      intro w2 hw2
      have hB2 := Below.trans hb (hw2.out.mono hzr)
      have HO2 := Lib.hid (HO.out.keep hw2.out)
      have hz2 := hw2.out.size
      replace d0 := cellB hw2.out d0
      replace d1 := cellB hw2.out d1
      replace d2 := cellB hw2.out d2
      replace d3 := cellB hw2.out d3
      clear hw2
      go_wp2_with (at_builtin; refine append_p1 _ rfl _ _ rfl w.heap.size _ (ps.take 1 ++ keptQ ps k) rfl ?own _ _ q1 q2 q3 q4 rfl ?c0 ?c1 ?c2 ?c3 ?len ?base ?_)
      case own => exact (HO2.out.keep (by go_grown))
      case c0 => simp [go_sem]
      case c1 => simp [go_sem]
      case c2 => simp [go_sem]
      case c3 => simp [go_sem]
      case len => have := keptQ_len ps k; first | (rw [List.length_append, List.length_take]; omega) | omega
      case base => go_size
      intro v' w' hown hg
      have hB3 : Below w.heap.size W0 w' := Below.trans (by go_grown) hg
      have HO3 := Lib.hid (show OwP w.heap.size 41 w' v' (simpleQ ps) by unfold simpleQ; rw [HD.out, show ps.length - 2 = k from by have := HKL.out; omega]; simpa only [List.append_assoc] using hown)
      clear hown hg d0 d1 d2 d3 v2 v3 v5 t2' t8 b0 b1 b2 b3 b7 b8
      go_wp2_with fail
      go_roundw
      case rel => exact .inr ⟨by rw [HKL.out]; go_num, HO3.out, hB3⟩
      case measure => have := HKL.out; simp [intOf]; omega

end Go.Proofs.YtkeajfgcjmhmiaaGreatDoor
