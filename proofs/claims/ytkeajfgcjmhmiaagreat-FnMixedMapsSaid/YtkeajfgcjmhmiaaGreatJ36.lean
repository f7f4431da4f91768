/- RefineMap of both. -/
import Derived.Test.YtkeajfgcjmhmiaaGreatJ25
import Derived.Test.YtkeajfgcjmhmiaaGreatJ35
namespace Go.Proofs.YtkeajfgcjmhmiaaGreat
open Go.RowKit

def refAll (f : List Pt) (xs : List Q) : List Q := setQ (f.map (·.1) ++ xs)
def refOut (f : List Pt) (xs : List Q) : List Pt := (refAll f xs).map (refPt f)
def refRes (f : List Pt) (xs : List Q) : List Pt × Bool := if (allV f (refAll f xs) && okMap (refOut f xs)) = true then (refOut f xs, true) else ([], false)
def refAsk (f : List Pt) (xs : List Q) : Bool := okMap f && decide (xs.length ≤ 20) && xs.all (fun q => unitQ q.1 q.2)
/-- What RefineMap gives. -/
def refineQ (f : List Pt) (xs : List Q) : List Pt × Bool := if refAsk f xs = true then refRes f xs else ([], false)
theorem refineQ_len {f : List Pt} {xs : List Q} {l : List Pt} {t : Bool} (h : refineQ f xs = (l, t)) : l.length ≤ 1048576 := by
  unfold refineQ refRes at h
  split at h
  · split at h
    · rename_i hh
      obtain ⟨rfl, -⟩ := Prod.mk.inj h
      simp only [Bool.and_eq_true] at hh
      have := okMap_len hh.2
      omega
    · obtain ⟨rfl, -⟩ := Prod.mk.inj h; simp
  · obtain ⟨rfl, -⟩ := Prod.mk.inj h; simp
theorem refine_no {f : List Pt} {xs : List Q} {l : List Pt} {t : Bool} (hl : refineQ f xs = (l, t)) (h : refAsk f xs = false) : [] = l ∧ false = t := by
  unfold refineQ at hl; rw [h] at hl; exact Prod.mk.inj hl
theorem refAsk_no1 {f : List Pt} {xs : List Q} (h : okMap f = false) : refAsk f xs = false := by unfold refAsk; rw [h]; rfl
theorem refAsk_no2 {f : List Pt} {xs : List Q} (h : ¬ xs.length ≤ 20) : refAsk f xs = false := by unfold refAsk; rw [decide_eq_false h, Bool.and_false]; rfl
theorem refAsk_no3 {f : List Pt} {xs : List Q} (h : xs.all (fun q => unitQ q.1 q.2) = false) : refAsk f xs = false := by unfold refAsk; rw [h, Bool.and_false]
theorem unit_xs {ps : List Pt} (h : okMap ps = true) : ∀ x ∈ ps.map (·.1), unitQ x.1 x.2 = true := fun q hq => by
  obtain ⟨p, hp, rfl⟩ := List.mem_map.1 hq
  obtain ⟨i, hi⟩ := List.getElem?_of_mem hp
  exact coordQ_unit (okMap_coord h hi).1

set_option maxRecDepth 100000 in
set_option maxHeartbeats 3200000 in
theorem iRefineMap_is (f : List Pt) (xs : List Q) (vf vx : Value) (l : List Pt) (t : Bool) (hl : refineQ f xs = (l, t)) (w : World) (hf : RdP w vf f) (hx : RdQ w vx xs) (hn : f.length ≤ 1048576) (hk : xs.length ≤ 1048576) :
    Calls Tryz.prog 28 #[vf, vx] w (RetPB w l t) := by
  have HF := Lib.hid hf
  have HX := Lib.hid hx
  obtain ⟨A1, c1, rfl, -, -, -⟩ := hf
  obtain ⟨A2, c2, rfl, hx1, hx2, -⟩ := hx
  unfold maxLen at hx2
  rcases hm : okMap f with _ | _
  · obtain ⟨rfl, rfl⟩ := refine_no hl (refAsk_no1 hm)
    have HM := Lib.hid hm
    clear hl hm
    go_enter Tryz.func28, Tryz.ntmps28
    go_wp2_with fail
    refine (isMap_is f _ false _ (HF.out.keep (by go_grown)) hn HM.out).mono ?_
    rintro e w1 ⟨rfl, hb⟩
    have hB : Below w.heap.size w w1 := nextX (by go_grown) hb
    go_wp2_with fail
    go_ret2
    exact ⟨_, rfl, World.ownsRow_nil _ _ _ _, hB⟩
  · have HM := Lib.hid hm
    have hlf := okMap_len hm
    by_cases hlen : xs.length ≤ 20
    · obtain ⟨u, hu⟩ : ∃ u, xs.all (fun q => unitQ q.1 q.2) = u := ⟨_, rfl⟩
      have HU := Lib.hid hu
      have HL := Lib.hid hl
      have HOf := Lib.hid (fun (x : Nat) (hx : w.heap.size ≤ x) => HF.out.old (okMap_ne hm) (g := x) hx)
      have HUx := Lib.hid (unit_xs hm)
      have HOx := Lib.hid (okL_xs hm)
      clear hl hm hu
      have b0 : ¬ ((20 : Int) < (xs.length : Int)) := by omega
      have b0' : decide ((20 : Int) < (xs.length : Int)) = false := by simpa using b0
      go_enter Tryz.func28, Tryz.ntmps28
      go_wp2_with fail
      refine (isMap_is f _ true _ (HF.out.keep (by go_grown)) hn HM.out).mono ?_
      rintro e w1 ⟨rfl, hb⟩
      have gfc : w1.cell? ⟨w.heap.size, 0, none⟩ = some (.slice A1 f.length c1) := cellB hb (by simp [go_sem])
      have hB : Below w.heap.size w w1 := nextX (by go_grown) hb
      have zf := lt_of_cell gfc
      clear hb
      go_wp2_with fail
      refine (areUnits_is xs _ u _ (HX.out.keep (nextX hB (by go_grown))) HU.out).mono ?_
      rintro e w3 ⟨rfl, hb⟩
      have hX3 : Below w1.heap.size w1 w3 := nextX (by go_grown) hb
      replace hB := nextX hB hX3
      replace gfc := cellB hX3 gfc
      replace zf := lt_of_cell gfc
      clear hb hX3
      rcases u with _ | _
      · obtain ⟨rfl, rfl⟩ := refine_no HL.out (refAsk_no3 HU.out)
        go_wp2_with fail
        go_ret2
        exact ⟨_, rfl, World.ownsRow_nil _ _ _ _, hB⟩
      · have hask : refAsk f xs = true := by unfold refAsk; rw [HM.out, decide_eq_true hlen, HU.out]; rfl
        have hres : refRes f xs = (l, t) := by have := HL.out; unfold refineQ at this; rwa [if_pos hask] at this
        have hall : ∀ x ∈ xs, unitQ x.1 x.2 = true := fun x hx => by have := List.all_eq_true.1 HU.out x hx; exact this
        have HRes := Lib.hid hres
        have HAll := Lib.hid hall
        clear hres hall hask
        have hzw := hB.size
        go_wp2_with fail
        refine (xsOf_any f _ _ (HF.out.keep (nextX hB (by go_grown))) (by omega)).mono ?_
        rintro e w4 ⟨r1, rfl, os1, hb⟩
        have hX4 : Below w3.heap.size w3 w4 := nextX (by go_grown) hb
        have sc : Slot w4 w3.heap.size 0 (.bool false) := slotB hb ⟨by simp [go_sem], by simp [go_sem]⟩
        have zc := lt_of_cell sc.1
        replace hB := nextX hB hX4
        replace gfc := cellB hX4 gfc
        have H1 := Lib.hid (show OwQ (w3.heap.size + 1) 31 w4 r1 (f.map (·.1)) from os1.low (by simp))
        have SC := Lib.hid sc
        have hzf2 : w.heap.size < w3.heap.size := zf
        clear os1 hb hX4 sc zf
        have hL1 : RdQ w4 (.slice A2 xs.length c2) xs := HX.out.keep hB
        have hO1 := H1.out
        have hS1 : (f.map (·.1)).length + xs.length ≤ 1000000 := by simp; omega
        have hz1 : w3.heap.size + 1 ≤ w4.heap.size := zc
        go_wp2_with (at_builtin; refine append_rd _ rfl (.tmp 22) (.tmp 23) rfl (w3.heap.size + 1) r1 (.slice A2 xs.length c2) (f.map (·.1)) xs rfl hO1 rfl hL1 hS1 hz1 ?_; intro v' w5 h1 h2)
        have sc5 := slot_below h2 (Nat.lt_succ_self _) SC.out
        have gf5 := (h2.cell (p := ⟨w.heap.size, 0, none⟩) (show w.heap.size < w3.heap.size + 1 by omega)).trans gfc
        have hB5 : Below w.heap.size w w5 := Below.trans hB (h2.mono (by omega))
        have H5 := Lib.hid h1
        have S5 := Lib.hid sc5
        have G5 := Lib.hid gf5
        have hpt := ptsRef_is f (f.map (·.1) ++ xs) v' (.slice A1 f.length c1) false w3.heap.size w.heap.size w5 h1 (fun x hx => (List.mem_append.1 hx).elim (HOx.out x) (fun h => unitQ_ok (HAll.out x h))) (fun x hx => (List.mem_append.1 hx).elim (HUx.out x) (HAll.out x)) (by rw [List.length_append, List.length_map]; omega) sc5 gf5 (by omega) (HF.out.keep hB5) (HOf.out _ (by omega)) HM.out
        have HPt := Lib.hid hpt
        clear h1 h2 hO1 hL1 sc5 gf5 hpt
        refine (HPt.out).mono ?_
        rintro e w6 ⟨r6, rfl, os6, sc6, hb6⟩
        have hB6 : Below w.heap.size w w6 := Below.trans hB5 (hb6.mono (by omega))
        have hz6 : w3.heap.size < w6.heap.size := lt_of_cell sc6.1
        have HO6 := Lib.hid (show OwP w.heap.size 51 w6 r6 (refOut f xs) from os6.low (by omega))
        have hcc := sc6.1
        rw [show setQ (f.map (·.1) ++ xs) = refAll f xs from rfl, Bool.false_or] at hcc
        have HB6 := Lib.hid hB6
        clear os6 sc6 hb6 hB5 hB6 HPt H5 S5 G5 hB gfc
        rcases hav : allV f (refAll f xs) with _ | _
        · obtain ⟨rfl, rfl⟩ : [] = l ∧ false = t := by have := HRes.out; unfold refRes at this; rw [hav, Bool.false_and, if_neg (by simp)] at this; exact Prod.mk.inj this
          rw [hav] at hcc
          simp only [Bool.not_false] at hcc
          go_wp2_with fail
          go_ret2
          exact ⟨_, rfl, World.ownsRow_nil _ _ _ _, HB6.out⟩
        · rw [hav] at hcc
          simp only [Bool.not_true] at hcc
          obtain ⟨m, hmm⟩ : ∃ m, okMap (refOut f xs) = m := ⟨_, rfl⟩
          have HMm := Lib.hid hmm
          have hlo : (refOut f xs).length ≤ 1048576 := by
            unfold refOut refAll
            rw [List.length_map]
            have := setQ_len (f.map (·.1) ++ xs)
            rw [List.length_append, List.length_map] at this
            omega
          clear hmm
          go_wp2_with fail
          refine (isMap_is (refOut f xs) _ m _ (HO6.out.read.keep (by go_grown)) hlo HMm.out).mono ?_
          rintro e w7 ⟨rfl, hb7⟩
          have hX7 : Below w6.heap.size w6 w7 := nextX (by go_grown) hb7
          have HO7 := Lib.hid (HO6.out.keep hX7)
          have hB7 := nextX HB6.out hX7
          clear hb7 hX7
          rcases m with _ | _
          · obtain ⟨rfl, rfl⟩ : [] = l ∧ false = t := by have := HRes.out; unfold refRes at this; rw [HMm.out, Bool.and_false, if_neg (by simp)] at this; exact Prod.mk.inj this
            go_wp2_with fail
            go_ret2
            exact ⟨_, rfl, World.ownsRow_nil _ _ _ _, hB7⟩
          · obtain ⟨rfl, rfl⟩ : refOut f xs = l ∧ true = t := by have := HRes.out; unfold refRes at this; rw [hav, HMm.out, if_pos (by rfl)] at this; exact Prod.mk.inj this
            go_wp2_with fail
            go_ret2
            exact ⟨_, rfl, HO7.out, hB7⟩
    · obtain ⟨rfl, rfl⟩ := refine_no hl (refAsk_no2 hlen)
      clear hl hm
      have b0 : (20 : Int) < (xs.length : Int) := by omega
      have b0' : decide ((20 : Int) < (xs.length : Int)) = true := by simpa using b0
      go_enter Tryz.func28, Tryz.ntmps28
      go_wp2_with fail
      refine (isMap_is f _ true _ (HF.out.keep (by go_grown)) hn HM.out).mono ?_
      rintro e w1 ⟨rfl, hb⟩
      have hB : Below w.heap.size w w1 := nextX (by go_grown) hb
      clear hb
      go_wp2_with fail
      go_ret2
      exact ⟨_, rfl, World.ownsRow_nil _ _ _ _, hB⟩

def refTo (f : List Pt) (xs : List Q) (k : Nat) : List Q := (xs.take k).foldl (fun l x => insQ x l) (f.map (·.1))
theorem refTo_next {f : List Pt} {xs : List Q} {k : Nat} {x : Q} (h : xs[k]? = some x) : refTo f xs (k + 1) = insQ x (refTo f xs k) := by
  unfold refTo; rw [take_snoc_get h, List.foldl_append]; rfl
theorem refTo_len (f : List Pt) (xs : List Q) (k : Nat) : (refTo f xs k).length ≤ f.length + xs.length := by
  unfold refTo
  have h1 := foldQ_len (xs.take k) (f.map (·.1))
  rw [List.length_map, List.length_take] at h1
  omega
theorem refTo_ok {f : List Pt} {xs : List Q} {k : Nat} (hf : okMap f = true) (hu : ∀ (j : Nat) (x : Q), j < k → xs[j]? = some x → unitQ x.1 x.2 = true) : OkL (refTo f xs k) := fun x hx => by
  unfold refTo at hx
  rw [foldQ_mem] at hx
  rcases hx with hx | hx
  · exact okL_xs hf x hx
  · obtain ⟨i, hi⟩ := List.getElem?_of_mem hx
    rw [List.getElem?_take] at hi
    split at hi
    · rename_i hik; exact unitQ_ok (hu i x hik hi)
    · cases hi
theorem refTo_all {f : List Pt} {xs : List Q} (hf : okMap f = true) (hu : ∀ x ∈ xs, unitQ x.1 x.2 = true) : refTo f xs xs.length = refAll f xs := by
  have hox : OkL xs := fun x hx => unitQ_ok (hu x hx)
  refine setQ_of ((okL_xs hf).app hox) ?_ (fun x => ?_)
  · unfold refTo
    rw [List.take_length]
    exact foldQ_up hox (okL_xs hf) (upQ_xs hf)
  · unfold refTo
    rw [List.take_length, foldQ_mem, List.mem_append]
def RelRa (f : List Pt) (xs : List Q) (W0 : World) (h : Nat) (out i : Value) (wr : World) : Prop :=
  ∃ k : Nat, k ≤ xs.length ∧ i = .int .i64 k ∧ OwQ h 31 wr out (refTo f xs k) ∧ (∀ (j : Nat) (x : Q), j < k → xs[j]? = some x → unitQ x.1 x.2 = true) ∧ Below W0.heap.size W0 wr
def RelRb (f : List Pt) (cs : List Q) (W0 : World) (out i : Value) (wr : World) : Prop :=
  ∃ k : Nat, k ≤ cs.length ∧ i = .int .i64 k ∧ OwP W0.heap.size 51 wr out ((cs.map (refPt f)).take k) ∧ allV f (cs.take k) = true ∧ Below W0.heap.size W0 wr

set_option maxRecDepth 100000 in
set_option maxHeartbeats 6400000 in
theorem sRefineMap_is (f : List Pt) (xs : List Q) (vf vx : Value) (l : List Pt) (t : Bool) (hl : refineQ f xs = (l, t)) (w : World) (hf : RdP w vf f) (hx : RdQ w vx xs) (hn : f.length ≤ 1048576) (hk : xs.length ≤ 1048576) :
    Calls Tryz.prog 29 #[vf, vx] w (RetPB w l t) := by
  have HF := Lib.hid hf
  have HX := Lib.hid hx
  obtain ⟨A2, c2, rfl, hx1, hx2, hcell⟩ := hx
  unfold maxLen at hx2
  rcases hm : okMap f with _ | _
  · obtain ⟨rfl, rfl⟩ := refine_no hl (refAsk_no1 hm)
    have HM := Lib.hid hm
    clear hl hm hf hcell
    go_enter Tryz.func29, Tryz.ntmps29
    go_wp2_with fail
    refine (imGood_is f _ false _ (HF.out.keep (by go_grown)) hn HM.out).mono ?_
    rintro e w1 ⟨rfl, hb⟩
    go_wp2_with fail
    go_ret2
    exact ⟨_, rfl, World.ownsRow_nil _ _ _ _, hb⟩
  · have HM := Lib.hid hm
    have hlf := okMap_len hm
    by_cases hlen : xs.length ≤ 20
    · have HL := Lib.hid hl
      have HC := Lib.hid hcell
      clear hl hm hf hcell
      have b0 : ¬ ((20 : Int) < (xs.length : Int)) := by omega
      have b0' : decide ((20 : Int) < (xs.length : Int)) = false := by simpa using b0
      go_enter Tryz.func29, Tryz.ntmps29
      go_wp2_with fail
      refine (imGood_is f _ true _ (HF.out.keep (by go_grown)) hn HM.out).mono ?_
      rintro e w1 ⟨rfl, hb⟩
      have hB : Below w.heap.size w w1 := hb
      have hzw := hB.size
      clear hb
      go_wp2_with fail
      refine (coXs_any f _ _ (HF.out.keep hB) (by omega)).mono ?_
      rintro e w2 ⟨r1, rfl, os1, hb⟩
      have H1 := Lib.hid (show OwQ w.heap.size 31 w2 r1 (refTo f xs 0) from by unfold refTo; simpa using os1.low hzw)
      replace hB := nextW hB hb
      clear os1 hb
      go_wp2_with fail
      go_name_world W0 hW
      rw [hW] at H1 hB
      clear hW
      go_loopw [6, 26] (fun out i wr => RelRa f xs W0 w.heap.size out i wr) (fun _ i _ => xs.length - (intOf i).toNat)
      case atStart => exact ⟨0, Nat.zero_le _, rfl, H1.out, fun j x hj => absurd hj (Nat.not_lt_zero _), Below.refl _ _⟩
      case round =>
        obtain ⟨k, hk2, rfl, hown, hun, hb⟩ := hrel
        have HO := Lib.hid hown
        have HUn := Lib.hid hun
        have hBr := nextW hB hb
        have hzr : w.heap.size ≤ wr.heap.size := hBr.size
        have HOk := Lib.hid (refTo_ok HM.out hun)
        have hle := refTo_len f xs k
        clear hown hun
        by_cases hlt : k < xs.length
        · have hx := List.getElem?_eq_getElem hlt
          generalize xs[k] = x at *
          obtain ⟨g, o, rfl, hg, hc⟩ := HC.out (by rintro rfl; simp at hlt)
          obtain ⟨c0, c1⟩ := hc k _ hx
          have HX1 := Lib.hid hx
          have HSn := Lib.hid (refTo_next (f := f) hx)
          replace c0 := cellB hBr c0
          replace c1 := cellB hBr c1
          obtain ⟨x1, x2⟩ := x
          obtain ⟨ux, hux⟩ : ∃ u, unitQ x1 x2 = u := ⟨_, rfl⟩
          have HU := Lib.hid hux
          have b2 : (0 : Int) ≤ (k : Int) := by omega
          have b1 : (k : Int) < (xs.length : Int) := by omega
          have v2 : IntKind.i64.wrap ((k : Int) + 1) = (k : Int) + 1 := IntWalk.i64_in _ (by omega)
          have v3 : IntKind.i64.wrap (k : Int) = (k : Int) := IntWalk.i64_in _ (by omega)
          clear hx hux hc HC
          go_wp2_with fail
          refine (raUnit_any x1 x2 _).mono ?_
          rintro e w5 ⟨he, hb5⟩
          rw [HU.out] at he
          subst he
          have xb0 : w5.cell? ⟨wr.heap.size, 0, none⟩ = some (.int .i64 x1) := cellB hb5 (by simp [go_sem])
          have xb1 : w5.cell? ⟨wr.heap.size, 1, none⟩ = some (.int .i64 x2) := cellB hb5 (by simp [go_sem])
          have hX : Below wr.heap.size wr w5 := nextX (by go_grown) hb5
          have HO5 := Lib.hid (HO.out.keep hX)
          have hB5 := nextW hb hX
          have hB6 := nextW hBr hX
          have hz5 : w.heap.size ≤ w5.heap.size := hB6.size
          clear hb5 hX c0 c1 HO
          rcases ux with _ | _
          · have hall : xs.all (fun q => unitQ q.1 q.2) = false := List.all_eq_false.2 ⟨(x1, x2), List.mem_of_getElem? HX1.out, by simp only [HU.out]; simp⟩
            obtain ⟨rfl, rfl⟩ := refine_no HL.out (refAsk_no3 hall)
            go_wp2_with fail
            go_ret2
            exact ⟨_, rfl, World.ownsRow_nil _ _ _ _, hB6⟩
          · go_wp2_with fail
            refine (imPut_is w.heap.size (refTo f xs k) _ x1 x2 _ (HO5.out.keep (by go_grown)) HOk.out (unitQ_ok HU.out) (by omega) (by go_size)).mono ?_
            rintro e w6 ⟨r6, rfl, ow, hb6⟩
            have hX6 : Below w5.heap.size w5 w6 := nextX (by go_grown) hb6
            have HO6 := Lib.hid ow
            have hB7 := nextW hB5 hX6
            clear ow hb6 hX6 xb0 xb1
            go_wp2_with fail
            go_roundw
            case rel =>
              refine ⟨k + 1, by omega, by go_num, by rw [HSn.out]; exact HO6.out, fun j y hj hy => ?_, hB7⟩
              by_cases e : j = k
              · subst e; rw [HX1.out] at hy; cases hy; exact HU.out
              · exact HUn.out j y (by omega) hy
            case measure => simp [intOf]; omega
        · obtain rfl : k = xs.length := by omega
          have hall : ∀ x ∈ xs, unitQ x.1 x.2 = true := fun x hx => by
            obtain ⟨i, hi⟩ := List.getElem?_of_mem hx
            exact HUn.out i x (List.getElem?_eq_some_iff.1 hi).1 hi
          have hask : refAsk f xs = true := by unfold refAsk; rw [HM.out, decide_eq_true hlen, List.all_eq_true.2 hall]; rfl
          have hres : refRes f xs = (l, t) := by have := HL.out; unfold refineQ at this; rwa [if_pos hask] at this
          have HRes := Lib.hid hres
          have hO2 := HO.out
          rw [refTo_all HM.out hall] at hO2
          have hpos : 0 < (refAll f xs).length := by
            refine setQ_pos ?_
            rw [List.length_append, List.length_map]; omega
          have HUa := Lib.hid (show ∀ x ∈ refAll f xs, unitQ x.1 x.2 = true from fun x hx => by
            unfold refAll at hx
            rw [setQ_mem] at hx
            exact (List.mem_append.1 hx).elim (unit_xs HM.out x) (hall x))
          have hln : (refAll f xs).length ≤ 60 := by
            unfold refAll
            have := setQ_len (f.map (·.1) ++ xs)
            rw [List.length_append, List.length_map] at this
            omega
          obtain ⟨g1, cap1, rfl, hc1, hc2, -, hg1, hcell1⟩ := hO2.lit (n := (refAll f xs).length) rfl hpos
          unfold maxLen at hc2
          have HC1 := Lib.hid hcell1
          clear HO hO2 hcell1 hres hall hask HOk HUn
          go_wp2_with fail
          go_name_world V0 hV
          rw [hV] at HC1 hBr hg1
          have hzv : w.heap.size ≤ V0.heap.size := hBr.size
          clear hV hb hzr
          go_loopw [9, 39] (fun out i wr => RelRb f (refAll f xs) V0 out i wr) (fun _ i _ => (refAll f xs).length - (intOf i).toNat)
          case atStart => exact ⟨0, Nat.zero_le _, rfl, World.ownsRow_nil _ _ _ _, by unfold allV; simp, Below.refl _ _⟩
          case round =>
            obtain ⟨k, hk3, rfl, hown, hal, hb⟩ := hrel
            have HO := Lib.hid hown
            have HAl := Lib.hid hal
            have hBs := nextW hBr hb
            have hzs : V0.heap.size ≤ wr.heap.size := hb.size
            clear hown hal
            by_cases hlt : k < (refAll f xs).length
            · have hx := List.getElem?_eq_getElem hlt
              have hout : refOut f xs = (refAll f xs).map (refPt f) := rfl
              generalize (refAll f xs)[k] = x at *
              obtain ⟨c0, c1⟩ := HC1.out k _ hx
              have ux := HUa.out _ (List.mem_of_getElem? hx)
              have hsn := map_take_snoc (refPt f) hx
              have haln : allV f ((refAll f xs).take (k + 1)) = (allV f ((refAll f xs).take k) && (valQ f x).2) := by unfold allV; rw [take_snoc_get hx, List.all_append]; simp
              have hxm := List.mem_of_getElem? hx
              obtain ⟨x1, x2⟩ := x
              rcases hy : valQ f (x1, x2) with ⟨⟨y1, y2⟩, ty⟩
              have hpt : refPt f (x1, x2) = ((x1, x2), y1, y2) := by unfold refPt; rw [hy]
              rw [hpt] at hsn
              rw [hy] at haln
              obtain ⟨ya, yb, hya, hyt⟩ := atQ_of2 hy
              have HSn := Lib.hid hsn
              have HAn := Lib.hid haln
              have HYa := Lib.hid hya
              have HYt := Lib.hid hyt
              have HUx := Lib.hid ux
              have HXm := Lib.hid hxm
              have HYq := Lib.hid hy
              replace c0 := cellB hb c0
              replace c1 := cellB hb c1
              have b2 : (0 : Int) ≤ (k : Int) := by omega
              have b1 : (k : Int) < ((refAll f xs).length : Int) := by omega
              have v2 : IntKind.i64.wrap ((k : Int) + 1) = (k : Int) + 1 := IntWalk.i64_in _ (by omega)
              have v3 : IntKind.i64.wrap (k : Int) = (k : Int) := IntWalk.i64_in _ (by omega)
              have hlk : (((refAll f xs).map (refPt f)).take k).length ≤ 60 := by rw [List.length_take, List.length_map]; omega
              clear hx ux hsn haln hy hpt hya hyt hxm hout
              go_wp2_with fail
              refine (imAt_is f _ x1 x2 ya yb ty _ (HF.out.keep (nextX hBs (by go_grown))) HM.out HUx.out HYa.out).mono ?_
              rintro e w5 ⟨rfl, hb5⟩
              have xb0 : w5.cell? ⟨wr.heap.size, 0, none⟩ = some (.int .i64 x1) := cellB hb5 (by simp [go_sem])
              have xb1 : w5.cell? ⟨wr.heap.size, 1, none⟩ = some (.int .i64 x2) := cellB hb5 (by simp [go_sem])
              have hX : Below wr.heap.size wr w5 := nextX (by go_grown) hb5
              have HO5 := Lib.hid (HO.out.keep hX)
              have hB5 := nextW hb hX
              have hB6 := nextW hBs hX
              have zx := lt_of_cell xb0
              have hz5 : V0.heap.size ≤ w5.heap.size := hB5.size
              clear hb5 hX c0 c1 HO
              rcases ty with _ | _
              · have hav : allV f (refAll f xs) = false := List.all_eq_false.2 ⟨(x1, x2), HXm.out, by simp only [HYq.out]; simp⟩
                obtain ⟨rfl, rfl⟩ : [] = l ∧ false = t := by have := HRes.out; unfold refRes at this; rw [hav, Bool.false_and, if_neg (by simp)] at this; exact Prod.mk.inj this
                go_wp2_with fail
                go_ret2
                exact ⟨_, rfl, World.ownsRow_nil _ _ _ _, nextX hB6 (by go_grown)⟩
              · obtain ⟨rfl, rfl⟩ := HYt.out rfl
                go_wp2_with (at_builtin; refine append_p1 _ rfl _ _ rfl V0.heap.size _ (((refAll f xs).map (refPt f)).take k) rfl ?own _ _ x1 x2 ya yb rfl ?c0 ?c1 ?c2 ?c3 ?len ?base ?_)
                case own => exact HO5.out.keep (by go_grown)
                try (case c0 => simp [go_sem])
                try (case c1 => simp [go_sem])
                try (case c2 => simp [go_sem])
                try (case c3 => simp [go_sem])
                case len => omega
                case base => go_size
                intro v' w' hown h7
                have hX7 : Below V0.heap.size w5 w' := Below.trans (by go_grown) h7
                have HO7 := Lib.hid hown
                have hB7 : Below V0.heap.size V0 w' := Below.trans hB5 hX7
                clear hown h7 hX7 xb0 xb1
                go_wp2_with fail
                go_roundw
                case rel => exact ⟨k + 1, by omega, by go_num, by rw [HSn.out]; exact HO7.out, by rw [HAn.out, HAl.out]; rfl, hB7⟩
                case measure => simp [intOf]; omega
            · obtain rfl : k = (refAll f xs).length := by omega
              have hav : allV f (refAll f xs) = true := by have := HAl.out; rwa [List.take_length] at this
              have HE := Lib.hid (show OwP V0.heap.size 51 wr u9 (refOut f xs) by have := HO.out; unfold refOut; rwa [List.take_of_length_le (by simp)] at this)
              obtain ⟨m, hmm⟩ : ∃ m, okMap (refOut f xs) = m := ⟨_, rfl⟩
              have HMm := Lib.hid hmm
              have hlo : (refOut f xs).length ≤ 1048576 := by unfold refOut; rw [List.length_map]; omega
              clear HO hmm
              go_wp2_with fail
              refine (imGood_is (refOut f xs) _ m _ (HE.out.read.keep (by go_grown)) hlo HMm.out).mono ?_
              rintro e w7 ⟨rfl, hb7⟩
              have hX7 : Below wr.heap.size wr w7 := nextX (by go_grown) hb7
              have HO7 := Lib.hid ((HE.out.keep hX7).low (b := w.heap.size) hzv)
              have hB7 := nextX hBs hX7
              clear hb7 hX7
              rcases m with _ | _
              · obtain ⟨rfl, rfl⟩ : [] = l ∧ false = t := by have := HRes.out; unfold refRes at this; rw [HMm.out, Bool.and_false, if_neg (by simp)] at this; exact Prod.mk.inj this
                go_wp2_with fail
                go_ret2
                exact ⟨_, rfl, World.ownsRow_nil _ _ _ _, hB7⟩
              · obtain ⟨rfl, rfl⟩ : refOut f xs = l ∧ true = t := by have := HRes.out; unfold refRes at this; rw [hav, HMm.out, if_pos (by rfl)] at this; exact Prod.mk.inj this
                go_wp2_with fail
                go_ret2
                exact ⟨_, rfl, HO7.out, hB7⟩
    · obtain ⟨rfl, rfl⟩ := refine_no hl (refAsk_no2 hlen)
      clear hl hm hf hcell
      have b0 : (20 : Int) < (xs.length : Int) := by omega
      have b0' : decide ((20 : Int) < (xs.length : Int)) = true := by simpa using b0
      go_enter Tryz.func29, Tryz.ntmps29
      go_wp2_with fail
      refine (imGood_is f _ true _ (HF.out.keep (by go_grown)) hn HM.out).mono ?_
      rintro e w1 ⟨rfl, hb⟩
      go_wp2_with fail
      go_ret2
      exact ⟨_, rfl, World.ownsRow_nil _ _ _ _, hb⟩

end Go.Proofs.YtkeajfgcjmhmiaaGreat
