/- isMap and IsMap of the program. -/
import Derived.Test.YtkdhhopfefhdjaaIsMap
import Derived.Test.YtkdhhopfefhdjaaQuiet
namespace Go.Proofs.Ytkdhhopfefhdjaa
open Go.RowKit

def badPt (p : Pt) : Bool := !coordQ p.1.1 p.1.2 || !coordQ p.2.1 p.2.2

set_option maxHeartbeats 400000 in
theorem isMapF (a b c d : Int) (w : World) :
    Calls Try.prog 127 #[.agg #[.int .i64 a, .int .i64 b, .int .i64 c, .int .i64 d]] w fun e w' => e = .returned (.bool (badPt ((a, b), c, d))) ∧ Below w.heap.size w w' := by
  rcases h : coordQ a b with _ | _
  · have H := Lib.hid h
    have HX := Lib.hid (show badPt ((a, b), c, d) = true by simp [badPt, h])
    clear h
    go_enter Try.func127, Try.ntmps127
    go_wp2_with fail
    refine (isCoord_any a b _).mono ?_
    rintro e w1 ⟨he, hb⟩
    rw [H.out] at he
    subst he
    have hB : Below w.heap.size w w1 := nextB (by go_grown) (by go_size) hb
    clear hb
    go_wp2_with fail
    go_ret
    exact ⟨ret_bool HX.out.symm, hB⟩
  · have H := Lib.hid h
    have HX := Lib.hid (show badPt ((a, b), c, d) = !coordQ c d by simp [badPt, h])
    clear h
    go_enter Try.func127, Try.ntmps127
    go_wp2_with fail
    refine (isCoord_any a b _).mono ?_
    rintro e w1 ⟨he, hb⟩
    rw [H.out] at he
    subst he
    have c2 : w1.cell? ⟨w.heap.size, 2, none⟩ = some (.int .i64 c) := cellB hb (by simp [go_sem])
    have c3 : w1.cell? ⟨w.heap.size, 3, none⟩ = some (.int .i64 d) := cellB hb (by simp [go_sem])
    have hB : Below w.heap.size w w1 := nextB (by go_grown) (by go_size) hb
    clear hb
    go_wp2_with fail
    refine (isCoord_any c d _).mono ?_
    rintro e w2 ⟨rfl, hb⟩
    replace hB := nextW hB hb
    generalize coordQ c d = x at *
    clear hb c2 c3
    go_wp2_with fail
    go_ret
    exact ⟨ret_bool HX.out.symm, hB⟩

theorem isMapF_says (ps : List Pt) (w : World) : Says 127 #[] badPt ps w := fun W p _ _ => isMapF p.1.1 p.1.2 p.2.1 p.2.2 W

theorem any_bad (ps : List Pt) : ps.any badPt = !ps.all (fun p => coordQ p.1.1 p.1.2 && coordQ p.2.1 p.2.2) := by
  induction ps with
  | nil => rfl
  | cons p ps ih => rw [List.any_cons, List.all_cons, ih, badPt]; simp [Bool.not_and]

theorem okMap_noLen {ps : List Pt} (h : ¬ (2 ≤ ps.length ∧ ps.length ≤ 12)) : okMap ps = false := by
  simp only [okMap, h, decide_false, Bool.false_and]
theorem okMap_noCoord {ps : List Pt} (h : ps.any badPt = true) : okMap ps = false := by
  rw [any_bad] at h
  simp only [Bool.not_eq_true'] at h
  simp only [okMap, h, Bool.and_false, Bool.false_and]
theorem okMap_rest {ps : List Pt} (h1 : 2 ≤ ps.length ∧ ps.length ≤ 12) (h2 : ps.any badPt = false) {x y : Pt} (hx : ps[0]? = some x) (hy : ps[ps.length - 1]? = some y) :
    okMap ps = (decide (x.1 = (0, 1)) && decide (y.1 = (1, 1)) && risingB (ps.map (·.1))) := by
  rw [any_bad] at h2
  simp only [Bool.not_eq_false'] at h2
  have e1 : ps.head? = some x := by rw [List.head?_eq_getElem?]; exact hx
  have e2 : ps.getLast? = some y := by rw [List.getLast?_eq_getElem?]; exact hy
  simp only [okMap, h1, h2, e1, e2, Option.map_some, Option.some.injEq, and_self, decide_true, Bool.true_and]

theorem isMap_len (ps : List Pt) (v : Value) (w : World) (hv : RdP w v ps) (hn : ps.length ≤ 9000000) (h : ¬ (2 ≤ ps.length ∧ ps.length ≤ 12)) :
    Calls Try.prog 75 #[v] w fun e w' => e = .returned (.bool false) ∧ Below w.heap.size w w' := by
  obtain ⟨A, c, rfl, hl, hm, hcell⟩ := hv
  clear hcell
  go_enter Try.func75, Try.ntmps75
  go_wp2_with fail
  refine (within_no (ps.length : Int) 2 12 (by omega) _).mono ?_
  rintro e w1 ⟨rfl, rfl⟩
  go_wp2_with fail
  go_ret
  exact ⟨rfl, Below.refl _ _⟩

theorem isMap_coord (ps : List Pt) (v : Value) (w : World) (hv : RdP w v ps) (hn : 2 ≤ ps.length ∧ ps.length ≤ 12) (h : ps.any badPt = true) :
    Calls Try.prog 75 #[v] w fun e w' => e = .returned (.bool false) ∧ Below w.heap.size w w' := by
  have HV := Lib.hid hv
  obtain ⟨A, c, rfl, hl, hm, hcell⟩ := hv
  have H := Lib.hid h
  clear hcell h
  go_enter Try.func75, Try.ntmps75
  go_wp2_with fail
  refine (within_yes (ps.length : Int) 2 12 (by omega) (by omega) _).mono ?_
  rintro e w1 ⟨rfl, rfl⟩
  go_wp2_with fail
  refine (containsIsMap badPt ps _ _ HV.out (isMapF_says _ _)).mono ?_
  rintro e w1 ⟨he, hb⟩
  rw [H.out] at he
  subst he
  go_wp2_with fail
  go_ret
  exact ⟨rfl, hb⟩

theorem badPt_sm {ps : List Pt} (h : ps.any badPt = false) : AllSm (ps.map (·.1)) := by
  rw [any_bad] at h
  simp only [Bool.not_eq_false', List.all_eq_true, Bool.and_eq_true] at h
  intro q hq
  obtain ⟨p, hp, rfl⟩ := List.mem_map.1 hq
  exact Sm.of_ok (unitQ_ok (coordQ_unit (h p hp).1))

set_option maxHeartbeats 1600000 in
theorem isMap_x1 (ps : List Pt) (g o c : Nat) (w : World) (hv : RdP w (.slice (some ⟨g, o, none⟩) ps.length c) ps) (hn : 2 ≤ ps.length ∧ ps.length ≤ 12) (h : ps.any badPt = false) (x1 x2 y1 y2 : Int) (hx : ((x1 : Int) == 0) = false)
    (e0 : w.cell? ⟨g, o, none⟩ = some (.int .i64 x1)) (e1 : w.cell? ⟨g, o + 1, none⟩ = some (.int .i64 x2)) (e2 : w.cell? ⟨g, o + (ps.length - 1) * 4, none⟩ = some (.int .i64 y1)) (e3 : w.cell? ⟨g, o + (ps.length - 1) * 4 + 1, none⟩ = some (.int .i64 y2)) :
    Calls Try.prog 75 #[.slice (some ⟨g, o, none⟩) ps.length c] w fun e w' => e = .returned (.bool false) ∧ Below w.heap.size w w' := by
  have HV := Lib.hid hv
  have H := Lib.hid h
  have HS := Lib.hid (badPt_sm h)
  clear hv h
  go_enter Try.func75, Try.ntmps75
  go_wp2_with fail
  refine (within_yes (ps.length : Int) 2 12 (by omega) (by omega) _).mono ?_
  rintro e w1 ⟨rfl, rfl⟩
  go_wp2_with fail
  refine (containsIsMap badPt ps _ _ HV.out (isMapF_says _ _)).mono ?_
  rintro e w1 ⟨he, hb⟩
  rw [H.out] at he
  subst he
  replace e0 := cellB hb e0
  replace e1 := cellB hb e1
  replace e2 := cellB hb e2
  replace e3 := cellB hb e3
  have b0 : 0 < ps.length := by omega
  have b1 : ps.length - 1 < ps.length := by omega
  have b2 : (0 : Int) ≤ (ps.length : Int) - 1 := by omega
  have b3 : (ps.length : Int) - 1 < (ps.length : Int) := by omega
  have b4 : (1 : Int) ≤ (ps.length : Int) := by omega
  have v1 : IntKind.i64.wrap ((ps.length : Int) - 1) = (ps.length : Int) - 1 := IntWalk.i64_in _ (by omega)
  have t1 : ((ps.length : Int) - 1).toNat = ps.length - 1 := by omega
  go_wp2_with fail
  refine wp_region_below (by kernel_rfl) (by kernel_rfl) ?_
  iterate 23 (first
    | (refine stepS rfl ?_; simp only [Act.put, List.setIfInBounds_toArray, List.set_cons_zero, List.set_cons_succ])
    | (refine stepV (v := ?_) rfl (fun W hW => ?_) ?_
       rotate_left
       focus
         have qc0 := cellB hW.out e0
         have qc1 := cellB hW.out e1
         have qc2 := cellB hW.out e2
         have qc3 := cellB hW.out e3
         go_simp
         try with_reducible rfl
         done
       simp only [Act.put, List.setIfInBounds_toArray, List.set_cons_zero, List.set_cons_succ])
    | (refine stepC rfl (fun W hW => ?_) (fun W hW => callB hW (zero_any _)) ?_
       focus
         go_simp
         try with_reducible rfl
         done
       simp only [Act.put, List.setIfInBounds_toArray, List.set_cons_zero, List.set_cons_succ]))
  refine stepN ?_
  intro w2 hw2
  have hB := nextW hb hw2.out
  clear v1 t1
  go_wp2_with fail
  go_ret
  exact ⟨rfl, hB⟩

set_option maxHeartbeats 1600000 in
theorem isMap_x2 (ps : List Pt) (g o c : Nat) (w : World) (hv : RdP w (.slice (some ⟨g, o, none⟩) ps.length c) ps) (hn : 2 ≤ ps.length ∧ ps.length ≤ 12) (h : ps.any badPt = false) (x1 x2 y1 y2 : Int) (hx : ((x1 : Int) == 0) = true) (hx2 : ((x2 : Int) == 1) = false)
    (e0 : w.cell? ⟨g, o, none⟩ = some (.int .i64 x1)) (e1 : w.cell? ⟨g, o + 1, none⟩ = some (.int .i64 x2)) (e2 : w.cell? ⟨g, o + (ps.length - 1) * 4, none⟩ = some (.int .i64 y1)) (e3 : w.cell? ⟨g, o + (ps.length - 1) * 4 + 1, none⟩ = some (.int .i64 y2)) :
    Calls Try.prog 75 #[.slice (some ⟨g, o, none⟩) ps.length c] w fun e w' => e = .returned (.bool false) ∧ Below w.heap.size w w' := by
  have HV := Lib.hid hv
  have H := Lib.hid h
  have HS := Lib.hid (badPt_sm h)
  clear hv h
  go_enter Try.func75, Try.ntmps75
  go_wp2_with fail
  refine (within_yes (ps.length : Int) 2 12 (by omega) (by omega) _).mono ?_
  rintro e w1 ⟨rfl, rfl⟩
  go_wp2_with fail
  refine (containsIsMap badPt ps _ _ HV.out (isMapF_says _ _)).mono ?_
  rintro e w1 ⟨he, hb⟩
  rw [H.out] at he
  subst he
  replace e0 := cellB hb e0
  replace e1 := cellB hb e1
  replace e2 := cellB hb e2
  replace e3 := cellB hb e3
  have b0 : 0 < ps.length := by omega
  have b1 : ps.length - 1 < ps.length := by omega
  have b2 : (0 : Int) ≤ (ps.length : Int) - 1 := by omega
  have b3 : (ps.length : Int) - 1 < (ps.length : Int) := by omega
  have b4 : (1 : Int) ≤ (ps.length : Int) := by omega
  have v1 : IntKind.i64.wrap ((ps.length : Int) - 1) = (ps.length : Int) - 1 := IntWalk.i64_in _ (by omega)
  have t1 : ((ps.length : Int) - 1).toNat = ps.length - 1 := by omega
  go_wp2_with fail
  refine wp_region_below (by kernel_rfl) (by kernel_rfl) ?_
  iterate 23 (first
    | (refine stepS rfl ?_; simp only [Act.put, List.setIfInBounds_toArray, List.set_cons_zero, List.set_cons_succ])
    | (refine stepV (v := ?_) rfl (fun W hW => ?_) ?_
       rotate_left
       focus
         have qc0 := cellB hW.out e0
         have qc1 := cellB hW.out e1
         have qc2 := cellB hW.out e2
         have qc3 := cellB hW.out e3
         go_simp
         try with_reducible rfl
         done
       simp only [Act.put, List.setIfInBounds_toArray, List.set_cons_zero, List.set_cons_succ])
    | (refine stepC rfl (fun W hW => ?_) (fun W hW => callB hW (zero_any _)) ?_
       focus
         go_simp
         try with_reducible rfl
         done
       simp only [Act.put, List.setIfInBounds_toArray, List.set_cons_zero, List.set_cons_succ]))
  refine stepN ?_
  intro w2 hw2
  have hB := nextW hb hw2.out
  clear v1 t1
  go_wp2_with fail
  go_ret
  exact ⟨rfl, hB⟩

set_option maxHeartbeats 1600000 in
theorem isMap_y1 (ps : List Pt) (g o c : Nat) (w : World) (hv : RdP w (.slice (some ⟨g, o, none⟩) ps.length c) ps) (hn : 2 ≤ ps.length ∧ ps.length ≤ 12) (h : ps.any badPt = false) (x1 x2 y1 y2 : Int) (hx : ((x1 : Int) == 0) = true) (hx2 : ((x2 : Int) == 1) = true) (hy : ((y1 : Int) == 1) = false)
    (e0 : w.cell? ⟨g, o, none⟩ = some (.int .i64 x1)) (e1 : w.cell? ⟨g, o + 1, none⟩ = some (.int .i64 x2)) (e2 : w.cell? ⟨g, o + (ps.length - 1) * 4, none⟩ = some (.int .i64 y1)) (e3 : w.cell? ⟨g, o + (ps.length - 1) * 4 + 1, none⟩ = some (.int .i64 y2)) :
    Calls Try.prog 75 #[.slice (some ⟨g, o, none⟩) ps.length c] w fun e w' => e = .returned (.bool false) ∧ Below w.heap.size w w' := by
  have HV := Lib.hid hv
  have H := Lib.hid h
  have HS := Lib.hid (badPt_sm h)
  clear hv h
  go_enter Try.func75, Try.ntmps75
  go_wp2_with fail
  refine (within_yes (ps.length : Int) 2 12 (by omega) (by omega) _).mono ?_
  rintro e w1 ⟨rfl, rfl⟩
  go_wp2_with fail
  refine (containsIsMap badPt ps _ _ HV.out (isMapF_says _ _)).mono ?_
  rintro e w1 ⟨he, hb⟩
  rw [H.out] at he
  subst he
  replace e0 := cellB hb e0
  replace e1 := cellB hb e1
  replace e2 := cellB hb e2
  replace e3 := cellB hb e3
  have b0 : 0 < ps.length := by omega
  have b1 : ps.length - 1 < ps.length := by omega
  have b2 : (0 : Int) ≤ (ps.length : Int) - 1 := by omega
  have b3 : (ps.length : Int) - 1 < (ps.length : Int) := by omega
  have b4 : (1 : Int) ≤ (ps.length : Int) := by omega
  have v1 : IntKind.i64.wrap ((ps.length : Int) - 1) = (ps.length : Int) - 1 := IntWalk.i64_in _ (by omega)
  have t1 : ((ps.length : Int) - 1).toNat = ps.length - 1 := by omega
  go_wp2_with fail
  refine wp_region_below (by kernel_rfl) (by kernel_rfl) ?_
  iterate 23 (first
    | (refine stepS rfl ?_; simp only [Act.put, List.setIfInBounds_toArray, List.set_cons_zero, List.set_cons_succ])
    | (refine stepV (v := ?_) rfl (fun W hW => ?_) ?_
       rotate_left
       focus
         have qc0 := cellB hW.out e0
         have qc1 := cellB hW.out e1
         have qc2 := cellB hW.out e2
         have qc3 := cellB hW.out e3
         go_simp
         try with_reducible rfl
         done
       simp only [Act.put, List.setIfInBounds_toArray, List.set_cons_zero, List.set_cons_succ])
    | (refine stepC rfl (fun W hW => ?_) (fun W hW => callB hW (zero_any _)) ?_
       focus
         go_simp
         try with_reducible rfl
         done
       simp only [Act.put, List.setIfInBounds_toArray, List.set_cons_zero, List.set_cons_succ])
    | (refine stepC rfl (fun W hW => ?_) (fun W hW => callB hW (oneRat_any _)) ?_
       focus
         go_simp
         try with_reducible rfl
         done
       simp only [Act.put, List.setIfInBounds_toArray, List.set_cons_zero, List.set_cons_succ]))
  refine stepN ?_
  intro w2 hw2
  have hB := nextW hb hw2.out
  clear v1 t1
  go_wp2_with fail
  go_ret
  exact ⟨rfl, hB⟩

set_option maxHeartbeats 1600000 in
theorem isMap_y2 (ps : List Pt) (g o c : Nat) (w : World) (hv : RdP w (.slice (some ⟨g, o, none⟩) ps.length c) ps) (hn : 2 ≤ ps.length ∧ ps.length ≤ 12) (h : ps.any badPt = false) (x1 x2 y1 y2 : Int) (hx : ((x1 : Int) == 0) = true) (hx2 : ((x2 : Int) == 1) = true) (hy : ((y1 : Int) == 1) = true) (hy2 : ((y2 : Int) == 1) = false)
    (e0 : w.cell? ⟨g, o, none⟩ = some (.int .i64 x1)) (e1 : w.cell? ⟨g, o + 1, none⟩ = some (.int .i64 x2)) (e2 : w.cell? ⟨g, o + (ps.length - 1) * 4, none⟩ = some (.int .i64 y1)) (e3 : w.cell? ⟨g, o + (ps.length - 1) * 4 + 1, none⟩ = some (.int .i64 y2)) :
    Calls Try.prog 75 #[.slice (some ⟨g, o, none⟩) ps.length c] w fun e w' => e = .returned (.bool false) ∧ Below w.heap.size w w' := by
  have HV := Lib.hid hv
  have H := Lib.hid h
  have HS := Lib.hid (badPt_sm h)
  clear hv h
  go_enter Try.func75, Try.ntmps75
  go_wp2_with fail
  refine (within_yes (ps.length : Int) 2 12 (by omega) (by omega) _).mono ?_
  rintro e w1 ⟨rfl, rfl⟩
  go_wp2_with fail
  refine (containsIsMap badPt ps _ _ HV.out (isMapF_says _ _)).mono ?_
  rintro e w1 ⟨he, hb⟩
  rw [H.out] at he
  subst he
  replace e0 := cellB hb e0
  replace e1 := cellB hb e1
  replace e2 := cellB hb e2
  replace e3 := cellB hb e3
  have b0 : 0 < ps.length := by omega
  have b1 : ps.length - 1 < ps.length := by omega
  have b2 : (0 : Int) ≤ (ps.length : Int) - 1 := by omega
  have b3 : (ps.length : Int) - 1 < (ps.length : Int) := by omega
  have b4 : (1 : Int) ≤ (ps.length : Int) := by omega
  have v1 : IntKind.i64.wrap ((ps.length : Int) - 1) = (ps.length : Int) - 1 := IntWalk.i64_in _ (by omega)
  have t1 : ((ps.length : Int) - 1).toNat = ps.length - 1 := by omega
  go_wp2_with fail
  refine wp_region_below (by kernel_rfl) (by kernel_rfl) ?_
  iterate 23 (first
    | (refine stepS rfl ?_; simp only [Act.put, List.setIfInBounds_toArray, List.set_cons_zero, List.set_cons_succ])
    | (refine stepV (v := ?_) rfl (fun W hW => ?_) ?_
       rotate_left
       focus
         have qc0 := cellB hW.out e0
         have qc1 := cellB hW.out e1
         have qc2 := cellB hW.out e2
         have qc3 := cellB hW.out e3
         go_simp
         try with_reducible rfl
         done
       simp only [Act.put, List.setIfInBounds_toArray, List.set_cons_zero, List.set_cons_succ])
    | (refine stepC rfl (fun W hW => ?_) (fun W hW => callB hW (zero_any _)) ?_
       focus
         go_simp
         try with_reducible rfl
         done
       simp only [Act.put, List.setIfInBounds_toArray, List.set_cons_zero, List.set_cons_succ])
    | (refine stepC rfl (fun W hW => ?_) (fun W hW => callB hW (oneRat_any _)) ?_
       focus
         go_simp
         try with_reducible rfl
         done
       simp only [Act.put, List.setIfInBounds_toArray, List.set_cons_zero, List.set_cons_succ]))
  refine stepN ?_
  intro w2 hw2
  have hB := nextW hb hw2.out
  clear v1 t1
  go_wp2_with fail
  go_ret
  exact ⟨rfl, hB⟩

set_option maxHeartbeats 1600000 in
theorem isMap_yes (ps : List Pt) (g o c : Nat) (w : World) (hv : RdP w (.slice (some ⟨g, o, none⟩) ps.length c) ps) (hn : 2 ≤ ps.length ∧ ps.length ≤ 12) (h : ps.any badPt = false) (x1 x2 y1 y2 : Int) (hx : ((x1 : Int) == 0) = true) (hx2 : ((x2 : Int) == 1) = true) (hy : ((y1 : Int) == 1) = true) (hy2 : ((y2 : Int) == 1) = true) (rr : Bool) (hrr : risingB (ps.map (·.1)) = rr)
    (e0 : w.cell? ⟨g, o, none⟩ = some (.int .i64 x1)) (e1 : w.cell? ⟨g, o + 1, none⟩ = some (.int .i64 x2)) (e2 : w.cell? ⟨g, o + (ps.length - 1) * 4, none⟩ = some (.int .i64 y1)) (e3 : w.cell? ⟨g, o + (ps.length - 1) * 4 + 1, none⟩ = some (.int .i64 y2)) :
    Calls Try.prog 75 #[.slice (some ⟨g, o, none⟩) ps.length c] w fun e w' => e = .returned (.bool rr) ∧ Below w.heap.size w w' := by
  have HV := Lib.hid hv
  have H := Lib.hid h
  have HS := Lib.hid (badPt_sm h)
  clear hv h
  have HRR := Lib.hid hrr
  clear hrr
  go_enter Try.func75, Try.ntmps75
  go_wp2_with fail
  refine (within_yes (ps.length : Int) 2 12 (by omega) (by omega) _).mono ?_
  rintro e w1 ⟨rfl, rfl⟩
  go_wp2_with fail
  refine (containsIsMap badPt ps _ _ HV.out (isMapF_says _ _)).mono ?_
  rintro e w1 ⟨he, hb⟩
  rw [H.out] at he
  subst he
  replace e0 := cellB hb e0
  replace e1 := cellB hb e1
  replace e2 := cellB hb e2
  replace e3 := cellB hb e3
  have b0 : 0 < ps.length := by omega
  have b1 : ps.length - 1 < ps.length := by omega
  have b2 : (0 : Int) ≤ (ps.length : Int) - 1 := by omega
  have b3 : (ps.length : Int) - 1 < (ps.length : Int) := by omega
  have b4 : (1 : Int) ≤ (ps.length : Int) := by omega
  have v1 : IntKind.i64.wrap ((ps.length : Int) - 1) = (ps.length : Int) - 1 := IntWalk.i64_in _ (by omega)
  have t1 : ((ps.length : Int) - 1).toNat = ps.length - 1 := by omega
  go_wp2_with fail
  go_region_held3 (fun w' => w'.cell? ⟨g, o, none⟩ = some (.int .i64 x1) ∧ w'.cell? ⟨g, o + 1, none⟩ = some (.int .i64 x2) ∧ w'.cell? ⟨g, o + (ps.length - 1) * 4, none⟩ = some (.int .i64 y1) ∧ w'.cell? ⟨g, o + (ps.length - 1) * 4 + 1, none⟩ = some (.int .i64 y2))
    ((first | exact ⟨e0, e1, e2, e3⟩ | exact ⟨cellB hb5 e0, cellB hb5 e1, cellB hb5 e2, cellB hb5 e3⟩ | exact ⟨cellB hb4 e0, cellB hb4 e1, cellB hb4 e2, cellB hb4 e3⟩ | exact ⟨cellB hb3 e0, cellB hb3 e1, cellB hb3 e2, cellB hb3 e3⟩ | exact ⟨cellB hb2 e0, cellB hb2 e1, cellB hb2 e2, cellB hb2 e3⟩))
    ((first
      | (go_at_call 112; refine (zero_any _).mono ?_; rintro e w2 ⟨rfl, hb2'⟩; have hb2 := nextB (B := w1.heap.size) (w := w1) ((Below.refl _ _).drew) (Nat.le_refl _) hb2')
      | (go_at_call 129; refine (oneRat_any _).mono ?_; rintro e w3 ⟨rfl, hb3'⟩; have hb3 := nextW hb2 hb3')
      | (go_at_call 131; refine (xsOf_any ps _ _ (HV.out.keep (nextW hb hb3)) (by omega)).mono ?_; rintro e w4 ⟨r, rfl, hr, hb4'⟩; have HR := Lib.hid hr; have hb4 := nextW hb3 hb4'; clear hr)
      | (go_at_call 130; refine (isRising_any (ps.map (·.1)) r _ HR.out.read HS.out).mono ?_; rintro e w5 ⟨he5, hb5'⟩; rw [HRR.out] at he5; subst he5; have hb5 := nextW hb4 hb5')))
  have hB := nextW hb hb5
  clear v1 t1
  go_wp2_with fail
  go_ret
  exact ⟨rfl, hB⟩

theorem isMap_is (ps : List Pt) (v : Value) (t : Bool) (w : World) (hv : RdP w v ps) (hn : ps.length ≤ 1048576) (ht : okMap ps = t) :
    Calls Try.prog 75 #[v] w fun e w' => e = .returned (.bool t) ∧ Below w.heap.size w w' := by
  subst ht
  by_cases h1 : 2 ≤ ps.length ∧ ps.length ≤ 12
  · rcases h2 : ps.any badPt with _ | _
    · have k0 : ps[0]? = some (ps[0]'(by omega)) := List.getElem?_eq_getElem (by omega)
      have k1 : ps[ps.length - 1]? = some (ps[ps.length - 1]'(by omega)) := List.getElem?_eq_getElem (by omega)
      rw [okMap_rest h1 h2 k0 k1]
      generalize ps[0]'(by omega) = x at *
      generalize ps[ps.length - 1]'(by omega) = y at *
      obtain ⟨⟨x1, x2⟩, x3⟩ := x
      obtain ⟨⟨y1, y2⟩, y3⟩ := y
      have hv0 := hv
      obtain ⟨A, c, rfl, hl, hm, hcell⟩ := hv
      obtain ⟨g, o, rfl, hg, hc⟩ := hcell (by intro e; rw [e] at h1; simp at h1)
      obtain ⟨e0, e1, _, _⟩ := hc 0 _ k0
      obtain ⟨e2, e3, _, _⟩ := hc (ps.length - 1) _ k1
      simp only [Nat.zero_mul, Nat.add_zero] at e0 e1
      rcases a1 : ((x1 : Int) == 0) with _ | _
      · have : decide (((x1, x2) : Q) = (0, 1)) = false := by simp at a1 ⊢; intro h; exact absurd h a1
        simp only [this, Bool.false_and]
        exact isMap_x1 ps g o c w hv0 h1 h2 x1 x2 y1 y2 a1 e0 e1 e2 e3
      · rcases a2 : ((x2 : Int) == 1) with _ | _
        · have : decide (((x1, x2) : Q) = (0, 1)) = false := by simp at a2 ⊢; intro _ h; exact absurd h a2
          simp only [this, Bool.false_and]
          exact isMap_x2 ps g o c w hv0 h1 h2 x1 x2 y1 y2 a1 a2 e0 e1 e2 e3
        · have f1 : decide (((x1, x2) : Q) = (0, 1)) = true := by simp at a1 a2 ⊢; exact ⟨a1, a2⟩
          rcases a3 : ((y1 : Int) == 1) with _ | _
          · have : decide (((y1, y2) : Q) = (1, 1)) = false := by simp at a3 ⊢; intro h; exact absurd h a3
            simp only [this, f1, Bool.false_and, Bool.and_false]
            exact isMap_y1 ps g o c w hv0 h1 h2 x1 x2 y1 y2 a1 a2 a3 e0 e1 e2 e3
          · rcases a4 : ((y2 : Int) == 1) with _ | _
            · have : decide (((y1, y2) : Q) = (1, 1)) = false := by simp at a4 ⊢; intro _ h; exact absurd h a4
              simp only [this, f1, Bool.false_and, Bool.and_false]
              exact isMap_y2 ps g o c w hv0 h1 h2 x1 x2 y1 y2 a1 a2 a3 a4 e0 e1 e2 e3
            · have f2 : decide (((y1, y2) : Q) = (1, 1)) = true := by simp at a3 a4 ⊢; exact ⟨a3, a4⟩
              simp only [f1, f2, Bool.true_and]
              exact isMap_yes ps g o c w hv0 h1 h2 x1 x2 y1 y2 a1 a2 a3 a4 _ rfl e0 e1 e2 e3
    · rw [okMap_noCoord h2]
      exact isMap_coord ps v w hv h1 h2
  · rw [okMap_noLen h1]
    exact isMap_len ps v w hv (by omega) h1

end Go.Proofs.Ytkdhhopfefhdjaa
