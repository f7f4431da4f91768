/- imGood and IsMap of the reference; IsMap of the program. -/
import Derived.Test.YtkdhhopfefhdjaaIsMap2
namespace Go.Proofs.Ytkdhhopfefhdjaa
open Go.RowKit

theorem imCoord_is (n d : Int) (t : Bool) (h : coordQ n d = t) (w : World) :
    Calls Try.prog 124 #[.agg #[.int .i64 n, .int .i64 d]] w fun e w' => e = .returned (.bool t) ∧ Below w.heap.size w w' := by
  rw [← h]; exact imCoord_any n d w
theorem raCmp_is (n1 d1 n2 d2 v : Int) (s1 : Sm n1 ∧ Sm d1) (s2 : Sm n2 ∧ Sm d2) (h : cmpQ n1 d1 n2 d2 = v) (w : World) :
    Calls Try.prog 103 #[.agg #[.int .i64 n1, .int .i64 d1], .agg #[.int .i64 n2, .int .i64 d2]] w fun e w' => e = .returned (.int .i64 v) ∧ Below w.heap.size w w' := by
  rw [← h]; exact raCmp_any n1 d1 n2 d2 s1.1 s1.2 s2.1 s2.2 w

theorem coord_sm {n d : Int} (h : coordQ n d = true) : Sm n ∧ Sm d := Sm.of_ok (unitQ_ok (coordQ_unit h))
theorem sm01 : Sm 0 ∧ Sm 1 := ⟨⟨by omega, by omega⟩, ⟨by omega, by omega⟩⟩
theorem sm11 : Sm 1 ∧ Sm 1 := ⟨⟨by omega, by omega⟩, ⟨by omega, by omega⟩⟩

/-- The first k points are coordinates and rise. -/
def GoodTo (ps : List Pt) (k : Nat) : Prop := (∀ i p, i < k → ps[i]? = some p → badPt p = false) ∧ UpTo (ps.map (·.1)) k
theorem badPt_of {a b c d : Int} (h1 : coordQ a b = true) (h2 : coordQ c d = true) : badPt ((a, b), c, d) = false := by simp [badPt, h1, h2]
theorem GoodTo.first {ps : List Pt} {p : Pt} (hp : ps[0]? = some p) (hb : badPt p = false) : GoodTo ps 1 := by
  refine ⟨fun i q hi hq => ?_, UpTo.one _⟩
  obtain rfl : i = 0 := by omega
  rw [hp] at hq; cases hq; exact hb
theorem GoodTo.more {ps : List Pt} {k : Nat} {x y : Pt} (h : GoodTo ps (k + 1)) (hx : ps[k]? = some x) (hy : ps[k + 1]? = some y) (hb : badPt y = false) (hl : lessQ x.1.1 x.1.2 y.1.1 y.1.2 = true) : GoodTo ps (k + 1 + 1) := by
  refine ⟨fun i q hi hq => ?_, UpTo.more h.2 (by simp [hx]) (by simp [hy]) hl⟩
  by_cases e : i = k + 1
  · subst e; rw [hy] at hq; cases hq; exact hb
  · exact h.1 i q (by omega) hq
theorem okMap_bad {ps : List Pt} {k : Nat} {p : Pt} (hp : ps[k]? = some p) (hb : badPt p = true) : okMap ps = false :=
  okMap_noCoord (List.any_eq_true.2 ⟨p, List.mem_of_getElem? hp, hb⟩)
theorem okMap_fall {ps : List Pt} {k : Nat} {x y : Pt} (hx : ps[k]? = some x) (hy : ps[k + 1]? = some y) (hl : lessQ x.1.1 x.1.2 y.1.1 y.1.2 = false) : okMap ps = false := by
  have : risingB (ps.map (·.1)) = false := UpTo.fails (x := x.1) (y := y.1) (k := k) (by simp [hx]) (by simp [hy]) hl
  simp only [okMap, this, Bool.and_false]
theorem GoodTo.none_bad {ps : List Pt} (h : GoodTo ps ps.length) : ps.any badPt = false := by
  rw [List.any_eq_false]
  intro p hp
  obtain ⟨i, hi, rfl⟩ := List.getElem_of_mem hp
  rw [h.1 i _ hi (List.getElem?_eq_getElem hi)]; decide
theorem cmp0 {n d : Int} (h : okQ n d = true) : decide (cmpQ n d 0 1 = 0) = decide (((n, d) : Q) = (0, 1)) := by
  have hb := okQ_bd h
  have hg := okQ_gcd h
  rw [decide_eq_decide]
  unfold cmpQ
  constructor
  · intro hc
    have hn : n = 0 := by split at hc <;> (try split at hc) <;> omega
    subst hn
    rw [Int.gcd_zero_left] at hg
    rw [show d = 1 from by omega]
  · intro hq; cases hq; decide
theorem cmp1 {n d : Int} (h : okQ n d = true) : decide (cmpQ n d 1 1 = 0) = decide (((n, d) : Q) = (1, 1)) := by
  have hb := okQ_bd h
  have hg := okQ_gcd h
  rw [decide_eq_decide]
  unfold cmpQ
  constructor
  · intro hc
    have hn : n = d := by split at hc <;> (try split at hc) <;> omega
    subst hn
    rw [Int.gcd_self] at hg
    rw [show n = 1 from by omega]
  · intro hq; cases hq; decide
theorem GoodTo.whole {ps : List Pt} (h : GoodTo ps ps.length) (hn : 2 ≤ ps.length ∧ ps.length ≤ 12) {x1 x2 y1 y2 : Int} {x y : Q} (hx : ps[0]? = some ((x1, x2), x)) (hy : ps[ps.length - 1]? = some ((y1, y2), y)) :
    okMap ps = (decide (cmpQ x1 x2 0 1 = 0) && decide (cmpQ y1 y2 1 1 = 0)) := by
  have hb := h.none_bad
  have h1 := h.1 0 _ (by omega) hx
  have h2 := h.1 _ _ (by omega) hy
  simp only [badPt, Bool.or_eq_false_iff, Bool.not_eq_false'] at h1 h2
  rw [cmp0 (unitQ_ok (coordQ_unit h1.1)), cmp1 (unitQ_ok (coordQ_unit h2.1)), okMap_rest hn hb hx hy, UpTo.whole h.2 (by simp), Bool.and_true]

def RelG (ps : List Pt) (w : World) (i : Value) (wr : World) : Prop := ∃ k : Nat, k ≤ ps.length ∧ i = .int .i64 k ∧ GoodTo ps k ∧ Below w.heap.size w wr

theorem imGood_len (ps : List Pt) (v : Value) (w : World) (hv : RdP w v ps) (hn : ps.length ≤ 9000000) (h : ¬ (2 ≤ ps.length ∧ ps.length ≤ 12)) :
    Calls Try.prog 73 #[v] w fun e w' => e = .returned (.bool false) ∧ Below w.heap.size w w' := by
  obtain ⟨A, c, rfl, hl, hm, hcell⟩ := hv
  clear hcell
  go_enter Try.func73, Try.ntmps73
  go_wp2_with fail
  refine (l1In_no (ps.length : Int) 2 12 (by omega) _).mono ?_
  rintro e w1 ⟨rfl, rfl⟩
  go_wp2_with fail
  go_ret
  exact ⟨rfl, Below.refl _ _⟩

set_option maxHeartbeats 3200000 in
theorem imGood_in (ps : List Pt) (g o c : Nat) (t : Bool) (w : World) (hg : g < w.heap.size) (_hl : ps.length ≤ c) (hn : 2 ≤ ps.length ∧ ps.length ≤ 12) (ht : okMap ps = t)
    (hc : ∀ i p, ps[i]? = some p → w.cell? ⟨g, o + i * 4, none⟩ = some (.int .i64 p.1.1) ∧ w.cell? ⟨g, o + i * 4 + 1, none⟩ = some (.int .i64 p.1.2) ∧ w.cell? ⟨g, o + i * 4 + 2, none⟩ = some (.int .i64 p.2.1) ∧ w.cell? ⟨g, o + i * 4 + 3, none⟩ = some (.int .i64 p.2.2)) :
    Calls Try.prog 73 #[.slice (some ⟨g, o, none⟩) ps.length c] w fun e w' => e = .returned (.bool t) ∧ Below w.heap.size w w' := by
  have HC := Lib.hid hc
  have HT := Lib.hid ht
  clear hc ht
  go_enter Try.func73, Try.ntmps73
  go_wp2_with fail
  refine (l1In_yes (ps.length : Int) 2 12 (by omega) (by omega) _).mono ?_
  rintro e w1 ⟨rfl, rfl⟩
  go_wp2_with fail
  go_loopw [11] (fun i wr => RelG ps w1 i wr) (fun i _ => ps.length - (intOf i).toNat)
  case atStart => exact ⟨0, Nat.zero_le _, rfl, ⟨fun i p hi => by omega, fun i x y hi => by omega⟩, Below.refl _ _⟩
  case round =>
    obtain ⟨k, hk, rfl, hgood, hb⟩ := hrel
    have HG := Lib.hid hgood
    clear hgood
    by_cases hlt : k < ps.length
    · have hqk := List.getElem?_eq_getElem hlt
      have hq := HC.out k _ hqk
      generalize ps[k] = q at *
      obtain ⟨⟨a1, a2⟩, a3, a4⟩ := q
      obtain ⟨c0, c1, c2, c3⟩ := hq
      rw [← hb.cell (p := ⟨g, _, none⟩) hg] at c0 c1 c2 c3
      have HQ := Lib.hid hqk
      clear hqk
      rcases hX : coordQ a1 a2 with _ | _
      · have HX := Lib.hid hX
        have HE := Lib.hid (show t = false by rw [← HT.out]; exact okMap_bad HQ.out (by simp [badPt, hX]))
        clear hX
        go_wp2_with fail
        have d0 : (wr.alloc (.cells #[.int .i64 a1, .int .i64 a2, .int .i64 a3, .int .i64 a4] 70)).cell? ⟨wr.heap.size, 0, none⟩ = some (.int .i64 a1) := by simp [go_sem]
        have d1 : (wr.alloc (.cells #[.int .i64 a1, .int .i64 a2, .int .i64 a3, .int .i64 a4] 70)).cell? ⟨wr.heap.size, 1, none⟩ = some (.int .i64 a2) := by simp [go_sem]
        refine wp_region_below (by kernel_rfl) (by kernel_rfl) ?_
        iterate 26 (first
          | (refine stepS rfl ?_; simp only [Act.put, List.setIfInBounds_toArray, List.set_cons_zero, List.set_cons_succ])
          | (refine stepV (v := ?_) rfl (fun W hW => ?_) ?_
             rotate_left
             focus
               have qc0 := cellB hW.out d0
               have qc1 := cellB hW.out d1
               go_simp
               try with_reducible rfl
               done
             simp only [Act.put, List.setIfInBounds_toArray, List.set_cons_zero, List.set_cons_succ])
          | (refine stepC rfl (fun W hW => ?_) (fun W hW => callB hW (imCoord_is a1 a2 false HX.out _)) ?_
             focus
               go_simp
               try with_reducible rfl
               done
             simp only [Act.put, List.setIfInBounds_toArray, List.set_cons_zero, List.set_cons_succ]))
        refine stepN ?_
        intro w2 hw2
        have hB : Below w1.heap.size w1 w2 := nextW (hb.alloc hb.size _) hw2.out
        clear hw2 c0 c1 c2 c3 d0 d1
        go_wp2_with fail
        go_ret
        exact ⟨ret_bool HE.out.symm, hB⟩
      · rcases hY : coordQ a3 a4 with _ | _
        · have HX := Lib.hid hX
          have HY := Lib.hid hY
          have HE := Lib.hid (show t = false by rw [← HT.out]; exact okMap_bad HQ.out (by simp [badPt, hY]))
          clear hX hY
          go_wp2_with fail
          have d0 : (wr.alloc (.cells #[.int .i64 a1, .int .i64 a2, .int .i64 a3, .int .i64 a4] 70)).cell? ⟨wr.heap.size, 0, none⟩ = some (.int .i64 a1) := by simp [go_sem]
          have d1 : (wr.alloc (.cells #[.int .i64 a1, .int .i64 a2, .int .i64 a3, .int .i64 a4] 70)).cell? ⟨wr.heap.size, 1, none⟩ = some (.int .i64 a2) := by simp [go_sem]
          have d2 : (wr.alloc (.cells #[.int .i64 a1, .int .i64 a2, .int .i64 a3, .int .i64 a4] 70)).cell? ⟨wr.heap.size, 2, none⟩ = some (.int .i64 a3) := by simp [go_sem]
          have d3 : (wr.alloc (.cells #[.int .i64 a1, .int .i64 a2, .int .i64 a3, .int .i64 a4] 70)).cell? ⟨wr.heap.size, 3, none⟩ = some (.int .i64 a4) := by simp [go_sem]
          refine wp_region_below (by kernel_rfl) (by kernel_rfl) ?_
          iterate 26 (first
            | (refine stepS rfl ?_; simp only [Act.put, List.setIfInBounds_toArray, List.set_cons_zero, List.set_cons_succ])
            | (refine stepV (v := ?_) rfl (fun W hW => ?_) ?_
               rotate_left
               focus
                 have qc0 := cellB hW.out d0
                 have qc1 := cellB hW.out d1
                 have qc2 := cellB hW.out d2
                 have qc3 := cellB hW.out d3
                 go_simp
                 try with_reducible rfl
                 done
               simp only [Act.put, List.setIfInBounds_toArray, List.set_cons_zero, List.set_cons_succ])
            | (refine stepC rfl (fun W hW => ?_) (fun W hW => callB hW (imCoord_is a1 a2 true HX.out _)) ?_
               focus
                 go_simp
                 try with_reducible rfl
                 done
               simp only [Act.put, List.setIfInBounds_toArray, List.set_cons_zero, List.set_cons_succ])
            | (refine stepC rfl (fun W hW => ?_) (fun W hW => callB hW (imCoord_is a3 a4 false HY.out _)) ?_
               focus
                 go_simp
                 try with_reducible rfl
                 done
               simp only [Act.put, List.setIfInBounds_toArray, List.set_cons_zero, List.set_cons_succ]))
          refine stepN ?_
          intro w2 hw2
          have hB : Below w1.heap.size w1 w2 := nextW (hb.alloc hb.size _) hw2.out
          clear hw2 c0 c1 c2 c3 d0 d1 d2 d3
          go_wp2_with fail
          go_ret
          exact ⟨ret_bool HE.out.symm, hB⟩
        · cases k with
          | zero =>
            have HX := Lib.hid hX
            have HY := Lib.hid hY
            have HN := Lib.hid (GoodTo.first HQ.out (badPt_of hX hY))
            clear hX hY
            simp only [Nat.zero_mul, Nat.add_zero] at c0 c1 c2 c3
            go_wp2_with fail
            have d0 : (wr.alloc (.cells #[.int .i64 a1, .int .i64 a2, .int .i64 a3, .int .i64 a4] 70)).cell? ⟨wr.heap.size, 0, none⟩ = some (.int .i64 a1) := by simp [go_sem]
            have d1 : (wr.alloc (.cells #[.int .i64 a1, .int .i64 a2, .int .i64 a3, .int .i64 a4] 70)).cell? ⟨wr.heap.size, 1, none⟩ = some (.int .i64 a2) := by simp [go_sem]
            have d2 : (wr.alloc (.cells #[.int .i64 a1, .int .i64 a2, .int .i64 a3, .int .i64 a4] 70)).cell? ⟨wr.heap.size, 2, none⟩ = some (.int .i64 a3) := by simp [go_sem]
            have d3 : (wr.alloc (.cells #[.int .i64 a1, .int .i64 a2, .int .i64 a3, .int .i64 a4] 70)).cell? ⟨wr.heap.size, 3, none⟩ = some (.int .i64 a4) := by simp [go_sem]
            refine wp_region_below (by kernel_rfl) (by kernel_rfl) ?_
            iterate 26 (first
              | (refine stepS rfl ?_; simp only [Act.put, List.setIfInBounds_toArray, List.set_cons_zero, List.set_cons_succ])
              | (refine stepV (v := ?_) rfl (fun W hW => ?_) ?_
                 rotate_left
                 focus
                   have qc0 := cellB hW.out d0
                   have qc1 := cellB hW.out d1
                   have qc2 := cellB hW.out d2
                   have qc3 := cellB hW.out d3
                   go_simp
                   try with_reducible rfl
                   done
                 simp only [Act.put, List.setIfInBounds_toArray, List.set_cons_zero, List.set_cons_succ])
              | (refine stepC rfl (fun W hW => ?_) (fun W hW => callB hW (imCoord_is a1 a2 true HX.out _)) ?_
                 focus
                   go_simp
                   try with_reducible rfl
                   done
                 simp only [Act.put, List.setIfInBounds_toArray, List.set_cons_zero, List.set_cons_succ])
              | (refine stepC rfl (fun W hW => ?_) (fun W hW => callB hW (imCoord_is a3 a4 true HY.out _)) ?_
                 focus
                   go_simp
                   try with_reducible rfl
                   done
                 simp only [Act.put, List.setIfInBounds_toArray, List.set_cons_zero, List.set_cons_succ]))
            refine stepN ?_
            intro w2 hw2
            have hB : Below w1.heap.size w1 w2 := nextW (hb.alloc hb.size _) hw2.out
            clear hw2 c0 c1 c2 c3 d0 d1 d2 d3
            go_wp2_with fail
            go_roundw
            case rel => exact ⟨1, by omega, by go_num, HN.out, hB⟩
            case measure => simp [intOf]; omega
          | succ j =>
            have hx := List.getElem?_eq_getElem (show j < ps.length by omega)
            have he := HC.out j _ hx
            have hbad := HG.out.1 j _ (by omega) hx
            generalize ps[j] = x at *
            obtain ⟨⟨x1, x2⟩, x3, x4⟩ := x
            obtain ⟨e0, e1, _, _⟩ := he
            rw [← hb.cell (p := ⟨g, _, none⟩) hg] at e0 e1
            have HSX := Lib.hid (show Sm x1 ∧ Sm x2 from coord_sm (by simp only [badPt, Bool.or_eq_false_iff, Bool.not_eq_false'] at hbad; exact hbad.1))
            have HSA := Lib.hid (coord_sm hX)
            have HX := Lib.hid hX
            have HY := Lib.hid hY
            have b0 : (0 : Int) < (j : Int) + 1 := by omega
            have b1 : (j : Int) < (ps.length : Int) := by omega
            have b2 : j < ps.length := by omega
            have v1 : IntKind.i64.wrap (j : Int) = (j : Int) := IntWalk.i64_in _ (by omega)
            have b4 : (1 : Int) ≤ (j : Int) + 1 := by omega
            rcases hle : lessQ x1 x2 a1 a2 with _ | _
            · have HE := Lib.hid (show t = false by rw [← HT.out]; exact okMap_fall hx HQ.out hle)
              obtain ⟨v, hv⟩ : ∃ v, cmpQ x1 x2 a1 a2 = v := ⟨_, rfl⟩
              have hd : decide ((0 : Int) ≤ v) = true := by
                rw [lessQ_cmp, hv] at hle; simp at hle ⊢; omega
              have hd2 : (0 : Int) ≤ v := by simpa using hd
              have HV := Lib.hid hv
              clear hX hY hx hbad hle hv
              go_wp2_with fail
              have d0 : (wr.alloc (.cells #[.int .i64 a1, .int .i64 a2, .int .i64 a3, .int .i64 a4] 70)).cell? ⟨wr.heap.size, 0, none⟩ = some (.int .i64 a1) := by simp [go_sem]
              have d1 : (wr.alloc (.cells #[.int .i64 a1, .int .i64 a2, .int .i64 a3, .int .i64 a4] 70)).cell? ⟨wr.heap.size, 1, none⟩ = some (.int .i64 a2) := by simp [go_sem]
              have d2 : (wr.alloc (.cells #[.int .i64 a1, .int .i64 a2, .int .i64 a3, .int .i64 a4] 70)).cell? ⟨wr.heap.size, 2, none⟩ = some (.int .i64 a3) := by simp [go_sem]
              have d3 : (wr.alloc (.cells #[.int .i64 a1, .int .i64 a2, .int .i64 a3, .int .i64 a4] 70)).cell? ⟨wr.heap.size, 3, none⟩ = some (.int .i64 a4) := by simp [go_sem]
              replace e0 := cellA (.cells #[.int .i64 a1, .int .i64 a2, .int .i64 a3, .int .i64 a4] 70) e0
              replace e1 := cellA (.cells #[.int .i64 a1, .int .i64 a2, .int .i64 a3, .int .i64 a4] 70) e1
              refine wp_region_below (by kernel_rfl) (by kernel_rfl) ?_
              iterate 26 (first
                | (refine stepS rfl ?_; simp only [Act.put, List.setIfInBounds_toArray, List.set_cons_zero, List.set_cons_succ])
                | (refine stepV (v := ?_) rfl (fun W hW => ?_) ?_
                   rotate_left
                   focus
                     have qc0 := cellB hW.out d0
                     have qc1 := cellB hW.out d1
                     have qc2 := cellB hW.out d2
                     have qc3 := cellB hW.out d3
                     have qc4 := cellB hW.out e0
                     have qc5 := cellB hW.out e1
                     go_simp
                     try with_reducible rfl
                     done
                   simp only [Act.put, List.setIfInBounds_toArray, List.set_cons_zero, List.set_cons_succ])
                | (refine stepC rfl (fun W hW => ?_) (fun W hW => callB hW (imCoord_is a1 a2 true HX.out _)) ?_
                   focus
                     go_simp
                     try with_reducible rfl
                     done
                   simp only [Act.put, List.setIfInBounds_toArray, List.set_cons_zero, List.set_cons_succ])
                | (refine stepC rfl (fun W hW => ?_) (fun W hW => callB hW (imCoord_is a3 a4 true HY.out _)) ?_
                   focus
                     go_simp
                     try with_reducible rfl
                     done
                   simp only [Act.put, List.setIfInBounds_toArray, List.set_cons_zero, List.set_cons_succ])
                | (refine stepC rfl (fun W hW => ?_) (fun W hW => callB hW (raCmp_is x1 x2 a1 a2 v HSX.out HSA.out HV.out _)) ?_
                   focus
                     go_simp
                     try with_reducible rfl
                     done
                   simp only [Act.put, List.setIfInBounds_toArray, List.set_cons_zero, List.set_cons_succ]))
              refine stepN ?_
              intro w2 hw2
              have hB : Below w1.heap.size w1 w2 := nextW (hb.alloc hb.size _) hw2.out
              clear hw2 c0 c1 c2 c3 d0 d1 d2 d3 e0 e1 hd
              go_wp2_with fail
              go_ret
              exact ⟨ret_bool HE.out.symm, hB⟩
            · have HN := Lib.hid (GoodTo.more HG.out hx HQ.out (badPt_of hX hY) hle)
              obtain ⟨v, hv⟩ : ∃ v, cmpQ x1 x2 a1 a2 = v := ⟨_, rfl⟩
              have hd : decide ((0 : Int) ≤ v) = false := by
                rw [lessQ_cmp, hv] at hle; simp at hle ⊢; omega
              have hd2 : v < (0 : Int) := by simpa using hd
              have HV := Lib.hid hv
              clear hX hY hx hbad hle hv
              go_wp2_with fail
              have d0 : (wr.alloc (.cells #[.int .i64 a1, .int .i64 a2, .int .i64 a3, .int .i64 a4] 70)).cell? ⟨wr.heap.size, 0, none⟩ = some (.int .i64 a1) := by simp [go_sem]
              have d1 : (wr.alloc (.cells #[.int .i64 a1, .int .i64 a2, .int .i64 a3, .int .i64 a4] 70)).cell? ⟨wr.heap.size, 1, none⟩ = some (.int .i64 a2) := by simp [go_sem]
              have d2 : (wr.alloc (.cells #[.int .i64 a1, .int .i64 a2, .int .i64 a3, .int .i64 a4] 70)).cell? ⟨wr.heap.size, 2, none⟩ = some (.int .i64 a3) := by simp [go_sem]
              have d3 : (wr.alloc (.cells #[.int .i64 a1, .int .i64 a2, .int .i64 a3, .int .i64 a4] 70)).cell? ⟨wr.heap.size, 3, none⟩ = some (.int .i64 a4) := by simp [go_sem]
              replace e0 := cellA (.cells #[.int .i64 a1, .int .i64 a2, .int .i64 a3, .int .i64 a4] 70) e0
              replace e1 := cellA (.cells #[.int .i64 a1, .int .i64 a2, .int .i64 a3, .int .i64 a4] 70) e1
              refine wp_region_below (by kernel_rfl) (by kernel_rfl) ?_
              iterate 26 (first
                | (refine stepS rfl ?_; simp only [Act.put, List.setIfInBounds_toArray, List.set_cons_zero, List.set_cons_succ])
                | (refine stepV (v := ?_) rfl (fun W hW => ?_) ?_
                   rotate_left
                   focus
                     have qc0 := cellB hW.out d0
                     have qc1 := cellB hW.out d1
                     have qc2 := cellB hW.out d2
                     have qc3 := cellB hW.out d3
                     have qc4 := cellB hW.out e0
                     have qc5 := cellB hW.out e1
                     go_simp
                     try with_reducible rfl
                     done
                   simp only [Act.put, List.setIfInBounds_toArray, List.set_cons_zero, List.set_cons_succ])
                | (refine stepC rfl (fun W hW => ?_) (fun W hW => callB hW (imCoord_is a1 a2 true HX.out _)) ?_
                   focus
                     go_simp
                     try with_reducible rfl
                     done
                   simp only [Act.put, List.setIfInBounds_toArray, List.set_cons_zero, List.set_cons_succ])
                | (refine stepC rfl (fun W hW => ?_) (fun W hW => callB hW (imCoord_is a3 a4 true HY.out _)) ?_
                   focus
                     go_simp
                     try with_reducible rfl
                     done
                   simp only [Act.put, List.setIfInBounds_toArray, List.set_cons_zero, List.set_cons_succ])
                | (refine stepC rfl (fun W hW => ?_) (fun W hW => callB hW (raCmp_is x1 x2 a1 a2 v HSX.out HSA.out HV.out _)) ?_
                   focus
                     go_simp
                     try with_reducible rfl
                     done
                   simp only [Act.put, List.setIfInBounds_toArray, List.set_cons_zero, List.set_cons_succ]))
              refine stepN ?_
              intro w2 hw2
              have hB : Below w1.heap.size w1 w2 := nextW (hb.alloc hb.size _) hw2.out
              clear hw2 c0 c1 c2 c3 d0 d1 d2 d3 e0 e1 hd
              go_wp2_with fail
              go_roundw
              case rel => exact ⟨j + 1 + 1, by omega, by go_num, HN.out, hB⟩
              case measure => simp [intOf]; omega
    · obtain rfl : k = ps.length := by omega
      have k0 : ps[0]? = some (ps[0]'(by omega)) := List.getElem?_eq_getElem (by omega)
      have k1 : ps[ps.length - 1]? = some (ps[ps.length - 1]'(by omega)) := List.getElem?_eq_getElem (by omega)
      have m0 := HG.out.1 0 _ (by omega) k0
      have m1 := HG.out.1 _ _ (by omega) k1
      generalize ps[0]'(by omega) = x at *
      generalize ps[ps.length - 1]'(by omega) = y at *
      obtain ⟨⟨x1, x2⟩, x3⟩ := x
      obtain ⟨⟨y1, y2⟩, y3⟩ := y
      obtain ⟨e0, e1, _, _⟩ := HC.out 0 _ k0
      obtain ⟨e2, e3, _, _⟩ := HC.out (ps.length - 1) _ k1
      rw [← hb.cell (p := ⟨g, _, none⟩) hg] at e0 e1 e2 e3
      simp only [Nat.zero_mul, Nat.add_zero] at e0 e1
      simp only [badPt, Bool.or_eq_false_iff, Bool.not_eq_false'] at m0 m1
      have HS0 := Lib.hid (coord_sm m0.1)
      have HS1 := Lib.hid (coord_sm m1.1)
      have HW := Lib.hid (show t = (decide (cmpQ x1 x2 0 1 = 0) && decide (cmpQ y1 y2 1 1 = 0)) by rw [← HT.out]; exact GoodTo.whole HG.out hn k0 k1)
      clear k0 k1 m0 m1
      obtain ⟨u, hu⟩ : ∃ u, cmpQ x1 x2 0 1 = u := ⟨_, rfl⟩
      obtain ⟨v, hv⟩ : ∃ v, cmpQ y1 y2 1 1 = v := ⟨_, rfl⟩
      have HU := Lib.hid hu
      have HV := Lib.hid hv
      clear hu hv
      have b0 : 0 < ps.length := by omega
      have b1 : ps.length - 1 < ps.length := by omega
      have b4 : (1 : Int) ≤ (ps.length : Int) := by omega
      have b2 : (0 : Int) ≤ (ps.length : Int) - 1 := by omega
      have b3 : (ps.length : Int) - 1 < (ps.length : Int) := by omega
      have v1 : IntKind.i64.wrap ((ps.length : Int) - 1) = (ps.length : Int) - 1 := IntWalk.i64_in _ (by omega)
      have t1 : ((ps.length : Int) - 1).toNat = ps.length - 1 := by omega
      rcases hu0 : ((u : Int) == 0) with _ | _
      · go_wp2_with fail
        refine wp_region_below (by kernel_rfl) (by kernel_rfl) ?_
        iterate 20 (first
          | (refine stepS rfl ?_; simp only [Act.put, List.setIfInBounds_toArray, List.set_cons_zero, List.set_cons_succ])
          | (refine stepV (v := ?_) rfl (fun W hW => ?_) ?_
             rotate_left
             focus
               have qc0 := cellB hW.out e0
               have qc1 := cellB hW.out e1
               have qc2 := cellB hW.out e2
               have qc3 := cellB hW.out e3
               go_simp
               try with_reducible rfl
               done
             simp only [Act.put, List.setIfInBounds_toArray, List.set_cons_zero, List.set_cons_succ])
          | (refine stepC rfl (fun W hW => ?_) (fun W hW => callB hW (raInt_any 0 _)) ?_
             focus
               go_simp
               try with_reducible rfl
               done
             simp only [Act.put, List.setIfInBounds_toArray, List.set_cons_zero, List.set_cons_succ])
          | (refine stepC rfl (fun W hW => ?_) (fun W hW => callB hW (raCmp_is x1 x2 0 1 u HS0.out sm01 HU.out _)) ?_
             focus
               go_simp
               try with_reducible rfl
               done
             simp only [Act.put, List.setIfInBounds_toArray, List.set_cons_zero, List.set_cons_succ]))
        refine stepN ?_
        intro w2 hw2
        have hB := nextW hb hw2.out
        clear hw2 v1 t1
        go_wp2_with fail
        go_ret
        exact ⟨ret_bool (by rw [HW.out, HU.out]; simp at hu0; simp [hu0]), hB⟩
      · rcases hv0 : ((v : Int) == 0) with _ | _
        · go_wp2_with fail
          refine wp_region_below (by kernel_rfl) (by kernel_rfl) ?_
          iterate 20 (first
            | (refine stepS rfl ?_; simp only [Act.put, List.setIfInBounds_toArray, List.set_cons_zero, List.set_cons_succ])
            | (refine stepV (v := ?_) rfl (fun W hW => ?_) ?_
               rotate_left
               focus
                 have qc0 := cellB hW.out e0
                 have qc1 := cellB hW.out e1
                 have qc2 := cellB hW.out e2
                 have qc3 := cellB hW.out e3
                 go_simp
                 try with_reducible rfl
                 done
               simp only [Act.put, List.setIfInBounds_toArray, List.set_cons_zero, List.set_cons_succ])
            | (refine stepC rfl (fun W hW => ?_) (fun W hW => callB hW (raInt_any 0 _)) ?_
               focus
                 go_simp
                 try with_reducible rfl
                 done
               simp only [Act.put, List.setIfInBounds_toArray, List.set_cons_zero, List.set_cons_succ])
            | (refine stepC rfl (fun W hW => ?_) (fun W hW => callB hW (raCmp_is x1 x2 0 1 u HS0.out sm01 HU.out _)) ?_
               focus
                 go_simp
                 try with_reducible rfl
                 done
               simp only [Act.put, List.setIfInBounds_toArray, List.set_cons_zero, List.set_cons_succ])
            | (refine stepC rfl (fun W hW => ?_) (fun W hW => callB hW (raInt_any 1 _)) ?_
               focus
                 go_simp
                 try with_reducible rfl
                 done
               simp only [Act.put, List.setIfInBounds_toArray, List.set_cons_zero, List.set_cons_succ])
            | (refine stepC rfl (fun W hW => ?_) (fun W hW => callB hW (raCmp_is y1 y2 1 1 v HS1.out sm11 HV.out _)) ?_
               focus
                 go_simp
                 try with_reducible rfl
                 done
               simp only [Act.put, List.setIfInBounds_toArray, List.set_cons_zero, List.set_cons_succ]))
          refine stepN ?_
          intro w2 hw2
          have hB := nextW hb hw2.out
          clear hw2 v1 t1
          go_wp2_with fail
          go_ret
          exact ⟨ret_bool (by rw [HW.out, HV.out]; simp at hv0; simp [hv0]), hB⟩
        · go_wp2_with fail
          refine wp_region_below (by kernel_rfl) (by kernel_rfl) ?_
          iterate 20 (first
            | (refine stepS rfl ?_; simp only [Act.put, List.setIfInBounds_toArray, List.set_cons_zero, List.set_cons_succ])
            | (refine stepV (v := ?_) rfl (fun W hW => ?_) ?_
               rotate_left
               focus
                 have qc0 := cellB hW.out e0
                 have qc1 := cellB hW.out e1
                 have qc2 := cellB hW.out e2
                 have qc3 := cellB hW.out e3
                 go_simp
                 try with_reducible rfl
                 done
               simp only [Act.put, List.setIfInBounds_toArray, List.set_cons_zero, List.set_cons_succ])
            | (refine stepC rfl (fun W hW => ?_) (fun W hW => callB hW (raInt_any 0 _)) ?_
               focus
                 go_simp
                 try with_reducible rfl
                 done
               simp only [Act.put, List.setIfInBounds_toArray, List.set_cons_zero, List.set_cons_succ])
            | (refine stepC rfl (fun W hW => ?_) (fun W hW => callB hW (raCmp_is x1 x2 0 1 u HS0.out sm01 HU.out _)) ?_
               focus
                 go_simp
                 try with_reducible rfl
                 done
               simp only [Act.put, List.setIfInBounds_toArray, List.set_cons_zero, List.set_cons_succ])
            | (refine stepC rfl (fun W hW => ?_) (fun W hW => callB hW (raInt_any 1 _)) ?_
               focus
                 go_simp
                 try with_reducible rfl
                 done
               simp only [Act.put, List.setIfInBounds_toArray, List.set_cons_zero, List.set_cons_succ])
            | (refine stepC rfl (fun W hW => ?_) (fun W hW => callB hW (raCmp_is y1 y2 1 1 v HS1.out sm11 HV.out _)) ?_
               focus
                 go_simp
                 try with_reducible rfl
                 done
               simp only [Act.put, List.setIfInBounds_toArray, List.set_cons_zero, List.set_cons_succ]))
          refine stepN ?_
          intro w2 hw2
          have hB := nextW hb hw2.out
          clear hw2 v1 t1
          go_wp2_with fail
          go_ret
          exact ⟨ret_bool (by rw [HW.out, HU.out, HV.out]; simp at hu0 hv0; simp [hu0, hv0]), hB⟩

theorem imGood_is (ps : List Pt) (v : Value) (t : Bool) (w : World) (hv : RdP w v ps) (hn : ps.length ≤ 1048576) (ht : okMap ps = t) :
    Calls Try.prog 73 #[v] w fun e w' => e = .returned (.bool t) ∧ Below w.heap.size w w' := by
  by_cases h1 : 2 ≤ ps.length ∧ ps.length ≤ 12
  · obtain ⟨A, c, rfl, hl, hm, hcell⟩ := hv
    obtain ⟨g, o, rfl, hg, hc⟩ := hcell (by intro e; rw [e] at h1; simp at h1)
    exact imGood_in ps g o c t w hg hl h1 ht hc
  · rw [okMap_noLen h1] at ht
    subst ht
    exact imGood_len ps v w hv (by omega) h1

end Go.Proofs.Ytkdhhopfefhdjaa
