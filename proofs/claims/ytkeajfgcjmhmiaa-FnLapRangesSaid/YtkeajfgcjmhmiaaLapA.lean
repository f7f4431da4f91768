/- laps of both. -/
import Derived.Test.YtkeajfgcjmhmiaaLap
namespace Go.Proofs.Ytkeajfgcjmhmiaa
open Go.RowKit

theorem cmp_zero (n d : Int) : cmpQ n d 0 1 = if n < 0 then -1 else if 0 < n then 1 else 0 := by unfold cmpQ; simp
theorem slopesQ_okL {ps : List Pt} (hr : RiseC ps) {k : Nat} {s : Q} (h : (slopesQ ps)[k]? = some s) : okQ s.1 s.2 = true := by
  have hk : k < (slopesQ ps).length := (List.getElem?_eq_some_iff.1 h).1
  rw [slopesQ_len] at hk
  have hp := List.getElem?_eq_getElem (show k < ps.length by omega)
  have hq := List.getElem?_eq_getElem (show k + 1 < ps.length by omega)
  rw [slopesQ_get hp hq] at h
  cases h
  exact (slopeQ_ok (hr.coord _ _ hp).1 (hr.coord _ _ hp).2 (hr.coord _ _ hq).1 (hr.coord _ _ hq).2 (hr.rise _ _ _ hp hq)).1
def lapsQ (ps : List Pt) : List Row3 := lapN (slopesQ ps) (ps.length - 1)
def RetL (w : World) (rs : List Row3) (e : Ending) (w' : World) : Prop := ∃ r, e = .returned r ∧ OwL w.heap.size w' r rs ∧ Below w.heap.size w w'
def RelLp (sl : List Q) (n : Nat) (W0 : World) (out i : Value) (wr : World) : Prop := ∃ k : Nat, k ≤ n ∧ i = .int .i64 k ∧ OwL W0.heap.size wr out (lapN sl k) ∧ Below W0.heap.size W0 wr
theorem OwL.shape {base : Nat} {w : World} {v : Value} {rs : List Row3} (h : OwL base w v rs) : ∃ a c, v = .slice a rs.length c ∧ rs.length ≤ c ∧ c ≤ maxLen := by
  obtain ⟨bs, -, h2, -⟩ := h
  rcases h2.2 with ⟨rfl, h0⟩ | ⟨g, cap, cur, hv, -, -, hle, hm, -⟩
  · exact ⟨none, 0, by rw [h0], by omega, by simp [maxLen]⟩
  · exact ⟨_, cap, hv, hle, hm⟩

theorem compare_is (n1 d1 n2 d2 g : Int) (s1 : Sm n1 ∧ Sm d1) (s2 : Sm n2 ∧ Sm d2) (h : cmpQ n1 d1 n2 d2 = g) (w : World) :
    Calls Try.prog 64 #[.agg #[.int .i64 n1, .int .i64 d1], .agg #[.int .i64 n2, .int .i64 d2]] w fun e w' => e = .returned (.int .i64 g) ∧ Below w.heap.size w w' := by
  rw [← h]; exact compare_any n1 d1 n2 d2 s1.1 s1.2 s2.1 s2.2 w

set_option maxHeartbeats 400000 in
theorem sign_is (n d g : Int) (hg : cmpQ n d 0 1 = g) (s : Sm n ∧ Sm d) (w : World) :
    Calls Try.prog 47 #[.agg #[.int .i64 n, .int .i64 d]] w fun e w' => e = .returned (.int .i64 g) ∧ Below w.heap.size w w' := by
  have HG := Lib.hid hg
  have HS := Lib.hid s
  clear hg s
  go_enter Try.func47, Try.ntmps47
  go_wp2_with fail
  go_name_world W hW
  have hB : Below w.heap.size w W := by rw [← hW]; go_grown
  have f0 : W.cell? ⟨w.heap.size, 0, none⟩ = some (.int .i64 n) := by rw [← hW]; simp [go_sem]
  have f1 : W.cell? ⟨w.heap.size, 1, none⟩ = some (.int .i64 d) := by rw [← hW]; simp [go_sem]
  clear hW
  refine wp_region_below (by kernel_rfl) (by kernel_rfl) ?_
  iterate 4 (first
    | (refine stepS rfl ?_; simp only [Act.put, List.setIfInBounds_toArray, List.set_cons_zero, List.set_cons_succ])
    | (refine stepV (v := ?_) rfl (fun W hW => ?_) ?_
       rotate_left
       focus
         have qc0 := cellB hW.out f0
         have qc1 := cellB hW.out f1
         go_simp
         try with_reducible rfl
         done
       simp only [Act.put, List.setIfInBounds_toArray, List.set_cons_zero, List.set_cons_succ])
    | (refine stepC rfl (fun W hW => ?_) (fun W hW => callB hW (zero_any _)) ?_
       focus
         go_simp
         try with_reducible rfl
         done
       simp only [Act.put, List.setIfInBounds_toArray, List.set_cons_zero, List.set_cons_succ])
    | (refine stepC rfl (fun W hW => ?_) (fun W hW => callB hW (compare_is n d 0 1 g HS.out sm01 HG.out _)) ?_
       focus
         go_simp
         try with_reducible rfl
         done
       simp only [Act.put, List.setIfInBounds_toArray, List.set_cons_zero, List.set_cons_succ]))
  refine stepN ?_
  intro w2 hw2
  have hB2 := nextW hB hw2.out
  go_wp2_with fail
  go_ret
  exact ⟨rfl, hB2⟩

theorem l1Sign_is (n g : Int) (hg : (if n < 0 then -1 else if 0 < n then 1 else 0) = g) (w : World) :
    Calls Try.prog 51 #[.int .i64 n] w fun e w' => e = .returned (.int .i64 g) ∧ Below w.heap.size w w' := by
  by_cases h1 : 0 < n
  · obtain rfl : 1 = g := by rw [← hg, if_neg (by omega), if_pos h1]
    go_enter Try.func51, Try.ntmps51
    go_wp2_with fail
    go_ret
    exact ⟨rfl, Below.refl _ _⟩
  · by_cases h2 : n < 0
    · obtain rfl : -1 = g := by rw [← hg, if_pos h2]
      have h3 : n ≤ 0 := by omega
      go_enter Try.func51, Try.ntmps51
      go_wp2_with fail
      go_ret
      exact ⟨rfl, Below.refl _ _⟩
    · obtain rfl : 0 = g := by rw [← hg, if_neg h2, if_neg h1]
      have h3 : n ≤ 0 := by omega
      have h4 : 0 ≤ n := by omega
      go_enter Try.func51, Try.ntmps51
      go_wp2_with fail
      go_ret
      exact ⟨rfl, Below.refl _ _⟩

set_option maxRecDepth 100000 in
set_option maxHeartbeats 4000000 in
theorem iLaps_is (ps : List Pt) (v : Value) (w : World) (hv : RdP w v ps) (hr : RiseC ps) (hn : 2 ≤ ps.length ∧ ps.length ≤ 100000) :
    Calls Try.prog 20 #[v] w (RetL w (lapsQ ps)) := by
  have HV := Lib.hid hv
  have HR := Lib.hid hr
  have hsl := slopesQ_len ps
  clear hv hr
  go_enter Try.func20, Try.ntmps20
  go_wp2_with fail
  refine (slopes_is ps v _ (HV.out.keep (by go_grown)) HR.out (by omega)).mono ?_
  rintro e w1 ⟨s, rfl, os, hb⟩
  have hB : Below w.heap.size w w1 := nextX (by go_grown) hb
  obtain ⟨gs, cs, rfl, hz1, hz2, hz3, hz4, hsc⟩ := os.lit hsl (by omega)
  unfold maxLen at hz2
  have HSC := Lib.hid hsc
  have HOK := Lib.hid (fun k s => slopesQ_okL (k := k) (s := s) HR.out)
  generalize hS : slopesQ ps = sl at *
  clear os hsc hb
  go_wp2_with fail
  go_loopw [3, 10] (fun out i wr => RelLp sl (ps.length - 1) w1 out i wr) (fun _ i _ => (ps.length - 1) - (intOf i).toNat)
  case atStart => exact ⟨0, Nat.zero_le _, rfl, OwL.nil _ _, Below.refl _ _⟩
  case round =>
    obtain ⟨k, hk, rfl, hown, hb⟩ := hrel
    have hln := lapN_len sl k
    obtain ⟨av, cv, rfl, hc1, hc2⟩ := hown.shape
    unfold maxLen at hc2
    have HO := Lib.hid hown
    have hzr := hb.size
    clear hown
    by_cases hlt : k < ps.length - 1
    · have hq := List.getElem?_eq_getElem (show k < sl.length by omega)
      obtain ⟨c0, c1⟩ := HSC.out k _ hq
      have hso := HOK.out k _ hq
      have hnx := lapN_next hq
      generalize sl[k] = q at *
      obtain ⟨q1, q2⟩ := q
      simp only at c0 c1 hso
      rw [← hb.cell (p := ⟨gs, _, none⟩) hz4] at c0 c1
      have SQ := Lib.hid (Sm.of_ok hso)
      obtain ⟨y, hy⟩ : ∃ y, sgnQ (q1, q2) = y := ⟨_, rfl⟩
      rw [hy] at hnx
      have HY := Lib.hid (show cmpQ q1 q2 0 1 = y from hy)
      clear hq hso hy
      have b0 : (0 : Int) ≤ (k : Int) := by omega
      have b1 : (k : Int) < ((ps.length - 1 : Nat) : Int) := by omega
      have v2 : IntKind.i64.wrap ((k : Int) + 1) = (k : Int) + 1 := IntWalk.i64_in _ (by omega)
      have v3 : IntKind.i64.wrap (k : Int) = (k : Int) := IntWalk.i64_in _ (by omega)
      generalize hrs : lapN sl k = rs at *
      rcases Nat.eq_zero_or_pos rs.length with h0 | h0
      · have hnew := addLap_none (k := k) (g := y) (List.eq_nil_of_length_eq_zero h0)
        rw [hnew] at hnx
        have HN := Lib.hid hnx
        clear hnx hnew
        have z0 : (rs.length : Int) = 0 := by omega
        go_wp2_with fail
        go_name_world W hW
        have hX : Below wr.heap.size wr W := by rw [← hW]; go_grown
        have f0 : W.cell? ⟨wr.heap.size, 0, none⟩ = some (.int .i64 q1) := by rw [← hW]; simp [go_sem]
        have f1 : W.cell? ⟨wr.heap.size, 1, none⟩ = some (.int .i64 q2) := by rw [← hW]; simp [go_sem]
        clear hW c0 c1
        refine wp_region_below (by kernel_rfl) (by kernel_rfl) ?_
        iterate 13 (first
          | (refine stepS rfl ?_; simp only [Act.put, List.setIfInBounds_toArray, List.set_cons_zero, List.set_cons_succ])
          | (refine stepV (v := ?_) rfl (fun W hW => ?_) ?_
             rotate_left
             focus
               have qc0 := cellB hW.out f0
               have qc1 := cellB hW.out f1
               go_simp
               try with_reducible rfl
               done
             simp only [Act.put, List.setIfInBounds_toArray, List.set_cons_zero, List.set_cons_succ])
          | (refine stepC rfl (fun W hW => ?_) (fun W hW => callB hW (sign_is q1 q2 y HY.out SQ.out _)) ?_
             focus
               go_simp
               try with_reducible rfl
               done
             simp only [Act.put, List.setIfInBounds_toArray, List.set_cons_zero, List.set_cons_succ]))
        refine stepN ?_
        intro w2 hw2
        have hX2 := nextW hX hw2.out
        have HO2 := Lib.hid (HO.out.keep hX2)
        replace f0 := cellB hw2.out f0
        replace f1 := cellB hw2.out f1
        have hb2 := nextW hb hX2
        have hz9 := hX2.size
        have zf := lt_of_cell f0
        clear hw2 hX
        go_wp2_with fail
        refine (sign_is q1 q2 y HY.out SQ.out _).mono ?_
        rintro e w3 ⟨rfl, hx⟩
        have hX3 : Below w2.heap.size w2 w3 := nextX (by go_grown) hx
        have HO3 := Lib.hid (HO2.out.keep hX3)
        have hb3 := nextW hb2 hX3
        have hz8 := hX3.size
        clear hx f0 f1
        go_wp2_with (at_builtin; refine append_l w3 _ rfl _ _ rfl w1.heap.size _ rs rfl ?own1 ?gr1 _ _ w3.heap.size ((k : Int), (k : Int) + 1, y) rfl ?hc1 ?hb1 (Nat.le_refl _) (by omega) (by omega) ?_)
        case own1 => have h := HO3.out; rw [h0] at h; exact h
        case gr1 => go_grown
        case hc1 => simp [go_sem]
        case hb1 => exact (heap_alloc_old _ _ (by simp)).trans (heap_alloc_new _ _)
        intro v' w' hown h7
        have hb4 : Below w1.heap.size w1 w' := Below.trans (Below.trans hb3 ((by go_grown : Below w3.heap.size w3 _).mono (by omega))) h7
        have HN2 := Lib.hid (show OwL w1.heap.size w' v' (lapN sl (k + 1)) by rw [HN.out]; exact hown)
        clear hown h7
        go_wp2_with fail
        go_roundw
        case rel => exact ⟨k + 1, by omega, by go_num, HN2.out, hb4⟩
        case measure => simp [intOf]; omega
      · have hl1 := List.getElem?_eq_getElem (show rs.length - 1 < rs.length by omega)
        obtain ⟨go, co, bo, he, -, -, hg1, hg2, oc, hrow⟩ := HO.out.get hl1
        simp only [Value.slice.injEq] at he
        obtain ⟨rfl, -, rfl⟩ := he
        obtain ⟨r, hr⟩ : ∃ r, rs[rs.length - 1] = r := ⟨_, rfl⟩
        rw [hr] at hl1 hrow
        clear hr
        obtain ⟨r1, r2, r3⟩ := r
        have RC := Lib.hid (row3_cells hrow)
        have rc := RC.out.2.2.1
        have HLast := Lib.hid hl1
        simp only at rc
        clear hrow hl1
        obtain ⟨m, hm⟩ : ∃ m : Nat, rs.length = m + 1 := ⟨rs.length - 1, by omega⟩
        rw [hm, Nat.add_sub_cancel] at oc
        have HM := Lib.hid hm
        have m0 : (0 : Int) ≤ (m : Int) := by omega
        have m1 : (m : Int) < (rs.length : Int) := by omega
        have m2 : (rs.length : Int) - 1 = (m : Int) := by omega
        have m3 : IntKind.i64.wrap ((rs.length : Int) - 1) = (m : Int) := by rw [m2]; exact IntWalk.i64_in _ (by omega)
        have m4 : (0 : Int) < (rs.length : Int) := by omega
        clear hm
        by_cases hy : r3 = y
        · obtain rfl := hy.symm
          have hsame := addLap_same (k := k) HLast.out
          simp only at hsame
          rw [hsame] at hnx
          have HN := Lib.hid hnx
          clear hnx hsame
          go_wp2_with fail
          go_name_world W hW
          have hX : Below wr.heap.size wr W := by rw [← hW]; go_grown
          have f0 : W.cell? ⟨wr.heap.size, 0, none⟩ = some (.int .i64 q1) := by rw [← hW]; simp [go_sem]
          have f1 : W.cell? ⟨wr.heap.size, 1, none⟩ = some (.int .i64 q2) := by rw [← hW]; simp [go_sem]
          replace oc := cellB hX oc
          replace rc := cellB hX rc
          clear hW c0 c1
          refine wp_region_below (by kernel_rfl) (by kernel_rfl) ?_
          iterate 13 (first
            | (refine stepS rfl ?_; simp only [Act.put, List.setIfInBounds_toArray, List.set_cons_zero, List.set_cons_succ])
            | (refine stepV (v := ?_) rfl (fun W hW => ?_) ?_
               rotate_left
               focus
                 have qc0 := cellB hW.out f0
                 have qc1 := cellB hW.out f1
                 have qc2 := cellB hW.out oc
                 have qc3 := cellB hW.out rc
                 go_simp
                 try with_reducible rfl
                 done
               simp only [Act.put, List.setIfInBounds_toArray, List.set_cons_zero, List.set_cons_succ])
            | (refine stepC rfl (fun W hW => ?_) (fun W hW => callB hW (sign_is q1 q2 y HY.out SQ.out _)) ?_
               focus
                 go_simp
                 try with_reducible rfl
                 done
               simp only [Act.put, List.setIfInBounds_toArray, List.set_cons_zero, List.set_cons_succ]))
          refine stepN ?_
          intro w2 hw2
          have hX2 := nextW hX hw2.out
          have HO2 := Lib.hid (HO.out.keep hX2)
          replace f0 := cellB hw2.out f0
          replace f1 := cellB hw2.out f1
          have hb2 := nextW hb hX2
          have hz9 := hX2.size
          replace oc := cellB hw2.out oc
          obtain ⟨s1, s2⟩ := slotB hX2 RC.out.2.1
          clear rc
          have zf := lt_of_cell f0
          clear hw2 hX
          skip
          go_wp2_with fail
          go_roundw
          case rel =>
            have hM := HM.out
            have em : rs.length - 1 = m := by omega
            have hlast := HLast.out
            rw [em] at hlast
            obtain ⟨hp1, hp2⟩ := HO2.out.put hlast rfl oc ((k : Int) + 1)
            refine ⟨k + 1, by omega, by go_num, ?_, Below.trans hb2 hp2⟩
            rw [HN.out, em]
            exact hp1
          case measure => simp [intOf]; omega
        · have hnew := addLap_new (k := k) (g := y) HLast.out hy
          rw [hnew] at hnx
          have HN := Lib.hid hnx
          clear hnx hnew
          have hyb : (r3 == y) = false := by simpa using hy
          go_wp2_with fail
          go_name_world W hW
          have hX : Below wr.heap.size wr W := by rw [← hW]; go_grown
          have f0 : W.cell? ⟨wr.heap.size, 0, none⟩ = some (.int .i64 q1) := by rw [← hW]; simp [go_sem]
          have f1 : W.cell? ⟨wr.heap.size, 1, none⟩ = some (.int .i64 q2) := by rw [← hW]; simp [go_sem]
          replace oc := cellB hX oc
          replace rc := cellB hX rc
          clear hW c0 c1
          refine wp_region_below (by kernel_rfl) (by kernel_rfl) ?_
          iterate 13 (first
            | (refine stepS rfl ?_; simp only [Act.put, List.setIfInBounds_toArray, List.set_cons_zero, List.set_cons_succ])
            | (refine stepV (v := ?_) rfl (fun W hW => ?_) ?_
               rotate_left
               focus
                 have qc0 := cellB hW.out f0
                 have qc1 := cellB hW.out f1
                 have qc2 := cellB hW.out oc
                 have qc3 := cellB hW.out rc
                 go_simp
                 try with_reducible rfl
                 done
               simp only [Act.put, List.setIfInBounds_toArray, List.set_cons_zero, List.set_cons_succ])
            | (refine stepC rfl (fun W hW => ?_) (fun W hW => callB hW (sign_is q1 q2 y HY.out SQ.out _)) ?_
               focus
                 go_simp
                 try with_reducible rfl
                 done
               simp only [Act.put, List.setIfInBounds_toArray, List.set_cons_zero, List.set_cons_succ]))
          refine stepN ?_
          intro w2 hw2
          have hX2 := nextW hX hw2.out
          have HO2 := Lib.hid (HO.out.keep hX2)
          replace f0 := cellB hw2.out f0
          replace f1 := cellB hw2.out f1
          have hb2 := nextW hb hX2
          have hz9 := hX2.size
          replace oc := cellB hw2.out oc
          obtain ⟨s1, s2⟩ := slotB hX2 RC.out.2.1
          clear rc
          have zf := lt_of_cell f0
          clear hw2 hX
          clear oc s1 s2
          go_wp2_with fail
          refine (sign_is q1 q2 y HY.out SQ.out _).mono ?_
          rintro e w3 ⟨rfl, hx⟩
          have hX3 : Below w2.heap.size w2 w3 := nextX (by go_grown) hx
          have HO3 := Lib.hid (HO2.out.keep hX3)
          have hb3 := nextW hb2 hX3
          have hz8 := hX3.size
          clear hx f0 f1
          go_wp2_with (at_builtin; refine append_l w3 _ rfl _ _ rfl w1.heap.size _ rs rfl ?own2 ?gr2 _ _ w3.heap.size ((k : Int), (k : Int) + 1, y) rfl ?hc2 ?hb2 (Nat.le_refl _) (by omega) (by omega) ?_)
          case own2 => exact HO3.out
          case gr2 => go_grown
          case hc2 => simp [go_sem]
          case hb2 => exact (heap_alloc_old _ _ (by simp)).trans (heap_alloc_new _ _)
          intro v' w' hown h7
          have hb4 : Below w1.heap.size w1 w' := Below.trans (Below.trans hb3 ((by go_grown : Below w3.heap.size w3 _).mono (by omega))) h7
          have HN2 := Lib.hid (show OwL w1.heap.size w' v' (lapN sl (k + 1)) by rw [HN.out]; exact hown)
          clear hown h7
          go_wp2_with fail
          go_roundw
          case rel => exact ⟨k + 1, by omega, by go_num, HN2.out, hb4⟩
          case measure => simp [intOf]; omega
    · obtain rfl : k = ps.length - 1 := by omega
      have HF := Lib.hid (show OwL w.heap.size wr (.slice av (lapN sl (ps.length - 1)).length cv) (lapsQ ps) by unfold lapsQ; rw [hS]; exact HO.out.low hB.size)
      have hBr := nextW hB hb
      go_wp2_with fail
      go_ret
      exact ⟨_, rfl, HF.out, hBr⟩

set_option maxRecDepth 100000 in
set_option maxHeartbeats 4000000 in
theorem sLaps_is (ps : List Pt) (v : Value) (w : World) (hv : RdP w v ps) (hr : RiseC ps) (hn : 2 ≤ ps.length ∧ ps.length ≤ 100000) :
    Calls Try.prog 22 #[v] w (RetL w (lapsQ ps)) := by
  have HV := Lib.hid hv
  have HR := Lib.hid hr
  have hsl := slopesQ_len ps
  clear hv hr
  go_enter Try.func22, Try.ntmps22
  go_wp2_with fail
  refine (imSlopes_is ps v _ (HV.out.keep (by go_grown)) HR.out (by omega)).mono ?_
  rintro e w1 ⟨s, rfl, os, hb⟩
  have hB : Below w.heap.size w w1 := nextX (by go_grown) hb
  obtain ⟨gs, cs, rfl, hz1, hz2, hz3, hz4, hsc⟩ := os.lit hsl (by omega)
  unfold maxLen at hz2
  have HSC := Lib.hid hsc
  have HOK := Lib.hid (fun k s => slopesQ_okL (k := k) (s := s) HR.out)
  generalize hS : slopesQ ps = sl at *
  clear os hsc hb
  go_wp2_with fail
  go_loopw [3, 11] (fun out i wr => RelLp sl (ps.length - 1) w1 out i wr) (fun _ i _ => (ps.length - 1) - (intOf i).toNat)
  case atStart => exact ⟨0, Nat.zero_le _, rfl, OwL.nil _ _, Below.refl _ _⟩
  case round =>
    obtain ⟨k, hk, rfl, hown, hb⟩ := hrel
    have hln := lapN_len sl k
    obtain ⟨av, cv, rfl, hc1, hc2⟩ := hown.shape
    unfold maxLen at hc2
    have HO := Lib.hid hown
    have hzr := hb.size
    clear hown
    by_cases hlt : k < ps.length - 1
    · have hq := List.getElem?_eq_getElem (show k < sl.length by omega)
      obtain ⟨c0, c1⟩ := HSC.out k _ hq
      have hso := HOK.out k _ hq
      have hnx := lapN_next hq
      generalize sl[k] = q at *
      obtain ⟨q1, q2⟩ := q
      simp only at c0 c1 hso
      rw [← hb.cell (p := ⟨gs, _, none⟩) hz4] at c0 c1
      have SQ := Lib.hid (Sm.of_ok hso)
      obtain ⟨y, hy⟩ : ∃ y, sgnQ (q1, q2) = y := ⟨_, rfl⟩
      rw [hy] at hnx
      have HY := Lib.hid (show cmpQ q1 q2 0 1 = y from hy)
      have HYs := Lib.hid (show (if q1 < 0 then -1 else if 0 < q1 then 1 else 0) = y by rw [← hy]; exact (cmp_zero q1 q2).symm)
      clear hq hso hy
      have b0 : (0 : Int) ≤ (k : Int) := by omega
      have b1 : (k : Int) < ((ps.length - 1 : Nat) : Int) := by omega
      have v2 : IntKind.i64.wrap ((k : Int) + 1) = (k : Int) + 1 := IntWalk.i64_in _ (by omega)
      have v3 : IntKind.i64.wrap (k : Int) = (k : Int) := IntWalk.i64_in _ (by omega)
      generalize hrs : lapN sl k = rs at *
      rcases Nat.eq_zero_or_pos rs.length with h0 | h0
      · have hnew := addLap_none (k := k) (g := y) (List.eq_nil_of_length_eq_zero h0)
        rw [hnew] at hnx
        have HN := Lib.hid hnx
        clear hnx hnew
        have z0 : (rs.length : Int) = 0 := by omega
        go_wp2_with fail
        refine (l1Sign_is q1 y HYs.out _).mono ?_
        rintro e w2 ⟨rfl, hx⟩
        have hX2 : Below wr.heap.size wr w2 := nextX (by go_grown) hx
        have HO2 := Lib.hid (HO.out.keep hX2)
        have hb2 := nextW hb hX2
        have hz9 := hX2.size
        clear hx c0 c1
        go_wp2_with (at_builtin; refine append_l w2 _ rfl _ _ rfl w1.heap.size _ rs rfl ?own1 ?gr1 _ _ w2.heap.size ((k : Int), (k : Int) + 1, y) rfl ?hc1 ?hb1 (Nat.le_refl _) (by omega) (by omega) ?_)
        case own1 => have h := HO2.out; rw [h0] at h; exact h
        case gr1 => go_grown
        case hc1 => simp [go_sem]
        case hb1 => exact (heap_alloc_old _ _ (by simp)).trans (heap_alloc_new _ _)
        intro v' w' hown h7
        have hb4 : Below w1.heap.size w1 w' := Below.trans (Below.trans hb2 ((by go_grown : Below w2.heap.size w2 _).mono (by omega))) h7
        have HN2 := Lib.hid (show OwL w1.heap.size w' v' (lapN sl (k + 1)) by rw [HN.out]; exact hown)
        clear hown h7
        go_wp2_with fail
        go_roundw
        case rel => exact ⟨k + 1, by omega, by go_num, HN2.out, hb4⟩
        case measure => simp [intOf]; omega
      · have hl1 := List.getElem?_eq_getElem (show rs.length - 1 < rs.length by omega)
        obtain ⟨go, co, bo, he, -, -, hg1, hg2, oc, hrow⟩ := HO.out.get hl1
        simp only [Value.slice.injEq] at he
        obtain ⟨rfl, -, rfl⟩ := he
        obtain ⟨r, hr⟩ : ∃ r, rs[rs.length - 1] = r := ⟨_, rfl⟩
        rw [hr] at hl1 hrow
        clear hr
        obtain ⟨r1, r2, r3⟩ := r
        have RC := Lib.hid (row3_cells hrow)
        have rc := RC.out.2.2.1
        have HLast := Lib.hid hl1
        simp only at rc
        clear hrow hl1
        obtain ⟨m, hm⟩ : ∃ m : Nat, rs.length = m + 1 := ⟨rs.length - 1, by omega⟩
        rw [hm, Nat.add_sub_cancel] at oc
        have HM := Lib.hid hm
        have m0 : (0 : Int) ≤ (m : Int) := by omega
        have m1 : (m : Int) < (rs.length : Int) := by omega
        have m2 : (rs.length : Int) - 1 = (m : Int) := by omega
        have m3 : IntKind.i64.wrap ((rs.length : Int) - 1) = (m : Int) := by rw [m2]; exact IntWalk.i64_in _ (by omega)
        have m4 : (0 : Int) < (rs.length : Int) := by omega
        clear hm
        by_cases hy : r3 = y
        · obtain rfl := hy.symm
          have hsame := addLap_same (k := k) HLast.out
          simp only at hsame
          rw [hsame] at hnx
          have HN := Lib.hid hnx
          clear hnx hsame
          go_wp2_with fail
          refine (l1Sign_is q1 y HYs.out _).mono ?_
          rintro e w2 ⟨rfl, hx⟩
          have hX2 : Below wr.heap.size wr w2 := nextX (by go_grown) hx
          have HO2 := Lib.hid (HO.out.keep hX2)
          have hb2 := nextW hb hX2
          have hz9 := hX2.size
          replace oc := cellB hX2 oc
          replace rc := cellB hX2 rc
          obtain ⟨s1, s2⟩ := slotB hX2 RC.out.2.1
          clear hx c0 c1
          skip
          go_wp2_with fail
          go_roundw
          case rel =>
            have hM := HM.out
            have em : rs.length - 1 = m := by omega
            have hlast := HLast.out
            rw [em] at hlast
            obtain ⟨hp1, hp2⟩ := HO2.out.put hlast rfl oc ((k : Int) + 1)
            refine ⟨k + 1, by omega, by go_num, ?_, Below.trans hb2 hp2⟩
            rw [HN.out, em]
            exact hp1
          case measure => simp [intOf]; omega
        · have hnew := addLap_new (k := k) (g := y) HLast.out hy
          rw [hnew] at hnx
          have HN := Lib.hid hnx
          clear hnx hnew
          have hyb : (r3 == y) = false := by simpa using hy
          go_wp2_with fail
          refine (l1Sign_is q1 y HYs.out _).mono ?_
          rintro e w2 ⟨rfl, hx⟩
          have hX2 : Below wr.heap.size wr w2 := nextX (by go_grown) hx
          have HO2 := Lib.hid (HO.out.keep hX2)
          have hb2 := nextW hb hX2
          have hz9 := hX2.size
          replace oc := cellB hX2 oc
          replace rc := cellB hX2 rc
          obtain ⟨s1, s2⟩ := slotB hX2 RC.out.2.1
          clear hx c0 c1
          clear s1 s2
          go_wp2_with (at_builtin; refine append_l w2 _ rfl _ _ rfl w1.heap.size _ rs rfl ?own2 ?gr2 _ _ w2.heap.size ((k : Int), (k : Int) + 1, y) rfl ?hc2 ?hb2 (Nat.le_refl _) (by omega) (by omega) ?_)
          case own2 => exact HO2.out
          case gr2 => go_grown
          case hc2 => simp [go_sem]
          case hb2 => exact (heap_alloc_old _ _ (by simp)).trans (heap_alloc_new _ _)
          intro v' w' hown h7
          have hb4 : Below w1.heap.size w1 w' := Below.trans (Below.trans hb2 ((by go_grown : Below w2.heap.size w2 _).mono (by omega))) h7
          have HN2 := Lib.hid (show OwL w1.heap.size w' v' (lapN sl (k + 1)) by rw [HN.out]; exact hown)
          clear hown h7
          go_wp2_with fail
          go_roundw
          case rel => exact ⟨k + 1, by omega, by go_num, HN2.out, hb4⟩
          case measure => simp [intOf]; omega
    · obtain rfl : k = ps.length - 1 := by omega
      have HF := Lib.hid (show OwL w.heap.size wr (.slice av (lapN sl (ps.length - 1)).length cv) (lapsQ ps) by unfold lapsQ; rw [hS]; exact HO.out.low hB.size)
      have hBr := nextW hB hb
      go_wp2_with fail
      go_ret
      exact ⟨_, rfl, HF.out, hBr⟩

end Go.Proofs.Ytkeajfgcjmhmiaa
