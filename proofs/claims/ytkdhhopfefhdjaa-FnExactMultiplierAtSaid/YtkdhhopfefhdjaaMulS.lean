/- orSlope. -/
import Derived.Test.YtkdhhopfefhdjaaSlopes
import Derived.Test.YtkdhhopfefhdjaaSimple
import Derived.Test.YtkdhhopfefhdjaaPer
namespace Go.Proofs.Ytkdhhopfefhdjaa
open Go.RowKit

/-- The slope at a fraction, and whether it is the slope on both sides. -/
def slAt (ps : List Pt) (x : Q) : Q × Bool := match ps[pieceN ps x]?, ps[pieceN ps x + 1]? with
  | some p, some q => (slopeQ p q, match ps[pieceN ps x + 2]? with
    | some r => !(q.1 == x) || slopeQ p q == slopeQ q r
    | none => true)
  | _, _ => ((0, 1), true)

set_option maxRecDepth 100000 in
set_option maxHeartbeats 8000000 in
theorem orSlope_is (ps : List Pt) (v : Value) (x1 x2 s1 s2 : Int) (t : Bool) (hs : slAt ps (x1, x2) = ((s1, s2), t)) (hm : okMap ps = true) (hx : unitQ x1 x2 = true) (w : World) (hv : RdP w v ps) :
    Calls Try.prog 119 #[v, .agg #[.int .i64 x1, .int .i64 x2]] w fun e w' => e = .returned (.tuple #[.agg #[.int .i64 (if t = true then s1 else 0), .int .i64 (if t = true then s2 else 0)], .bool t]) ∧ Below w.heap.size w w' := by
  have HV := Lib.hid hv
  obtain ⟨p, q, h⟩ := atPiece hm (x := (x1, x2)) hx
  have hlm := okMap_len hm
  have hr := okMap_riseC hm
  obtain ⟨A, c, rfl, hl, hm9, hcell⟩ := hv
  unfold maxLen at hm9
  obtain ⟨g, o, rfl, hg, hc⟩ := hcell (by intro h; rw [h] at hlm; simp at hlm)
  have R := fun (W : World) (hW : RdP W (.slice (some ⟨g, o, none⟩) ps.length c) ps) => imPiece_is _ W h hW hm hx
  have hp := h.here
  have hq := h.next
  unfold slAt at hs
  generalize pieceN ps (x1, x2) = k at *
  rw [hp, hq] at hs
  simp only at hs
  have hk : k + 1 < ps.length := (List.getElem?_eq_some_iff.1 hq).1
  have hs1 : slopeQ p q = (s1, s2) := (Prod.mk.inj hs).1
  have hs2 := (Prod.mk.inj hs).2
  have HSl := Lib.hid (imSlope_is h.cx h.cy h.dx h.dy h.rise hs1)
  have hqc := And.intro h.dx h.dy
  rw [hs1] at hs2
  obtain ⟨c0, c1, c2, c3⟩ := hc _ _ hp
  obtain ⟨d0, d1, d2, d3⟩ := hc _ _ hq
  obtain ⟨⟨p1, p2⟩, p3, p4⟩ := p
  obtain ⟨⟨q1, q2⟩, q3, q4⟩ := q
  simp only at hs2 hqc
  have HR := Lib.hid R
  have HRi := Lib.hid hr
  have HC := Lib.hid hc
  have HQc := Lib.hid hqc
  have HCp := Lib.hid (And.intro c0 (And.intro c1 (And.intro c2 c3)))
  have HCq := Lib.hid (And.intro d0 (And.intro d1 (And.intro d2 d3)))
  have HS2 := Lib.hid hs2
  have HHq := Lib.hid hq
  clear hcell hc hr R h hp hm hx hs hs1 hs2 hqc hq c0 c1 c2 c3 d0 d1 d2 d3
  have y0 : (0 : Int) ≤ (k : Int) := by omega
  have y1 : (k : Int) < (ps.length : Int) := by omega
  have y2 : (k : Int) + 1 < (ps.length : Int) := by omega
  have y3 : (0 : Int) ≤ (k : Int) + 1 := by omega
  go_enter Try.func119, Try.ntmps119
  go_wp2_with fail
  refine (HR.out _ (HV.out.keep (by go_grown))).mono ?_
  rintro e w1 ⟨rfl, hb⟩
  have hX : Below w.heap.size w w1 := nextX (by go_grown) hb
  have b00 : w1.cell? ⟨w.heap.size, 0, none⟩ = some (.int .i64 x1) := cellB hb (by simp [go_sem])
  have b01 : w1.cell? ⟨w.heap.size, 1, none⟩ = some (.int .i64 x2) := cellB hb (by simp [go_sem])
  have r10 : Slot w1 (w.heap.size + 1) 0 (.int .i64 0) := slotB hb ⟨by simp [go_sem], by simp [go_sem]⟩
  have r11 : Slot w1 (w.heap.size + 1) 1 (.int .i64 0) := slotB hb ⟨by simp [go_sem], by simp [go_sem]⟩
  have zb00 := lt_of_cell b00
  have zr10 := lt_of_cell r10.1
  have hB : Below w.heap.size w w1 := hX
  clear hb hX
  have t2 : ((k : Int) + 1).toNat = k + 1 := by omega
  have v2 : IntKind.i64.wrap ((k : Int) + 1) = (k : Int) + 1 := IntWalk.i64_in _ (by omega)
  have v3 : IntKind.i64.wrap (k : Int) = (k : Int) := IntWalk.i64_in _ (by omega)
  go_wp2_with fail
  go_name_world W hW
  have hW0 : Below w1.heap.size w1 W := by rw [← hW]; go_grown
  have hBW := nextW hB hW0
  have kL : Facts [(g, o + k * 4, Value.int .i64 p1), (g, o + k * 4 + 1, Value.int .i64 p2), (g, o + k * 4 + 2, Value.int .i64 p3), (g, o + k * 4 + 3, Value.int .i64 p4), (g, o + (k + 1) * 4, Value.int .i64 q1), (g, o + (k + 1) * 4 + 1, Value.int .i64 q2), (g, o + (k + 1) * 4 + 2, Value.int .i64 q3), (g, o + (k + 1) * 4 + 3, Value.int .i64 q4)] W := ⟨cellB hBW HCp.out.1, cellB hBW HCp.out.2.1, cellB hBW HCp.out.2.2.1, cellB hBW HCp.out.2.2.2, cellB hBW HCq.out.1, cellB hBW HCq.out.2.1, cellB hBW HCq.out.2.2.1, cellB hBW HCq.out.2.2.2⟩
  replace b00 := cellB hW0 b00
  replace b01 := cellB hW0 b01
  have r0 := slotB hW0 r10
  have r1 := slotB hW0 r11
  clear hW hW0 r10 r11 hB
  go_cut [7] (fun s7 wx => VarQ wx s7 W.heap.size s1 s2 ∧ Below W.heap.size W wx)
  case first =>
    go_region_held3 (fun w' => w'.cell? ⟨g, o + k * 4, none⟩ = some (.int .i64 p1) ∧ w'.cell? ⟨g, o + k * 4 + 1, none⟩ = some (.int .i64 p2) ∧ w'.cell? ⟨g, o + k * 4 + 2, none⟩ = some (.int .i64 p3) ∧ w'.cell? ⟨g, o + k * 4 + 3, none⟩ = some (.int .i64 p4) ∧ w'.cell? ⟨g, o + (k + 1) * 4, none⟩ = some (.int .i64 q1) ∧ w'.cell? ⟨g, o + (k + 1) * 4 + 1, none⟩ = some (.int .i64 q2) ∧ w'.cell? ⟨g, o + (k + 1) * 4 + 2, none⟩ = some (.int .i64 q3) ∧ w'.cell? ⟨g, o + (k + 1) * 4 + 3, none⟩ = some (.int .i64 q4))
      ((refine Facts.keep kL ?_; go_grown; done))
      ((first
        | (go_at_call 140; (with_reducible refine (HSl.out _).mono ?_); rintro e w5 ⟨rfl, hb5⟩; have hX5 : Below W.heap.size W w5 := nextX (by go_grown) hb5; have z5 := hX5.size; (first | (with_reducible have n5 := fresh2 hb5) | (with_reducible have n5 := fresh2D hb5) | skip); (first | obtain ⟨⟨p0, f0⟩, p5, f5⟩ := n5 | skip))))
    all_goals (go_wp2_with fail; go_meet; first
      | exact ⟨VarQ.made (by omega) _ _ _, by go_grown⟩
      | exact ⟨VarQ.stored ⟨p0, f0⟩ ⟨p5, f5⟩ (by omega) _ _, by go_grown⟩)
  case rest =>
    obtain ⟨⟨g7, rfl, hg7, sg0, sg1⟩, hX⟩ := hcut
    have m0 := sg0.1
    have m1 := sg1.1
    replace b00 := cellB hX b00
    replace b01 := cellB hX b01
    replace r0 := slotB hX r0
    replace r1 := slotB hX r1
    replace hBW := nextW hBW hX
    have d0 := cellB hBW HCq.out.1
    have d1 := cellB hBW HCq.out.2.1
    have d2 := cellB hBW HCq.out.2.2.1
    have d3 := cellB hBW HCq.out.2.2.2
    have zr := lt_of_cell r0.1
    have RS := Lib.hid (And.intro r0 r1)
    clear hX sg0 sg1 kL r0 r1
    have v5 : IntKind.i64.wrap ((k : Int) + 2) = (k : Int) + 2 := IntWalk.i64_in _ (by omega)
    have y8 : (0 : Int) ≤ (k : Int) + 2 := by omega
    have t8 : ((k : Int) + 2).toNat = k + 2 := by omega
    rcases hr2 : ps[k + 2]? with _ | r
    · obtain rfl : true = t := by rw [← HS2.out, hr2]
      have y9 : ¬ ((k : Int) + 2 < (ps.length : Int)) := by have := List.getElem?_eq_none_iff.1 hr2; omega
      have y10 : decide ((k : Int) + 2 < (ps.length : Int)) = false := by simpa using y9
      go_wp2_with fail
      refine wp_region_below (by kernel_rfl) (by kernel_rfl) ?_
      iterate 30 (first
        | (refine stepS rfl ?_; simp only [Act.put, List.setIfInBounds_toArray, List.set_cons_zero, List.set_cons_succ])
        | (refine stepV (v := ?_) rfl (fun W hW => ?_) ?_
           rotate_left
           focus
      
             go_simp
             try with_reducible rfl
             done
           simp only [Act.put, List.setIfInBounds_toArray, List.set_cons_zero, List.set_cons_succ]))
      refine stepN ?_
      intro w2 hw2
      have hB2 := nextW hBW hw2.out
      obtain ⟨z0, kz0⟩ := slotB hw2.out RS.out.1
      obtain ⟨z1, kz1⟩ := slotB hw2.out RS.out.2
      have e0 := cellB hw2.out m0
      have e1 := cellB hw2.out m1
      go_wp2_with fail
      refine bodyPost_ret (v := .tuple #[.agg #[.int .i64 s1, .int .i64 s2], .bool true]) (by simp [results, Try.results119, go_sem, z0, z1]) rfl ⟨rfl, ?_⟩
      go_grown
    · have hk2 : k + 2 < ps.length := (List.getElem?_eq_some_iff.1 hr2).1
      have y9 : (k : Int) + 2 < (ps.length : Int) := by omega
      have hs2 := HS2.out
      rw [hr2] at hs2
      simp only at hs2
      by_cases hqx : ((q1, q2) : Q) = (x1, x2)
      · rcases hu : slopeQ ((q1, q2), q3, q4) r with ⟨u1, u2⟩
        have hrc := HRi.out.coord _ _ hr2
        have HSu := Lib.hid (imSlope_is HQc.out.1 HQc.out.2 hrc.1 hrc.2 (HRi.out.rise _ _ _ HHq.out hr2) hu)
        obtain ⟨f0, f1, f2, f3⟩ := HC.out _ _ hr2
        replace f0 := cellB hBW f0
        replace f1 := cellB hBW f1
        replace f2 := cellB hBW f2
        replace f3 := cellB hBW f3
        obtain ⟨⟨i1, i2⟩, i3, i4⟩ := r
        simp only at f0 f1 f2 f3
        rw [hu] at hs2
        obtain ⟨rfl, rfl⟩ := Prod.mk.inj hqx.symm
        clear hqx hu hrc
        by_cases hsu : ((s1, s2) : Q) = (u1, u2)
        · obtain ⟨rfl, rfl⟩ := Prod.mk.inj hsu
          obtain rfl : true = t := by rw [← hs2]; simp
          clear hs2 hsu
          go_wp2_with fail
          refine wp_region_below (by kernel_rfl) (by kernel_rfl) ?_
          iterate 30 (first
            | (refine stepS rfl ?_; simp only [Act.put, List.setIfInBounds_toArray, List.set_cons_zero, List.set_cons_succ])
            | (refine stepV (v := ?_) rfl (fun W hW => ?_) ?_
               rotate_left
               focus
                 have qc0 := cellB hW.out b00
                 have qc1 := cellB hW.out b01
                 have qc2 := cellB hW.out d0
                 have qc3 := cellB hW.out d1
                 have qc4 := cellB hW.out d2
                 have qc5 := cellB hW.out d3
                 have qc6 := cellB hW.out f0
                 have qc7 := cellB hW.out f1
                 have qc8 := cellB hW.out f2
                 have qc9 := cellB hW.out f3
                 have qc10 := cellB hW.out m0
                 have qc11 := cellB hW.out m1
                 go_simp
                 try with_reducible rfl
                 done
               simp only [Act.put, List.setIfInBounds_toArray, List.set_cons_zero, List.set_cons_succ])
            | (refine stepC rfl (fun W hW => ?_) (fun W hW => callB hW (HSu.out _)) ?_
               focus
                 go_simp
                 try with_reducible rfl
                 done
               simp only [Act.put, List.setIfInBounds_toArray, List.set_cons_zero, List.set_cons_succ]))
          refine stepN ?_
          intro w2 hw2
          have hB2 := nextW hBW hw2.out
          obtain ⟨z0, kz0⟩ := slotB hw2.out RS.out.1
          obtain ⟨z1, kz1⟩ := slotB hw2.out RS.out.2
          have e0 := cellB hw2.out m0
          have e1 := cellB hw2.out m1
          go_wp2_with fail
          refine bodyPost_ret (v := .tuple #[.agg #[.int .i64 s1, .int .i64 s2], .bool true]) (by simp [results, Try.results119, go_sem, z0, z1]) rfl ⟨rfl, ?_⟩
          go_grown
        · obtain rfl : false = t := by rw [← hs2]; simpa using hsu
          have hor := q_or (Ne.symm hsu)
          clear hs2 hsu
          rcases hor with hn | ⟨hn, hn2⟩
          · go_wp2_with fail
            refine wp_region_below (by kernel_rfl) (by kernel_rfl) ?_
            iterate 30 (first
              | (refine stepS rfl ?_; simp only [Act.put, List.setIfInBounds_toArray, List.set_cons_zero, List.set_cons_succ])
              | (refine stepV (v := ?_) rfl (fun W hW => ?_) ?_
                 rotate_left
                 focus
                   have qc0 := cellB hW.out b00
                   have qc1 := cellB hW.out b01
                   have qc2 := cellB hW.out d0
                   have qc3 := cellB hW.out d1
                   have qc4 := cellB hW.out d2
                   have qc5 := cellB hW.out d3
                   have qc6 := cellB hW.out f0
                   have qc7 := cellB hW.out f1
                   have qc8 := cellB hW.out f2
                   have qc9 := cellB hW.out f3
                   have qc10 := cellB hW.out m0
                   have qc11 := cellB hW.out m1
                   go_simp
                   try with_reducible rfl
                   done
                 simp only [Act.put, List.setIfInBounds_toArray, List.set_cons_zero, List.set_cons_succ])
              | (refine stepC rfl (fun W hW => ?_) (fun W hW => callB hW (HSu.out _)) ?_
                 focus
                   go_simp
                   try with_reducible rfl
                   done
                 simp only [Act.put, List.setIfInBounds_toArray, List.set_cons_zero, List.set_cons_succ]))
            refine stepN ?_
            intro w2 hw2
            have hB2 := nextW hBW hw2.out
            obtain ⟨z0, kz0⟩ := slotB hw2.out RS.out.1
            obtain ⟨z1, kz1⟩ := slotB hw2.out RS.out.2
            have e0 := cellB hw2.out m0
            have e1 := cellB hw2.out m1
            go_wp2_with fail
            refine bodyPost_ret (v := .tuple #[.agg #[.int .i64 0, .int .i64 0], .bool false]) (by simp [results, Try.results119, go_sem, z0, z1]) rfl ⟨rfl, ?_⟩
            go_grown
          · go_wp2_with fail
            refine wp_region_below (by kernel_rfl) (by kernel_rfl) ?_
            iterate 30 (first
              | (refine stepS rfl ?_; simp only [Act.put, List.setIfInBounds_toArray, List.set_cons_zero, List.set_cons_succ])
              | (refine stepV (v := ?_) rfl (fun W hW => ?_) ?_
                 rotate_left
                 focus
                   have qc0 := cellB hW.out b00
                   have qc1 := cellB hW.out b01
                   have qc2 := cellB hW.out d0
                   have qc3 := cellB hW.out d1
                   have qc4 := cellB hW.out d2
                   have qc5 := cellB hW.out d3
                   have qc6 := cellB hW.out f0
                   have qc7 := cellB hW.out f1
                   have qc8 := cellB hW.out f2
                   have qc9 := cellB hW.out f3
                   have qc10 := cellB hW.out m0
                   have qc11 := cellB hW.out m1
                   go_simp
                   try with_reducible rfl
                   done
                 simp only [Act.put, List.setIfInBounds_toArray, List.set_cons_zero, List.set_cons_succ])
              | (refine stepC rfl (fun W hW => ?_) (fun W hW => callB hW (HSu.out _)) ?_
                 focus
                   go_simp
                   try with_reducible rfl
                   done
                 simp only [Act.put, List.setIfInBounds_toArray, List.set_cons_zero, List.set_cons_succ]))
            refine stepN ?_
            intro w2 hw2
            have hB2 := nextW hBW hw2.out
            obtain ⟨z0, kz0⟩ := slotB hw2.out RS.out.1
            obtain ⟨z1, kz1⟩ := slotB hw2.out RS.out.2
            have e0 := cellB hw2.out m0
            have e1 := cellB hw2.out m1
            go_wp2_with fail
            refine bodyPost_ret (v := .tuple #[.agg #[.int .i64 0, .int .i64 0], .bool false]) (by simp [results, Try.results119, go_sem, z0, z1]) rfl ⟨rfl, ?_⟩
            go_grown
      · obtain rfl : true = t := by rw [← hs2]; simp [show (((q1, q2) : Q) == (x1, x2)) = false from beq_eq_false_iff_ne.2 hqx]
        have hor := q_or hqx
        clear hs2 hqx
        rcases hor with hn | ⟨hn, hn2⟩
        · go_wp2_with fail
          refine wp_region_below (by kernel_rfl) (by kernel_rfl) ?_
          iterate 30 (first
            | (refine stepS rfl ?_; simp only [Act.put, List.setIfInBounds_toArray, List.set_cons_zero, List.set_cons_succ])
            | (refine stepV (v := ?_) rfl (fun W hW => ?_) ?_
               rotate_left
               focus
                 have qc0 := cellB hW.out b00
                 have qc1 := cellB hW.out b01
                 have qc2 := cellB hW.out d0
                 have qc3 := cellB hW.out d1
                 have qc4 := cellB hW.out d2
                 have qc5 := cellB hW.out d3
                 go_simp
                 try with_reducible rfl
                 done
               simp only [Act.put, List.setIfInBounds_toArray, List.set_cons_zero, List.set_cons_succ]))
          refine stepN ?_
          intro w2 hw2
          have hB2 := nextW hBW hw2.out
          obtain ⟨z0, kz0⟩ := slotB hw2.out RS.out.1
          obtain ⟨z1, kz1⟩ := slotB hw2.out RS.out.2
          have e0 := cellB hw2.out m0
          have e1 := cellB hw2.out m1
          go_wp2_with fail
          refine bodyPost_ret (v := .tuple #[.agg #[.int .i64 s1, .int .i64 s2], .bool true]) (by simp [results, Try.results119, go_sem, z0, z1]) rfl ⟨rfl, ?_⟩
          go_grown
        · go_wp2_with fail
          refine wp_region_below (by kernel_rfl) (by kernel_rfl) ?_
          iterate 30 (first
            | (refine stepS rfl ?_; simp only [Act.put, List.setIfInBounds_toArray, List.set_cons_zero, List.set_cons_succ])
            | (refine stepV (v := ?_) rfl (fun W hW => ?_) ?_
               rotate_left
               focus
                 have qc0 := cellB hW.out b00
                 have qc1 := cellB hW.out b01
                 have qc2 := cellB hW.out d0
                 have qc3 := cellB hW.out d1
                 have qc4 := cellB hW.out d2
                 have qc5 := cellB hW.out d3
                 go_simp
                 try with_reducible rfl
                 done
               simp only [Act.put, List.setIfInBounds_toArray, List.set_cons_zero, List.set_cons_succ]))
          refine stepN ?_
          intro w2 hw2
          have hB2 := nextW hBW hw2.out
          obtain ⟨z0, kz0⟩ := slotB hw2.out RS.out.1
          obtain ⟨z1, kz1⟩ := slotB hw2.out RS.out.2
          have e0 := cellB hw2.out m0
          have e1 := cellB hw2.out m1
          go_wp2_with fail
          refine bodyPost_ret (v := .tuple #[.agg #[.int .i64 s1, .int .i64 s2], .bool true]) (by simp [results, Try.results119, go_sem, z0, z1]) rfl ⟨rfl, ?_⟩
          go_grown

end Go.Proofs.Ytkdhhopfefhdjaa
