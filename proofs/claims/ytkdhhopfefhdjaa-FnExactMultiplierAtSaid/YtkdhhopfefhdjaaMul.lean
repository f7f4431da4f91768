/- slopeAt. -/
import Derived.Test.YtkdhhopfefhdjaaMulS
import Derived.BigRegion
namespace Go.Proofs.Ytkdhhopfefhdjaa
open Go.RowKit

theorem Facts.drewF {L : List (Nat × Nat × Value)} {W : World} (h : Facts L W) : Facts L W.drew := Facts.keep h ⟨rfl, rfl, rfl, Nat.le_refl _, fun _ _ => rfl⟩

set_option maxRecDepth 100000 in
set_option maxHeartbeats 20000000 in
theorem iSlopeAt_is (ps : List Pt) (v : Value) (x1 x2 s1 s2 : Int) (t : Bool) (hs : slAt ps (x1, x2) = ((s1, s2), t)) (hm : okMap ps = true) (hx : unitQ x1 x2 = true) (w : World) (hv : RdP w v ps) :
    Calls Try.prog 156 #[v, .agg #[.int .i64 x1, .int .i64 x2]] w fun e w' => e = .returned (.tuple #[.agg #[.int .i64 s1, .int .i64 s2], .bool t]) ∧ Below w.heap.size w w' := by
  have HV := Lib.hid hv
  obtain ⟨p, q, h⟩ := atPiece hm (x := (x1, x2)) hx
  have hlm := okMap_len hm
  have hr := okMap_riseC hm
  obtain ⟨A, c, rfl, hl, hm9, hcell⟩ := hv
  unfold maxLen at hm9
  obtain ⟨g, o, rfl, hg, hc⟩ := hcell (by intro h; rw [h] at hlm; simp at hlm)
  have R := fun (W : World) (hW : RdP W (.slice (some ⟨g, o, none⟩) ps.length c) ps) => pieceAt_map _ W h hW hm hx
  have hp := h.here
  have hq := h.next
  unfold slAt at hs
  generalize pieceN ps (x1, x2) = k at *
  rw [hp, hq] at hs
  simp only at hs
  have hk : k + 1 < ps.length := (List.getElem?_eq_some_iff.1 hq).1
  have hsl := slopesQ_get hp hq
  have hs1 : slopeQ p q = (s1, s2) := (Prod.mk.inj hs).1
  have hs2 := (Prod.mk.inj hs).2
  rw [hs1] at hsl hs2
  obtain ⟨d0, d1, d2, d3⟩ := hc _ _ hq
  obtain ⟨⟨q1, q2⟩, q3, q4⟩ := q
  simp only at hs2
  have HR := Lib.hid R
  have HRi := Lib.hid hr
  have HC := Lib.hid hc
  have HS := Lib.hid hsl
  have HD := Lib.hid (And.intro d0 d1)
  clear hcell hc hr R h hp hm hx hsl hs hs1 d0 d1 d2 d3
  by_cases hqx : ((q1, q2) : Q) = (x1, x2)
  · obtain ⟨rfl, rfl⟩ := Prod.mk.inj hqx.symm
    rcases hr2 : ps[k + 2]? with _ | r
    · rw [hr2] at hs2
      simp only at hs2
      subst hs2
      have hkl : k + 2 = ps.length := by have := List.getElem?_eq_none_iff.1 hr2; omega
      clear hr2 hqx hq
      go_enter Try.func156, Try.ntmps156
      go_wp2_with fail
      refine (slopes_is ps _ _ (HV.out.keep (by go_grown)) HRi.out (by omega)).mono ?_
      rintro e w1 ⟨s, rfl, os, hb⟩
      have hX : Below w.heap.size w w1 := nextX (by go_grown) hb
      have b00 : w1.cell? ⟨w.heap.size, 0, none⟩ = some (.int .i64 x1) := cellB hb (by simp [go_sem])
      have b01 : w1.cell? ⟨w.heap.size, 1, none⟩ = some (.int .i64 x2) := cellB hb (by simp [go_sem])
      have r10 : Slot w1 (w.heap.size + 1) 0 (.int .i64 0) := slotB hb ⟨by simp [go_sem], by simp [go_sem]⟩
      have r11 : Slot w1 (w.heap.size + 1) 1 (.int .i64 0) := slotB hb ⟨by simp [go_sem], by simp [go_sem]⟩
      have zb00 := lt_of_cell b00
      have zr10 := lt_of_cell r10.1
      have hB : Below w.heap.size w w1 := hX
      clear hb hX
      go_wp2_with fail
      refine (HR.out _ (HV.out.keep (nextX hB (by go_grown)))).mono ?_
      rintro e w2 ⟨rfl, hb⟩
      have hX : Below w1.heap.size w1 w2 := nextX (by go_grown) hb
      replace b00 := cellB hX b00
      replace b01 := cellB hX b01
      replace r10 := slotB hX r10
      replace r11 := slotB hX r11
      replace os := os.keep hX
      have zb00 := Nat.lt_of_lt_of_le zb00 hX.size
      have zr10 := Nat.lt_of_lt_of_le zr10 hX.size
      replace hB := nextW hB hX
      clear hb hX
      obtain ⟨gs, cs, rfl, hz1, hz2, hz3, hz4, hsc⟩ := os.lit (slopesQ_len ps) (by omega)
      unfold maxLen at hz2
      have hgs : w.heap.size + 1 < gs := by have := hz3; simp at this; omega
      obtain ⟨e0, e1⟩ := hsc _ _ HS.out
      have d0 := cellB hB HD.out.1
      have d1 := cellB hB HD.out.2
      clear os hsc
      have y0 : (0 : Int) ≤ (k : Int) := by omega
      have y1 : (k : Int) < (ps.length : Int) := by omega
      have y2 : (k : Int) + 1 < (ps.length : Int) := by omega
      have y3 : (0 : Int) ≤ (k : Int) + 1 := by omega
      have y4 : (k : Int) < ((ps.length - 1 : Nat) : Int) := by omega
      have y6 : (((k : Int) + 1) == ((ps.length - 1 : Nat) : Int)) = true := by simp; omega
      have t2 : ((k : Int) + 1).toNat = k + 1 := by omega
      have v2 : IntKind.i64.wrap ((k : Int) + 1) = (k : Int) + 1 := IntWalk.i64_in _ (by omega)
      have v3 : IntKind.i64.wrap (k : Int) = (k : Int) := IntWalk.i64_in _ (by omega)
      go_wp2_with fail
      go_name_world W hW
      have hWB : Below w2.heap.size w2 W := by rw [← hW]; go_grown
      replace b00 := cellB hWB b00
      replace b01 := cellB hWB b01
      replace d0 := cellB hWB d0
      replace d1 := cellB hWB d1
      replace e0 := cellB hWB e0
      replace e1 := cellB hWB e1
      obtain ⟨z0, kz0⟩ := slotB hWB r10
      obtain ⟨z1, kz1⟩ := slotB hWB r11
      have hBW := nextW hB hWB
      have zz := lt_of_cell z0
      have zb := lt_of_cell b00
      have hzs := hB.size
      clear hW hWB r10 r11 hB
      go_region
      go_wp2_with fail
      refine bodyPost_ret (v := .tuple #[.agg #[.int .i64 s1, .int .i64 s2], .bool true]) (by simp [results, Try.results156, go_sem, z0, z1]) rfl ⟨rfl, ?_⟩
      go_grown
    · rw [hr2] at hs2
      have hsl2 := slopesQ_get hq hr2
      simp only at hs2 hsl2
      rcases hu : slopeQ ((x1, x2), q3, q4) r with ⟨u1, u2⟩
      rw [hu] at hs2 hsl2
      have HS2 := Lib.hid hsl2
      have hk2 : k + 2 < ps.length := (List.getElem?_eq_some_iff.1 hr2).1
      clear hr2 hqx hq hsl2 hu
      by_cases hsu : ((s1, s2) : Q) = (u1, u2)
      · obtain ⟨rfl, rfl⟩ := Prod.mk.inj hsu
        obtain rfl : true = t := by rw [← hs2]; simp
        clear hs2 hsu
        go_enter Try.func156, Try.ntmps156
        go_wp2_with fail
        refine (slopes_is ps _ _ (HV.out.keep (by go_grown)) HRi.out (by omega)).mono ?_
        rintro e w1 ⟨s, rfl, os, hb⟩
        have hX : Below w.heap.size w w1 := nextX (by go_grown) hb
        have b00 : w1.cell? ⟨w.heap.size, 0, none⟩ = some (.int .i64 x1) := cellB hb (by simp [go_sem])
        have b01 : w1.cell? ⟨w.heap.size, 1, none⟩ = some (.int .i64 x2) := cellB hb (by simp [go_sem])
        have r10 : Slot w1 (w.heap.size + 1) 0 (.int .i64 0) := slotB hb ⟨by simp [go_sem], by simp [go_sem]⟩
        have r11 : Slot w1 (w.heap.size + 1) 1 (.int .i64 0) := slotB hb ⟨by simp [go_sem], by simp [go_sem]⟩
        have zb00 := lt_of_cell b00
        have zr10 := lt_of_cell r10.1
        have hB : Below w.heap.size w w1 := hX
        clear hb hX
        go_wp2_with fail
        refine (HR.out _ (HV.out.keep (nextX hB (by go_grown)))).mono ?_
        rintro e w2 ⟨rfl, hb⟩
        have hX : Below w1.heap.size w1 w2 := nextX (by go_grown) hb
        replace b00 := cellB hX b00
        replace b01 := cellB hX b01
        replace r10 := slotB hX r10
        replace r11 := slotB hX r11
        replace os := os.keep hX
        have zb00 := Nat.lt_of_lt_of_le zb00 hX.size
        have zr10 := Nat.lt_of_lt_of_le zr10 hX.size
        replace hB := nextW hB hX
        clear hb hX
        obtain ⟨gs, cs, rfl, hz1, hz2, hz3, hz4, hsc⟩ := os.lit (slopesQ_len ps) (by omega)
        unfold maxLen at hz2
        have hgs : w.heap.size + 1 < gs := by have := hz3; simp at this; omega
        obtain ⟨e0, e1⟩ := hsc _ _ HS.out
        obtain ⟨e2, e3⟩ := hsc _ _ HS2.out
        have d0 := cellB hB HD.out.1
        have d1 := cellB hB HD.out.2
        clear os hsc
        have y0 : (0 : Int) ≤ (k : Int) := by omega
        have y1 : (k : Int) < (ps.length : Int) := by omega
        have y2 : (k : Int) + 1 < (ps.length : Int) := by omega
        have y3 : (0 : Int) ≤ (k : Int) + 1 := by omega
        have y4 : (k : Int) < ((ps.length - 1 : Nat) : Int) := by omega
        have y5 : (k : Int) + 1 < ((ps.length - 1 : Nat) : Int) := by omega
        have y6 : (((k : Int) + 1) == ((ps.length - 1 : Nat) : Int)) = false := by simp; omega
        have t2 : ((k : Int) + 1).toNat = k + 1 := by omega
        have v2 : IntKind.i64.wrap ((k : Int) + 1) = (k : Int) + 1 := IntWalk.i64_in _ (by omega)
        have v3 : IntKind.i64.wrap (k : Int) = (k : Int) := IntWalk.i64_in _ (by omega)
        go_wp2_with fail
        go_name_world W hW
        have hWB : Below w2.heap.size w2 W := by rw [← hW]; go_grown
        replace b00 := cellB hWB b00
        replace b01 := cellB hWB b01
        replace d0 := cellB hWB d0
        replace d1 := cellB hWB d1
        replace e0 := cellB hWB e0
        replace e1 := cellB hWB e1
        replace e2 := cellB hWB e2
        replace e3 := cellB hWB e3
        obtain ⟨z0, kz0⟩ := slotB hWB r10
        obtain ⟨z1, kz1⟩ := slotB hWB r11
        have hBW := nextW hB hWB
        have zz := lt_of_cell z0
        have zb := lt_of_cell b00
        have hzs := hB.size
        clear hW hWB r10 r11 hB
        have kL : Facts [(w.heap.size, 0, .int .i64 x1), (w.heap.size, 1, .int .i64 x2), (g, o + (k + 1) * 4, .int .i64 x1), (g, o + (k + 1) * 4 + 1, .int .i64 x2), (gs, k * 2, .int .i64 s1), (gs, k * 2 + 1, .int .i64 s2), (gs, (k + 1) * 2, .int .i64 s1), (gs, (k + 1) * 2 + 1, .int .i64 s2)] W := ⟨b00, b01, d0, d1, e0, e1, e2, e3⟩
        go_region_held3 (fun w' => w'.cell? ⟨w.heap.size, 0, none⟩ = some (.int .i64 x1) ∧ w'.cell? ⟨w.heap.size, 1, none⟩ = some (.int .i64 x2) ∧ w'.cell? ⟨g, o + (k + 1) * 4, none⟩ = some (.int .i64 x1) ∧ w'.cell? ⟨g, o + (k + 1) * 4 + 1, none⟩ = some (.int .i64 x2) ∧ w'.cell? ⟨gs, k * 2, none⟩ = some (.int .i64 s1) ∧ w'.cell? ⟨gs, k * 2 + 1, none⟩ = some (.int .i64 s2) ∧ w'.cell? ⟨gs, (k + 1) * 2, none⟩ = some (.int .i64 s1) ∧ w'.cell? ⟨gs, (k + 1) * 2 + 1, none⟩ = some (.int .i64 s2))
          ((first | exact kL | (refine Facts.keep kL ?_; go_grown; done) | (refine Facts.drewF (Facts.put (Facts.put kL ?_) ?_) <;> (simp; omega))))
          ((first | fail))
        go_wp2_with fail
        refine bodyPost_ret (v := .tuple #[.agg #[.int .i64 s1, .int .i64 s2], .bool true]) (by simp [results, Try.results156, go_sem, z0, z1]) rfl ⟨rfl, ?_⟩
        go_grown
      · obtain rfl : false = t := by rw [← hs2]; simpa using hsu
        have hor := q_or hsu
        clear hs2 hsu
        rcases hor with hn | ⟨hn, hn2⟩
        · go_enter Try.func156, Try.ntmps156
          go_wp2_with fail
          refine (slopes_is ps _ _ (HV.out.keep (by go_grown)) HRi.out (by omega)).mono ?_
          rintro e w1 ⟨s, rfl, os, hb⟩
          have hX : Below w.heap.size w w1 := nextX (by go_grown) hb
          have b00 : w1.cell? ⟨w.heap.size, 0, none⟩ = some (.int .i64 x1) := cellB hb (by simp [go_sem])
          have b01 : w1.cell? ⟨w.heap.size, 1, none⟩ = some (.int .i64 x2) := cellB hb (by simp [go_sem])
          have r10 : Slot w1 (w.heap.size + 1) 0 (.int .i64 0) := slotB hb ⟨by simp [go_sem], by simp [go_sem]⟩
          have r11 : Slot w1 (w.heap.size + 1) 1 (.int .i64 0) := slotB hb ⟨by simp [go_sem], by simp [go_sem]⟩
          have zb00 := lt_of_cell b00
          have zr10 := lt_of_cell r10.1
          have hB : Below w.heap.size w w1 := hX
          clear hb hX
          go_wp2_with fail
          refine (HR.out _ (HV.out.keep (nextX hB (by go_grown)))).mono ?_
          rintro e w2 ⟨rfl, hb⟩
          have hX : Below w1.heap.size w1 w2 := nextX (by go_grown) hb
          replace b00 := cellB hX b00
          replace b01 := cellB hX b01
          replace r10 := slotB hX r10
          replace r11 := slotB hX r11
          replace os := os.keep hX
          have zb00 := Nat.lt_of_lt_of_le zb00 hX.size
          have zr10 := Nat.lt_of_lt_of_le zr10 hX.size
          replace hB := nextW hB hX
          clear hb hX
          obtain ⟨gs, cs, rfl, hz1, hz2, hz3, hz4, hsc⟩ := os.lit (slopesQ_len ps) (by omega)
          unfold maxLen at hz2
          have hgs : w.heap.size + 1 < gs := by have := hz3; simp at this; omega
          obtain ⟨e0, e1⟩ := hsc _ _ HS.out
          obtain ⟨e2, e3⟩ := hsc _ _ HS2.out
          have d0 := cellB hB HD.out.1
          have d1 := cellB hB HD.out.2
          clear os hsc
          have y0 : (0 : Int) ≤ (k : Int) := by omega
          have y1 : (k : Int) < (ps.length : Int) := by omega
          have y2 : (k : Int) + 1 < (ps.length : Int) := by omega
          have y3 : (0 : Int) ≤ (k : Int) + 1 := by omega
          have y4 : (k : Int) < ((ps.length - 1 : Nat) : Int) := by omega
          have y5 : (k : Int) + 1 < ((ps.length - 1 : Nat) : Int) := by omega
          have y6 : (((k : Int) + 1) == ((ps.length - 1 : Nat) : Int)) = false := by simp; omega
          have t2 : ((k : Int) + 1).toNat = k + 1 := by omega
          have v2 : IntKind.i64.wrap ((k : Int) + 1) = (k : Int) + 1 := IntWalk.i64_in _ (by omega)
          have v3 : IntKind.i64.wrap (k : Int) = (k : Int) := IntWalk.i64_in _ (by omega)
          go_wp2_with fail
          go_name_world W hW
          have hWB : Below w2.heap.size w2 W := by rw [← hW]; go_grown
          replace b00 := cellB hWB b00
          replace b01 := cellB hWB b01
          replace d0 := cellB hWB d0
          replace d1 := cellB hWB d1
          replace e0 := cellB hWB e0
          replace e1 := cellB hWB e1
          replace e2 := cellB hWB e2
          replace e3 := cellB hWB e3
          obtain ⟨z0, kz0⟩ := slotB hWB r10
          obtain ⟨z1, kz1⟩ := slotB hWB r11
          have hBW := nextW hB hWB
          have zz := lt_of_cell z0
          have zb := lt_of_cell b00
          have hzs := hB.size
          clear hW hWB r10 r11 hB
          have kL : Facts [(w.heap.size, 0, .int .i64 x1), (w.heap.size, 1, .int .i64 x2), (g, o + (k + 1) * 4, .int .i64 x1), (g, o + (k + 1) * 4 + 1, .int .i64 x2), (gs, k * 2, .int .i64 s1), (gs, k * 2 + 1, .int .i64 s2), (gs, (k + 1) * 2, .int .i64 u1), (gs, (k + 1) * 2 + 1, .int .i64 u2)] W := ⟨b00, b01, d0, d1, e0, e1, e2, e3⟩
          go_region_held3 (fun w' => w'.cell? ⟨w.heap.size, 0, none⟩ = some (.int .i64 x1) ∧ w'.cell? ⟨w.heap.size, 1, none⟩ = some (.int .i64 x2) ∧ w'.cell? ⟨g, o + (k + 1) * 4, none⟩ = some (.int .i64 x1) ∧ w'.cell? ⟨g, o + (k + 1) * 4 + 1, none⟩ = some (.int .i64 x2) ∧ w'.cell? ⟨gs, k * 2, none⟩ = some (.int .i64 s1) ∧ w'.cell? ⟨gs, k * 2 + 1, none⟩ = some (.int .i64 s2) ∧ w'.cell? ⟨gs, (k + 1) * 2, none⟩ = some (.int .i64 u1) ∧ w'.cell? ⟨gs, (k + 1) * 2 + 1, none⟩ = some (.int .i64 u2))
            ((first | exact kL | (refine Facts.keep kL ?_; go_grown; done) | (refine Facts.drewF (Facts.put (Facts.put kL ?_) ?_) <;> (simp; omega))))
            ((first | fail))
          go_wp2_with fail
          refine bodyPost_ret (v := .tuple #[.agg #[.int .i64 s1, .int .i64 s2], .bool false]) (by simp [results, Try.results156, go_sem, z0, z1]) rfl ⟨rfl, ?_⟩
          go_grown
        · go_enter Try.func156, Try.ntmps156
          go_wp2_with fail
          refine (slopes_is ps _ _ (HV.out.keep (by go_grown)) HRi.out (by omega)).mono ?_
          rintro e w1 ⟨s, rfl, os, hb⟩
          have hX : Below w.heap.size w w1 := nextX (by go_grown) hb
          have b00 : w1.cell? ⟨w.heap.size, 0, none⟩ = some (.int .i64 x1) := cellB hb (by simp [go_sem])
          have b01 : w1.cell? ⟨w.heap.size, 1, none⟩ = some (.int .i64 x2) := cellB hb (by simp [go_sem])
          have r10 : Slot w1 (w.heap.size + 1) 0 (.int .i64 0) := slotB hb ⟨by simp [go_sem], by simp [go_sem]⟩
          have r11 : Slot w1 (w.heap.size + 1) 1 (.int .i64 0) := slotB hb ⟨by simp [go_sem], by simp [go_sem]⟩
          have zb00 := lt_of_cell b00
          have zr10 := lt_of_cell r10.1
          have hB : Below w.heap.size w w1 := hX
          clear hb hX
          go_wp2_with fail
          refine (HR.out _ (HV.out.keep (nextX hB (by go_grown)))).mono ?_
          rintro e w2 ⟨rfl, hb⟩
          have hX : Below w1.heap.size w1 w2 := nextX (by go_grown) hb
          replace b00 := cellB hX b00
          replace b01 := cellB hX b01
          replace r10 := slotB hX r10
          replace r11 := slotB hX r11
          replace os := os.keep hX
          have zb00 := Nat.lt_of_lt_of_le zb00 hX.size
          have zr10 := Nat.lt_of_lt_of_le zr10 hX.size
          replace hB := nextW hB hX
          clear hb hX
          obtain ⟨gs, cs, rfl, hz1, hz2, hz3, hz4, hsc⟩ := os.lit (slopesQ_len ps) (by omega)
          unfold maxLen at hz2
          have hgs : w.heap.size + 1 < gs := by have := hz3; simp at this; omega
          obtain ⟨e0, e1⟩ := hsc _ _ HS.out
          obtain ⟨e2, e3⟩ := hsc _ _ HS2.out
          have d0 := cellB hB HD.out.1
          have d1 := cellB hB HD.out.2
          clear os hsc
          have y0 : (0 : Int) ≤ (k : Int) := by omega
          have y1 : (k : Int) < (ps.length : Int) := by omega
          have y2 : (k : Int) + 1 < (ps.length : Int) := by omega
          have y3 : (0 : Int) ≤ (k : Int) + 1 := by omega
          have y4 : (k : Int) < ((ps.length - 1 : Nat) : Int) := by omega
          have y5 : (k : Int) + 1 < ((ps.length - 1 : Nat) : Int) := by omega
          have y6 : (((k : Int) + 1) == ((ps.length - 1 : Nat) : Int)) = false := by simp; omega
          have t2 : ((k : Int) + 1).toNat = k + 1 := by omega
          have v2 : IntKind.i64.wrap ((k : Int) + 1) = (k : Int) + 1 := IntWalk.i64_in _ (by omega)
          have v3 : IntKind.i64.wrap (k : Int) = (k : Int) := IntWalk.i64_in _ (by omega)
          go_wp2_with fail
          go_name_world W hW
          have hWB : Below w2.heap.size w2 W := by rw [← hW]; go_grown
          replace b00 := cellB hWB b00
          replace b01 := cellB hWB b01
          replace d0 := cellB hWB d0
          replace d1 := cellB hWB d1
          replace e0 := cellB hWB e0
          replace e1 := cellB hWB e1
          replace e2 := cellB hWB e2
          replace e3 := cellB hWB e3
          obtain ⟨z0, kz0⟩ := slotB hWB r10
          obtain ⟨z1, kz1⟩ := slotB hWB r11
          have hBW := nextW hB hWB
          have zz := lt_of_cell z0
          have zb := lt_of_cell b00
          have hzs := hB.size
          clear hW hWB r10 r11 hB
          have kL : Facts [(w.heap.size, 0, .int .i64 x1), (w.heap.size, 1, .int .i64 x2), (g, o + (k + 1) * 4, .int .i64 x1), (g, o + (k + 1) * 4 + 1, .int .i64 x2), (gs, k * 2, .int .i64 s1), (gs, k * 2 + 1, .int .i64 s2), (gs, (k + 1) * 2, .int .i64 u1), (gs, (k + 1) * 2 + 1, .int .i64 u2)] W := ⟨b00, b01, d0, d1, e0, e1, e2, e3⟩
          go_region_held3 (fun w' => w'.cell? ⟨w.heap.size, 0, none⟩ = some (.int .i64 x1) ∧ w'.cell? ⟨w.heap.size, 1, none⟩ = some (.int .i64 x2) ∧ w'.cell? ⟨g, o + (k + 1) * 4, none⟩ = some (.int .i64 x1) ∧ w'.cell? ⟨g, o + (k + 1) * 4 + 1, none⟩ = some (.int .i64 x2) ∧ w'.cell? ⟨gs, k * 2, none⟩ = some (.int .i64 s1) ∧ w'.cell? ⟨gs, k * 2 + 1, none⟩ = some (.int .i64 s2) ∧ w'.cell? ⟨gs, (k + 1) * 2, none⟩ = some (.int .i64 u1) ∧ w'.cell? ⟨gs, (k + 1) * 2 + 1, none⟩ = some (.int .i64 u2))
            ((first | exact kL | (refine Facts.keep kL ?_; go_grown; done) | (refine Facts.drewF (Facts.put (Facts.put kL ?_) ?_) <;> (simp; omega))))
            ((first | fail))
          go_wp2_with fail
          refine bodyPost_ret (v := .tuple #[.agg #[.int .i64 s1, .int .i64 s2], .bool false]) (by simp [results, Try.results156, go_sem, z0, z1]) rfl ⟨rfl, ?_⟩
          go_grown
  · obtain rfl : true = t := by
      rw [← hs2]
      split
      · simp [show (((q1, q2) : Q) == (x1, x2)) = false from beq_eq_false_iff_ne.2 hqx]
      · rfl
    have hor := q_or hqx
    clear hs2 hqx hq
    rcases hor with hn | ⟨hn, hn2⟩
    · go_enter Try.func156, Try.ntmps156
      go_wp2_with fail
      refine (slopes_is ps _ _ (HV.out.keep (by go_grown)) HRi.out (by omega)).mono ?_
      rintro e w1 ⟨s, rfl, os, hb⟩
      have hX : Below w.heap.size w w1 := nextX (by go_grown) hb
      have b00 : w1.cell? ⟨w.heap.size, 0, none⟩ = some (.int .i64 x1) := cellB hb (by simp [go_sem])
      have b01 : w1.cell? ⟨w.heap.size, 1, none⟩ = some (.int .i64 x2) := cellB hb (by simp [go_sem])
      have r10 : Slot w1 (w.heap.size + 1) 0 (.int .i64 0) := slotB hb ⟨by simp [go_sem], by simp [go_sem]⟩
      have r11 : Slot w1 (w.heap.size + 1) 1 (.int .i64 0) := slotB hb ⟨by simp [go_sem], by simp [go_sem]⟩
      have zb00 := lt_of_cell b00
      have zr10 := lt_of_cell r10.1
      have hB : Below w.heap.size w w1 := hX
      clear hb hX
      go_wp2_with fail
      refine (HR.out _ (HV.out.keep (nextX hB (by go_grown)))).mono ?_
      rintro e w2 ⟨rfl, hb⟩
      have hX : Below w1.heap.size w1 w2 := nextX (by go_grown) hb
      replace b00 := cellB hX b00
      replace b01 := cellB hX b01
      replace r10 := slotB hX r10
      replace r11 := slotB hX r11
      replace os := os.keep hX
      have zb00 := Nat.lt_of_lt_of_le zb00 hX.size
      have zr10 := Nat.lt_of_lt_of_le zr10 hX.size
      replace hB := nextW hB hX
      clear hb hX
      obtain ⟨gs, cs, rfl, hz1, hz2, hz3, hz4, hsc⟩ := os.lit (slopesQ_len ps) (by omega)
      unfold maxLen at hz2
      have hgs : w.heap.size + 1 < gs := by have := hz3; simp at this; omega
      obtain ⟨e0, e1⟩ := hsc _ _ HS.out
      have d0 := cellB hB HD.out.1
      have d1 := cellB hB HD.out.2
      clear os hsc
      have y0 : (0 : Int) ≤ (k : Int) := by omega
      have y1 : (k : Int) < (ps.length : Int) := by omega
      have y2 : (k : Int) + 1 < (ps.length : Int) := by omega
      have y3 : (0 : Int) ≤ (k : Int) + 1 := by omega
      have y4 : (k : Int) < ((ps.length - 1 : Nat) : Int) := by omega
      have t2 : ((k : Int) + 1).toNat = k + 1 := by omega
      have v2 : IntKind.i64.wrap ((k : Int) + 1) = (k : Int) + 1 := IntWalk.i64_in _ (by omega)
      have v3 : IntKind.i64.wrap (k : Int) = (k : Int) := IntWalk.i64_in _ (by omega)
      go_wp2_with fail
      go_name_world W hW
      have hWB : Below w2.heap.size w2 W := by rw [← hW]; go_grown
      replace b00 := cellB hWB b00
      replace b01 := cellB hWB b01
      replace d0 := cellB hWB d0
      replace d1 := cellB hWB d1
      replace e0 := cellB hWB e0
      replace e1 := cellB hWB e1
      obtain ⟨z0, kz0⟩ := slotB hWB r10
      obtain ⟨z1, kz1⟩ := slotB hWB r11
      have hBW := nextW hB hWB
      have zz := lt_of_cell z0
      have zb := lt_of_cell b00
      have hzs := hB.size
      clear hW hWB r10 r11 hB
      go_region
      go_wp2_with fail
      refine bodyPost_ret (v := .tuple #[.agg #[.int .i64 s1, .int .i64 s2], .bool true]) (by simp [results, Try.results156, go_sem, z0, z1]) rfl ⟨rfl, ?_⟩
      go_grown
    · go_enter Try.func156, Try.ntmps156
      go_wp2_with fail
      refine (slopes_is ps _ _ (HV.out.keep (by go_grown)) HRi.out (by omega)).mono ?_
      rintro e w1 ⟨s, rfl, os, hb⟩
      have hX : Below w.heap.size w w1 := nextX (by go_grown) hb
      have b00 : w1.cell? ⟨w.heap.size, 0, none⟩ = some (.int .i64 x1) := cellB hb (by simp [go_sem])
      have b01 : w1.cell? ⟨w.heap.size, 1, none⟩ = some (.int .i64 x2) := cellB hb (by simp [go_sem])
      have r10 : Slot w1 (w.heap.size + 1) 0 (.int .i64 0) := slotB hb ⟨by simp [go_sem], by simp [go_sem]⟩
      have r11 : Slot w1 (w.heap.size + 1) 1 (.int .i64 0) := slotB hb ⟨by simp [go_sem], by simp [go_sem]⟩
      have zb00 := lt_of_cell b00
      have zr10 := lt_of_cell r10.1
      have hB : Below w.heap.size w w1 := hX
      clear hb hX
      go_wp2_with fail
      refine (HR.out _ (HV.out.keep (nextX hB (by go_grown)))).mono ?_
      rintro e w2 ⟨rfl, hb⟩
      have hX : Below w1.heap.size w1 w2 := nextX (by go_grown) hb
      replace b00 := cellB hX b00
      replace b01 := cellB hX b01
      replace r10 := slotB hX r10
      replace r11 := slotB hX r11
      replace os := os.keep hX
      have zb00 := Nat.lt_of_lt_of_le zb00 hX.size
      have zr10 := Nat.lt_of_lt_of_le zr10 hX.size
      replace hB := nextW hB hX
      clear hb hX
      obtain ⟨gs, cs, rfl, hz1, hz2, hz3, hz4, hsc⟩ := os.lit (slopesQ_len ps) (by omega)
      unfold maxLen at hz2
      have hgs : w.heap.size + 1 < gs := by have := hz3; simp at this; omega
      obtain ⟨e0, e1⟩ := hsc _ _ HS.out
      have d0 := cellB hB HD.out.1
      have d1 := cellB hB HD.out.2
      clear os hsc
      have y0 : (0 : Int) ≤ (k : Int) := by omega
      have y1 : (k : Int) < (ps.length : Int) := by omega
      have y2 : (k : Int) + 1 < (ps.length : Int) := by omega
      have y3 : (0 : Int) ≤ (k : Int) + 1 := by omega
      have y4 : (k : Int) < ((ps.length - 1 : Nat) : Int) := by omega
      have t2 : ((k : Int) + 1).toNat = k + 1 := by omega
      have v2 : IntKind.i64.wrap ((k : Int) + 1) = (k : Int) + 1 := IntWalk.i64_in _ (by omega)
      have v3 : IntKind.i64.wrap (k : Int) = (k : Int) := IntWalk.i64_in _ (by omega)
      go_wp2_with fail
      go_name_world W hW
      have hWB : Below w2.heap.size w2 W := by rw [← hW]; go_grown
      replace b00 := cellB hWB b00
      replace b01 := cellB hWB b01
      replace d0 := cellB hWB d0
      replace d1 := cellB hWB d1
      replace e0 := cellB hWB e0
      replace e1 := cellB hWB e1
      obtain ⟨z0, kz0⟩ := slotB hWB r10
      obtain ⟨z1, kz1⟩ := slotB hWB r11
      have hBW := nextW hB hWB
      have zz := lt_of_cell z0
      have zb := lt_of_cell b00
      have hzs := hB.size
      clear hW hWB r10 r11 hB
      go_region
      go_wp2_with fail
      refine bodyPost_ret (v := .tuple #[.agg #[.int .i64 s1, .int .i64 s2], .bool true]) (by simp [results, Try.results156, go_sem, z0, z1]) rfl ⟨rfl, ?_⟩
      go_grown

end Go.Proofs.Ytkdhhopfefhdjaa
