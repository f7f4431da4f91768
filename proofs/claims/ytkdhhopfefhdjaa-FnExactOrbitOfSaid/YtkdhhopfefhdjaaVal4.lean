/- The value of a map: the reference's imAt, the program's value. -/
import Derived.Test.YtkdhhopfefhdjaaVal3
namespace Go.Proofs.Ytkdhhopfefhdjaa
open Go.RowKit

/-- What the reference's value gives: nought where a part does not fit. -/
def atQ (ps : List Pt) (x : Q) : Int × Int × Bool := if (valQ ps x).2 = true then ((valQ ps x).1.1, (valQ ps x).1.2, true) else (0, 0, false)

theorem coord4 {p : Pt} (cx : coordQ p.1.1 p.1.2 = true) (cy : coordQ p.2.1 p.2.2 = true) : Sm p.1.1 ∧ Sm p.1.2 ∧ Sm p.2.1 ∧ Sm p.2.2 := ⟨(coord_smQ cx).1, (coord_smQ cx).2, (coord_smQ cy).1, (coord_smQ cy).2⟩

theorem lowQ_keep {n d : Int} (h : (lowQ n d).2.2 = true) : keepQ (lowQ n d) = ((lowQ n d).1, (lowQ n d).2.1) := by unfold keepQ; rw [if_pos h]

/-- The reference's line, at a piece of a map. -/
theorem imOn_is {ps : List Pt} {x1 x2 : Int} {p q : Pt} (h : AtPiece ps (x1, x2) p q) (hx : unitQ x1 x2 = true) (a b : Int) (t : Bool) (ha : atQ ps (x1, x2) = (a, b, t)) (w : World) :
    Calls Try.prog 135 #[.agg #[.int .i64 p.1.1, .int .i64 p.1.2, .int .i64 p.2.1, .int .i64 p.2.2], .agg #[.int .i64 q.1.1, .int .i64 q.1.2, .int .i64 q.2.1, .int .i64 q.2.2], .agg #[.int .i64 x1, .int .i64 x2]] w (LowEnd a b t w) := by
  rcases hs : slopeQ p q with ⟨s1, s2⟩
  have xs : Sm x1 ∧ Sm x2 := Sm.of_ok (unitQ_ok hx)
  obtain ⟨so, -⟩ := slopeQ_ok h.cx h.cy h.dx h.dy h.rise
  rw [hs] at so
  have ss : Sm s1 ∧ Sm s2 := Sm.of_ok so
  rcases hd : lowQ (x1 * p.1.2 - p.1.1 * x2) (x2 * p.1.2) with ⟨d1, d2, td⟩
  rcases hm : lowQ (d1 * s1) (d2 * s2) with ⟨m1, m2, tm⟩
  rcases hr : lowQ (p.2.1 * m2 + m1 * p.2.2) (p.2.2 * m2) with ⟨r1, r2, tr⟩
  have k1 := unitQ_ok hx
  have k2 := unitQ_ok (coordQ_unit h.cx)
  have k3 := unitQ_ok (coordQ_unit h.cy)
  refine imOn_raw _ _ _ _ _ _ _ _ x1 x2 s1 s2 d1 d2 m1 m2 r1 r2 a b td tm tr t w ⟨coord4 h.cx h.cy, xs.1, xs.2, ss.1, ss.2⟩ (fun W => imSlope_is h.cx h.cy h.dx h.dy h.rise hs W) hd hm hr ?_
  rw [← ha]
  unfold atQ
  rw [valQ_at h, hs]
  unfold onQ
  simp only
  have e1 : subQ x1 x2 p.1.1 p.1.2 = (d1, d2, td) := by unfold subQ; rw [if_pos (by rw [k1, k2]; rfl)]; exact hd
  rw [e1]
  cases td
  · simp
  · have o1 := (lowQ_ok hd).1 rfl
    have e2 : mulQ s1 s2 (keepQ (d1, d2, true)).1 (keepQ (d1, d2, true)).2 = (m1, m2, tm) := by
      show mulQ s1 s2 d1 d2 = _
      unfold mulQ; rw [if_pos (by rw [so, o1]; rfl), Int.mul_comm s1, Int.mul_comm s2]; exact hm
    rw [e2]
    cases tm
    · simp
    · have o2 := (lowQ_ok hm).1 rfl
      have e3 : addQ p.2.1 p.2.2 (keepQ (m1, m2, true)).1 (keepQ (m1, m2, true)).2 = (r1, r2, tr) := by
        show addQ p.2.1 p.2.2 m1 m2 = _
        unfold addQ; rw [if_pos (by rw [k3, o2]; rfl)]; exact hr
      rw [e3]
      cases tr
      · have := (lowQ_ok hr).2 rfl
        simp [this.1, this.2]
      · simp [keepQ]

theorem imPiece_is {ps : List Pt} {x1 x2 : Int} {p q : Pt} (v : Value) (w : World) (h : AtPiece ps (x1, x2) p q) (hv : RdP w v ps) (hm : okMap ps = true) (hx : unitQ x1 x2 = true) :
    Calls Try.prog 134 #[v, .agg #[.int .i64 x1, .int .i64 x2]] w fun e w' => e = .returned (.int .i64 (pieceN ps (x1, x2))) ∧ Below w.heap.size w w' := by
  have xs : Sm x1 ∧ Sm x2 := Sm.of_ok (unitQ_ok hx)
  refine imPiece_raw ps v x1 x2 (pieceN ps (x1, x2)) w hv (fun p hp => ?_) xs.1 xs.2 ?_ (fun k y hk hy => pieceN_before hk hy) (fun y hy => pieceN_here hy)
  · obtain ⟨i, hi, rfl⟩ := List.getElem_of_mem hp
    exact coord_smQ (okMap_coord hm (List.getElem?_eq_getElem hi)).1
  · exact (List.getElem?_eq_some_iff.1 h.next).1

set_option maxHeartbeats 1600000 in
theorem imAt_is (ps : List Pt) (v : Value) (x1 x2 a b : Int) (t : Bool) (w : World) (hv : RdP w v ps) (hm : okMap ps = true) (hx : unitQ x1 x2 = true) (ha : atQ ps (x1, x2) = (a, b, t)) :
    Calls Try.prog 81 #[v, .agg #[.int .i64 x1, .int .i64 x2]] w (LowEnd a b t w) := by
  obtain ⟨p, q, h⟩ := atPiece (x := (x1, x2)) hm hx
  have hv0 := hv
  obtain ⟨A, c, rfl, hl, hmx, hcell⟩ := hv
  unfold maxLen at hmx
  have hN := (List.getElem?_eq_some_iff.1 h.next).1
  obtain ⟨g, o, rfl, hg, hc⟩ := hcell (by intro h; rw [h] at hN; simp at hN)
  obtain ⟨c0, c1, c2, c3⟩ := hc _ _ h.here
  obtain ⟨d0, d1, d2, d3⟩ := hc _ _ h.next
  have HP := Lib.hid (fun W hW => imPiece_is (ps := ps) (.slice (some ⟨g, o, none⟩) ps.length c) W h hW hm hx)
  have HO := Lib.hid (imOn_is h hx a b t ha)
  have HV := Lib.hid hv0
  clear hcell hc ha hv0 hx hm h
  generalize pieceN ps (x1, x2) = N at *
  obtain ⟨⟨p1, p2⟩, p3, p4⟩ := p
  obtain ⟨⟨q1, q2⟩, q3, q4⟩ := q
  go_enter Try.func81, Try.ntmps81
  go_wp2_with fail
  refine (HP.out _ (HV.out.keep (by go_grown))).mono ?_
  rintro e w1 ⟨rfl, hb⟩
  have hX : Below w.heap.size w w1 := nextX (by go_grown) hb
  replace c0 := cellB hX c0
  replace c1 := cellB hX c1
  replace c2 := cellB hX c2
  replace c3 := cellB hX c3
  replace d0 := cellB hX d0
  replace d1 := cellB hX d1
  replace d2 := cellB hX d2
  replace d3 := cellB hX d3
  have e0 : w1.cell? ⟨w.heap.size, 0, none⟩ = some (.int .i64 x1) := cellB hb (by simp [go_sem])
  have e1 : w1.cell? ⟨w.heap.size, 1, none⟩ = some (.int .i64 x2) := cellB hb (by simp [go_sem])
  obtain ⟨r0, r0'⟩ : Slot w1 (w.heap.size + 1) 0 (.int .i64 0) := slotB hb ⟨by simp [go_sem], by simp [go_sem]⟩
  obtain ⟨r1, r1'⟩ : Slot w1 (w.heap.size + 1) 1 (.int .i64 0) := slotB hb ⟨by simp [go_sem], by simp [go_sem]⟩
  have b0 : (0 : Int) ≤ (N : Int) := by omega
  have b1 : (N : Int) < (ps.length : Int) := by omega
  have b2 : (N : Int) + 1 < (ps.length : Int) := by omega
  have b3 : (0 : Int) ≤ (N : Int) + 1 := by omega
  have t2 : ((N : Int) + 1).toNat = N + 1 := by omega
  have v1 : IntKind.i64.wrap ((N : Int)) = (N : Int) := IntWalk.i64_in _ (by omega)
  have v2 : IntKind.i64.wrap ((N : Int) + 1) = (N : Int) + 1 := IntWalk.i64_in _ (by omega)
  clear hb
  have kL : Facts [(g, o + N * 4, .int .i64 p1), (g, o + N * 4 + 1, .int .i64 p2), (g, o + N * 4 + 2, .int .i64 p3), (g, o + N * 4 + 3, .int .i64 p4), (g, o + (N + 1) * 4, .int .i64 q1), (g, o + (N + 1) * 4 + 1, .int .i64 q2), (g, o + (N + 1) * 4 + 2, .int .i64 q3), (g, o + (N + 1) * 4 + 3, .int .i64 q4), (w.heap.size, 0, .int .i64 x1), (w.heap.size, 1, .int .i64 x2)] w1 := ⟨c0, c1, c2, c3, d0, d1, d2, d3, e0, e1⟩
  go_wp2_with fail
  go_region_held3 (fun w' => w'.cell? ⟨g, o + N * 4, none⟩ = some (.int .i64 p1) ∧ w'.cell? ⟨g, o + N * 4 + 1, none⟩ = some (.int .i64 p2) ∧ w'.cell? ⟨g, o + N * 4 + 2, none⟩ = some (.int .i64 p3) ∧ w'.cell? ⟨g, o + N * 4 + 3, none⟩ = some (.int .i64 p4) ∧ w'.cell? ⟨g, o + (N + 1) * 4, none⟩ = some (.int .i64 q1) ∧ w'.cell? ⟨g, o + (N + 1) * 4 + 1, none⟩ = some (.int .i64 q2) ∧ w'.cell? ⟨g, o + (N + 1) * 4 + 2, none⟩ = some (.int .i64 q3) ∧ w'.cell? ⟨g, o + (N + 1) * 4 + 3, none⟩ = some (.int .i64 q4) ∧ w'.cell? ⟨w.heap.size, 0, none⟩ = some (.int .i64 x1) ∧ w'.cell? ⟨w.heap.size, 1, none⟩ = some (.int .i64 x2))
    ((first | (refine Facts.keep kL ?_; go_grown; done) | (refine Facts.put (Facts.put (Facts.keep kL ?_) ?_) ?_ <;> first | (go_grown; done) | (simp; omega))))
    ((first
      | (go_at_call 135; (with_reducible refine (HO.out _).mono ?_); rintro e w2 ⟨rfl, hb2⟩; have hX2 : Below w1.heap.size w1 w2 := nextX (by go_grown) hb2; have z2 := hX2.size; obtain ⟨q0, k0⟩ := slotB hX2 ⟨r0, r0'⟩; obtain ⟨q1, k1⟩ := slotB hX2 ⟨r1, r1'⟩)))
  go_wp2_with fail
  refine bodyPost_ret (v := .tuple #[.agg #[.int .i64 a, .int .i64 b], .bool t]) (by simp [results, Try.results81, go_sem, q0, q1]) rfl ⟨rfl, ?_⟩
  have hF := nextW hX hX2
  go_grown

end Go.Proofs.Ytkdhhopfefhdjaa
