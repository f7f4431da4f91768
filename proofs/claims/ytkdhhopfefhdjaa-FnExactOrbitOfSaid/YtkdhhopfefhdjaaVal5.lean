/- The program's value, and ValueAt of both. -/
import Derived.Test.YtkdhhopfefhdjaaVal4
import Derived.Test.YtkdhhopfefhdjaaIsMap2
namespace Go.Proofs.Ytkdhhopfefhdjaa
open Go.RowKit

/-- A slice that lies in a block older than g. -/
def Old (g : Nat) (v : Value) : Prop := ∀ A n c, v = .slice (some A) n c → A.block < g
theorem RdP.keepU {g : Nat} {w w' : World} {v : Value} {ps : List Pt} (h : RdP w v ps) (hb : But g w w') (ho : Old g v) : RdP w' v ps := by
  obtain ⟨A, c, rfl, h1, h2, h3⟩ := h
  refine ⟨A, c, rfl, h1, h2, fun hn => ?_⟩
  obtain ⟨b, o, rfl, hg, hc⟩ := h3 hn
  have hlt : b < g := ho _ _ _ rfl
  refine ⟨b, o, rfl, Nat.lt_of_lt_of_le hg hb.size, fun i p hp => ?_⟩
  obtain ⟨a1, a2, a3, a4⟩ := hc i p hp
  exact ⟨cellU hb (by omega) a1, cellU hb (by omega) a2, cellU hb (by omega) a3, cellU hb (by omega) a4⟩
theorem RdP.old {w : World} {v : Value} {ps : List Pt} (h : RdP w v ps) (hn : ps ≠ []) {g : Nat} (hg : w.heap.size ≤ g) : Old g v := by
  obtain ⟨A, c, rfl, h1, h2, h3⟩ := h
  obtain ⟨b, o, rfl, hb, -⟩ := h3 hn
  intro A' n c' e
  cases e
  exact Nat.lt_of_lt_of_le hb hg
theorem Old.le {g k : Nat} {v : Value} (h : Old g v) (hk : g ≤ k) : Old k v := fun A n c e => Nat.lt_of_lt_of_le (h A n c e) hk
theorem okMap_ne {ps : List Pt} (h : okMap ps = true) : ps ≠ [] := by
  have := (okMap_len h).1
  intro e; rw [e] at this; simp at this

theorem pieceAt_map {ps : List Pt} {x1 x2 : Int} {p q : Pt} (v : Value) (w : World) (h : AtPiece ps (x1, x2) p q) (hv : RdP w v ps) (hm : okMap ps = true) (hx : unitQ x1 x2 = true) :
    Calls Try.prog 137 #[v, .agg #[.int .i64 x1, .int .i64 x2]] w fun e w' => e = .returned (.int .i64 (pieceN ps (x1, x2))) ∧ Below w.heap.size w w' := by
  have xs : Sm x1 ∧ Sm x2 := Sm.of_ok (unitQ_ok hx)
  refine pieceAt_is ps v x1 x2 (idxB (fromQ x1 x2) ps) _ w hv (fun p hp => ?_) xs.1 xs.2 rfl ?_ h.idx
  · obtain ⟨i, hi, rfl⟩ := List.getElem_of_mem hp
    exact coord_smQ (okMap_coord hm (List.getElem?_eq_getElem hi)).1
  · have := idxB_bd (fromQ x1 x2) ps
    have := (okMap_len hm).2
    omega

/-- The program's line, at a piece of a map. -/
theorem line_at {ps : List Pt} {x1 x2 : Int} {p q : Pt} (h : AtPiece ps (x1, x2) p q) {s1 s2 y1 y2 : Int} {t bad bad' : Bool} (hs : slopeQ p q = (s1, s2)) (hy : valQ ps (x1, x2) = ((y1, y2), t)) (hb : (bad || !t) = bad') (g : Nat) (w : World) (hg : Slot w g 0 (.bool bad)) :
    Calls Try.prog 138 #[.pointer (some ⟨g, 0, none⟩), .agg #[.int .i64 p.1.1, .int .i64 p.1.2, .int .i64 p.2.1, .int .i64 p.2.2], .agg #[.int .i64 s1, .int .i64 s2], .agg #[.int .i64 x1, .int .i64 x2]] w (KeepEnd g y1 y2 bad' w) := by
  have k1 := (coord_smQ h.cx).1.bd
  rw [valQ_at h, hs] at hy
  unfold onQ at hy
  simp only [Prod.mk.injEq] at hy
  obtain ⟨hr, ht⟩ := hy
  refine line_any p.1.1 p.1.2 p.2.1 p.2.2 s1 s2 x1 x2 (keepQ (subQ x1 x2 p.1.1 p.1.2)).1 (keepQ (subQ x1 x2 p.1.1 p.1.2)).2
    (keepQ (mulQ s1 s2 (keepQ (subQ x1 x2 p.1.1 p.1.2)).1 (keepQ (subQ x1 x2 p.1.1 p.1.2)).2)).1 (keepQ (mulQ s1 s2 (keepQ (subQ x1 x2 p.1.1 p.1.2)).1 (keepQ (subQ x1 x2 p.1.1 p.1.2)).2)).2
    y1 y2 bad _ _ bad' g w hg (by omega) rfl rfl rfl rfl hr ?_
  rw [← hb, ← ht]
  cases bad <;> simp [Bool.not_and]

set_option maxHeartbeats 1600000 in
theorem value_is (ps : List Pt) (v : Value) (x1 x2 y1 y2 : Int) (t bad bad' : Bool) (gc : Nat) (w : World) (hs : Slot w gc 0 (.bool bad)) (hv : RdP w v ps) (ho : Old gc v) (hm : okMap ps = true) (hx : unitQ x1 x2 = true) (hy : valQ ps (x1, x2) = ((y1, y2), t)) (hb : (bad || !t) = bad') :
    Calls Try.prog 83 #[.pointer (some ⟨gc, 0, none⟩), v, .agg #[.int .i64 x1, .int .i64 x2]] w (KeepEnd gc y1 y2 bad' w) := by
  obtain ⟨p, q, h⟩ := atPiece (x := (x1, x2)) hm hx
  have hgc := lt_of_cell hs.1
  have hv0 := hv
  obtain ⟨A, c, rfl, hl, hmx, hcell⟩ := hv
  unfold maxLen at hmx
  have hN := (List.getElem?_eq_some_iff.1 h.next).1
  obtain ⟨g, o, rfl, hg, hc⟩ := hcell (by intro h; rw [h] at hN; simp at hN)
  have hgg : g < gc := ho _ _ _ rfl
  obtain ⟨c0, c1, c2, c3⟩ := hc _ _ h.here
  obtain ⟨d0, d1, d2, d3⟩ := hc _ _ h.next
  obtain ⟨⟨s1, s2⟩, hsl⟩ : ∃ s, slopeQ p q = s := ⟨_, rfl⟩
  have HP := Lib.hid (fun W hW => pieceAt_map (ps := ps) (.slice (some ⟨g, o, none⟩) ps.length c) W h hW hm hx)
  have HSl := Lib.hid (slope_is h.cx h.cy h.dx h.dy h.rise hsl)
  have HO := Lib.hid (line_at h hsl hy hb gc)
  have HV := Lib.hid hv0
  have HS := Lib.hid hs
  clear hcell hc hy hv0 hx hm h hsl hb hs ho
  generalize pieceN ps (x1, x2) = N at *
  obtain ⟨⟨p1, p2⟩, p3, p4⟩ := p
  obtain ⟨⟨q1, q2⟩, q3, q4⟩ := q
  go_enter Try.func83, Try.ntmps83
  go_wp2_with fail
  refine (HP.out _ (HV.out.keep (by go_grown))).mono ?_
  rintro e w1 ⟨rfl, hb⟩
  have hX : Below w.heap.size w w1 := nextX (by go_grown) hb
  replace c0 := cellB hX c0
  replace c1 := cellB hX c1
  replace c2 := cellB hX c2
  replace c3 := cellB hX c3
  replace d0 := cellB hX d0
  replace d1 := cellB hX d1
  replace d2 := cellB hX d2
  replace d3 := cellB hX d3
  have e0 : w1.cell? ⟨w.heap.size, 0, none⟩ = some (.int .i64 x1) := cellB hb (by simp [go_sem])
  have e1 : w1.cell? ⟨w.heap.size, 1, none⟩ = some (.int .i64 x2) := cellB hb (by simp [go_sem])
  obtain ⟨r0, r0'⟩ : Slot w1 (w.heap.size + 1) 0 (.int .i64 0) := slotB hb ⟨by simp [go_sem], by simp [go_sem]⟩
  obtain ⟨r1, r1'⟩ : Slot w1 (w.heap.size + 1) 1 (.int .i64 0) := slotB hb ⟨by simp [go_sem], by simp [go_sem]⟩
  have z1 := hX.size
  have hS1 := slotB hX HS.out
  have b0 : (0 : Int) ≤ (N : Int) := by omega
  have b1 : (N : Int) < (ps.length : Int) := by omega
  have b2 : (N : Int) + 1 < (ps.length : Int) := by omega
  have b3 : (0 : Int) ≤ (N : Int) + 1 := by omega
  have t2 : ((N : Int) + 1).toNat = N + 1 := by omega
  have v1 : IntKind.i64.wrap ((N : Int)) = (N : Int) := IntWalk.i64_in _ (by omega)
  have v2 : IntKind.i64.wrap ((N : Int) + 1) = (N : Int) + 1 := IntWalk.i64_in _ (by omega)
  clear hb
  have HS1 := Lib.hid hS1
  clear hS1
  have kL : Facts [(g, o + N * 4, .int .i64 p1), (g, o + N * 4 + 1, .int .i64 p2), (g, o + N * 4 + 2, .int .i64 p3), (g, o + N * 4 + 3, .int .i64 p4), (g, o + (N + 1) * 4, .int .i64 q1), (g, o + (N + 1) * 4 + 1, .int .i64 q2), (g, o + (N + 1) * 4 + 2, .int .i64 q3), (g, o + (N + 1) * 4 + 3, .int .i64 q4), (w.heap.size, 0, .int .i64 x1), (w.heap.size, 1, .int .i64 x2)] w1 := ⟨c0, c1, c2, c3, d0, d1, d2, d3, e0, e1⟩
  go_wp2_with fail
  go_region_held3 (fun w' => w'.cell? ⟨g, o + N * 4, none⟩ = some (.int .i64 p1) ∧ w'.cell? ⟨g, o + N * 4 + 1, none⟩ = some (.int .i64 p2) ∧ w'.cell? ⟨g, o + N * 4 + 2, none⟩ = some (.int .i64 p3) ∧ w'.cell? ⟨g, o + N * 4 + 3, none⟩ = some (.int .i64 p4) ∧ w'.cell? ⟨g, o + (N + 1) * 4, none⟩ = some (.int .i64 q1) ∧ w'.cell? ⟨g, o + (N + 1) * 4 + 1, none⟩ = some (.int .i64 q2) ∧ w'.cell? ⟨g, o + (N + 1) * 4 + 2, none⟩ = some (.int .i64 q3) ∧ w'.cell? ⟨g, o + (N + 1) * 4 + 3, none⟩ = some (.int .i64 q4) ∧ w'.cell? ⟨w.heap.size, 0, none⟩ = some (.int .i64 x1) ∧ w'.cell? ⟨w.heap.size, 1, none⟩ = some (.int .i64 x2))
    ((first | exact kL3 | (refine Facts.keep kL ?_; go_grown; done) | (refine Facts.put (Facts.put kL3 ?_) ?_ <;> (simp; omega))))
    ((first
      | (go_at_call 139; (with_reducible refine (HSl.out _ _).mono ?_); rintro e w2 ⟨rfl, hb2⟩; have hX2 : Below w1.heap.size w1 w2 := nextX (by go_grown) hb2; have z2 := hX2.size)
      | (go_at_call 138; (with_reducible refine (HO.out _ (slotB hX2 HS1.out)).mono ?_); rintro e w3 ⟨rfl, g3, k3⟩; have kL3 := Facts.keepU (Facts.keep kL hX2) k3 (by simp; omega); obtain ⟨q0, k0⟩ := slotU k3 (by omega) (slotB hX2 ⟨r0, r0'⟩); obtain ⟨q1, k1⟩ := slotU k3 (by omega) (slotB hX2 ⟨r1, r1'⟩))))
  go_wp2_with fail
  refine bodyPost_ret (v := .agg #[.int .i64 y1, .int .i64 y2]) (by simp [results, Try.results83, go_sem, q0, q1]) rfl ⟨rfl, ?_, ?_⟩
  · refine slotS (slotS g3 ?_) ?_ <;> simp <;> omega
  · refine But.setNew (But.setNew (But.trans (But.of_below (nextW hX hX2) (Nat.le_refl _)) k3) ?_ _) ?_ _ <;> omega

end Go.Proofs.Ytkdhhopfefhdjaa
