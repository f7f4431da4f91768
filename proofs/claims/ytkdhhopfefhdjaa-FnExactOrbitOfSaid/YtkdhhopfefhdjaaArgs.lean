/- An argument that is a slice of points, opened; and the laws' own szPointS, eqPoint, eqPointS. -/
import Derived.Test.YtkdhhopfefhdjaaQuiet
import Derived.Test.YtkdhhopfefhdjaaPts
namespace Go.Proofs.Ytkdhhopfefhdjaa
open Go.ChangeShapes Go.WideShapes Go.ChangeAt Go.RowKit Go.Joins

theorem list4 {α : Type} {l : List α} (h : l.length = 4) : ∃ a b c d, l = [a, b, c, d] := by
  match l, h with
  | [a, b, c, d], _ => exact ⟨a, b, c, d, rfl⟩

section
variable {H : Type} {enc : TypeId × Value → H} {W : World} {base : Nat} {sp : Nat → Bool} {hd : Bool}

set_option maxRecDepth 100000 in
/-- A point's four cells. -/
theorem open_pt {fuel : Nat} {cs : List Value} {x : DataW H × List MemPlace} (h : DataW.trod enc Try.prog W base sp hd fuel 73 cs = some x) :
    ∃ p : Pt, cs = [.int .i64 p.1.1, .int .i64 p.1.2, .int .i64 p.2.1, .int .i64 p.2.2] := by
  obtain ⟨y0, y1, n, -, hl, h0, h1⟩ := trod_struct2 Try.underlying73 h
  obtain ⟨z0, z1, n0, -, hl0, g0, g1⟩ := trod_struct2 Try.underlying33 h0
  obtain ⟨z2, z3, n1, -, hl1, g2, g3⟩ := trod_struct2 Try.underlying33 h1
  obtain ⟨a, e0, -, -⟩ := DataW.trod_int Try.underlying3 g0
  obtain ⟨b, e1, -, -⟩ := DataW.trod_int Try.underlying3 g1
  obtain ⟨c, e2, -, -⟩ := DataW.trod_int Try.underlying3 g2
  obtain ⟨d, e3, -, -⟩ := DataW.trod_int Try.underlying3 g3
  have k1 : Try.prog.cellsOf 3 = 1 := Try.cellsI
  have k2 : Try.prog.cellsOf 33 = 2 := Try.cellsQ
  have k4 : Try.prog.cellsOf 73 = 4 := by kernel_rfl
  rw [k4] at hl
  obtain ⟨v0, v1, v2, v3, rfl⟩ := list4 hl
  simp [k1, k2] at e0 e1 e2 e3
  exact ⟨((a, b), (c, d)), by simp [e0, e1, e2, e3]⟩

set_option maxRecDepth 100000 in
/-- An argument that is a slice of points. -/
theorem open_pts {b0 : Nat} {v : Value} {d : DataW H} {p : List MemPlace}
    (hv : Value.okWide Try.prog W .any b0 22 v) (h : DataW.Trod enc Try.prog W base sp hd 22 v d p) :
    ∃ ps : List Pt, RdP W v ps := by
  obtain ⟨A, len, cap, rfl⟩ := okWide_slice Try.underlying22 hv
  obtain ⟨fuel, hf⟩ := h
  have k4 : Try.prog.cellsOf 73 = 4 := by kernel_rfl
  rcases Go.Deep.open_slice Try.underlying22 hf with ⟨hcs, -⟩ | ⟨a, len', cap', m, n, D, Pl, hcs, -, hl, hm, hmm, -, hx⟩
  · simp [Value.cells] at hcs
    obtain ⟨rfl, rfl, rfl⟩ := hcs
    exact ⟨[], none, 0, rfl, Nat.le_refl _, Nat.zero_le _, fun h => absurd rfl h⟩
  · simp [Value.cells] at hcs
    obtain ⟨rfl, rfl, rfl⟩ := hcs
    have hlm : len ≤ m := by rw [hmm]; split <;> omega
    have each : ∀ i, i < len → ∃ q : Pt, ∀ j, j < 4 → W.cell? ((a.add (i * 4)).add j) = [Value.int .i64 q.1.1, .int .i64 q.1.2, .int .i64 q.2.1, .int .i64 q.2.2][j]? := by
      intro i hi
      obtain ⟨cs', h1, h2⟩ := hx i (by omega)
      rw [k4] at h1
      obtain ⟨q, rfl⟩ := open_pt h2
      obtain ⟨_, _, hcell⟩ := World.cells?_some h1
      exact ⟨q, fun j hj => hcell j hj⟩
    obtain ⟨q, hq⟩ := Go.Deep.choose_lt each
    refine ⟨(List.range len).map q, some a, cap, by simp, by simpa using hl, hm, fun hne => ?_⟩
    have hp : 0 < len := by
      rcases Nat.eq_zero_or_pos len with h0 | h0
      · subst h0; simp at hne
      · exact h0
    obtain ⟨g, o, spot⟩ := a
    have h00 := hq 0 hp 0 (by omega)
    have hspot : spot = none := by simpa [Addr.add] using World.cell?_spot h00
    subst hspot
    simp only [Go.WideShapes.add_plain] at hq h00
    refine ⟨g, o, rfl, lt_of_cell (by simpa using h00), fun i x hi => ?_⟩
    have hil : i < len := by
      have := (List.getElem?_eq_some_iff.1 hi).1
      simpa using this
    have hxi : x = q i := by
      rw [List.getElem?_map, List.getElem?_range hil] at hi
      simpa using hi.symm
    subst hxi
    refine ⟨?_, ?_, ?_, ?_⟩
    · simpa using hq i hil 0 (by omega)
    · simpa using hq i hil 1 (by omega)
    · simpa using hq i hil 2 (by omega)
    · simpa using hq i hil 3 (by omega)
end

theorem szPointS_over (ps : List Pt) (v : Value) (left : Int) (w : World) (hv : RdP w v ps) (h : left ≤ 4611686018427387904) (h0 : 0 ≤ left) (hn : left < ps.length) :
    Calls Try.prog 22 #[v, .int .i64 left] w fun e w' => e = .returned (.int .i64 (-1)) ∧ w' = w := by
  obtain ⟨A, c, rfl, hl, hm, -⟩ := hv
  unfold maxLen at hm
  go_enter Try.func22, Try.ntmps22
  go_wp2_with fail
  go_ret
  exact ⟨rfl, rfl⟩

theorem szPointS_fits (ps : List Pt) (v : Value) (left : Int) (w : World) (hv : RdP w v ps) (h : left ≤ 4611686018427387904) (hn : ps.length ≤ left) :
    Calls Try.prog 22 #[v, .int .i64 left] w fun e w' => e = .returned (.int .i64 (left - ps.length)) ∧ w' = w := by
  obtain ⟨A, c, rfl, hl, hm, -⟩ := hv
  unfold maxLen at hm
  go_enter Try.func22, Try.ntmps22
  go_wp2_with fail
  go_ret
  exact ⟨rfl, rfl⟩

set_option maxHeartbeats 400000 in
theorem eqPoint_same (a b c d : Int) (w : World) :
    Calls Try.prog 76 #[.agg #[.int .i64 a, .int .i64 b, .int .i64 c, .int .i64 d], .agg #[.int .i64 a, .int .i64 b, .int .i64 c, .int .i64 d]] w fun e w' => e = .returned (.bool true) ∧ Below w.heap.size w w' := by
  go_enter Try.func76, Try.ntmps76
  go_wp2_with fail
  refine (eqRat_same a b _).mono ?_
  rintro e w1 ⟨rfl, hb⟩
  have c0 : w1.cell? ⟨w.heap.size, 2, none⟩ = some (.int .i64 c) := cellB hb (by simp [go_sem])
  have c1 : w1.cell? ⟨w.heap.size, 3, none⟩ = some (.int .i64 d) := cellB hb (by simp [go_sem])
  have c2 : w1.cell? ⟨w.heap.size + 1, 2, none⟩ = some (.int .i64 c) := cellB hb (by simp [go_sem])
  have c3 : w1.cell? ⟨w.heap.size + 1, 3, none⟩ = some (.int .i64 d) := cellB hb (by simp [go_sem])
  have hB : Below w.heap.size w w1 := nextB (by go_grown) (by go_size) hb
  clear hb
  go_wp2_with fail
  refine (eqRat_same c d _).mono ?_
  rintro e w2 ⟨rfl, hb⟩
  replace hB := nextW hB hb
  go_wp2_with fail
  go_ret
  exact ⟨rfl, hB⟩

end Go.Proofs.Ytkdhhopfefhdjaa
