/- A drawn law's arguments: slices of bytes; its test on their lengths; pLess. -/
import Derived.Test.YtkeajfgcjmhmiaaGreatCur
import Derived.Test.YtkeajfgcjmhmiaaGreatLaws
namespace Go.Proofs.YtkeajfgcjmhmiaaGreat
open Go.ChangeShapes Go.WideShapes Go.ChangeAt Go.RowKit Go.Joins

section
variable {H : Type} {enc : TypeId × Value → H}
set_option maxRecDepth 100000 in
/-- An argument that is a slice of bytes. -/
theorem open_code {W : World} {base b0 : Nat} {v : Value} {d : DataW H} {p : List MemPlace} (hv : Value.okWide Tryz.prog W .any b0 22 v) (h : DataW.Trod enc Tryz.prog W base (fun _ => true) true 22 v d p) :
    ∃ bs : List Int, RdN .u8 W v bs ∧ ∀ x ∈ bs, 0 ≤ x ∧ x ≤ 255 := by
  obtain ⟨a1, len, cap, rfl⟩ := okWide_slice (by kernel_rfl : Tryz.prog.underlying 22 = some (.slice 5)) hv
  obtain ⟨fuel, hf⟩ := h
  rcases open_ints (by kernel_rfl : Tryz.prog.underlying 22 = some (.slice 5)) (by kernel_rfl : Tryz.prog.underlying 5 = some (.int .u8)) (by kernel_rfl : Tryz.prog.cellsOf 5 = 1) hf with ⟨hcs, hx⟩ | ⟨a, len', cap', zs, hcs, _, hl, hm, hz, hx, hcell, hwz⟩
  · simp [Value.cells] at hcs
    obtain ⟨rfl, rfl, rfl⟩ := hcs
    exact ⟨[], ⟨none, 0, rfl, Nat.le_refl _, Nat.zero_le _, fun h => absurd rfl h⟩, fun x hx => by simp at hx⟩
  · simp [Value.cells] at hcs
    obtain ⟨rfl, rfl, rfl⟩ := hcs
    simp only [if_true] at hz
    have hlen : (zs.take len).length = len := by simp; omega
    refine ⟨zs.take len, ⟨some a, cap, by rw [hlen], by rw [hlen]; exact hl, hm, fun hne => ?_⟩, fun x hx => ?_⟩
    · have hp : 0 < len := by
        rcases Nat.eq_zero_or_pos len with h0 | h0
        · subst h0; simp at hne
        · exact h0
      obtain ⟨g, o, spot⟩ := a
      have h00 := hcell 0 (by omega)
      have hspot : spot = none := by simpa [Addr.add] using World.cell?_spot h00
      subst hspot
      simp only [Go.WideShapes.add_plain] at hcell h00
      refine ⟨g, o, rfl, lt_of_cell h00, fun i x hi => ?_⟩
      have hil : i < len := by
        have := (List.getElem?_eq_some_iff.1 hi).1
        omega
      rw [List.getElem?_take_of_lt hil] at hi
      have := hcell i (by omega)
      rw [List.getD_eq_getElem?_getD, hi] at this
      simpa using this
    · obtain ⟨i, hi⟩ := List.getElem?_of_mem (List.mem_of_mem_take hx)
      have := range_u8 hwz i
      rw [hi] at this
      simp at this
      omega
end

def bigB (n m : Nat) : Bool := decide (1048576 < n) || decide ((1048576 : Int) - n < m)
set_option maxHeartbeats 800000 in
theorem big_is (v u : Value) (bs cs : List Int) (w : World) (hv : RdN .u8 w v bs) (hu : RdN .u8 w u cs) :
    Calls Tryz.prog 7 #[v, u] w fun e w' => e = .returned (.bool (bigB bs.length cs.length)) ∧ Below w.heap.size w w' := by
  obtain ⟨A, c, rfl, hl, hm, -⟩ := hv
  obtain ⟨A2, c2, rfl, hl2, hm2, -⟩ := hu
  unfold maxLen at hm hm2
  by_cases h : 1048576 < bs.length
  · have HB := Lib.hid (show bigB bs.length cs.length = true by unfold bigB; rw [decide_eq_true h]; rfl)
    have b0 : (1048576 : Int) < (bs.length : Int) := by omega
    go_enter Tryz.func7, Tryz.ntmps7
    go_wp2_with fail
    go_ret
    exact ⟨by rw [HB.out]; rfl, Below.refl _ _⟩
  · have HB := Lib.hid (show bigB bs.length cs.length = decide ((1048576 : Int) - bs.length < cs.length) by unfold bigB; rw [decide_eq_false h]; rfl)
    have b0 : ¬ (1048576 : Int) < (bs.length : Int) := by omega
    have b0' : decide ((1048576 : Int) < (bs.length : Int)) = false := by simpa using b0
    have v1 : IntKind.i64.wrap ((1048576 : Int) - bs.length) = (1048576 : Int) - bs.length := IntWalk.i64_in _ (by omega)
    go_enter Tryz.func7, Tryz.ntmps7
    go_wp2_with fail
    go_ret
    exact ⟨by rw [HB.out]; rfl, Below.refl _ _⟩

set_option maxHeartbeats 800000 in
theorem pLess_is (n1 d1 n2 d2 : Int) (s1 : Sm n1 ∧ Sm d1) (s2 : Sm n2 ∧ Sm d2) (w : World) :
    Calls Tryz.prog 33 #[.agg #[.int .i64 n1, .int .i64 d1], .agg #[.int .i64 n2, .int .i64 d2]] w fun e w' => e = .returned (.bool (lessQ n1 d1 n2 d2)) ∧ Below w.heap.size w w' := by
  have m1 := s1.1.mul s2.2
  have m2 := s2.1.mul s1.2
  have v1 : IntKind.i64.wrap (n1 * d2) = n1 * d2 := IntWalk.i64_in _ (by omega)
  have v2 : IntKind.i64.wrap (n2 * d1) = n2 * d1 := IntWalk.i64_in _ (by omega)
  have HL := Lib.hid (show lessQ n1 d1 n2 d2 = decide (n1 * d2 < n2 * d1) from rfl)
  clear s1 s2
  go_enter Tryz.func33, Tryz.ntmps33
  go_wp2_with fail
  go_ret
  exact ⟨by rw [HL.out]; rfl, by go_grown⟩

end Go.Proofs.YtkeajfgcjmhmiaaGreat
