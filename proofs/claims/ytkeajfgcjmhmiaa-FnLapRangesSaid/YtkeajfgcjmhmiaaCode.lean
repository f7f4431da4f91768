/- A drawn law's arguments: slices of bytes; its test on their lengths; pLess. -/
import Derived.Test.YtkeajfgcjmhmiaaCur
import Derived.Test.YtkeajfgcjmhmiaaLaws
namespace Go.Proofs.Ytkeajfgcjmhmiaa
open Go.ChangeShapes Go.WideShapes Go.ChangeAt Go.RowKit Go.Joins

section
variable {H : Type} {enc : TypeId × Value → H}
set_option maxRecDepth 100000 in
/-- An argument that is a slice of bytes. -/
theorem open_code {W : World} {base b0 : Nat} {v : Value} {d : DataW H} {p : List MemPlace} (hv : Value.okWide Try.prog W .any b0 22 v) (h : DataW.Trod enc Try.prog W base (fun _ => true) true 22 v d p) :
    ∃ bs : List Int, RdN .u8 W v bs ∧ ∀ x ∈ bs, 0 ≤ x ∧ x ≤ 255 := by
  obtain ⟨a1, len, cap, rfl⟩ := okWide_slice (by kernel_rfl : Try.prog.underlying 22 = some (.slice 5)) hv
  obtain ⟨fuel, hf⟩ := h
  rcases open_ints (by kernel_rfl : Try.prog.underlying 22 = some (.slice 5)) (by kernel_rfl : Try.prog.underlying 5 = some (.int .u8)) (by kernel_rfl : Try.prog.cellsOf 5 = 1) hf with ⟨hcs, hx⟩ | ⟨a, len', cap', zs, hcs, _, hl, hm, hz, hx, hcell, hwz⟩
  · simp [Value.cells] at hcs
    obtain ⟨rfl, rfl, rfl⟩ := hcs
    exact ⟨[], ⟨none, 0, rfl, Nat.le_refl _, Nat.zero_le _, fun h => absurd rfl h⟩, fun x hx => by simp at hx⟩
  · simp [Value.cells] at hcs
    obtain ⟨rfl, rfl, rfl⟩ := hcs
    simp only [if_true] at hz
    have hlen : (zs.take len).length = len := by simp; omega
    refine ⟨zs.take len, ⟨some a, cap, by rw [hlen], by rw [hlen]; exact hl, hm, fun hne => ?_⟩, fun x hx => ?_⟩
    · have hp : 0 < len := by
        rcases Nat.eq_zero_or_pos len with h0 | h0
        · subst h0; simp at hne
        · exact h0
      obtain ⟨g, o, spot⟩ := a
      have h00 := hcell 0 (by omega)
      have hspot : spot = none := by simpa [Addr.add] using World.cell?_spot h00
      subst hspot
      simp only [Go.WideShapes.add_plain] at hcell h00
      refine ⟨g, o, rfl, lt_of_cell h00, fun i x hi => ?_⟩
      have hil : i < len := by
        have := (List.getElem?_eq_some_iff.1 hi).1
        omega
      rw [List.getElem?_take_of_lt hil] at hi
      have := hcell i (by omega)
      rw [List.getD_eq_getElem?_getD, hi] at this
      simpa using this
    · obtain ⟨i, hi⟩ := List.getElem?_of_mem (List.mem_of_mem_take hx)
      have := range_u8 hwz i
      rw [hi] at this
      simp at this
      omega
end



end Go.Proofs.Ytkeajfgcjmhmiaa
