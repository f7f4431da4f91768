/- Drawn maps out of bytes: DrawIsMap and its like, DrawValueAt, DrawPointsBefore. -/
import Derived.Test.YtkeajfgcjmhmiaaDrO
namespace Go.Proofs.Ytkeajfgcjmhmiaa
open Go.RowKit

theorem RdN.codeF {w : World} {v : Value} {bs : List Int} (h : RdN .u8 w v bs) (hb : ∀ x ∈ bs, 0 ≤ x ∧ x ≤ 255) {W : World} (hX : Below w.heap.size w W) {g : Nat} (hg : w.heap.size ≤ g) : Code g W v :=
  ⟨bs, h.keep hX, hb, fun hne b o n c he => by
    obtain ⟨A, c2, rfl, _, _, h3⟩ := h
    obtain ⟨b2, o2, rfl, hlt, _⟩ := h3 hne
    injection he with h1 _ _
    injection h1 with h1
    injection h1 with h1
    omega⟩
/-- A row of points, of the call's own. -/
def RowEnd (w : World) (e : Ending) (w' : World) : Prop := ∃ (r : Value) (ps : List Pt), e = .returned r ∧ OwP w.heap.size 43 w' r ps ∧ ps.length ≤ 62 ∧ Below w.heap.size w w'
/-- .. and a fraction. -/
def RowRat (w : World) (e : Ending) (w' : World) : Prop := ∃ (r : Value) (ps : List Pt) (a b : Int), e = .returned (.tuple #[r, .agg #[.int .i64 a, .int .i64 b]]) ∧ OwP w.heap.size 43 w' r ps ∧ ps.length ≤ 62 ∧ Below w.heap.size w w'

set_option maxRecDepth 100000 in
set_option maxHeartbeats 1600000 in
theorem drawIsMap_is (v : Value) (bs : List Int) (w : World) (hv : RdN .u8 w v bs) (hb : ∀ x ∈ bs, 0 ≤ x ∧ x ≤ 255) :
    Calls Try.prog 18 #[v] w (RowEnd w) := by
  have HV := Lib.hid hv
  have HBs := Lib.hid hb
  obtain ⟨A, cv, rfl, hl, hm, hcell⟩ := hv
  clear hb hcell
  go_enter Try.func18, Try.ntmps18
  go_wp2_with fail
  refine (anyIm_is w.heap.size _ 0 _ ⟨⟨by simp [go_sem], by simp [go_sem]⟩, ⟨0, Nat.le_refl _, by simp [go_sem], by simp [go_sem]⟩, 0, by omega, by omega, by simp [go_sem], by simp [go_sem]⟩ (HV.out.codeF HBs.out (by go_grown) (by omega)) (by omega)).mono ?_
  rintro e w1 ⟨r, ps, rfl, hr, hpl, hc, hb⟩
  have hB1 : Below w.heap.size w w1 := But.below (by go_grown : Below w.heap.size w _) hb (by omega) (by go_size)
  have HR := Lib.hid (hr.low (b := w.heap.size) (by go_size))
  clear hc hb hr
  go_wp2_with fail
  go_ret
  exact ⟨_, ps, rfl, HR.out, hpl, hB1⟩


set_option maxRecDepth 100000 in
set_option maxHeartbeats 1600000 in
theorem drawLaps_is (v : Value) (bs : List Int) (w : World) (hv : RdN .u8 w v bs) (hb : ∀ x ∈ bs, 0 ≤ x ∧ x ≤ 255) :
    Calls Try.prog 4 #[v] w (RowEnd w) := by
  have HV := Lib.hid hv
  obtain ⟨A, cv, rfl, hl, hm, hcell⟩ := hv
  clear hcell
  go_enter Try.func4, Try.ntmps4
  go_wp2_with fail
  refine (drawIsMap_is _ bs _ (HV.out.keep (by go_grown)) hb).mono ?_
  rintro e w1 ⟨r, ps, rfl, hr, hpl, h1⟩
  have hB : Below w.heap.size w w1 := nextX (by go_grown) h1
  clear h1
  go_wp2_with fail
  go_ret
  exact ⟨_, ps, rfl, hr.low (by go_size), hpl, hB⟩



end Go.Proofs.Ytkeajfgcjmhmiaa
