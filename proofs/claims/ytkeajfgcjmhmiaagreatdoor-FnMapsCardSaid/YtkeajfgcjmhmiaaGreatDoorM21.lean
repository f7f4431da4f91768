/- Drawn maps with a place: orbiter. · Drawn maps out of bytes: DrawIsMap and its like, DrawValueAt, DrawPointsBefore. -/
import Derived.Test.YtkeajfgcjmhmiaaGreatDoorM20
namespace Go.Proofs.YtkeajfgcjmhmiaaGreatDoor
open Go.RowKit

theorem OwP.setO {b k o : Nat} {e : TypeId} {w : World} {u : Value} {ps : List Pt} (h : OwP b e w u ps) (hk : u.ownBlock ≠ some k) {x : Value} : OwP b e (w.setCell ⟨k, o, none⟩ x) u ps := h.keepU (But.setCell (But.refl k w) x) hk
end Go.Proofs.YtkeajfgcjmhmiaaGreatDoor

namespace Go.Proofs.YtkeajfgcjmhmiaaGreatDoor
open Go.RowKit

theorem RdN.codeF {w : World} {v : Value} {bs : List Int} (h : RdN .u8 w v bs) (hb : ∀ x ∈ bs, 0 ≤ x ∧ x ≤ 255) {W : World} (hX : Below w.heap.size w W) {g : Nat} (hg : w.heap.size ≤ g) : Code g W v :=
  ⟨bs, h.keep hX, hb, fun hne b o n c he => by
    obtain ⟨A, c2, rfl, _, _, h3⟩ := h
    obtain ⟨b2, o2, rfl, hlt, _⟩ := h3 hne
    injection he with h1 _ _
    injection h1 with h1
    injection h1 with h1
    omega⟩
/-- A row of points, of the call's own. -/
def RowEnd (w : World) (e : Ending) (w' : World) : Prop := ∃ (r : Value) (ps : List Pt), e = .returned r ∧ OwP w.heap.size 41 w' r ps ∧ ps.length ≤ 62 ∧ Below w.heap.size w w'
/-- .. and a fraction. -/
def RowRat (w : World) (e : Ending) (w' : World) : Prop := ∃ (r : Value) (ps : List Pt) (a b : Int), e = .returned (.tuple #[r, .agg #[.int .i64 a, .int .i64 b]]) ∧ OwP w.heap.size 41 w' r ps ∧ ps.length ≤ 62 ∧ Below w.heap.size w w'

set_option maxRecDepth 100000 in
set_option maxHeartbeats 1600000 in
theorem drawValueAt_is (v : Value) (bs : List Int) (w : World) (hv : RdN .u8 w v bs) (hb : ∀ x ∈ bs, 0 ≤ x ∧ x ≤ 255) :
    Calls Tryz.prog 14 #[v] w (RowRat w) := by
  have HV := Lib.hid hv
  have HBs := Lib.hid hb
  obtain ⟨A, cv, rfl, hl, hm, hcell⟩ := hv
  clear hb hcell
  go_enter Tryz.func14, Tryz.ntmps14
  go_wp2_with fail
  refine (anyIm_is (w.heap.size + 1) _ 0 _ ⟨⟨by simp [go_sem], by simp [go_sem]⟩, ⟨0, Nat.le_refl _, by simp [go_sem], by simp [go_sem]⟩, 0, by omega, by omega, by simp [go_sem], by simp [go_sem]⟩ (HV.out.codeF HBs.out (by go_grown) (by omega)) (by omega)).mono ?_
  rintro e w1 ⟨r, ps, rfl, hr, hpl, hc, hb⟩
  have q0 : Slot w1 w.heap.size 0 (.int .i64 0) := slotU hb (by omega) ⟨by simp [go_sem], by simp [go_sem]⟩
  have q1 : Slot w1 w.heap.size 1 (.int .i64 0) := slotU hb (by omega) ⟨by simp [go_sem], by simp [go_sem]⟩
  have hB1 : Below w.heap.size w w1 := But.below (by go_grown : Below w.heap.size w _) hb (by omega) (by go_size)
  have HR1 := Lib.hid (hr.low (b := w.heap.size + 1 + 1) (by first | go_size | (simp; done) | (simp; omega)))
  have HD1 := Lib.hid (DS.start hc (Code.keepU (HV.out.codeF HBs.out (by go_grown) (by omega)) hb))
  clear hc hb hr
  have gl1 := HD1.out.lt
  have zw1 := hB1.size
  have hrb : ∀ b, r.ownBlock = some b → b ≠ w.heap.size + 1 := fun b hb => by have := HR1.out.blk b hb; omega
  go_wp2_with fail
  refine (xOf_is (w.heap.size + 1) _ _ (w.heap.size + 1 + 1) _ ps _ (HD1.out.cur.keep (by go_grown)) (HD1.out.code.keep (by go_grown)) (OwP.keep HR1.out (by go_grown)) (by omega) (by omega) (by omega)).mono ?_
  rintro e w2 ⟨a, b, rfl, hc, hb⟩
  have HD2 := Lib.hid (HD1.out.step (by go_grown) hc hb)
  have HR2 := Lib.hid ((HR1.out.keep (w' := w1) (Below.refl _ _)).keepU hb (fun h => hrb _ h rfl))
  replace q0 := DS.slot (by go_grown) hb (by omega) q0
  replace q1 := DS.slot (by go_grown) hb (by omega) q1
  have zq := lt_of_cell q0.1
  clear hc hb
  obtain ⟨p0, f0⟩ := q0
  obtain ⟨p1, f1⟩ := q1
  go_wp2_with fail
  refine bodyPost_ret (v := .tuple #[_, .agg #[.int .i64 a, .int .i64 b]]) (by first | (simp [results, Tryz.results14, go_sem, p0, p1]; rfl) | (simp [results, Tryz.results14, go_sem, p0, p1, zq]; rfl)) rfl ⟨_, ps, a, b, rfl, ?_, hpl, ?_⟩
  · exact (OwP.setO (OwP.setO HR2.out (fun h => by have := HR2.out.blk _ h; omega)) (fun h => by have := HR2.out.blk _ h; omega)).low (by omega)
  · have hBw : Below w.heap.size w w2 := But.below hB1 HD2.out.but (by omega) (by omega)
    go_grown

end Go.Proofs.YtkeajfgcjmhmiaaGreatDoor
