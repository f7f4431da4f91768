/- Small laws that all walks of this seat use: what a callee that changes nothing of what was there leaves behind. -/
import Derived.Test.YtkdhhopfefhdjaaRows
import Derived.WalkKit
import Derived.WalkSpells
import Derived.BigQuiet
import Derived.Deep.QuietTactic
import Derived.RegionTactic
import Derived.Outline
import Derived.Handy
import Derived.Lib.Hide
namespace Go.Proofs.Ytkdhhopfefhdjaa
open Go.RowKit

theorem ret_int {k : IntKind} {a b : Int} (h : a = b) : Ending.returned (.int k a) = .returned (.int k b) := by rw [h]
theorem ret_bool {a b : Bool} (h : a = b) : Ending.returned (.bool a) = .returned (.bool b) := by rw [h]
theorem bcell {W w1 : World} (hb : Below W.heap.size W w1) : (∀ b o, b < W.heap.size → w1.cell? ⟨b, o, none⟩ = W.cell? ⟨b, o, none⟩) ∧ (∀ b o, b < W.heap.size → w1.frozen? ⟨b, o, none⟩ = W.frozen? ⟨b, o, none⟩) :=
  ⟨fun b o h => hb.cell (p := ⟨b, o, none⟩) h, fun b o h => hb.frozen (p := ⟨b, o, none⟩) h⟩
theorem below_drewN {B : Nat} {a w : World} (h : Below B a w) (n : Nat) : Below B a (w.drewN n) := ⟨h.os, h.tape, h.output, h.size, h.block⟩

/-- One more callee behind what has been done. -/
theorem nextB {B : Nat} {w X w1 : World} (h : Below B w X) (hB : B ≤ X.heap.size) (hb : Below X.heap.size X w1) : Below B w w1 := h.trans (hb.mono hB)
theorem nextW {w X w1 : World} (h : Below w.heap.size w X) (hb : Below X.heap.size X w1) : Below w.heap.size w w1 := h.trans (hb.mono h.size)

theorem lt_of_cell {W : World} {b o : Nat} {v : Value} (h : W.cell? ⟨b, o, none⟩ = some v) : b < W.heap.size := by
  rcases Nat.lt_or_ge b W.heap.size with h1 | h1
  · exact h1
  · simp [World.cell?, Array.getElem?_eq_none h1] at h

/-- A cell that may be read and written. -/
def Slot (w : World) (b o : Nat) (v : Value) : Prop := w.cell? ⟨b, o, none⟩ = some v ∧ w.frozen? ⟨b, o, none⟩ = false
theorem cellB {W w1 : World} {b o : Nat} {v : Value} (hb : Below W.heap.size W w1) (h : W.cell? ⟨b, o, none⟩ = some v) : w1.cell? ⟨b, o, none⟩ = some v :=
  (hb.cell (p := ⟨b, o, none⟩) (lt_of_cell h)).trans h
theorem slotB {W w1 : World} {b o : Nat} {v : Value} (hb : Below W.heap.size W w1) (h : Slot W b o v) : Slot w1 b o v :=
  ⟨cellB hb h.1, (hb.frozen (p := ⟨b, o, none⟩) (lt_of_cell h.1)).trans h.2⟩

theorem cellA {X : World} {b o : Nat} {v : Value} (ob : Obj) (h : X.cell? ⟨b, o, none⟩ = some v) : (X.alloc ob).cell? ⟨b, o, none⟩ = some v := cellB ((Below.refl _ _).alloc (Nat.le_refl _) _) h
theorem slotA {X : World} {b o : Nat} {v : Value} (ob : Obj) (h : Slot X b o v) : Slot (X.alloc ob) b o v := slotB ((Below.refl _ _).alloc (Nat.le_refl _) _) h
theorem slotS {X : World} {b o : Nat} {v : Value} {g i : Nat} {u : Value} (h : Slot X b o v) (hne : (g, i) ≠ (b, o)) : Slot (X.setCell ⟨g, i, none⟩ u) b o v := by
  refine ⟨?_, ?_⟩
  · rw [World.cell?_setCell_other _ _ _ _ (by intro e; cases e; exact hne rfl)]; exact h.1
  · have := h.2; simpa [go_sem] using this
theorem slotN {X : World} {b o : Nat} {v u : Value} (h : Slot X b o v) : Slot (X.setCell ⟨b, o, none⟩ u) b o u := by
  refine ⟨World.cell?_setCell_same _ _ _ h.1, ?_⟩
  have := h.2; simpa [go_sem] using this
theorem slotNew (X : World) (a b : Value) (t : TypeId) : Slot (X.alloc (.cells #[a, b] t)) X.heap.size 0 a ∧ Slot (X.alloc (.cells #[a, b] t)) X.heap.size 1 b :=
  ⟨⟨by simp [go_sem], by simp [go_sem]⟩, by simp [go_sem], by simp [go_sem]⟩

end Go.Proofs.Ytkdhhopfefhdjaa
