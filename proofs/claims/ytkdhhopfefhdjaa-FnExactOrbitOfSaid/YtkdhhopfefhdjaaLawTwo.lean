/- What a law of two fractions needs: the two boxes, the cut behind a drawn statement that makes a fraction's variable, and how it is closed. -/
import Derived.Test.YtkdhhopfefhdjaaConv
import Derived.Test.YtkdhhopfefhdjaaRat3
import Derived.Deep.RegionHeld3
import Derived.Deep.DeepCutAuto
import Derived.Deep.DrawnRows
namespace Go.Proofs.Ytkdhhopfefhdjaa
open Go.ChangeShapes Go.WideShapes Go.ChangeAt Go.RowKit Go.Joins

/-- Two fractions in their boxes, and what has been done behind them. -/
def Box2 (w : World) (n1 d1 n2 d2 : Int) (w' : World) : Prop :=
  w'.cell? ⟨w.heap.size, 0, none⟩ = some (.int .i64 n1) ∧ w'.cell? ⟨w.heap.size, 1, none⟩ = some (.int .i64 d1) ∧ w'.cell? ⟨w.heap.size + 1, 0, none⟩ = some (.int .i64 n2) ∧ w'.cell? ⟨w.heap.size + 1, 1, none⟩ = some (.int .i64 d2)

theorem Box2.keep {w : World} {n1 d1 n2 d2 : Int} {X w1 : World} (k : Box2 w n1 d1 n2 d2 X) (hb : Below X.heap.size X w1) : Box2 w n1 d1 n2 d2 w1 :=
  ⟨cellB hb k.1, cellB hb k.2.1, cellB hb k.2.2.1, cellB hb k.2.2.2⟩
theorem Box2.start (w : World) (n1 d1 n2 d2 : Int) (t : TypeId) : Box2 w n1 d1 n2 d2 ((w.alloc (.cells #[.int .i64 n1, .int .i64 d1] t)).alloc (.cells #[.int .i64 n2, .int .i64 d2] t)) := by
  refine ⟨?_, ?_, ?_, ?_⟩ <;> simp [go_sem]
theorem Box2.lt {w : World} {n1 d1 n2 d2 : Int} {X : World} (k : Box2 w n1 d1 n2 d2 X) : w.heap.size + 1 < X.heap.size := lt_of_cell k.2.2.1
theorem Box2.alloc {w : World} {n1 d1 n2 d2 : Int} {X : World} (k : Box2 w n1 d1 n2 d2 X) (o : Obj) : Box2 w n1 d1 n2 d2 (X.alloc o) := k.keep ((Below.refl _ _).alloc (Nat.le_refl _) _)
theorem Box2.store {w : World} {n1 d1 n2 d2 : Int} {X : World} (k : Box2 w n1 d1 n2 d2 X) {g o : Nat} (v : Value) (hg : w.heap.size + 2 ≤ g) : Box2 w n1 d1 n2 d2 (X.setCell ⟨g, o, none⟩ v) := by
  refine ⟨?_, ?_, ?_, ?_⟩ <;> rw [World.cell?_setCell_other _ _ _ _ (by simp only [ne_eq, Addr.mk.injEq]; omega)]
  · exact k.1
  · exact k.2.1
  · exact k.2.2.1
  · exact k.2.2.2

/-- A block of two cells that was made just ahead of a call, or of the whole statement. -/
def Two (X : World) (g : Nat) : Prop := Slot X g 0 (.int .i64 0) ∧ Slot X g 1 (.int .i64 0)
theorem twoB {X w1 : World} {g : Nat} (hb : Below X.heap.size X w1) (h : Two X g) : Two w1 g := ⟨slotB hb h.1, slotB hb h.2⟩
theorem twoNew {X w1 : World} (ty : TypeId) (hb : Below (X.alloc (.cells #[.int .i64 0, .int .i64 0] ty)).heap.size (X.alloc (.cells #[.int .i64 0, .int .i64 0] ty)) w1) : Two w1 X.heap.size :=
  twoB hb ⟨(slotNew _ _ _ _).1, (slotNew _ _ _ _).2⟩
theorem twoNewD {X w1 : World} (ty : TypeId) (hb : Below (X.alloc (.cells #[.int .i64 0, .int .i64 0] ty)).drew.heap.size (X.alloc (.cells #[.int .i64 0, .int .i64 0] ty)).drew w1) : Two w1 X.heap.size :=
  twoB (X := (X.alloc (.cells #[.int .i64 0, .int .i64 0] ty)).drew) hb ⟨(slotNew X _ _ _).1, (slotNew X _ _ _).2⟩
theorem twoNew2 {X w1 : World} {o1 o2 : Obj} (ty : TypeId) (hb : Below (((X.alloc o1).alloc o2).alloc (.cells #[.int .i64 0, .int .i64 0] ty)).drew.heap.size (((X.alloc o1).alloc o2).alloc (.cells #[.int .i64 0, .int .i64 0] ty)).drew w1) : Two w1 (X.heap.size + 2) := by
  have h := twoNewD ty hb
  simpa using h

/-- A variable that holds a fraction. -/
def HoldsQ (wx : World) (s : Value) (lo : Nat) (a b : Int) : Prop := ∃ g, s = .pointer (some ⟨g, 0, none⟩) ∧ lo ≤ g ∧ Slot wx g 0 (.int .i64 a) ∧ Slot wx g 1 (.int .i64 b)

def Cut1 (w : World) (n1 d1 n2 d2 a b : Int) (t : Bool) (s5 s6 : Value) (wx : World) : Prop :=
  HoldsQ wx s5 (w.heap.size + 2) a b ∧ s6 = .bool t ∧ Box2 w n1 d1 n2 d2 wx ∧ Below w.heap.size w wx

theorem Cut1.stored {w : World} {n1 d1 n2 d2 a b : Int} {t : Bool} {X : World} {g : Nat} {u v : Value} (s0 : Slot X g 0 u) (s1 : Slot X g 1 v) (hg : w.heap.size + 2 ≤ g) (k : Box2 w n1 d1 n2 d2 X) (hB : Below w.heap.size w X) :
    Cut1 w n1 d1 n2 d2 a b t (.pointer (some ⟨g, 0, none⟩)) (.bool t) ((X.setCell ⟨g, 0, none⟩ (.int .i64 a)).setCell ⟨g, 1, none⟩ (.int .i64 b)) :=
  ⟨⟨g, rfl, hg, slotS (slotN s0) (by simp), slotN (slotS s1 (by simp))⟩, rfl, (k.store _ hg).store _ hg, (hB.setCell (by show _ ≤ g; omega) _).setCell (by show _ ≤ g; omega) _⟩
theorem Cut1.made {w : World} {n1 d1 n2 d2 a b : Int} {t : Bool} {X : World} {ty : TypeId} (k : Box2 w n1 d1 n2 d2 X) (hB : Below w.heap.size w X) :
    Cut1 w n1 d1 n2 d2 a b t (.pointer (some ⟨X.heap.size, 0, none⟩)) (.bool t) (X.alloc (.cells #[.int .i64 a, .int .i64 b] ty)) :=
  ⟨⟨X.heap.size, rfl, by have := k.lt; omega, (slotNew _ _ _ _).1, (slotNew _ _ _ _).2⟩, rfl, k.alloc _, hB.alloc hB.size _⟩

/-- .. with the reference's result beside them. -/
def Box2G (w : World) (n1 d1 n2 d2 : Int) (g : Nat) (a b : Int) (w' : World) : Prop := Box2 w n1 d1 n2 d2 w' ∧ Slot w' g 0 (.int .i64 a) ∧ Slot w' g 1 (.int .i64 b)
section
variable {w : World} {n1 d1 n2 d2 : Int} {g : Nat} {a b : Int} {X w1 : World}
theorem Box2G.keep (k : Box2G w n1 d1 n2 d2 g a b X) (hb : Below X.heap.size X w1) : Box2G w n1 d1 n2 d2 g a b w1 := ⟨k.1.keep hb, slotB hb k.2.1, slotB hb k.2.2⟩
theorem Box2G.keepD (k : Box2G w n1 d1 n2 d2 g a b X) (hb : Below X.drew.heap.size X.drew w1) : Box2G w n1 d1 n2 d2 g a b w1 := Box2G.keep (X := X.drew) k hb
theorem Box2G.alloc (k : Box2G w n1 d1 n2 d2 g a b X) (o : Obj) : Box2G w n1 d1 n2 d2 g a b (X.alloc o) := k.keep ((Below.refl _ _).alloc (Nat.le_refl _) _)
theorem Box2G.lt (k : Box2G w n1 d1 n2 d2 g a b X) : w.heap.size + 1 < X.heap.size ∧ g < X.heap.size := ⟨k.1.lt, lt_of_cell k.2.1.1⟩
def Cut2 (w : World) (g : Nat) (a b : Int) (t : Bool) (s7 s8 : Value) (wx : World) : Prop :=
  (∃ g', s7 = .pointer (some ⟨g', 0, none⟩) ∧ g < g' ∧ Slot wx g' 0 (.int .i64 a) ∧ Slot wx g' 1 (.int .i64 b)) ∧ s8 = .bool t ∧ Slot wx g 0 (.int .i64 a) ∧ Slot wx g 1 (.int .i64 b) ∧ Below w.heap.size w wx
theorem Cut2.stored {t : Bool} {g' : Nat} {u v : Value} (s0 : Slot X g' 0 u) (s1 : Slot X g' 1 v) (hg : w.heap.size + 2 ≤ g') (hgg : g < g') (k : Box2G w n1 d1 n2 d2 g a b X) (hB : Below w.heap.size w X) :
    Cut2 w g a b t (.pointer (some ⟨g', 0, none⟩)) (.bool t) ((X.setCell ⟨g', 0, none⟩ (.int .i64 a)).setCell ⟨g', 1, none⟩ (.int .i64 b)) :=
  ⟨⟨g', rfl, hgg, slotS (slotN s0) (by simp), slotN (slotS s1 (by simp))⟩, rfl, slotS (slotS k.2.1 (by intro e; cases e; omega)) (by intro e; cases e), slotS (slotS k.2.2 (by intro e; cases e)) (by intro e; cases e; omega), (hB.setCell (by show _ ≤ g'; omega) _).setCell (by show _ ≤ g'; omega) _⟩
theorem Cut2.made {t : Bool} {ty : TypeId} (k : Box2G w n1 d1 n2 d2 g a b X) (hB : Below w.heap.size w X) :
    Cut2 w g a b t (.pointer (some ⟨X.heap.size, 0, none⟩)) (.bool t) (X.alloc (.cells #[.int .i64 a, .int .i64 b] ty)) :=
  ⟨⟨X.heap.size, rfl, k.lt.2, (slotNew _ _ _ _).1, (slotNew _ _ _ _).2⟩, rfl, slotA _ k.2.1, slotA _ k.2.2, hB.alloc hB.size _⟩
end

end Go.Proofs.Ytkdhhopfefhdjaa
