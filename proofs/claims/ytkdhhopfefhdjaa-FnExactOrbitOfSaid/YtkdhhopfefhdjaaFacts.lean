/- Facts on cells as one list, carried over what makes memory. -/
import Derived.Test.YtkdhhopfefhdjaaLine
import Derived.Lib.ItoaWalk
import Derived.Deep.DeepCutAuto
namespace Go.Proofs.Ytkdhhopfefhdjaa
open Go.RowKit

/-- Cells and what they hold. -/
def Facts : List (Nat × Nat × Value) → World → Prop
  | [], _ => True
  | x :: [], W => W.cell? ⟨x.1, x.2.1, none⟩ = some x.2.2
  | x :: y :: r, W => W.cell? ⟨x.1, x.2.1, none⟩ = some x.2.2 ∧ Facts (y :: r) W

theorem Facts.keep : ∀ {L : List (Nat × Nat × Value)} {W w1 : World}, Facts L W → Below W.heap.size W w1 → Facts L w1
  | [], _, _, _, _ => trivial
  | _ :: [], _, _, h, hb => cellB hb h
  | _ :: _ :: _, _, _, h, hb => ⟨cellB hb h.1, Facts.keep h.2 hb⟩
theorem Facts.keepU {g : Nat} : ∀ {L : List (Nat × Nat × Value)} {W w1 : World}, Facts L W → But g W w1 → (∀ x ∈ L, x.1 ≠ g) → Facts L w1
  | [], _, _, _, _, _ => trivial
  | x :: [], _, _, h, hb, hn => cellU hb (hn x (by simp)) h
  | x :: y :: r, _, _, h, hb, hn => ⟨cellU hb (hn x (by simp)) h.1, Facts.keepU h.2 hb (fun z hz => hn z (List.mem_cons_of_mem _ hz))⟩

theorem Facts.ltB {lo : Nat} : ∀ {L : List (Nat × Nat × Value)} {W : World}, Facts L W → W.heap.size ≤ lo → ∀ x ∈ L, x.1 < lo
  | [], _, _, _, _, hx => absurd hx (by simp)
  | a :: [], _, h, hl, x, hx => by
    obtain rfl : x = a := by simpa using hx
    exact Nat.lt_of_lt_of_le (lt_of_cell h) hl
  | a :: b :: r, _, h, hl, x, hx => by
    rcases List.mem_cons.1 hx with e | e
    · subst e; exact Nat.lt_of_lt_of_le (lt_of_cell h.1) hl
    · exact Facts.ltB h.2 hl x e
theorem below_but {B g : Nat} {w0 w w' : World} (hB : Below B w0 w) (h : But g w w') (hg : B ≤ g) (hs : B ≤ w0.heap.size := by exact Nat.le_refl _) : Below B w0 w' := But.below hB h hg (Nat.le_trans hs hB.size)

/-- .. over stores into other blocks than those of the facts. -/
theorem Facts.put {g o : Nat} {u : Value} : ∀ {L : List (Nat × Nat × Value)} {W : World}, Facts L W → (∀ x ∈ L, x.1 ≠ g) → Facts L (W.setCell ⟨g, o, none⟩ u)
  | [], _, _, _ => trivial
  | x :: [], W, h, hn => (World.cell?_setCell_other W ⟨g, o, none⟩ ⟨x.1, x.2.1, none⟩ u (by intro e; cases e; exact hn x (by simp) rfl)).trans h
  | x :: y :: r, W, h, hn => ⟨(World.cell?_setCell_other W ⟨g, o, none⟩ ⟨x.1, x.2.1, none⟩ u (by intro e; cases e; exact hn x (by simp) rfl)).trans h.1, Facts.put h.2 (fun z hz => hn z (List.mem_cons_of_mem _ hz))⟩

theorem cellX {W X w1 : World} {b o : Nat} {v : Value} (hX : Below W.heap.size W X) (hb : Below X.heap.size X w1) (h : W.cell? ⟨b, o, none⟩ = some v) : w1.cell? ⟨b, o, none⟩ = some v := cellB hb (cellB hX h)
theorem slotX {W X w1 : World} {b o : Nat} {v : Value} (hX : Below W.heap.size W X) (hb : Below X.heap.size X w1) (h : Slot W b o v) : Slot w1 b o v := slotB hb (slotB hX h)
/-- One more callee, from a world that has a name. -/
theorem nextX {W X w1 : World} (hX : Below W.heap.size W X) (hb : Below X.heap.size X w1) : Below W.heap.size W w1 := nextW hX hb

/-- A variable that holds a fraction: a block of its own. -/
def VarQ (wx : World) (s : Value) (lo : Nat) (a b : Int) : Prop := ∃ g, s = .pointer (some ⟨g, 0, none⟩) ∧ lo ≤ g ∧ Slot wx g 0 (.int .i64 a) ∧ Slot wx g 1 (.int .i64 b)
theorem VarQ.made {X : World} {lo : Nat} (hlo : lo ≤ X.heap.size) (a b : Int) (ty : TypeId) : VarQ (X.alloc (.cells #[.int .i64 a, .int .i64 b] ty)) (.pointer (some ⟨X.heap.size, 0, none⟩)) lo a b :=
  ⟨_, rfl, hlo, (slotNew _ _ _ _).1, (slotNew _ _ _ _).2⟩
theorem VarQ.stored {X : World} {g lo : Nat} {u v : Value} (s0 : Slot X g 0 u) (s1 : Slot X g 1 v) (hlo : lo ≤ g) (a b : Int) : VarQ ((X.setCell ⟨g, 0, none⟩ (.int .i64 a)).setCell ⟨g, 1, none⟩ (.int .i64 b)) (.pointer (some ⟨g, 0, none⟩)) lo a b :=
  ⟨g, rfl, hlo, slotS (slotN s0) (by simp), slotN (slotS s1 (by simp))⟩

/-- A block of two cells that was made just ahead of a call (or was not): what is known of it behind it. -/
def Fresh2 (g : Nat) (w1 : World) : Prop := Slot w1 g 0 (.int .i64 0) ∧ Slot w1 g 1 (.int .i64 0)
theorem fresh2 {X w1 : World} {ty : TypeId} (hb : Below (X.alloc (.cells #[.int .i64 0, .int .i64 0] ty)).heap.size (X.alloc (.cells #[.int .i64 0, .int .i64 0] ty)) w1) : Fresh2 X.heap.size w1 :=
  ⟨slotB hb (slotNew _ _ _ _).1, slotB hb (slotNew _ _ _ _).2⟩
theorem fresh2D {X w1 : World} {ty : TypeId} (hb : Below (X.alloc (.cells #[.int .i64 0, .int .i64 0] ty)).drew.heap.size (X.alloc (.cells #[.int .i64 0, .int .i64 0] ty)).drew w1) : Fresh2 X.heap.size w1 :=
  ⟨slotB hb (slotD (slotNew X _ _ ty).1), slotB hb (slotD (slotNew X _ _ ty).2)⟩
theorem Fresh2.keep {g : Nat} {w1 w2 : World} (h : Fresh2 g w1) (hb : Below w1.heap.size w1 w2) : Fresh2 g w2 := ⟨slotB hb h.1, slotB hb h.2⟩

end Go.Proofs.Ytkdhhopfefhdjaa
