/- Two boxes made side by side in a drawn statement. -/
import Derived.Test.YtkdhhopfefhdjaaSlopes
namespace Go.Proofs.Ytkdhhopfefhdjaa
open Go.RowKit

theorem fresh22 {X w1 : World} {t t' : TypeId} (hb : Below ((X.alloc (.cells #[.int .i64 0, .int .i64 0] t)).alloc (.cells #[.int .i64 0, .int .i64 0] t')).heap.size ((X.alloc (.cells #[.int .i64 0, .int .i64 0] t)).alloc (.cells #[.int .i64 0, .int .i64 0] t')) w1) : Fresh2 X.heap.size w1 ∧ Fresh2 (X.heap.size + 1) w1 :=
  ⟨⟨slotB hb (slotA _ (slotNew X _ _ _).1), slotB hb (slotA _ (slotNew X _ _ _).2)⟩, by
    have h := slotNew (X.alloc (.cells #[.int .i64 0, .int .i64 0] t)) (.int .i64 0) (.int .i64 0) t'
    rw [World.size_alloc] at h
    exact ⟨slotB hb h.1, slotB hb h.2⟩⟩
theorem fresh22D {X w1 : World} {t t' : TypeId} (hb : Below ((X.alloc (.cells #[.int .i64 0, .int .i64 0] t)).alloc (.cells #[.int .i64 0, .int .i64 0] t')).drew.heap.size ((X.alloc (.cells #[.int .i64 0, .int .i64 0] t)).alloc (.cells #[.int .i64 0, .int .i64 0] t')).drew w1) : Fresh2 X.heap.size w1 ∧ Fresh2 (X.heap.size + 1) w1 :=
  fresh22 (X := X) (t := t) (t' := t') ⟨hb.os, hb.tape, hb.output, hb.size, hb.block⟩
theorem fresh22K {g h : Nat} {w1 w2 : World} (x : Fresh2 g w1 ∧ Fresh2 h w1) (hb : Below w1.heap.size w1 w2) : Fresh2 g w2 ∧ Fresh2 h w2 := ⟨x.1.keep hb, x.2.keep hb⟩

end Go.Proofs.Ytkdhhopfefhdjaa
