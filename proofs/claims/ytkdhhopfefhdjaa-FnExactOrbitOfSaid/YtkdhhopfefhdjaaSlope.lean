/- The program's slope between two points of a map: always fits. -/
import Derived.Test.YtkdhhopfefhdjaaCalc3
import Derived.Test.YtkdhhopfefhdjaaSlopeM
import Derived.Deep.RegionHeld3
import Derived.Deep.DrawnRows
namespace Go.Proofs.Ytkdhhopfefhdjaa
open Go.RowKit

/-- Two points in their boxes. -/
def BoxP (h : Nat) (x1 x2 x3 x4 y1 y2 y3 y4 : Int) (w' : World) : Prop :=
  w'.cell? ⟨h, 0, none⟩ = some (.int .i64 x1) ∧ w'.cell? ⟨h, 1, none⟩ = some (.int .i64 x2) ∧ w'.cell? ⟨h, 2, none⟩ = some (.int .i64 x3) ∧ w'.cell? ⟨h, 3, none⟩ = some (.int .i64 x4) ∧ w'.cell? ⟨h + 1, 0, none⟩ = some (.int .i64 y1) ∧ w'.cell? ⟨h + 1, 1, none⟩ = some (.int .i64 y2) ∧ w'.cell? ⟨h + 1, 2, none⟩ = some (.int .i64 y3) ∧ w'.cell? ⟨h + 1, 3, none⟩ = some (.int .i64 y4)
theorem BoxP.keep {h : Nat} {x1 x2 x3 x4 y1 y2 y3 y4 : Int} {X w1 : World} (k : BoxP h x1 x2 x3 x4 y1 y2 y3 y4 X) (hb : Below X.heap.size X w1) : BoxP h x1 x2 x3 x4 y1 y2 y3 y4 w1 :=
  ⟨cellB hb k.1, cellB hb k.2.1, cellB hb k.2.2.1, cellB hb k.2.2.2.1, cellB hb k.2.2.2.2.1, cellB hb k.2.2.2.2.2.1, cellB hb k.2.2.2.2.2.2.1, cellB hb k.2.2.2.2.2.2.2⟩
theorem BoxP.store {h : Nat} {x1 x2 x3 x4 y1 y2 y3 y4 : Int} {X : World} (k : BoxP h x1 x2 x3 x4 y1 y2 y3 y4 X) (g o : Nat) (v : Value) (hg : h + 2 ≤ g) : BoxP h x1 x2 x3 x4 y1 y2 y3 y4 (X.setCell ⟨g, o, none⟩ v) := by
  refine ⟨?_, ?_, ?_, ?_, ?_, ?_, ?_, ?_⟩ <;> rw [World.cell?_setCell_other _ _ _ _ (by simp only [ne_eq, Addr.mk.injEq]; omega)]
  · exact k.1
  · exact k.2.1
  · exact k.2.2.1
  · exact k.2.2.2.1
  · exact k.2.2.2.2.1
  · exact k.2.2.2.2.2.1
  · exact k.2.2.2.2.2.2.1
  · exact k.2.2.2.2.2.2.2

set_option maxHeartbeats 800000 in
theorem slope_fine (x1 x2 x3 x4 y1 y2 y3 y4 u1 u2 f1 f2 s1 s2 : Int) (v : Value) (w : World) (b3 : -9223372036854775808 ≤ x3 ∧ x3 ≤ 9223372036854775807) (b1 : -9223372036854775808 ≤ x1 ∧ x1 ≤ 9223372036854775807)
    (hu : subQ y3 y4 x3 x4 = (u1, u2, true)) (hf : subQ y1 y2 x1 x2 = (f1, f2, true)) (hd : divQ u1 u2 f1 f2 = (s1, s2, true)) :
    Calls Try.prog 139 #[v, .agg #[.int .i64 x1, .int .i64 x2, .int .i64 x3, .int .i64 x4], .agg #[.int .i64 y1, .int .i64 y2, .int .i64 y3, .int .i64 y4]] w fun e w' => e = .returned (.agg #[.int .i64 s1, .int .i64 s2]) ∧ Below w.heap.size w w' := by
  have HU := Lib.hid hu
  have HF := Lib.hid hf
  have HD := Lib.hid hd
  clear hu hf hd
  go_enter Try.func139, Try.ntmps139
  go_wp2_with fail
  go_region_held3 (fun w' => w'.cell? ⟨w.heap.size, 0, none⟩ = some (.int .i64 x1) ∧ w'.cell? ⟨w.heap.size, 1, none⟩ = some (.int .i64 x2) ∧ w'.cell? ⟨w.heap.size, 2, none⟩ = some (.int .i64 x3) ∧ w'.cell? ⟨w.heap.size, 3, none⟩ = some (.int .i64 x4) ∧ w'.cell? ⟨w.heap.size + 1, 0, none⟩ = some (.int .i64 y1) ∧ w'.cell? ⟨w.heap.size + 1, 1, none⟩ = some (.int .i64 y2) ∧ w'.cell? ⟨w.heap.size + 1, 2, none⟩ = some (.int .i64 y3) ∧ w'.cell? ⟨w.heap.size + 1, 3, none⟩ = some (.int .i64 y4))
    ((first | (refine ⟨?_, ?_, ?_, ?_, ?_, ?_, ?_, ?_⟩ <;> (simp [go_sem]; done)) | exact BoxP.keep (by assumption) hb3 | exact BoxP.keep (by assumption) hb2 | exact BoxP.keep (by assumption) hb1 | exact BoxP.store (BoxP.store (by assumption) _ _ _ (Nat.le_refl _)) _ _ _ (Nat.le_refl _)))
    ((first
      | (go_at_call 152; (with_reducible refine (cSub_fine y3 y4 x3 x4 u1 u2 v _ b3 HU.out).mono ?_); rintro e w1 ⟨rfl, hb1⟩; have r0 := slotB (b := w.heap.size + 2) (o := 0) (v := .int .i64 0) hb1 ⟨by simp [go_sem], by simp [go_sem]⟩; have r1 := slotB (b := w.heap.size + 2) (o := 1) (v := .int .i64 0) hb1 ⟨by simp [go_sem], by simp [go_sem]⟩; have hB1 := nextB (B := w.heap.size) (w := w) (by go_grown) (by go_size) hb1)
      | (go_at_call 152; (with_reducible refine (cSub_fine y1 y2 x1 x2 f1 f2 v _ b1 HF.out).mono ?_); rintro e w2 ⟨rfl, hb2⟩; have r2 := slotB hb2 r0; have r3 := slotB hb2 r1; have hB2 := nextW hB1 hb2)
      | (go_at_call 165; (with_reducible refine (cDiv_fine u1 u2 f1 f2 s1 s2 v _ HD.out).mono ?_); rintro e w3 ⟨rfl, hb3⟩; obtain ⟨q0, z0⟩ := slotB hb3 r2; obtain ⟨q1, z1⟩ := slotB hb3 r3; have hB3 := nextW hB2 hb3)))
  go_wp2_with fail
  refine bodyPost_ret (v := .agg #[.int .i64 s1, .int .i64 s2]) (by simp [results, Try.results139, go_sem, q0, q1]) rfl ⟨rfl, ?_⟩
  go_grown

end Go.Proofs.Ytkdhhopfefhdjaa
