/- SubtractRats of the program. -/
import Derived.Test.YtkdhhopfefhdjaaRat5
import Derived.Deep.RegionHeld3
namespace Go.Proofs.Ytkdhhopfefhdjaa
open Go.RowKit

theorem negated_any (n d : Int) (h : -9223372036854775807 ≤ n ∧ n ≤ 9223372036854775807) (w : World) :
    Calls Try.prog 175 #[.agg #[.int .i64 n, .int .i64 d]] w fun e w' => e = .returned (.agg #[.int .i64 (-n), .int .i64 d]) ∧ Below w.heap.size w w' := by
  go_enter Try.func175, Try.ntmps175
  go_wp2_with fail
  refine bodyPost_ret (v := .agg #[.int .i64 (-n), .int .i64 d]) (by simp [results, Try.results175, go_sem]) rfl ⟨rfl, ?_⟩
  go_grown

theorem negated_min (d : Int) (w : World) :
    Calls Try.prog 175 #[.agg #[.int .i64 (-9223372036854775808), .int .i64 d]] w fun e w' => e = .returned (.agg #[.int .i64 (-9223372036854775808), .int .i64 d]) ∧ Below w.heap.size w w' := by
  go_enter Try.func175, Try.ntmps175
  go_wp2_with fail
  refine bodyPost_ret (v := .agg #[.int .i64 (-9223372036854775808), .int .i64 d]) (by simp [results, Try.results175, go_sem, wrap64]) rfl ⟨rfl, ?_⟩
  go_grown

/-- What 'negated' makes of a number. -/
def negQ (n : Int) : Int := if n = -9223372036854775808 then n else -n
theorem negated_all (n d : Int) (h : -9223372036854775808 ≤ n ∧ n ≤ 9223372036854775807) (w : World) :
    Calls Try.prog 175 #[.agg #[.int .i64 n, .int .i64 d]] w fun e w' => e = .returned (.agg #[.int .i64 (negQ n), .int .i64 d]) ∧ Below w.heap.size w w' := by
  unfold negQ
  split
  · rename_i h0; subst h0; exact negated_min d w
  · exact negated_any n d (by omega) w

theorem okQ_neg (n d : Int) : okQ (-n) d = okQ n d := by
  unfold okQ; rw [Int.neg_gcd]; congr 1; rw [eq_iff_iff]; constructor <;> intro h <;> omega
theorem addQ_neg (n1 d1 n2 d2 : Int) : addQ n1 d1 (negQ n2) d2 = subQ n1 d1 n2 d2 := by
  unfold negQ
  split
  · rename_i h0
    subst h0
    have : okQ (-9223372036854775808) d2 = false := okQ_no2 (by omega)
    unfold addQ subQ
    simp [this]
  · unfold addQ subQ
    rw [okQ_neg, Int.neg_mul, Int.sub_eq_add_neg]

/-- The two fractions in their boxes. -/
def BoxS (h : Nat) (n1 d1 n2 d2 : Int) (w' : World) : Prop :=
  w'.cell? ⟨h, 0, none⟩ = some (.int .i64 n1) ∧ w'.cell? ⟨h, 1, none⟩ = some (.int .i64 d1) ∧ w'.cell? ⟨h + 1, 0, none⟩ = some (.int .i64 n2) ∧ w'.cell? ⟨h + 1, 1, none⟩ = some (.int .i64 d2)
theorem BoxS.keep {h : Nat} {n1 d1 n2 d2 : Int} {X w1 : World} (k : BoxS h n1 d1 n2 d2 X) (hb : Below X.heap.size X w1) : BoxS h n1 d1 n2 d2 w1 :=
  ⟨cellB hb k.1, cellB hb k.2.1, cellB hb k.2.2.1, cellB hb k.2.2.2⟩
theorem BoxS.store {h : Nat} {n1 d1 n2 d2 : Int} {X : World} (k : BoxS h n1 d1 n2 d2 X) (g o : Nat) (v : Value) (hg : h + 2 ≤ g) : BoxS h n1 d1 n2 d2 (X.setCell ⟨g, o, none⟩ v) := by
  refine ⟨?_, ?_, ?_, ?_⟩ <;> rw [World.cell?_setCell_other _ _ _ _ (by simp only [ne_eq, Addr.mk.injEq]; omega)]
  · exact k.1
  · exact k.2.1
  · exact k.2.2.1
  · exact k.2.2.2

set_option maxHeartbeats 400000 in
theorem subRats_in (n1 d1 n2 d2 a b : Int) (t : Bool) (hn : -9223372036854775808 ≤ n2 ∧ n2 ≤ 9223372036854775807) (h : addQ n1 d1 (negQ n2) d2 = (a, b, t)) (w : World) :
    Calls Try.prog 169 #[.agg #[.int .i64 n1, .int .i64 d1], .agg #[.int .i64 n2, .int .i64 d2]] w (LowEnd a b t w) := by
  have HL := Lib.hid h
  clear h
  go_enter Try.func169, Try.ntmps169
  go_wp2_with fail
  go_region_held3 (fun w' => w'.cell? ⟨w.heap.size, 0, none⟩ = some (.int .i64 n1) ∧ w'.cell? ⟨w.heap.size, 1, none⟩ = some (.int .i64 d1) ∧ w'.cell? ⟨w.heap.size + 1, 0, none⟩ = some (.int .i64 n2) ∧ w'.cell? ⟨w.heap.size + 1, 1, none⟩ = some (.int .i64 d2))
    ((first | (refine ⟨?_, ?_, ?_, ?_⟩ <;> (simp [go_sem]; done)) | exact BoxS.keep (by assumption) hb2 | exact BoxS.keep (by assumption) hb | exact BoxS.store (BoxS.store (by assumption) _ _ _ (Nat.le_refl _)) _ _ _ (Nat.le_refl _)))
    ((first | (go_at_call 175; refine (negated_all n2 d2 hn _).mono ?_; rintro e w1 ⟨rfl, hb⟩; have s0 := slotB (b := w.heap.size + 2) (o := 0) (v := .int .i64 0) hb ⟨by simp [go_sem], by simp [go_sem]⟩; have s1 := slotB (b := w.heap.size + 2) (o := 1) (v := .int .i64 0) hb ⟨by simp [go_sem], by simp [go_sem]⟩; have hB := nextB (B := w.heap.size) (w := w) (by go_grown) (by go_size) hb) | (go_at_call 173; refine (addRats_any _ _ _ _ a b t HL.out _).mono ?_; rintro e w2 ⟨rfl, hb2⟩; obtain ⟨q0, f0⟩ := slotB hb2 s0; obtain ⟨q1, f1⟩ := slotB hb2 s1; have hB2 := nextW hB hb2)))
  go_wp2_with fail
  refine bodyPost_ret (v := .tuple #[.agg #[.int .i64 a, .int .i64 b], .bool t]) (by simp [results, Try.results169, go_sem, q0, q1]) rfl ⟨rfl, ?_⟩
  go_grown

theorem subRats_any (n1 d1 n2 d2 a b : Int) (t : Bool) (hn : -9223372036854775808 ≤ n2 ∧ n2 ≤ 9223372036854775807) (h : subQ n1 d1 n2 d2 = (a, b, t)) (w : World) :
    Calls Try.prog 169 #[.agg #[.int .i64 n1, .int .i64 d1], .agg #[.int .i64 n2, .int .i64 d2]] w (LowEnd a b t w) := by
  exact subRats_in n1 d1 n2 d2 a b t hn (by rw [addQ_neg]; exact h) w

end Go.Proofs.Ytkdhhopfefhdjaa
