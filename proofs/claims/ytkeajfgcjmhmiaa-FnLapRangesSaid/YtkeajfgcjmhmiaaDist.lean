/- distance, greater, orApart; OrbitDistance of both. -/
import Derived.Test.YtkeajfgcjmhmiaaSlopes
import Derived.Test.YtkeajfgcjmhmiaaMarks
import Derived.Carry
namespace Go.Proofs.Ytkeajfgcjmhmiaa
open Go.RowKit

def absQ (a b : Q) : Int × Int × Bool := if lessQ a.1 a.2 b.1 b.2 = true then subQ b.1 b.2 a.1 a.2 else subQ a.1 a.2 b.1 b.2
def bigQ (a b : Q) : Q := if lessQ a.1 a.2 b.1 b.2 = true then b else a
def farN (l1 l2 : List Q) : Nat → Q × Bool
  | 0 => ((0, 1), false)
  | k + 1 => match l1[k]?, l2[k]? with
    | some a, some b => (bigQ (farN l1 l2 k).1 (keepQ (absQ a b)), (farN l1 l2 k).2 || !(absQ a b).2.2)
    | _, _ => farN l1 l2 k
theorem farN_next {l1 l2 : List Q} {k : Nat} {a b : Q} (ha : l1[k]? = some a) (hb : l2[k]? = some b) : farN l1 l2 (k + 1) = (bigQ (farN l1 l2 k).1 (keepQ (absQ a b)), (farN l1 l2 k).2 || !(absQ a b).2.2) := by
  rw [farN, ha, hb]
theorem farN_bad {l1 l2 : List Q} {k : Nat} (h : (farN l1 l2 k).2 = true) : ∀ j, (farN l1 l2 (k + j)).2 = true
  | 0 => h
  | j + 1 => by
    have := farN_bad h j
    show (farN l1 l2 (k + j + 1)).2 = true
    rw [farN]
    split
    · simp [this]
    · exact this
theorem absQ_ok {a b : Q} (h : (absQ a b).2.2 = true) : okQ (absQ a b).1 (absQ a b).2.1 = true := by
  unfold absQ at h ⊢
  split at h <;> rename_i hl
  · rw [if_pos hl]; unfold subQ at h ⊢; split at h <;> rename_i h2
    · rw [if_pos h2]; exact (lowQ_ok (a := _) (b := _) (t := _) rfl).1 h
    · simp at h
  · rw [if_neg hl]; unfold subQ at h ⊢; split at h <;> rename_i h2
    · rw [if_pos h2]; exact (lowQ_ok (a := _) (b := _) (t := _) rfl).1 h
    · simp at h
theorem keepAbs_ok (a b : Q) : okQ (keepQ (absQ a b)).1 (keepQ (absQ a b)).2 = true := by
  unfold keepQ
  split
  · rename_i h; exact absQ_ok h
  · decide
theorem farN_ok (l1 l2 : List Q) : ∀ k, okQ (farN l1 l2 k).1.1 (farN l1 l2 k).1.2 = true
  | 0 => by show okQ 0 1 = true; decide
  | k + 1 => by
    rw [farN]
    split
    · simp only [bigQ]; split
      · exact keepAbs_ok _ _
      · exact farN_ok l1 l2 k
    · exact farN_ok l1 l2 k
theorem absQ_low {a b : Q} (ha : okQ a.1 a.2 = true) (hb : okQ b.1 b.2 = true) : absQ a b = if lessQ a.1 a.2 b.1 b.2 = true then lowQ (b.1 * a.2 - a.1 * b.2) (b.2 * a.2) else lowQ (a.1 * b.2 - b.1 * a.2) (a.2 * b.2) := by
  unfold absQ subQ
  rw [ha, hb]; rfl
theorem stored2 {X : World} {g : Nat} {u v : Value} (s0 : Slot X g 0 u) (s1 : Slot X g 1 v) (a b : Value) : Slot ((X.setCell ⟨g, 0, none⟩ a).setCell ⟨g, 1, none⟩ b) g 0 a ∧ Slot ((X.setCell ⟨g, 0, none⟩ a).setCell ⟨g, 1, none⟩ b) g 1 b :=
  ⟨slotS (slotN s0) (by simp), slotN (slotS s1 (by simp))⟩
theorem lessQ_cmp' (n1 d1 n2 d2 y : Int) (h : cmpQ n1 d1 n2 d2 = y) : lessQ n1 d1 n2 d2 = decide (y < 0) := by rw [lessQ_cmp, h]

set_option maxHeartbeats 400000 in
theorem greater_any (n1 d1 n2 d2 p q : Int) (sa : Sm n1 ∧ Sm d1) (sb : Sm n2 ∧ Sm d2) (h : bigQ (n1, d1) (n2, d2) = (p, q)) (w : World) :
    Calls Try.prog 67 #[.agg #[.int .i64 n1, .int .i64 d1], .agg #[.int .i64 n2, .int .i64 d2]] w fun e w' => e = .returned (.agg #[.int .i64 p, .int .i64 q]) ∧ Below w.heap.size w w' := by
  have SA := Lib.hid sa
  have SB := Lib.hid sb
  rcases hl : lessQ n1 d1 n2 d2 with _ | _
  · obtain ⟨rfl, rfl⟩ : n1 = p ∧ d1 = q := by unfold bigQ at h; simp only [hl] at h; simpa using h
    have HL := Lib.hid hl
    clear h hl sa sb
    go_enter Try.func67, Try.ntmps67
    go_wp2_with fail
    refine (less_any n1 d1 n2 d2 SA.out.1 SA.out.2 SB.out.1 SB.out.2 _).mono ?_
    rintro e w1 ⟨he, hb⟩
    rw [HL.out] at he
    subst he
    have hX : Below w.heap.size w w1 := nextX (by go_grown) hb
    have b00 : w1.cell? ⟨w.heap.size, 0, none⟩ = some (.int .i64 n1) := cellB hb (by simp [go_sem])
    have b01 : w1.cell? ⟨w.heap.size, 1, none⟩ = some (.int .i64 d1) := cellB hb (by simp [go_sem])
    have b10 : w1.cell? ⟨w.heap.size + 1, 0, none⟩ = some (.int .i64 n2) := cellB hb (by simp [go_sem])
    have b11 : w1.cell? ⟨w.heap.size + 1, 1, none⟩ = some (.int .i64 d2) := cellB hb (by simp [go_sem])
    have r20 : Slot w1 (w.heap.size + 2) 0 (.int .i64 0) := slotB hb ⟨by simp [go_sem], by simp [go_sem]⟩
    have r21 : Slot w1 (w.heap.size + 2) 1 (.int .i64 0) := slotB hb ⟨by simp [go_sem], by simp [go_sem]⟩
    have zb00 := lt_of_cell b00
    have zb10 := lt_of_cell b10
    have zr20 := lt_of_cell r20.1
    have hB : Below w.heap.size w w1 := hX
    clear hb hX
    obtain ⟨q0, k0⟩ := r20
    obtain ⟨q1, k1⟩ := r21
    go_wp2_with fail
    refine bodyPost_ret (v := .agg #[.int .i64 n1, .int .i64 d1]) (by first | (simp [results, Try.results67, go_sem, q0, q1]; done) | (simp [results, Try.results67, go_sem, q0, q1, zr20]; done)) rfl ⟨rfl, ?_⟩
    go_grown
  · obtain ⟨rfl, rfl⟩ : n2 = p ∧ d2 = q := by unfold bigQ at h; simp only [hl] at h; simpa using h
    have HL := Lib.hid hl
    clear h hl sa sb
    go_enter Try.func67, Try.ntmps67
    go_wp2_with fail
    refine (less_any n1 d1 n2 d2 SA.out.1 SA.out.2 SB.out.1 SB.out.2 _).mono ?_
    rintro e w1 ⟨he, hb⟩
    rw [HL.out] at he
    subst he
    have hX : Below w.heap.size w w1 := nextX (by go_grown) hb
    have b00 : w1.cell? ⟨w.heap.size, 0, none⟩ = some (.int .i64 n1) := cellB hb (by simp [go_sem])
    have b01 : w1.cell? ⟨w.heap.size, 1, none⟩ = some (.int .i64 d1) := cellB hb (by simp [go_sem])
    have b10 : w1.cell? ⟨w.heap.size + 1, 0, none⟩ = some (.int .i64 n2) := cellB hb (by simp [go_sem])
    have b11 : w1.cell? ⟨w.heap.size + 1, 1, none⟩ = some (.int .i64 d2) := cellB hb (by simp [go_sem])
    have r20 : Slot w1 (w.heap.size + 2) 0 (.int .i64 0) := slotB hb ⟨by simp [go_sem], by simp [go_sem]⟩
    have r21 : Slot w1 (w.heap.size + 2) 1 (.int .i64 0) := slotB hb ⟨by simp [go_sem], by simp [go_sem]⟩
    have zb00 := lt_of_cell b00
    have zb10 := lt_of_cell b10
    have zr20 := lt_of_cell r20.1
    have hB : Below w.heap.size w w1 := hX
    clear hb hX
    obtain ⟨q0, k0⟩ := r20
    obtain ⟨q1, k1⟩ := r21
    go_wp2_with fail
    refine bodyPost_ret (v := .agg #[.int .i64 n2, .int .i64 d2]) (by first | (simp [results, Try.results67, go_sem, q0, q1]; done) | (simp [results, Try.results67, go_sem, q0, q1, zr20]; done)) rfl ⟨rfl, ?_⟩
    go_grown

def farQ (ps : List Pt) (x y : Q) (n : Int) : Int × Int × Bool := if ((orbOf ps x n).2 && ((orbOf ps y n).2 && !(farN (orbOf ps x n).1 (orbOf ps y n).1 (orbOf ps x n).1.length).2)) = true then ((farN (orbOf ps x n).1 (orbOf ps y n).1 (orbOf ps x n).1.length).1.1, (farN (orbOf ps x n).1 (orbOf ps y n).1 (orbOf ps x n).1.length).1.2, true) else (0, 0, false)
def RelFar (l1 l2 : List Q) (gm gc : Nat) (W0 : World) (i : Value) (wr : World) : Prop := ∃ j : Nat, j ≤ l1.length ∧ i = .int .i64 j ∧ Slot wr gm 0 (.int .i64 (farN l1 l2 j).1.1) ∧ Slot wr gm 1 (.int .i64 (farN l1 l2 j).1.2) ∧ Slot wr gc 0 (.bool (farN l1 l2 j).2) ∧ Below W0.heap.size W0 wr
def CellsQ (W : World) (g : Nat) (l : List Q) : Prop := ∀ i q, l[i]? = some q → W.cell? ⟨g, i * 2, none⟩ = some (.int .i64 q.1) ∧ W.cell? ⟨g, i * 2 + 1, none⟩ = some (.int .i64 q.2)

end Go.Proofs.Ytkeajfgcjmhmiaa
