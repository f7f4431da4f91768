/- distance, greater, orApart; OrbitDistance of both. -/
import Derived.Test.YtkeajfgcjmhmiaaGreatSlopes
import Derived.Test.YtkeajfgcjmhmiaaGreatMarks
import Derived.Carry
namespace Go.Proofs.YtkeajfgcjmhmiaaGreat
open Go.RowKit

def absQ (a b : Q) : Int × Int × Bool := if lessQ a.1 a.2 b.1 b.2 = true then subQ b.1 b.2 a.1 a.2 else subQ a.1 a.2 b.1 b.2
def bigQ (a b : Q) : Q := if lessQ a.1 a.2 b.1 b.2 = true then b else a
def farN (l1 l2 : List Q) : Nat → Q × Bool
  | 0 => ((0, 1), false)
  | k + 1 => match l1[k]?, l2[k]? with
    | some a, some b => (bigQ (farN l1 l2 k).1 (keepQ (absQ a b)), (farN l1 l2 k).2 || !(absQ a b).2.2)
    | _, _ => farN l1 l2 k
theorem farN_next {l1 l2 : List Q} {k : Nat} {a b : Q} (ha : l1[k]? = some a) (hb : l2[k]? = some b) : farN l1 l2 (k + 1) = (bigQ (farN l1 l2 k).1 (keepQ (absQ a b)), (farN l1 l2 k).2 || !(absQ a b).2.2) := by
  rw [farN, ha, hb]
theorem farN_bad {l1 l2 : List Q} {k : Nat} (h : (farN l1 l2 k).2 = true) : ∀ j, (farN l1 l2 (k + j)).2 = true
  | 0 => h
  | j + 1 => by
    have := farN_bad h j
    show (farN l1 l2 (k + j + 1)).2 = true
    rw [farN]
    split
    · simp [this]
    · exact this
theorem absQ_ok {a b : Q} (h : (absQ a b).2.2 = true) : okQ (absQ a b).1 (absQ a b).2.1 = true := by
  unfold absQ at h ⊢
  split at h <;> rename_i hl
  · rw [if_pos hl]; unfold subQ at h ⊢; split at h <;> rename_i h2
    · rw [if_pos h2]; exact (lowQ_ok (a := _) (b := _) (t := _) rfl).1 h
    · simp at h
  · rw [if_neg hl]; unfold subQ at h ⊢; split at h <;> rename_i h2
    · rw [if_pos h2]; exact (lowQ_ok (a := _) (b := _) (t := _) rfl).1 h
    · simp at h
theorem keepAbs_ok (a b : Q) : okQ (keepQ (absQ a b)).1 (keepQ (absQ a b)).2 = true := by
  unfold keepQ
  split
  · rename_i h; exact absQ_ok h
  · decide
theorem farN_ok (l1 l2 : List Q) : ∀ k, okQ (farN l1 l2 k).1.1 (farN l1 l2 k).1.2 = true
  | 0 => by show okQ 0 1 = true; decide
  | k + 1 => by
    rw [farN]
    split
    · simp only [bigQ]; split
      · exact keepAbs_ok _ _
      · exact farN_ok l1 l2 k
    · exact farN_ok l1 l2 k
theorem absQ_low {a b : Q} (ha : okQ a.1 a.2 = true) (hb : okQ b.1 b.2 = true) : absQ a b = if lessQ a.1 a.2 b.1 b.2 = true then lowQ (b.1 * a.2 - a.1 * b.2) (b.2 * a.2) else lowQ (a.1 * b.2 - b.1 * a.2) (a.2 * b.2) := by
  unfold absQ subQ
  rw [ha, hb]; rfl
theorem stored2 {X : World} {g : Nat} {u v : Value} (s0 : Slot X g 0 u) (s1 : Slot X g 1 v) (a b : Value) : Slot ((X.setCell ⟨g, 0, none⟩ a).setCell ⟨g, 1, none⟩ b) g 0 a ∧ Slot ((X.setCell ⟨g, 0, none⟩ a).setCell ⟨g, 1, none⟩ b) g 1 b :=
  ⟨slotS (slotN s0) (by simp), slotN (slotS s1 (by simp))⟩
theorem lessQ_cmp' (n1 d1 n2 d2 y : Int) (h : cmpQ n1 d1 n2 d2 = y) : lessQ n1 d1 n2 d2 = decide (y < 0) := by rw [lessQ_cmp, h]

set_option maxHeartbeats 400000 in
theorem greater_any (n1 d1 n2 d2 p q : Int) (sa : Sm n1 ∧ Sm d1) (sb : Sm n2 ∧ Sm d2) (h : bigQ (n1, d1) (n2, d2) = (p, q)) (w : World) :
    Calls Tryz.prog 90 #[.agg #[.int .i64 n1, .int .i64 d1], .agg #[.int .i64 n2, .int .i64 d2]] w fun e w' => e = .returned (.agg #[.int .i64 p, .int .i64 q]) ∧ Below w.heap.size w w' := by
  have SA := Lib.hid sa
  have SB := Lib.hid sb
  rcases hl : lessQ n1 d1 n2 d2 with _ | _
  · obtain ⟨rfl, rfl⟩ : n1 = p ∧ d1 = q := by unfold bigQ at h; simp only [hl] at h; simpa using h
    have HL := Lib.hid hl
    clear h hl sa sb
    go_enter Tryz.func90, Tryz.ntmps90
    go_wp2_with fail
    refine (less_any n1 d1 n2 d2 SA.out.1 SA.out.2 SB.out.1 SB.out.2 _).mono ?_
    rintro e w1 ⟨he, hb⟩
    rw [HL.out] at he
    subst he
    have hX : Below w.heap.size w w1 := nextX (by go_grown) hb
    have b00 : w1.cell? ⟨w.heap.size, 0, none⟩ = some (.int .i64 n1) := cellB hb (by simp [go_sem])
    have b01 : w1.cell? ⟨w.heap.size, 1, none⟩ = some (.int .i64 d1) := cellB hb (by simp [go_sem])
    have b10 : w1.cell? ⟨w.heap.size + 1, 0, none⟩ = some (.int .i64 n2) := cellB hb (by simp [go_sem])
    have b11 : w1.cell? ⟨w.heap.size + 1, 1, none⟩ = some (.int .i64 d2) := cellB hb (by simp [go_sem])
    have r20 : Slot w1 (w.heap.size + 2) 0 (.int .i64 0) := slotB hb ⟨by simp [go_sem], by simp [go_sem]⟩
    have r21 : Slot w1 (w.heap.size + 2) 1 (.int .i64 0) := slotB hb ⟨by simp [go_sem], by simp [go_sem]⟩
    have zb00 := lt_of_cell b00
    have zb10 := lt_of_cell b10
    have zr20 := lt_of_cell r20.1
    have hB : Below w.heap.size w w1 := hX
    clear hb hX
    obtain ⟨q0, k0⟩ := r20
    obtain ⟨q1, k1⟩ := r21
    go_wp2_with fail
    refine bodyPost_ret (v := .agg #[.int .i64 n1, .int .i64 d1]) (by first | (simp [results, Tryz.results90, go_sem, q0, q1]; done) | (simp [results, Tryz.results90, go_sem, q0, q1, zr20]; done)) rfl ⟨rfl, ?_⟩
    go_grown
  · obtain ⟨rfl, rfl⟩ : n2 = p ∧ d2 = q := by unfold bigQ at h; simp only [hl] at h; simpa using h
    have HL := Lib.hid hl
    clear h hl sa sb
    go_enter Tryz.func90, Tryz.ntmps90
    go_wp2_with fail
    refine (less_any n1 d1 n2 d2 SA.out.1 SA.out.2 SB.out.1 SB.out.2 _).mono ?_
    rintro e w1 ⟨he, hb⟩
    rw [HL.out] at he
    subst he
    have hX : Below w.heap.size w w1 := nextX (by go_grown) hb
    have b00 : w1.cell? ⟨w.heap.size, 0, none⟩ = some (.int .i64 n1) := cellB hb (by simp [go_sem])
    have b01 : w1.cell? ⟨w.heap.size, 1, none⟩ = some (.int .i64 d1) := cellB hb (by simp [go_sem])
    have b10 : w1.cell? ⟨w.heap.size + 1, 0, none⟩ = some (.int .i64 n2) := cellB hb (by simp [go_sem])
    have b11 : w1.cell? ⟨w.heap.size + 1, 1, none⟩ = some (.int .i64 d2) := cellB hb (by simp [go_sem])
    have r20 : Slot w1 (w.heap.size + 2) 0 (.int .i64 0) := slotB hb ⟨by simp [go_sem], by simp [go_sem]⟩
    have r21 : Slot w1 (w.heap.size + 2) 1 (.int .i64 0) := slotB hb ⟨by simp [go_sem], by simp [go_sem]⟩
    have zb00 := lt_of_cell b00
    have zb10 := lt_of_cell b10
    have zr20 := lt_of_cell r20.1
    have hB : Below w.heap.size w w1 := hX
    clear hb hX
    obtain ⟨q0, k0⟩ := r20
    obtain ⟨q1, k1⟩ := r21
    go_wp2_with fail
    refine bodyPost_ret (v := .agg #[.int .i64 n2, .int .i64 d2]) (by first | (simp [results, Tryz.results90, go_sem, q0, q1]; done) | (simp [results, Tryz.results90, go_sem, q0, q1, zr20]; done)) rfl ⟨rfl, ?_⟩
    go_grown

set_option maxHeartbeats 400000 in
theorem orApart_any (n1 d1 n2 d2 a b : Int) (t : Bool) (ha : okQ n1 d1 = true) (hb : okQ n2 d2 = true) (h : absQ (n1, d1) (n2, d2) = (a, b, t)) (w : World) :
    Calls Tryz.prog 129 #[.agg #[.int .i64 n1, .int .i64 d1], .agg #[.int .i64 n2, .int .i64 d2]] w (LowEnd a b t w) := by
  have SA := Lib.hid (Sm.of_ok ha)
  have SB := Lib.hid (Sm.of_ok hb)
  rw [absQ_low ha hb] at h
  simp only at h
  obtain ⟨y, hy⟩ : ∃ y, cmpQ n1 d1 n2 d2 = y := ⟨_, rfl⟩
  have hd := lessQ_cmp' _ _ _ _ _ hy
  have HY := Lib.hid hy
  rcases hl : lessQ n1 d1 n2 d2 with _ | _
  · rw [hl] at h hd
    simp only [Bool.false_eq_true, if_false] at h
    have f0 : decide (y < (0 : Int)) = false := hd.symm
    have f1 : (0 : Int) ≤ y := by simpa using f0
    have HH := Lib.hid h
    clear h hl ha hb hy hd
    go_enter Tryz.func129, Tryz.ntmps129
    go_wp2_with fail
    refine (raCmp_is n1 d1 n2 d2 y SA.out SB.out HY.out _).mono ?_
    rintro e w1 ⟨rfl, hb⟩
    have hX : Below w.heap.size w w1 := nextX (by go_grown) hb
    have b00 : w1.cell? ⟨w.heap.size, 0, none⟩ = some (.int .i64 n1) := cellB hb (by simp [go_sem])
    have b01 : w1.cell? ⟨w.heap.size, 1, none⟩ = some (.int .i64 d1) := cellB hb (by simp [go_sem])
    have b10 : w1.cell? ⟨w.heap.size + 1, 0, none⟩ = some (.int .i64 n2) := cellB hb (by simp [go_sem])
    have b11 : w1.cell? ⟨w.heap.size + 1, 1, none⟩ = some (.int .i64 d2) := cellB hb (by simp [go_sem])
    have r20 : Slot w1 (w.heap.size + 2) 0 (.int .i64 0) := slotB hb ⟨by simp [go_sem], by simp [go_sem]⟩
    have r21 : Slot w1 (w.heap.size + 2) 1 (.int .i64 0) := slotB hb ⟨by simp [go_sem], by simp [go_sem]⟩
    have zb00 := lt_of_cell b00
    have zb10 := lt_of_cell b10
    have zr20 := lt_of_cell r20.1
    have hB : Below w.heap.size w w1 := hX
    clear hb hX
    go_wp2_with fail
    refine (raSub_any n1 d1 n2 d2 a b t SA.out.1 SA.out.2 SB.out.1 SB.out.2 HH.out _).mono ?_
    rintro e w2 ⟨rfl, hb⟩
    have hX : Below w1.heap.size w1 w2 := nextX (by go_grown) hb
    replace b00 := cellB hX b00
    replace b01 := cellB hX b01
    replace b10 := cellB hX b10
    replace b11 := cellB hX b11
    replace r20 := slotB hX r20
    replace r21 := slotB hX r21
    have zb00 := Nat.lt_of_lt_of_le zb00 hX.size
    have zb10 := Nat.lt_of_lt_of_le zb10 hX.size
    have zr20 := Nat.lt_of_lt_of_le zr20 hX.size
    replace hB := nextW hB hX
    clear hb hX
    obtain ⟨q0, k0⟩ := r20
    obtain ⟨q1, k1⟩ := r21
    go_wp2_with fail
    refine bodyPost_ret (v := .tuple #[.agg #[.int .i64 a, .int .i64 b], .bool t]) (by first | (simp [results, Tryz.results129, go_sem, q0, q1]; done) | (simp [results, Tryz.results129, go_sem, q0, q1, zr20]; done)) rfl ⟨rfl, ?_⟩
    go_grown
  · rw [hl] at h hd
    simp only [if_true] at h
    have f0 : decide (y < (0 : Int)) = true := hd.symm
    have f1 : y < (0 : Int) := by simpa using f0
    have HH := Lib.hid h
    clear h hl ha hb hy hd
    go_enter Tryz.func129, Tryz.ntmps129
    go_wp2_with fail
    refine (raCmp_is n1 d1 n2 d2 y SA.out SB.out HY.out _).mono ?_
    rintro e w1 ⟨rfl, hb⟩
    have hX : Below w.heap.size w w1 := nextX (by go_grown) hb
    have b00 : w1.cell? ⟨w.heap.size, 0, none⟩ = some (.int .i64 n1) := cellB hb (by simp [go_sem])
    have b01 : w1.cell? ⟨w.heap.size, 1, none⟩ = some (.int .i64 d1) := cellB hb (by simp [go_sem])
    have b10 : w1.cell? ⟨w.heap.size + 1, 0, none⟩ = some (.int .i64 n2) := cellB hb (by simp [go_sem])
    have b11 : w1.cell? ⟨w.heap.size + 1, 1, none⟩ = some (.int .i64 d2) := cellB hb (by simp [go_sem])
    have r20 : Slot w1 (w.heap.size + 2) 0 (.int .i64 0) := slotB hb ⟨by simp [go_sem], by simp [go_sem]⟩
    have r21 : Slot w1 (w.heap.size + 2) 1 (.int .i64 0) := slotB hb ⟨by simp [go_sem], by simp [go_sem]⟩
    have zb00 := lt_of_cell b00
    have zb10 := lt_of_cell b10
    have zr20 := lt_of_cell r20.1
    have hB : Below w.heap.size w w1 := hX
    clear hb hX
    go_wp2_with fail
    refine (raSub_any n2 d2 n1 d1 a b t SB.out.1 SB.out.2 SA.out.1 SA.out.2 HH.out _).mono ?_
    rintro e w2 ⟨rfl, hb⟩
    have hX : Below w1.heap.size w1 w2 := nextX (by go_grown) hb
    replace b00 := cellB hX b00
    replace b01 := cellB hX b01
    replace b10 := cellB hX b10
    replace b11 := cellB hX b11
    replace r20 := slotB hX r20
    replace r21 := slotB hX r21
    have zb00 := Nat.lt_of_lt_of_le zb00 hX.size
    have zb10 := Nat.lt_of_lt_of_le zb10 hX.size
    have zr20 := Nat.lt_of_lt_of_le zr20 hX.size
    replace hB := nextW hB hX
    clear hb hX
    obtain ⟨q0, k0⟩ := r20
    obtain ⟨q1, k1⟩ := r21
    go_wp2_with fail
    refine bodyPost_ret (v := .tuple #[.agg #[.int .i64 a, .int .i64 b], .bool t]) (by first | (simp [results, Tryz.results129, go_sem, q0, q1]; done) | (simp [results, Tryz.results129, go_sem, q0, q1, zr20]; done)) rfl ⟨rfl, ?_⟩
    go_grown

set_option maxHeartbeats 800000 in
theorem cDist_any (n1 d1 n2 d2 p q : Int) (bad bad' : Bool) (g : Nat) (w : World) (hs : Slot w g 0 (.bool bad)) (sa : Sm n1 ∧ Sm d1) (sb : Sm n2 ∧ Sm d2) (hp : keepQ (absQ (n1, d1) (n2, d2)) = (p, q)) (hb : (bad || !(absQ (n1, d1) (n2, d2)).2.2) = bad') :
    Calls Tryz.prog 91 #[.pointer (some ⟨g, 0, none⟩), .agg #[.int .i64 n1, .int .i64 d1], .agg #[.int .i64 n2, .int .i64 d2]] w (KeepEnd g p q bad' w) := by
  have hg := lt_of_cell hs.1
  have SA := Lib.hid sa
  have SB := Lib.hid sb
  have HS := Lib.hid hs
  unfold absQ at hp hb
  simp only at hp hb
  rcases hl : lessQ n1 d1 n2 d2 with _ | _
  · rw [hl] at hp hb
    simp only [Bool.false_eq_true, if_false] at hp hb
    have HL := Lib.hid hl
    have HP := Lib.hid hp
    have HB := Lib.hid hb
    clear hp hb hl sa sb hs
    go_enter Tryz.func91, Tryz.ntmps91
    go_wp2_with fail
    refine (less_any n1 d1 n2 d2 SA.out.1 SA.out.2 SB.out.1 SB.out.2 _).mono ?_
    rintro e w1 ⟨he, hb⟩
    rw [HL.out] at he
    subst he
    obtain ⟨a0, fa0⟩ : Slot w1 w.heap.size 0 (.int .i64 n1) := slotB hb ⟨by simp [go_sem], by simp [go_sem]⟩
    obtain ⟨a1, fa1⟩ : Slot w1 w.heap.size 1 (.int .i64 d1) := slotB hb ⟨by simp [go_sem], by simp [go_sem]⟩
    obtain ⟨b0, fb0⟩ : Slot w1 (w.heap.size + 1) 0 (.int .i64 n2) := slotB hb ⟨by simp [go_sem], by simp [go_sem]⟩
    obtain ⟨b1, fb1⟩ : Slot w1 (w.heap.size + 1) 1 (.int .i64 d2) := slotB hb ⟨by simp [go_sem], by simp [go_sem]⟩
    have r0 : Slot w1 (w.heap.size + 2) 0 (.int .i64 0) := slotB hb ⟨by simp [go_sem], by simp [go_sem]⟩
    have r1 : Slot w1 (w.heap.size + 2) 1 (.int .i64 0) := slotB hb ⟨by simp [go_sem], by simp [go_sem]⟩
    have s1 : Slot w1 g 0 (.bool bad) := slotB hb (slotA _ (slotA _ (slotA _ HS.out)))
    have k1 : But g w w1 := But.next ((((But.refl g w).alloc _).alloc _).alloc _) hb (Nat.le_refl _)
    have z := lt_of_cell r0.1
    have S1 := Lib.hid s1
    have K1 := Lib.hid k1
    have R0 := Lib.hid r0
    have R1 := Lib.hid r1
    clear hb s1 k1 r0 r1
    go_wp2_with fail
    have s1 := S1.out
    have r0 := R0.out
    have r1 := R1.out
    have k1 := K1.out
    refine (cSub_any n1 d1 n2 d2 p q bad bad' g _ s1 (by have := SB.out.1; unfold Sm at this; omega) HP.out HB.out).mono ?_
    rintro e w2 ⟨rfl, s2, k2⟩
    obtain ⟨q0, f0⟩ := slotU k2 (by omega) r0
    obtain ⟨q1, f1⟩ := slotU k2 (by omega) r1
    replace k1 := k1.trans k2
    have S2 := Lib.hid s2
    clear k2 s1 r0 r1 s2
    go_wp2_with fail
    refine bodyPost_ret (v := .agg #[.int .i64 p, .int .i64 q]) (by simp [results, Tryz.results91, go_sem, q0, q1]) rfl ⟨rfl, ?_, ?_⟩
    · refine slotS (slotS S2.out ?_) ?_ <;> simp <;> omega
    · refine But.setNew (But.setNew k1 ?_ _) ?_ _ <;> omega
  · rw [hl] at hp hb
    simp only [if_true] at hp hb
    have HL := Lib.hid hl
    have HP := Lib.hid hp
    have HB := Lib.hid hb
    clear hp hb hl sa sb hs
    go_enter Tryz.func91, Tryz.ntmps91
    go_wp2_with fail
    refine (less_any n1 d1 n2 d2 SA.out.1 SA.out.2 SB.out.1 SB.out.2 _).mono ?_
    rintro e w1 ⟨he, hb⟩
    rw [HL.out] at he
    subst he
    obtain ⟨a0, fa0⟩ : Slot w1 w.heap.size 0 (.int .i64 n1) := slotB hb ⟨by simp [go_sem], by simp [go_sem]⟩
    obtain ⟨a1, fa1⟩ : Slot w1 w.heap.size 1 (.int .i64 d1) := slotB hb ⟨by simp [go_sem], by simp [go_sem]⟩
    obtain ⟨b0, fb0⟩ : Slot w1 (w.heap.size + 1) 0 (.int .i64 n2) := slotB hb ⟨by simp [go_sem], by simp [go_sem]⟩
    obtain ⟨b1, fb1⟩ : Slot w1 (w.heap.size + 1) 1 (.int .i64 d2) := slotB hb ⟨by simp [go_sem], by simp [go_sem]⟩
    have r0 : Slot w1 (w.heap.size + 2) 0 (.int .i64 0) := slotB hb ⟨by simp [go_sem], by simp [go_sem]⟩
    have r1 : Slot w1 (w.heap.size + 2) 1 (.int .i64 0) := slotB hb ⟨by simp [go_sem], by simp [go_sem]⟩
    have s1 : Slot w1 g 0 (.bool bad) := slotB hb (slotA _ (slotA _ (slotA _ HS.out)))
    have k1 : But g w w1 := But.next ((((But.refl g w).alloc _).alloc _).alloc _) hb (Nat.le_refl _)
    have z := lt_of_cell r0.1
    have S1 := Lib.hid s1
    have K1 := Lib.hid k1
    have R0 := Lib.hid r0
    have R1 := Lib.hid r1
    clear hb s1 k1 r0 r1
    go_wp2_with fail
    refine (cSub_any n2 d2 n1 d1 p q bad bad' g _ ?hs (by have := SA.out.1; unfold Sm at this; omega) HP.out HB.out).mono ?_
    case hs => refine slotS (slotS (slotS (slotS S1.out ?_) ?_) ?_) ?_ <;> simp <;> omega
    rintro e w2 ⟨rfl, s2, k2⟩
    obtain ⟨q0, f0⟩ := slotU k2 (by omega) (slotS (slotS (slotS (slotS R0.out (by simp)) (by simp)) (by simp)) (by simp))
    obtain ⟨q1, f1⟩ := slotU k2 (by omega) (slotS (slotS (slotS (slotS R1.out (by simp)) (by simp)) (by simp)) (by simp))
    have k3 := But.trans (But.setNew (But.setNew (But.setNew (But.setNew K1.out (Nat.le_refl _) _) (Nat.le_refl _) _) (Nat.le_succ _) _) (Nat.le_succ _) _) k2
    have k1 := k3
    clear k3 a0 a1 b0 b1 fa0 fa1 fb0 fb1
    have S2 := Lib.hid s2
    clear k2 s2
    go_wp2_with fail
    refine bodyPost_ret (v := .agg #[.int .i64 p, .int .i64 q]) (by simp [results, Tryz.results91, go_sem, q0, q1]) rfl ⟨rfl, ?_, ?_⟩
    · refine slotS (slotS S2.out ?_) ?_ <;> simp <;> omega
    · refine But.setNew (But.setNew k1 ?_ _) ?_ _ <;> omega

def farQ (ps : List Pt) (x y : Q) (n : Int) : Int × Int × Bool := if ((orbOf ps x n).2 && ((orbOf ps y n).2 && !(farN (orbOf ps x n).1 (orbOf ps y n).1 (orbOf ps x n).1.length).2)) = true then ((farN (orbOf ps x n).1 (orbOf ps y n).1 (orbOf ps x n).1.length).1.1, (farN (orbOf ps x n).1 (orbOf ps y n).1 (orbOf ps x n).1.length).1.2, true) else (0, 0, false)
def RelFar (l1 l2 : List Q) (gm gc : Nat) (W0 : World) (i : Value) (wr : World) : Prop := ∃ j : Nat, j ≤ l1.length ∧ i = .int .i64 j ∧ Slot wr gm 0 (.int .i64 (farN l1 l2 j).1.1) ∧ Slot wr gm 1 (.int .i64 (farN l1 l2 j).1.2) ∧ Slot wr gc 0 (.bool (farN l1 l2 j).2) ∧ Below W0.heap.size W0 wr
def CellsQ (W : World) (g : Nat) (l : List Q) : Prop := ∀ i q, l[i]? = some q → W.cell? ⟨g, i * 2, none⟩ = some (.int .i64 q.1) ∧ W.cell? ⟨g, i * 2 + 1, none⟩ = some (.int .i64 q.2)

set_option maxHeartbeats 1600000 in
theorem iOrbitDistance_is (ps : List Pt) (v : Value) (x1 x2 y1 y2 n : Int) (a b : Int) (t : Bool) (hl : farQ ps (x1, x2) (y1, y2) n = (a, b, t)) (w : World) (hv : RdP w v ps) (hn : ps.length ≤ 1048576) :
    Calls Tryz.prog 56 #[v, .agg #[.int .i64 x1, .int .i64 x2], .agg #[.int .i64 y1, .int .i64 y2], .int .i64 n] w (LowEnd a b t w) := by
  have HV := Lib.hid hv
  rcases ho1 : orbOf ps (x1, x2) n with ⟨l1, t1⟩
  rcases ho2 : orbOf ps (y1, y2) n with ⟨l2, t2⟩
  unfold farQ at hl
  rw [ho1, ho2] at hl
  simp only at hl
  rcases t1 with _ | _
  · obtain ⟨rfl, rfl, rfl⟩ : 0 = a ∧ 0 = b ∧ false = t := by simpa using hl
    have HL1 := Lib.hid ho1
    have HL2 := Lib.hid ho2
    clear hv hl ho1 ho2
    rcases t2 with _ | _
    · go_enter Tryz.func56, Tryz.ntmps56
      go_wp2_with fail
      refine (iOrbitOf_is ps v x1 x2 n l1 false HL1.out _ (HV.out.keep (by go_grown)) hn).mono ?_
      rintro e w1 ⟨ra, rfl, ow, hb⟩
      have hX : Below w.heap.size w w1 := nextX (by go_grown) hb
      have b00 : w1.cell? ⟨w.heap.size, 0, none⟩ = some (.int .i64 x1) := cellB hb (by simp [go_sem])
      have b01 : w1.cell? ⟨w.heap.size, 1, none⟩ = some (.int .i64 x2) := cellB hb (by simp [go_sem])
      have b10 : w1.cell? ⟨w.heap.size + 1, 0, none⟩ = some (.int .i64 y1) := cellB hb (by simp [go_sem])
      have b11 : w1.cell? ⟨w.heap.size + 1, 1, none⟩ = some (.int .i64 y2) := cellB hb (by simp [go_sem])
      have r20 : Slot w1 (w.heap.size + 2) 0 (.int .i64 0) := slotB hb ⟨by simp [go_sem], by simp [go_sem]⟩
      have r21 : Slot w1 (w.heap.size + 2) 1 (.int .i64 0) := slotB hb ⟨by simp [go_sem], by simp [go_sem]⟩
      have zb00 := lt_of_cell b00
      have zb10 := lt_of_cell b10
      have zr20 := lt_of_cell r20.1
      have hB : Below w.heap.size w w1 := hX
      clear hb hX
      go_wp2_with fail
      refine (iOrbitOf_is ps v y1 y2 n l2 false HL2.out _ (HV.out.keep (nextX hB (by go_grown))) hn).mono ?_
      rintro e w2 ⟨rb, rfl, ow2, hb⟩
      have hX : Below w1.heap.size w1 w2 := nextX (by go_grown) hb
      replace b00 := cellB hX b00
      replace b01 := cellB hX b01
      replace b10 := cellB hX b10
      replace b11 := cellB hX b11
      replace r20 := slotB hX r20
      replace r21 := slotB hX r21
      replace ow := ow.keep hX
      have zb00 := Nat.lt_of_lt_of_le zb00 hX.size
      have zb10 := Nat.lt_of_lt_of_le zb10 hX.size
      have zr20 := Nat.lt_of_lt_of_le zr20 hX.size
      replace hB := nextW hB hX
      clear hb hX
      obtain ⟨q0, k0⟩ := r20
      obtain ⟨q1, k1⟩ := r21
      go_wp2_with fail
      refine bodyPost_ret (v := .tuple #[.agg #[.int .i64 0, .int .i64 0], .bool false]) (by first | (simp [results, Tryz.results56, go_sem, q0, q1]; done) | (simp [results, Tryz.results56, go_sem, q0, q1, zr20]; done)) rfl ⟨rfl, ?_⟩
      go_grown
    · go_enter Tryz.func56, Tryz.ntmps56
      go_wp2_with fail
      refine (iOrbitOf_is ps v x1 x2 n l1 false HL1.out _ (HV.out.keep (by go_grown)) hn).mono ?_
      rintro e w1 ⟨ra, rfl, ow, hb⟩
      have hX : Below w.heap.size w w1 := nextX (by go_grown) hb
      have b00 : w1.cell? ⟨w.heap.size, 0, none⟩ = some (.int .i64 x1) := cellB hb (by simp [go_sem])
      have b01 : w1.cell? ⟨w.heap.size, 1, none⟩ = some (.int .i64 x2) := cellB hb (by simp [go_sem])
      have b10 : w1.cell? ⟨w.heap.size + 1, 0, none⟩ = some (.int .i64 y1) := cellB hb (by simp [go_sem])
      have b11 : w1.cell? ⟨w.heap.size + 1, 1, none⟩ = some (.int .i64 y2) := cellB hb (by simp [go_sem])
      have r20 : Slot w1 (w.heap.size + 2) 0 (.int .i64 0) := slotB hb ⟨by simp [go_sem], by simp [go_sem]⟩
      have r21 : Slot w1 (w.heap.size + 2) 1 (.int .i64 0) := slotB hb ⟨by simp [go_sem], by simp [go_sem]⟩
      have zb00 := lt_of_cell b00
      have zb10 := lt_of_cell b10
      have zr20 := lt_of_cell r20.1
      have hB : Below w.heap.size w w1 := hX
      clear hb hX
      go_wp2_with fail
      refine (iOrbitOf_is ps v y1 y2 n l2 true HL2.out _ (HV.out.keep (nextX hB (by go_grown))) hn).mono ?_
      rintro e w2 ⟨rb, rfl, ow2, hb⟩
      have hX : Below w1.heap.size w1 w2 := nextX (by go_grown) hb
      replace b00 := cellB hX b00
      replace b01 := cellB hX b01
      replace b10 := cellB hX b10
      replace b11 := cellB hX b11
      replace r20 := slotB hX r20
      replace r21 := slotB hX r21
      replace ow := ow.keep hX
      have zb00 := Nat.lt_of_lt_of_le zb00 hX.size
      have zb10 := Nat.lt_of_lt_of_le zb10 hX.size
      have zr20 := Nat.lt_of_lt_of_le zr20 hX.size
      replace hB := nextW hB hX
      clear hb hX
      obtain ⟨q0, k0⟩ := r20
      obtain ⟨q1, k1⟩ := r21
      go_wp2_with fail
      refine bodyPost_ret (v := .tuple #[.agg #[.int .i64 0, .int .i64 0], .bool false]) (by first | (simp [results, Tryz.results56, go_sem, q0, q1]; done) | (simp [results, Tryz.results56, go_sem, q0, q1, zr20]; done)) rfl ⟨rfl, ?_⟩
      go_grown
  · rcases t2 with _ | _
    · obtain ⟨rfl, rfl, rfl⟩ : 0 = a ∧ 0 = b ∧ false = t := by simpa using hl
      have HL1 := Lib.hid ho1
      have HL2 := Lib.hid ho2
      clear hv hl ho1 ho2
      go_enter Tryz.func56, Tryz.ntmps56
      go_wp2_with fail
      refine (iOrbitOf_is ps v x1 x2 n l1 true HL1.out _ (HV.out.keep (by go_grown)) hn).mono ?_
      rintro e w1 ⟨ra, rfl, ow, hb⟩
      have hX : Below w.heap.size w w1 := nextX (by go_grown) hb
      have b00 : w1.cell? ⟨w.heap.size, 0, none⟩ = some (.int .i64 x1) := cellB hb (by simp [go_sem])
      have b01 : w1.cell? ⟨w.heap.size, 1, none⟩ = some (.int .i64 x2) := cellB hb (by simp [go_sem])
      have b10 : w1.cell? ⟨w.heap.size + 1, 0, none⟩ = some (.int .i64 y1) := cellB hb (by simp [go_sem])
      have b11 : w1.cell? ⟨w.heap.size + 1, 1, none⟩ = some (.int .i64 y2) := cellB hb (by simp [go_sem])
      have r20 : Slot w1 (w.heap.size + 2) 0 (.int .i64 0) := slotB hb ⟨by simp [go_sem], by simp [go_sem]⟩
      have r21 : Slot w1 (w.heap.size + 2) 1 (.int .i64 0) := slotB hb ⟨by simp [go_sem], by simp [go_sem]⟩
      have zb00 := lt_of_cell b00
      have zb10 := lt_of_cell b10
      have zr20 := lt_of_cell r20.1
      have hB : Below w.heap.size w w1 := hX
      clear hb hX
      go_wp2_with fail
      refine (iOrbitOf_is ps v y1 y2 n l2 false HL2.out _ (HV.out.keep (nextX hB (by go_grown))) hn).mono ?_
      rintro e w2 ⟨rb, rfl, ow2, hb⟩
      have hX : Below w1.heap.size w1 w2 := nextX (by go_grown) hb
      replace b00 := cellB hX b00
      replace b01 := cellB hX b01
      replace b10 := cellB hX b10
      replace b11 := cellB hX b11
      replace r20 := slotB hX r20
      replace r21 := slotB hX r21
      replace ow := ow.keep hX
      have zb00 := Nat.lt_of_lt_of_le zb00 hX.size
      have zb10 := Nat.lt_of_lt_of_le zb10 hX.size
      have zr20 := Nat.lt_of_lt_of_le zr20 hX.size
      replace hB := nextW hB hX
      clear hb hX
      obtain ⟨q0, k0⟩ := r20
      obtain ⟨q1, k1⟩ := r21
      go_wp2_with fail
      refine bodyPost_ret (v := .tuple #[.agg #[.int .i64 0, .int .i64 0], .bool false]) (by first | (simp [results, Tryz.results56, go_sem, q0, q1]; done) | (simp [results, Tryz.results56, go_sem, q0, q1, zr20]; done)) rfl ⟨rfl, ?_⟩
      go_grown
    · have HL1 := Lib.hid ho1
      have HL2 := Lib.hid ho2
      have HU1 := Lib.hid (orbOf_unit ho1)
      have HU2 := Lib.hid (orbOf_unit ho2)
      obtain ⟨K, rfl, hl1, hK⟩ := orbOf_yes ho1
      obtain ⟨K2, hKK, hl2, -⟩ := orbOf_yes ho2
      obtain rfl : K2 = K := by omega
      have HLe1 := Lib.hid hl1
      have HLe2 := Lib.hid hl2
      have HH := Lib.hid hl
      clear hv hl ho1 ho2 hKK hl1 hl2
      have K0 : K2 < 61 := by omega
      go_enter Tryz.func56, Tryz.ntmps56
      go_wp2_with fail
      refine (iOrbitOf_is ps v x1 x2 K2 l1 true HL1.out _ (HV.out.keep (by go_grown)) hn).mono ?_
      rintro e w1 ⟨ra, rfl, ow, hb⟩
      have hX : Below w.heap.size w w1 := nextX (by go_grown) hb
      have b00 : w1.cell? ⟨w.heap.size, 0, none⟩ = some (.int .i64 x1) := cellB hb (by simp [go_sem])
      have b01 : w1.cell? ⟨w.heap.size, 1, none⟩ = some (.int .i64 x2) := cellB hb (by simp [go_sem])
      have b10 : w1.cell? ⟨w.heap.size + 1, 0, none⟩ = some (.int .i64 y1) := cellB hb (by simp [go_sem])
      have b11 : w1.cell? ⟨w.heap.size + 1, 1, none⟩ = some (.int .i64 y2) := cellB hb (by simp [go_sem])
      have r20 : Slot w1 (w.heap.size + 2) 0 (.int .i64 0) := slotB hb ⟨by simp [go_sem], by simp [go_sem]⟩
      have r21 : Slot w1 (w.heap.size + 2) 1 (.int .i64 0) := slotB hb ⟨by simp [go_sem], by simp [go_sem]⟩
      have zb00 := lt_of_cell b00
      have zb10 := lt_of_cell b10
      have zr20 := lt_of_cell r20.1
      have hB : Below w.heap.size w w1 := hX
      clear hb hX
      go_wp2_with fail
      refine (iOrbitOf_is ps v y1 y2 K2 l2 true HL2.out _ (HV.out.keep (nextX hB (by go_grown))) hn).mono ?_
      rintro e w2 ⟨rb, rfl, ow2, hb⟩
      have hX : Below w1.heap.size w1 w2 := nextX (by go_grown) hb
      replace b00 := cellB hX b00
      replace b01 := cellB hX b01
      replace b10 := cellB hX b10
      replace b11 := cellB hX b11
      replace r20 := slotB hX r20
      replace r21 := slotB hX r21
      replace ow := ow.keep hX
      have zb00 := Nat.lt_of_lt_of_le zb00 hX.size
      have zb10 := Nat.lt_of_lt_of_le zb10 hX.size
      have zr20 := Nat.lt_of_lt_of_le zr20 hX.size
      replace hB := nextW hB hX
      clear hb hX
      obtain ⟨g1, cap1, rfl, hc1, hc2, -, hg1, hcell1⟩ := ow.lit HLe1.out (by omega)
      obtain ⟨g2, cap2, rfl, hd1, hd2, -, hg2, hcell2⟩ := ow2.lit HLe2.out (by omega)
      unfold maxLen at hc2 hd2
      have HC1 := Lib.hid (show CellsQ w2 g1 l1 from hcell1)
      have HC2 := Lib.hid (show CellsQ w2 g2 l2 from hcell2)
      have HR := Lib.hid (And.intro r20 r21)
      clear ow ow2 hcell1 hcell2 r20 r21 b00 b01 b10 b11
      go_wp2_with fail
      refine (zero_any _).mono ?_
      rintro e w3 ⟨rfl, hb⟩
      have hX : Below w2.heap.size w2 w3 := nextX (by go_grown) hb
      have c0 : Slot w3 w2.heap.size 0 (.bool false) := slotB hb ⟨by simp [go_sem], by simp [go_sem]⟩
      have zc := lt_of_cell c0.1
      have C0 := Lib.hid c0
      clear hb c0
      go_wp2_with fail
      go_name_world W0 hW
      have hW0 : Below w2.heap.size w2 W0 := by rw [← hW]; go_grown
      have sm : Slot W0 w3.heap.size 0 (.int .i64 0) ∧ Slot W0 w3.heap.size 1 (.int .i64 1) := by rw [← hW]; exact slotNew _ _ _ _
      have sc : Slot W0 w2.heap.size 0 (.bool false) := by rw [← hW]; exact slotA _ C0.out
      have zm := lt_of_cell sm.1.1
      have SM := Lib.hid sm
      have SC := Lib.hid sc
      clear hW hX C0 sm sc
      generalize hgm : w3.heap.size = gm at *
      have hB2 := hB
      clear hgm
      go_loopw [41] (fun i wr => RelFar l1 l2 gm w2.heap.size w2 i wr) (fun i _ => K2 + 1 - (intOf i).toNat)
      case atStart => exact ⟨0, Nat.zero_le _, rfl, SM.out.1, SM.out.2, SC.out, hW0⟩
      case round =>
        obtain ⟨j, hj, rfl, sm0, sm1, sc, hb⟩ := hrel
        have hzb := hb.size
        have hlen1 := HLe1.out
        have hlen2 := HLe2.out
        by_cases hlt : j < K2 + 1
        · have hq1 := List.getElem?_eq_getElem (show j < l1.length by omega)
          have hq2 := List.getElem?_eq_getElem (show j < l2.length by omega)
          have hf := farN_next hq1 hq2
          have u1 := HU1.out _ (List.mem_of_getElem? hq1)
          have u2 := HU2.out _ (List.mem_of_getElem? hq2)
          generalize l1[j] = q at *
          generalize l2[j] = p at *
          obtain ⟨q1, q2⟩ := q
          obtain ⟨p1, p2⟩ := p
          obtain ⟨c0, c1⟩ := HC1.out _ _ hq1
          obtain ⟨d0, d1⟩ := HC2.out _ _ hq2
          have hg1 := lt_of_cell c0
          have hg2 := lt_of_cell d0
          replace c0 := cellB hb c0
          replace c1 := cellB hb c1
          replace d0 := cellB hb d0
          replace d1 := cellB hb d1
          have sq := Lib.hid (Sm.of_ok (unitQ_ok u1))
          have sp := Lib.hid (Sm.of_ok (unitQ_ok u2))
          have hmo := farN_ok l1 l2 j
          rcases hm : farN l1 l2 j with ⟨⟨m1, m2⟩, bad⟩
          rw [hm] at sm0 sm1 sc hmo hf
          have hks := keepAbs_ok (q1, q2) (p1, p2)
          rcases hk : keepQ (absQ (q1, q2) (p1, p2)) with ⟨s1, s2⟩
          rw [hk] at hks hf
          rcases hr : bigQ (m1, m2) (s1, s2) with ⟨r1, r2⟩
          obtain ⟨bad1, hbad⟩ : ∃ x, (bad || !(absQ (q1, q2) (p1, p2)).2.2) = x := ⟨_, rfl⟩
          simp only at sm0 sm1 sc hf
          rw [hbad, hr] at hf
          have SMm := Lib.hid (Sm.of_ok hmo)
          have SMs := Lib.hid (Sm.of_ok hks)
          have HF := Lib.hid hf
          have HK := Lib.hid hk
          have HRr := Lib.hid hr
          have HBd := Lib.hid hbad
          have SC := Lib.hid sc
          have S0 := Lib.hid sm0
          have S1 := Lib.hid sm1
          have zgm := lt_of_cell sm0.1
          have zgc := lt_of_cell sc.1
          clear hq1 hq2 hf u1 u2 hm hmo hks hk hr hbad sm0 sm1 sc
          have b0 : (0 : Int) ≤ (j : Int) := by omega
          have b1 : (j : Int) < ((K2 + 1 : Nat) : Int) := by omega
          have v3 : IntKind.i64.wrap (j : Int) = (j : Int) := IntWalk.i64_in _ (by omega)
          go_wp2_with fail
          have l0 := S0.out.1
          have l1 := S1.out.1
          go_region_with ((first
              | (go_at_call 91; (with_reducible refine (cDist_any q1 q2 p1 p2 s1 s2 bad bad1 w2.heap.size _ (slotD SC.out) sq.out sp.out HK.out HBd.out).mono ?_); rintro e w5 ⟨rfl, g5, k5⟩; have kB : But w2.heap.size wr w5 := But.trans (But.drew (But.refl _ wr)) k5; obtain ⟨i0, i1⟩ := slotU kB (Ne.symm (Nat.ne_of_lt zc)) S0.out; obtain ⟨i2, i3⟩ := slotU kB (Ne.symm (Nat.ne_of_lt zc)) S1.out)
              | (go_at_call 90; (with_reducible refine (greater_any m1 m2 s1 s2 r1 r2 SMm.out SMs.out HRr.out _).mono ?_); rintro e w6 ⟨rfl, hb6⟩; have hX6 : Below w5.heap.size w5 w6 := nextX (by go_grown) hb6; have hB6 : Below w2.heap.size w2 w6 := nextW (below_but hb kB (Nat.le_refl _)) hX6; obtain ⟨e0, f0⟩ := slotB hX6 (slotU kB (Ne.symm (Nat.ne_of_lt zc)) S0.out); obtain ⟨e1, f1⟩ := slotB hX6 (slotU kB (Ne.symm (Nat.ne_of_lt zc)) S1.out); have G6 := Lib.hid (slotB hX6 g5); clear g5)))
          all_goals
            go_wp2_with fail
            go_roundw
            case rel =>
              have hs := stored2 ⟨e0, f0⟩ ⟨e1, f1⟩ (.int .i64 r1) (.int .i64 r2)
              refine ⟨j + 1, by omega, by go_num, ?_, ?_, ?_, by go_grown⟩
              · rw [HF.out]; exact hs.1
              · rw [HF.out]; exact hs.2
              · rw [HF.out]; refine slotS (slotS G6.out ?_) ?_ <;> simp <;> omega
            case measure => simp [intOf]; omega
        · obtain rfl : j = K2 + 1 := by omega
          rw [hlen1] at HH
          rcases hm : farN l1 l2 (K2 + 1) with ⟨⟨m1, m2⟩, bad⟩
          rw [hm] at HH sm0 sm1 sc
          simp only at sm0 sm1 sc
          have SC := Lib.hid sc
          have hcc := sc.1
          have h0 := sm0.1
          have h1 := sm1.1
          obtain ⟨⟨z0, kz0⟩, z1, kz1⟩ := HR.out
          replace z0 := slotB hb ⟨z0, kz0⟩
          replace z1 := slotB hb ⟨z1, kz1⟩
          obtain ⟨z0, kz0⟩ := z0
          obtain ⟨z1, kz1⟩ := z1
          have hBr := nextW hB hb
          clear sm0 sm1 sc
          rcases bad with _ | _
          · obtain ⟨rfl, rfl, rfl⟩ : m1 = a ∧ m2 = b ∧ true = t := by simpa using HH.out
            go_wp2_with fail
            refine bodyPost_ret (v := .tuple #[.agg #[.int .i64 m1, .int .i64 m2], .bool true]) (by simp [results, Tryz.results56, go_sem, z0, z1]) rfl ⟨rfl, ?_⟩
            go_grown
          · obtain ⟨rfl, rfl, rfl⟩ : 0 = a ∧ 0 = b ∧ false = t := by simpa using HH.out
            go_wp2_with fail
            refine bodyPost_ret (v := .tuple #[.agg #[.int .i64 0, .int .i64 0], .bool false]) (by simp [results, Tryz.results56, go_sem, z0, z1]) rfl ⟨rfl, ?_⟩
            go_grown


end Go.Proofs.YtkeajfgcjmhmiaaGreat
