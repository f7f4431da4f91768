/- The laws' own functions on points: toPoint, toPointS, szPointS, eqPoint, eqPointS. -/
import Derived.Test.YtkdhhopfefhdjaaConv
import Derived.Test.YtkdhhopfefhdjaaRow
import Derived.Deep.RegionHeld3
import Derived.Deep.DrawnRows
namespace Go.Proofs.Ytkdhhopfefhdjaa
open Go.RowKit

set_option maxHeartbeats 400000 in
theorem toPoint_any (a b c d : Int) (w : World) :
    Calls Try.prog 74 #[.agg #[.int .i64 a, .int .i64 b, .int .i64 c, .int .i64 d]] w fun e w' => e = .returned (.agg #[.int .i64 a, .int .i64 b, .int .i64 c, .int .i64 d]) ∧ Below w.heap.size w w' := by
  go_enter Try.func74, Try.ntmps74
  go_wp2_with fail
  refine (toRat_any a b _).mono ?_
  rintro e w1 ⟨rfl, hb⟩
  have c2 : w1.cell? ⟨w.heap.size, 2, none⟩ = some (.int .i64 c) := cellB hb (by simp [go_sem])
  have c3 : w1.cell? ⟨w.heap.size, 3, none⟩ = some (.int .i64 d) := cellB hb (by simp [go_sem])
  have r0 : Slot w1 (w.heap.size + 1) 0 (.int .i64 0) := slotB hb ⟨by simp [go_sem], by simp [go_sem]⟩
  have r1 : Slot w1 (w.heap.size + 1) 1 (.int .i64 0) := slotB hb ⟨by simp [go_sem], by simp [go_sem]⟩
  have r2 : Slot w1 (w.heap.size + 1) 2 (.int .i64 0) := slotB hb ⟨by simp [go_sem], by simp [go_sem]⟩
  have r3 : Slot w1 (w.heap.size + 1) 3 (.int .i64 0) := slotB hb ⟨by simp [go_sem], by simp [go_sem]⟩
  obtain ⟨q0, f0⟩ : Slot w1 (w.heap.size + 2) 0 (.int .i64 0) := slotB hb ⟨by simp [go_sem], by simp [go_sem]⟩
  obtain ⟨q1, f1⟩ : Slot w1 (w.heap.size + 2) 1 (.int .i64 0) := slotB hb ⟨by simp [go_sem], by simp [go_sem]⟩
  obtain ⟨q2, f2⟩ : Slot w1 (w.heap.size + 2) 2 (.int .i64 0) := slotB hb ⟨by simp [go_sem], by simp [go_sem]⟩
  obtain ⟨q3, f3⟩ : Slot w1 (w.heap.size + 2) 3 (.int .i64 0) := slotB hb ⟨by simp [go_sem], by simp [go_sem]⟩
  have hB : Below w.heap.size w w1 := nextB (by go_grown) (by go_size) hb
  clear hb
  go_wp2_with fail
  generalize hX : (w1.setCell ⟨w.heap.size + 2, 0, none⟩ (.int .i64 a)).setCell ⟨w.heap.size + 2, 1, none⟩ (.int .i64 b) = X
  have hBX : Below w.heap.size w X := by rw [← hX]; exact (hB.setCell (by simp) _).setCell (by simp) _
  have x0 : Slot X (w.heap.size + 2) 0 (.int .i64 a) := by rw [← hX]; exact slotS (slotN ⟨q0, f0⟩) (by simp)
  have x1 : Slot X (w.heap.size + 2) 1 (.int .i64 b) := by rw [← hX]; exact slotN (slotS ⟨q1, f1⟩ (by simp))
  have x2 : Slot X (w.heap.size + 2) 2 (.int .i64 0) := by rw [← hX]; exact slotS (slotS ⟨q2, f2⟩ (by simp)) (by simp)
  have x3 : Slot X (w.heap.size + 2) 3 (.int .i64 0) := by rw [← hX]; exact slotS (slotS ⟨q3, f3⟩ (by simp)) (by simp)
  replace r0 : Slot X (w.heap.size + 1) 0 (.int .i64 0) := by rw [← hX]; exact slotS (slotS r0 (by simp)) (by simp)
  replace r1 : Slot X (w.heap.size + 1) 1 (.int .i64 0) := by rw [← hX]; exact slotS (slotS r1 (by simp)) (by simp)
  replace r2 : Slot X (w.heap.size + 1) 2 (.int .i64 0) := by rw [← hX]; exact slotS (slotS r2 (by simp)) (by simp)
  replace r3 : Slot X (w.heap.size + 1) 3 (.int .i64 0) := by rw [← hX]; exact slotS (slotS r3 (by simp)) (by simp)
  clear hX q0 q1 q2 q3 f0 f1 f2 f3 hB
  refine (toRat_any c d _).mono ?_
  rintro e w2 ⟨rfl, hb⟩
  obtain ⟨q0, f0⟩ := slotB hb x0
  obtain ⟨q1, f1⟩ := slotB hb x1
  obtain ⟨q2, f2⟩ := slotB hb x2
  obtain ⟨q3, f3⟩ := slotB hb x3
  obtain ⟨p0, g0⟩ := slotB hb r0
  obtain ⟨p1, g1⟩ := slotB hb r1
  obtain ⟨p2, g2⟩ := slotB hb r2
  obtain ⟨p3, g3⟩ := slotB hb r3
  have hB := nextW hBX hb
  clear hb x0 x1 x2 x3 r0 r1 r2 r3 hBX c2 c3
  go_wp2_with fail
  refine bodyPost_ret (v := .agg #[.int .i64 a, .int .i64 b, .int .i64 c, .int .i64 d]) (by simp [results, Try.results74, go_sem, p0, p1, p2, p3]) rfl ⟨rfl, ?_⟩
  go_grown

/-- The cells of a new slice of points. -/
def zerosP (n : Nat) : Array Value := madeCells #[.int .i64 0, .int .i64 0, .int .i64 0, .int .i64 0] (n * 4)
theorem zerosP_at (n j : Nat) (h : j < n * 4) : (zerosP n)[j]? = some (.int .i64 0) := by
  unfold zerosP madeCells
  have h4 : j % 4 = 0 ∨ j % 4 = 1 ∨ j % 4 = 2 ∨ j % 4 = 3 := by omega
  rcases h4 with h4 | h4 | h4 | h4 <;> simp [h, h4]
theorem zerosP_size (n : Nat) : (zerosP n).size = n * 4 := by unfold zerosP; exact size_madeCells _ _

theorem Try.infoP : (Try.prog.info? 70).map (fun i => (i.zero, i.size, i.bytes)) = some (some (.agg #[.int .i64 0, .int .i64 0, .int .i64 0, .int .i64 0]), 4, 32) := by kernel_rfl
theorem run_makeP (n : Nat) (hn : n ≤ 1048576) (w : World) : (Instr.makeSlice 25 (.int .i64 (n : Int)) (.int .i64 (n : Int))).run Try.prog w = .ok (.slice (some ⟨w.heap.size, 0, none⟩) n n) (w.alloc (.cells (zerosP n) 70)) := by
  obtain ⟨i, hi, hz, hs, hb⟩ := info_parts Try.infoP
  have h := run_make (P := Try.prog) w 25 70 i _ Try.underlying25 hi hz .i64 .i64 n n (by omega) (Int.le_refl _) (by rw [hb]; omega) (by omega)
  simp only [Int.toNat_natCast, hs] at h
  exact h

/-- A call that gives a row of points of its own. -/
def RetP (w : World) (ps : List Pt) (e : Ending) (w' : World) : Prop := ∃ r, e = .returned r ∧ OwP w.heap.size 70 w' r ps ∧ Below w.heap.size w w'

def fillP (ps : List Pt) (k : Nat) (j : Nat) : Value := if j < k * 4 then cellP ps j else .int .i64 0
def RelTo (ps : List Pt) (w : World) (i : Value) (wr : World) : Prop :=
  ∃ k : Nat, k ≤ ps.length ∧ i = .int .i64 k ∧ wr.rowIs w.heap.size 70 (ps.length * 4) (fillP ps k) ∧ Below w.heap.size w wr

theorem fillP_step {ps : List Pt} {k : Nat} {p : Pt} (h : ps[k]? = some p) {w : World} {g n : Nat} {t : TypeId} (hr : w.rowIs g t n (fillP ps k)) :
    ((((w.setCell ⟨g, k * 4, none⟩ (.int .i64 p.1.1)).setCell ⟨g, k * 4 + 1, none⟩ (.int .i64 p.1.2)).setCell ⟨g, k * 4 + 2, none⟩ (.int .i64 p.2.1)).setCell ⟨g, k * 4 + 3, none⟩ (.int .i64 p.2.2)).rowIs g t n (fillP ps (k + 1)) := by
  obtain ⟨a, b, c, d⟩ := cellP_get h
  refine (World.rowIs.set (World.rowIs.set (World.rowIs.set (World.rowIs.set hr _ _) _ _) _ _) _ _).congr fun j _ => ?_
  unfold fillP
  by_cases h3 : j = k * 4 + 3
  · subst h3; simp only [if_true]; rw [if_pos (by omega), d]
  · rw [if_neg h3]
    by_cases h2 : j = k * 4 + 2
    · subst h2; simp only [if_true]; rw [if_pos (by omega), c]
    · rw [if_neg h2]
      by_cases h1 : j = k * 4 + 1
      · subst h1; simp only [if_true]; rw [if_pos (by omega), b]
      · rw [if_neg h1]
        by_cases h0 : j = k * 4
        · subst h0; simp only [if_true]; rw [if_pos (by omega), a]
        · rw [if_neg h0]
          by_cases hlt : j < k * 4
          · rw [if_pos hlt, if_pos (by omega)]
          · rw [if_neg hlt, if_neg (by omega)]

set_option maxHeartbeats 800000 in
theorem toPointS_any (ps : List Pt) (v : Value) (w : World) (hv : RdP w v ps) (hn : ps.length ≤ 1048576) :
    Calls Try.prog 24 #[v] w (RetP w ps) := by
  obtain ⟨A, c, rfl, hl, hm, hcell⟩ := hv
  unfold maxLen at hm
  have HC := Lib.hid hcell
  clear hcell
  have hmk := run_makeP ps.length hn
  go_enter Try.func24, Try.ntmps24
  go_wp2_with fail
  go_loopw [4] (fun i wr => RelTo ps w i wr) (fun i _ => ps.length - (intOf i).toNat)
  case atStart =>
    refine ⟨0, Nat.zero_le _, rfl, ?_, (Below.refl _ _).alloc (Nat.le_refl _) _⟩
    have h := World.rowIs_alloc w (zerosP ps.length) 70 (fun _ => .int .i64 0) (fun i hi => zerosP_at _ _ (by rw [zerosP_size] at hi; exact hi))
    rw [zerosP_size] at h
    exact h.congr fun j _ => by simp [fillP]
  case round =>
    obtain ⟨k, hk, rfl, hrow, hb⟩ := hrel
    clear hmk
    by_cases hlt : k < ps.length
    · obtain ⟨g, o, rfl, hg, hc⟩ := HC.out (by intro h; rw [h] at hlt; simp at hlt)
      have hq := hc k ps[k] (List.getElem?_eq_getElem hlt)
      have hqk := List.getElem?_eq_getElem hlt
      generalize ps[k] = q at *
      obtain ⟨⟨a1, a2⟩, a3, a4⟩ := q
      obtain ⟨c0, c1, c2, c3⟩ := hq
      rw [← hb.cell (p := ⟨g, _, none⟩) hg] at c0 c1 c2 c3
      clear hc HC
      have HQ := Lib.hid hqk
      have HR := Lib.hid hrow
      clear hqk hrow
      go_wp2_with fail
      refine (toPoint_any a1 a2 a3 a4 _).mono ?_
      rintro e w1 ⟨rfl, hb1⟩
      have hrow : w1.rowIs w.heap.size 70 (ps.length * 4) (fillP ps k) := HR.out.of_block (hb1.block _ HR.out.lt)
      have d0 := hrow.cell (show k * 4 < ps.length * 4 by omega)
      have d1 := hrow.cell (show k * 4 + 1 < ps.length * 4 by omega)
      have d2 := hrow.cell (show k * 4 + 2 < ps.length * 4 by omega)
      have d3 := hrow.cell (show k * 4 + 3 < ps.length * 4 by omega)
      have e0 := hrow.frozen (k * 4)
      have e1 := hrow.frozen (k * 4 + 1)
      have e2 := hrow.frozen (k * 4 + 2)
      have e3 := hrow.frozen (k * 4 + 3)
      have HS := Lib.hid (fillP_step HQ.out hrow)
      have hB := nextW hb hb1
      clear hrow hb1 c0 c1 c2 c3
      go_wp2_with fail
      go_roundw
      case rel => exact ⟨k + 1, by omega, by go_num, HS.out, (((hB.setCell (Nat.le_refl _) _).setCell (Nat.le_refl _) _).setCell (Nat.le_refl _) _).setCell (Nat.le_refl _) _⟩
      case measure => simp [intOf]; omega
    · obtain rfl : k = ps.length := by omega
      have HR := Lib.hid hrow
      clear hrow
      go_wp2_with fail
      go_ret
      refine ⟨_, rfl, OwP.of_row HR.out (fun j hj => by unfold fillP; rw [if_pos hj]) (Nat.le_refl _) (by unfold maxLen; omega), hb⟩

end Go.Proofs.Ytkdhhopfefhdjaa
