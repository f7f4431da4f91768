/- distance, greater, orApart; OrbitDistance of both. · image of a map: lesser, the closure of image, image. -/
import Derived.Test.YtkeajfgcjmhmiaaGreatJ10
import Derived.Test.YtkeajfgcjmhmiaaGreatJ9
import Derived.Test.YtkeajfgcjmhmiaaGreatJ32
import Derived.Test.YtkeajfgcjmhmiaaGreatJ6
import Derived.Carry
namespace Go.Proofs.YtkeajfgcjmhmiaaGreat
open Go.RowKit

def absQ (a b : Q) : Int × Int × Bool := if lessQ a.1 a.2 b.1 b.2 = true then subQ b.1 b.2 a.1 a.2 else subQ a.1 a.2 b.1 b.2
def bigQ (a b : Q) : Q := if lessQ a.1 a.2 b.1 b.2 = true then b else a
def farN (l1 l2 : List Q) : Nat → Q × Bool
  | 0 => ((0, 1), false)
  | k + 1 => match l1[k]?, l2[k]? with
    | some a, some b => (bigQ (farN l1 l2 k).1 (keepQ (absQ a b)), (farN l1 l2 k).2 || !(absQ a b).2.2)
    | _, _ => farN l1 l2 k
theorem farN_next {l1 l2 : List Q} {k : Nat} {a b : Q} (ha : l1[k]? = some a) (hb : l2[k]? = some b) : farN l1 l2 (k + 1) = (bigQ (farN l1 l2 k).1 (keepQ (absQ a b)), (farN l1 l2 k).2 || !(absQ a b).2.2) := by
  rw [farN, ha, hb]
theorem farN_bad {l1 l2 : List Q} {k : Nat} (h : (farN l1 l2 k).2 = true) : ∀ j, (farN l1 l2 (k + j)).2 = true
  | 0 => h
  | j + 1 => by
    have := farN_bad h j
    show (farN l1 l2 (k + j + 1)).2 = true
    rw [farN]
    split
    · simp [this]
    · exact this
theorem absQ_ok {a b : Q} (h : (absQ a b).2.2 = true) : okQ (absQ a b).1 (absQ a b).2.1 = true := by
  unfold absQ at h ⊢
  split at h <;> rename_i hl
  · rw [if_pos hl]; unfold subQ at h ⊢; split at h <;> rename_i h2
    · rw [if_pos h2]; exact (lowQ_ok (a := _) (b := _) (t := _) rfl).1 h
    · simp at h
  · rw [if_neg hl]; unfold subQ at h ⊢; split at h <;> rename_i h2
    · rw [if_pos h2]; exact (lowQ_ok (a := _) (b := _) (t := _) rfl).1 h
    · simp at h
theorem keepAbs_ok (a b : Q) : okQ (keepQ (absQ a b)).1 (keepQ (absQ a b)).2 = true := by
  unfold keepQ
  split
  · rename_i h; exact absQ_ok h
  · decide
theorem farN_ok (l1 l2 : List Q) : ∀ k, okQ (farN l1 l2 k).1.1 (farN l1 l2 k).1.2 = true
  | 0 => by show okQ 0 1 = true; decide
  | k + 1 => by
    rw [farN]
    split
    · simp only [bigQ]; split
      · exact keepAbs_ok _ _
      · exact farN_ok l1 l2 k
    · exact farN_ok l1 l2 k
theorem absQ_low {a b : Q} (ha : okQ a.1 a.2 = true) (hb : okQ b.1 b.2 = true) : absQ a b = if lessQ a.1 a.2 b.1 b.2 = true then lowQ (b.1 * a.2 - a.1 * b.2) (b.2 * a.2) else lowQ (a.1 * b.2 - b.1 * a.2) (a.2 * b.2) := by
  unfold absQ subQ
  rw [ha, hb]; rfl
theorem stored2 {X : World} {g : Nat} {u v : Value} (s0 : Slot X g 0 u) (s1 : Slot X g 1 v) (a b : Value) : Slot ((X.setCell ⟨g, 0, none⟩ a).setCell ⟨g, 1, none⟩ b) g 0 a ∧ Slot ((X.setCell ⟨g, 0, none⟩ a).setCell ⟨g, 1, none⟩ b) g 1 b :=
  ⟨slotS (slotN s0) (by simp), slotN (slotS s1 (by simp))⟩
theorem lessQ_cmp' (n1 d1 n2 d2 y : Int) (h : cmpQ n1 d1 n2 d2 = y) : lessQ n1 d1 n2 d2 = decide (y < 0) := by rw [lessQ_cmp, h]

set_option maxHeartbeats 400000 in
theorem greater_any (n1 d1 n2 d2 p q : Int) (sa : Sm n1 ∧ Sm d1) (sb : Sm n2 ∧ Sm d2) (h : bigQ (n1, d1) (n2, d2) = (p, q)) (w : World) :
    Calls Tryz.prog 90 #[.agg #[.int .i64 n1, .int .i64 d1], .agg #[.int .i64 n2, .int .i64 d2]] w fun e w' => e = .returned (.agg #[.int .i64 p, .int .i64 q]) ∧ Below w.heap.size w w' := by
  have SA := Lib.hid sa
  have SB := Lib.hid sb
  rcases hl : lessQ n1 d1 n2 d2 with _ | _
  · obtain ⟨rfl, rfl⟩ : n1 = p ∧ d1 = q := by unfold bigQ at h; simp only [hl] at h; simpa using h
    have HL := Lib.hid hl
    clear h hl sa sb
    go_enter Tryz.func90, Tryz.ntmps90
    go_wp2_with fail
    refine (less_any n1 d1 n2 d2 SA.out.1 SA.out.2 SB.out.1 SB.out.2 _).mono ?_
    rintro e w1 ⟨he, hb⟩
    rw [HL.out] at he
    subst he
    have hX : Below w.heap.size w w1 := nextX (by go_grown) hb
    have b00 : w1.cell? ⟨w.heap.size, 0, none⟩ = some (.int .i64 n1) := cellB hb (by simp [go_sem])
    have b01 : w1.cell? ⟨w.heap.size, 1, none⟩ = some (.int .i64 d1) := cellB hb (by simp [go_sem])
    have b10 : w1.cell? ⟨w.heap.size + 1, 0, none⟩ = some (.int .i64 n2) := cellB hb (by simp [go_sem])
    have b11 : w1.cell? ⟨w.heap.size + 1, 1, none⟩ = some (.int .i64 d2) := cellB hb (by simp [go_sem])
    have r20 : Slot w1 (w.heap.size + 2) 0 (.int .i64 0) := slotB hb ⟨by simp [go_sem], by simp [go_sem]⟩
    have r21 : Slot w1 (w.heap.size + 2) 1 (.int .i64 0) := slotB hb ⟨by simp [go_sem], by simp [go_sem]⟩
    have zb00 := lt_of_cell b00
    have zb10 := lt_of_cell b10
    have zr20 := lt_of_cell r20.1
    have hB : Below w.heap.size w w1 := hX
    clear hb hX
    obtain ⟨q0, k0⟩ := r20
    obtain ⟨q1, k1⟩ := r21
    go_wp2_with fail
    refine bodyPost_ret (v := .agg #[.int .i64 n1, .int .i64 d1]) (by first | (simp [results, Tryz.results90, go_sem, q0, q1]; done) | (simp [results, Tryz.results90, go_sem, q0, q1, zr20]; done)) rfl ⟨rfl, ?_⟩
    go_grown
  · obtain ⟨rfl, rfl⟩ : n2 = p ∧ d2 = q := by unfold bigQ at h; simp only [hl] at h; simpa using h
    have HL := Lib.hid hl
    clear h hl sa sb
    go_enter Tryz.func90, Tryz.ntmps90
    go_wp2_with fail
    refine (less_any n1 d1 n2 d2 SA.out.1 SA.out.2 SB.out.1 SB.out.2 _).mono ?_
    rintro e w1 ⟨he, hb⟩
    rw [HL.out] at he
    subst he
    have hX : Below w.heap.size w w1 := nextX (by go_grown) hb
    have b00 : w1.cell? ⟨w.heap.size, 0, none⟩ = some (.int .i64 n1) := cellB hb (by simp [go_sem])
    have b01 : w1.cell? ⟨w.heap.size, 1, none⟩ = some (.int .i64 d1) := cellB hb (by simp [go_sem])
    have b10 : w1.cell? ⟨w.heap.size + 1, 0, none⟩ = some (.int .i64 n2) := cellB hb (by simp [go_sem])
    have b11 : w1.cell? ⟨w.heap.size + 1, 1, none⟩ = some (.int .i64 d2) := cellB hb (by simp [go_sem])
    have r20 : Slot w1 (w.heap.size + 2) 0 (.int .i64 0) := slotB hb ⟨by simp [go_sem], by simp [go_sem]⟩
    have r21 : Slot w1 (w.heap.size + 2) 1 (.int .i64 0) := slotB hb ⟨by simp [go_sem], by simp [go_sem]⟩
    have zb00 := lt_of_cell b00
    have zb10 := lt_of_cell b10
    have zr20 := lt_of_cell r20.1
    have hB : Below w.heap.size w w1 := hX
    clear hb hX
    obtain ⟨q0, k0⟩ := r20
    obtain ⟨q1, k1⟩ := r21
    go_wp2_with fail
    refine bodyPost_ret (v := .agg #[.int .i64 n2, .int .i64 d2]) (by first | (simp [results, Tryz.results90, go_sem, q0, q1]; done) | (simp [results, Tryz.results90, go_sem, q0, q1, zr20]; done)) rfl ⟨rfl, ?_⟩
    go_grown

set_option maxHeartbeats 800000 in
theorem cDist_any (n1 d1 n2 d2 p q : Int) (bad bad' : Bool) (g : Nat) (w : World) (hs : Slot w g 0 (.bool bad)) (sa : Sm n1 ∧ Sm d1) (sb : Sm n2 ∧ Sm d2) (hp : keepQ (absQ (n1, d1) (n2, d2)) = (p, q)) (hb : (bad || !(absQ (n1, d1) (n2, d2)).2.2) = bad') :
    Calls Tryz.prog 91 #[.pointer (some ⟨g, 0, none⟩), .agg #[.int .i64 n1, .int .i64 d1], .agg #[.int .i64 n2, .int .i64 d2]] w (KeepEnd g p q bad' w) := by
  have hg := lt_of_cell hs.1
  have SA := Lib.hid sa
  have SB := Lib.hid sb
  have HS := Lib.hid hs
  unfold absQ at hp hb
  simp only at hp hb
  rcases hl : lessQ n1 d1 n2 d2 with _ | _
  · rw [hl] at hp hb
    simp only [Bool.false_eq_true, if_false] at hp hb
    have HL := Lib.hid hl
    have HP := Lib.hid hp
    have HB := Lib.hid hb
    clear hp hb hl sa sb hs
    go_enter Tryz.func91, Tryz.ntmps91
    go_wp2_with fail
    refine (less_any n1 d1 n2 d2 SA.out.1 SA.out.2 SB.out.1 SB.out.2 _).mono ?_
    rintro e w1 ⟨he, hb⟩
    rw [HL.out] at he
    subst he
    obtain ⟨a0, fa0⟩ : Slot w1 w.heap.size 0 (.int .i64 n1) := slotB hb ⟨by simp [go_sem], by simp [go_sem]⟩
    obtain ⟨a1, fa1⟩ : Slot w1 w.heap.size 1 (.int .i64 d1) := slotB hb ⟨by simp [go_sem], by simp [go_sem]⟩
    obtain ⟨b0, fb0⟩ : Slot w1 (w.heap.size + 1) 0 (.int .i64 n2) := slotB hb ⟨by simp [go_sem], by simp [go_sem]⟩
    obtain ⟨b1, fb1⟩ : Slot w1 (w.heap.size + 1) 1 (.int .i64 d2) := slotB hb ⟨by simp [go_sem], by simp [go_sem]⟩
    have r0 : Slot w1 (w.heap.size + 2) 0 (.int .i64 0) := slotB hb ⟨by simp [go_sem], by simp [go_sem]⟩
    have r1 : Slot w1 (w.heap.size + 2) 1 (.int .i64 0) := slotB hb ⟨by simp [go_sem], by simp [go_sem]⟩
    have s1 : Slot w1 g 0 (.bool bad) := slotB hb (slotA _ (slotA _ (slotA _ HS.out)))
    have k1 : But g w w1 := But.next ((((But.refl g w).alloc _).alloc _).alloc _) hb (Nat.le_refl _)
    have z := lt_of_cell r0.1
    have S1 := Lib.hid s1
    have K1 := Lib.hid k1
    have R0 := Lib.hid r0
    have R1 := Lib.hid r1
    clear hb s1 k1 r0 r1
    go_wp2_with fail
    have s1 := S1.out
    have r0 := R0.out
    have r1 := R1.out
    have k1 := K1.out
    refine (cSub_any n1 d1 n2 d2 p q bad bad' g _ s1 (by have := SB.out.1; unfold Sm at this; omega) HP.out HB.out).mono ?_
    rintro e w2 ⟨rfl, s2, k2⟩
    obtain ⟨q0, f0⟩ := slotU k2 (by omega) r0
    obtain ⟨q1, f1⟩ := slotU k2 (by omega) r1
    replace k1 := k1.trans k2
    have S2 := Lib.hid s2
    clear k2 s1 r0 r1 s2
    go_wp2_with fail
    refine bodyPost_ret (v := .agg #[.int .i64 p, .int .i64 q]) (by simp [results, Tryz.results91, go_sem, q0, q1]) rfl ⟨rfl, ?_, ?_⟩
    · refine slotS (slotS S2.out ?_) ?_ <;> simp <;> omega
    · refine But.setNew (But.setNew k1 ?_ _) ?_ _ <;> omega
  · rw [hl] at hp hb
    simp only [if_true] at hp hb
    have HL := Lib.hid hl
    have HP := Lib.hid hp
    have HB := Lib.hid hb
    clear hp hb hl sa sb hs
    go_enter Tryz.func91, Tryz.ntmps91
    go_wp2_with fail
    refine (less_any n1 d1 n2 d2 SA.out.1 SA.out.2 SB.out.1 SB.out.2 _).mono ?_
    rintro e w1 ⟨he, hb⟩
    rw [HL.out] at he
    subst he
    obtain ⟨a0, fa0⟩ : Slot w1 w.heap.size 0 (.int .i64 n1) := slotB hb ⟨by simp [go_sem], by simp [go_sem]⟩
    obtain ⟨a1, fa1⟩ : Slot w1 w.heap.size 1 (.int .i64 d1) := slotB hb ⟨by simp [go_sem], by simp [go_sem]⟩
    obtain ⟨b0, fb0⟩ : Slot w1 (w.heap.size + 1) 0 (.int .i64 n2) := slotB hb ⟨by simp [go_sem], by simp [go_sem]⟩
    obtain ⟨b1, fb1⟩ : Slot w1 (w.heap.size + 1) 1 (.int .i64 d2) := slotB hb ⟨by simp [go_sem], by simp [go_sem]⟩
    have r0 : Slot w1 (w.heap.size + 2) 0 (.int .i64 0) := slotB hb ⟨by simp [go_sem], by simp [go_sem]⟩
    have r1 : Slot w1 (w.heap.size + 2) 1 (.int .i64 0) := slotB hb ⟨by simp [go_sem], by simp [go_sem]⟩
    have s1 : Slot w1 g 0 (.bool bad) := slotB hb (slotA _ (slotA _ (slotA _ HS.out)))
    have k1 : But g w w1 := But.next ((((But.refl g w).alloc _).alloc _).alloc _) hb (Nat.le_refl _)
    have z := lt_of_cell r0.1
    have S1 := Lib.hid s1
    have K1 := Lib.hid k1
    have R0 := Lib.hid r0
    have R1 := Lib.hid r1
    clear hb s1 k1 r0 r1
    go_wp2_with fail
    refine (cSub_any n2 d2 n1 d1 p q bad bad' g _ ?hs (by have := SA.out.1; unfold Sm at this; omega) HP.out HB.out).mono ?_
    case hs => refine slotS (slotS (slotS (slotS S1.out ?_) ?_) ?_) ?_ <;> simp <;> omega
    rintro e w2 ⟨rfl, s2, k2⟩
    obtain ⟨q0, f0⟩ := slotU k2 (by omega) (slotS (slotS (slotS (slotS R0.out (by simp)) (by simp)) (by simp)) (by simp))
    obtain ⟨q1, f1⟩ := slotU k2 (by omega) (slotS (slotS (slotS (slotS R1.out (by simp)) (by simp)) (by simp)) (by simp))
    have k3 := But.trans (But.setNew (But.setNew (But.setNew (But.setNew K1.out (Nat.le_refl _) _) (Nat.le_refl _) _) (Nat.le_succ _) _) (Nat.le_succ _) _) k2
    have k1 := k3
    clear k3 a0 a1 b0 b1 fa0 fa1 fb0 fb1
    have S2 := Lib.hid s2
    clear k2 s2
    go_wp2_with fail
    refine bodyPost_ret (v := .agg #[.int .i64 p, .int .i64 q]) (by simp [results, Tryz.results91, go_sem, q0, q1]) rfl ⟨rfl, ?_, ?_⟩
    · refine slotS (slotS S2.out ?_) ?_ <;> simp <;> omega
    · refine But.setNew (But.setNew k1 ?_ _) ?_ _ <;> omega

end Go.Proofs.YtkeajfgcjmhmiaaGreat

namespace Go.Proofs.YtkeajfgcjmhmiaaGreat
open Go.RowKit

def lesserQ (a b : Q) : Q := if lessQ b.1 b.2 a.1 a.2 = true then b else a
/-- All is as it was but two blocks. -/
structure But2 (g h : Nat) (w w' : World) : Prop where
  os : w'.os = w.os
  tape : w'.tape = w.tape
  output : w'.output = w.output
  size : w.heap.size ≤ w'.heap.size
  block : ∀ k, k < w.heap.size → k ≠ g → k ≠ h → w'.heap[k]? = w.heap[k]?
theorem But2.refl (g h : Nat) (w : World) : But2 g h w w := ⟨rfl, rfl, rfl, Nat.le_refl _, fun _ _ _ _ => rfl⟩
theorem But2.trans {g h : Nat} {a b c : World} (x : But2 g h a b) (y : But2 g h b c) : But2 g h a c :=
  ⟨y.os.trans x.os, y.tape.trans x.tape, y.output.trans x.output, Nat.le_trans x.size y.size, fun i hi hn hm => (y.block i (Nat.lt_of_lt_of_le hi x.size) hn hm).trans (x.block i hi hn hm)⟩
theorem But2.of_below {g h : Nat} {w w' : World} (x : Below w.heap.size w w') : But2 g h w w' := ⟨x.os, x.tape, x.output, x.size, fun k hk _ _ => x.block k hk⟩
theorem But2.one {g h : Nat} {w w' : World} (x : But g w w') : But2 g h w w' := ⟨x.os, x.tape, x.output, x.size, fun k hk hn _ => x.block k hk hn⟩
theorem But2.two {g h : Nat} {w w' : World} (x : But h w w') : But2 g h w w' := ⟨x.os, x.tape, x.output, x.size, fun k hk _ hn => x.block k hk hn⟩
theorem But2.next {g h : Nat} {w X w' : World} (x : But2 g h w X) (y : Below X.heap.size X w') : But2 g h w w' := x.trans (But2.of_below y)
theorem cell2 {g h b o : Nat} {w w' : World} {v : Value} (x : But2 g h w w') (hn : b ≠ g) (hm : b ≠ h) (hc : w.cell? ⟨b, o, none⟩ = some v) : w'.cell? ⟨b, o, none⟩ = some v :=
  (World.cell?_of_block (w := w) (x.block b (lt_of_cell hc) hn hm)).trans hc
theorem slot2 {g h b o : Nat} {w w' : World} {v : Value} (x : But2 g h w w') (hn : b ≠ g) (hm : b ≠ h) (hc : Slot w b o v) : Slot w' b o v :=
  ⟨cell2 x hn hm hc.1, (World.frozen?_of_block (w := w) (x.block b (lt_of_cell hc.1) hn hm)).trans hc.2⟩
theorem But2.after {gc g h : Nat} {w a b : World} (x : But gc w a) (y : But2 g h a b) (hg : w.heap.size ≤ g) (hh : w.heap.size ≤ h) : But gc w b :=
  ⟨y.os.trans x.os, y.tape.trans x.tape, y.output.trans x.output, Nat.le_trans x.size y.size, fun i hi hn => (y.block i (Nat.lt_of_lt_of_le hi x.size) (by omega) (by omega)).trans (x.block i hi hn)⟩
theorem But2.below {g h : Nat} {w a b : World} (x : Below w.heap.size w a) (y : But2 g h a b) (hg : w.heap.size ≤ g) (hh : w.heap.size ≤ h) : Below w.heap.size w b :=
  ⟨y.os.trans x.os, y.tape.trans x.tape, y.output.trans x.output, Nat.le_trans x.size y.size, fun i hi => (y.block i (Nat.lt_of_lt_of_le hi x.size) (by omega) (by omega)).trans (x.block i hi)⟩

set_option maxHeartbeats 400000 in
theorem lesser_any (n1 d1 n2 d2 p q : Int) (sa : Sm n1 ∧ Sm d1) (sb : Sm n2 ∧ Sm d2) (h : lesserQ (n1, d1) (n2, d2) = (p, q)) (w : World) :
    Calls Tryz.prog 109 #[.agg #[.int .i64 n1, .int .i64 d1], .agg #[.int .i64 n2, .int .i64 d2]] w fun e w' => e = .returned (.agg #[.int .i64 p, .int .i64 q]) ∧ Below w.heap.size w w' := by
  have SA := Lib.hid sa
  have SB := Lib.hid sb
  rcases hl : lessQ n2 d2 n1 d1 with _ | _
  · obtain ⟨rfl, rfl⟩ : n1 = p ∧ d1 = q := by unfold lesserQ at h; simp only [hl] at h; simpa using h
    have HL := Lib.hid hl
    clear h hl sa sb
    go_enter Tryz.func109, Tryz.ntmps109
    go_wp2_with fail
    refine (less_any n2 d2 n1 d1 SB.out.1 SB.out.2 SA.out.1 SA.out.2 _).mono ?_
    rintro e w1 ⟨he, hb⟩
    rw [HL.out] at he
    subst he
    have hX : Below w.heap.size w w1 := nextX (by go_grown) hb
    have b00 : w1.cell? ⟨w.heap.size, 0, none⟩ = some (.int .i64 n1) := cellB hb (by simp [go_sem])
    have b01 : w1.cell? ⟨w.heap.size, 1, none⟩ = some (.int .i64 d1) := cellB hb (by simp [go_sem])
    have b10 : w1.cell? ⟨w.heap.size + 1, 0, none⟩ = some (.int .i64 n2) := cellB hb (by simp [go_sem])
    have b11 : w1.cell? ⟨w.heap.size + 1, 1, none⟩ = some (.int .i64 d2) := cellB hb (by simp [go_sem])
    have r20 : Slot w1 (w.heap.size + 2) 0 (.int .i64 0) := slotB hb ⟨by simp [go_sem], by simp [go_sem]⟩
    have r21 : Slot w1 (w.heap.size + 2) 1 (.int .i64 0) := slotB hb ⟨by simp [go_sem], by simp [go_sem]⟩
    have zb00 := lt_of_cell b00
    have zb10 := lt_of_cell b10
    have zr20 := lt_of_cell r20.1
    have hB : Below w.heap.size w w1 := hX
    clear hb hX
    obtain ⟨q0, k0⟩ := r20
    obtain ⟨q1, k1⟩ := r21
    go_wp2_with fail
    refine bodyPost_ret (v := .agg #[.int .i64 n1, .int .i64 d1]) (by first | (simp [results, Tryz.results109, go_sem, q0, q1]; done) | (simp [results, Tryz.results109, go_sem, q0, q1, zr20]; done)) rfl ⟨rfl, ?_⟩
    go_grown
  · obtain ⟨rfl, rfl⟩ : n2 = p ∧ d2 = q := by unfold lesserQ at h; simp only [hl] at h; simpa using h
    have HL := Lib.hid hl
    clear h hl sa sb
    go_enter Tryz.func109, Tryz.ntmps109
    go_wp2_with fail
    refine (less_any n2 d2 n1 d1 SB.out.1 SB.out.2 SA.out.1 SA.out.2 _).mono ?_
    rintro e w1 ⟨he, hb⟩
    rw [HL.out] at he
    subst he
    have hX : Below w.heap.size w w1 := nextX (by go_grown) hb
    have b00 : w1.cell? ⟨w.heap.size, 0, none⟩ = some (.int .i64 n1) := cellB hb (by simp [go_sem])
    have b01 : w1.cell? ⟨w.heap.size, 1, none⟩ = some (.int .i64 d1) := cellB hb (by simp [go_sem])
    have b10 : w1.cell? ⟨w.heap.size + 1, 0, none⟩ = some (.int .i64 n2) := cellB hb (by simp [go_sem])
    have b11 : w1.cell? ⟨w.heap.size + 1, 1, none⟩ = some (.int .i64 d2) := cellB hb (by simp [go_sem])
    have r20 : Slot w1 (w.heap.size + 2) 0 (.int .i64 0) := slotB hb ⟨by simp [go_sem], by simp [go_sem]⟩
    have r21 : Slot w1 (w.heap.size + 2) 1 (.int .i64 0) := slotB hb ⟨by simp [go_sem], by simp [go_sem]⟩
    have zb00 := lt_of_cell b00
    have zb10 := lt_of_cell b10
    have zr20 := lt_of_cell r20.1
    have hB : Below w.heap.size w w1 := hX
    clear hb hX
    obtain ⟨q0, k0⟩ := r20
    obtain ⟨q1, k1⟩ := r21
    go_wp2_with fail
    refine bodyPost_ret (v := .agg #[.int .i64 n2, .int .i64 d2]) (by first | (simp [results, Tryz.results109, go_sem, q0, q1]; done) | (simp [results, Tryz.results109, go_sem, q0, q1, zr20]; done)) rfl ⟨rfl, ?_⟩
    go_grown

end Go.Proofs.YtkeajfgcjmhmiaaGreat
