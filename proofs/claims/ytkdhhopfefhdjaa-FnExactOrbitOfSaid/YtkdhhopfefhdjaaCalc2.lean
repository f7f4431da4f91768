/- add, sub, mul and div of the program's 'calc'. -/
import Derived.Test.YtkdhhopfefhdjaaCalc
import Derived.Test.YtkdhhopfefhdjaaRat7
namespace Go.Proofs.Ytkdhhopfefhdjaa
open Go.RowKit

set_option maxHeartbeats 400000 in
theorem cAdd_any (n1 d1 n2 d2 p q : Int) (bad bad' : Bool) (g : Nat) (w : World) (hs : Slot w g 0 (.bool bad)) (hp : keepQ (addQ n1 d1 n2 d2) = (p, q)) (hb : (bad || !(addQ n1 d1 n2 d2).2.2) = bad') :
    Calls Try.prog 164 #[.pointer (some ⟨g, 0, none⟩), .agg #[.int .i64 n1, .int .i64 d1], .agg #[.int .i64 n2, .int .i64 d2]] w (KeepEnd g p q bad' w) := by
  have hg := lt_of_cell hs.1
  generalize hr : addQ n1 d1 n2 d2 = r at hp hb
  obtain ⟨a, b, t⟩ := r
  have HR := Lib.hid hr
  have HP := Lib.hid hp
  have HB := Lib.hid hb
  have HS := Lib.hid hs
  clear hr hp hb hs
  go_enter Try.func164, Try.ntmps164
  go_wp2_with fail
  refine (addRats_any n1 d1 n2 d2 a b t HR.out _).mono ?_
  rintro e w1 ⟨rfl, hb⟩
  have s1 : Slot w1 g 0 (.bool bad) := slotB hb (slotA _ (slotA _ (slotA _ HS.out)))
  have k1 : But g w w1 := But.next ((((But.refl g w).alloc _).alloc _).alloc _) hb (Nat.le_refl _)
  have r0 : Slot w1 (w.heap.size + 2) 0 (.int .i64 0) := slotB hb ⟨by simp [go_sem], by simp [go_sem]⟩
  have r1 : Slot w1 (w.heap.size + 2) 1 (.int .i64 0) := slotB hb ⟨by simp [go_sem], by simp [go_sem]⟩
  clear hb
  go_wp2_with fail
  refine (keep_any a b p q t bad bad' g _ s1 HP.out HB.out).mono ?_
  rintro e w2 ⟨rfl, s2, k2⟩
  obtain ⟨q0, f0⟩ := slotU k2 (by omega) r0
  obtain ⟨q1, f1⟩ := slotU k2 (by omega) r1
  replace k1 := k1.trans k2
  clear k2 s1 r0 r1
  have S2 := Lib.hid s2
  clear s2
  go_wp2_with fail
  refine bodyPost_ret (v := .agg #[.int .i64 p, .int .i64 q]) (by simp [results, Try.results164, go_sem, q0, q1]) rfl ⟨rfl, ?_, ?_⟩
  · refine slotS (slotS S2.out ?_) ?_ <;> simp <;> omega
  · refine But.setNew (But.setNew k1 ?_ _) ?_ _ <;> omega

set_option maxHeartbeats 400000 in
theorem cSub_any (n1 d1 n2 d2 p q : Int) (bad bad' : Bool) (g : Nat) (w : World) (hs : Slot w g 0 (.bool bad)) (hn : -9223372036854775808 ≤ n2 ∧ n2 ≤ 9223372036854775807) (hp : keepQ (subQ n1 d1 n2 d2) = (p, q)) (hb : (bad || !(subQ n1 d1 n2 d2).2.2) = bad') :
    Calls Try.prog 152 #[.pointer (some ⟨g, 0, none⟩), .agg #[.int .i64 n1, .int .i64 d1], .agg #[.int .i64 n2, .int .i64 d2]] w (KeepEnd g p q bad' w) := by
  have hg := lt_of_cell hs.1
  generalize hr : subQ n1 d1 n2 d2 = r at hp hb
  obtain ⟨a, b, t⟩ := r
  have HR := Lib.hid hr
  have HP := Lib.hid hp
  have HB := Lib.hid hb
  have HS := Lib.hid hs
  clear hr hp hb hs
  go_enter Try.func152, Try.ntmps152
  go_wp2_with fail
  refine (subRats_any n1 d1 n2 d2 a b t hn HR.out _).mono ?_
  rintro e w1 ⟨rfl, hb⟩
  have s1 : Slot w1 g 0 (.bool bad) := slotB hb (slotA _ (slotA _ (slotA _ HS.out)))
  have k1 : But g w w1 := But.next ((((But.refl g w).alloc _).alloc _).alloc _) hb (Nat.le_refl _)
  have r0 : Slot w1 (w.heap.size + 2) 0 (.int .i64 0) := slotB hb ⟨by simp [go_sem], by simp [go_sem]⟩
  have r1 : Slot w1 (w.heap.size + 2) 1 (.int .i64 0) := slotB hb ⟨by simp [go_sem], by simp [go_sem]⟩
  clear hb
  go_wp2_with fail
  refine (keep_any a b p q t bad bad' g _ s1 HP.out HB.out).mono ?_
  rintro e w2 ⟨rfl, s2, k2⟩
  obtain ⟨q0, f0⟩ := slotU k2 (by omega) r0
  obtain ⟨q1, f1⟩ := slotU k2 (by omega) r1
  replace k1 := k1.trans k2
  clear k2 s1 r0 r1
  have S2 := Lib.hid s2
  clear s2
  go_wp2_with fail
  refine bodyPost_ret (v := .agg #[.int .i64 p, .int .i64 q]) (by simp [results, Try.results152, go_sem, q0, q1]) rfl ⟨rfl, ?_, ?_⟩
  · refine slotS (slotS S2.out ?_) ?_ <;> simp <;> omega
  · refine But.setNew (But.setNew k1 ?_ _) ?_ _ <;> omega

set_option maxHeartbeats 400000 in
theorem cMul_any (n1 d1 n2 d2 p q : Int) (bad bad' : Bool) (g : Nat) (w : World) (hs : Slot w g 0 (.bool bad)) (hp : keepQ (mulQ n1 d1 n2 d2) = (p, q)) (hb : (bad || !(mulQ n1 d1 n2 d2).2.2) = bad') :
    Calls Try.prog 157 #[.pointer (some ⟨g, 0, none⟩), .agg #[.int .i64 n1, .int .i64 d1], .agg #[.int .i64 n2, .int .i64 d2]] w (KeepEnd g p q bad' w) := by
  have hg := lt_of_cell hs.1
  generalize hr : mulQ n1 d1 n2 d2 = r at hp hb
  obtain ⟨a, b, t⟩ := r
  have HR := Lib.hid hr
  have HP := Lib.hid hp
  have HB := Lib.hid hb
  have HS := Lib.hid hs
  clear hr hp hb hs
  go_enter Try.func157, Try.ntmps157
  go_wp2_with fail
  refine (mulRats_any n1 d1 n2 d2 a b t HR.out _).mono ?_
  rintro e w1 ⟨rfl, hb⟩
  have s1 : Slot w1 g 0 (.bool bad) := slotB hb (slotA _ (slotA _ (slotA _ HS.out)))
  have k1 : But g w w1 := But.next ((((But.refl g w).alloc _).alloc _).alloc _) hb (Nat.le_refl _)
  have r0 : Slot w1 (w.heap.size + 2) 0 (.int .i64 0) := slotB hb ⟨by simp [go_sem], by simp [go_sem]⟩
  have r1 : Slot w1 (w.heap.size + 2) 1 (.int .i64 0) := slotB hb ⟨by simp [go_sem], by simp [go_sem]⟩
  clear hb
  go_wp2_with fail
  refine (keep_any a b p q t bad bad' g _ s1 HP.out HB.out).mono ?_
  rintro e w2 ⟨rfl, s2, k2⟩
  obtain ⟨q0, f0⟩ := slotU k2 (by omega) r0
  obtain ⟨q1, f1⟩ := slotU k2 (by omega) r1
  replace k1 := k1.trans k2
  clear k2 s1 r0 r1
  have S2 := Lib.hid s2
  clear s2
  go_wp2_with fail
  refine bodyPost_ret (v := .agg #[.int .i64 p, .int .i64 q]) (by simp [results, Try.results157, go_sem, q0, q1]) rfl ⟨rfl, ?_, ?_⟩
  · refine slotS (slotS S2.out ?_) ?_ <;> simp <;> omega
  · refine But.setNew (But.setNew k1 ?_ _) ?_ _ <;> omega

set_option maxHeartbeats 400000 in
theorem cDiv_any (n1 d1 n2 d2 p q : Int) (bad bad' : Bool) (g : Nat) (w : World) (hs : Slot w g 0 (.bool bad)) (hp : keepQ (divQ n1 d1 n2 d2) = (p, q)) (hb : (bad || !(divQ n1 d1 n2 d2).2.2) = bad') :
    Calls Try.prog 165 #[.pointer (some ⟨g, 0, none⟩), .agg #[.int .i64 n1, .int .i64 d1], .agg #[.int .i64 n2, .int .i64 d2]] w (KeepEnd g p q bad' w) := by
  have hg := lt_of_cell hs.1
  generalize hr : divQ n1 d1 n2 d2 = r at hp hb
  obtain ⟨a, b, t⟩ := r
  have HR := Lib.hid hr
  have HP := Lib.hid hp
  have HB := Lib.hid hb
  have HS := Lib.hid hs
  clear hr hp hb hs
  go_enter Try.func165, Try.ntmps165
  go_wp2_with fail
  refine (divRats_any n1 d1 n2 d2 a b t HR.out _).mono ?_
  rintro e w1 ⟨rfl, hb⟩
  have s1 : Slot w1 g 0 (.bool bad) := slotB hb (slotA _ (slotA _ (slotA _ HS.out)))
  have k1 : But g w w1 := But.next ((((But.refl g w).alloc _).alloc _).alloc _) hb (Nat.le_refl _)
  have r0 : Slot w1 (w.heap.size + 2) 0 (.int .i64 0) := slotB hb ⟨by simp [go_sem], by simp [go_sem]⟩
  have r1 : Slot w1 (w.heap.size + 2) 1 (.int .i64 0) := slotB hb ⟨by simp [go_sem], by simp [go_sem]⟩
  clear hb
  go_wp2_with fail
  refine (keep_any a b p q t bad bad' g _ s1 HP.out HB.out).mono ?_
  rintro e w2 ⟨rfl, s2, k2⟩
  obtain ⟨q0, f0⟩ := slotU k2 (by omega) r0
  obtain ⟨q1, f1⟩ := slotU k2 (by omega) r1
  replace k1 := k1.trans k2
  clear k2 s1 r0 r1
  have S2 := Lib.hid s2
  clear s2
  go_wp2_with fail
  refine bodyPost_ret (v := .agg #[.int .i64 p, .int .i64 q]) (by simp [results, Try.results165, go_sem, q0, q1]) rfl ⟨rfl, ?_, ?_⟩
  · refine slotS (slotS S2.out ?_) ?_ <;> simp <;> omega
  · refine But.setNew (But.setNew k1 ?_ _) ?_ _ <;> omega

end Go.Proofs.Ytkdhhopfefhdjaa
