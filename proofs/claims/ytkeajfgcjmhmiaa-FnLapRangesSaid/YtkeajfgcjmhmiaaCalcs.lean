/- The methods of the program's 'calc': they note in their receiver whether a result was too large. · add, sub, mul and div of the program's 'calc'. · add, sub, mul and div of the program's 'calc' where the result fits: the receiver is left alone. · Plain: differences and quotients of coordinates fit. · The program's slope between two points of a map: always fits. · The program's line: a value on the line through a point. · The program's pieceAt: the first piece that has a fraction. · Facts on cells as one list, carried over what makes memory. -/
import Derived.Test.YtkeajfgcjmhmiaaFrac
import Derived.Test.YtkeajfgcjmhmiaaMaps
import Derived.Deep.RegionHeld3
import Derived.Deep.DrawnRows
import Derived.Lib.ItoaWalk
import Derived.Deep.DeepCutAuto
namespace Go.Proofs.Ytkeajfgcjmhmiaa
open Go.RowKit

/-- All is as it was but for block g, and what is new. -/
structure But (g : Nat) (w w' : World) : Prop where
  os : w'.os = w.os
  tape : w'.tape = w.tape
  output : w'.output = w.output
  size : w.heap.size ≤ w'.heap.size
  block : ∀ k, k < w.heap.size → k ≠ g → w'.heap[k]? = w.heap[k]?

theorem But.refl (g : Nat) (w : World) : But g w w := ⟨rfl, rfl, rfl, Nat.le_refl _, fun _ _ _ => rfl⟩
theorem But.trans {g : Nat} {a b c : World} (h : But g a b) (k : But g b c) : But g a c :=
  ⟨k.os.trans h.os, k.tape.trans h.tape, k.output.trans h.output, Nat.le_trans h.size k.size, fun i hi hn => (k.block i (Nat.lt_of_lt_of_le hi h.size) hn).trans (h.block i hi hn)⟩
theorem But.of_below {g B : Nat} {w w' : World} (h : Below B w w') (hB : w.heap.size ≤ B) : But g w w' := ⟨h.os, h.tape, h.output, h.size, fun k hk _ => h.block k (Nat.lt_of_lt_of_le hk hB)⟩
theorem But.next {g B : Nat} {w X w' : World} (h : But g w X) (k : Below B X w') (hB : X.heap.size ≤ B) : But g w w' := h.trans (But.of_below k hB)
theorem But.alloc {g : Nat} {a w : World} (h : But g a w) (o : Obj) : But g a (w.alloc o) := h.next ((Below.refl _ _).alloc (Nat.le_refl _) o) (Nat.le_refl _)
theorem But.setCell {g o : Nat} {a w : World} (h : But g a w) (u : Value) : But g a (w.setCell ⟨g, o, none⟩ u) :=
  h.trans ⟨rfl, rfl, rfl, by simp [World.setCell], fun k _ hn => Below.heap_setCell _ _ _ _ hn⟩
theorem But.setNew {g k o : Nat} {a w : World} (h : But g a w) (hk : a.heap.size ≤ k) (u : Value) : But g a (w.setCell ⟨k, o, none⟩ u) :=
  ⟨h.os, h.tape, h.output, by simpa [World.setCell] using h.size, fun i hi hn => (Below.heap_setCell _ _ _ _ (by show i ≠ k; omega)).trans (h.block i hi hn)⟩
theorem But.below {g B : Nat} {w0 w w' : World} (hB : Below B w0 w) (h : But g w w') (hg : B ≤ g) (hs : B ≤ w.heap.size) : Below B w0 w' :=
  hB.trans ⟨h.os, h.tape, h.output, h.size, fun k hk => h.block k (by omega) (by omega)⟩
theorem cellU {g b o : Nat} {w w' : World} {v : Value} (h : But g w w') (hn : b ≠ g) (hc : w.cell? ⟨b, o, none⟩ = some v) : w'.cell? ⟨b, o, none⟩ = some v :=
  (World.cell?_of_block (w := w) (h.block b (lt_of_cell hc) hn)).trans hc
theorem slotU {g b o : Nat} {w w' : World} {v : Value} (h : But g w w') (hn : b ≠ g) (hc : Slot w b o v) : Slot w' b o v :=
  ⟨cellU h hn hc.1, (World.frozen?_of_block (w := w) (h.block b (lt_of_cell hc.1) hn)).trans hc.2⟩

/-- What 'keep' gives. -/
def keepQ (r : Int × Int × Bool) : Q := if r.2.2 then (r.1, r.2.1) else (0, 1)

def KeepEnd (g : Nat) (p q : Int) (bad : Bool) (w : World) (e : Ending) (w' : World) : Prop := e = .returned (.agg #[.int .i64 p, .int .i64 q]) ∧ Slot w' g 0 (.bool bad) ∧ But g w w'

set_option maxHeartbeats 400000 in
theorem keep_yes (n d : Int) (bad : Bool) (g : Nat) (w : World) (hs : Slot w g 0 (.bool bad)) :
    Calls Try.prog 89 #[.pointer (some ⟨g, 0, none⟩), .agg #[.int .i64 n, .int .i64 d], .bool true] w (KeepEnd g n d bad w) := by
  have hg := lt_of_cell hs.1
  go_enter Try.func89, Try.ntmps89
  go_wp2_with fail
  refine bodyPost_ret (v := .agg #[.int .i64 n, .int .i64 d]) (by simp [results, Try.results89, go_sem]) rfl ⟨rfl, ?_, ?_⟩
  · exact slotA _ (slotA _ hs)
  · exact ((But.refl g w).alloc _).alloc _

set_option maxHeartbeats 400000 in
theorem keep_no (n d : Int) (bad : Bool) (g : Nat) (w : World) (hs : Slot w g 0 (.bool bad)) :
    Calls Try.prog 89 #[.pointer (some ⟨g, 0, none⟩), .agg #[.int .i64 n, .int .i64 d], .bool false] w (KeepEnd g 0 1 true w) := by
  have hg := lt_of_cell hs.1
  obtain ⟨hs0, hs1⟩ := hs
  go_enter Try.func89, Try.ntmps89
  go_wp2_with fail
  refine (zero_any _).mono ?_
  rintro e w1 ⟨rfl, hb⟩
  have k : But g w w1 := But.next ((((But.refl g w).setCell _).alloc _).alloc _) hb (Nat.le_refl _)
  obtain ⟨q0, f0⟩ : Slot w1 (w.heap.size + 1) 0 (.int .i64 0) := slotB hb ⟨by simp [go_sem], by simp [go_sem]⟩
  obtain ⟨q1, f1⟩ : Slot w1 (w.heap.size + 1) 1 (.int .i64 0) := slotB hb ⟨by simp [go_sem], by simp [go_sem]⟩
  have hs : Slot w1 g 0 (.bool true) := slotB hb (slotA _ (slotA _ (slotN ⟨hs0, hs1⟩)))
  clear hb
  go_wp2_with fail
  refine bodyPost_ret (v := .agg #[.int .i64 0, .int .i64 1]) (by simp [results, Try.results89, go_sem, q0, q1]) rfl ⟨rfl, ?_, ?_⟩
  · refine slotS (slotS hs ?_) ?_ <;> simp <;> omega
  · refine But.setNew (But.setNew k ?_ _) ?_ _ <;> omega

theorem keep_any (n d p q : Int) (t bad bad' : Bool) (g : Nat) (w : World) (hs : Slot w g 0 (.bool bad)) (hp : keepQ (n, d, t) = (p, q)) (hb : (bad || !t) = bad') :
    Calls Try.prog 89 #[.pointer (some ⟨g, 0, none⟩), .agg #[.int .i64 n, .int .i64 d], .bool t] w (KeepEnd g p q bad' w) := by
  unfold keepQ at hp
  cases t
  · simp at hp hb
    obtain ⟨rfl, rfl⟩ := hp
    subst hb
    exact keep_no n d bad g w hs
  · simp at hp hb
    obtain ⟨rfl, rfl⟩ := hp
    subst hb
    exact keep_yes n d bad g w hs

end Go.Proofs.Ytkeajfgcjmhmiaa

namespace Go.Proofs.Ytkeajfgcjmhmiaa
open Go.RowKit

set_option maxHeartbeats 400000 in
theorem cAdd_any (n1 d1 n2 d2 p q : Int) (bad bad' : Bool) (g : Nat) (w : World) (hs : Slot w g 0 (.bool bad)) (hp : keepQ (addQ n1 d1 n2 d2) = (p, q)) (hb : (bad || !(addQ n1 d1 n2 d2).2.2) = bad') :
    Calls Try.prog 87 #[.pointer (some ⟨g, 0, none⟩), .agg #[.int .i64 n1, .int .i64 d1], .agg #[.int .i64 n2, .int .i64 d2]] w (KeepEnd g p q bad' w) := by
  have hg := lt_of_cell hs.1
  generalize hr : addQ n1 d1 n2 d2 = r at hp hb
  obtain ⟨a, b, t⟩ := r
  have HR := Lib.hid hr
  have HP := Lib.hid hp
  have HB := Lib.hid hb
  have HS := Lib.hid hs
  clear hr hp hb hs
  go_enter Try.func87, Try.ntmps87
  go_wp2_with fail
  refine (addRats_any n1 d1 n2 d2 a b t HR.out _).mono ?_
  rintro e w1 ⟨rfl, hb⟩
  have s1 : Slot w1 g 0 (.bool bad) := slotB hb (slotA _ (slotA _ (slotA _ HS.out)))
  have k1 : But g w w1 := But.next ((((But.refl g w).alloc _).alloc _).alloc _) hb (Nat.le_refl _)
  have r0 : Slot w1 (w.heap.size + 2) 0 (.int .i64 0) := slotB hb ⟨by simp [go_sem], by simp [go_sem]⟩
  have r1 : Slot w1 (w.heap.size + 2) 1 (.int .i64 0) := slotB hb ⟨by simp [go_sem], by simp [go_sem]⟩
  clear hb
  go_wp2_with fail
  refine (keep_any a b p q t bad bad' g _ s1 HP.out HB.out).mono ?_
  rintro e w2 ⟨rfl, s2, k2⟩
  obtain ⟨q0, f0⟩ := slotU k2 (by omega) r0
  obtain ⟨q1, f1⟩ := slotU k2 (by omega) r1
  replace k1 := k1.trans k2
  clear k2 s1 r0 r1
  have S2 := Lib.hid s2
  clear s2
  go_wp2_with fail
  refine bodyPost_ret (v := .agg #[.int .i64 p, .int .i64 q]) (by simp [results, Try.results87, go_sem, q0, q1]) rfl ⟨rfl, ?_, ?_⟩
  · refine slotS (slotS S2.out ?_) ?_ <;> simp <;> omega
  · refine But.setNew (But.setNew k1 ?_ _) ?_ _ <;> omega

set_option maxHeartbeats 400000 in
theorem cSub_any (n1 d1 n2 d2 p q : Int) (bad bad' : Bool) (g : Nat) (w : World) (hs : Slot w g 0 (.bool bad)) (hn : -9223372036854775808 ≤ n2 ∧ n2 ≤ 9223372036854775807) (hp : keepQ (subQ n1 d1 n2 d2) = (p, q)) (hb : (bad || !(subQ n1 d1 n2 d2).2.2) = bad') :
    Calls Try.prog 74 #[.pointer (some ⟨g, 0, none⟩), .agg #[.int .i64 n1, .int .i64 d1], .agg #[.int .i64 n2, .int .i64 d2]] w (KeepEnd g p q bad' w) := by
  have hg := lt_of_cell hs.1
  generalize hr : subQ n1 d1 n2 d2 = r at hp hb
  obtain ⟨a, b, t⟩ := r
  have HR := Lib.hid hr
  have HP := Lib.hid hp
  have HB := Lib.hid hb
  have HS := Lib.hid hs
  clear hr hp hb hs
  go_enter Try.func74, Try.ntmps74
  go_wp2_with fail
  refine (subRats_any n1 d1 n2 d2 a b t hn HR.out _).mono ?_
  rintro e w1 ⟨rfl, hb⟩
  have s1 : Slot w1 g 0 (.bool bad) := slotB hb (slotA _ (slotA _ (slotA _ HS.out)))
  have k1 : But g w w1 := But.next ((((But.refl g w).alloc _).alloc _).alloc _) hb (Nat.le_refl _)
  have r0 : Slot w1 (w.heap.size + 2) 0 (.int .i64 0) := slotB hb ⟨by simp [go_sem], by simp [go_sem]⟩
  have r1 : Slot w1 (w.heap.size + 2) 1 (.int .i64 0) := slotB hb ⟨by simp [go_sem], by simp [go_sem]⟩
  clear hb
  go_wp2_with fail
  refine (keep_any a b p q t bad bad' g _ s1 HP.out HB.out).mono ?_
  rintro e w2 ⟨rfl, s2, k2⟩
  obtain ⟨q0, f0⟩ := slotU k2 (by omega) r0
  obtain ⟨q1, f1⟩ := slotU k2 (by omega) r1
  replace k1 := k1.trans k2
  clear k2 s1 r0 r1
  have S2 := Lib.hid s2
  clear s2
  go_wp2_with fail
  refine bodyPost_ret (v := .agg #[.int .i64 p, .int .i64 q]) (by simp [results, Try.results74, go_sem, q0, q1]) rfl ⟨rfl, ?_, ?_⟩
  · refine slotS (slotS S2.out ?_) ?_ <;> simp <;> omega
  · refine But.setNew (But.setNew k1 ?_ _) ?_ _ <;> omega

set_option maxHeartbeats 400000 in
theorem cMul_any (n1 d1 n2 d2 p q : Int) (bad bad' : Bool) (g : Nat) (w : World) (hs : Slot w g 0 (.bool bad)) (hp : keepQ (mulQ n1 d1 n2 d2) = (p, q)) (hb : (bad || !(mulQ n1 d1 n2 d2).2.2) = bad') :
    Calls Try.prog 88 #[.pointer (some ⟨g, 0, none⟩), .agg #[.int .i64 n1, .int .i64 d1], .agg #[.int .i64 n2, .int .i64 d2]] w (KeepEnd g p q bad' w) := by
  have hg := lt_of_cell hs.1
  generalize hr : mulQ n1 d1 n2 d2 = r at hp hb
  obtain ⟨a, b, t⟩ := r
  have HR := Lib.hid hr
  have HP := Lib.hid hp
  have HB := Lib.hid hb
  have HS := Lib.hid hs
  clear hr hp hb hs
  go_enter Try.func88, Try.ntmps88
  go_wp2_with fail
  refine (mulRats_any n1 d1 n2 d2 a b t HR.out _).mono ?_
  rintro e w1 ⟨rfl, hb⟩
  have s1 : Slot w1 g 0 (.bool bad) := slotB hb (slotA _ (slotA _ (slotA _ HS.out)))
  have k1 : But g w w1 := But.next ((((But.refl g w).alloc _).alloc _).alloc _) hb (Nat.le_refl _)
  have r0 : Slot w1 (w.heap.size + 2) 0 (.int .i64 0) := slotB hb ⟨by simp [go_sem], by simp [go_sem]⟩
  have r1 : Slot w1 (w.heap.size + 2) 1 (.int .i64 0) := slotB hb ⟨by simp [go_sem], by simp [go_sem]⟩
  clear hb
  go_wp2_with fail
  refine (keep_any a b p q t bad bad' g _ s1 HP.out HB.out).mono ?_
  rintro e w2 ⟨rfl, s2, k2⟩
  obtain ⟨q0, f0⟩ := slotU k2 (by omega) r0
  obtain ⟨q1, f1⟩ := slotU k2 (by omega) r1
  replace k1 := k1.trans k2
  clear k2 s1 r0 r1
  have S2 := Lib.hid s2
  clear s2
  go_wp2_with fail
  refine bodyPost_ret (v := .agg #[.int .i64 p, .int .i64 q]) (by simp [results, Try.results88, go_sem, q0, q1]) rfl ⟨rfl, ?_, ?_⟩
  · refine slotS (slotS S2.out ?_) ?_ <;> simp <;> omega
  · refine But.setNew (But.setNew k1 ?_ _) ?_ _ <;> omega

set_option maxHeartbeats 400000 in
theorem cDiv_any (n1 d1 n2 d2 p q : Int) (bad bad' : Bool) (g : Nat) (w : World) (hs : Slot w g 0 (.bool bad)) (hp : keepQ (divQ n1 d1 n2 d2) = (p, q)) (hb : (bad || !(divQ n1 d1 n2 d2).2.2) = bad') :
    Calls Try.prog 73 #[.pointer (some ⟨g, 0, none⟩), .agg #[.int .i64 n1, .int .i64 d1], .agg #[.int .i64 n2, .int .i64 d2]] w (KeepEnd g p q bad' w) := by
  have hg := lt_of_cell hs.1
  generalize hr : divQ n1 d1 n2 d2 = r at hp hb
  obtain ⟨a, b, t⟩ := r
  have HR := Lib.hid hr
  have HP := Lib.hid hp
  have HB := Lib.hid hb
  have HS := Lib.hid hs
  clear hr hp hb hs
  go_enter Try.func73, Try.ntmps73
  go_wp2_with fail
  refine (divRats_any n1 d1 n2 d2 a b t HR.out _).mono ?_
  rintro e w1 ⟨rfl, hb⟩
  have s1 : Slot w1 g 0 (.bool bad) := slotB hb (slotA _ (slotA _ (slotA _ HS.out)))
  have k1 : But g w w1 := But.next ((((But.refl g w).alloc _).alloc _).alloc _) hb (Nat.le_refl _)
  have r0 : Slot w1 (w.heap.size + 2) 0 (.int .i64 0) := slotB hb ⟨by simp [go_sem], by simp [go_sem]⟩
  have r1 : Slot w1 (w.heap.size + 2) 1 (.int .i64 0) := slotB hb ⟨by simp [go_sem], by simp [go_sem]⟩
  clear hb
  go_wp2_with fail
  refine (keep_any a b p q t bad bad' g _ s1 HP.out HB.out).mono ?_
  rintro e w2 ⟨rfl, s2, k2⟩
  obtain ⟨q0, f0⟩ := slotU k2 (by omega) r0
  obtain ⟨q1, f1⟩ := slotU k2 (by omega) r1
  replace k1 := k1.trans k2
  clear k2 s1 r0 r1
  have S2 := Lib.hid s2
  clear s2
  go_wp2_with fail
  refine bodyPost_ret (v := .agg #[.int .i64 p, .int .i64 q]) (by simp [results, Try.results73, go_sem, q0, q1]) rfl ⟨rfl, ?_, ?_⟩
  · refine slotS (slotS S2.out ?_) ?_ <;> simp <;> omega
  · refine But.setNew (But.setNew k1 ?_ _) ?_ _ <;> omega

end Go.Proofs.Ytkeajfgcjmhmiaa

namespace Go.Proofs.Ytkeajfgcjmhmiaa
open Go.RowKit

set_option maxHeartbeats 400000 in
theorem keep_fine (n d : Int) (v : Value) (w : World) :
    Calls Try.prog 89 #[v, .agg #[.int .i64 n, .int .i64 d], .bool true] w fun e w' => e = .returned (.agg #[.int .i64 n, .int .i64 d]) ∧ Below w.heap.size w w' := by
  go_enter Try.func89, Try.ntmps89
  go_wp2_with fail
  refine bodyPost_ret (v := .agg #[.int .i64 n, .int .i64 d]) (by simp [results, Try.results89, go_sem]) rfl ⟨rfl, ?_⟩
  go_grown

set_option maxHeartbeats 400000 in
theorem cAdd_fine (n1 d1 n2 d2 a b : Int) (v : Value) (w : World) (hr : addQ n1 d1 n2 d2 = (a, b, true)) :
    Calls Try.prog 87 #[v, .agg #[.int .i64 n1, .int .i64 d1], .agg #[.int .i64 n2, .int .i64 d2]] w fun e w' => e = .returned (.agg #[.int .i64 a, .int .i64 b]) ∧ Below w.heap.size w w' := by
  have HR := Lib.hid hr
  clear hr
  go_enter Try.func87, Try.ntmps87
  go_wp2_with fail
  refine (addRats_any n1 d1 n2 d2 a b true HR.out _).mono ?_
  rintro e w1 ⟨rfl, hb⟩
  have r0 : Slot w1 (w.heap.size + 2) 0 (.int .i64 0) := slotB hb ⟨by simp [go_sem], by simp [go_sem]⟩
  have r1 : Slot w1 (w.heap.size + 2) 1 (.int .i64 0) := slotB hb ⟨by simp [go_sem], by simp [go_sem]⟩
  have hB : Below w.heap.size w w1 := nextB (by go_grown) (by go_size) hb
  clear hb
  go_wp2_with fail
  refine (keep_fine a b v _).mono ?_
  rintro e w2 ⟨rfl, hb⟩
  obtain ⟨q0, f0⟩ := slotB hb r0
  obtain ⟨q1, f1⟩ := slotB hb r1
  replace hB := nextW hB hb
  clear hb r0 r1
  go_wp2_with fail
  refine bodyPost_ret (v := .agg #[.int .i64 a, .int .i64 b]) (by simp [results, Try.results87, go_sem, q0, q1]) rfl ⟨rfl, ?_⟩
  go_grown

set_option maxHeartbeats 400000 in
theorem cSub_fine (n1 d1 n2 d2 a b : Int) (v : Value) (w : World) (hn : -9223372036854775808 ≤ n2 ∧ n2 ≤ 9223372036854775807) (hr : subQ n1 d1 n2 d2 = (a, b, true)) :
    Calls Try.prog 74 #[v, .agg #[.int .i64 n1, .int .i64 d1], .agg #[.int .i64 n2, .int .i64 d2]] w fun e w' => e = .returned (.agg #[.int .i64 a, .int .i64 b]) ∧ Below w.heap.size w w' := by
  have HR := Lib.hid hr
  clear hr
  go_enter Try.func74, Try.ntmps74
  go_wp2_with fail
  refine (subRats_any n1 d1 n2 d2 a b true hn HR.out _).mono ?_
  rintro e w1 ⟨rfl, hb⟩
  have r0 : Slot w1 (w.heap.size + 2) 0 (.int .i64 0) := slotB hb ⟨by simp [go_sem], by simp [go_sem]⟩
  have r1 : Slot w1 (w.heap.size + 2) 1 (.int .i64 0) := slotB hb ⟨by simp [go_sem], by simp [go_sem]⟩
  have hB : Below w.heap.size w w1 := nextB (by go_grown) (by go_size) hb
  clear hb
  go_wp2_with fail
  refine (keep_fine a b v _).mono ?_
  rintro e w2 ⟨rfl, hb⟩
  obtain ⟨q0, f0⟩ := slotB hb r0
  obtain ⟨q1, f1⟩ := slotB hb r1
  replace hB := nextW hB hb
  clear hb r0 r1
  go_wp2_with fail
  refine bodyPost_ret (v := .agg #[.int .i64 a, .int .i64 b]) (by simp [results, Try.results74, go_sem, q0, q1]) rfl ⟨rfl, ?_⟩
  go_grown

set_option maxHeartbeats 400000 in
theorem cMul_fine (n1 d1 n2 d2 a b : Int) (v : Value) (w : World) (hr : mulQ n1 d1 n2 d2 = (a, b, true)) :
    Calls Try.prog 88 #[v, .agg #[.int .i64 n1, .int .i64 d1], .agg #[.int .i64 n2, .int .i64 d2]] w fun e w' => e = .returned (.agg #[.int .i64 a, .int .i64 b]) ∧ Below w.heap.size w w' := by
  have HR := Lib.hid hr
  clear hr
  go_enter Try.func88, Try.ntmps88
  go_wp2_with fail
  refine (mulRats_any n1 d1 n2 d2 a b true HR.out _).mono ?_
  rintro e w1 ⟨rfl, hb⟩
  have r0 : Slot w1 (w.heap.size + 2) 0 (.int .i64 0) := slotB hb ⟨by simp [go_sem], by simp [go_sem]⟩
  have r1 : Slot w1 (w.heap.size + 2) 1 (.int .i64 0) := slotB hb ⟨by simp [go_sem], by simp [go_sem]⟩
  have hB : Below w.heap.size w w1 := nextB (by go_grown) (by go_size) hb
  clear hb
  go_wp2_with fail
  refine (keep_fine a b v _).mono ?_
  rintro e w2 ⟨rfl, hb⟩
  obtain ⟨q0, f0⟩ := slotB hb r0
  obtain ⟨q1, f1⟩ := slotB hb r1
  replace hB := nextW hB hb
  clear hb r0 r1
  go_wp2_with fail
  refine bodyPost_ret (v := .agg #[.int .i64 a, .int .i64 b]) (by simp [results, Try.results88, go_sem, q0, q1]) rfl ⟨rfl, ?_⟩
  go_grown

set_option maxHeartbeats 400000 in
theorem cDiv_fine (n1 d1 n2 d2 a b : Int) (v : Value) (w : World) (hr : divQ n1 d1 n2 d2 = (a, b, true)) :
    Calls Try.prog 73 #[v, .agg #[.int .i64 n1, .int .i64 d1], .agg #[.int .i64 n2, .int .i64 d2]] w fun e w' => e = .returned (.agg #[.int .i64 a, .int .i64 b]) ∧ Below w.heap.size w w' := by
  have HR := Lib.hid hr
  clear hr
  go_enter Try.func73, Try.ntmps73
  go_wp2_with fail
  refine (divRats_any n1 d1 n2 d2 a b true HR.out _).mono ?_
  rintro e w1 ⟨rfl, hb⟩
  have r0 : Slot w1 (w.heap.size + 2) 0 (.int .i64 0) := slotB hb ⟨by simp [go_sem], by simp [go_sem]⟩
  have r1 : Slot w1 (w.heap.size + 2) 1 (.int .i64 0) := slotB hb ⟨by simp [go_sem], by simp [go_sem]⟩
  have hB : Below w.heap.size w w1 := nextB (by go_grown) (by go_size) hb
  clear hb
  go_wp2_with fail
  refine (keep_fine a b v _).mono ?_
  rintro e w2 ⟨rfl, hb⟩
  obtain ⟨q0, f0⟩ := slotB hb r0
  obtain ⟨q1, f1⟩ := slotB hb r1
  replace hB := nextW hB hb
  clear hb r0 r1
  go_wp2_with fail
  refine bodyPost_ret (v := .agg #[.int .i64 a, .int .i64 b]) (by simp [results, Try.results73, go_sem, q0, q1]) rfl ⟨rfl, ?_⟩
  go_grown

end Go.Proofs.Ytkeajfgcjmhmiaa

namespace Go.Proofs.Ytkeajfgcjmhmiaa

theorem lowQ_fits {N D : Int} (h1 : 1 ≤ D) (h2 : D ≤ 1000000000) (h3 : -1000000000 ≤ N) (h4 : N ≤ 1000000000) :
    ∃ a b, lowQ N D = (a, b, true) ∧ 1 ≤ b ∧ b ≤ D ∧ (-N.natAbs ≤ a ∧ a ≤ N.natAbs) ∧ a * D = N * b ∧ okQ a b = true := by
  have hc : cutQ N D = (Int.gcd N D : Int) := by unfold cutQ; rw [if_neg (by omega)]
  have hg : 0 < Int.gcd N D := Int.gcd_pos_of_ne_zero_right _ (by omega)
  have ea := (tdiv_cutQ N D).1
  have eb := (tdiv_cutQ N D).2
  rw [hc] at ea eb
  have hgcd : Int.gcd (N / (Int.gcd N D : Int)) (D / (Int.gcd N D : Int)) = 1 := Int.gcd_ediv_gcd_ediv_gcd hg
  obtain ⟨a, ha⟩ : (Int.gcd N D : Int) ∣ N := Int.gcd_dvd_left ..
  obtain ⟨b, hb⟩ : (Int.gcd N D : Int) ∣ D := Int.gcd_dvd_right ..
  generalize Int.gcd N D = g at *
  have h0 : (g : Int) ≠ 0 := by omega
  have qa : N / (g : Int) = a := by rw [ha]; exact Int.mul_ediv_cancel_left _ h0
  have qb : D / (g : Int) = b := by rw [hb]; exact Int.mul_ediv_cancel_left _ h0
  rw [qa, qb] at hgcd
  rw [qa] at ea
  rw [qb] at eb
  have b1 : 1 ≤ b := by
    rcases Int.lt_or_le 0 b with h | h
    · omega
    · have := Int.mul_nonpos_of_nonneg_of_nonpos (show (0 : Int) ≤ g by omega) h
      omega
  have b2 : b ≤ D := by
    rw [hb]
    have := Int.mul_le_mul_of_nonneg_right (show (1 : Int) ≤ g by omega) (show 0 ≤ b by omega)
    omega
  have a1 : a.natAbs ≤ N.natAbs := by
    rw [ha, Int.natAbs_mul]
    exact Nat.le_mul_of_pos_left _ (by omega)
  have hok : okQ a b = true := okQ_mk b1 (by omega) (by omega) (by omega) hgcd
  refine ⟨a, b, ?_, b1, b2, by omega, ?_, hok⟩
  · have := lowQ_yes (n := N) (d := D) (by rw [hc, ea, eb]; exact hok)
    rw [hc, ea, eb] at this
    exact this
  · conv => lhs; rw [hb]
    conv => rhs; rw [ha]
    rw [← Int.mul_assoc, Int.mul_comm a]

theorem mul_fits {a b m k : Int} (h1 : 0 ≤ a) (h2 : a ≤ m) (h3 : 0 ≤ b) (h4 : b ≤ k) : 0 ≤ a * b ∧ a * b ≤ m * k :=
  ⟨Int.mul_nonneg h1 h3, Int.le_trans (Int.mul_le_mul_of_nonneg_right h2 h3) (Int.mul_le_mul_of_nonneg_left h4 (by omega))⟩

/-- A difference of two coordinates. -/
theorem sub_coord {n1 d1 n2 d2 : Int} (h1 : coordQ n1 d1 = true) (h2 : coordQ n2 d2 = true) :
    ∃ a b, subQ n1 d1 n2 d2 = (a, b, true) ∧ lowQ (n1 * d2 - n2 * d1) (d1 * d2) = (a, b, true) ∧ 1 ≤ b ∧ b ≤ 10000 ∧ -10000 ≤ a ∧ a ≤ 10000 ∧ okQ a b = true ∧ (n2 * d1 < n1 * d2 → 0 < a) := by
  have b1 := coordQ_bd h1
  have b2 := coordQ_bd h2
  have k1 := unitQ_ok (coordQ_unit h1)
  have k2 := unitQ_ok (coordQ_unit h2)
  obtain ⟨m1, m2⟩ := mul_fits (a := n1) (b := d2) (m := 100) (k := 100) (by omega) (by omega) (by omega) (by omega)
  obtain ⟨m3, m4⟩ := mul_fits (a := n2) (b := d1) (m := 100) (k := 100) (by omega) (by omega) (by omega) (by omega)
  obtain ⟨m5, m6⟩ := mul_fits (a := d1) (b := d2) (m := 100) (k := 100) (by omega) (by omega) (by omega) (by omega)
  have m7 : 0 < d1 * d2 := Int.mul_pos (by omega) (by omega)
  have hs : subQ n1 d1 n2 d2 = lowQ (n1 * d2 - n2 * d1) (d1 * d2) := by unfold subQ; rw [if_pos (by rw [k1, k2]; rfl)]
  rw [hs]
  generalize n1 * d2 = x at *
  generalize n2 * d1 = y at *
  generalize d1 * d2 = z at *
  obtain ⟨a, b, e, c1, c2, c3, c4, c5⟩ := lowQ_fits (N := x - y) (D := z) (by omega) (by omega) (by omega) (by omega)
  refine ⟨a, b, e, e, c1, by omega, by omega, by omega, c5, fun hlt => ?_⟩
  rcases Int.lt_or_le 0 a with h | h
  · exact h
  · exfalso
    have p1 : 0 < (x - y) * b := Int.mul_pos (by omega) (by omega)
    have p2 : a * z ≤ 0 := by
      have := Int.mul_nonneg (show 0 ≤ -a by omega) (show 0 ≤ z by omega)
      rw [Int.neg_mul] at this
      omega
    omega

/-- The slope between two points of a map. -/
theorem slope_fits {p q : Pt} (hp1 : coordQ p.1.1 p.1.2 = true) (hp2 : coordQ p.2.1 p.2.2 = true) (hq1 : coordQ q.1.1 q.1.2 = true) (hq2 : coordQ q.2.1 q.2.2 = true) (hl : lessQ p.1.1 p.1.2 q.1.1 q.1.2 = true) :
    ∃ u1 u2 f1 f2 s1 s2, subQ q.2.1 q.2.2 p.2.1 p.2.2 = (u1, u2, true) ∧ lowQ (q.2.1 * p.2.2 - p.2.1 * q.2.2) (q.2.2 * p.2.2) = (u1, u2, true) ∧
      subQ q.1.1 q.1.2 p.1.1 p.1.2 = (f1, f2, true) ∧ lowQ (q.1.1 * p.1.2 - p.1.1 * q.1.2) (q.1.2 * p.1.2) = (f1, f2, true) ∧
      divQ u1 u2 f1 f2 = (s1, s2, true) ∧ lowQ (u1 * f2) (u2 * f1) = (s1, s2, true) ∧ Sm u1 ∧ Sm u2 ∧ Sm f1 ∧ Sm f2 ∧ okQ s1 s2 = true ∧ f1 ≠ 0 := by
  obtain ⟨u1, u2, e1, e2, c1, c2, c3, c4, c5, -⟩ := sub_coord hq2 hp2
  obtain ⟨f1, f2, g1, g2, k1, k2, k3, k4, k5, k6⟩ := sub_coord hq1 hp1
  have hf : 0 < f1 := k6 (by simpa [lessQ] using hl)
  obtain ⟨m1, m2⟩ := mul_fits (a := u2) (b := f1) (m := 10000) (k := 10000) (by omega) (by omega) (by omega) (by omega)
  have m3 : 0 < u2 * f1 := Int.mul_pos (by omega) hf
  have m4 : -100000000 ≤ u1 * f2 ∧ u1 * f2 ≤ 100000000 := by
    rcases Int.le_total 0 u1 with h | h
    · obtain ⟨a1, a2⟩ := mul_fits (a := u1) (b := f2) (m := 10000) (k := 10000) h (by omega) (by omega) (by omega)
      omega
    · obtain ⟨a1, a2⟩ := mul_fits (a := -u1) (b := f2) (m := 10000) (k := 10000) (by omega) (by omega) (by omega) (by omega)
      rw [Int.neg_mul] at a1 a2
      omega
  have hd : divQ u1 u2 f1 f2 = lowQ (u1 * f2) (u2 * f1) := by unfold divQ; rw [if_pos ⟨by rw [c5, k5]; rfl, by omega⟩]
  generalize hN : u1 * f2 = N at *
  generalize hD : u2 * f1 = D at *
  obtain ⟨a, b, e, -, -, -, -, ho⟩ := lowQ_fits (N := N) (D := D) (by omega) (by omega) (by omega) (by omega)
  refine ⟨u1, u2, f1, f2, a, b, e1, e2, g1, g2, by rw [hd]; exact e, by rw [hN, hD]; exact e, ?_, ?_, ?_, ?_, ho, by omega⟩
  · unfold Sm; omega
  · unfold Sm; omega
  · unfold Sm; omega
  · unfold Sm; omega

end Go.Proofs.Ytkeajfgcjmhmiaa

namespace Go.Proofs.Ytkeajfgcjmhmiaa
open Go.RowKit

/-- Two points in their boxes. -/
def BoxP (h : Nat) (x1 x2 x3 x4 y1 y2 y3 y4 : Int) (w' : World) : Prop :=
  w'.cell? ⟨h, 0, none⟩ = some (.int .i64 x1) ∧ w'.cell? ⟨h, 1, none⟩ = some (.int .i64 x2) ∧ w'.cell? ⟨h, 2, none⟩ = some (.int .i64 x3) ∧ w'.cell? ⟨h, 3, none⟩ = some (.int .i64 x4) ∧ w'.cell? ⟨h + 1, 0, none⟩ = some (.int .i64 y1) ∧ w'.cell? ⟨h + 1, 1, none⟩ = some (.int .i64 y2) ∧ w'.cell? ⟨h + 1, 2, none⟩ = some (.int .i64 y3) ∧ w'.cell? ⟨h + 1, 3, none⟩ = some (.int .i64 y4)
theorem BoxP.keep {h : Nat} {x1 x2 x3 x4 y1 y2 y3 y4 : Int} {X w1 : World} (k : BoxP h x1 x2 x3 x4 y1 y2 y3 y4 X) (hb : Below X.heap.size X w1) : BoxP h x1 x2 x3 x4 y1 y2 y3 y4 w1 :=
  ⟨cellB hb k.1, cellB hb k.2.1, cellB hb k.2.2.1, cellB hb k.2.2.2.1, cellB hb k.2.2.2.2.1, cellB hb k.2.2.2.2.2.1, cellB hb k.2.2.2.2.2.2.1, cellB hb k.2.2.2.2.2.2.2⟩
theorem BoxP.store {h : Nat} {x1 x2 x3 x4 y1 y2 y3 y4 : Int} {X : World} (k : BoxP h x1 x2 x3 x4 y1 y2 y3 y4 X) (g o : Nat) (v : Value) (hg : h + 2 ≤ g) : BoxP h x1 x2 x3 x4 y1 y2 y3 y4 (X.setCell ⟨g, o, none⟩ v) := by
  refine ⟨?_, ?_, ?_, ?_, ?_, ?_, ?_, ?_⟩ <;> rw [World.cell?_setCell_other _ _ _ _ (by simp only [ne_eq, Addr.mk.injEq]; omega)]
  · exact k.1
  · exact k.2.1
  · exact k.2.2.1
  · exact k.2.2.2.1
  · exact k.2.2.2.2.1
  · exact k.2.2.2.2.2.1
  · exact k.2.2.2.2.2.2.1
  · exact k.2.2.2.2.2.2.2

set_option maxHeartbeats 800000 in
theorem slope_fine (x1 x2 x3 x4 y1 y2 y3 y4 u1 u2 f1 f2 s1 s2 : Int) (v : Value) (w : World) (b3 : -9223372036854775808 ≤ x3 ∧ x3 ≤ 9223372036854775807) (b1 : -9223372036854775808 ≤ x1 ∧ x1 ≤ 9223372036854775807)
    (hu : subQ y3 y4 x3 x4 = (u1, u2, true)) (hf : subQ y1 y2 x1 x2 = (f1, f2, true)) (hd : divQ u1 u2 f1 f2 = (s1, s2, true)) :
    Calls Try.prog 52 #[v, .agg #[.int .i64 x1, .int .i64 x2, .int .i64 x3, .int .i64 x4], .agg #[.int .i64 y1, .int .i64 y2, .int .i64 y3, .int .i64 y4]] w fun e w' => e = .returned (.agg #[.int .i64 s1, .int .i64 s2]) ∧ Below w.heap.size w w' := by
  have HU := Lib.hid hu
  have HF := Lib.hid hf
  have HD := Lib.hid hd
  clear hu hf hd
  go_enter Try.func52, Try.ntmps52
  go_wp2_with fail
  go_region_held3 (fun w' => w'.cell? ⟨w.heap.size, 0, none⟩ = some (.int .i64 x1) ∧ w'.cell? ⟨w.heap.size, 1, none⟩ = some (.int .i64 x2) ∧ w'.cell? ⟨w.heap.size, 2, none⟩ = some (.int .i64 x3) ∧ w'.cell? ⟨w.heap.size, 3, none⟩ = some (.int .i64 x4) ∧ w'.cell? ⟨w.heap.size + 1, 0, none⟩ = some (.int .i64 y1) ∧ w'.cell? ⟨w.heap.size + 1, 1, none⟩ = some (.int .i64 y2) ∧ w'.cell? ⟨w.heap.size + 1, 2, none⟩ = some (.int .i64 y3) ∧ w'.cell? ⟨w.heap.size + 1, 3, none⟩ = some (.int .i64 y4))
    ((first | (refine ⟨?_, ?_, ?_, ?_, ?_, ?_, ?_, ?_⟩ <;> (simp [go_sem]; done)) | exact BoxP.keep (by assumption) hb3 | exact BoxP.keep (by assumption) hb2 | exact BoxP.keep (by assumption) hb1 | exact BoxP.store (BoxP.store (by assumption) _ _ _ (Nat.le_refl _)) _ _ _ (Nat.le_refl _)))
    ((first
      | (go_at_call 74; (with_reducible refine (cSub_fine y3 y4 x3 x4 u1 u2 v _ b3 HU.out).mono ?_); rintro e w1 ⟨rfl, hb1⟩; have r0 := slotB (b := w.heap.size + 2) (o := 0) (v := .int .i64 0) hb1 ⟨by simp [go_sem], by simp [go_sem]⟩; have r1 := slotB (b := w.heap.size + 2) (o := 1) (v := .int .i64 0) hb1 ⟨by simp [go_sem], by simp [go_sem]⟩; have hB1 := nextB (B := w.heap.size) (w := w) (by go_grown) (by go_size) hb1)
      | (go_at_call 74; (with_reducible refine (cSub_fine y1 y2 x1 x2 f1 f2 v _ b1 HF.out).mono ?_); rintro e w2 ⟨rfl, hb2⟩; have r2 := slotB hb2 r0; have r3 := slotB hb2 r1; have hB2 := nextW hB1 hb2)
      | (go_at_call 73; (with_reducible refine (cDiv_fine u1 u2 f1 f2 s1 s2 v _ HD.out).mono ?_); rintro e w3 ⟨rfl, hb3⟩; obtain ⟨q0, z0⟩ := slotB hb3 r2; obtain ⟨q1, z1⟩ := slotB hb3 r3; have hB3 := nextW hB2 hb3)))
  go_wp2_with fail
  refine bodyPost_ret (v := .agg #[.int .i64 s1, .int .i64 s2]) (by simp [results, Try.results52, go_sem, q0, q1]) rfl ⟨rfl, ?_⟩
  go_grown

end Go.Proofs.Ytkeajfgcjmhmiaa

namespace Go.Proofs.Ytkeajfgcjmhmiaa
open Go.RowKit

/-- A point and two fractions in their boxes. -/
def BoxL (h : Nat) (p1 p2 p3 p4 s1 s2 x1 x2 : Int) (w' : World) : Prop :=
  w'.cell? ⟨h, 0, none⟩ = some (.int .i64 p1) ∧ w'.cell? ⟨h, 1, none⟩ = some (.int .i64 p2) ∧ w'.cell? ⟨h, 2, none⟩ = some (.int .i64 p3) ∧ w'.cell? ⟨h, 3, none⟩ = some (.int .i64 p4) ∧ w'.cell? ⟨h + 1, 0, none⟩ = some (.int .i64 s1) ∧ w'.cell? ⟨h + 1, 1, none⟩ = some (.int .i64 s2) ∧ w'.cell? ⟨h + 2, 0, none⟩ = some (.int .i64 x1) ∧ w'.cell? ⟨h + 2, 1, none⟩ = some (.int .i64 x2)
theorem BoxL.keepU {h g : Nat} {p1 p2 p3 p4 s1 s2 x1 x2 : Int} {X w1 : World} (k : BoxL h p1 p2 p3 p4 s1 s2 x1 x2 X) (hb : But g X w1) (hg : g < h) : BoxL h p1 p2 p3 p4 s1 s2 x1 x2 w1 :=
  ⟨cellU hb (by omega) k.1, cellU hb (by omega) k.2.1, cellU hb (by omega) k.2.2.1, cellU hb (by omega) k.2.2.2.1, cellU hb (by omega) k.2.2.2.2.1, cellU hb (by omega) k.2.2.2.2.2.1, cellU hb (by omega) k.2.2.2.2.2.2.1, cellU hb (by omega) k.2.2.2.2.2.2.2⟩
theorem BoxL.store {h : Nat} {p1 p2 p3 p4 s1 s2 x1 x2 : Int} {X : World} (k : BoxL h p1 p2 p3 p4 s1 s2 x1 x2 X) (g o : Nat) (v : Value) (hg : h + 3 ≤ g) : BoxL h p1 p2 p3 p4 s1 s2 x1 x2 (X.setCell ⟨g, o, none⟩ v) := by
  refine ⟨?_, ?_, ?_, ?_, ?_, ?_, ?_, ?_⟩ <;> rw [World.cell?_setCell_other _ _ _ _ (by simp only [ne_eq, Addr.mk.injEq]; omega)]
  · exact k.1
  · exact k.2.1
  · exact k.2.2.1
  · exact k.2.2.2.1
  · exact k.2.2.2.2.1
  · exact k.2.2.2.2.2.1
  · exact k.2.2.2.2.2.2.1
  · exact k.2.2.2.2.2.2.2

theorem But.drew {g : Nat} {a w : World} (h : But g a w) : But g a w.drew := ⟨h.os, h.tape, h.output, h.size, h.block⟩
theorem slotD {X : World} {b o : Nat} {v : Value} (h : Slot X b o v) : Slot X.drew b o v := h
theorem new_ne {g n : Nat} (h : g < n) (k : Nat) : n + k ≠ g := by omega

set_option maxHeartbeats 800000 in
theorem line_any (p1 p2 p3 p4 s1 s2 x1 x2 d1 d2 m1 m2 r1 r2 : Int) (bad bad1 bad2 bad3 : Bool) (g : Nat) (w : World) (hs : Slot w g 0 (.bool bad)) (b1 : -9223372036854775808 ≤ p1 ∧ p1 ≤ 9223372036854775807)
    (hd : keepQ (subQ x1 x2 p1 p2) = (d1, d2)) (hd' : (bad || !(subQ x1 x2 p1 p2).2.2) = bad1) (hm : keepQ (mulQ s1 s2 d1 d2) = (m1, m2)) (hm' : (bad1 || !(mulQ s1 s2 d1 d2).2.2) = bad2)
    (hr : keepQ (addQ p3 p4 m1 m2) = (r1, r2)) (hr' : (bad2 || !(addQ p3 p4 m1 m2).2.2) = bad3) :
    Calls Try.prog 71 #[.pointer (some ⟨g, 0, none⟩), .agg #[.int .i64 p1, .int .i64 p2, .int .i64 p3, .int .i64 p4], .agg #[.int .i64 s1, .int .i64 s2], .agg #[.int .i64 x1, .int .i64 x2]] w (KeepEnd g r1 r2 bad3 w) := by
  have hg := lt_of_cell hs.1
  have HD := Lib.hid hd
  have HD' := Lib.hid hd'
  have HM := Lib.hid hm
  have HM' := Lib.hid hm'
  have HR := Lib.hid hr
  have HR' := Lib.hid hr'
  have HS := Lib.hid hs
  clear hd hd' hm hm' hr hr' hs
  go_enter Try.func71, Try.ntmps71
  go_wp2_with fail
  go_region_held3 (fun w' => w'.cell? ⟨w.heap.size, 0, none⟩ = some (.int .i64 p1) ∧ w'.cell? ⟨w.heap.size, 1, none⟩ = some (.int .i64 p2) ∧ w'.cell? ⟨w.heap.size, 2, none⟩ = some (.int .i64 p3) ∧ w'.cell? ⟨w.heap.size, 3, none⟩ = some (.int .i64 p4) ∧ w'.cell? ⟨w.heap.size + 1, 0, none⟩ = some (.int .i64 s1) ∧ w'.cell? ⟨w.heap.size + 1, 1, none⟩ = some (.int .i64 s2) ∧ w'.cell? ⟨w.heap.size + 2, 0, none⟩ = some (.int .i64 x1) ∧ w'.cell? ⟨w.heap.size + 2, 1, none⟩ = some (.int .i64 x2))
    ((first | (refine ⟨?_, ?_, ?_, ?_, ?_, ?_, ?_, ?_⟩ <;> (simp [go_sem]; done)) | exact BoxL.keepU (by assumption) k3 hg | exact BoxL.keepU (by assumption) k2 hg | exact BoxL.keepU (by assumption) k1 hg | exact BoxL.store (BoxL.store (by assumption) _ _ _ (Nat.le_refl _)) _ _ _ (Nat.le_refl _)))
    ((first
      | (go_at_call 74; (with_reducible refine (cSub_any x1 x2 p1 p2 d1 d2 bad bad1 g _ (slotD (slotA _ (slotA _ (slotA _ (slotA _ HS.out))))) b1 HD.out HD'.out).mono ?_); rintro e w1 ⟨rfl, g1, k1⟩; have e0 := slotU (b := w.heap.size + 3) (o := 0) (v := .int .i64 0) k1 (new_ne hg 3) ⟨by simp [go_sem], by simp [go_sem]⟩; have e1 := slotU (b := w.heap.size + 3) (o := 1) (v := .int .i64 0) k1 (new_ne hg 3) ⟨by simp [go_sem], by simp [go_sem]⟩; have hB1 := But.trans (But.drew (((((But.refl g w).alloc _).alloc _).alloc _).alloc _)) k1)
      | (go_at_call 88; (with_reducible refine (cMul_any s1 s2 d1 d2 m1 m2 bad1 bad2 g _ g1 HM.out HM'.out).mono ?_); rintro e w2 ⟨rfl, g2, k2⟩; have e2 := slotU k2 (new_ne hg 3) e0; have e3 := slotU k2 (new_ne hg 3) e1; have hB2 := hB1.trans k2)
      | (go_at_call 87; (with_reducible refine (cAdd_any p3 p4 m1 m2 r1 r2 bad2 bad3 g _ g2 HR.out HR'.out).mono ?_); rintro e w3 ⟨rfl, g3, k3⟩; obtain ⟨q0, z0⟩ := slotU k3 (new_ne hg 3) e2; obtain ⟨q1, z1⟩ := slotU k3 (new_ne hg 3) e3; have hB3 := hB2.trans k3)))
  go_wp2_with fail
  refine bodyPost_ret (v := .agg #[.int .i64 r1, .int .i64 r2]) (by simp [results, Try.results71, go_sem, q0, q1]) rfl ⟨rfl, ?_, ?_⟩
  · refine slotS (slotS g3 ?_) ?_ <;> simp <;> omega
  · refine But.setNew (But.setNew hB3 ?_ _) ?_ _ <;> omega

end Go.Proofs.Ytkeajfgcjmhmiaa

namespace Go.Proofs.Ytkeajfgcjmhmiaa
open Go.RowKit

/-- Not left of a fraction. -/
def fromQ (x1 x2 : Int) (p : Pt) : Bool := !lessQ p.1.1 p.1.2 x1 x2

set_option maxHeartbeats 400000 in
theorem pieceF (p1 p2 p3 p4 x1 x2 : Int) (gx : Nat) (W : World) (h0 : W.cell? ⟨gx, 0, none⟩ = some (.int .i64 x1)) (h1 : W.cell? ⟨gx, 1, none⟩ = some (.int .i64 x2)) (s1 : Sm p1) (s2 : Sm p2) (k1 : Sm x1) (k2 : Sm x2) :
    Calls Try.prog 86 #[.agg #[.int .i64 p1, .int .i64 p2, .int .i64 p3, .int .i64 p4], .pointer (some ⟨gx, 0, none⟩)] W fun e W' => e = .returned (.bool (fromQ x1 x2 ((p1, p2), (p3, p4)))) ∧ Below W.heap.size W W' := by
  have hg := lt_of_cell h0
  go_enter Try.func86, Try.ntmps86
  go_wp2_with fail
  refine (less_any p1 p2 x1 x2 s1 s2 k1 k2 _).mono ?_
  rintro e w1 ⟨rfl, hb⟩
  have hB := nextB (B := W.heap.size) (w := W) (by go_grown) (by go_size) hb
  go_wp2_with fail
  go_ret
  exact ⟨rfl, hB⟩

def AllX (ps : List Pt) : Prop := ∀ p ∈ ps, Sm p.1.1 ∧ Sm p.1.2

theorem pieceF_says (ps : List Pt) (x1 x2 : Int) (gx : Nat) (w : World) (hx : AllX ps) (h0 : w.cell? ⟨gx, 0, none⟩ = some (.int .i64 x1)) (h1 : w.cell? ⟨gx, 1, none⟩ = some (.int .i64 x2)) (k1 : Sm x1) (k2 : Sm x2) :
    Says 86 #[.pointer (some ⟨gx, 0, none⟩)] (fromQ x1 x2) ps w :=
  fun W p hb hp => pieceF p.1.1 p.1.2 p.2.1 p.2.2 x1 x2 gx W (cellB hb h0) (cellB hb h1) (hx p hp).1 (hx p hp).2 k1 k2

theorem idxB_bd (b : Pt → Bool) (ps : List Pt) : -1 ≤ idxB b ps ∧ idxB b ps ≤ ps.length := by
  unfold idxB
  cases h : ps.findIdx? b with
  | none => simp
  | some i =>
    have := (List.findIdx?_eq_some_iff_getElem.1 h).1
    simp
    omega

set_option maxHeartbeats 400000 in
theorem pieceAt_is (ps : List Pt) (v : Value) (x1 x2 j k : Int) (w : World) (hv : RdP w v ps) (hx : AllX ps) (k1 : Sm x1) (k2 : Sm x2) (hj : idxB (fromQ x1 x2) ps = j) (hn : -1 ≤ j ∧ j ≤ 1048576) (hk : max (j - 1) 0 = k) :
    Calls Try.prog 70 #[v, .agg #[.int .i64 x1, .int .i64 x2]] w fun e w' => e = .returned (.int .i64 k) ∧ Below w.heap.size w w' := by
  have HV := Lib.hid hv
  have HJ := Lib.hid hj
  have HK := Lib.hid hk
  clear hv hj hk
  go_enter Try.func70, Try.ntmps70
  go_wp2_with fail
  refine (indexPiece (fromQ x1 x2) ps v w.heap.size _ (HV.out.keep ((Below.refl _ _).alloc (Nat.le_refl _) _)) (pieceF_says ps x1 x2 w.heap.size _ hx (by simp [go_sem]) (by simp [go_sem]) k1 k2)).mono ?_
  rintro e w1 ⟨rfl, hb⟩
  have hB := nextB (B := w.heap.size) (w := w) (by go_grown) (by go_size) hb
  clear hb
  rw [HJ.out]
  rcases Int.lt_or_le j 1 with h1 | h1
  · have : k = 0 := by have := HK.out; omega
    subst this
    go_wp2_with fail
    go_ret
    exact ⟨rfl, hB⟩
  · have : k = j - 1 := by have := HK.out; omega
    subst this
    go_wp2_with fail
    go_ret
    exact ⟨rfl, hB⟩

end Go.Proofs.Ytkeajfgcjmhmiaa

namespace Go.Proofs.Ytkeajfgcjmhmiaa
open Go.RowKit

/-- Cells and what they hold. -/
def Facts : List (Nat × Nat × Value) → World → Prop
  | [], _ => True
  | x :: [], W => W.cell? ⟨x.1, x.2.1, none⟩ = some x.2.2
  | x :: y :: r, W => W.cell? ⟨x.1, x.2.1, none⟩ = some x.2.2 ∧ Facts (y :: r) W

theorem Facts.keep : ∀ {L : List (Nat × Nat × Value)} {W w1 : World}, Facts L W → Below W.heap.size W w1 → Facts L w1
  | [], _, _, _, _ => trivial
  | _ :: [], _, _, h, hb => cellB hb h
  | _ :: _ :: _, _, _, h, hb => ⟨cellB hb h.1, Facts.keep h.2 hb⟩
theorem Facts.keepU {g : Nat} : ∀ {L : List (Nat × Nat × Value)} {W w1 : World}, Facts L W → But g W w1 → (∀ x ∈ L, x.1 ≠ g) → Facts L w1
  | [], _, _, _, _, _ => trivial
  | x :: [], _, _, h, hb, hn => cellU hb (hn x (by simp)) h
  | x :: y :: r, _, _, h, hb, hn => ⟨cellU hb (hn x (by simp)) h.1, Facts.keepU h.2 hb (fun z hz => hn z (List.mem_cons_of_mem _ hz))⟩

theorem Facts.ltB {lo : Nat} : ∀ {L : List (Nat × Nat × Value)} {W : World}, Facts L W → W.heap.size ≤ lo → ∀ x ∈ L, x.1 < lo
  | [], _, _, _, _, hx => absurd hx (by simp)
  | a :: [], _, h, hl, x, hx => by
    obtain rfl : x = a := by simpa using hx
    exact Nat.lt_of_lt_of_le (lt_of_cell h) hl
  | a :: b :: r, _, h, hl, x, hx => by
    rcases List.mem_cons.1 hx with e | e
    · subst e; exact Nat.lt_of_lt_of_le (lt_of_cell h.1) hl
    · exact Facts.ltB h.2 hl x e
theorem below_but {B g : Nat} {w0 w w' : World} (hB : Below B w0 w) (h : But g w w') (hg : B ≤ g) (hs : B ≤ w0.heap.size := by exact Nat.le_refl _) : Below B w0 w' := But.below hB h hg (Nat.le_trans hs hB.size)

/-- .. over stores into other blocks than those of the facts. -/
theorem Facts.put {g o : Nat} {u : Value} : ∀ {L : List (Nat × Nat × Value)} {W : World}, Facts L W → (∀ x ∈ L, x.1 ≠ g) → Facts L (W.setCell ⟨g, o, none⟩ u)
  | [], _, _, _ => trivial
  | x :: [], W, h, hn => (World.cell?_setCell_other W ⟨g, o, none⟩ ⟨x.1, x.2.1, none⟩ u (by intro e; cases e; exact hn x (by simp) rfl)).trans h
  | x :: y :: r, W, h, hn => ⟨(World.cell?_setCell_other W ⟨g, o, none⟩ ⟨x.1, x.2.1, none⟩ u (by intro e; cases e; exact hn x (by simp) rfl)).trans h.1, Facts.put h.2 (fun z hz => hn z (List.mem_cons_of_mem _ hz))⟩

theorem cellX {W X w1 : World} {b o : Nat} {v : Value} (hX : Below W.heap.size W X) (hb : Below X.heap.size X w1) (h : W.cell? ⟨b, o, none⟩ = some v) : w1.cell? ⟨b, o, none⟩ = some v := cellB hb (cellB hX h)
theorem slotX {W X w1 : World} {b o : Nat} {v : Value} (hX : Below W.heap.size W X) (hb : Below X.heap.size X w1) (h : Slot W b o v) : Slot w1 b o v := slotB hb (slotB hX h)
/-- One more callee, from a world that has a name. -/
theorem nextX {W X w1 : World} (hX : Below W.heap.size W X) (hb : Below X.heap.size X w1) : Below W.heap.size W w1 := nextW hX hb

/-- A variable that holds a fraction: a block of its own. -/
def VarQ (wx : World) (s : Value) (lo : Nat) (a b : Int) : Prop := ∃ g, s = .pointer (some ⟨g, 0, none⟩) ∧ lo ≤ g ∧ Slot wx g 0 (.int .i64 a) ∧ Slot wx g 1 (.int .i64 b)
theorem VarQ.made {X : World} {lo : Nat} (hlo : lo ≤ X.heap.size) (a b : Int) (ty : TypeId) : VarQ (X.alloc (.cells #[.int .i64 a, .int .i64 b] ty)) (.pointer (some ⟨X.heap.size, 0, none⟩)) lo a b :=
  ⟨_, rfl, hlo, (slotNew _ _ _ _).1, (slotNew _ _ _ _).2⟩
theorem VarQ.stored {X : World} {g lo : Nat} {u v : Value} (s0 : Slot X g 0 u) (s1 : Slot X g 1 v) (hlo : lo ≤ g) (a b : Int) : VarQ ((X.setCell ⟨g, 0, none⟩ (.int .i64 a)).setCell ⟨g, 1, none⟩ (.int .i64 b)) (.pointer (some ⟨g, 0, none⟩)) lo a b :=
  ⟨g, rfl, hlo, slotS (slotN s0) (by simp), slotN (slotS s1 (by simp))⟩

/-- A block of two cells that was made just ahead of a call (or was not): what is known of it behind it. -/
def Fresh2 (g : Nat) (w1 : World) : Prop := Slot w1 g 0 (.int .i64 0) ∧ Slot w1 g 1 (.int .i64 0)
theorem fresh2 {X w1 : World} {ty : TypeId} (hb : Below (X.alloc (.cells #[.int .i64 0, .int .i64 0] ty)).heap.size (X.alloc (.cells #[.int .i64 0, .int .i64 0] ty)) w1) : Fresh2 X.heap.size w1 :=
  ⟨slotB hb (slotNew _ _ _ _).1, slotB hb (slotNew _ _ _ _).2⟩
theorem fresh2D {X w1 : World} {ty : TypeId} (hb : Below (X.alloc (.cells #[.int .i64 0, .int .i64 0] ty)).drew.heap.size (X.alloc (.cells #[.int .i64 0, .int .i64 0] ty)).drew w1) : Fresh2 X.heap.size w1 :=
  ⟨slotB hb (slotD (slotNew X _ _ ty).1), slotB hb (slotD (slotNew X _ _ ty).2)⟩
theorem Fresh2.keep {g : Nat} {w1 w2 : World} (h : Fresh2 g w1) (hb : Below w1.heap.size w1 w2) : Fresh2 g w2 := ⟨slotB hb h.1, slotB hb h.2⟩

end Go.Proofs.Ytkeajfgcjmhmiaa
