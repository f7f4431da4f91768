/- The methods of the program's 'calc': they note in their receiver whether a result was too large. -/
import Derived.Test.YtkdhhopfefhdjaaRat9
import Derived.Test.YtkdhhopfefhdjaaUnit
namespace Go.Proofs.Ytkdhhopfefhdjaa
open Go.RowKit

/-- All is as it was but for block g, and what is new. -/
structure But (g : Nat) (w w' : World) : Prop where
  os : w'.os = w.os
  tape : w'.tape = w.tape
  output : w'.output = w.output
  size : w.heap.size ≤ w'.heap.size
  block : ∀ k, k < w.heap.size → k ≠ g → w'.heap[k]? = w.heap[k]?

theorem But.refl (g : Nat) (w : World) : But g w w := ⟨rfl, rfl, rfl, Nat.le_refl _, fun _ _ _ => rfl⟩
theorem But.trans {g : Nat} {a b c : World} (h : But g a b) (k : But g b c) : But g a c :=
  ⟨k.os.trans h.os, k.tape.trans h.tape, k.output.trans h.output, Nat.le_trans h.size k.size, fun i hi hn => (k.block i (Nat.lt_of_lt_of_le hi h.size) hn).trans (h.block i hi hn)⟩
theorem But.of_below {g B : Nat} {w w' : World} (h : Below B w w') (hB : w.heap.size ≤ B) : But g w w' := ⟨h.os, h.tape, h.output, h.size, fun k hk _ => h.block k (Nat.lt_of_lt_of_le hk hB)⟩
theorem But.next {g B : Nat} {w X w' : World} (h : But g w X) (k : Below B X w') (hB : X.heap.size ≤ B) : But g w w' := h.trans (But.of_below k hB)
theorem But.alloc {g : Nat} {a w : World} (h : But g a w) (o : Obj) : But g a (w.alloc o) := h.next ((Below.refl _ _).alloc (Nat.le_refl _) o) (Nat.le_refl _)
theorem But.setCell {g o : Nat} {a w : World} (h : But g a w) (u : Value) : But g a (w.setCell ⟨g, o, none⟩ u) :=
  h.trans ⟨rfl, rfl, rfl, by simp [World.setCell], fun k _ hn => Below.heap_setCell _ _ _ _ hn⟩
theorem But.setNew {g k o : Nat} {a w : World} (h : But g a w) (hk : a.heap.size ≤ k) (u : Value) : But g a (w.setCell ⟨k, o, none⟩ u) :=
  ⟨h.os, h.tape, h.output, by simpa [World.setCell] using h.size, fun i hi hn => (Below.heap_setCell _ _ _ _ (by show i ≠ k; omega)).trans (h.block i hi hn)⟩
theorem But.below {g B : Nat} {w0 w w' : World} (hB : Below B w0 w) (h : But g w w') (hg : B ≤ g) (hs : B ≤ w.heap.size) : Below B w0 w' :=
  hB.trans ⟨h.os, h.tape, h.output, h.size, fun k hk => h.block k (by omega) (by omega)⟩
theorem cellU {g b o : Nat} {w w' : World} {v : Value} (h : But g w w') (hn : b ≠ g) (hc : w.cell? ⟨b, o, none⟩ = some v) : w'.cell? ⟨b, o, none⟩ = some v :=
  (World.cell?_of_block (w := w) (h.block b (lt_of_cell hc) hn)).trans hc
theorem slotU {g b o : Nat} {w w' : World} {v : Value} (h : But g w w') (hn : b ≠ g) (hc : Slot w b o v) : Slot w' b o v :=
  ⟨cellU h hn hc.1, (World.frozen?_of_block (w := w) (h.block b (lt_of_cell hc.1) hn)).trans hc.2⟩

/-- What 'keep' gives. -/
def keepQ (r : Int × Int × Bool) : Q := if r.2.2 then (r.1, r.2.1) else (0, 1)

def KeepEnd (g : Nat) (p q : Int) (bad : Bool) (w : World) (e : Ending) (w' : World) : Prop := e = .returned (.agg #[.int .i64 p, .int .i64 q]) ∧ Slot w' g 0 (.bool bad) ∧ But g w w'

set_option maxHeartbeats 400000 in
theorem keep_yes (n d : Int) (bad : Bool) (g : Nat) (w : World) (hs : Slot w g 0 (.bool bad)) :
    Calls Try.prog 168 #[.pointer (some ⟨g, 0, none⟩), .agg #[.int .i64 n, .int .i64 d], .bool true] w (KeepEnd g n d bad w) := by
  have hg := lt_of_cell hs.1
  go_enter Try.func168, Try.ntmps168
  go_wp2_with fail
  refine bodyPost_ret (v := .agg #[.int .i64 n, .int .i64 d]) (by simp [results, Try.results168, go_sem]) rfl ⟨rfl, ?_, ?_⟩
  · exact slotA _ (slotA _ hs)
  · exact ((But.refl g w).alloc _).alloc _

set_option maxHeartbeats 400000 in
theorem keep_no (n d : Int) (bad : Bool) (g : Nat) (w : World) (hs : Slot w g 0 (.bool bad)) :
    Calls Try.prog 168 #[.pointer (some ⟨g, 0, none⟩), .agg #[.int .i64 n, .int .i64 d], .bool false] w (KeepEnd g 0 1 true w) := by
  have hg := lt_of_cell hs.1
  obtain ⟨hs0, hs1⟩ := hs
  go_enter Try.func168, Try.ntmps168
  go_wp2_with fail
  refine (zero_any _).mono ?_
  rintro e w1 ⟨rfl, hb⟩
  have k : But g w w1 := But.next ((((But.refl g w).setCell _).alloc _).alloc _) hb (Nat.le_refl _)
  obtain ⟨q0, f0⟩ : Slot w1 (w.heap.size + 1) 0 (.int .i64 0) := slotB hb ⟨by simp [go_sem], by simp [go_sem]⟩
  obtain ⟨q1, f1⟩ : Slot w1 (w.heap.size + 1) 1 (.int .i64 0) := slotB hb ⟨by simp [go_sem], by simp [go_sem]⟩
  have hs : Slot w1 g 0 (.bool true) := slotB hb (slotA _ (slotA _ (slotN ⟨hs0, hs1⟩)))
  clear hb
  go_wp2_with fail
  refine bodyPost_ret (v := .agg #[.int .i64 0, .int .i64 1]) (by simp [results, Try.results168, go_sem, q0, q1]) rfl ⟨rfl, ?_, ?_⟩
  · refine slotS (slotS hs ?_) ?_ <;> simp <;> omega
  · refine But.setNew (But.setNew k ?_ _) ?_ _ <;> omega

theorem keep_any (n d p q : Int) (t bad bad' : Bool) (g : Nat) (w : World) (hs : Slot w g 0 (.bool bad)) (hp : keepQ (n, d, t) = (p, q)) (hb : (bad || !t) = bad') :
    Calls Try.prog 168 #[.pointer (some ⟨g, 0, none⟩), .agg #[.int .i64 n, .int .i64 d], .bool t] w (KeepEnd g p q bad' w) := by
  unfold keepQ at hp
  cases t
  · simp at hp hb
    obtain ⟨rfl, rfl⟩ := hp
    subst hb
    exact keep_no n d bad g w hs
  · simp at hp hb
    obtain ⟨rfl, rfl⟩ := hp
    subst hb
    exact keep_yes n d bad g w hs

end Go.Proofs.Ytkdhhopfefhdjaa
