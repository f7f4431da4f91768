/- image of a map: lesser, the closure of image, image. -/
import Derived.Test.YtkaekjhcphgldaaGreatDist
import Derived.Test.YtkaekjhcphgldaaGreatVis
import Derived.Test.YtkaekjhcphgldaaGreatHeadTail
namespace Go.Proofs.YtkaekjhcphgldaaGreat
open Go.RowKit

def lesserQ (a b : Q) : Q := if lessQ b.1 b.2 a.1 a.2 = true then b else a
def stepI (s : Q × Q) (y : Q) : Q × Q := (lesserQ s.1 y, bigQ s.2 y)
def inQ (a b : Q) (p : Pt) : Bool := lessQ a.1 a.2 p.1.1 p.1.2 && lessQ p.1.1 p.1.2 b.1 b.2
def imgL (ps : List Pt) (a b : Q) : List Q := (ps.filter (inQ a b)).map (·.2)
def imgS (ya yb : Q) (l : List Q) : Q × Q := l.foldl stepI (stepI (ya, ya) yb)
theorem imgL_more {ps : List Pt} {k : Nat} {p : Pt} {a b : Q} (hp : ps[k]? = some p) : imgL (ps.take (k + 1)) a b = imgL (ps.take k) a b ++ (if inQ a b p = true then [p.2] else []) := by
  unfold imgL
  rw [take_snoc_get hp, List.filter_append, List.map_append]
  congr 1
  by_cases h : inQ a b p = true <;> simp [h]
theorem imgL_len (ps : List Pt) (a b : Q) : (imgL ps a b).length ≤ ps.length := by
  unfold imgL; rw [List.length_map]; exact List.length_filter_le _ _
theorem imgS_snoc (ya yb : Q) (l : List Q) (y : Q) : imgS ya yb (l ++ [y]) = stepI (imgS ya yb l) y := by unfold imgS; rw [List.foldl_append]; rfl
theorem lesserQ_ok {a b : Q} (ha : okQ a.1 a.2 = true) (hb : okQ b.1 b.2 = true) : okQ (lesserQ a b).1 (lesserQ a b).2 = true := by
  unfold lesserQ; split
  · exact hb
  · exact ha
theorem bigQ_ok {a b : Q} (ha : okQ a.1 a.2 = true) (hb : okQ b.1 b.2 = true) : okQ (bigQ a b).1 (bigQ a b).2 = true := by
  unfold bigQ; split
  · exact hb
  · exact ha
theorem foldI_ok : ∀ (l : List Q) (s : Q × Q), (∀ q ∈ l, okQ q.1 q.2 = true) → okQ s.1.1 s.1.2 = true → okQ s.2.1 s.2.2 = true → okQ (l.foldl stepI s).1.1 (l.foldl stepI s).1.2 = true ∧ okQ (l.foldl stepI s).2.1 (l.foldl stepI s).2.2 = true
  | [], _, _, h1, h2 => ⟨h1, h2⟩
  | y :: l, _, h, h1, h2 => foldI_ok l _ (fun q hq => h q (List.mem_cons_of_mem _ hq)) (lesserQ_ok h1 (h y List.mem_cons_self)) (bigQ_ok h2 (h y List.mem_cons_self))
theorem imgS_ok {ya yb : Q} {l : List Q} (h1 : okQ ya.1 ya.2 = true) (h2 : okQ yb.1 yb.2 = true) (h : ∀ q ∈ l, okQ q.1 q.2 = true) : okQ (imgS ya yb l).1.1 (imgS ya yb l).1.2 = true ∧ okQ (imgS ya yb l).2.1 (imgS ya yb l).2.2 = true :=
  foldI_ok l _ h (lesserQ_ok h1 h2) (bigQ_ok h1 h2)
theorem imgL_ok {ps : List Pt} (hm : okMap ps = true) (a b : Q) (k : Nat) : ∀ q ∈ imgL (ps.take k) a b, okQ q.1 q.2 = true := fun q hq => by
  unfold imgL at hq
  obtain ⟨p, hp, rfl⟩ := List.mem_map.1 hq
  obtain ⟨i, hi, rfl⟩ := List.getElem_of_mem (List.mem_of_mem_take (List.mem_filter.1 hp).1)
  exact unitQ_ok (coordQ_unit (okMap_coord hm (List.getElem?_eq_getElem hi)).2)

/-- All is as it was but two blocks. -/
structure But2 (g h : Nat) (w w' : World) : Prop where
  os : w'.os = w.os
  tape : w'.tape = w.tape
  output : w'.output = w.output
  size : w.heap.size ≤ w'.heap.size
  block : ∀ k, k < w.heap.size → k ≠ g → k ≠ h → w'.heap[k]? = w.heap[k]?
theorem But2.refl (g h : Nat) (w : World) : But2 g h w w := ⟨rfl, rfl, rfl, Nat.le_refl _, fun _ _ _ _ => rfl⟩
theorem But2.trans {g h : Nat} {a b c : World} (x : But2 g h a b) (y : But2 g h b c) : But2 g h a c :=
  ⟨y.os.trans x.os, y.tape.trans x.tape, y.output.trans x.output, Nat.le_trans x.size y.size, fun i hi hn hm => (y.block i (Nat.lt_of_lt_of_le hi x.size) hn hm).trans (x.block i hi hn hm)⟩
theorem But2.of_below {g h : Nat} {w w' : World} (x : Below w.heap.size w w') : But2 g h w w' := ⟨x.os, x.tape, x.output, x.size, fun k hk _ _ => x.block k hk⟩
theorem But2.one {g h : Nat} {w w' : World} (x : But g w w') : But2 g h w w' := ⟨x.os, x.tape, x.output, x.size, fun k hk hn _ => x.block k hk hn⟩
theorem But2.two {g h : Nat} {w w' : World} (x : But h w w') : But2 g h w w' := ⟨x.os, x.tape, x.output, x.size, fun k hk _ hn => x.block k hk hn⟩
theorem But2.next {g h : Nat} {w X w' : World} (x : But2 g h w X) (y : Below X.heap.size X w') : But2 g h w w' := x.trans (But2.of_below y)
theorem cell2 {g h b o : Nat} {w w' : World} {v : Value} (x : But2 g h w w') (hn : b ≠ g) (hm : b ≠ h) (hc : w.cell? ⟨b, o, none⟩ = some v) : w'.cell? ⟨b, o, none⟩ = some v :=
  (World.cell?_of_block (w := w) (x.block b (lt_of_cell hc) hn hm)).trans hc
theorem slot2 {g h b o : Nat} {w w' : World} {v : Value} (x : But2 g h w w') (hn : b ≠ g) (hm : b ≠ h) (hc : Slot w b o v) : Slot w' b o v :=
  ⟨cell2 x hn hm hc.1, (World.frozen?_of_block (w := w) (x.block b (lt_of_cell hc.1) hn hm)).trans hc.2⟩
theorem But2.after {gc g h : Nat} {w a b : World} (x : But gc w a) (y : But2 g h a b) (hg : w.heap.size ≤ g) (hh : w.heap.size ≤ h) : But gc w b :=
  ⟨y.os.trans x.os, y.tape.trans x.tape, y.output.trans x.output, Nat.le_trans x.size y.size, fun i hi hn => (y.block i (Nat.lt_of_lt_of_le hi x.size) (by omega) (by omega)).trans (x.block i hi hn)⟩
theorem But2.below {g h : Nat} {w a b : World} (x : Below w.heap.size w a) (y : But2 g h a b) (hg : w.heap.size ≤ g) (hh : w.heap.size ≤ h) : Below w.heap.size w b :=
  ⟨y.os.trans x.os, y.tape.trans x.tape, y.output.trans x.output, Nat.le_trans x.size y.size, fun i hi => (y.block i (Nat.lt_of_lt_of_le hi x.size) (by omega) (by omega)).trans (x.block i hi)⟩

/-- A variable's box that holds a fraction. -/
def BoxQ (w : World) (g : Nat) (a b : Int) : Prop := Slot w g 0 (.int .i64 a) ∧ Slot w g 1 (.int .i64 b)
def TakeEnd (gl gh : Nat) (p1 p2 q1 q2 : Int) (w : World) (e : Ending) (w' : World) : Prop := e = .returned (.tuple #[]) ∧ BoxQ w' gl p1 p2 ∧ BoxQ w' gh q1 q2 ∧ But2 gl gh w w'

set_option maxHeartbeats 400000 in
theorem lesser_any (n1 d1 n2 d2 p q : Int) (sa : Sm n1 ∧ Sm d1) (sb : Sm n2 ∧ Sm d2) (h : lesserQ (n1, d1) (n2, d2) = (p, q)) (w : World) :
    Calls Tryz.prog 55 #[.agg #[.int .i64 n1, .int .i64 d1], .agg #[.int .i64 n2, .int .i64 d2]] w fun e w' => e = .returned (.agg #[.int .i64 p, .int .i64 q]) ∧ Below w.heap.size w w' := by
  have SA := Lib.hid sa
  have SB := Lib.hid sb
  rcases hl : lessQ n2 d2 n1 d1 with _ | _
  · obtain ⟨rfl, rfl⟩ : n1 = p ∧ d1 = q := by unfold lesserQ at h; simp only [hl] at h; simpa using h
    have HL := Lib.hid hl
    clear h hl sa sb
    go_enter Tryz.func55, Tryz.ntmps55
    go_wp2_with fail
    refine (less_any n2 d2 n1 d1 SB.out.1 SB.out.2 SA.out.1 SA.out.2 _).mono ?_
    rintro e w1 ⟨he, hb⟩
    rw [HL.out] at he
    subst he
    have hX : Below w.heap.size w w1 := nextX (by go_grown) hb
    have b00 : w1.cell? ⟨w.heap.size, 0, none⟩ = some (.int .i64 n1) := cellB hb (by simp [go_sem])
    have b01 : w1.cell? ⟨w.heap.size, 1, none⟩ = some (.int .i64 d1) := cellB hb (by simp [go_sem])
    have b10 : w1.cell? ⟨w.heap.size + 1, 0, none⟩ = some (.int .i64 n2) := cellB hb (by simp [go_sem])
    have b11 : w1.cell? ⟨w.heap.size + 1, 1, none⟩ = some (.int .i64 d2) := cellB hb (by simp [go_sem])
    have r20 : Slot w1 (w.heap.size + 2) 0 (.int .i64 0) := slotB hb ⟨by simp [go_sem], by simp [go_sem]⟩
    have r21 : Slot w1 (w.heap.size + 2) 1 (.int .i64 0) := slotB hb ⟨by simp [go_sem], by simp [go_sem]⟩
    have zb00 := lt_of_cell b00
    have zb10 := lt_of_cell b10
    have zr20 := lt_of_cell r20.1
    have hB : Below w.heap.size w w1 := hX
    clear hb hX
    obtain ⟨q0, k0⟩ := r20
    obtain ⟨q1, k1⟩ := r21
    go_wp2_with fail
    refine bodyPost_ret (v := .agg #[.int .i64 n1, .int .i64 d1]) (by first | (simp [results, Tryz.results55, go_sem, q0, q1]; done) | (simp [results, Tryz.results55, go_sem, q0, q1, zr20]; done)) rfl ⟨rfl, ?_⟩
    go_grown
  · obtain ⟨rfl, rfl⟩ : n2 = p ∧ d2 = q := by unfold lesserQ at h; simp only [hl] at h; simpa using h
    have HL := Lib.hid hl
    clear h hl sa sb
    go_enter Tryz.func55, Tryz.ntmps55
    go_wp2_with fail
    refine (less_any n2 d2 n1 d1 SB.out.1 SB.out.2 SA.out.1 SA.out.2 _).mono ?_
    rintro e w1 ⟨he, hb⟩
    rw [HL.out] at he
    subst he
    have hX : Below w.heap.size w w1 := nextX (by go_grown) hb
    have b00 : w1.cell? ⟨w.heap.size, 0, none⟩ = some (.int .i64 n1) := cellB hb (by simp [go_sem])
    have b01 : w1.cell? ⟨w.heap.size, 1, none⟩ = some (.int .i64 d1) := cellB hb (by simp [go_sem])
    have b10 : w1.cell? ⟨w.heap.size + 1, 0, none⟩ = some (.int .i64 n2) := cellB hb (by simp [go_sem])
    have b11 : w1.cell? ⟨w.heap.size + 1, 1, none⟩ = some (.int .i64 d2) := cellB hb (by simp [go_sem])
    have r20 : Slot w1 (w.heap.size + 2) 0 (.int .i64 0) := slotB hb ⟨by simp [go_sem], by simp [go_sem]⟩
    have r21 : Slot w1 (w.heap.size + 2) 1 (.int .i64 0) := slotB hb ⟨by simp [go_sem], by simp [go_sem]⟩
    have zb00 := lt_of_cell b00
    have zb10 := lt_of_cell b10
    have zr20 := lt_of_cell r20.1
    have hB : Below w.heap.size w w1 := hX
    clear hb hX
    obtain ⟨q0, k0⟩ := r20
    obtain ⟨q1, k1⟩ := r21
    go_wp2_with fail
    refine bodyPost_ret (v := .agg #[.int .i64 n2, .int .i64 d2]) (by first | (simp [results, Tryz.results55, go_sem, q0, q1]; done) | (simp [results, Tryz.results55, go_sem, q0, q1, zr20]; done)) rfl ⟨rfl, ?_⟩
    go_grown

end Go.Proofs.YtkaekjhcphgldaaGreat
