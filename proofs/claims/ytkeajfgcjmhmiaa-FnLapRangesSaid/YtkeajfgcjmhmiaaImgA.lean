/- image of a map: lesser, the closure of image, image. -/
import Derived.Test.YtkeajfgcjmhmiaaDist
import Derived.Test.YtkeajfgcjmhmiaaVis
import Derived.Test.YtkeajfgcjmhmiaaHeadTail
namespace Go.Proofs.Ytkeajfgcjmhmiaa
open Go.RowKit

def lesserQ (a b : Q) : Q := if lessQ b.1 b.2 a.1 a.2 = true then b else a
def stepI (s : Q × Q) (y : Q) : Q × Q := (lesserQ s.1 y, bigQ s.2 y)
def inQ (a b : Q) (p : Pt) : Bool := lessQ a.1 a.2 p.1.1 p.1.2 && lessQ p.1.1 p.1.2 b.1 b.2
def imgL (ps : List Pt) (a b : Q) : List Q := (ps.filter (inQ a b)).map (·.2)
def imgS (ya yb : Q) (l : List Q) : Q × Q := l.foldl stepI (stepI (ya, ya) yb)
theorem imgL_more {ps : List Pt} {k : Nat} {p : Pt} {a b : Q} (hp : ps[k]? = some p) : imgL (ps.take (k + 1)) a b = imgL (ps.take k) a b ++ (if inQ a b p = true then [p.2] else []) := by
  unfold imgL
  rw [take_snoc_get hp, List.filter_append, List.map_append]
  congr 1
  by_cases h : inQ a b p = true <;> simp [h]
theorem imgL_len (ps : List Pt) (a b : Q) : (imgL ps a b).length ≤ ps.length := by
  unfold imgL; rw [List.length_map]; exact List.length_filter_le _ _
theorem imgS_snoc (ya yb : Q) (l : List Q) (y : Q) : imgS ya yb (l ++ [y]) = stepI (imgS ya yb l) y := by unfold imgS; rw [List.foldl_append]; rfl
theorem lesserQ_ok {a b : Q} (ha : okQ a.1 a.2 = true) (hb : okQ b.1 b.2 = true) : okQ (lesserQ a b).1 (lesserQ a b).2 = true := by
  unfold lesserQ; split
  · exact hb
  · exact ha
theorem bigQ_ok {a b : Q} (ha : okQ a.1 a.2 = true) (hb : okQ b.1 b.2 = true) : okQ (bigQ a b).1 (bigQ a b).2 = true := by
  unfold bigQ; split
  · exact hb
  · exact ha
theorem foldI_ok : ∀ (l : List Q) (s : Q × Q), (∀ q ∈ l, okQ q.1 q.2 = true) → okQ s.1.1 s.1.2 = true → okQ s.2.1 s.2.2 = true → okQ (l.foldl stepI s).1.1 (l.foldl stepI s).1.2 = true ∧ okQ (l.foldl stepI s).2.1 (l.foldl stepI s).2.2 = true
  | [], _, _, h1, h2 => ⟨h1, h2⟩
  | y :: l, _, h, h1, h2 => foldI_ok l _ (fun q hq => h q (List.mem_cons_of_mem _ hq)) (lesserQ_ok h1 (h y List.mem_cons_self)) (bigQ_ok h2 (h y List.mem_cons_self))
theorem imgS_ok {ya yb : Q} {l : List Q} (h1 : okQ ya.1 ya.2 = true) (h2 : okQ yb.1 yb.2 = true) (h : ∀ q ∈ l, okQ q.1 q.2 = true) : okQ (imgS ya yb l).1.1 (imgS ya yb l).1.2 = true ∧ okQ (imgS ya yb l).2.1 (imgS ya yb l).2.2 = true :=
  foldI_ok l _ h (lesserQ_ok h1 h2) (bigQ_ok h1 h2)
theorem imgL_ok {ps : List Pt} (hm : okMap ps = true) (a b : Q) (k : Nat) : ∀ q ∈ imgL (ps.take k) a b, okQ q.1 q.2 = true := fun q hq => by
  unfold imgL at hq
  obtain ⟨p, hp, rfl⟩ := List.mem_map.1 hq
  obtain ⟨i, hi, rfl⟩ := List.getElem_of_mem (List.mem_of_mem_take (List.mem_filter.1 hp).1)
  exact unitQ_ok (coordQ_unit (okMap_coord hm (List.getElem?_eq_getElem hi)).2)

/-- All is as it was but two blocks. -/
structure But2 (g h : Nat) (w w' : World) : Prop where
  os : w'.os = w.os
  tape : w'.tape = w.tape
  output : w'.output = w.output
  size : w.heap.size ≤ w'.heap.size
  block : ∀ k, k < w.heap.size → k ≠ g → k ≠ h → w'.heap[k]? = w.heap[k]?
theorem But2.refl (g h : Nat) (w : World) : But2 g h w w := ⟨rfl, rfl, rfl, Nat.le_refl _, fun _ _ _ _ => rfl⟩
theorem But2.trans {g h : Nat} {a b c : World} (x : But2 g h a b) (y : But2 g h b c) : But2 g h a c :=
  ⟨y.os.trans x.os, y.tape.trans x.tape, y.output.trans x.output, Nat.le_trans x.size y.size, fun i hi hn hm => (y.block i (Nat.lt_of_lt_of_le hi x.size) hn hm).trans (x.block i hi hn hm)⟩
theorem But2.of_below {g h : Nat} {w w' : World} (x : Below w.heap.size w w') : But2 g h w w' := ⟨x.os, x.tape, x.output, x.size, fun k hk _ _ => x.block k hk⟩
theorem But2.one {g h : Nat} {w w' : World} (x : But g w w') : But2 g h w w' := ⟨x.os, x.tape, x.output, x.size, fun k hk hn _ => x.block k hk hn⟩
theorem But2.two {g h : Nat} {w w' : World} (x : But h w w') : But2 g h w w' := ⟨x.os, x.tape, x.output, x.size, fun k hk _ hn => x.block k hk hn⟩
theorem But2.next {g h : Nat} {w X w' : World} (x : But2 g h w X) (y : Below X.heap.size X w') : But2 g h w w' := x.trans (But2.of_below y)
theorem cell2 {g h b o : Nat} {w w' : World} {v : Value} (x : But2 g h w w') (hn : b ≠ g) (hm : b ≠ h) (hc : w.cell? ⟨b, o, none⟩ = some v) : w'.cell? ⟨b, o, none⟩ = some v :=
  (World.cell?_of_block (w := w) (x.block b (lt_of_cell hc) hn hm)).trans hc
theorem slot2 {g h b o : Nat} {w w' : World} {v : Value} (x : But2 g h w w') (hn : b ≠ g) (hm : b ≠ h) (hc : Slot w b o v) : Slot w' b o v :=
  ⟨cell2 x hn hm hc.1, (World.frozen?_of_block (w := w) (x.block b (lt_of_cell hc.1) hn hm)).trans hc.2⟩
theorem But2.after {gc g h : Nat} {w a b : World} (x : But gc w a) (y : But2 g h a b) (hg : w.heap.size ≤ g) (hh : w.heap.size ≤ h) : But gc w b :=
  ⟨y.os.trans x.os, y.tape.trans x.tape, y.output.trans x.output, Nat.le_trans x.size y.size, fun i hi hn => (y.block i (Nat.lt_of_lt_of_le hi x.size) (by omega) (by omega)).trans (x.block i hi hn)⟩
theorem But2.below {g h : Nat} {w a b : World} (x : Below w.heap.size w a) (y : But2 g h a b) (hg : w.heap.size ≤ g) (hh : w.heap.size ≤ h) : Below w.heap.size w b :=
  ⟨y.os.trans x.os, y.tape.trans x.tape, y.output.trans x.output, Nat.le_trans x.size y.size, fun i hi => (y.block i (Nat.lt_of_lt_of_le hi x.size) (by omega) (by omega)).trans (x.block i hi)⟩

/-- A variable's box that holds a fraction. -/
def BoxQ (w : World) (g : Nat) (a b : Int) : Prop := Slot w g 0 (.int .i64 a) ∧ Slot w g 1 (.int .i64 b)
def TakeEnd (gl gh : Nat) (p1 p2 q1 q2 : Int) (w : World) (e : Ending) (w' : World) : Prop := e = .returned (.tuple #[]) ∧ BoxQ w' gl p1 p2 ∧ BoxQ w' gh q1 q2 ∧ But2 gl gh w w'

set_option maxHeartbeats 400000 in
theorem lesser_any (n1 d1 n2 d2 p q : Int) (sa : Sm n1 ∧ Sm d1) (sb : Sm n2 ∧ Sm d2) (h : lesserQ (n1, d1) (n2, d2) = (p, q)) (w : World) :
    Calls Try.prog 66 #[.agg #[.int .i64 n1, .int .i64 d1], .agg #[.int .i64 n2, .int .i64 d2]] w fun e w' => e = .returned (.agg #[.int .i64 p, .int .i64 q]) ∧ Below w.heap.size w w' := by
  have SA := Lib.hid sa
  have SB := Lib.hid sb
  rcases hl : lessQ n2 d2 n1 d1 with _ | _
  · obtain ⟨rfl, rfl⟩ : n1 = p ∧ d1 = q := by unfold lesserQ at h; simp only [hl] at h; simpa using h
    have HL := Lib.hid hl
    clear h hl sa sb
    go_enter Try.func66, Try.ntmps66
    go_wp2_with fail
    refine (less_any n2 d2 n1 d1 SB.out.1 SB.out.2 SA.out.1 SA.out.2 _).mono ?_
    rintro e w1 ⟨he, hb⟩
    rw [HL.out] at he
    subst he
    have hX : Below w.heap.size w w1 := nextX (by go_grown) hb
    have b00 : w1.cell? ⟨w.heap.size, 0, none⟩ = some (.int .i64 n1) := cellB hb (by simp [go_sem])
    have b01 : w1.cell? ⟨w.heap.size, 1, none⟩ = some (.int .i64 d1) := cellB hb (by simp [go_sem])
    have b10 : w1.cell? ⟨w.heap.size + 1, 0, none⟩ = some (.int .i64 n2) := cellB hb (by simp [go_sem])
    have b11 : w1.cell? ⟨w.heap.size + 1, 1, none⟩ = some (.int .i64 d2) := cellB hb (by simp [go_sem])
    have r20 : Slot w1 (w.heap.size + 2) 0 (.int .i64 0) := slotB hb ⟨by simp [go_sem], by simp [go_sem]⟩
    have r21 : Slot w1 (w.heap.size + 2) 1 (.int .i64 0) := slotB hb ⟨by simp [go_sem], by simp [go_sem]⟩
    have zb00 := lt_of_cell b00
    have zb10 := lt_of_cell b10
    have zr20 := lt_of_cell r20.1
    have hB : Below w.heap.size w w1 := hX
    clear hb hX
    obtain ⟨q0, k0⟩ := r20
    obtain ⟨q1, k1⟩ := r21
    go_wp2_with fail
    refine bodyPost_ret (v := .agg #[.int .i64 n1, .int .i64 d1]) (by first | (simp [results, Try.results66, go_sem, q0, q1]; done) | (simp [results, Try.results66, go_sem, q0, q1, zr20]; done)) rfl ⟨rfl, ?_⟩
    go_grown
  · obtain ⟨rfl, rfl⟩ : n2 = p ∧ d2 = q := by unfold lesserQ at h; simp only [hl] at h; simpa using h
    have HL := Lib.hid hl
    clear h hl sa sb
    go_enter Try.func66, Try.ntmps66
    go_wp2_with fail
    refine (less_any n2 d2 n1 d1 SB.out.1 SB.out.2 SA.out.1 SA.out.2 _).mono ?_
    rintro e w1 ⟨he, hb⟩
    rw [HL.out] at he
    subst he
    have hX : Below w.heap.size w w1 := nextX (by go_grown) hb
    have b00 : w1.cell? ⟨w.heap.size, 0, none⟩ = some (.int .i64 n1) := cellB hb (by simp [go_sem])
    have b01 : w1.cell? ⟨w.heap.size, 1, none⟩ = some (.int .i64 d1) := cellB hb (by simp [go_sem])
    have b10 : w1.cell? ⟨w.heap.size + 1, 0, none⟩ = some (.int .i64 n2) := cellB hb (by simp [go_sem])
    have b11 : w1.cell? ⟨w.heap.size + 1, 1, none⟩ = some (.int .i64 d2) := cellB hb (by simp [go_sem])
    have r20 : Slot w1 (w.heap.size + 2) 0 (.int .i64 0) := slotB hb ⟨by simp [go_sem], by simp [go_sem]⟩
    have r21 : Slot w1 (w.heap.size + 2) 1 (.int .i64 0) := slotB hb ⟨by simp [go_sem], by simp [go_sem]⟩
    have zb00 := lt_of_cell b00
    have zb10 := lt_of_cell b10
    have zr20 := lt_of_cell r20.1
    have hB : Below w.heap.size w w1 := hX
    clear hb hX
    obtain ⟨q0, k0⟩ := r20
    obtain ⟨q1, k1⟩ := r21
    go_wp2_with fail
    refine bodyPost_ret (v := .agg #[.int .i64 n2, .int .i64 d2]) (by first | (simp [results, Try.results66, go_sem, q0, q1]; done) | (simp [results, Try.results66, go_sem, q0, q1, zr20]; done)) rfl ⟨rfl, ?_⟩
    go_grown

set_option maxRecDepth 100000 in
set_option maxHeartbeats 4000000 in
theorem takeF (y1 y2 l1 l2 h1 h2 p1 p2 q1 q2 : Int) (gl gh : Nat) (hne : gl ≠ gh) (sy : Sm y1 ∧ Sm y2) (sl : Sm l1 ∧ Sm l2) (sh : Sm h1 ∧ Sm h2) (hl : lesserQ (l1, l2) (y1, y2) = (p1, p2)) (hh : bigQ (h1, h2) (y1, y2) = (q1, q2)) (w : World) (L : BoxQ w gl l1 l2) (H : BoxQ w gh h1 h2) :
    Calls Try.prog 65 #[.agg #[.int .i64 y1, .int .i64 y2], .pointer (some ⟨gl, 0, none⟩), .pointer (some ⟨gh, 0, none⟩)] w (TakeEnd gl gh p1 p2 q1 q2 w) := by
  have SY := Lib.hid sy
  have SL := Lib.hid sl
  have SH := Lib.hid sh
  have HL := Lib.hid hl
  have HH := Lib.hid hh
  have zl := lt_of_cell L.1.1
  have zh := lt_of_cell H.1.1
  replace L := Lib.hid L
  replace H := Lib.hid H
  clear sy sl sh hl hh
  go_enter Try.func65, Try.ntmps65
  go_wp2_with fail
  go_name_world W hW
  have hWB : Below w.heap.size w W := by rw [← hW]; go_grown
  have Y := Lib.hid (show W.cell? ⟨w.heap.size, 0, none⟩ = some (.int .i64 y1) ∧ W.cell? ⟨w.heap.size, 1, none⟩ = some (.int .i64 y2) by rw [← hW]; constructor <;> simp [go_sem])
  replace L := Lib.hid (show BoxQ W gl l1 l2 from ⟨slotB hWB L.out.1, slotB hWB L.out.2⟩)
  replace H := Lib.hid (show BoxQ W gh h1 h2 from ⟨slotB hWB H.out.1, slotB hWB H.out.2⟩)
  clear hW
  obtain ⟨c0, c1⟩ := And.intro Y.out.1 Y.out.2
  obtain ⟨⟨l0, fl0⟩, l1', fl1⟩ := And.intro L.out.1 L.out.2
  obtain ⟨⟨h0, fh0⟩, h1', fh1⟩ := And.intro H.out.1 H.out.2
  refine wp_region_HT (S := fun w' => w'.cell? ⟨w.heap.size, 0, none⟩ = some (.int .i64 y1) ∧ w'.cell? ⟨w.heap.size, 1, none⟩ = some (.int .i64 y2) ∧ w'.cell? ⟨gl, 0, none⟩ = some (.int .i64 l1) ∧ w'.cell? ⟨gl, 1, none⟩ = some (.int .i64 l2) ∧ w'.cell? ⟨gh, 0, none⟩ = some (.int .i64 h1) ∧ w'.cell? ⟨gh, 1, none⟩ = some (.int .i64 h2)) 6 (by kernel_rfl) (by kernel_rfl) ?_
  have hS0 : (fun w' : World => w'.cell? ⟨w.heap.size, 0, none⟩ = some (.int .i64 y1) ∧ w'.cell? ⟨w.heap.size, 1, none⟩ = some (.int .i64 y2) ∧ w'.cell? ⟨gl, 0, none⟩ = some (.int .i64 l1) ∧ w'.cell? ⟨gl, 1, none⟩ = some (.int .i64 l2) ∧ w'.cell? ⟨gh, 0, none⟩ = some (.int .i64 h1) ∧ w'.cell? ⟨gh, 1, none⟩ = some (.int .i64 h2)) W.drew := ⟨c0, c1, l0, l1', h0, h1'⟩
  clear c0 c1 l0 fl0 l1' fl1 h0 fh0 h1' fh1
  refine HT.take' (i := 0) (v := ?_) rfl (by kernel_rfl) (by decide) (by kernel_rfl) (by kernel_rfl) (fun _ _ _ h => h) (by rfl) (fun w' hS => ?_) hS0 ?_
  rotate_left
  focus
    obtain ⟨x0, x1, x2, x3, x4, x5⟩ := hS
    go_simp
    try with_reducible rfl
    done
  simp only [Act.put, List.setIfInBounds_toArray, List.set_cons_zero, List.set_cons_succ]
  refine HT.take' (i := 1) (v := ?_) rfl (by kernel_rfl) (by decide) (by kernel_rfl) (by kernel_rfl) (fun _ _ _ h => h) (by rfl) (fun w' hS => ?_) hS0 ?_
  rotate_left
  focus
    obtain ⟨x0, x1, x2, x3, x4, x5⟩ := hS
    go_simp
    try with_reducible rfl
    done
  simp only [Act.put, List.setIfInBounds_toArray, List.set_cons_zero, List.set_cons_succ]
  refine HT.take' (i := 3) (v := ?_) rfl (by kernel_rfl) (by decide) (by kernel_rfl) (by kernel_rfl) (fun _ _ _ h => h) (by rfl) (fun w' hS => ?_) hS0 ?_
  rotate_left
  focus
    obtain ⟨x0, x1, x2, x3, x4, x5⟩ := hS
    go_simp
    try with_reducible rfl
    done
  simp only [Act.put, List.setIfInBounds_toArray, List.set_cons_zero, List.set_cons_succ]
  refine HT.take' (i := 4) (v := ?_) rfl (by kernel_rfl) (by decide) (by kernel_rfl) (by kernel_rfl) (fun _ _ _ h => h) (by rfl) (fun w' hS => ?_) hS0 ?_
  rotate_left
  focus
    obtain ⟨x0, x1, x2, x3, x4, x5⟩ := hS
    go_simp
    try with_reducible rfl
    done
  simp only [Act.put, List.setIfInBounds_toArray, List.set_cons_zero, List.set_cons_succ]
  refine HT.one' (i := 2) rfl (by decide) (by kernel_rfl) (fun K hK => ?_)
  go_simp
  refine (lesser_any l1 l2 y1 y2 p1 p2 SL.out SY.out HL.out _).mono ?_
  rintro e v1 ⟨rfl, hb1⟩
  have hX1 : Below W.heap.size W v1 := nextX (by go_grown) hb1
  go_wp2_with fail
  have hS1 : (fun w' : World => w'.cell? ⟨w.heap.size, 0, none⟩ = some (.int .i64 y1) ∧ w'.cell? ⟨w.heap.size, 1, none⟩ = some (.int .i64 y2) ∧ w'.cell? ⟨gl, 0, none⟩ = some (.int .i64 l1) ∧ w'.cell? ⟨gl, 1, none⟩ = some (.int .i64 l2) ∧ w'.cell? ⟨gh, 0, none⟩ = some (.int .i64 h1) ∧ w'.cell? ⟨gh, 1, none⟩ = some (.int .i64 h2)) v1 := ⟨cellB hX1 hS0.1, cellB hX1 hS0.2.1, cellB hX1 hS0.2.2.1, cellB hX1 hS0.2.2.2.1, cellB hX1 hS0.2.2.2.2.1, cellB hX1 hS0.2.2.2.2.2⟩
  refine hK _ _ hS1 ?_
  clear hK
  try simp only [Act.put, List.setIfInBounds_toArray, List.set_cons_zero, List.set_cons_succ]
  refine HT.one' (i := 5) rfl (by decide) (by kernel_rfl) (fun K hK => ?_)
  go_simp
  refine (greater_any h1 h2 y1 y2 q1 q2 SH.out SY.out HH.out _).mono ?_
  rintro e v2 ⟨rfl, hb2⟩
  have hX2 : Below v1.heap.size v1 v2 := hb2
  go_wp2_with fail
  have hS2 : (fun w' : World => w'.cell? ⟨w.heap.size, 0, none⟩ = some (.int .i64 y1) ∧ w'.cell? ⟨w.heap.size, 1, none⟩ = some (.int .i64 y2) ∧ w'.cell? ⟨gl, 0, none⟩ = some (.int .i64 l1) ∧ w'.cell? ⟨gl, 1, none⟩ = some (.int .i64 l2) ∧ w'.cell? ⟨gh, 0, none⟩ = some (.int .i64 h1) ∧ w'.cell? ⟨gh, 1, none⟩ = some (.int .i64 h2)) v2 := ⟨cellB hX2 hS1.1, cellB hX2 hS1.2.1, cellB hX2 hS1.2.2.1, cellB hX2 hS1.2.2.2.1, cellB hX2 hS1.2.2.2.2.1, cellB hX2 hS1.2.2.2.2.2⟩
  refine hK _ _ hS2 ?_
  clear hK
  try simp only [Act.put, List.setIfInBounds_toArray, List.set_cons_zero, List.set_cons_succ]
  refine HT.done (by kernel_rfl) ?_
  simp only [List.drop_succ_cons, List.drop_zero]
  have hX := nextX hX1 hX2
  obtain ⟨⟨l0, fl0⟩, l1', fl1⟩ := And.intro (slotB hX L.out.1) (slotB hX L.out.2)
  obtain ⟨⟨h0, fh0⟩, h1', fh1⟩ := And.intro (slotB hX H.out.1) (slotB hX H.out.2)
  go_wp2_with fail
  go_end0
  have s1 := stored2 ⟨l0, fl0⟩ ⟨l1', fl1⟩ (.int .i64 p1) (.int .i64 p2)
  have n1 : ∀ i j : Nat, (gl, i) ≠ (gh, j) := fun i j e => hne (Prod.mk.inj e).1
  have n2 : ∀ i j : Nat, (gh, i) ≠ (gl, j) := fun i j e => hne (Prod.mk.inj e).1.symm
  have s2 := stored2 (slotS (u := .int .i64 p2) (slotS (u := .int .i64 p1) ⟨h0, fh0⟩ (n1 0 0)) (n1 1 0)) (slotS (u := .int .i64 p2) (slotS (u := .int .i64 p1) ⟨h1', fh1⟩ (n1 0 1)) (n1 1 1)) (.int .i64 q1) (.int .i64 q2)
  exact ⟨rfl, ⟨slotS (slotS s1.1 (n2 0 0)) (n2 1 0), slotS (slotS s1.2 (n2 0 1)) (n2 1 1)⟩, s2, ((But2.of_below (hWB.trans (hX.mono hWB.size))).trans (But2.one (((But.refl gl _).setCell _).setCell _))).trans (But2.two (((But.refl gh _).setCell _).setCell _))⟩

end Go.Proofs.Ytkeajfgcjmhmiaa
