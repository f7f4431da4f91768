/- A law's argument that is a slice of fractions: open_rats, szRatS, toRatS. -/
import Derived.Test.YtkaekjhcphgldaaMaps
import Derived.Test.YtkaekjhcphgldaaSlopes
namespace Go.Proofs.Ytkaekjhcphgldaa
open Go.RowKit

/-- The j-th cell of fractions. -/
def cellQ (ps : List Q) (j : Nat) : Value := (rowQ ps).getD j (.int .i64 0)
theorem cellQ_get {ps : List Q} {i : Nat} {p : Q} (h : ps[i]? = some p) : cellQ ps (i * 2) = .int .i64 p.1 ∧ cellQ ps (i * 2 + 1) = .int .i64 p.2 := by
  obtain ⟨a, b⟩ := rowQ_get ps i p h
  simp only [cellQ, List.getD_eq_getElem?_getD, a, b, Option.getD_some, and_self]
theorem OwQ.of_row {base g : Nat} {e : TypeId} {w : World} {ps : List Q} {f : Nat → Value} (h : w.rowIs g e (ps.length * 2) f) (hf : ∀ j, j < ps.length * 2 → f j = cellQ ps j) (hb : base ≤ g) (hm : ps.length ≤ maxLen) :
    OwQ base e w (.slice (some ⟨g, 0, none⟩) ps.length ps.length) ps := by
  obtain ⟨c, hh, hs, hc⟩ := h
  refine ⟨rowQ_len ps, .inr ⟨g, _, c, rfl, hb, hh, Nat.le_refl _, hm, hs, ?_⟩⟩
  apply List.ext_getElem?
  intro j
  rw [List.getElem?_take]
  split
  · rename_i hj
    rw [Array.getElem?_toList, hc j hj, hf j hj, cellQ, List.getD_eq_getElem?_getD, List.getElem?_eq_getElem (by rw [rowQ_len]; omega)]
    rfl
  · rename_i hj
    rw [List.getElem?_eq_none]
    rw [rowQ_len]; omega
def zerosQ (n : Nat) : Array Value := madeCells #[.int .i64 0, .int .i64 0] (n * 2)
theorem zerosQ_at (n j : Nat) (h : j < n * 2) : (zerosQ n)[j]? = some (.int .i64 0) := by
  unfold zerosQ madeCells
  have h4 : j % 2 = 0 ∨ j % 2 = 1 := by omega
  rcases h4 with h4 | h4 <;> simp [h, h4]
theorem zerosQ_size (n : Nat) : (zerosQ n).size = n * 2 := by unfold zerosQ; exact size_madeCells _ _
theorem run_makeQ (n : Nat) (hn : n ≤ 1048576) (w : World) : (Instr.makeSlice 24 (.int .i64 (n : Int)) (.int .i64 (n : Int))).run Try.prog w = .ok (.slice (some ⟨w.heap.size, 0, none⟩) n n) (w.alloc (.cells (zerosQ n) 37)) := by
  obtain ⟨i, hi, hz, hs, hb⟩ := info_parts Try.infoQ
  have h := run_make (P := Try.prog) w 24 37 i _ Try.underlying24 hi hz .i64 .i64 n n (by omega) (Int.le_refl _) (by rw [hb]; omega) (by omega)
  simp only [Int.toNat_natCast, hs] at h
  exact h
def fillQ (ps : List Q) (k : Nat) (j : Nat) : Value := if j < k * 2 then cellQ ps j else .int .i64 0
def RelToQ (ps : List Q) (w : World) (i : Value) (wr : World) : Prop :=
  ∃ k : Nat, k ≤ ps.length ∧ i = .int .i64 k ∧ wr.rowIs w.heap.size 37 (ps.length * 2) (fillQ ps k) ∧ Below w.heap.size w wr
theorem fillQ_step {ps : List Q} {k : Nat} {p : Q} (h : ps[k]? = some p) {w : World} {g n : Nat} {t : TypeId} (hr : w.rowIs g t n (fillQ ps k)) :
    ((w.setCell ⟨g, k * 2, none⟩ (.int .i64 p.1)).setCell ⟨g, k * 2 + 1, none⟩ (.int .i64 p.2)).rowIs g t n (fillQ ps (k + 1)) := by
  obtain ⟨a, b⟩ := cellQ_get h
  refine (World.rowIs.set (World.rowIs.set hr _ _) _ _).congr fun j _ => ?_
  unfold fillQ
  by_cases h1 : j = k * 2 + 1
  · subst h1; simp only [if_true]; rw [if_pos (by omega), b]
  · rw [if_neg h1]
    by_cases h0 : j = k * 2
    · subst h0; simp only [if_true]; rw [if_pos (by omega), a]
    · rw [if_neg h0]
      by_cases hlt : j < k * 2
      · rw [if_pos hlt, if_pos (by omega)]
      · rw [if_neg hlt, if_neg (by omega)]

set_option maxHeartbeats 800000 in
theorem toRatS_any (ps : List Q) (v : Value) (w : World) (hv : RdQ w v ps) (hn : ps.length ≤ 1048576) :
    Calls Try.prog 28 #[v] w (RetQ w ps) := by
  obtain ⟨A, c, rfl, hl, hm, hcell⟩ := hv
  unfold maxLen at hm
  have HC := Lib.hid hcell
  clear hcell
  have hmk := run_makeQ ps.length hn
  go_enter Try.func28, Try.ntmps28
  go_wp2_with fail
  go_loopw [4] (fun i wr => RelToQ ps w i wr) (fun i _ => ps.length - (intOf i).toNat)
  case atStart =>
    refine ⟨0, Nat.zero_le _, rfl, ?_, (Below.refl _ _).alloc (Nat.le_refl _) _⟩
    have h := World.rowIs_alloc w (zerosQ ps.length) 37 (fun _ => .int .i64 0) (fun i hi => zerosQ_at _ _ (by rw [zerosQ_size] at hi; exact hi))
    rw [zerosQ_size] at h
    exact h.congr fun j _ => by simp [fillQ]
  case round =>
    obtain ⟨k, hk, rfl, hrow, hb⟩ := hrel
    clear hmk
    by_cases hlt : k < ps.length
    · obtain ⟨g, o, rfl, hg, hc⟩ := HC.out (by intro h; rw [h] at hlt; simp at hlt)
      have hq := hc k ps[k] (List.getElem?_eq_getElem hlt)
      have hqk := List.getElem?_eq_getElem hlt
      generalize ps[k] = q at *
      obtain ⟨a1, a2⟩ := q
      obtain ⟨c0, c1⟩ := hq
      rw [← hb.cell (p := ⟨g, _, none⟩) hg] at c0 c1
      clear hc HC
      have HQ := Lib.hid hqk
      have HR := Lib.hid hrow
      clear hqk hrow
      go_wp2_with fail
      refine (toRat_any a1 a2 _).mono ?_
      rintro e w1 ⟨rfl, hb1⟩
      have hrow : w1.rowIs w.heap.size 37 (ps.length * 2) (fillQ ps k) := HR.out.of_block (hb1.block _ HR.out.lt)
      have d0 := hrow.cell (show k * 2 < ps.length * 2 by omega)
      have d1 := hrow.cell (show k * 2 + 1 < ps.length * 2 by omega)
      have e0 := hrow.frozen (k * 2)
      have e1 := hrow.frozen (k * 2 + 1)
      have HS := Lib.hid (fillQ_step HQ.out hrow)
      have hB := nextW hb hb1
      clear hrow hb1 c0 c1
      go_wp2_with fail
      go_roundw
      case rel => exact ⟨k + 1, by omega, by go_num, HS.out, (hB.setCell (Nat.le_refl _) _).setCell (Nat.le_refl _) _⟩
      case measure => simp [intOf]; omega
    · obtain rfl : k = ps.length := by omega
      have HR := Lib.hid hrow
      clear hrow
      go_wp2_with fail
      go_ret
      refine ⟨_, rfl, OwQ.of_row HR.out (fun j hj => by unfold fillQ; rw [if_pos hj]) (Nat.le_refl _) (by unfold maxLen; omega), hb⟩

end Go.Proofs.Ytkaekjhcphgldaa

namespace Go.Proofs.Ytkaekjhcphgldaa
open Go.ChangeShapes Go.WideShapes Go.ChangeAt Go.RowKit Go.Joins

theorem list2 {α : Type} {l : List α} (h : l.length = 2) : ∃ a b, l = [a, b] := by
  match l, h with
  | [a, b], _ => exact ⟨a, b, rfl⟩
section
variable {H : Type} {enc : TypeId × Value → H} {W : World} {base : Nat} {sp : Nat → Bool} {hd : Bool}
set_option maxRecDepth 100000 in
theorem open_qt {fuel : Nat} {cs : List Value} {x : DataW H × List MemPlace} (h : DataW.trod enc Try.prog W base sp hd fuel 35 cs = some x) :
    ∃ p : Q, cs = [.int .i64 p.1, .int .i64 p.2] := by
  obtain ⟨z0, z1, n0, -, hl, g0, g1⟩ := trod_struct2 Try.underlying35 h
  obtain ⟨a, e0, -, -⟩ := DataW.trod_int Try.underlying3 g0
  obtain ⟨b, e1, -, -⟩ := DataW.trod_int Try.underlying3 g1
  have k1 : Try.prog.cellsOf 3 = 1 := Try.cellsI
  have k2 : Try.prog.cellsOf 35 = 2 := Try.cellsQ
  rw [k2] at hl
  obtain ⟨v0, v1, rfl⟩ := list2 hl
  simp [k1] at e0 e1
  exact ⟨(a, b), by simp [e0, e1]⟩
set_option maxRecDepth 100000 in
/-- An argument that is a slice of fractions. -/
theorem open_rats {b0 : Nat} {v : Value} {d : DataW H} {p : List MemPlace}
    (hv : Value.okWide Try.prog W .any b0 46 v) (h : DataW.Trod enc Try.prog W base sp hd 46 v d p) :
    ∃ ps : List Q, RdQ W v ps := by
  obtain ⟨A, len, cap, rfl⟩ := okWide_slice Try.underlying46 hv
  obtain ⟨fuel, hf⟩ := h
  have k2 : Try.prog.cellsOf 35 = 2 := Try.cellsQ
  rcases Go.Deep.open_slice Try.underlying46 hf with ⟨hcs, -⟩ | ⟨a, len', cap', m, n, D, Pl, hcs, -, hl, hm, hmm, -, hx⟩
  · simp [Value.cells] at hcs
    obtain ⟨rfl, rfl, rfl⟩ := hcs
    exact ⟨[], none, 0, rfl, Nat.le_refl _, Nat.zero_le _, fun h => absurd rfl h⟩
  · simp [Value.cells] at hcs
    obtain ⟨rfl, rfl, rfl⟩ := hcs
    have hlm : len ≤ m := by rw [hmm]; split <;> omega
    have each : ∀ i, i < len → ∃ q : Q, ∀ j, j < 2 → W.cell? ((a.add (i * 2)).add j) = [Value.int .i64 q.1, .int .i64 q.2][j]? := by
      intro i hi
      obtain ⟨cs', h1, h2⟩ := hx i (by omega)
      rw [k2] at h1
      obtain ⟨q, rfl⟩ := open_qt h2
      obtain ⟨_, _, hcell⟩ := World.cells?_some h1
      exact ⟨q, fun j hj => hcell j hj⟩
    obtain ⟨q, hq⟩ := Go.Deep.choose_lt each
    refine ⟨(List.range len).map q, some a, cap, by simp, by simpa using hl, hm, fun hne => ?_⟩
    have hp : 0 < len := by
      rcases Nat.eq_zero_or_pos len with h0 | h0
      · subst h0; simp at hne
      · exact h0
    obtain ⟨g, o, spot⟩ := a
    have h00 := hq 0 hp 0 (by omega)
    have hspot : spot = none := by simpa [Addr.add] using World.cell?_spot h00
    subst hspot
    simp only [Go.WideShapes.add_plain] at hq h00
    refine ⟨g, o, rfl, lt_of_cell (by simpa using h00), fun i x hi => ?_⟩
    have hil : i < len := by
      have := (List.getElem?_eq_some_iff.1 hi).1
      simpa using this
    have hxi : x = q i := by
      rw [List.getElem?_map, List.getElem?_range hil] at hi
      simpa using hi.symm
    subst hxi
    refine ⟨?_, ?_⟩
    · simpa using hq i hil 0 (by omega)
    · simpa using hq i hil 1 (by omega)
end
theorem szRatS_over (ps : List Q) (v : Value) (left : Int) (w : World) (hv : RdQ w v ps) (h : left ≤ 4611686018427387904) (h0 : 0 ≤ left) (hn : left < ps.length) :
    Calls Try.prog 26 #[v, .int .i64 left] w fun e w' => e = .returned (.int .i64 (-1)) ∧ w' = w := by
  obtain ⟨A, c, rfl, hl, hm, -⟩ := hv
  unfold maxLen at hm
  go_enter Try.func26, Try.ntmps26
  go_wp2_with fail
  go_ret
  exact ⟨rfl, rfl⟩
theorem szRatS_fits (ps : List Q) (v : Value) (left : Int) (w : World) (hv : RdQ w v ps) (h : left ≤ 4611686018427387904) (hn : ps.length ≤ left) :
    Calls Try.prog 26 #[v, .int .i64 left] w fun e w' => e = .returned (.int .i64 (left - ps.length)) ∧ w' = w := by
  obtain ⟨A, c, rfl, hl, hm, -⟩ := hv
  unfold maxLen at hm
  go_enter Try.func26, Try.ntmps26
  go_wp2_with fail
  go_ret
  exact ⟨rfl, rfl⟩

end Go.Proofs.Ytkaekjhcphgldaa
