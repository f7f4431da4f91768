/- Plain: orbits. · Rows of the call's own beside a block that is written: a calc, a box. · Orbits: the program's orbit, the reference's orRun. · Orbits: the reference's orRun; isStart, orAsked; OrbitOf of both. · OrbitOf, StepsInSize, IterateMap of both. -/
import Derived.Test.YtkeajfgcjmhmiaaVals
import Derived.Test.YtkeajfgcjmhmiaaMaps
import Derived.Laws.OwnMore
namespace Go.Proofs.Ytkeajfgcjmhmiaa

/-- The fractions from x on, as far as they can be reckoned, for at most n steps. -/
def orbQ (ps : List Pt) (x : Q) : Nat → List Q
  | 0 => [x]
  | k + 1 =>
    let l := orbQ ps x k
    let v := valQ ps (l.getLastD x)
    if l.length = k + 1 ∧ v.2 = true then l ++ [v.1] else l

theorem orbQ_len (ps : List Pt) (x : Q) : ∀ k, 1 ≤ (orbQ ps x k).length ∧ (orbQ ps x k).length ≤ k + 1
  | 0 => by simp [orbQ]
  | k + 1 => by
    have ih := orbQ_len ps x k
    rw [orbQ]
    split
    · simp; omega
    · omega
theorem orbQ_ne (ps : List Pt) (x : Q) (k : Nat) : orbQ ps x k ≠ [] := by
  have := (orbQ_len ps x k).1
  intro e; rw [e] at this; simp at this
theorem orbQ_go {ps : List Pt} {x y z : Q} {k : Nat} (hl : (orbQ ps x k).length = k + 1) (hy : (orbQ ps x k)[k]? = some y) (hv : valQ ps y = (z, true)) : orbQ ps x (k + 1) = orbQ ps x k ++ [z] := by
  have : (orbQ ps x k).getLastD x = y := by
    rw [List.getLastD_eq_getLast?, List.getLast?_eq_getElem?, hl, Nat.add_sub_cancel, hy]; rfl
  rw [orbQ, this, hv]; simp [hl]
theorem orbQ_stop {ps : List Pt} {x y z : Q} {k : Nat} (hl : (orbQ ps x k).length = k + 1) (hy : (orbQ ps x k)[k]? = some y) (hv : valQ ps y = (z, false)) : ∀ m, orbQ ps x (k + m) = orbQ ps x k
  | 0 => rfl
  | m + 1 => by
    have ih := orbQ_stop hl hy hv m
    have : (orbQ ps x k).getLastD x = y := by
      rw [List.getLastD_eq_getLast?, List.getLast?_eq_getElem?, hl, Nat.add_sub_cancel, hy]; rfl
    rw [← Nat.add_assoc, orbQ, ih, this, hv]; simp
theorem orbQ_stopped {ps : List Pt} {x y z : Q} {k n : Nat} (hl : (orbQ ps x k).length = k + 1) (hy : (orbQ ps x k)[k]? = some y) (hv : valQ ps y = (z, false)) (hn : k ≤ n) : orbQ ps x n = orbQ ps x k := by
  have := orbQ_stop hl hy hv (n - k)
  rwa [show k + (n - k) = n from by omega] at this
theorem orbQ_unit {ps : List Pt} {x : Q} (hm : okMap ps = true) (hx : unitQ x.1 x.2 = true) : ∀ k, ∀ y ∈ orbQ ps x k, unitQ y.1 y.2 = true
  | 0 => by simp [orbQ]; exact hx
  | k + 1 => by
    have ih := orbQ_unit hm hx k
    rw [orbQ]
    split
    · intro y hy
      rcases List.mem_append.1 hy with h | h
      · exact ih y h
      · simp at h; subst h
        refine valQ_unit hm ?_
        rw [List.getLast?_eq_some_getLast (orbQ_ne ps x k)]
        exact ih _ (List.getLast_mem (orbQ_ne ps x k))
    · exact ih

/-- The first place of a fraction in a list. -/
def idxQ (l : List Q) (x : Q) : Int := match l.findIdx? (fun y => decide (y = x)) with | some i => i | none => -1

/-- The preperiod and the period that a list shows: from place j on. -/
def perFrom (l : List Q) : Nat → Nat → Int × Int × Bool
  | 0, _ => (0, 0, false)
  | n + 1, j =>
    let k := idxQ (l.take j) (l.getD j (0, 0))
    if 0 ≤ k then (k, j - k, true) else perFrom l n (j + 1)
def perQ (l : List Q) : Int × Int × Bool := perFrom l l.length 0

end Go.Proofs.Ytkeajfgcjmhmiaa

namespace Go.Proofs.Ytkeajfgcjmhmiaa
open Go.RowKit

theorem But.of_grown {g : Nat} {w w' : World} {row : Option Nat} (h : w.grownBy w' row) (hr : row = none ∨ row = some g) : But g w w' :=
  ⟨h.os, h.tape, h.output, h.size, fun k hk hn => h.block k hk (by rcases hr with rfl | rfl <;> simp <;> omega)⟩

theorem ownsRow_keepU {g base : Nat} {e : TypeId} {size n : Nat} {w w' : World} {v : Value} {xs : List Value} (h : w.ownsRow base e size v n xs) (hb : But g w w') (hn : v.ownBlock ≠ some g) : w'.ownsRow base e size v n xs := by
  obtain ⟨h1, h2⟩ := h
  refine ⟨h1, ?_⟩
  rcases h2 with h2 | ⟨b, cap, cur, rfl, hg, hh, h3⟩
  · exact .inl h2
  · have hlt : b < w.heap.size := (Array.getElem?_eq_some_iff.1 hh).1
    exact .inr ⟨b, cap, cur, rfl, hg, (hb.block b hlt (by simpa [Value.ownBlock] using hn)).trans hh, h3⟩
theorem OwQ.keepU {g base : Nat} {e : TypeId} {w w' : World} {v : Value} {qs : List Q} (h : OwQ base e w v qs) (hb : But g w w') (hn : v.ownBlock ≠ some g) : OwQ base e w' v qs := ownsRow_keepU h hb hn
theorem OwP.keepU {g base : Nat} {e : TypeId} {w w' : World} {v : Value} {ps : List Pt} (h : OwP base e w v ps) (hb : But g w w') (hn : v.ownBlock ≠ some g) : OwP base e w' v ps := ownsRow_keepU h hb hn

/-- A row of fractions is no block that holds a bool. -/
theorem OwQ.ne_bool {base g : Nat} {e : TypeId} {w : World} {v : Value} {qs : List Q} {b : Bool} (h : OwQ base e w v qs) (hc : w.cell? ⟨g, 0, none⟩ = some (.bool b)) (hn : qs ≠ [] ∨ v = .slice none 0 0) : v.ownBlock ≠ some g := by
  intro hb
  rcases hn with hn | rfl
  · cases qs with
    | nil => exact hn rfl
    | cons q r =>
      have := World.ownsRow.cells h hb 0 _ (rowQ_get (q :: r) 0 q rfl).1
      rw [show (⟨g, 0, none⟩ : Addr).add 0 = ⟨g, 0, none⟩ from rfl] at this
      rw [this] at hc
      cases hc
  · simp [Value.ownBlock] at hb
/-- .. no block of so low a number. -/
theorem OwQ.ne_low {base g : Nat} {e : TypeId} {w : World} {v : Value} {qs : List Q} (h : OwQ base e w v qs) (hg : g < base) : v.ownBlock ≠ some g := by
  intro hb
  have := (World.ownsRow.lt h g hb).1
  omega

/-- A slice that is written out with one fraction. -/
theorem OwQ.one (w : World) (base : Nat) (e : TypeId) (a b : Int) (hb : base ≤ w.heap.size) : OwQ base e (w.alloc (.cells #[.int .i64 a, .int .i64 b] e)) (.slice (some ⟨w.heap.size, 0, none⟩) 1 1) [(a, b)] :=
  ⟨rfl, .inr ⟨w.heap.size, 1, _, rfl, hb, heap_alloc_new w _, Nat.le_refl _, by simp [maxLen], rfl, by simp [rowQ]⟩⟩

/-- Appending one fraction: only the row's own block is written. -/
theorem append_q1g {ops : Array Oper} {rest : List Oper} {o : Oper} {a : Act} {K : Exit → Act → World → Prop} (w : World) (hgd : o.guard = none) (s x : Operand)
    (ho : o.op = .call { callee := .builtin .append, args := #[s, x], argTypes := #[28, 28] })
    (base : Nat) (v : Value) (qs : List Q) (hs : a.eval s = v) (hown : OwQ base 32 w v qs)
    (g c : Nat) (n d : Int) (hx : a.eval x = .slice (some ⟨g, 0, none⟩) 1 c) (c0 : w.cell? ⟨g, 0, none⟩ = some (.int .i64 n)) (c1 : w.cell? ⟨g, 1, none⟩ = some (.int .i64 d))
    (hlen : qs.length ≤ 900000) (hbase : base ≤ w.heap.size)
    (h : ∀ v' w', OwQ base 32 w' v' (qs ++ [(n, d)]) → w.grownBy w' v.ownBlock → wpList Try.prog ops K rest (a.put o.dst v') w') : wpList Try.prog ops K (o :: rest) a w := by
  obtain ⟨i, hi, hz, hsz, hb⟩ := info_parts Try.infoQ
  have hcell : ∀ j u, (rowQ [(n, d)])[j]? = some u → w.cell? ((⟨g, 0, none⟩ : Addr).add j) = some u := by
    intro j u hj
    have hadd : (⟨g, 0, none⟩ : Addr).add j = ⟨g, j, none⟩ := by unfold Addr.add; split <;> simp_all
    rw [hadd]
    match j, hj with
    | 0, hj => simp [rowQ] at hj; subst hj; exact c0
    | 1, hj => simp [rowQ] at hj; subst hj; exact c1
    | j + 2, hj => simp [rowQ] at hj
  have hone : ∀ u ∈ rowQ [(n, d)], u.oneCell' = true := by
    intro u hu
    simp [rowQ] at hu
    rcases hu with rfl | rfl <;> rfl
  refine wpList_append_own w hgd s x 28 ho base 32 i _ 2 16 Try.underlying28 hi hz hsz hb rfl (by decide) v qs.length (rowQ qs) hs hown ⟨g, 0, none⟩ 1 c (rowQ [(n, d)]) hx rfl hcell hone (by unfold maxLen; omega) (by omega) hbase ?_
  intro v' w' h1 h2 _
  refine h v' w' ?_ h2
  unfold OwQ; rw [List.length_append, rowQ_app]; exact h1

theorem grown_slot {w w' : World} {row : Option Nat} {b o : Nat} {v : Value} (h : w.grownBy w' row) (hs : Slot w b o v) (hn : row ≠ some b) : Slot w' b o v :=
  ⟨h.cell hs.1 (fun e => hn e.symm), (World.frozen?_of_block (w := w) (h.block b (lt_of_cell hs.1) (fun e => hn e.symm))).trans hs.2⟩
theorem ownsRow_low {base b : Nat} {e : TypeId} {size n : Nat} {w : World} {v : Value} {xs : List Value} (h : w.ownsRow base e size v n xs) (hb : b ≤ base) : w.ownsRow b e size v n xs :=
  ⟨h.1, h.2.imp id fun ⟨g, cap, cur, h1, h2, h3⟩ => ⟨g, cap, cur, h1, Nat.le_trans hb h2, h3⟩⟩
theorem OwQ.low {base b : Nat} {e : TypeId} {w : World} {v : Value} {qs : List Q} (h : OwQ base e w v qs) (hb : b ≤ base) : OwQ b e w v qs := ownsRow_low h hb
theorem OwP.low {base b : Nat} {e : TypeId} {w : World} {v : Value} {qs : List Pt} (h : OwP base e w v qs) (hb : b ≤ base) : OwP b e w v qs := ownsRow_low h hb
theorem OwQ.from {base k : Nat} {e : TypeId} {w : World} {v : Value} {qs : List Q} (h : OwQ base e w v qs) (hk : v.ownBlock = some k) : base ≤ k := (World.ownsRow.lt h k hk).1

/-- How many elements a slice has. -/
def lenOf : Value → Nat
  | .slice _ n _ => n
  | _ => 0
theorem OwQ.lenOf {base : Nat} {e : TypeId} {w : World} {v : Value} {qs : List Q} (h : OwQ base e w v qs) : lenOf v = qs.length := by
  rcases h.2 with ⟨rfl, hn⟩ | ⟨g, cap, cur, rfl, -⟩
  · exact hn.symm
  · rfl
theorem OwP.lenOf {base : Nat} {e : TypeId} {w : World} {v : Value} {qs : List Pt} (h : OwP base e w v qs) : lenOf v = qs.length := by
  rcases h.2 with ⟨rfl, hn⟩ | ⟨g, cap, cur, rfl, -⟩
  · exact hn.symm
  · rfl
/-- A row that is not empty, written out. -/
theorem OwQ.lit {base n : Nat} {e : TypeId} {w : World} {v : Value} {qs : List Q} (h : OwQ base e w v qs) (hl : qs.length = n) (h0 : 0 < n) :
    ∃ g cap, v = .slice (some ⟨g, 0, none⟩) n cap ∧ n ≤ cap ∧ cap ≤ maxLen ∧ base ≤ g ∧ g < w.heap.size ∧ ∀ i q, qs[i]? = some q → w.cell? ⟨g, i * 2, none⟩ = some (.int .i64 q.1) ∧ w.cell? ⟨g, i * 2 + 1, none⟩ = some (.int .i64 q.2) := by
  subst hl
  have h0' := h
  rcases h.2 with ⟨rfl, hn⟩ | ⟨g, cap, cur, rfl, hb, hh, hle, hm, -, -⟩
  · omega
  · refine ⟨g, cap, rfl, hle, hm, hb, (Array.getElem?_eq_some_iff.1 hh).1, fun i q hq => ?_⟩
    have hi : i < qs.length := (List.getElem?_eq_some_iff.1 hq).1
    obtain ⟨a, b⟩ := rowQ_get qs i q hq
    exact ⟨(World.ownsRow.cellAt h0' _ (by omega)).trans a, (World.ownsRow.cellAt h0' _ (by omega)).trans b⟩

/-- What a call leaves that gives a row of fractions and a bool. -/
def RetQB (w : World) (qs : List Q) (t : Bool) (e : Ending) (w' : World) : Prop := ∃ r, e = .returned (.tuple #[r, .bool t]) ∧ OwQ w.heap.size 32 w' r qs ∧ Below w.heap.size w w'

end Go.Proofs.Ytkeajfgcjmhmiaa

namespace Go.Proofs.Ytkeajfgcjmhmiaa
open Go.RowKit

def RelOrb (ps : List Pt) (x : Q) (n h : Nat) (W0 : World) (out i : Value) (wr : World) : Prop :=
  ∃ (k : Nat) (y : Q), k ≤ n ∧ i = .int .i64 k ∧ (orbQ ps x k).length = k + 1 ∧ (orbQ ps x k)[k]? = some y ∧ OwQ (h + 1) 32 wr out (orbQ ps x k) ∧ Slot wr h 0 (.int .i64 y.1) ∧ Slot wr h 1 (.int .i64 y.2) ∧ Slot wr (h + 2) 0 (.bool false) ∧ Below h W0 wr

theorem append_last {α : Type} {l : List α} {k : Nat} (z : α) (h : l.length = k) : (l ++ [z])[k]? = some z := by
  rw [List.getElem?_append_right (by omega)]; simp [h]

end Go.Proofs.Ytkeajfgcjmhmiaa

namespace Go.Proofs.Ytkeajfgcjmhmiaa
open Go.RowKit

def RelRun (ps : List Pt) (x : Q) (n h : Nat) (W0 : World) (out : Value) (wr : World) : Prop :=
  ∃ (k : Nat) (y : Q), k ≤ n ∧ (orbQ ps x k).length = k + 1 ∧ (orbQ ps x k)[k]? = some y ∧ OwQ (h + 1) 32 wr out (orbQ ps x k) ∧ Below h W0 wr

theorem atQ_yes {ps : List Pt} {x z : Q} (h : valQ ps x = (z, true)) : atQ ps x = (z.1, z.2, true) := by unfold atQ; rw [h]; rfl
theorem atQ_no {ps : List Pt} {x z : Q} (h : valQ ps x = (z, false)) : atQ ps x = (0, 0, false) := by unfold atQ; rw [h]; rfl

def isStartB (ps : List Pt) (x : Q) (n : Int) : Bool := okMap ps && (unitQ x.1 x.2 && decide (0 ≤ n ∧ n ≤ 60))

end Go.Proofs.Ytkeajfgcjmhmiaa

namespace Go.Proofs.Ytkeajfgcjmhmiaa
open Go.RowKit

/-- What OrbitOf gives. -/
def orbOf (ps : List Pt) (x : Q) (n : Int) : List Q × Bool := if isStartB ps x n = true ∧ (orbQ ps x n.toNat).length = n.toNat + 1 then (orbQ ps x n.toNat, true) else ([], false)
def stepsQ (ps : List Pt) (x : Q) (n : Int) : Int × Bool := if isStartB ps x n = true then (((orbQ ps x n.toNat).length : Int) - 1, true) else (0, false)
def iterQ (ps : List Pt) (x : Q) (n : Int) : Int × Int × Bool := if (orbOf ps x n).2 = true then (((orbOf ps x n).1.getD n.toNat (0, 0)).1, ((orbOf ps x n).1.getD n.toNat (0, 0)).2, true) else (0, 0, false)
theorem isStartB_parts {ps : List Pt} {x : Q} {n : Int} (h : isStartB ps x n = true) : okMap ps = true ∧ unitQ x.1 x.2 = true ∧ 0 ≤ n ∧ n ≤ 60 := by
  unfold isStartB at h; simp only [Bool.and_eq_true, decide_eq_true_eq] at h; exact ⟨h.1, h.2.1, h.2.2⟩
theorem orbOf_a {ps : List Pt} {x : Q} {n : Int} (h : isStartB ps x n = false) : orbOf ps x n = ([], false) := by unfold orbOf; rw [if_neg (by rw [h]; simp)]
theorem orbOf_b {ps : List Pt} {x : Q} {k : Nat} (h : isStartB ps x k = true) (hf : (orbQ ps x k).length = k + 1) : orbOf ps x k = (orbQ ps x k, true) := by unfold orbOf; rw [if_pos ⟨h, hf⟩]; rfl
theorem orbOf_c {ps : List Pt} {x : Q} {k : Nat} (hf : ¬ (orbQ ps x k).length = k + 1) : orbOf ps x k = ([], false) := by unfold orbOf; rw [if_neg (by intro hh; exact hf hh.2)]
theorem orbOf_yes {ps : List Pt} {x : Q} {n : Int} {l : List Q} (h : orbOf ps x n = (l, true)) : ∃ k : Nat, n = k ∧ l.length = k + 1 ∧ k ≤ 60 := by
  unfold orbOf at h
  split at h
  · rename_i hh
    obtain ⟨-, -, h1, h2⟩ := isStartB_parts hh.1
    obtain ⟨k, rfl⟩ := Int.eq_ofNat_of_zero_le h1
    obtain ⟨rfl, -⟩ := Prod.mk.inj h
    exact ⟨k, rfl, by simpa using hh.2, by omega⟩
  · simp at h
theorem orbOf_no {ps : List Pt} {x : Q} {n : Int} {l : List Q} (h : orbOf ps x n = (l, false)) : l = [] := by
  unfold orbOf at h
  split at h
  · simp at h
  · simp at h; exact h
theorem orbOf_len {ps : List Pt} {x : Q} {n : Int} {l : List Q} {t : Bool} (h : orbOf ps x n = (l, t)) : l.length ≤ 1048576 := by
  cases t
  · rw [orbOf_no h]; simp
  · obtain ⟨k, -, h1, h2⟩ := orbOf_yes h; omega
theorem orbOf_unit {ps : List Pt} {x : Q} {n : Int} {l : List Q} {t : Bool} (h : orbOf ps x n = (l, t)) : ∀ y ∈ l, unitQ y.1 y.2 = true := by
  unfold orbOf at h
  split at h
  · rename_i hh
    obtain ⟨h1, h2, -, -⟩ := isStartB_parts hh.1
    obtain ⟨rfl, -⟩ := Prod.mk.inj h
    exact orbQ_unit h1 h2 _
  · obtain ⟨rfl, -⟩ := Prod.mk.inj h; simp

end Go.Proofs.Ytkeajfgcjmhmiaa
