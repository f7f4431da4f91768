/- Rows of the call's own beside a block that is written: a calc, a box. -/
import Derived.Test.YtkdhhopfefhdjaaVal5
import Derived.Test.YtkdhhopfefhdjaaIsMap
import Derived.Laws.OwnMore
namespace Go.Proofs.Ytkdhhopfefhdjaa
open Go.RowKit

theorem But.of_grown {g : Nat} {w w' : World} {row : Option Nat} (h : w.grownBy w' row) (hr : row = none ∨ row = some g) : But g w w' :=
  ⟨h.os, h.tape, h.output, h.size, fun k hk hn => h.block k hk (by rcases hr with rfl | rfl <;> simp <;> omega)⟩

theorem ownsRow_keepU {g base : Nat} {e : TypeId} {size n : Nat} {w w' : World} {v : Value} {xs : List Value} (h : w.ownsRow base e size v n xs) (hb : But g w w') (hn : v.ownBlock ≠ some g) : w'.ownsRow base e size v n xs := by
  obtain ⟨h1, h2⟩ := h
  refine ⟨h1, ?_⟩
  rcases h2 with h2 | ⟨b, cap, cur, rfl, hg, hh, h3⟩
  · exact .inl h2
  · have hlt : b < w.heap.size := (Array.getElem?_eq_some_iff.1 hh).1
    exact .inr ⟨b, cap, cur, rfl, hg, (hb.block b hlt (by simpa [Value.ownBlock] using hn)).trans hh, h3⟩
theorem OwQ.keepU {g base : Nat} {e : TypeId} {w w' : World} {v : Value} {qs : List Q} (h : OwQ base e w v qs) (hb : But g w w') (hn : v.ownBlock ≠ some g) : OwQ base e w' v qs := ownsRow_keepU h hb hn
theorem OwP.keepU {g base : Nat} {e : TypeId} {w w' : World} {v : Value} {ps : List Pt} (h : OwP base e w v ps) (hb : But g w w') (hn : v.ownBlock ≠ some g) : OwP base e w' v ps := ownsRow_keepU h hb hn

/-- A row of fractions is no block that holds a bool. -/
theorem OwQ.ne_bool {base g : Nat} {e : TypeId} {w : World} {v : Value} {qs : List Q} {b : Bool} (h : OwQ base e w v qs) (hc : w.cell? ⟨g, 0, none⟩ = some (.bool b)) (hn : qs ≠ [] ∨ v = .slice none 0 0) : v.ownBlock ≠ some g := by
  intro hb
  rcases hn with hn | rfl
  · cases qs with
    | nil => exact hn rfl
    | cons q r =>
      have := World.ownsRow.cells h hb 0 _ (rowQ_get (q :: r) 0 q rfl).1
      rw [show (⟨g, 0, none⟩ : Addr).add 0 = ⟨g, 0, none⟩ from rfl] at this
      rw [this] at hc
      cases hc
  · simp [Value.ownBlock] at hb
/-- .. no block of so low a number. -/
theorem OwQ.ne_low {base g : Nat} {e : TypeId} {w : World} {v : Value} {qs : List Q} (h : OwQ base e w v qs) (hg : g < base) : v.ownBlock ≠ some g := by
  intro hb
  have := (World.ownsRow.lt h g hb).1
  omega

/-- A slice that is written out with one fraction. -/
theorem OwQ.one (w : World) (base : Nat) (e : TypeId) (a b : Int) (hb : base ≤ w.heap.size) : OwQ base e (w.alloc (.cells #[.int .i64 a, .int .i64 b] e)) (.slice (some ⟨w.heap.size, 0, none⟩) 1 1) [(a, b)] :=
  ⟨rfl, .inr ⟨w.heap.size, 1, _, rfl, hb, heap_alloc_new w _, Nat.le_refl _, by simp [maxLen], rfl, by simp [rowQ]⟩⟩

/-- Appending one fraction: only the row's own block is written. -/
theorem append_q1g {ops : Array Oper} {rest : List Oper} {o : Oper} {a : Act} {K : Exit → Act → World → Prop} (w : World) (hgd : o.guard = none) (s x : Operand)
    (ho : o.op = .call { callee := .builtin .append, args := #[s, x], argTypes := #[43, 43] })
    (base : Nat) (v : Value) (qs : List Q) (hs : a.eval s = v) (hown : OwQ base 34 w v qs)
    (g c : Nat) (n d : Int) (hx : a.eval x = .slice (some ⟨g, 0, none⟩) 1 c) (c0 : w.cell? ⟨g, 0, none⟩ = some (.int .i64 n)) (c1 : w.cell? ⟨g, 1, none⟩ = some (.int .i64 d))
    (hlen : qs.length ≤ 900000) (hbase : base ≤ w.heap.size)
    (h : ∀ v' w', OwQ base 34 w' v' (qs ++ [(n, d)]) → w.grownBy w' v.ownBlock → wpList Try.prog ops K rest (a.put o.dst v') w') : wpList Try.prog ops K (o :: rest) a w := by
  obtain ⟨i, hi, hz, hsz, hb⟩ := info_parts Try.infoQ
  have hcell : ∀ j u, (rowQ [(n, d)])[j]? = some u → w.cell? ((⟨g, 0, none⟩ : Addr).add j) = some u := by
    intro j u hj
    have hadd : (⟨g, 0, none⟩ : Addr).add j = ⟨g, j, none⟩ := by unfold Addr.add; split <;> simp_all
    rw [hadd]
    match j, hj with
    | 0, hj => simp [rowQ] at hj; subst hj; exact c0
    | 1, hj => simp [rowQ] at hj; subst hj; exact c1
    | j + 2, hj => simp [rowQ] at hj
  have hone : ∀ u ∈ rowQ [(n, d)], u.oneCell' = true := by
    intro u hu
    simp [rowQ] at hu
    rcases hu with rfl | rfl <;> rfl
  refine wpList_append_own w hgd s x 43 ho base 34 i _ 2 16 Try.underlying43 hi hz hsz hb rfl (by decide) v qs.length (rowQ qs) hs hown ⟨g, 0, none⟩ 1 c (rowQ [(n, d)]) hx rfl hcell hone (by unfold maxLen; omega) (by omega) hbase ?_
  intro v' w' h1 h2 _
  refine h v' w' ?_ h2
  unfold OwQ; rw [List.length_append, rowQ_app]; exact h1

theorem grown_slot {w w' : World} {row : Option Nat} {b o : Nat} {v : Value} (h : w.grownBy w' row) (hs : Slot w b o v) (hn : row ≠ some b) : Slot w' b o v :=
  ⟨h.cell hs.1 (fun e => hn e.symm), (World.frozen?_of_block (w := w) (h.block b (lt_of_cell hs.1) (fun e => hn e.symm))).trans hs.2⟩
theorem ownsRow_low {base b : Nat} {e : TypeId} {size n : Nat} {w : World} {v : Value} {xs : List Value} (h : w.ownsRow base e size v n xs) (hb : b ≤ base) : w.ownsRow b e size v n xs :=
  ⟨h.1, h.2.imp id fun ⟨g, cap, cur, h1, h2, h3⟩ => ⟨g, cap, cur, h1, Nat.le_trans hb h2, h3⟩⟩
theorem OwQ.low {base b : Nat} {e : TypeId} {w : World} {v : Value} {qs : List Q} (h : OwQ base e w v qs) (hb : b ≤ base) : OwQ b e w v qs := ownsRow_low h hb
theorem OwP.low {base b : Nat} {e : TypeId} {w : World} {v : Value} {qs : List Pt} (h : OwP base e w v qs) (hb : b ≤ base) : OwP b e w v qs := ownsRow_low h hb
theorem OwQ.from {base k : Nat} {e : TypeId} {w : World} {v : Value} {qs : List Q} (h : OwQ base e w v qs) (hk : v.ownBlock = some k) : base ≤ k := (World.ownsRow.lt h k hk).1

/-- How many elements a slice has. -/
def lenOf : Value → Nat
  | .slice _ n _ => n
  | _ => 0
theorem OwQ.lenOf {base : Nat} {e : TypeId} {w : World} {v : Value} {qs : List Q} (h : OwQ base e w v qs) : lenOf v = qs.length := by
  rcases h.2 with ⟨rfl, hn⟩ | ⟨g, cap, cur, rfl, -⟩
  · exact hn.symm
  · rfl
theorem OwP.lenOf {base : Nat} {e : TypeId} {w : World} {v : Value} {qs : List Pt} (h : OwP base e w v qs) : lenOf v = qs.length := by
  rcases h.2 with ⟨rfl, hn⟩ | ⟨g, cap, cur, rfl, -⟩
  · exact hn.symm
  · rfl
/-- A row that is not empty, written out. -/
theorem OwQ.lit {base n : Nat} {e : TypeId} {w : World} {v : Value} {qs : List Q} (h : OwQ base e w v qs) (hl : qs.length = n) (h0 : 0 < n) :
    ∃ g cap, v = .slice (some ⟨g, 0, none⟩) n cap ∧ n ≤ cap ∧ cap ≤ maxLen ∧ base ≤ g ∧ g < w.heap.size ∧ ∀ i q, qs[i]? = some q → w.cell? ⟨g, i * 2, none⟩ = some (.int .i64 q.1) ∧ w.cell? ⟨g, i * 2 + 1, none⟩ = some (.int .i64 q.2) := by
  subst hl
  have h0' := h
  rcases h.2 with ⟨rfl, hn⟩ | ⟨g, cap, cur, rfl, hb, hh, hle, hm, -, -⟩
  · omega
  · refine ⟨g, cap, rfl, hle, hm, hb, (Array.getElem?_eq_some_iff.1 hh).1, fun i q hq => ?_⟩
    have hi : i < qs.length := (List.getElem?_eq_some_iff.1 hq).1
    obtain ⟨a, b⟩ := rowQ_get qs i q hq
    exact ⟨(World.ownsRow.cellAt h0' _ (by omega)).trans a, (World.ownsRow.cellAt h0' _ (by omega)).trans b⟩

/-- What a call leaves that gives a row of fractions and a bool. -/
def RetQB (w : World) (qs : List Q) (t : Bool) (e : Ending) (w' : World) : Prop := ∃ r, e = .returned (.tuple #[r, .bool t]) ∧ OwQ w.heap.size 34 w' r qs ∧ Below w.heap.size w w'

end Go.Proofs.Ytkdhhopfefhdjaa
