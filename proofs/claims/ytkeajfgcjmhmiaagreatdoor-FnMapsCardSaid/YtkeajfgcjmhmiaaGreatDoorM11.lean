/- Plain: orbits. · Rows of the call's own beside a block that is written: a calc, a box. · Orbits: the program's orbit, the reference's orRun. · Orbits: the reference's orRun; isStart, orAsked; OrbitOf of both. · OrbitOf, StepsInSize, IterateMap of both. -/
import Derived.Test.YtkeajfgcjmhmiaaGreatDoorM10
import Derived.Test.YtkeajfgcjmhmiaaGreatDoorM3
import Derived.Laws.OwnMore
namespace Go.Proofs.YtkeajfgcjmhmiaaGreatDoor

/-- The first place of a fraction in a list. -/
def idxQ (l : List Q) (x : Q) : Int := match l.findIdx? (fun y => decide (y = x)) with | some i => i | none => -1

end Go.Proofs.YtkeajfgcjmhmiaaGreatDoor

namespace Go.Proofs.YtkeajfgcjmhmiaaGreatDoor
open Go.RowKit

theorem ownsRow_keepU {g base : Nat} {e : TypeId} {size n : Nat} {w w' : World} {v : Value} {xs : List Value} (h : w.ownsRow base e size v n xs) (hb : But g w w') (hn : v.ownBlock ≠ some g) : w'.ownsRow base e size v n xs := by
  obtain ⟨h1, h2⟩ := h
  refine ⟨h1, ?_⟩
  rcases h2 with h2 | ⟨b, cap, cur, rfl, hg, hh, h3⟩
  · exact .inl h2
  · have hlt : b < w.heap.size := (Array.getElem?_eq_some_iff.1 hh).1
    exact .inr ⟨b, cap, cur, rfl, hg, (hb.block b hlt (by simpa [Value.ownBlock] using hn)).trans hh, h3⟩
theorem OwQ.keepU {g base : Nat} {e : TypeId} {w w' : World} {v : Value} {qs : List Q} (h : OwQ base e w v qs) (hb : But g w w') (hn : v.ownBlock ≠ some g) : OwQ base e w' v qs := ownsRow_keepU h hb hn
theorem OwP.keepU {g base : Nat} {e : TypeId} {w w' : World} {v : Value} {ps : List Pt} (h : OwP base e w v ps) (hb : But g w w') (hn : v.ownBlock ≠ some g) : OwP base e w' v ps := ownsRow_keepU h hb hn

/-- A slice that is written out with one fraction. -/
theorem OwQ.one (w : World) (base : Nat) (e : TypeId) (a b : Int) (hb : base ≤ w.heap.size) : OwQ base e (w.alloc (.cells #[.int .i64 a, .int .i64 b] e)) (.slice (some ⟨w.heap.size, 0, none⟩) 1 1) [(a, b)] :=
  ⟨rfl, .inr ⟨w.heap.size, 1, _, rfl, hb, heap_alloc_new w _, Nat.le_refl _, by simp [maxLen], rfl, by simp [rowQ]⟩⟩

theorem ownsRow_low {base b : Nat} {e : TypeId} {size n : Nat} {w : World} {v : Value} {xs : List Value} (h : w.ownsRow base e size v n xs) (hb : b ≤ base) : w.ownsRow b e size v n xs :=
  ⟨h.1, h.2.imp id fun ⟨g, cap, cur, h1, h2, h3⟩ => ⟨g, cap, cur, h1, Nat.le_trans hb h2, h3⟩⟩
theorem OwQ.low {base b : Nat} {e : TypeId} {w : World} {v : Value} {qs : List Q} (h : OwQ base e w v qs) (hb : b ≤ base) : OwQ b e w v qs := ownsRow_low h hb
theorem OwP.low {base b : Nat} {e : TypeId} {w : World} {v : Value} {qs : List Pt} (h : OwP base e w v qs) (hb : b ≤ base) : OwP b e w v qs := ownsRow_low h hb
theorem OwQ.from {base k : Nat} {e : TypeId} {w : World} {v : Value} {qs : List Q} (h : OwQ base e w v qs) (hk : v.ownBlock = some k) : base ≤ k := (World.ownsRow.lt h k hk).1

/-- How many elements a slice has. -/
def lenOf : Value → Nat
  | .slice _ n _ => n
  | _ => 0
theorem OwQ.lenOf {base : Nat} {e : TypeId} {w : World} {v : Value} {qs : List Q} (h : OwQ base e w v qs) : lenOf v = qs.length := by
  rcases h.2 with ⟨rfl, hn⟩ | ⟨g, cap, cur, rfl, -⟩
  · exact hn.symm
  · rfl
theorem OwP.lenOf {base : Nat} {e : TypeId} {w : World} {v : Value} {qs : List Pt} (h : OwP base e w v qs) : lenOf v = qs.length := by
  rcases h.2 with ⟨rfl, hn⟩ | ⟨g, cap, cur, rfl, -⟩
  · exact hn.symm
  · rfl
/-- A row that is not empty, written out. -/
theorem OwQ.lit {base n : Nat} {e : TypeId} {w : World} {v : Value} {qs : List Q} (h : OwQ base e w v qs) (hl : qs.length = n) (h0 : 0 < n) :
    ∃ g cap, v = .slice (some ⟨g, 0, none⟩) n cap ∧ n ≤ cap ∧ cap ≤ maxLen ∧ base ≤ g ∧ g < w.heap.size ∧ ∀ i q, qs[i]? = some q → w.cell? ⟨g, i * 2, none⟩ = some (.int .i64 q.1) ∧ w.cell? ⟨g, i * 2 + 1, none⟩ = some (.int .i64 q.2) := by
  subst hl
  have h0' := h
  rcases h.2 with ⟨rfl, hn⟩ | ⟨g, cap, cur, rfl, hb, hh, hle, hm, -, -⟩
  · omega
  · refine ⟨g, cap, rfl, hle, hm, hb, (Array.getElem?_eq_some_iff.1 hh).1, fun i q hq => ?_⟩
    have hi : i < qs.length := (List.getElem?_eq_some_iff.1 hq).1
    obtain ⟨a, b⟩ := rowQ_get qs i q hq
    exact ⟨(World.ownsRow.cellAt h0' _ (by omega)).trans a, (World.ownsRow.cellAt h0' _ (by omega)).trans b⟩

end Go.Proofs.YtkeajfgcjmhmiaaGreatDoor

namespace Go.Proofs.YtkeajfgcjmhmiaaGreatDoor
open Go.RowKit

end Go.Proofs.YtkeajfgcjmhmiaaGreatDoor

namespace Go.Proofs.YtkeajfgcjmhmiaaGreatDoor
open Go.RowKit

end Go.Proofs.YtkeajfgcjmhmiaaGreatDoor

namespace Go.Proofs.YtkeajfgcjmhmiaaGreatDoor
open Go.RowKit

end Go.Proofs.YtkeajfgcjmhmiaaGreatDoor
