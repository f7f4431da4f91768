/- Drawn maps with a place: orbiter. -/
import Derived.Test.YtkeajfgcjmhmiaaDrX
namespace Go.Proofs.Ytkeajfgcjmhmiaa
open Go.RowKit

theorem OwP.setO {b k o : Nat} {e : TypeId} {w : World} {u : Value} {ps : List Pt} (h : OwP b e w u ps) (hk : u.ownBlock ≠ some k) {x : Value} : OwP b e (w.setCell ⟨k, o, none⟩ x) u ps := h.keepU (But.setCell (But.refl k w) x) hk
def OrbDrew (g : Nat) (v : Value) (m : Nat) (w : World) (e : Ending) (w' : World) : Prop := ∃ (r : Value) (ps : List Pt) (a b : Int), e = .returned (.tuple #[r, .agg #[.int .i64 a, .int .i64 b]]) ∧ OwP w.heap.size 43 w' r ps ∧ ps.length ≤ 62 ∧ Cur g v m w' ∧ But g w w'
def RelOrbi (g : Nat) (v : Value) (n : Nat) (K : Nat) (w : World) (f iv : Value) (wr : World) : Prop := ∃ (ps : List Pt) (j : Nat), iv = .int .i64 j ∧ j ≤ K + 1 ∧ OwP w.heap.size 43 wr f ps ∧ ps.length = j ∧ DS g v (n + j * 2) w wr

end Go.Proofs.Ytkeajfgcjmhmiaa
