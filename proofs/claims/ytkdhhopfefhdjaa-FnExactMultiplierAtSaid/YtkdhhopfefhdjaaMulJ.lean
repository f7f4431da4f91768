/- MultiplierAt of the program. -/
import Derived.Test.YtkdhhopfefhdjaaMul
import Derived.Test.YtkdhhopfefhdjaaMulI
namespace Go.Proofs.Ytkdhhopfefhdjaa
open Go.RowKit

theorem iMultiplierAt_is (ps : List Pt) (v : Value) (x1 x2 n a b : Int) (t : Bool) (hl : multQ ps (x1, x2) n = (a, b, t)) (w : World) (hv : RdP w v ps) (hn : ps.length ≤ 1048576) :
    Calls Try.prog 72 #[v, .agg #[.int .i64 x1, .int .i64 x2], .int .i64 n] w (LowEnd a b t w) := by
  have hm : (cycQ ps (x1, x2) n).2 = true → okMap ps = true := by
    intro h
    rcases hs : isStartB ps (x1, x2) n with _ | _
    · rw [cycQ_a hs] at h; cases h
    · exact (isStartB_parts hs).1
  exact iMultiplierAt_of ps v x1 x2 n a b t hl hm w hv hn (fun W q1 q2 s1 s2 ts hv' hk hu hs => iSlopeAt_is ps v q1 q2 s1 s2 ts hs hk hu W hv')

end Go.Proofs.Ytkdhhopfefhdjaa
