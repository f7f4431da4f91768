/- IsMap of the program. -/
import Derived.Test.YtkeajfgcjmhmiaaGreatMaps
namespace Go.Proofs.YtkeajfgcjmhmiaaGreat
open Go.RowKit
set_option maxHeartbeats 800000 in
theorem implIsMap_is (ps : List Pt) (v : Value) (t : Bool) (w : World) (hv : RdP w v ps) (hn : ps.length ≤ 1048576) (ht : okMap ps = t) :
    Calls Tryz.prog 16 #[v] w fun e w' => e = .returned (.bool t) ∧ Below w.heap.size w w' := by
  go_enter Tryz.func16, Tryz.ntmps16
  go_wp2_with fail
  refine (isMap_is ps v t _ hv hn ht).mono ?_
  rintro e w1 ⟨rfl, hb⟩
  go_wp2_with fail
  go_ret
  exact ⟨rfl, hb⟩
end Go.Proofs.YtkeajfgcjmhmiaaGreat
