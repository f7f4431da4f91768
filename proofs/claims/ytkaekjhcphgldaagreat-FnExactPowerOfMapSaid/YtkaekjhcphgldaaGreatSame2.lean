/- coTwo; AreSameMap of both. -/
import Derived.Test.YtkaekjhcphgldaaGreatSame
namespace Go.Proofs.YtkaekjhcphgldaaGreat
open Go.RowKit

def sameQ (ps qs : List Pt) : Bool × Bool := if okMap ps = true ∧ okMap qs = true then (decide (simpleQ ps = simpleQ qs), true) else (false, false)

set_option maxHeartbeats 800000 in
theorem coTwo_is (ps qs : List Pt) (v u : Value) (t : Bool) (ht : (okMap ps && okMap qs) = t) (w : World) (hv : RdP w v ps) (hu : RdP w u qs) (hn : ps.length ≤ 1048576) (hk : qs.length ≤ 1048576) :
    Calls Tryz.prog 24 #[v, u] w fun e w' => e = .returned (.bool t) ∧ Below w.heap.size w w' := by
  have HV := Lib.hid hv
  have HU := Lib.hid hu
  rcases hm : okMap ps with _ | _
  · obtain rfl : false = t := by rw [← ht, hm]; rfl
    have HM := Lib.hid hm
    clear hv hu ht hm
    go_enter Tryz.func24, Tryz.ntmps24
    go_wp2_with fail
    refine (imGood_is ps v false _ (HV.out.keep (by go_grown)) hn HM.out).mono ?_
    rintro e w1 ⟨rfl, hb⟩
    have hX : Below w.heap.size w w1 := nextX (by go_grown) hb
    have hB : Below w.heap.size w w1 := hX
    clear hb hX
    go_wp2_with fail
    go_ret
    exact ⟨rfl, hB⟩
  · have HM := Lib.hid hm
    have HK := Lib.hid (show okMap qs = t by rw [← ht, hm]; rfl)
    clear hv hu ht hm
    go_enter Tryz.func24, Tryz.ntmps24
    go_wp2_with fail
    refine (imGood_is ps v true _ (HV.out.keep (by go_grown)) hn HM.out).mono ?_
    rintro e w1 ⟨rfl, hb⟩
    have hX : Below w.heap.size w w1 := nextX (by go_grown) hb
    have hB : Below w.heap.size w w1 := hX
    clear hb hX
    go_wp2_with fail
    refine (imGood_is qs u t _ (HU.out.keep (nextX hB (by go_grown))) hk HK.out).mono ?_
    rintro e w2 ⟨rfl, hb⟩
    have hX : Below w1.heap.size w1 w2 := nextX (by go_grown) hb
    replace hB := nextW hB hX
    clear hb hX
    go_wp2_with fail
    go_ret
    exact ⟨rfl, hB⟩


end Go.Proofs.YtkaekjhcphgldaaGreat
