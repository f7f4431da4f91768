/- coTwo; AreSameMap of both. -/
import Derived.Test.YtkdhhopfefhdjaaSame
namespace Go.Proofs.Ytkdhhopfefhdjaa
open Go.RowKit

def sameQ (ps qs : List Pt) : Bool × Bool := if okMap ps = true ∧ okMap qs = true then (decide (simpleQ ps = simpleQ qs), true) else (false, false)

set_option maxHeartbeats 800000 in
theorem coTwo_is (ps qs : List Pt) (v u : Value) (t : Bool) (ht : (okMap ps && okMap qs) = t) (w : World) (hv : RdP w v ps) (hu : RdP w u qs) (hn : ps.length ≤ 1048576) (hk : qs.length ≤ 1048576) :
    Calls Try.prog 84 #[v, u] w fun e w' => e = .returned (.bool t) ∧ Below w.heap.size w w' := by
  have HV := Lib.hid hv
  have HU := Lib.hid hu
  rcases hm : okMap ps with _ | _
  · obtain rfl : false = t := by rw [← ht, hm]; rfl
    have HM := Lib.hid hm
    clear hv hu ht hm
    go_enter Try.func84, Try.ntmps84
    go_wp2_with fail
    refine (imGood_is ps v false _ (HV.out.keep (by go_grown)) hn HM.out).mono ?_
    rintro e w1 ⟨rfl, hb⟩
    have hX : Below w.heap.size w w1 := nextX (by go_grown) hb
    have hB : Below w.heap.size w w1 := hX
    clear hb hX
    go_wp2_with fail
    go_ret
    exact ⟨rfl, hB⟩
  · have HM := Lib.hid hm
    have HK := Lib.hid (show okMap qs = t by rw [← ht, hm]; rfl)
    clear hv hu ht hm
    go_enter Try.func84, Try.ntmps84
    go_wp2_with fail
    refine (imGood_is ps v true _ (HV.out.keep (by go_grown)) hn HM.out).mono ?_
    rintro e w1 ⟨rfl, hb⟩
    have hX : Below w.heap.size w w1 := nextX (by go_grown) hb
    have hB : Below w.heap.size w w1 := hX
    clear hb hX
    go_wp2_with fail
    refine (imGood_is qs u t _ (HU.out.keep (nextX hB (by go_grown))) hk HK.out).mono ?_
    rintro e w2 ⟨rfl, hb⟩
    have hX : Below w1.heap.size w1 w2 := nextX (by go_grown) hb
    replace hB := nextW hB hX
    clear hb hX
    go_wp2_with fail
    go_ret
    exact ⟨rfl, hB⟩


set_option maxHeartbeats 800000 in
theorem iAreSameMap_is (ps qs : List Pt) (v u : Value) (a t : Bool) (hl : sameQ ps qs = (a, t)) (w : World) (hv : RdP w v ps) (hu : RdP w u qs) (hn : ps.length ≤ 1048576) (hk : qs.length ≤ 1048576) :
    Calls Try.prog 36 #[v, u] w fun e w' => e = .returned (.tuple #[.bool a, .bool t]) ∧ Below w.heap.size w w' := by
  have HV := Lib.hid hv
  have HU := Lib.hid hu
  by_cases hm : okMap ps = true ∧ okMap qs = true
  · obtain ⟨rfl, rfl⟩ : decide (simpleQ ps = simpleQ qs) = a ∧ true = t := by unfold sameQ at hl; rw [if_pos hm] at hl; exact Prod.mk.inj hl
    have HM := Lib.hid hm
    have l1 := okMap_len hm.1
    have l2 := okMap_len hm.2
    clear hv hu hl hm
    go_enter Try.func36, Try.ntmps36
    go_wp2_with fail
    refine (isMap_is ps v true _ (HV.out.keep (by go_grown)) hn HM.out.1).mono ?_
    rintro e w1 ⟨rfl, hb⟩
    have hX : Below w.heap.size w w1 := nextX (by go_grown) hb
    have hB : Below w.heap.size w w1 := hX
    clear hb hX
    go_wp2_with fail
    refine (isMap_is qs u true _ (HU.out.keep (nextX hB (by go_grown))) hk HM.out.2).mono ?_
    rintro e w2 ⟨rfl, hb⟩
    have hX : Below w1.heap.size w1 w2 := nextX (by go_grown) hb
    replace hB := nextW hB hX
    clear hb hX
    go_wp2_with fail
    refine (simple_is ps v _ (HV.out.keep (nextX hB (by go_grown))) (okMap_riseC HM.out.1) (by omega)).mono ?_
    rintro e w3 ⟨r1, rfl, o1, hb⟩
    have hX : Below w2.heap.size w2 w3 := nextX (by go_grown) hb
    replace hB := nextW hB hX
    clear hb hX
    go_wp2_with fail
    refine (simple_is qs u _ (HU.out.keep (nextX hB (by go_grown))) (okMap_riseC HM.out.2) (by omega)).mono ?_
    rintro e w4 ⟨r2, rfl, o2, hb⟩
    have hX : Below w3.heap.size w3 w4 := nextX (by go_grown) hb
    replace o1 := o1.keep hX
    replace hB := nextW hB hX
    clear hb hX
    go_wp2_with fail
    refine (equalPts (simpleQ ps) (simpleQ qs) r1 r2 _ (o1.read.keep (by go_grown)) (o2.read.keep (by go_grown))).mono ?_
    rintro e w5 ⟨rfl, hb⟩
    have hX : Below w4.heap.size w4 w5 := nextX (by go_grown) hb
    replace o1 := o1.keep hX
    replace o2 := o2.keep hX
    replace hB := nextW hB hX
    clear hb hX
    go_wp2_with fail
    go_ret2
    exact ⟨rfl, hB⟩
  · obtain ⟨rfl, rfl⟩ : false = a ∧ false = t := by unfold sameQ at hl; rw [if_neg hm] at hl; exact Prod.mk.inj hl
    rcases h1 : okMap ps with _ | _
    · have HM := Lib.hid h1
      clear hv hu hl hm h1
      go_enter Try.func36, Try.ntmps36
      go_wp2_with fail
      refine (isMap_is ps v false _ (HV.out.keep (by go_grown)) hn HM.out).mono ?_
      rintro e w1 ⟨rfl, hb⟩
      have hX : Below w.heap.size w w1 := nextX (by go_grown) hb
      have hB : Below w.heap.size w w1 := hX
      clear hb hX
      go_wp2_with fail
      go_ret2
      exact ⟨rfl, hB⟩
    · have HM := Lib.hid h1
      have HK := Lib.hid (show okMap qs = false by rw [h1] at hm; simpa using hm)
      clear hv hu hl hm h1
      go_enter Try.func36, Try.ntmps36
      go_wp2_with fail
      refine (isMap_is ps v true _ (HV.out.keep (by go_grown)) hn HM.out).mono ?_
      rintro e w1 ⟨rfl, hb⟩
      have hX : Below w.heap.size w w1 := nextX (by go_grown) hb
      have hB : Below w.heap.size w w1 := hX
      clear hb hX
      go_wp2_with fail
      refine (isMap_is qs u false _ (HU.out.keep (nextX hB (by go_grown))) hk HK.out).mono ?_
      rintro e w2 ⟨rfl, hb⟩
      have hX : Below w1.heap.size w1 w2 := nextX (by go_grown) hb
      replace hB := nextW hB hX
      clear hb hX
      go_wp2_with fail
      go_ret2
      exact ⟨rfl, hB⟩


set_option maxHeartbeats 800000 in
theorem sAreSameMap_is (ps qs : List Pt) (v u : Value) (a t : Bool) (hl : sameQ ps qs = (a, t)) (w : World) (hv : RdP w v ps) (hu : RdP w u qs) (hn : ps.length ≤ 1048576) (hk : qs.length ≤ 1048576) :
    Calls Try.prog 35 #[v, u] w fun e w' => e = .returned (.tuple #[.bool a, .bool t]) ∧ Below w.heap.size w w' := by
  have HV := Lib.hid hv
  have HU := Lib.hid hu
  by_cases hm : okMap ps = true ∧ okMap qs = true
  · obtain ⟨rfl, rfl⟩ : decide (simpleQ ps = simpleQ qs) = a ∧ true = t := by unfold sameQ at hl; rw [if_pos hm] at hl; exact Prod.mk.inj hl
    have HM := Lib.hid hm
    have l1 := okMap_len hm.1
    have l2 := okMap_len hm.2
    clear hv hu hl hm
    go_enter Try.func35, Try.ntmps35
    go_wp2_with fail
    refine (coTwo_is ps qs v u true (by rw [HM.out.1, HM.out.2]; rfl) _ (HV.out.keep (by go_grown)) (HU.out.keep (by go_grown)) hn hk).mono ?_
    rintro e w1 ⟨rfl, hb⟩
    have hX : Below w.heap.size w w1 := nextX (by go_grown) hb
    have hB : Below w.heap.size w w1 := hX
    clear hb hX
    go_wp2_with fail
    refine (imSimple_is ps v _ (HV.out.keep (nextX hB (by go_grown))) (okMap_riseC HM.out.1) (by omega)).mono ?_
    rintro e w2 ⟨r1, rfl, o1, hb⟩
    have hX : Below w1.heap.size w1 w2 := nextX (by go_grown) hb
    replace hB := nextW hB hX
    clear hb hX
    go_wp2_with fail
    refine (imSimple_is qs u _ (HU.out.keep (nextX hB (by go_grown))) (okMap_riseC HM.out.2) (by omega)).mono ?_
    rintro e w3 ⟨r2, rfl, o2, hb⟩
    have hX : Below w2.heap.size w2 w3 := nextX (by go_grown) hb
    replace o1 := o1.keep hX
    replace hB := nextW hB hX
    clear hb hX
    go_wp2_with fail
    refine (coEqual_is (simpleQ ps) (simpleQ qs) r1 r2 _ (o1.read.keep (by go_grown)) (o2.read.keep (by go_grown))).mono ?_
    rintro e w4 ⟨rfl, hb⟩
    have hX : Below w3.heap.size w3 w4 := nextX (by go_grown) hb
    replace o1 := o1.keep hX
    replace o2 := o2.keep hX
    replace hB := nextW hB hX
    clear hb hX
    go_wp2_with fail
    go_ret2
    exact ⟨rfl, hB⟩
  · obtain ⟨rfl, rfl⟩ : false = a ∧ false = t := by unfold sameQ at hl; rw [if_neg hm] at hl; exact Prod.mk.inj hl
    have HM := Lib.hid (show (okMap ps && okMap qs) = false by rw [← Bool.not_eq_true, Bool.and_eq_true]; exact hm)
    clear hv hu hl hm
    go_enter Try.func35, Try.ntmps35
    go_wp2_with fail
    refine (coTwo_is ps qs v u false HM.out _ (HV.out.keep (by go_grown)) (HU.out.keep (by go_grown)) hn hk).mono ?_
    rintro e w1 ⟨rfl, hb⟩
    have hX : Below w.heap.size w w1 := nextX (by go_grown) hb
    have hB : Below w.heap.size w w1 := hX
    clear hb hX
    go_wp2_with fail
    go_ret2
    exact ⟨rfl, hB⟩


end Go.Proofs.Ytkdhhopfefhdjaa
