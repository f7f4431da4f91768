/- Plain: what is made simple is simple. · SimpleMap and AreSameMap of both. -/
import Derived.Test.YtkeajfgcjmhmiaaGreatDoorM35
import Derived.Test.YtkeajfgcjmhmiaaGreatDoorM34
namespace Go.Proofs.YtkeajfgcjmhmiaaGreatDoor
open Go.RowKit

theorem kept_id : ∀ (t : List Pt) (p q : Pt), NoLine (p :: q :: t) → keptL p q t = q :: t
  | [], _, _, _ => rfl
  | r :: t, p, q, h => by
    rw [keptL, if_neg h.1, kept_id t q r h.2]
    rfl
theorem riseC_pts {l : List Pt} (hc : ∀ p ∈ l, CoP p) (hu : UpX l) : RiseC l := by
  refine ⟨fun i p hp => hc p (List.mem_of_getElem? hp), fun i p q hp hq => ?_⟩
  have c1 := hc p (List.mem_of_getElem? hp)
  have c2 := hc q (List.mem_of_getElem? hq)
  have b1 := okQ_bd (unitQ_ok (coordQ_unit c1.1))
  have b2 := okQ_bd (unitQ_ok (coordQ_unit c2.1))
  rw [lessQ_iff b1.1 b2.1]
  unfold UpX at hu
  rw [List.pairwise_iff_getElem] at hu
  obtain ⟨i1, rfl⟩ := List.getElem?_eq_some_iff.1 hp
  obtain ⟨i2, rfl⟩ := List.getElem?_eq_some_iff.1 hq
  exact hu i (i + 1) i1 i2 (by omega)
theorem simple_two' {ps : List Pt} (hc : ∀ p ∈ ps, CoP p) (hu : UpX ps) (h2 : 2 ≤ ps.length) : ∃ p q t, ps = p :: q :: t ∧ simpleQ ps = p :: keptL p q t ∧ UpX (p :: q :: t) ∧ toR p.1 < toR q.1 := by
  match ps, h2 with
  | p :: q :: t, _ => exact ⟨p, q, t, rfl, by rw [simpleQ_eq, keptS_eq t p q (goodL_of _ (riseC_pts hc hu))], hu, hu.head⟩
theorem simple_sub {ps : List Pt} (hc : ∀ p ∈ ps, CoP p) (hu : UpX ps) (h2 : 2 ≤ ps.length) : (simpleQ ps).Sublist ps := by
  obtain ⟨p, q, t, rfl, e, hu, hlt⟩ := simple_two' hc hu h2
  rw [e]
  exact (keptL_sub t p q).cons_cons p
theorem simple_noLine {ps : List Pt} (hc : ∀ p ∈ ps, CoP p) (hu : UpX ps) (h2 : 2 ≤ ps.length) : NoLine (simpleQ ps) := by
  obtain ⟨p, q, t, rfl, e, hu, hlt⟩ := simple_two' hc hu h2
  rw [e]
  exact kept_noLine t p p q hu hlt rfl
theorem keptL_ne : ∀ (t : List Pt) (p q : Pt), ∃ z t', keptL p q t = z :: t'
  | [], _, q => ⟨q, [], rfl⟩
  | r :: t, p, q => by
    rw [keptL]
    split
    · rw [List.nil_append]; exact keptL_ne t q r
    · exact ⟨q, keptL q r t, rfl⟩
theorem simple_long {ps : List Pt} (hc : ∀ p ∈ ps, CoP p) (hu : UpX ps) (h2 : 2 ≤ ps.length) : 2 ≤ (simpleQ ps).length := by
  obtain ⟨p, q, t, rfl, e, hu, hlt⟩ := simple_two' hc hu h2
  obtain ⟨z, t', hz⟩ := keptL_ne t p q
  rw [e, hz]
  simp
theorem simple_idem {ps : List Pt} (hc : ∀ p ∈ ps, CoP p) (hu : UpX ps) (h2 : 2 ≤ ps.length) : simpleQ (simpleQ ps) = simpleQ ps := by
  have hs := simple_sub hc hu h2
  have hn := simple_noLine hc hu h2
  have hl := simple_long hc hu h2
  obtain ⟨p, q, t, e, e2, -, -⟩ := simple_two' (ps := simpleQ ps) (fun p hp => hc p (hs.subset hp)) (List.Pairwise.sublist hs hu) hl
  rw [e2]
  rw [e] at hn ⊢
  rw [kept_id t p q hn]
theorem okMap_coP {ps : List Pt} (hm : okMap ps = true) : ∀ p ∈ ps, CoP p := fun p hp => by
  obtain ⟨i, hi, rfl⟩ := List.getElem_of_mem hp
  exact okMap_coord hm (List.getElem?_eq_getElem hi)
theorem map_idem {ps : List Pt} (hm : okMap ps = true) : simpleQ (simpleQ ps) = simpleQ ps := simple_idem (okMap_coP hm) (okMap_upX hm) (okMap_len hm).1
theorem map_simple_len {ps : List Pt} (hm : okMap ps = true) : (simpleQ ps).length ≤ ps.length := (simple_sub (okMap_coP hm) (okMap_upX hm) (okMap_len hm).1).length_le
/-- A list of points has the value of each of its points. -/
theorem eval_point : ∀ (l : List Pt), UpX l → ∀ p ∈ l, evalR l (toR p.1) = toR p.2
  | [], _, p, hp => by simp at hp
  | [a], _, p, hp => by simp at hp; subst hp; rfl
  | a :: b :: t, hu, p, hp => by
    rcases List.mem_cons.1 hp with rfl | hp
    · exact evalR_first hu
    · have hb : toR b.1 ≤ toR p.1 := by
        rcases List.mem_cons.1 hp with rfl | hp'
        · exact Rat.le_refl
        · exact Rat.le_of_lt ((List.pairwise_cons.1 hu.tail).1 p hp')
      rw [evalR_behind hu hb]
      exact eval_point (b :: t) hu.tail p hp
end Go.Proofs.YtkeajfgcjmhmiaaGreatDoor

namespace Go.Proofs.YtkeajfgcjmhmiaaGreatDoor
open Go.RowKit

/-- What a call leaves that gives a row of points and a bool. -/
def RetPB (w : World) (ps : List Pt) (t : Bool) (e : Ending) (w' : World) : Prop := ∃ r, e = .returned (.tuple #[r, .bool t]) ∧ OwP w.heap.size 41 w' r ps ∧ Below w.heap.size w w'
def simpleMapQ (ps : List Pt) : List Pt × Bool := if okMap ps = true then (simpleQ ps, true) else ([], false)
theorem simpleMapQ_len {ps l : List Pt} {t : Bool} (h : simpleMapQ ps = (l, t)) : l.length ≤ 1048576 := by
  unfold simpleMapQ at h
  split at h
  · rename_i hh
    obtain ⟨rfl, -⟩ := Prod.mk.inj h
    have := simpleQ_len ps
    have := okMap_len hh
    omega
  · obtain ⟨rfl, -⟩ := Prod.mk.inj h; simp

set_option maxHeartbeats 400000 in
theorem iSimpleMap_is (ps : List Pt) (v : Value) (l : List Pt) (t : Bool) (hl : simpleMapQ ps = (l, t)) (w : World) (hv : RdP w v ps) (hn : ps.length ≤ 1048576) :
    Calls Tryz.prog 5 #[v] w (RetPB w l t) := by
  have HV := Lib.hid hv
  rcases hm : okMap ps with _ | _
  · obtain ⟨rfl, rfl⟩ : [] = l ∧ false = t := by unfold simpleMapQ at hl; rw [if_neg (by rw [hm]; simp)] at hl; exact Prod.mk.inj hl
    have HM := Lib.hid hm
    clear hv hl hm
    go_enter Tryz.func5, Tryz.ntmps5
    go_wp2_with fail
    refine (isMap_is ps v false _ (HV.out.keep (by go_grown)) hn HM.out).mono ?_
    rintro e w1 ⟨rfl, hb⟩
    go_wp2_with fail
    go_ret2
    exact ⟨_, rfl, World.ownsRow_nil _ _ _ _, hb⟩
  · obtain ⟨rfl, rfl⟩ : simpleQ ps = l ∧ true = t := by unfold simpleMapQ at hl; rw [if_pos hm] at hl; exact Prod.mk.inj hl
    have HM := Lib.hid hm
    have hlen := okMap_len hm
    clear hv hl hm
    go_enter Tryz.func5, Tryz.ntmps5
    go_wp2_with fail
    refine (isMap_is ps v true _ (HV.out.keep (by go_grown)) hn HM.out).mono ?_
    rintro e w1 ⟨rfl, hb⟩
    have hz := hb.size
    go_wp2_with fail
    refine (simple_is ps v _ (HV.out.keep hb) (okMap_riseC HM.out) (by omega)).mono ?_
    rintro e w2 ⟨r, rfl, ow, hb2⟩
    have HO := Lib.hid (ow.low (b := w.heap.size) hz)
    clear ow
    go_wp2_with fail
    go_ret2
    exact ⟨_, rfl, HO.out, nextW hb hb2⟩

set_option maxHeartbeats 400000 in
theorem sSimpleMap_is (ps : List Pt) (v : Value) (l : List Pt) (t : Bool) (hl : simpleMapQ ps = (l, t)) (w : World) (hv : RdP w v ps) (hn : ps.length ≤ 1048576) :
    Calls Tryz.prog 6 #[v] w (RetPB w l t) := by
  have HV := Lib.hid hv
  rcases hm : okMap ps with _ | _
  · obtain ⟨rfl, rfl⟩ : [] = l ∧ false = t := by unfold simpleMapQ at hl; rw [if_neg (by rw [hm]; simp)] at hl; exact Prod.mk.inj hl
    have HM := Lib.hid hm
    clear hv hl hm
    go_enter Tryz.func6, Tryz.ntmps6
    go_wp2_with fail
    refine (imGood_is ps v false _ (HV.out.keep (by go_grown)) hn HM.out).mono ?_
    rintro e w1 ⟨rfl, hb⟩
    go_wp2_with fail
    go_ret2
    exact ⟨_, rfl, World.ownsRow_nil _ _ _ _, hb⟩
  · obtain ⟨rfl, rfl⟩ : simpleQ ps = l ∧ true = t := by unfold simpleMapQ at hl; rw [if_pos hm] at hl; exact Prod.mk.inj hl
    have HM := Lib.hid hm
    have hlen := okMap_len hm
    clear hv hl hm
    go_enter Tryz.func6, Tryz.ntmps6
    go_wp2_with fail
    refine (imGood_is ps v true _ (HV.out.keep (by go_grown)) hn HM.out).mono ?_
    rintro e w1 ⟨rfl, hb⟩
    have hz := hb.size
    go_wp2_with fail
    refine (imSimple_is ps v _ (HV.out.keep hb) (okMap_riseC HM.out) (by omega)).mono ?_
    rintro e w2 ⟨r, rfl, ow, hb2⟩
    have HO := Lib.hid (ow.low (b := w.heap.size) hz)
    clear ow
    go_wp2_with fail
    go_ret2
    exact ⟨_, rfl, HO.out, nextW hb hb2⟩

end Go.Proofs.YtkeajfgcjmhmiaaGreatDoor
