/- Orbits: the reference's orRun; isStart, orAsked; OrbitOf of both. -/
import Derived.Test.YtkdhhopfefhdjaaOrb1
namespace Go.Proofs.Ytkdhhopfefhdjaa
open Go.RowKit

def RelRun (ps : List Pt) (x : Q) (n h : Nat) (W0 : World) (out : Value) (wr : World) : Prop :=
  ∃ (k : Nat) (y : Q), k ≤ n ∧ (orbQ ps x k).length = k + 1 ∧ (orbQ ps x k)[k]? = some y ∧ OwQ (h + 1) 34 wr out (orbQ ps x k) ∧ Below h W0 wr

theorem atQ_yes {ps : List Pt} {x z : Q} (h : valQ ps x = (z, true)) : atQ ps x = (z.1, z.2, true) := by unfold atQ; rw [h]; rfl
theorem atQ_no {ps : List Pt} {x z : Q} (h : valQ ps x = (z, false)) : atQ ps x = (0, 0, false) := by unfold atQ; rw [h]; rfl

set_option maxHeartbeats 1600000 in
theorem orRun_is (ps : List Pt) (v : Value) (x1 x2 : Int) (n : Nat) (w : World) (hv : RdP w v ps) (hm : okMap ps = true) (hx : unitQ x1 x2 = true) (hn : n ≤ 60) :
    Calls Try.prog 92 #[v, .agg #[.int .i64 x1, .int .i64 x2], .int .i64 n] w (RetQ w (orbQ ps (x1, x2) n)) := by
  have HV := Lib.hid hv
  have HM := Lib.hid hm
  have HU := Lib.hid (orbQ_unit (x := (x1, x2)) hm hx)
  clear hv hm
  go_enter Try.func92, Try.ntmps92
  go_wp2_with fail
  go_name_world W0 hW
  have hB0 : Below w.heap.size w W0 := by rw [← hW]; go_grown
  have o0 : OwQ (w.heap.size + 1) 34 W0 (.slice (some ⟨w.heap.size + 1, 0, none⟩) 1 1) [(x1, x2)] := by
    rw [← hW]
    have h1 := OwQ.one (w.alloc (.cells #[.int .i64 x1, .int .i64 x2] 34)) (w.heap.size + 1) 34 x1 x2 (by simp)
    rw [World.size_alloc] at h1
    exact h1.keep (by go_grown)
  have HS0 := Lib.hid o0
  clear hW o0
  go_loopw [7] (fun out wr => RelRun ps (x1, x2) n w.heap.size W0 out wr) (fun out _ => n + 1 - lenOf out)
  case atStart => exact ⟨0, (x1, x2), Nat.zero_le _, rfl, rfl, HS0.out, Below.refl _ _⟩
  case round =>
    obtain ⟨k, ⟨y1, y2⟩, hk, hlen, hy, hown, hb⟩ := hrel
    obtain ⟨g, cap, rfl, hc1, hc2, hg1, hg2, hcell⟩ := hown.lit hlen (by omega)
    unfold maxLen at hc2
    obtain ⟨c0, c1⟩ := hcell k _ hy
    have HO := Lib.hid hown
    have HL := Lib.hid hlen
    have HY := Lib.hid hy
    have hu := HU.out k _ (List.mem_of_getElem? hy)
    clear hown hlen hy hcell
    by_cases hlt : k < n
    · rcases hz : valQ ps (y1, y2) with ⟨⟨z1, z2⟩, t⟩
      have HZ := Lib.hid hz
      have HUu := Lib.hid hu
      clear hz hu
      have b0 : ((k + 1 : Nat) : Int) ≤ (n : Int) := by omega
      have b1 : (k : Int) + 1 ≤ (n : Int) := by omega
      have b2 : ((k + 1 : Nat) : Int) - 1 = (k : Int) := by omega
      have b3 : (0 : Int) ≤ ((k + 1 : Nat) : Int) - 1 := by omega
      have b4 : ((k + 1 : Nat) : Int) - 1 < ((k + 1 : Nat) : Int) := by omega
      rcases t with _ | _
      · go_wp2_with fail
        refine (imAt_is ps v y1 y2 0 0 false _ (HV.out.keep (Below.trans hB0 hb)) HM.out HUu.out (atQ_no HZ.out)).mono ?_
        rintro e w1 ⟨rfl, hb1⟩
        have hz1 := hb1.size
        have HO1 := Lib.hid (HO.out.keep hb1)
        replace hb := Below.trans hb (hb1.mono (by omega))
        clear hb1 c0 c1 HO
        go_wp2_with fail
        go_ret
        refine ⟨_, rfl, ?_, Below.trans hB0 (Below.alloc hb (by omega) _)⟩
        rw [orbQ_stopped HL.out HY.out HZ.out hk]
        exact (HO1.out.keep (by go_grown)).low (by omega)
      · go_wp2_with fail
        refine (imAt_is ps v y1 y2 z1 z2 true _ (HV.out.keep (Below.trans hB0 hb)) HM.out HUu.out (atQ_yes HZ.out)).mono ?_
        rintro e w1 ⟨rfl, hb1⟩
        have hz1 := hb1.size
        have HO1 := Lib.hid (HO.out.keep hb1)
        replace hb := Below.trans hb (hb1.mono (by omega))
        clear hb1 c0 c1 HO
        go_wp2_with (at_builtin; refine append_q1g _ rfl _ _ rfl (w.heap.size + 1) _ (orbQ ps (x1, x2) k) rfl ?own _ _ z1 z2 rfl ?c0 ?c1 ?len ?base ?_)
        case own => exact HO1.out.keep (by go_grown)
        case c0 => simp [go_sem]
        case c1 => simp [go_sem]
        case len => rw [HL.out]; omega
        case base => go_size
        intro v' w' hown hg
        have hB : Below w.heap.size W0 w' := Below.grown (by go_grown) hg (by go_size) (fun k hk => Nat.le_of_succ_le (HO1.out.from hk))
        have HO2 := Lib.hid hown
        clear hown hg HO1 hb
        have hgo := orbQ_go HL.out HY.out HZ.out
        have hln : (orbQ ps (x1, x2) (k + 1)).length = k + 1 + 1 := by rw [hgo, List.length_append, HL.out]; rfl
        have hown : OwQ (w.heap.size + 1) 34 w' v' (orbQ ps (x1, x2) (k + 1)) := by rw [hgo]; exact HO2.out
        have hm1 : lenOf v' = k + 2 := by rw [OwQ.lenOf hown, hln]
        have HF := Lib.hid (And.intro hln (And.intro (show (orbQ ps (x1, x2) (k + 1))[k + 1]? = some (z1, z2) by rw [hgo]; exact append_last _ HL.out) (And.intro hown hm1)))
        clear hgo hln hown hm1
        go_wp2_with fail
        go_roundw
        case rel => exact ⟨k + 1, (z1, z2), by omega, HF.out.1, HF.out.2.1, HF.out.2.2.1, hB⟩
        case measure =>
          have := HF.out.2.2.2
          simp [lenOf] at *
          omega
    · obtain rfl : k = n := by omega
      have b0 : (k : Int) < ((k + 1 : Nat) : Int) := by omega
      go_wp2_with fail
      go_ret
      exact ⟨_, rfl, HO.out.low (by omega), Below.trans hB0 hb⟩

def isStartB (ps : List Pt) (x : Q) (n : Int) : Bool := okMap ps && (unitQ x.1 x.2 && decide (0 ≤ n ∧ n ≤ 60))

set_option maxHeartbeats 400000 in
theorem isStart_is (ps : List Pt) (v : Value) (x1 x2 n : Int) (t : Bool) (w : World) (hv : RdP w v ps) (hn : ps.length ≤ 1048576) (ht : isStartB ps (x1, x2) n = t) :
    Calls Try.prog 93 #[v, .agg #[.int .i64 x1, .int .i64 x2], .int .i64 n] w fun e w' => e = .returned (.bool t) ∧ Below w.heap.size w w' := by
  have HV := Lib.hid hv
  rcases hm : okMap ps with _ | _
  · obtain rfl : false = t := by rw [← ht]; unfold isStartB; rw [hm]; rfl
    have HM := Lib.hid hm
    clear hv ht hm
    go_enter Try.func93, Try.ntmps93
    go_wp2_with fail
    refine (isMap_is ps v false _ (HV.out.keep (by go_grown)) hn HM.out).mono ?_
    rintro e w1 ⟨rfl, hb⟩
    have hX : Below w.heap.size w w1 := nextX (by go_grown) hb
    clear hb
    go_wp2_with fail
    go_ret
    exact ⟨rfl, hX⟩
  · rcases hx : unitQ x1 x2 with _ | _
    · obtain rfl : false = t := by rw [← ht]; unfold isStartB; rw [hm]; simp only; rw [hx]; rfl
      have HM := Lib.hid hm
      have HX := Lib.hid hx
      clear hv ht hm hx
      go_enter Try.func93, Try.ntmps93
      go_wp2_with fail
      refine (isMap_is ps v true _ (HV.out.keep (by go_grown)) hn HM.out).mono ?_
      rintro e w1 ⟨rfl, hb⟩
      have hX : Below w.heap.size w w1 := nextX (by go_grown) hb
      have e0 : w1.cell? ⟨w.heap.size, 0, none⟩ = some (.int .i64 x1) := cellB hb (by simp [go_sem])
      have e1 : w1.cell? ⟨w.heap.size, 1, none⟩ = some (.int .i64 x2) := cellB hb (by simp [go_sem])
      clear hb
      go_wp2_with fail
      refine (isUnit_any x1 x2 _).mono ?_
      rintro e w2 ⟨he, hb⟩
      rw [HX.out] at he
      subst he
      replace hX := nextX hX hb
      clear hb e0 e1
      go_wp2_with fail
      go_ret
      exact ⟨rfl, hX⟩
    · have HM := Lib.hid hm
      have HX := Lib.hid hx
      have hd : decide (0 ≤ n ∧ n ≤ 60) = t := by rw [← ht]; unfold isStartB; rw [hm]; simp only; rw [hx]; rfl
      clear hv ht hm hx
      by_cases hr : 0 ≤ n ∧ n ≤ 60
      all_goals
        obtain rfl := (show _ = t from hd)
        first | simp only [hr, decide_true, and_self] | simp only [hr, decide_false] | skip
        go_enter Try.func93, Try.ntmps93
        go_wp2_with fail
        refine (isMap_is ps v true _ (HV.out.keep (by go_grown)) hn HM.out).mono ?_
        rintro e w1 ⟨rfl, hb⟩
        have hX : Below w.heap.size w w1 := nextX (by go_grown) hb
        have e0 : w1.cell? ⟨w.heap.size, 0, none⟩ = some (.int .i64 x1) := cellB hb (by simp [go_sem])
        have e1 : w1.cell? ⟨w.heap.size, 1, none⟩ = some (.int .i64 x2) := cellB hb (by simp [go_sem])
        clear hb
        go_wp2_with fail
        refine (isUnit_any x1 x2 _).mono ?_
        rintro e w2 ⟨he, hb⟩
        rw [HX.out] at he
        subst he
        replace hX := nextX hX hb
        clear hb e0 e1
        go_wp2_with fail
      · have : decide (0 ≤ n ∧ n ≤ 60) = true := by simpa using hr
        refine (within_yes n 0 60 (by omega) (by omega) _).mono ?_
        rintro e w3 ⟨rfl, rfl⟩
        go_wp2_with fail
        go_ret
        exact ⟨rfl, hX⟩
      · have : decide (0 ≤ n ∧ n ≤ 60) = false := by simpa using hr
        refine (within_no n 0 60 (by omega) _).mono ?_
        rintro e w3 ⟨rfl, rfl⟩
        go_wp2_with fail
        go_ret
        exact ⟨rfl, hX⟩

theorem orSteps_yes (n : Int) (h1 : 0 ≤ n) (h2 : n ≤ 60) (w : World) : Calls Try.prog 141 #[.int .i64 n] w fun e w' => e = .returned (.bool true) ∧ w' = w := by
  go_enter Try.func141, Try.ntmps141
  go_wp2_with fail
  refine (l1In_yes n 0 60 (by omega) (by omega) _).mono ?_
  rintro e w3 ⟨rfl, rfl⟩
  go_wp2_with fail
  go_ret
  exact ⟨rfl, rfl⟩
theorem orSteps_no (n : Int) (h : ¬ (0 ≤ n ∧ n ≤ 60)) (w : World) : Calls Try.prog 141 #[.int .i64 n] w fun e w' => e = .returned (.bool false) ∧ w' = w := by
  go_enter Try.func141, Try.ntmps141
  go_wp2_with fail
  refine (l1In_no n 0 60 (by omega) _).mono ?_
  rintro e w3 ⟨rfl, rfl⟩
  go_wp2_with fail
  go_ret
  exact ⟨rfl, rfl⟩

set_option maxHeartbeats 400000 in
theorem orAsked_is (ps : List Pt) (v : Value) (x1 x2 n : Int) (t : Bool) (w : World) (hv : RdP w v ps) (hn : ps.length ≤ 1048576) (ht : isStartB ps (x1, x2) n = t) :
    Calls Try.prog 91 #[v, .agg #[.int .i64 x1, .int .i64 x2], .int .i64 n] w fun e w' => e = .returned (.bool t) ∧ Below w.heap.size w w' := by
  have HV := Lib.hid hv
  rcases hm : okMap ps with _ | _
  · obtain rfl : false = t := by rw [← ht]; unfold isStartB; rw [hm]; rfl
    have HM := Lib.hid hm
    clear hv ht hm
    go_enter Try.func91, Try.ntmps91
    go_wp2_with fail
    refine (imGood_is ps v false _ (HV.out.keep (by go_grown)) hn HM.out).mono ?_
    rintro e w1 ⟨rfl, hb⟩
    have hX : Below w.heap.size w w1 := nextX (by go_grown) hb
    clear hb
    go_wp2_with fail
    go_ret
    exact ⟨rfl, hX⟩
  · rcases hx : unitQ x1 x2 with _ | _
    · obtain rfl : false = t := by rw [← ht]; unfold isStartB; rw [hm]; simp only; rw [hx]; rfl
      have HM := Lib.hid hm
      have HX := Lib.hid hx
      clear hv ht hm hx
      go_enter Try.func91, Try.ntmps91
      go_wp2_with fail
      refine (imGood_is ps v true _ (HV.out.keep (by go_grown)) hn HM.out).mono ?_
      rintro e w1 ⟨rfl, hb⟩
      have hX : Below w.heap.size w w1 := nextX (by go_grown) hb
      have e0 : w1.cell? ⟨w.heap.size, 0, none⟩ = some (.int .i64 x1) := cellB hb (by simp [go_sem])
      have e1 : w1.cell? ⟨w.heap.size, 1, none⟩ = some (.int .i64 x2) := cellB hb (by simp [go_sem])
      clear hb
      go_wp2_with fail
      refine (raUnit_any x1 x2 _).mono ?_
      rintro e w2 ⟨he, hb⟩
      rw [HX.out] at he
      subst he
      replace hX := nextX hX hb
      clear hb e0 e1
      go_wp2_with fail
      go_ret
      exact ⟨rfl, hX⟩
    · have HM := Lib.hid hm
      have HX := Lib.hid hx
      have hd : decide (0 ≤ n ∧ n ≤ 60) = t := by rw [← ht]; unfold isStartB; rw [hm]; simp only; rw [hx]; rfl
      clear hv ht hm hx
      by_cases hr : 0 ≤ n ∧ n ≤ 60
      all_goals
        obtain rfl := (show _ = t from hd)
        first | simp only [hr, decide_true, and_self] | simp only [hr, decide_false] | skip
        go_enter Try.func91, Try.ntmps91
        go_wp2_with fail
        refine (imGood_is ps v true _ (HV.out.keep (by go_grown)) hn HM.out).mono ?_
        rintro e w1 ⟨rfl, hb⟩
        have hX : Below w.heap.size w w1 := nextX (by go_grown) hb
        have e0 : w1.cell? ⟨w.heap.size, 0, none⟩ = some (.int .i64 x1) := cellB hb (by simp [go_sem])
        have e1 : w1.cell? ⟨w.heap.size, 1, none⟩ = some (.int .i64 x2) := cellB hb (by simp [go_sem])
        clear hb
        go_wp2_with fail
        refine (raUnit_any x1 x2 _).mono ?_
        rintro e w2 ⟨he, hb⟩
        rw [HX.out] at he
        subst he
        replace hX := nextX hX hb
        clear hb e0 e1
        go_wp2_with fail
      · have : decide (0 ≤ n ∧ n ≤ 60) = true := by simpa using hr
        refine (orSteps_yes n (by omega) (by omega) _).mono ?_
        rintro e w3 ⟨rfl, rfl⟩
        go_wp2_with fail
        go_ret
        exact ⟨rfl, hX⟩
      · have : decide (0 ≤ n ∧ n ≤ 60) = false := by simpa using hr
        refine (orSteps_no n (by omega) _).mono ?_
        rintro e w3 ⟨rfl, rfl⟩
        go_wp2_with fail
        go_ret
        exact ⟨rfl, hX⟩

end Go.Proofs.Ytkdhhopfefhdjaa
