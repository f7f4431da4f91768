/- OrbitOf, StepsInSize, IterateMap of both. -/
import Derived.Test.YtkdhhopfefhdjaaOrb2
namespace Go.Proofs.Ytkdhhopfefhdjaa
open Go.RowKit

/-- What OrbitOf gives. -/
def orbOf (ps : List Pt) (x : Q) (n : Int) : List Q × Bool := if isStartB ps x n = true ∧ (orbQ ps x n.toNat).length = n.toNat + 1 then (orbQ ps x n.toNat, true) else ([], false)
def stepsQ (ps : List Pt) (x : Q) (n : Int) : Int × Bool := if isStartB ps x n = true then (((orbQ ps x n.toNat).length : Int) - 1, true) else (0, false)
def iterQ (ps : List Pt) (x : Q) (n : Int) : Int × Int × Bool := if (orbOf ps x n).2 = true then (((orbOf ps x n).1.getD n.toNat (0, 0)).1, ((orbOf ps x n).1.getD n.toNat (0, 0)).2, true) else (0, 0, false)
theorem isStartB_parts {ps : List Pt} {x : Q} {n : Int} (h : isStartB ps x n = true) : okMap ps = true ∧ unitQ x.1 x.2 = true ∧ 0 ≤ n ∧ n ≤ 60 := by
  unfold isStartB at h; simp only [Bool.and_eq_true, decide_eq_true_eq] at h; exact ⟨h.1, h.2.1, h.2.2⟩
theorem orbOf_a {ps : List Pt} {x : Q} {n : Int} (h : isStartB ps x n = false) : orbOf ps x n = ([], false) := by unfold orbOf; rw [if_neg (by rw [h]; simp)]
theorem orbOf_b {ps : List Pt} {x : Q} {k : Nat} (h : isStartB ps x k = true) (hf : (orbQ ps x k).length = k + 1) : orbOf ps x k = (orbQ ps x k, true) := by unfold orbOf; rw [if_pos ⟨h, hf⟩]; rfl
theorem orbOf_c {ps : List Pt} {x : Q} {k : Nat} (hf : ¬ (orbQ ps x k).length = k + 1) : orbOf ps x k = ([], false) := by unfold orbOf; rw [if_neg (by intro hh; exact hf hh.2)]
theorem orbOf_yes {ps : List Pt} {x : Q} {n : Int} {l : List Q} (h : orbOf ps x n = (l, true)) : ∃ k : Nat, n = k ∧ l.length = k + 1 ∧ k ≤ 60 := by
  unfold orbOf at h
  split at h
  · rename_i hh
    obtain ⟨-, -, h1, h2⟩ := isStartB_parts hh.1
    obtain ⟨k, rfl⟩ := Int.eq_ofNat_of_zero_le h1
    obtain ⟨rfl, -⟩ := Prod.mk.inj h
    exact ⟨k, rfl, by simpa using hh.2, by omega⟩
  · simp at h
theorem orbOf_no {ps : List Pt} {x : Q} {n : Int} {l : List Q} (h : orbOf ps x n = (l, false)) : l = [] := by
  unfold orbOf at h
  split at h
  · simp at h
  · simp at h; exact h
theorem orbOf_len {ps : List Pt} {x : Q} {n : Int} {l : List Q} {t : Bool} (h : orbOf ps x n = (l, t)) : l.length ≤ 1048576 := by
  cases t
  · rw [orbOf_no h]; simp
  · obtain ⟨k, -, h1, h2⟩ := orbOf_yes h; omega
theorem orbOf_unit {ps : List Pt} {x : Q} {n : Int} {l : List Q} {t : Bool} (h : orbOf ps x n = (l, t)) : ∀ y ∈ l, unitQ y.1 y.2 = true := by
  unfold orbOf at h
  split at h
  · rename_i hh
    obtain ⟨h1, h2, -, -⟩ := isStartB_parts hh.1
    obtain ⟨rfl, -⟩ := Prod.mk.inj h
    exact orbQ_unit h1 h2 _
  · obtain ⟨rfl, -⟩ := Prod.mk.inj h; simp

set_option maxHeartbeats 800000 in
theorem iOrbitOf_is (ps : List Pt) (v : Value) (x1 x2 n : Int) (l : List Q) (t : Bool) (hl : orbOf ps (x1, x2) n = (l, t)) (w : World) (hv : RdP w v ps) (hn : ps.length ≤ 1048576) :
    Calls Try.prog 66 #[v, .agg #[.int .i64 x1, .int .i64 x2], .int .i64 n] w (RetQB w l t) := by
  rcases hs : isStartB ps (x1, x2) n with _ | _
  · have HS := Lib.hid hs
    have HV := Lib.hid hv
    obtain ⟨rfl, rfl⟩ : [] = l ∧ false = t := by unfold orbOf at hl; rw [if_neg (by rw [hs]; simp)] at hl; exact Prod.mk.inj hl
    clear hl
    clear hs hv
    go_enter Try.func66, Try.ntmps66
    go_wp2_with fail
    refine (isStart_is ps v x1 x2 n false _ (HV.out.keep (by go_grown)) hn HS.out).mono ?_
    rintro e w1 ⟨rfl, hb⟩
    have hX : Below w.heap.size w w1 := nextX (by go_grown) hb
    have b00 : w1.cell? ⟨w.heap.size, 0, none⟩ = some (.int .i64 x1) := cellB hb (by simp [go_sem])
    have b01 : w1.cell? ⟨w.heap.size, 1, none⟩ = some (.int .i64 x2) := cellB hb (by simp [go_sem])
    have zb00 := lt_of_cell b00
    have hB : Below w.heap.size w w1 := hX
    clear hb hX
    go_wp2_with fail
    go_ret2
    exact ⟨_, rfl, World.ownsRow_nil _ _ _ _, hB⟩
  · have hm : okMap ps = true := by unfold isStartB at hs; simp only [Bool.and_eq_true] at hs; exact hs.1
    have hx : unitQ x1 x2 = true := by unfold isStartB at hs; simp only [Bool.and_eq_true] at hs; exact hs.2.1
    have h60 : 0 ≤ n ∧ n ≤ 60 := by unfold isStartB at hs; simp only [Bool.and_eq_true, decide_eq_true_eq] at hs; exact hs.2.2
    obtain ⟨k, rfl⟩ := Int.eq_ofNat_of_zero_le h60.1
    have hk : k ≤ 60 := by omega
    have hlen := orbQ_len ps (x1, x2) k
    have HS := Lib.hid hs
    have HV := Lib.hid hv
    have HM := Lib.hid hm
    have HX := Lib.hid hx
    by_cases hf : (orbQ ps (x1, x2) k).length = k + 1
    · have HF := Lib.hid hf
      obtain ⟨rfl, rfl⟩ : orbQ ps (x1, x2) k = l ∧ true = t := by unfold orbOf at hl; rw [if_pos ⟨hs, hf⟩] at hl; exact Prod.mk.inj hl
      clear hl
      clear hs hm hx hv h60 hlen
      go_enter Try.func66, Try.ntmps66
      go_wp2_with fail
      refine (isStart_is ps v x1 x2 k true _ (HV.out.keep (by go_grown)) hn HS.out).mono ?_
      rintro e w1 ⟨rfl, hb⟩
      have hX : Below w.heap.size w w1 := nextX (by go_grown) hb
      have b00 : w1.cell? ⟨w.heap.size, 0, none⟩ = some (.int .i64 x1) := cellB hb (by simp [go_sem])
      have b01 : w1.cell? ⟨w.heap.size, 1, none⟩ = some (.int .i64 x2) := cellB hb (by simp [go_sem])
      have zb00 := lt_of_cell b00
      have hB : Below w.heap.size w w1 := hX
      clear hb hX
      go_wp2_with fail
      refine (orbit_is ps v x1 x2 k _ (HV.out.keep (nextW hB (by go_grown))) HM.out HX.out hk).mono ?_
      rintro e w2 ⟨r, rfl, ow, hb⟩
      have hX : Below w1.heap.size w1 w2 := nextX (by go_grown) hb
      replace b00 := cellB hX b00
      replace b01 := cellB hX b01
      have zb00 := Nat.lt_of_lt_of_le zb00 hX.size
      replace hB := nextW hB hX
      clear hb hX
      obtain ⟨g, cap, rfl, hc1, hc2, hg1, hg2, hcell⟩ := ow.lit HF.out (by omega)
      unfold maxLen at hc2
      have HC := Lib.hid hcell
      have HO := Lib.hid ow
      clear hcell ow
      have b0 : (k : Int) < ((k + 1 : Nat) : Int) := by omega
      have HO2 := Lib.hid (HO.out.low (b := w.heap.size) (by omega))
      go_wp2_with fail
      go_ret2
      exact ⟨_, rfl, HO2.out, hB⟩
    · have HF := Lib.hid hf
      obtain ⟨rfl, rfl⟩ : [] = l ∧ false = t := by unfold orbOf at hl; rw [if_neg (by intro hh; exact hf hh.2)] at hl; exact Prod.mk.inj hl
      clear hl
      clear hs hm hx hv h60
      go_enter Try.func66, Try.ntmps66
      go_wp2_with fail
      refine (isStart_is ps v x1 x2 k true _ (HV.out.keep (by go_grown)) hn HS.out).mono ?_
      rintro e w1 ⟨rfl, hb⟩
      have hX : Below w.heap.size w w1 := nextX (by go_grown) hb
      have b00 : w1.cell? ⟨w.heap.size, 0, none⟩ = some (.int .i64 x1) := cellB hb (by simp [go_sem])
      have b01 : w1.cell? ⟨w.heap.size, 1, none⟩ = some (.int .i64 x2) := cellB hb (by simp [go_sem])
      have zb00 := lt_of_cell b00
      have hB : Below w.heap.size w w1 := hX
      clear hb hX
      go_wp2_with fail
      refine (orbit_is ps v x1 x2 k _ (HV.out.keep (nextW hB (by go_grown))) HM.out HX.out hk).mono ?_
      rintro e w2 ⟨r, rfl, ow, hb⟩
      have hX : Below w1.heap.size w1 w2 := nextX (by go_grown) hb
      replace b00 := cellB hX b00
      replace b01 := cellB hX b01
      have zb00 := Nat.lt_of_lt_of_le zb00 hX.size
      replace hB := nextW hB hX
      clear hb hX
      obtain ⟨m, hm⟩ : ∃ m, (orbQ ps (x1, x2) k).length = m := ⟨_, rfl⟩
      rw [hm] at hlen
      have hmk : m ≤ k := by have := HF.out; omega
      obtain ⟨g, cap, rfl, hc1, hc2, hg1, hg2, hcell⟩ := ow.lit hm (by omega)
      unfold maxLen at hc2
      clear hcell ow hm
      have b0 : (m : Int) ≤ (k : Int) := by omega
      go_wp2_with fail
      go_ret2
      exact ⟨_, rfl, World.ownsRow_nil _ _ _ _, hB⟩


set_option maxHeartbeats 800000 in
theorem sOrbitOf_is (ps : List Pt) (v : Value) (x1 x2 n : Int) (l : List Q) (t : Bool) (hl : orbOf ps (x1, x2) n = (l, t)) (w : World) (hv : RdP w v ps) (hn : ps.length ≤ 1048576) :
    Calls Try.prog 65 #[v, .agg #[.int .i64 x1, .int .i64 x2], .int .i64 n] w (RetQB w l t) := by
  rcases hs : isStartB ps (x1, x2) n with _ | _
  · have HS := Lib.hid hs
    have HV := Lib.hid hv
    obtain ⟨rfl, rfl⟩ : [] = l ∧ false = t := by unfold orbOf at hl; rw [if_neg (by rw [hs]; simp)] at hl; exact Prod.mk.inj hl
    clear hl
    clear hs hv
    go_enter Try.func65, Try.ntmps65
    go_wp2_with fail
    refine (orAsked_is ps v x1 x2 n false _ (HV.out.keep (by go_grown)) hn HS.out).mono ?_
    rintro e w1 ⟨rfl, hb⟩
    have hX : Below w.heap.size w w1 := nextX (by go_grown) hb
    have b00 : w1.cell? ⟨w.heap.size, 0, none⟩ = some (.int .i64 x1) := cellB hb (by simp [go_sem])
    have b01 : w1.cell? ⟨w.heap.size, 1, none⟩ = some (.int .i64 x2) := cellB hb (by simp [go_sem])
    have zb00 := lt_of_cell b00
    have hB : Below w.heap.size w w1 := hX
    clear hb hX
    go_wp2_with fail
    go_ret2
    exact ⟨_, rfl, World.ownsRow_nil _ _ _ _, hB⟩
  · have hm : okMap ps = true := by unfold isStartB at hs; simp only [Bool.and_eq_true] at hs; exact hs.1
    have hx : unitQ x1 x2 = true := by unfold isStartB at hs; simp only [Bool.and_eq_true] at hs; exact hs.2.1
    have h60 : 0 ≤ n ∧ n ≤ 60 := by unfold isStartB at hs; simp only [Bool.and_eq_true, decide_eq_true_eq] at hs; exact hs.2.2
    obtain ⟨k, rfl⟩ := Int.eq_ofNat_of_zero_le h60.1
    have hk : k ≤ 60 := by omega
    have hlen := orbQ_len ps (x1, x2) k
    have HS := Lib.hid hs
    have HV := Lib.hid hv
    have HM := Lib.hid hm
    have HX := Lib.hid hx
    by_cases hf : (orbQ ps (x1, x2) k).length = k + 1
    · have HF := Lib.hid hf
      obtain ⟨rfl, rfl⟩ : orbQ ps (x1, x2) k = l ∧ true = t := by unfold orbOf at hl; rw [if_pos ⟨hs, hf⟩] at hl; exact Prod.mk.inj hl
      clear hl
      clear hs hm hx hv h60 hlen
      go_enter Try.func65, Try.ntmps65
      go_wp2_with fail
      refine (orAsked_is ps v x1 x2 k true _ (HV.out.keep (by go_grown)) hn HS.out).mono ?_
      rintro e w1 ⟨rfl, hb⟩
      have hX : Below w.heap.size w w1 := nextX (by go_grown) hb
      have b00 : w1.cell? ⟨w.heap.size, 0, none⟩ = some (.int .i64 x1) := cellB hb (by simp [go_sem])
      have b01 : w1.cell? ⟨w.heap.size, 1, none⟩ = some (.int .i64 x2) := cellB hb (by simp [go_sem])
      have zb00 := lt_of_cell b00
      have hB : Below w.heap.size w w1 := hX
      clear hb hX
      go_wp2_with fail
      refine (orRun_is ps v x1 x2 k _ (HV.out.keep (nextW hB (by go_grown))) HM.out HX.out hk).mono ?_
      rintro e w2 ⟨r, rfl, ow, hb⟩
      have hX : Below w1.heap.size w1 w2 := nextX (by go_grown) hb
      replace b00 := cellB hX b00
      replace b01 := cellB hX b01
      have zb00 := Nat.lt_of_lt_of_le zb00 hX.size
      replace hB := nextW hB hX
      clear hb hX
      obtain ⟨g, cap, rfl, hc1, hc2, hg1, hg2, hcell⟩ := ow.lit HF.out (by omega)
      unfold maxLen at hc2
      have HC := Lib.hid hcell
      have HO := Lib.hid ow
      clear hcell ow
      have b0 : (k : Int) < ((k + 1 : Nat) : Int) := by omega
      have HO2 := Lib.hid (HO.out.low (b := w.heap.size) (by omega))
      go_wp2_with fail
      go_ret2
      exact ⟨_, rfl, HO2.out, hB⟩
    · have HF := Lib.hid hf
      obtain ⟨rfl, rfl⟩ : [] = l ∧ false = t := by unfold orbOf at hl; rw [if_neg (by intro hh; exact hf hh.2)] at hl; exact Prod.mk.inj hl
      clear hl
      clear hs hm hx hv h60
      go_enter Try.func65, Try.ntmps65
      go_wp2_with fail
      refine (orAsked_is ps v x1 x2 k true _ (HV.out.keep (by go_grown)) hn HS.out).mono ?_
      rintro e w1 ⟨rfl, hb⟩
      have hX : Below w.heap.size w w1 := nextX (by go_grown) hb
      have b00 : w1.cell? ⟨w.heap.size, 0, none⟩ = some (.int .i64 x1) := cellB hb (by simp [go_sem])
      have b01 : w1.cell? ⟨w.heap.size, 1, none⟩ = some (.int .i64 x2) := cellB hb (by simp [go_sem])
      have zb00 := lt_of_cell b00
      have hB : Below w.heap.size w w1 := hX
      clear hb hX
      go_wp2_with fail
      refine (orRun_is ps v x1 x2 k _ (HV.out.keep (nextW hB (by go_grown))) HM.out HX.out hk).mono ?_
      rintro e w2 ⟨r, rfl, ow, hb⟩
      have hX : Below w1.heap.size w1 w2 := nextX (by go_grown) hb
      replace b00 := cellB hX b00
      replace b01 := cellB hX b01
      have zb00 := Nat.lt_of_lt_of_le zb00 hX.size
      replace hB := nextW hB hX
      clear hb hX
      obtain ⟨m, hm⟩ : ∃ m, (orbQ ps (x1, x2) k).length = m := ⟨_, rfl⟩
      rw [hm] at hlen
      have hmk : m ≤ k := by have := HF.out; omega
      obtain ⟨g, cap, rfl, hc1, hc2, hg1, hg2, hcell⟩ := ow.lit hm (by omega)
      unfold maxLen at hc2
      clear hcell ow hm
      have b0 : (m : Int) ≤ (k : Int) := by omega
      go_wp2_with fail
      go_ret2
      exact ⟨_, rfl, World.ownsRow_nil _ _ _ _, hB⟩


set_option maxHeartbeats 800000 in
theorem iStepsInSize_is (ps : List Pt) (v : Value) (x1 x2 n : Int) (k0 : Int) (t : Bool) (hl : stepsQ ps (x1, x2) n = (k0, t)) (w : World) (hv : RdP w v ps) (hn : ps.length ≤ 1048576) :
    Calls Try.prog 45 #[v, .agg #[.int .i64 x1, .int .i64 x2], .int .i64 n] w fun e w' => e = .returned (.tuple #[.int .i64 k0, .bool t]) ∧ Below w.heap.size w w' := by
  rcases hs : isStartB ps (x1, x2) n with _ | _
  · have HS := Lib.hid hs
    have HV := Lib.hid hv
    obtain ⟨rfl, rfl⟩ : 0 = k0 ∧ false = t := by unfold stepsQ at hl; rw [if_neg (by rw [hs]; simp)] at hl; exact Prod.mk.inj hl
    clear hs hv hl
    go_enter Try.func45, Try.ntmps45
    go_wp2_with fail
    refine (isStart_is ps v x1 x2 n false _ (HV.out.keep (by go_grown)) hn HS.out).mono ?_
    rintro e w1 ⟨rfl, hb⟩
    have hX : Below w.heap.size w w1 := nextX (by go_grown) hb
    have b00 : w1.cell? ⟨w.heap.size, 0, none⟩ = some (.int .i64 x1) := cellB hb (by simp [go_sem])
    have b01 : w1.cell? ⟨w.heap.size, 1, none⟩ = some (.int .i64 x2) := cellB hb (by simp [go_sem])
    have zb00 := lt_of_cell b00
    have hB : Below w.heap.size w w1 := hX
    clear hb hX
    go_wp2_with fail
    go_ret2
    exact ⟨rfl, hB⟩
  · have hm : okMap ps = true := by unfold isStartB at hs; simp only [Bool.and_eq_true] at hs; exact hs.1
    have hx : unitQ x1 x2 = true := by unfold isStartB at hs; simp only [Bool.and_eq_true] at hs; exact hs.2.1
    have h60 : 0 ≤ n ∧ n ≤ 60 := by unfold isStartB at hs; simp only [Bool.and_eq_true, decide_eq_true_eq] at hs; exact hs.2.2
    obtain ⟨k, rfl⟩ := Int.eq_ofNat_of_zero_le h60.1
    have hk : k ≤ 60 := by omega
    have hlen := orbQ_len ps (x1, x2) k
    have HS := Lib.hid hs
    have HV := Lib.hid hv
    have HM := Lib.hid hm
    have HX := Lib.hid hx
    obtain ⟨rfl, rfl⟩ : ((orbQ ps (x1, x2) k).length : Int) - 1 = k0 ∧ true = t := by unfold stepsQ at hl; rw [if_pos hs] at hl; exact Prod.mk.inj hl
    clear hs hm hx hv h60 hl
    go_enter Try.func45, Try.ntmps45
    go_wp2_with fail
    refine (isStart_is ps v x1 x2 k true _ (HV.out.keep (by go_grown)) hn HS.out).mono ?_
    rintro e w1 ⟨rfl, hb⟩
    have hX : Below w.heap.size w w1 := nextX (by go_grown) hb
    have b00 : w1.cell? ⟨w.heap.size, 0, none⟩ = some (.int .i64 x1) := cellB hb (by simp [go_sem])
    have b01 : w1.cell? ⟨w.heap.size, 1, none⟩ = some (.int .i64 x2) := cellB hb (by simp [go_sem])
    have zb00 := lt_of_cell b00
    have hB : Below w.heap.size w w1 := hX
    clear hb hX
    go_wp2_with fail
    refine (orbit_is ps v x1 x2 k _ (HV.out.keep (nextW hB (by go_grown))) HM.out HX.out hk).mono ?_
    rintro e w2 ⟨r, rfl, ow, hb⟩
    have hX : Below w1.heap.size w1 w2 := nextX (by go_grown) hb
    replace b00 := cellB hX b00
    replace b01 := cellB hX b01
    have zb00 := Nat.lt_of_lt_of_le zb00 hX.size
    replace hB := nextW hB hX
    clear hb hX
    obtain ⟨m, hmm⟩ : ∃ m, (orbQ ps (x1, x2) k).length = m := ⟨_, rfl⟩
    rw [hmm] at hlen
    have HMM := Lib.hid hmm
    obtain ⟨g, cap, rfl, hc1, hc2, hg1, hg2, hcell⟩ := ow.lit hmm (by omega)
    unfold maxLen at hc2
    clear hcell ow hmm
    go_wp2_with fail
    go_ret2
    exact ⟨by rw [HMM.out]; rfl, hB⟩


set_option maxHeartbeats 800000 in
theorem sStepsInSize_is (ps : List Pt) (v : Value) (x1 x2 n : Int) (k0 : Int) (t : Bool) (hl : stepsQ ps (x1, x2) n = (k0, t)) (w : World) (hv : RdP w v ps) (hn : ps.length ≤ 1048576) :
    Calls Try.prog 44 #[v, .agg #[.int .i64 x1, .int .i64 x2], .int .i64 n] w fun e w' => e = .returned (.tuple #[.int .i64 k0, .bool t]) ∧ Below w.heap.size w w' := by
  rcases hs : isStartB ps (x1, x2) n with _ | _
  · have HS := Lib.hid hs
    have HV := Lib.hid hv
    obtain ⟨rfl, rfl⟩ : 0 = k0 ∧ false = t := by unfold stepsQ at hl; rw [if_neg (by rw [hs]; simp)] at hl; exact Prod.mk.inj hl
    clear hs hv hl
    go_enter Try.func44, Try.ntmps44
    go_wp2_with fail
    refine (orAsked_is ps v x1 x2 n false _ (HV.out.keep (by go_grown)) hn HS.out).mono ?_
    rintro e w1 ⟨rfl, hb⟩
    have hX : Below w.heap.size w w1 := nextX (by go_grown) hb
    have b00 : w1.cell? ⟨w.heap.size, 0, none⟩ = some (.int .i64 x1) := cellB hb (by simp [go_sem])
    have b01 : w1.cell? ⟨w.heap.size, 1, none⟩ = some (.int .i64 x2) := cellB hb (by simp [go_sem])
    have zb00 := lt_of_cell b00
    have hB : Below w.heap.size w w1 := hX
    clear hb hX
    go_wp2_with fail
    go_ret2
    exact ⟨rfl, hB⟩
  · have hm : okMap ps = true := by unfold isStartB at hs; simp only [Bool.and_eq_true] at hs; exact hs.1
    have hx : unitQ x1 x2 = true := by unfold isStartB at hs; simp only [Bool.and_eq_true] at hs; exact hs.2.1
    have h60 : 0 ≤ n ∧ n ≤ 60 := by unfold isStartB at hs; simp only [Bool.and_eq_true, decide_eq_true_eq] at hs; exact hs.2.2
    obtain ⟨k, rfl⟩ := Int.eq_ofNat_of_zero_le h60.1
    have hk : k ≤ 60 := by omega
    have hlen := orbQ_len ps (x1, x2) k
    have HS := Lib.hid hs
    have HV := Lib.hid hv
    have HM := Lib.hid hm
    have HX := Lib.hid hx
    obtain ⟨rfl, rfl⟩ : ((orbQ ps (x1, x2) k).length : Int) - 1 = k0 ∧ true = t := by unfold stepsQ at hl; rw [if_pos hs] at hl; exact Prod.mk.inj hl
    clear hs hm hx hv h60 hl
    go_enter Try.func44, Try.ntmps44
    go_wp2_with fail
    refine (orAsked_is ps v x1 x2 k true _ (HV.out.keep (by go_grown)) hn HS.out).mono ?_
    rintro e w1 ⟨rfl, hb⟩
    have hX : Below w.heap.size w w1 := nextX (by go_grown) hb
    have b00 : w1.cell? ⟨w.heap.size, 0, none⟩ = some (.int .i64 x1) := cellB hb (by simp [go_sem])
    have b01 : w1.cell? ⟨w.heap.size, 1, none⟩ = some (.int .i64 x2) := cellB hb (by simp [go_sem])
    have zb00 := lt_of_cell b00
    have hB : Below w.heap.size w w1 := hX
    clear hb hX
    go_wp2_with fail
    refine (orRun_is ps v x1 x2 k _ (HV.out.keep (nextW hB (by go_grown))) HM.out HX.out hk).mono ?_
    rintro e w2 ⟨r, rfl, ow, hb⟩
    have hX : Below w1.heap.size w1 w2 := nextX (by go_grown) hb
    replace b00 := cellB hX b00
    replace b01 := cellB hX b01
    have zb00 := Nat.lt_of_lt_of_le zb00 hX.size
    replace hB := nextW hB hX
    clear hb hX
    obtain ⟨m, hmm⟩ : ∃ m, (orbQ ps (x1, x2) k).length = m := ⟨_, rfl⟩
    rw [hmm] at hlen
    have HMM := Lib.hid hmm
    obtain ⟨g, cap, rfl, hc1, hc2, hg1, hg2, hcell⟩ := ow.lit hmm (by omega)
    unfold maxLen at hc2
    clear hcell ow hmm
    go_wp2_with fail
    go_ret2
    exact ⟨by rw [HMM.out]; rfl, hB⟩


set_option maxHeartbeats 800000 in
theorem sIterateMap_is (ps : List Pt) (v : Value) (x1 x2 n : Int) (a b : Int) (t : Bool) (hl : iterQ ps (x1, x2) n = (a, b, t)) (w : World) (hv : RdP w v ps) (hn : ps.length ≤ 1048576) :
    Calls Try.prog 46 #[v, .agg #[.int .i64 x1, .int .i64 x2], .int .i64 n] w (LowEnd a b t w) := by
  rcases hs : isStartB ps (x1, x2) n with _ | _
  · have HS := Lib.hid hs
    have HV := Lib.hid hv
    have ho := orbOf_a hs
    obtain ⟨rfl, rfl, rfl⟩ : 0 = a ∧ 0 = b ∧ false = t := by unfold iterQ at hl; rw [ho] at hl; simpa using hl
    clear ho
    clear hl
    clear hs hv
    go_enter Try.func46, Try.ntmps46
    go_wp2_with fail
    refine (orAsked_is ps v x1 x2 n false _ (HV.out.keep (by go_grown)) hn HS.out).mono ?_
    rintro e w1 ⟨rfl, hb⟩
    have hX : Below w.heap.size w w1 := nextX (by go_grown) hb
    have b00 : w1.cell? ⟨w.heap.size, 0, none⟩ = some (.int .i64 x1) := cellB hb (by simp [go_sem])
    have b01 : w1.cell? ⟨w.heap.size, 1, none⟩ = some (.int .i64 x2) := cellB hb (by simp [go_sem])
    have r10 : Slot w1 (w.heap.size + 1) 0 (.int .i64 0) := slotB hb ⟨by simp [go_sem], by simp [go_sem]⟩
    have r11 : Slot w1 (w.heap.size + 1) 1 (.int .i64 0) := slotB hb ⟨by simp [go_sem], by simp [go_sem]⟩
    have zb00 := lt_of_cell b00
    have zr10 := lt_of_cell r10.1
    have hB : Below w.heap.size w w1 := hX
    clear hb hX
    obtain ⟨q0, k0⟩ := r10
    obtain ⟨q1, k1⟩ := r11
    go_wp2_with fail
    refine bodyPost_ret (v := .tuple #[.agg #[.int .i64 0, .int .i64 0], .bool false]) (by first | (simp [results, Try.results46, go_sem, q0, q1]; done) | (simp [results, Try.results46, go_sem, q0, q1, zr10]; done)) rfl ⟨rfl, ?_⟩
    go_grown
  · have hm : okMap ps = true := by unfold isStartB at hs; simp only [Bool.and_eq_true] at hs; exact hs.1
    have hx : unitQ x1 x2 = true := by unfold isStartB at hs; simp only [Bool.and_eq_true] at hs; exact hs.2.1
    have h60 : 0 ≤ n ∧ n ≤ 60 := by unfold isStartB at hs; simp only [Bool.and_eq_true, decide_eq_true_eq] at hs; exact hs.2.2
    obtain ⟨k, rfl⟩ := Int.eq_ofNat_of_zero_le h60.1
    have hk : k ≤ 60 := by omega
    have hlen := orbQ_len ps (x1, x2) k
    have HS := Lib.hid hs
    have HV := Lib.hid hv
    have HM := Lib.hid hm
    have HX := Lib.hid hx
    by_cases hf : (orbQ ps (x1, x2) k).length = k + 1
    · have HF := Lib.hid hf
      have ho := orbOf_b hs hf
      obtain ⟨⟨a1, a2⟩, hq⟩ : ∃ q, (orbQ ps (x1, x2) k)[k]? = some q := ⟨_, List.getElem?_eq_getElem (by omega)⟩
      obtain ⟨rfl, rfl, rfl⟩ : a1 = a ∧ a2 = b ∧ true = t := by unfold iterQ at hl; rw [ho] at hl; simp only [if_true, List.getD_eq_getElem?_getD, Int.toNat_natCast, hq, Option.getD_some] at hl; simpa using hl
      have HQ := Lib.hid hq
      clear hq ho
      clear hl
      clear hs hm hx hv h60 hlen
      go_enter Try.func46, Try.ntmps46
      go_wp2_with fail
      refine (orAsked_is ps v x1 x2 k true _ (HV.out.keep (by go_grown)) hn HS.out).mono ?_
      rintro e w1 ⟨rfl, hb⟩
      have hX : Below w.heap.size w w1 := nextX (by go_grown) hb
      have b00 : w1.cell? ⟨w.heap.size, 0, none⟩ = some (.int .i64 x1) := cellB hb (by simp [go_sem])
      have b01 : w1.cell? ⟨w.heap.size, 1, none⟩ = some (.int .i64 x2) := cellB hb (by simp [go_sem])
      have r10 : Slot w1 (w.heap.size + 1) 0 (.int .i64 0) := slotB hb ⟨by simp [go_sem], by simp [go_sem]⟩
      have r11 : Slot w1 (w.heap.size + 1) 1 (.int .i64 0) := slotB hb ⟨by simp [go_sem], by simp [go_sem]⟩
      have zb00 := lt_of_cell b00
      have zr10 := lt_of_cell r10.1
      have hB : Below w.heap.size w w1 := hX
      clear hb hX
      go_wp2_with fail
      refine (orRun_is ps v x1 x2 k _ (HV.out.keep (nextW hB (by go_grown))) HM.out HX.out hk).mono ?_
      rintro e w2 ⟨r, rfl, ow, hb⟩
      have hX : Below w1.heap.size w1 w2 := nextX (by go_grown) hb
      replace b00 := cellB hX b00
      replace b01 := cellB hX b01
      replace r10 := slotB hX r10
      replace r11 := slotB hX r11
      have zb00 := Nat.lt_of_lt_of_le zb00 hX.size
      have zr10 := Nat.lt_of_lt_of_le zr10 hX.size
      replace hB := nextW hB hX
      clear hb hX
      obtain ⟨g, cap, rfl, hc1, hc2, hg1, hg2, hcell⟩ := ow.lit HF.out (by omega)
      unfold maxLen at hc2
      have HC := Lib.hid hcell
      have HO := Lib.hid ow
      clear hcell ow
      have b0 : (k : Int) < ((k + 1 : Nat) : Int) := by omega
      obtain ⟨c0, c1⟩ := HC.out _ _ HQ.out
      have b1 : (0 : Int) ≤ (k : Int) := by omega
      have b2 : ((k : Int)).toNat = k := by omega
      obtain ⟨q0, k0⟩ := r10
      obtain ⟨q1, k1⟩ := r11
      go_wp2_with fail
      refine bodyPost_ret (v := .tuple #[.agg #[.int .i64 a1, .int .i64 a2], .bool true]) (by first | (simp [results, Try.results46, go_sem, q0, q1]; done) | (simp [results, Try.results46, go_sem, q0, q1, zr10]; done)) rfl ⟨rfl, ?_⟩
      go_grown
    · have HF := Lib.hid hf
      have ho := orbOf_c hf
      obtain ⟨rfl, rfl, rfl⟩ : 0 = a ∧ 0 = b ∧ false = t := by unfold iterQ at hl; rw [ho] at hl; simpa using hl
      clear ho
      clear hl
      clear hs hm hx hv h60
      go_enter Try.func46, Try.ntmps46
      go_wp2_with fail
      refine (orAsked_is ps v x1 x2 k true _ (HV.out.keep (by go_grown)) hn HS.out).mono ?_
      rintro e w1 ⟨rfl, hb⟩
      have hX : Below w.heap.size w w1 := nextX (by go_grown) hb
      have b00 : w1.cell? ⟨w.heap.size, 0, none⟩ = some (.int .i64 x1) := cellB hb (by simp [go_sem])
      have b01 : w1.cell? ⟨w.heap.size, 1, none⟩ = some (.int .i64 x2) := cellB hb (by simp [go_sem])
      have r10 : Slot w1 (w.heap.size + 1) 0 (.int .i64 0) := slotB hb ⟨by simp [go_sem], by simp [go_sem]⟩
      have r11 : Slot w1 (w.heap.size + 1) 1 (.int .i64 0) := slotB hb ⟨by simp [go_sem], by simp [go_sem]⟩
      have zb00 := lt_of_cell b00
      have zr10 := lt_of_cell r10.1
      have hB : Below w.heap.size w w1 := hX
      clear hb hX
      go_wp2_with fail
      refine (orRun_is ps v x1 x2 k _ (HV.out.keep (nextW hB (by go_grown))) HM.out HX.out hk).mono ?_
      rintro e w2 ⟨r, rfl, ow, hb⟩
      have hX : Below w1.heap.size w1 w2 := nextX (by go_grown) hb
      replace b00 := cellB hX b00
      replace b01 := cellB hX b01
      replace r10 := slotB hX r10
      replace r11 := slotB hX r11
      have zb00 := Nat.lt_of_lt_of_le zb00 hX.size
      have zr10 := Nat.lt_of_lt_of_le zr10 hX.size
      replace hB := nextW hB hX
      clear hb hX
      obtain ⟨m, hm⟩ : ∃ m, (orbQ ps (x1, x2) k).length = m := ⟨_, rfl⟩
      rw [hm] at hlen
      have hmk : m ≤ k := by have := HF.out; omega
      obtain ⟨g, cap, rfl, hc1, hc2, hg1, hg2, hcell⟩ := ow.lit hm (by omega)
      unfold maxLen at hc2
      clear hcell ow hm
      have b0 : (m : Int) ≤ (k : Int) := by omega
      obtain ⟨q0, k0⟩ := r10
      obtain ⟨q1, k1⟩ := r11
      go_wp2_with fail
      refine bodyPost_ret (v := .tuple #[.agg #[.int .i64 0, .int .i64 0], .bool false]) (by first | (simp [results, Try.results46, go_sem, q0, q1]; done) | (simp [results, Try.results46, go_sem, q0, q1, zr10]; done)) rfl ⟨rfl, ?_⟩
      go_grown


set_option maxHeartbeats 800000 in
theorem iIterateMap_is (ps : List Pt) (v : Value) (x1 x2 n : Int) (a b : Int) (t : Bool) (hl : iterQ ps (x1, x2) n = (a, b, t)) (w : World) (hv : RdP w v ps) (hn : ps.length ≤ 1048576) :
    Calls Try.prog 47 #[v, .agg #[.int .i64 x1, .int .i64 x2], .int .i64 n] w (LowEnd a b t w) := by
  rcases ho : orbOf ps (x1, x2) n with ⟨l, tt⟩
  have HL := Lib.hid ho
  have HV := Lib.hid hv
  rcases tt with _ | _
  · obtain ⟨rfl, rfl, rfl⟩ : 0 = a ∧ 0 = b ∧ false = t := by unfold iterQ at hl; rw [ho] at hl; simpa using hl
    clear hv ho hl
    go_enter Try.func47, Try.ntmps47
    go_wp2_with fail
    refine (iOrbitOf_is ps v x1 x2 n l false HL.out _ (HV.out.keep (by go_grown)) hn).mono ?_
    rintro e w1 ⟨r, rfl, -, hb⟩
    have hX : Below w.heap.size w w1 := nextX (by go_grown) hb
    have b00 : w1.cell? ⟨w.heap.size, 0, none⟩ = some (.int .i64 x1) := cellB hb (by simp [go_sem])
    have b01 : w1.cell? ⟨w.heap.size, 1, none⟩ = some (.int .i64 x2) := cellB hb (by simp [go_sem])
    have r10 : Slot w1 (w.heap.size + 1) 0 (.int .i64 0) := slotB hb ⟨by simp [go_sem], by simp [go_sem]⟩
    have r11 : Slot w1 (w.heap.size + 1) 1 (.int .i64 0) := slotB hb ⟨by simp [go_sem], by simp [go_sem]⟩
    have zb00 := lt_of_cell b00
    have zr10 := lt_of_cell r10.1
    have hB : Below w.heap.size w w1 := hX
    clear hb hX
    obtain ⟨q0, k0⟩ := r10
    obtain ⟨q1, k1⟩ := r11
    go_wp2_with fail
    refine bodyPost_ret (v := .tuple #[.agg #[.int .i64 0, .int .i64 0], .bool false]) (by first | (simp [results, Try.results47, go_sem, q0, q1]; done) | (simp [results, Try.results47, go_sem, q0, q1, zr10]; done)) rfl ⟨rfl, ?_⟩
    go_grown
  · obtain ⟨k, rfl, hlen, hk⟩ := orbOf_yes ho
    obtain ⟨⟨a1, a2⟩, hq⟩ : ∃ q, l[k]? = some q := ⟨_, List.getElem?_eq_getElem (by omega)⟩
    obtain ⟨rfl, rfl, rfl⟩ : a1 = a ∧ a2 = b ∧ true = t := by unfold iterQ at hl; rw [ho] at hl; simp only [if_true, List.getD_eq_getElem?_getD, Int.toNat_natCast, hq, Option.getD_some] at hl; simpa using hl
    have HQ := Lib.hid hq
    clear hv ho hl hq
    go_enter Try.func47, Try.ntmps47
    go_wp2_with fail
    refine (iOrbitOf_is ps v x1 x2 k l true HL.out _ (HV.out.keep (by go_grown)) hn).mono ?_
    rintro e w1 ⟨r, rfl, ow, hb⟩
    have hX : Below w.heap.size w w1 := nextX (by go_grown) hb
    have b00 : w1.cell? ⟨w.heap.size, 0, none⟩ = some (.int .i64 x1) := cellB hb (by simp [go_sem])
    have b01 : w1.cell? ⟨w.heap.size, 1, none⟩ = some (.int .i64 x2) := cellB hb (by simp [go_sem])
    have r10 : Slot w1 (w.heap.size + 1) 0 (.int .i64 0) := slotB hb ⟨by simp [go_sem], by simp [go_sem]⟩
    have r11 : Slot w1 (w.heap.size + 1) 1 (.int .i64 0) := slotB hb ⟨by simp [go_sem], by simp [go_sem]⟩
    have zb00 := lt_of_cell b00
    have zr10 := lt_of_cell r10.1
    have hB : Below w.heap.size w w1 := hX
    clear hb hX
    obtain ⟨g, cap, rfl, hc1, hc2, hg1, hg2, hcell⟩ := ow.lit hlen (by omega)
    unfold maxLen at hc2
    obtain ⟨c0, c1⟩ := hcell _ _ HQ.out
    clear hcell ow
    have b0 : (k : Int) < ((k + 1 : Nat) : Int) := by omega
    have b1 : (0 : Int) ≤ (k : Int) := by omega
    have b2 : ((k : Int)).toNat = k := by omega
    obtain ⟨q0, k0⟩ := r10
    obtain ⟨q1, k1⟩ := r11
    go_wp2_with fail
    refine bodyPost_ret (v := .tuple #[.agg #[.int .i64 a1, .int .i64 a2], .bool true]) (by first | (simp [results, Try.results47, go_sem, q0, q1]; done) | (simp [results, Try.results47, go_sem, q0, q1, zr10]; done)) rfl ⟨rfl, ?_⟩
    go_grown


end Go.Proofs.Ytkdhhopfefhdjaa
