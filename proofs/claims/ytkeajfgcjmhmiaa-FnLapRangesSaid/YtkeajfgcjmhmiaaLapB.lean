/- TurningPoints of both. -/
import Derived.Test.YtkeajfgcjmhmiaaLapA
import Derived.Test.YtkeajfgcjmhmiaaOrbs
namespace Go.Proofs.Ytkeajfgcjmhmiaa
open Go.RowKit

def firstX (ps : List Pt) (r : Row3) : Q := match ps[r.1.toNat]? with | some p => p.1 | none => (0, 0)
def turnQ (ps : List Pt) : List Q := (lapsQ ps).tail.map (firstX ps)
def turnsQ (ps : List Pt) : List Q × Bool := if okMap ps = true then (turnQ ps, true) else ([], false)
theorem turnQ_len (ps : List Pt) : (turnQ ps).length = (lapsQ ps).length - 1 := by unfold turnQ; simp
theorem lapsQ_len (ps : List Pt) : (lapsQ ps).length ≤ ps.length - 1 := lapN_len _ _
theorem lapsQ_pos {ps : List Pt} (h : 2 ≤ ps.length) : 0 < (lapsQ ps).length := by
  unfold lapsQ
  rw [show ps.length - 1 = (ps.length - 2) + 1 by omega]
  exact lapN_pos (by rw [slopesQ_len]; omega)
theorem lapsQ_row {ps : List Pt} {i : Nat} {r : Row3} (h : (lapsQ ps)[i]? = some r) : ∃ j : Nat, r.1 = j ∧ j < ps.length - 1 := lapN_first _ _ r (List.mem_of_getElem? h)
theorem turnQ_get {ps : List Pt} {k j : Nat} {r : Row3} {p : Pt} (h : (lapsQ ps)[k + 1]? = some r) (hj : r.1 = j) (hp : ps[j]? = some p) : (turnQ ps)[k]? = some p.1 := by
  unfold turnQ
  rw [List.getElem?_map, List.getElem?_tail, h]
  simp [firstX, hj, hp]
theorem turnsQ_len {ps : List Pt} {l : List Q} {t : Bool} (h : turnsQ ps = (l, t)) : l.length ≤ 1048576 := by
  unfold turnsQ at h
  split at h
  · rename_i hh
    obtain ⟨rfl, -⟩ := Prod.mk.inj h
    have h1 := turnQ_len ps
    have h2 := lapsQ_len ps
    have h3 := okMap_len hh
    omega
  · obtain ⟨rfl, -⟩ := Prod.mk.inj h; simp
def RelTu (qs : List Q) (n : Nat) (W0 : World) (out i : Value) (wr : World) : Prop := ∃ k : Nat, k ≤ n ∧ i = .int .i64 k ∧ OwQ W0.heap.size 32 wr out (qs.take k) ∧ Below W0.heap.size W0 wr

set_option maxRecDepth 100000 in
set_option maxHeartbeats 2000000 in
theorem iTurns_is (ps : List Pt) (v : Value) (w : World) (hv : RdP w v ps) (hm : okMap ps = true) :
    Calls Try.prog 25 #[v] w (RetQ w (turnQ ps)) := by
  have hlm := okMap_len hm
  have HR := Lib.hid (okMap_riseC hm)
  have HV := Lib.hid hv
  obtain ⟨A, c, rfl, hl, hm9, hcell⟩ := hv
  unfold maxLen at hm9
  obtain ⟨g, o, rfl, hg, hc⟩ := hcell (by intro h; rw [h] at hlm; simp at hlm)
  have HC := Lib.hid hc
  clear hcell hc
  clear hm
  go_enter Try.func25, Try.ntmps25
  go_wp2_with fail
  refine (iLaps_is ps _ _ (HV.out.keep (by go_grown)) HR.out (by omega)).mono ?_
  rintro e w1 ⟨r, rfl, ol, hb⟩
  have hX : Below w.heap.size w w1 := nextX (by go_grown) hb
  have hB : Below w.heap.size w w1 := hX
  clear hb hX
  have hlp := lapsQ_pos hlm.1
  have hll := lapsQ_len ps
  obtain ⟨gl, cap, rfl, hc1, hc2⟩ := ol.lit hlp
  unfold maxLen at hc2
  have HL := Lib.hid ol
  have HT := Lib.hid (turnQ_len ps)
  clear ol
  obtain ⟨L, hL⟩ : ∃ L, (lapsQ ps).length = L := ⟨_, rfl⟩
  have HLL := Lib.hid hL
  rw [hL] at hlp hll hc1 ⊢
  clear hL
  have x0 : (1 : Int) ≤ (L : Int) := by omega
  have x1 : (L : Int) ≤ (cap : Int) := by omega
  have x2 : (1 : Int) ≤ (cap : Int) := by omega
  by_cases hcap : cap = 1
  · obtain rfl : L = 1 := by omega
    subst hcap
    go_wp2_with fail
    go_loopw [3, 10] (fun out i wr => RelTu (turnQ ps) 0 w1 out i wr) (fun _ i _ => 0 - (intOf i).toNat)
    case atStart => exact ⟨0, Nat.zero_le _, rfl, (World.ownsRow_nil _ _ _ _ : OwQ _ _ _ _ []), Below.refl _ _⟩
    case round =>
      obtain ⟨k, hk, rfl, hown, hb⟩ := hrel
      have HO := Lib.hid hown
      have hzr := hb.size
      clear hown
      obtain rfl : k = 0 := by omega
      have HF := Lib.hid (show OwQ w.heap.size 32 wr _ (turnQ ps) by have h := HO.out.low (b := w.heap.size) hB.size; rwa [List.take_of_length_le (by have h1 := HT.out; have h2 := HLL.out; omega)] at h)
      have hBr := nextW hB hb
      go_wp2_with fail
      go_ret
      exact ⟨_, rfl, HF.out, hBr⟩
  · have x3 : (1 : Int) < (cap : Int) := by omega
    have x4 : ¬ cap = 1 := hcap
    have x5 : L ≠ 0 := by omega
    go_wp2_with fail
    go_loopw [3, 10] (fun out i wr => RelTu (turnQ ps) (L - 1) w1 out i wr) (fun _ i _ => (L - 1) - (intOf i).toNat)
    case atStart => exact ⟨0, Nat.zero_le _, rfl, (World.ownsRow_nil _ _ _ _ : OwQ _ _ _ _ []), Below.refl _ _⟩
    case round =>
      obtain ⟨k, hk, rfl, hown, hb⟩ := hrel
      have HO := Lib.hid hown
      have hzr := hb.size
      clear hown
      by_cases hlt : k < L - 1
      · have hLq := HLL.out
        have hr := List.getElem?_eq_getElem (show k + 1 < (lapsQ ps).length by omega)
        obtain ⟨g2, cp, bo, he, -, -, hg1, hg2, oc, hrow⟩ := HL.out.get hr
        simp only [Value.slice.injEq, Option.some.injEq, Addr.mk.injEq, and_true] at he
        obtain ⟨rfl, -⟩ := he
        obtain ⟨j, hj, hj2⟩ := lapsQ_row hr
        have hp := List.getElem?_eq_getElem (show j < ps.length by omega)
        have ht := turnQ_get hr hj hp
        obtain ⟨c0, c1, -, -⟩ := HC.out j _ hp
        have rc := (row3_cells hrow).1.1
        rw [hj] at rc
        generalize ps[j] = p at *
        obtain ⟨⟨p1, p2⟩, p3, p4⟩ := p
        simp only at c0 c1 ht
        replace c0 := cellB (nextW hB hb) c0
        replace c1 := cellB (nextW hB hb) c1
        replace oc := cellB hb oc
        replace rc := cellB hb rc
        rw [Nat.add_comm k 1] at oc
        have HN := Lib.hid (take_snoc_get ht)
        clear hr hrow hp ht hj
        have y0 : (0 : Int) ≤ (k : Int) := by omega
        have y1 : (k : Int) < (L : Int) - 1 := by omega
        have y2 : (k : Int) < ((L - 1 : Nat) : Int) := by omega
        have y3 : (0 : Int) ≤ (j : Int) := by omega
        have y4 : (j : Int) < (ps.length : Int) := by omega
        go_wp2_with (at_builtin; refine append_q1 _ rfl _ _ rfl w1.heap.size _ ((turnQ ps).take k) rfl ?own _ _ p1 p2 rfl ?c0 ?c1 ?len ?base ?_)
        case own => exact (HO.out.keep (by go_grown))
        case c0 => simp [go_sem]
        case c1 => simp [go_sem]
        case len => have h1 := HT.out; have h2 := HLL.out; have h3 := List.length_take_le k (turnQ ps); omega
        case base => go_size
        intro v' w' hown h7
        have hb4 : Below w1.heap.size w1 w' := Below.trans (by go_grown) h7
        have HN2 := Lib.hid (show OwQ w1.heap.size 32 w' v' ((turnQ ps).take (k + 1)) by rw [HN.out]; exact hown)
        clear hown h7 c0 c1 oc rc
        go_wp2_with fail
        go_roundw
        case rel => exact ⟨k + 1, by omega, by go_num, HN2.out, hb4⟩
        case measure => simp [intOf]; omega
      · obtain rfl : k = L - 1 := by omega
        have HF := Lib.hid (show OwQ w.heap.size 32 wr _ (turnQ ps) by have h := HO.out.low (b := w.heap.size) hB.size; rwa [List.take_of_length_le (by have h1 := HT.out; have h2 := HLL.out; omega)] at h)
        have hBr := nextW hB hb
        go_wp2_with fail
        go_ret
        exact ⟨_, rfl, HF.out, hBr⟩

set_option maxRecDepth 100000 in
set_option maxHeartbeats 2000000 in
theorem iTurningPoints_is (ps : List Pt) (v : Value) (l : List Q) (t : Bool) (hl0 : turnsQ ps = (l, t)) (w : World) (hv : RdP w v ps) (hn : ps.length ≤ 1048576) :
    Calls Try.prog 9 #[v] w (RetQB w l t) := by
  rcases hm : okMap ps with _ | _
  · obtain ⟨rfl, rfl⟩ : [] = l ∧ false = t := by unfold turnsQ at hl0; rw [if_neg (by rw [hm]; simp)] at hl0; exact Prod.mk.inj hl0
    have HM := Lib.hid hm
    have HV := Lib.hid hv
    clear hv hl0 hm
    go_enter Try.func9, Try.ntmps9
    go_wp2_with fail
    refine (isMap_is ps v false _ (HV.out.keep (by go_grown)) hn HM.out).mono ?_
    rintro e w1 ⟨rfl, hb⟩
    have hX : Below w.heap.size w w1 := nextX (by go_grown) hb
    have hB : Below w.heap.size w w1 := hX
    clear hb hX
    go_wp2_with fail
    go_ret2
    exact ⟨_, rfl, World.ownsRow_nil _ _ _ _, hB⟩
  · obtain ⟨rfl, rfl⟩ : turnQ ps = l ∧ true = t := by unfold turnsQ at hl0; rw [if_pos hm] at hl0; exact Prod.mk.inj hl0
    have HM := Lib.hid hm
    have hlm := okMap_len hm
    have HR := Lib.hid (okMap_riseC hm)
    have HV := Lib.hid hv
    clear hv hl0 hm
    go_enter Try.func9, Try.ntmps9
    go_wp2_with fail
    refine (isMap_is ps v true _ (HV.out.keep (by go_grown)) hn HM.out).mono ?_
    rintro e w1 ⟨rfl, hb⟩
    have hX : Below w.heap.size w w1 := nextX (by go_grown) hb
    have hB : Below w.heap.size w w1 := hX
    clear hb hX
    have hz := hB.size
    go_wp2_with fail
    refine (iTurns_is ps v _ (HV.out.keep (nextX hB (by go_grown))) HM.out).mono ?_
    rintro e w2 ⟨r, rfl, ow, hb⟩
    have hX : Below w1.heap.size w1 w2 := nextX (by go_grown) hb
    replace hB := nextW hB hX
    clear hb hX
    have HO := Lib.hid (ow.low (b := w.heap.size) hz)
    clear ow
    go_wp2_with fail
    go_ret2
    exact ⟨_, rfl, HO.out, hB⟩

set_option maxRecDepth 100000 in
set_option maxHeartbeats 2000000 in
theorem sTurningPoints_is (ps : List Pt) (v : Value) (l : List Q) (t : Bool) (hl0 : turnsQ ps = (l, t)) (w : World) (hv : RdP w v ps) (hn : ps.length ≤ 1048576) :
    Calls Try.prog 10 #[v] w (RetQB w l t) := by
  rcases hm : okMap ps with _ | _
  · obtain ⟨rfl, rfl⟩ : [] = l ∧ false = t := by unfold turnsQ at hl0; rw [if_neg (by rw [hm]; simp)] at hl0; exact Prod.mk.inj hl0
    have HM := Lib.hid hm
    have HV := Lib.hid hv
    clear hv hl0 hm
    go_enter Try.func10, Try.ntmps10
    go_wp2_with fail
    refine (imGood_is ps v false _ (HV.out.keep (by go_grown)) hn HM.out).mono ?_
    rintro e w1 ⟨rfl, hb⟩
    have hX : Below w.heap.size w w1 := nextX (by go_grown) hb
    have hB : Below w.heap.size w w1 := hX
    clear hb hX
    go_wp2_with fail
    go_ret2
    exact ⟨_, rfl, World.ownsRow_nil _ _ _ _, hB⟩
  · obtain ⟨rfl, rfl⟩ : turnQ ps = l ∧ true = t := by unfold turnsQ at hl0; rw [if_pos hm] at hl0; exact Prod.mk.inj hl0
    have HM := Lib.hid hm
    have hlm := okMap_len hm
    have HR := Lib.hid (okMap_riseC hm)
    have HV := Lib.hid hv
    obtain ⟨A, c, rfl, hl, hm9, hcell⟩ := hv
    unfold maxLen at hm9
    obtain ⟨g, o, rfl, hg, hc⟩ := hcell (by intro h; rw [h] at hlm; simp at hlm)
    have HC := Lib.hid hc
    clear hcell hc
    clear hl0 hm
    go_enter Try.func10, Try.ntmps10
    go_wp2_with fail
    refine (imGood_is ps _ true _ (HV.out.keep (by go_grown)) hn HM.out).mono ?_
    rintro e w1 ⟨rfl, hb⟩
    have hX : Below w.heap.size w w1 := nextX (by go_grown) hb
    have hB : Below w.heap.size w w1 := hX
    clear hb hX
    go_wp2_with fail
    refine (sLaps_is ps _ _ (HV.out.keep (nextX hB (by go_grown))) HR.out (by omega)).mono ?_
    rintro e w2 ⟨r, rfl, ol, hb⟩
    have hX : Below w1.heap.size w1 w2 := nextX (by go_grown) hb
    replace hB := nextW hB hX
    clear hb hX
    have hlp := lapsQ_pos hlm.1
    have hll := lapsQ_len ps
    obtain ⟨gl, cap, rfl, hc1, hc2⟩ := ol.lit hlp
    unfold maxLen at hc2
    have HL := Lib.hid ol
    have HT := Lib.hid (turnQ_len ps)
    clear ol
    obtain ⟨L, hL⟩ : ∃ L, (lapsQ ps).length = L := ⟨_, rfl⟩
    have HLL := Lib.hid hL
    rw [hL] at hlp hll hc1 ⊢
    clear hL
    have x0 : (1 : Int) ≤ (L : Int) := by omega
    have x1 : (L : Int) ≤ (cap : Int) := by omega
    have x2 : (1 : Int) ≤ (cap : Int) := by omega
    by_cases hcap : cap = 1
    · obtain rfl : L = 1 := by omega
      subst hcap
      go_wp2_with fail
      go_loopw [4, 14] (fun out i wr => RelTu (turnQ ps) 0 w2 out i wr) (fun _ i _ => 0 - (intOf i).toNat)
      case atStart => exact ⟨0, Nat.zero_le _, rfl, (World.ownsRow_nil _ _ _ _ : OwQ _ _ _ _ []), Below.refl _ _⟩
      case round =>
        obtain ⟨k, hk, rfl, hown, hb⟩ := hrel
        have HO := Lib.hid hown
        have hzr := hb.size
        clear hown
        obtain rfl : k = 0 := by omega
        have HF := Lib.hid (show OwQ w.heap.size 32 wr _ (turnQ ps) by have h := HO.out.low (b := w.heap.size) hB.size; rwa [List.take_of_length_le (by have h1 := HT.out; have h2 := HLL.out; omega)] at h)
        have hBr := nextW hB hb
        go_wp2_with fail
        go_ret2
        exact ⟨_, rfl, HF.out, hBr⟩
    · have x3 : (1 : Int) < (cap : Int) := by omega
      have x4 : ¬ cap = 1 := hcap
      have x5 : L ≠ 0 := by omega
      go_wp2_with fail
      go_loopw [4, 14] (fun out i wr => RelTu (turnQ ps) (L - 1) w2 out i wr) (fun _ i _ => (L - 1) - (intOf i).toNat)
      case atStart => exact ⟨0, Nat.zero_le _, rfl, (World.ownsRow_nil _ _ _ _ : OwQ _ _ _ _ []), Below.refl _ _⟩
      case round =>
        obtain ⟨k, hk, rfl, hown, hb⟩ := hrel
        have HO := Lib.hid hown
        have hzr := hb.size
        clear hown
        by_cases hlt : k < L - 1
        · have hLq := HLL.out
          have hr := List.getElem?_eq_getElem (show k + 1 < (lapsQ ps).length by omega)
          obtain ⟨g2, cp, bo, he, -, -, hg1, hg2, oc, hrow⟩ := HL.out.get hr
          simp only [Value.slice.injEq, Option.some.injEq, Addr.mk.injEq, and_true] at he
          obtain ⟨rfl, -⟩ := he
          obtain ⟨j, hj, hj2⟩ := lapsQ_row hr
          have hp := List.getElem?_eq_getElem (show j < ps.length by omega)
          have ht := turnQ_get hr hj hp
          obtain ⟨c0, c1, -, -⟩ := HC.out j _ hp
          have rc := (row3_cells hrow).1.1
          rw [hj] at rc
          generalize ps[j] = p at *
          obtain ⟨⟨p1, p2⟩, p3, p4⟩ := p
          simp only at c0 c1 ht
          replace c0 := cellB (nextW hB hb) c0
          replace c1 := cellB (nextW hB hb) c1
          replace oc := cellB hb oc
          replace rc := cellB hb rc
          rw [Nat.add_comm k 1] at oc
          have HN := Lib.hid (take_snoc_get ht)
          clear hr hrow hp ht hj
          have y0 : (0 : Int) ≤ (k : Int) := by omega
          have y1 : (k : Int) < (L : Int) - 1 := by omega
          have y2 : (k : Int) < ((L - 1 : Nat) : Int) := by omega
          have y3 : (0 : Int) ≤ (j : Int) := by omega
          have y4 : (j : Int) < (ps.length : Int) := by omega
          go_wp2_with (at_builtin; refine append_q1 _ rfl _ _ rfl w2.heap.size _ ((turnQ ps).take k) rfl ?own _ _ p1 p2 rfl ?c0 ?c1 ?len ?base ?_)
          case own => exact (HO.out.keep (by go_grown))
          case c0 => simp [go_sem]
          case c1 => simp [go_sem]
          case len => have h1 := HT.out; have h2 := HLL.out; have h3 := List.length_take_le k (turnQ ps); omega
          case base => go_size
          intro v' w' hown h7
          have hb4 : Below w2.heap.size w2 w' := Below.trans (by go_grown) h7
          have HN2 := Lib.hid (show OwQ w2.heap.size 32 w' v' ((turnQ ps).take (k + 1)) by rw [HN.out]; exact hown)
          clear hown h7 c0 c1 oc rc
          go_wp2_with fail
          go_roundw
          case rel => exact ⟨k + 1, by omega, by go_num, HN2.out, hb4⟩
          case measure => simp [intOf]; omega
        · obtain rfl : k = L - 1 := by omega
          have HF := Lib.hid (show OwQ w.heap.size 32 wr _ (turnQ ps) by have h := HO.out.low (b := w.heap.size) hB.size; rwa [List.take_of_length_le (by have h1 := HT.out; have h2 := HLL.out; omega)] at h)
          have hBr := nextW hB hb
          go_wp2_with fail
          go_ret2
          exact ⟨_, rfl, HF.out, hBr⟩

end Go.Proofs.Ytkeajfgcjmhmiaa
