/- MultiplierAt of the reference. -/
import Derived.Test.YtkdhhopfefhdjaaMulS
import Derived.Test.YtkdhhopfefhdjaaDist
import Derived.Test.YtkdhhopfefhdjaaCyc
namespace Go.Proofs.Ytkdhhopfefhdjaa
open Go.RowKit

theorem slAt_ok {ps : List Pt} {x : Q} (hm : okMap ps = true) (hx : unitQ x.1 x.2 = true) : okQ (slAt ps x).1.1 (slAt ps x).1.2 = true := by
  obtain ⟨p, q, h⟩ := atPiece hm hx
  unfold slAt
  rw [h.here, h.next]
  exact (slopeQ_ok h.cx h.cy h.dx h.dy h.rise).1
def mulN (ps : List Pt) (l : List Q) : Nat → Q × Bool
  | 0 => ((1, 1), false)
  | j + 1 => match l[j]? with
    | some x => (keepQ (mulQ (mulN ps l j).1.1 (mulN ps l j).1.2 (slAt ps x).1.1 (slAt ps x).1.2), (mulN ps l j).2 || (!(slAt ps x).2 || !(mulQ (mulN ps l j).1.1 (mulN ps l j).1.2 (slAt ps x).1.1 (slAt ps x).1.2).2.2))
    | none => mulN ps l j
theorem mulN_next {ps : List Pt} {l : List Q} {j : Nat} {x : Q} (h : l[j]? = some x) : mulN ps l (j + 1) = (keepQ (mulQ (mulN ps l j).1.1 (mulN ps l j).1.2 (slAt ps x).1.1 (slAt ps x).1.2), (mulN ps l j).2 || (!(slAt ps x).2 || !(mulQ (mulN ps l j).1.1 (mulN ps l j).1.2 (slAt ps x).1.1 (slAt ps x).1.2).2.2)) := by
  rw [mulN, h]
theorem mulN_bad {ps : List Pt} {l : List Q} {k : Nat} (h : (mulN ps l k).2 = true) : ∀ j, (mulN ps l (k + j)).2 = true
  | 0 => h
  | j + 1 => by
    have := mulN_bad h j
    show (mulN ps l (k + j + 1)).2 = true
    rw [mulN]
    split
    · simp [this]
    · exact this
theorem keepMul_ok (a b c d : Int) : okQ (keepQ (mulQ a b c d)).1 (keepQ (mulQ a b c d)).2 = true := by
  unfold keepQ
  split
  · rename_i h
    unfold mulQ at h ⊢
    split at h <;> rename_i h2
    · rw [if_pos h2]; exact (lowQ_ok (a := _) (b := _) (t := _) rfl).1 h
    · simp at h
  · decide
theorem mulN_ok (ps : List Pt) (l : List Q) : ∀ k, okQ (mulN ps l k).1.1 (mulN ps l k).1.2 = true
  | 0 => by show okQ 1 1 = true; decide
  | k + 1 => by
    rw [mulN]
    split
    · exact keepMul_ok _ _ _ _
    · exact mulN_ok ps l k
theorem cycQ_a {ps : List Pt} {x : Q} {n : Int} (h : isStartB ps x n = false) : (cycQ ps x n).2 = false := by
  unfold cycQ cyc0
  rw [perN_no (orbOf_a h), if_neg (by simp)]
theorem cycQ_mem {ps : List Pt} {x : Q} {n : Int} {l : List Q} {t : Bool} (h : cycQ ps x n = (l, t)) : (∀ y ∈ l, unitQ y.1 y.2 = true) ∧ l.length ≤ 1048576 := by
  rcases ho : orbOf ps x n with ⟨m, tt⟩
  have h1 := orbOf_unit ho
  have h2 := orbOf_len ho
  unfold cycQ cyc0 at h
  rw [ho] at h
  split at h
  · have e := (Prod.mk.inj h).1
    subst e
    exact ⟨fun y hy => h1 y (List.mem_of_mem_take hy), by simp only [List.length_take]; omega⟩
  · have e := (Prod.mk.inj h).1
    subst e
    exact ⟨fun y hy => by simp at hy, by simp⟩
def multQ (ps : List Pt) (x : Q) (n : Int) : Int × Int × Bool := if ((cycQ ps x n).2 && !(mulN ps (cycQ ps x n).1 (cycQ ps x n).1.length).2) = true then ((mulN ps (cycQ ps x n).1 (cycQ ps x n).1.length).1.1, (mulN ps (cycQ ps x n).1 (cycQ ps x n).1.length).1.2, true) else (0, 0, false)
def RelMul (ps : List Pt) (l : List Q) (gm : Nat) (W0 : World) (i : Value) (wr : World) : Prop := ∃ j : Nat, j ≤ l.length ∧ i = .int .i64 j ∧ Slot wr gm 0 (.int .i64 (mulN ps l j).1.1) ∧ Slot wr gm 1 (.int .i64 (mulN ps l j).1.2) ∧ (mulN ps l j).2 = false ∧ Below W0.heap.size W0 wr

set_option maxHeartbeats 1600000 in
theorem sMultiplierAt_is (ps : List Pt) (v : Value) (x1 x2 n : Int) (a b : Int) (t : Bool) (hl : multQ ps (x1, x2) n = (a, b, t)) (w : World) (hv : RdP w v ps) (hn : ps.length ≤ 1048576) :
    Calls Try.prog 71 #[v, .agg #[.int .i64 x1, .int .i64 x2], .int .i64 n] w (LowEnd a b t w) := by
  have HV := Lib.hid hv
  rcases hs : isStartB ps (x1, x2) n with _ | _
  · obtain ⟨rfl, rfl, rfl⟩ : 0 = a ∧ 0 = b ∧ false = t := by unfold multQ at hl; rw [cycQ_a hs] at hl; simpa using hl
    have HS := Lib.hid hs
    clear hv hl hs
    go_enter Try.func71, Try.ntmps71
    go_wp2_with fail
    refine (orAsked_is ps v x1 x2 n false _ (HV.out.keep (by go_grown)) hn HS.out).mono ?_
    rintro e w1 ⟨rfl, hb⟩
    have hX : Below w.heap.size w w1 := nextX (by go_grown) hb
    have b00 : w1.cell? ⟨w.heap.size, 0, none⟩ = some (.int .i64 x1) := cellB hb (by simp [go_sem])
    have b01 : w1.cell? ⟨w.heap.size, 1, none⟩ = some (.int .i64 x2) := cellB hb (by simp [go_sem])
    have r10 : Slot w1 (w.heap.size + 1) 0 (.int .i64 0) := slotB hb ⟨by simp [go_sem], by simp [go_sem]⟩
    have r11 : Slot w1 (w.heap.size + 1) 1 (.int .i64 0) := slotB hb ⟨by simp [go_sem], by simp [go_sem]⟩
    have zb00 := lt_of_cell b00
    have zr10 := lt_of_cell r10.1
    have hB : Below w.heap.size w w1 := hX
    clear hb hX
    obtain ⟨q0, k0⟩ := r10
    obtain ⟨q1, k1⟩ := r11
    go_wp2_with fail
    refine bodyPost_ret (v := .tuple #[.agg #[.int .i64 0, .int .i64 0], .bool false]) (by first | (simp [results, Try.results71, go_sem, q0, q1]; done) | (simp [results, Try.results71, go_sem, q0, q1, zr10]; done)) rfl ⟨rfl, ?_⟩
    go_grown
  · have HS := Lib.hid hs
    rcases ho : cycQ ps (x1, x2) n with ⟨l, tt⟩
    have HL := Lib.hid ho
    have HM := Lib.hid (isStartB_parts hs).1
    unfold multQ at hl
    rw [ho] at hl
    simp only at hl
    rcases tt with _ | _
    · obtain ⟨rfl, rfl, rfl⟩ : 0 = a ∧ 0 = b ∧ false = t := by simpa using hl
      clear hv hl hs ho
      go_enter Try.func71, Try.ntmps71
      go_wp2_with fail
      refine (orAsked_is ps v x1 x2 n true _ (HV.out.keep (by go_grown)) hn HS.out).mono ?_
      rintro e w1 ⟨rfl, hb⟩
      have hX : Below w.heap.size w w1 := nextX (by go_grown) hb
      have b00 : w1.cell? ⟨w.heap.size, 0, none⟩ = some (.int .i64 x1) := cellB hb (by simp [go_sem])
      have b01 : w1.cell? ⟨w.heap.size, 1, none⟩ = some (.int .i64 x2) := cellB hb (by simp [go_sem])
      have r10 : Slot w1 (w.heap.size + 1) 0 (.int .i64 0) := slotB hb ⟨by simp [go_sem], by simp [go_sem]⟩
      have r11 : Slot w1 (w.heap.size + 1) 1 (.int .i64 0) := slotB hb ⟨by simp [go_sem], by simp [go_sem]⟩
      have zb00 := lt_of_cell b00
      have zr10 := lt_of_cell r10.1
      have hB : Below w.heap.size w w1 := hX
      clear hb hX
      go_wp2_with fail
      refine (orCycle_is ps v x1 x2 n l false HL.out _ (HV.out.keep (nextX hB (by go_grown))) HS.out).mono ?_
      rintro e w2 ⟨ra, rfl, ow, hb⟩
      have hX : Below w1.heap.size w1 w2 := nextX (by go_grown) hb
      replace b00 := cellB hX b00
      replace b01 := cellB hX b01
      replace r10 := slotB hX r10
      replace r11 := slotB hX r11
      have zb00 := Nat.lt_of_lt_of_le zb00 hX.size
      have zr10 := Nat.lt_of_lt_of_le zr10 hX.size
      replace hB := nextW hB hX
      clear hb hX
      obtain ⟨q0, k0⟩ := r10
      obtain ⟨q1, k1⟩ := r11
      go_wp2_with fail
      refine bodyPost_ret (v := .tuple #[.agg #[.int .i64 0, .int .i64 0], .bool false]) (by first | (simp [results, Try.results71, go_sem, q0, q1]; done) | (simp [results, Try.results71, go_sem, q0, q1, zr10]; done)) rfl ⟨rfl, ?_⟩
      go_grown
    · have HU := Lib.hid (cycQ_mem ho).1
      have hk := (cycQ_mem ho).2
      have HH := Lib.hid hl
      clear hv hl hs ho
      go_enter Try.func71, Try.ntmps71
      go_wp2_with fail
      refine (orAsked_is ps v x1 x2 n true _ (HV.out.keep (by go_grown)) hn HS.out).mono ?_
      rintro e w1 ⟨rfl, hb⟩
      have hX : Below w.heap.size w w1 := nextX (by go_grown) hb
      have b00 : w1.cell? ⟨w.heap.size, 0, none⟩ = some (.int .i64 x1) := cellB hb (by simp [go_sem])
      have b01 : w1.cell? ⟨w.heap.size, 1, none⟩ = some (.int .i64 x2) := cellB hb (by simp [go_sem])
      have r10 : Slot w1 (w.heap.size + 1) 0 (.int .i64 0) := slotB hb ⟨by simp [go_sem], by simp [go_sem]⟩
      have r11 : Slot w1 (w.heap.size + 1) 1 (.int .i64 0) := slotB hb ⟨by simp [go_sem], by simp [go_sem]⟩
      have zb00 := lt_of_cell b00
      have zr10 := lt_of_cell r10.1
      have hB : Below w.heap.size w w1 := hX
      clear hb hX
      go_wp2_with fail
      refine (orCycle_is ps v x1 x2 n l true HL.out _ (HV.out.keep (nextX hB (by go_grown))) HS.out).mono ?_
      rintro e w2 ⟨ra, rfl, ow, hb⟩
      have hX : Below w1.heap.size w1 w2 := nextX (by go_grown) hb
      replace b00 := cellB hX b00
      replace b01 := cellB hX b01
      replace r10 := slotB hX r10
      replace r11 := slotB hX r11
      have zb00 := Nat.lt_of_lt_of_le zb00 hX.size
      have zr10 := Nat.lt_of_lt_of_le zr10 hX.size
      replace hB := nextW hB hX
      clear hb hX
      obtain ⟨A1, cap1, rfl, hc1, hc2, hcell1⟩ := ow
      unfold maxLen at hc2
      have HC := Lib.hid hcell1
      have HRS := Lib.hid (And.intro r10 r11)
      have hBW := hB
      clear hcell1 r10 r11 b00 b01
      go_wp2_with fail
      refine (raInt_any 1 _).mono ?_
      rintro e w3 ⟨rfl, hb⟩
      have hX : Below w2.heap.size w2 w3 := nextX (by go_grown) hb
      have z3 := hX.size
      have HX3 := Lib.hid hX
      clear hb hX
      go_wp2_with fail
      go_name_world W0 hW
      have hW0 : Below w3.heap.size w3 W0 := by rw [← hW]; go_grown
      have sm : Slot W0 w3.heap.size 0 (.int .i64 1) ∧ Slot W0 w3.heap.size 1 (.int .i64 1) := by rw [← hW]; exact slotNew _ _ _ _
      have SM := Lib.hid sm
      clear hW sm
      go_loopw [36] (fun i wr => RelMul ps l w3.heap.size w3 i wr) (fun i _ => l.length - (intOf i).toNat)
      case atStart => exact ⟨0, Nat.zero_le _, rfl, SM.out.1, SM.out.2, rfl, hW0⟩
      case round =>
        obtain ⟨j, hj, rfl, sm0, sm1, hno, hb⟩ := hrel
        have hzb := hb.size
        have hbc := nextW HX3.out hb
        have rr0 := slotB hbc HRS.out.1
        have rr1 := slotB hbc HRS.out.2
        have hBr := nextW hBW hbc
        have zrr := lt_of_cell rr0.1
        by_cases hlt : j < l.length
        · have hq := List.getElem?_eq_getElem hlt
          have hf := mulN_next (ps := ps) hq
          have hu := HU.out _ (List.mem_of_getElem? hq)
          generalize l[j] = q at *
          obtain ⟨q1, q2⟩ := q
          obtain ⟨g1, o1, rfl, hg1, hcc⟩ := HC.out (by intro e; rw [e] at hq; simp at hq)
          obtain ⟨c0, c1⟩ := hcc _ _ hq
          replace c0 := cellB hbc c0
          replace c1 := cellB hbc c1
          have hso := slAt_ok (x := (q1, q2)) HM.out hu
          rcases hsl : slAt ps (q1, q2) with ⟨⟨s1, s2⟩, ts⟩
          have hmo := mulN_ok ps l j
          rcases hm : mulN ps l j with ⟨⟨m1, m2⟩, bad⟩
          rw [hm] at sm0 sm1 hno hmo hf
          rw [hsl] at hf hso
          simp only at hno sm0 sm1 hf hso hmo
          subst hno
          rcases hmu : mulQ m1 m2 s1 s2 with ⟨a1, a2, ta⟩
          rw [hmu] at hf
          simp only [Bool.false_or] at hf
          have HLow := Lib.hid (show lowQ (m1 * s1) (m2 * s2) = (a1, a2, ta) by rw [← hmu]; unfold mulQ; rw [if_pos (by rw [hmo, hso]; rfl)])
          have HF := Lib.hid hf
          have HSl := Lib.hid hsl
          have HUq := Lib.hid hu
          have SMm := Lib.hid (Sm.of_ok hmo)
          have SMs := Lib.hid (Sm.of_ok hso)
          have zgm := lt_of_cell sm0.1
          clear hcc hq hf hu hso hsl hmo hm hmu
          have b1 : (0 : Int) ≤ (j : Int) := by omega
          have b2 : (j : Int) < (l.length : Int) := by omega
          go_wp2_with fail
          refine (orSlope_is ps v q1 q2 s1 s2 ts HSl.out HM.out HUq.out _ (HV.out.keep (nextX hBr (by go_grown)))).mono ?_
          rintro e w5 ⟨rfl, hb5⟩
          have hX5 : Below wr.heap.size wr w5 := nextX (by go_grown) hb5
          replace sm0 := slotB hX5 sm0
          replace sm1 := slotB hX5 sm1
          replace rr0 := slotB hX5 rr0
          replace rr1 := slotB hX5 rr1
          have hz5 := hX5.size
          replace hb := nextW hb hX5
          replace hBr := nextW hBr hX5
          clear hb5 hX5 c0 c1
          rcases ts with _ | _
          · have hbad : (mulN ps l l.length).2 = true := by
              have h1 : (mulN ps l (j + 1)).2 = true := by rw [HF.out]; simp
              have h2 := mulN_bad h1 (l.length - (j + 1))
              rwa [show j + 1 + (l.length - (j + 1)) = l.length by omega] at h2
            obtain ⟨rfl, rfl, rfl⟩ : 0 = a ∧ 0 = b ∧ false = t := by have := HH.out; rw [hbad] at this; simpa using this
            obtain ⟨z0, kz0⟩ := rr0
            obtain ⟨z1, kz1⟩ := rr1
            have zq := lt_of_cell z0
            clear sm0 sm1 hbad
            go_wp2_with fail
            refine bodyPost_ret (v := .tuple #[.agg #[.int .i64 0, .int .i64 0], .bool false]) (by simp [results, Try.results71, go_sem, z0, z1, zq]) rfl ⟨rfl, ?_⟩
            go_grown
          · have m0 := sm0.1
            have m9 := sm1.1
            have M0 := Lib.hid sm0
            have M1 := Lib.hid sm1
            have zg5 := lt_of_cell m0
            clear sm0 sm1
            go_wp2_with fail
            refine (raMul_any m1 m2 s1 s2 a1 a2 ta SMm.out.1 SMm.out.2 SMs.out.1 SMs.out.2 HLow.out _).mono ?_
            rintro e w7 ⟨rfl, hb7⟩
            have hX7 : Below w5.heap.size w5 w7 := nextX (by go_grown) hb7
            have sm0 := slotB hX7 M0.out
            have sm1 := slotB hX7 M1.out
            replace rr0 := slotB hX7 rr0
            replace rr1 := slotB hX7 rr1
            have hz7 := hX7.size
            replace hb := nextW hb hX7
            replace hBr := nextW hBr hX7
            clear hb7 hX7 m0 m9
            rcases ta with _ | _
            · have hbad : (mulN ps l l.length).2 = true := by
                have h1 : (mulN ps l (j + 1)).2 = true := by rw [HF.out]; simp
                have h2 := mulN_bad h1 (l.length - (j + 1))
                rwa [show j + 1 + (l.length - (j + 1)) = l.length by omega] at h2
              obtain ⟨rfl, rfl, rfl⟩ : 0 = a ∧ 0 = b ∧ false = t := by have := HH.out; rw [hbad] at this; simpa using this
              obtain ⟨z0, kz0⟩ := rr0
              obtain ⟨z1, kz1⟩ := rr1
              have zq := lt_of_cell z0
              clear sm0 sm1 hbad
              go_wp2_with fail
              refine bodyPost_ret (v := .tuple #[.agg #[.int .i64 0, .int .i64 0], .bool false]) (by simp [results, Try.results71, go_sem, z0, z1, zq]) rfl ⟨rfl, ?_⟩
              go_grown
            · have hff : mulN ps l (j + 1) = ((a1, a2), false) := by rw [HF.out]; rfl
              have HFF := Lib.hid hff
              obtain ⟨m0, mz0⟩ := sm0
              obtain ⟨m9, mz1⟩ := sm1
              have zg7 := lt_of_cell m0
              clear hff rr0 rr1
              go_wp2_with fail
              go_roundw
              case rel =>
                have hs := stored2 ⟨m0, mz0⟩ ⟨m9, mz1⟩ (.int .i64 a1) (.int .i64 a2)
                refine ⟨j + 1, by omega, by go_num, ?_, ?_, ?_, by go_grown⟩
                · rw [HFF.out]; exact slotA _ hs.1
                · rw [HFF.out]; exact slotA _ hs.2
                · rw [HFF.out]
              case measure => simp [intOf]; omega
        · obtain rfl : j = l.length := by omega
          rcases hm : mulN ps l l.length with ⟨⟨m1, m2⟩, bad⟩
          have hhh := HH.out
          rw [hm] at hhh sm0 sm1 hno
          simp only at sm0 sm1 hno
          subst hno
          obtain ⟨rfl, rfl, rfl⟩ : m1 = a ∧ m2 = b ∧ true = t := by simpa using hhh
          have h0 := sm0.1
          have h1 := sm1.1
          obtain ⟨z0, kz0⟩ := rr0
          obtain ⟨z1, kz1⟩ := rr1
          clear sm0 sm1 hhh hm
          go_wp2_with fail
          refine bodyPost_ret (v := .tuple #[.agg #[.int .i64 m1, .int .i64 m2], .bool true]) (by simp [results, Try.results71, go_sem, z0, z1]) rfl ⟨rfl, ?_⟩
          go_grown

end Go.Proofs.Ytkdhhopfefhdjaa
