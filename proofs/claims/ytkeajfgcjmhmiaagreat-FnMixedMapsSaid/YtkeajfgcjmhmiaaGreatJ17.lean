/- The reference's fraction at which a piece has a value. -/
import Derived.Test.YtkeajfgcjmhmiaaGreatJ16
namespace Go.Proofs.YtkeajfgcjmhmiaaGreat
open Go.RowKit

theorem low_sub {n1 d1 n2 d2 : Int} (h1 : okQ n1 d1 = true) (h2 : okQ n2 d2 = true) : lowQ (n1 * d2 - n2 * d1) (d1 * d2) = subQ n1 d1 n2 d2 := by simp [subQ, h1, h2]
theorem low_add {n1 d1 n2 d2 : Int} (h1 : okQ n1 d1 = true) (h2 : okQ n2 d2 = true) : lowQ (n1 * d2 + n2 * d1) (d1 * d2) = addQ n1 d1 n2 d2 := by simp [addQ, h1, h2]
theorem low_div {n1 d1 n2 d2 : Int} (h1 : okQ n1 d1 = true) (h2 : okQ n2 d2 = true) : lowQ (n1 * d2) (d1 * n2) = divQ n1 d1 n2 d2 := by
  by_cases h : n2 = 0
  · subst h; rw [Int.mul_zero, lowQ_zero]; simp [divQ]
  · simp [divQ, h1, h2, h]

set_option maxRecDepth 100000 in
set_option maxHeartbeats 3200000 in
theorem imBack_is (p1 p2 p3 p4 q1 q2 q3 q4 y1 y2 a b : Int) (t : Bool) (w : World) (hp : CoP ((p1, p2), p3, p4)) (hq : CoP ((q1, q2), q3, q4)) (hl : lessQ p1 p2 q1 q2 = true) (hy : okQ y1 y2 = true) (h : backQ ((p1, p2), p3, p4) ((q1, q2), q3, q4) (y1, y2) = (a, b, t)) :
    Calls Tryz.prog 163 #[.agg #[.int .i64 p1, .int .i64 p2, .int .i64 p3, .int .i64 p4], .agg #[.int .i64 q1, .int .i64 q2, .int .i64 q3, .int .i64 q4], .agg #[.int .i64 y1, .int .i64 y2]] w (LowEnd a b t w) := by
  obtain ⟨⟨s1, s2⟩, hsl⟩ : ∃ s, slopeQ ((p1, p2), p3, p4) ((q1, q2), q3, q4) = s := ⟨_, rfl⟩
  have HSl := Lib.hid (imSlope_is hp.1 hp.2 hq.1 hq.2 hl hsl)
  have osl : okQ s1 s2 = true := by have := slopeQ_ok hp.1 hp.2 hq.1 hq.2 hl; rw [hsl] at this; exact this.1
  have op1 : okQ p1 p2 = true := unitQ_ok (coordQ_unit hp.1)
  have op2 : okQ p3 p4 = true := unitQ_ok (coordQ_unit hp.2)
  obtain ⟨⟨u1, u2, tu⟩, hu⟩ : ∃ u, subQ y1 y2 p3 p4 = u := ⟨_, rfl⟩
  obtain ⟨⟨v1, v2, tv⟩, hv⟩ : ∃ v, divQ u1 u2 s1 s2 = v := ⟨_, rfl⟩
  unfold backQ at h
  simp only [hsl, hu, hv] at h
  have hu' : lowQ (y1 * p4 - p3 * y2) (y2 * p4) = (u1, u2, tu) := by rw [low_sub hy op2]; exact hu
  have SY := Lib.hid (Sm.of_ok hy)
  have SP1 := Lib.hid (Sm.of_ok op1)
  have SP2 := Lib.hid (Sm.of_ok op2)
  have SS := Lib.hid (Sm.of_ok osl)
  have HU := Lib.hid hu'
  cases tu with
  | false =>
    rw [if_neg (by simp)] at h
    cases h
    clear hp hq hl hy hu hu' hv hsl osl op1 op2
    go_enter Tryz.func163, Tryz.ntmps163
    go_wp2_with fail
    refine (raSub_any y1 y2 p3 p4 u1 u2 false SY.out.1 SY.out.2 SP2.out.1 SP2.out.2 HU.out _).mono ?_
    rintro e w1 ⟨rfl, hb⟩
    have hX : Below w.heap.size w w1 := nextX (by go_grown) hb
    have b00 : w1.cell? ⟨w.heap.size, 0, none⟩ = some (.int .i64 p1) := cellB hb (by simp [go_sem])
    have b01 : w1.cell? ⟨w.heap.size, 1, none⟩ = some (.int .i64 p2) := cellB hb (by simp [go_sem])
    have b02 : w1.cell? ⟨w.heap.size, 2, none⟩ = some (.int .i64 p3) := cellB hb (by simp [go_sem])
    have b03 : w1.cell? ⟨w.heap.size, 3, none⟩ = some (.int .i64 p4) := cellB hb (by simp [go_sem])
    have b10 : w1.cell? ⟨w.heap.size + 1, 0, none⟩ = some (.int .i64 q1) := cellB hb (by simp [go_sem])
    have b11 : w1.cell? ⟨w.heap.size + 1, 1, none⟩ = some (.int .i64 q2) := cellB hb (by simp [go_sem])
    have b12 : w1.cell? ⟨w.heap.size + 1, 2, none⟩ = some (.int .i64 q3) := cellB hb (by simp [go_sem])
    have b13 : w1.cell? ⟨w.heap.size + 1, 3, none⟩ = some (.int .i64 q4) := cellB hb (by simp [go_sem])
    have b20 : w1.cell? ⟨w.heap.size + 2, 0, none⟩ = some (.int .i64 y1) := cellB hb (by simp [go_sem])
    have b21 : w1.cell? ⟨w.heap.size + 2, 1, none⟩ = some (.int .i64 y2) := cellB hb (by simp [go_sem])
    have r30 : Slot w1 (w.heap.size + 3) 0 (.int .i64 0) := slotB hb ⟨by simp [go_sem], by simp [go_sem]⟩
    have r31 : Slot w1 (w.heap.size + 3) 1 (.int .i64 0) := slotB hb ⟨by simp [go_sem], by simp [go_sem]⟩
    have zb00 := lt_of_cell b00
    have zb10 := lt_of_cell b10
    have zb20 := lt_of_cell b20
    have zr30 := lt_of_cell r30.1
    have hB : Below w.heap.size w w1 := hX
    clear hb hX
    obtain ⟨q0, k0⟩ := r30
    obtain ⟨q1, k1⟩ := r31
    go_wp2_with fail
    refine bodyPost_ret (v := .tuple #[.agg #[.int .i64 0, .int .i64 0], .bool false]) (by first | (simp [results, Tryz.results163, go_sem]; done) | (simp [results, Tryz.results163, go_sem, q0, q1, zr30]; done)) rfl ⟨rfl, ?_⟩
    go_grown
  | true =>
    rw [if_pos rfl] at h
    have ou : okQ u1 u2 = true := (lowQ_ok hu').1 rfl
    have hv' : lowQ (u1 * s2) (u2 * s1) = (v1, v2, tv) := by rw [low_div ou osl]; exact hv
    have SU := Lib.hid (Sm.of_ok ou)
    have HV := Lib.hid hv'
    cases tv with
    | false =>
      rw [if_neg (by simp)] at h
      cases h
      clear hp hq hl hy hu hu' hv hv' hsl osl op1 op2 ou
      go_enter Tryz.func163, Tryz.ntmps163
      go_wp2_with fail
      refine (raSub_any y1 y2 p3 p4 u1 u2 true SY.out.1 SY.out.2 SP2.out.1 SP2.out.2 HU.out _).mono ?_
      rintro e w1 ⟨rfl, hb⟩
      have hX : Below w.heap.size w w1 := nextX (by go_grown) hb
      have b00 : w1.cell? ⟨w.heap.size, 0, none⟩ = some (.int .i64 p1) := cellB hb (by simp [go_sem])
      have b01 : w1.cell? ⟨w.heap.size, 1, none⟩ = some (.int .i64 p2) := cellB hb (by simp [go_sem])
      have b02 : w1.cell? ⟨w.heap.size, 2, none⟩ = some (.int .i64 p3) := cellB hb (by simp [go_sem])
      have b03 : w1.cell? ⟨w.heap.size, 3, none⟩ = some (.int .i64 p4) := cellB hb (by simp [go_sem])
      have b10 : w1.cell? ⟨w.heap.size + 1, 0, none⟩ = some (.int .i64 q1) := cellB hb (by simp [go_sem])
      have b11 : w1.cell? ⟨w.heap.size + 1, 1, none⟩ = some (.int .i64 q2) := cellB hb (by simp [go_sem])
      have b12 : w1.cell? ⟨w.heap.size + 1, 2, none⟩ = some (.int .i64 q3) := cellB hb (by simp [go_sem])
      have b13 : w1.cell? ⟨w.heap.size + 1, 3, none⟩ = some (.int .i64 q4) := cellB hb (by simp [go_sem])
      have b20 : w1.cell? ⟨w.heap.size + 2, 0, none⟩ = some (.int .i64 y1) := cellB hb (by simp [go_sem])
      have b21 : w1.cell? ⟨w.heap.size + 2, 1, none⟩ = some (.int .i64 y2) := cellB hb (by simp [go_sem])
      have r30 : Slot w1 (w.heap.size + 3) 0 (.int .i64 0) := slotB hb ⟨by simp [go_sem], by simp [go_sem]⟩
      have r31 : Slot w1 (w.heap.size + 3) 1 (.int .i64 0) := slotB hb ⟨by simp [go_sem], by simp [go_sem]⟩
      have zb00 := lt_of_cell b00
      have zb10 := lt_of_cell b10
      have zb20 := lt_of_cell b20
      have zr30 := lt_of_cell r30.1
      have hB : Below w.heap.size w w1 := hX
      clear hb hX
      go_wp2_with fail
      go_name_world W hW
      have hX : Below w1.heap.size w1 W := by rw [← hW]; go_grown
      replace b00 := cellB hX b00
      replace b01 := cellB hX b01
      replace b02 := cellB hX b02
      replace b03 := cellB hX b03
      replace b10 := cellB hX b10
      replace b11 := cellB hX b11
      replace b12 := cellB hX b12
      replace b13 := cellB hX b13
      replace b20 := cellB hX b20
      replace b21 := cellB hX b21
      replace r30 := slotB hX r30
      replace r31 := slotB hX r31
      have u0 : Slot W (w1.heap.size) 0 (.int .i64 u1) := by rw [← hW]; exact ⟨by simp [go_sem], by simp [go_sem]⟩
      have u1x : Slot W (w1.heap.size) 1 (.int .i64 u2) := by rw [← hW]; exact ⟨by simp [go_sem], by simp [go_sem]⟩
      have zu0 := lt_of_cell u0.1
      have zb00 := Nat.lt_of_lt_of_le zb00 hX.size
      have zb10 := Nat.lt_of_lt_of_le zb10 hX.size
      have zb20 := Nat.lt_of_lt_of_le zb20 hX.size
      have zr30 := Nat.lt_of_lt_of_le zr30 hX.size
      replace hB := nextW hB hX
      clear hW hX
      have kL : Facts [(w.heap.size, 0, Value.int .i64 p1), (w.heap.size, 1, .int .i64 p2), (w.heap.size, 2, .int .i64 p3), (w.heap.size, 3, .int .i64 p4), (w.heap.size + 1, 0, .int .i64 q1), (w.heap.size + 1, 1, .int .i64 q2), (w.heap.size + 1, 2, .int .i64 q3), (w.heap.size + 1, 3, .int .i64 q4), (w1.heap.size, 0, .int .i64 u1), (w1.heap.size, 1, .int .i64 u2)] W := ⟨b00, b01, b02, b03, b10, b11, b12, b13, u0.1, u1x.1⟩
      go_cut [10, 11] (fun s10 s11 wx => VarQ wx s10 W.heap.size v1 v2 ∧ s11 = .bool false ∧ Below W.heap.size W wx)
      case first =>
        go_region_held3 (fun w' => w'.cell? ⟨w.heap.size, 0, none⟩ = some (.int .i64 p1) ∧ w'.cell? ⟨w.heap.size, 1, none⟩ = some (.int .i64 p2) ∧ w'.cell? ⟨w.heap.size, 2, none⟩ = some (.int .i64 p3) ∧ w'.cell? ⟨w.heap.size, 3, none⟩ = some (.int .i64 p4) ∧ w'.cell? ⟨w.heap.size + 1, 0, none⟩ = some (.int .i64 q1) ∧ w'.cell? ⟨w.heap.size + 1, 1, none⟩ = some (.int .i64 q2) ∧ w'.cell? ⟨w.heap.size + 1, 2, none⟩ = some (.int .i64 q3) ∧ w'.cell? ⟨w.heap.size + 1, 3, none⟩ = some (.int .i64 q4) ∧ w'.cell? ⟨w1.heap.size, 0, none⟩ = some (.int .i64 u1) ∧ w'.cell? ⟨w1.heap.size, 1, none⟩ = some (.int .i64 u2))
          ((refine Facts.keep kL ?_; go_grown; done))
          ((first
            | (go_at_call 153; (with_reducible refine (HSl.out _).mono ?_); rintro e w5 ⟨rfl, hb5⟩; have hX5 : Below W.heap.size W w5 := nextX (by go_grown) hb5; have z5 := hX5.size; (first | (with_reducible have n5 := fresh2 hb5) | (with_reducible have n5 := fresh2D hb5) | skip))
            | (go_at_call 171; (with_reducible refine (raDiv_any u1 u2 s1 s2 v1 v2 false SU.out.1 SU.out.2 SS.out.1 SS.out.2 HV.out _).mono ?_); rintro e w6 ⟨rfl, hb6⟩; have hY6 : Below w5.heap.size w5 w6 := nextX (by go_grown) hb6; have hX6 : Below W.heap.size W w6 := nextX hX5 hY6; have z6 := hX6.size; (first | (with_reducible have n6 := fresh2 hb6) | (with_reducible have n6 := fresh2D hb6) | (with_reducible have n6 := Fresh2.keep n5 hY6) | skip); (first | obtain ⟨⟨p0, f0⟩, p5, f5⟩ := n6 | skip))))
        all_goals (go_wp2_with fail; go_meet; first
          | exact ⟨VarQ.made (by omega) _ _ _, rfl, by go_grown⟩
          | exact ⟨VarQ.stored ⟨p0, f0⟩ ⟨p5, f5⟩ (by omega) _ _, rfl, by go_grown⟩)
      case rest =>
        obtain ⟨⟨g7, rfl, hg7, ⟨sg0, _⟩, ⟨sg1, _⟩⟩, rfl, hX⟩ := hcut
        replace b00 := cellB hX b00
        replace b01 := cellB hX b01
        replace b02 := cellB hX b02
        replace b03 := cellB hX b03
        replace b10 := cellB hX b10
        replace b11 := cellB hX b11
        replace b12 := cellB hX b12
        replace b13 := cellB hX b13
        replace b20 := cellB hX b20
        replace b21 := cellB hX b21
        replace r30 := slotB hX r30
        replace r31 := slotB hX r31
        replace u0 := slotB hX u0
        replace u1x := slotB hX u1x
        have zb00 := Nat.lt_of_lt_of_le zb00 hX.size
        have zb10 := Nat.lt_of_lt_of_le zb10 hX.size
        have zb20 := Nat.lt_of_lt_of_le zb20 hX.size
        have zr30 := Nat.lt_of_lt_of_le zr30 hX.size
        have zu0 := Nat.lt_of_lt_of_le zu0 hX.size
        replace hB := nextW hB hX
        have zg := lt_of_cell sg0
        clear hX kL
        obtain ⟨q0, k0⟩ := r30
        obtain ⟨q1, k1⟩ := r31
        go_wp2_with fail
        refine bodyPost_ret (v := .tuple #[.agg #[.int .i64 0, .int .i64 0], .bool false]) (by first | (simp [results, Tryz.results163, go_sem, q0, q1]; done) | (simp [results, Tryz.results163, go_sem, q0, q1, zr30]; done)) rfl ⟨rfl, ?_⟩
        go_grown
    | true =>
      rw [if_pos rfl] at h
      have ov : okQ v1 v2 = true := (lowQ_ok hv').1 rfl
      have h' : lowQ (p1 * v2 + v1 * p2) (p2 * v2) = (a, b, t) := by rw [low_add op1 ov]; exact h
      have SV := Lib.hid (Sm.of_ok ov)
      have HA := Lib.hid h'
      clear hp hq hl hy h h' hu hu' hv hv' hsl osl op1 op2 ou ov
      go_enter Tryz.func163, Tryz.ntmps163
      go_wp2_with fail
      refine (raSub_any y1 y2 p3 p4 u1 u2 true SY.out.1 SY.out.2 SP2.out.1 SP2.out.2 HU.out _).mono ?_
      rintro e w1 ⟨rfl, hb⟩
      have hX : Below w.heap.size w w1 := nextX (by go_grown) hb
      have b00 : w1.cell? ⟨w.heap.size, 0, none⟩ = some (.int .i64 p1) := cellB hb (by simp [go_sem])
      have b01 : w1.cell? ⟨w.heap.size, 1, none⟩ = some (.int .i64 p2) := cellB hb (by simp [go_sem])
      have b02 : w1.cell? ⟨w.heap.size, 2, none⟩ = some (.int .i64 p3) := cellB hb (by simp [go_sem])
      have b03 : w1.cell? ⟨w.heap.size, 3, none⟩ = some (.int .i64 p4) := cellB hb (by simp [go_sem])
      have b10 : w1.cell? ⟨w.heap.size + 1, 0, none⟩ = some (.int .i64 q1) := cellB hb (by simp [go_sem])
      have b11 : w1.cell? ⟨w.heap.size + 1, 1, none⟩ = some (.int .i64 q2) := cellB hb (by simp [go_sem])
      have b12 : w1.cell? ⟨w.heap.size + 1, 2, none⟩ = some (.int .i64 q3) := cellB hb (by simp [go_sem])
      have b13 : w1.cell? ⟨w.heap.size + 1, 3, none⟩ = some (.int .i64 q4) := cellB hb (by simp [go_sem])
      have b20 : w1.cell? ⟨w.heap.size + 2, 0, none⟩ = some (.int .i64 y1) := cellB hb (by simp [go_sem])
      have b21 : w1.cell? ⟨w.heap.size + 2, 1, none⟩ = some (.int .i64 y2) := cellB hb (by simp [go_sem])
      have r30 : Slot w1 (w.heap.size + 3) 0 (.int .i64 0) := slotB hb ⟨by simp [go_sem], by simp [go_sem]⟩
      have r31 : Slot w1 (w.heap.size + 3) 1 (.int .i64 0) := slotB hb ⟨by simp [go_sem], by simp [go_sem]⟩
      have zb00 := lt_of_cell b00
      have zb10 := lt_of_cell b10
      have zb20 := lt_of_cell b20
      have zr30 := lt_of_cell r30.1
      have hB : Below w.heap.size w w1 := hX
      clear hb hX
      go_wp2_with fail
      go_name_world W hW
      have hX : Below w1.heap.size w1 W := by rw [← hW]; go_grown
      replace b00 := cellB hX b00
      replace b01 := cellB hX b01
      replace b02 := cellB hX b02
      replace b03 := cellB hX b03
      replace b10 := cellB hX b10
      replace b11 := cellB hX b11
      replace b12 := cellB hX b12
      replace b13 := cellB hX b13
      replace b20 := cellB hX b20
      replace b21 := cellB hX b21
      replace r30 := slotB hX r30
      replace r31 := slotB hX r31
      have u0 : Slot W (w1.heap.size) 0 (.int .i64 u1) := by rw [← hW]; exact ⟨by simp [go_sem], by simp [go_sem]⟩
      have u1x : Slot W (w1.heap.size) 1 (.int .i64 u2) := by rw [← hW]; exact ⟨by simp [go_sem], by simp [go_sem]⟩
      have zu0 := lt_of_cell u0.1
      have zb00 := Nat.lt_of_lt_of_le zb00 hX.size
      have zb10 := Nat.lt_of_lt_of_le zb10 hX.size
      have zb20 := Nat.lt_of_lt_of_le zb20 hX.size
      have zr30 := Nat.lt_of_lt_of_le zr30 hX.size
      replace hB := nextW hB hX
      clear hW hX
      have kL : Facts [(w.heap.size, 0, Value.int .i64 p1), (w.heap.size, 1, .int .i64 p2), (w.heap.size, 2, .int .i64 p3), (w.heap.size, 3, .int .i64 p4), (w.heap.size + 1, 0, .int .i64 q1), (w.heap.size + 1, 1, .int .i64 q2), (w.heap.size + 1, 2, .int .i64 q3), (w.heap.size + 1, 3, .int .i64 q4), (w1.heap.size, 0, .int .i64 u1), (w1.heap.size, 1, .int .i64 u2)] W := ⟨b00, b01, b02, b03, b10, b11, b12, b13, u0.1, u1x.1⟩
      go_cut [10, 11] (fun s10 s11 wx => VarQ wx s10 W.heap.size v1 v2 ∧ s11 = .bool true ∧ Below W.heap.size W wx)
      case first =>
        go_region_held3 (fun w' => w'.cell? ⟨w.heap.size, 0, none⟩ = some (.int .i64 p1) ∧ w'.cell? ⟨w.heap.size, 1, none⟩ = some (.int .i64 p2) ∧ w'.cell? ⟨w.heap.size, 2, none⟩ = some (.int .i64 p3) ∧ w'.cell? ⟨w.heap.size, 3, none⟩ = some (.int .i64 p4) ∧ w'.cell? ⟨w.heap.size + 1, 0, none⟩ = some (.int .i64 q1) ∧ w'.cell? ⟨w.heap.size + 1, 1, none⟩ = some (.int .i64 q2) ∧ w'.cell? ⟨w.heap.size + 1, 2, none⟩ = some (.int .i64 q3) ∧ w'.cell? ⟨w.heap.size + 1, 3, none⟩ = some (.int .i64 q4) ∧ w'.cell? ⟨w1.heap.size, 0, none⟩ = some (.int .i64 u1) ∧ w'.cell? ⟨w1.heap.size, 1, none⟩ = some (.int .i64 u2))
          ((refine Facts.keep kL ?_; go_grown; done))
          ((first
            | (go_at_call 153; (with_reducible refine (HSl.out _).mono ?_); rintro e w5 ⟨rfl, hb5⟩; have hX5 : Below W.heap.size W w5 := nextX (by go_grown) hb5; have z5 := hX5.size; (first | (with_reducible have n5 := fresh2 hb5) | (with_reducible have n5 := fresh2D hb5) | skip))
            | (go_at_call 171; (with_reducible refine (raDiv_any u1 u2 s1 s2 v1 v2 true SU.out.1 SU.out.2 SS.out.1 SS.out.2 HV.out _).mono ?_); rintro e w6 ⟨rfl, hb6⟩; have hY6 : Below w5.heap.size w5 w6 := nextX (by go_grown) hb6; have hX6 : Below W.heap.size W w6 := nextX hX5 hY6; have z6 := hX6.size; (first | (with_reducible have n6 := fresh2 hb6) | (with_reducible have n6 := fresh2D hb6) | (with_reducible have n6 := Fresh2.keep n5 hY6) | skip); (first | obtain ⟨⟨p0, f0⟩, p5, f5⟩ := n6 | skip))))
        all_goals (go_wp2_with fail; go_meet; first
          | exact ⟨VarQ.made (by omega) _ _ _, rfl, by go_grown⟩
          | exact ⟨VarQ.stored ⟨p0, f0⟩ ⟨p5, f5⟩ (by omega) _ _, rfl, by go_grown⟩)
      case rest =>
        obtain ⟨⟨g7, rfl, hg7, ⟨sg0, _⟩, ⟨sg1, _⟩⟩, rfl, hX⟩ := hcut
        replace b00 := cellB hX b00
        replace b01 := cellB hX b01
        replace b02 := cellB hX b02
        replace b03 := cellB hX b03
        replace b10 := cellB hX b10
        replace b11 := cellB hX b11
        replace b12 := cellB hX b12
        replace b13 := cellB hX b13
        replace b20 := cellB hX b20
        replace b21 := cellB hX b21
        replace r30 := slotB hX r30
        replace r31 := slotB hX r31
        replace u0 := slotB hX u0
        replace u1x := slotB hX u1x
        have zb00 := Nat.lt_of_lt_of_le zb00 hX.size
        have zb10 := Nat.lt_of_lt_of_le zb10 hX.size
        have zb20 := Nat.lt_of_lt_of_le zb20 hX.size
        have zr30 := Nat.lt_of_lt_of_le zr30 hX.size
        have zu0 := Nat.lt_of_lt_of_le zu0 hX.size
        replace hB := nextW hB hX
        have zg := lt_of_cell sg0
        clear hX kL
        go_wp2_with fail
        refine (raAdd_any p1 p2 v1 v2 a b t SP1.out.1 SP1.out.2 SV.out.1 SV.out.2 HA.out _).mono ?_
        rintro e w2 ⟨rfl, hb⟩
        have hX : Below wc.heap.size wc w2 := nextX (by go_grown) hb
        replace b00 := cellB hX b00
        replace b01 := cellB hX b01
        replace b02 := cellB hX b02
        replace b03 := cellB hX b03
        replace b10 := cellB hX b10
        replace b11 := cellB hX b11
        replace b12 := cellB hX b12
        replace b13 := cellB hX b13
        replace b20 := cellB hX b20
        replace b21 := cellB hX b21
        replace r30 := slotB hX r30
        replace r31 := slotB hX r31
        replace u0 := slotB hX u0
        replace u1x := slotB hX u1x
        replace sg0 := cellB hX sg0
        replace sg1 := cellB hX sg1
        have zb00 := Nat.lt_of_lt_of_le zb00 hX.size
        have zb10 := Nat.lt_of_lt_of_le zb10 hX.size
        have zb20 := Nat.lt_of_lt_of_le zb20 hX.size
        have zr30 := Nat.lt_of_lt_of_le zr30 hX.size
        have zu0 := Nat.lt_of_lt_of_le zu0 hX.size
        have zg := Nat.lt_of_lt_of_le zg hX.size
        replace hB := nextW hB hX
        clear hb hX
        obtain ⟨q0, k0⟩ := r30
        obtain ⟨q1, k1⟩ := r31
        go_wp2_with fail
        refine bodyPost_ret (v := .tuple #[.agg #[.int .i64 a, .int .i64 b], .bool t]) (by first | (simp [results, Tryz.results163, go_sem, q0, q1]; done) | (simp [results, Tryz.results163, go_sem, q0, q1, zr30]; done)) rfl ⟨rfl, ?_⟩
        go_grown

end Go.Proofs.YtkeajfgcjmhmiaaGreat
