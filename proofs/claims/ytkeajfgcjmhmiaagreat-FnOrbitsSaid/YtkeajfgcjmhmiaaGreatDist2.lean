/- OrbitDistance of the reference. -/
import Derived.Test.YtkeajfgcjmhmiaaGreatDist
namespace Go.Proofs.YtkeajfgcjmhmiaaGreat
open Go.RowKit

def RelFarS (l1 l2 : List Q) (gm : Nat) (W0 : World) (i : Value) (wr : World) : Prop := ∃ j : Nat, j ≤ l1.length ∧ i = .int .i64 j ∧ Slot wr gm 0 (.int .i64 (farN l1 l2 j).1.1) ∧ Slot wr gm 1 (.int .i64 (farN l1 l2 j).1.2) ∧ (farN l1 l2 j).2 = false ∧ Below W0.heap.size W0 wr
theorem startY {ps : List Pt} {x y : Q} {n : Int} (h : isStartB ps x n = true) : isStartB ps y n = unitQ y.1 y.2 := by
  unfold isStartB at h ⊢
  simp only [Bool.and_eq_true] at h
  rw [h.1, h.2.2]; simp
theorem farQ_a {ps : List Pt} {x y : Q} {n : Int} (h : (orbOf ps x n).2 = false ∨ (orbOf ps y n).2 = false) : farQ ps x y n = (0, 0, false) := by
  unfold farQ
  rw [if_neg]
  rcases h with h | h <;> rw [h] <;> simp

set_option maxHeartbeats 1600000 in
theorem sOrbitDistance_is (ps : List Pt) (v : Value) (x1 x2 y1 y2 n : Int) (a b : Int) (t : Bool) (hl : farQ ps (x1, x2) (y1, y2) n = (a, b, t)) (w : World) (hv : RdP w v ps) (hn : ps.length ≤ 1048576) :
    Calls Tryz.prog 57 #[v, .agg #[.int .i64 x1, .int .i64 x2], .agg #[.int .i64 y1, .int .i64 y2], .int .i64 n] w (LowEnd a b t w) := by
  have HV := Lib.hid hv
  rcases hs : isStartB ps (x1, x2) n with _ | _
  · obtain ⟨rfl, rfl, rfl⟩ : 0 = a ∧ 0 = b ∧ false = t := by rw [farQ_a (Or.inl (by rw [orbOf_a hs]))] at hl; simpa using hl
    have HS := Lib.hid hs
    clear hv hl hs
    go_enter Tryz.func57, Tryz.ntmps57
    go_wp2_with fail
    refine (orAsked_is ps v x1 x2 n false _ (HV.out.keep (by go_grown)) hn HS.out).mono ?_
    rintro e w1 ⟨rfl, hb⟩
    have hX : Below w.heap.size w w1 := nextX (by go_grown) hb
    have b00 : w1.cell? ⟨w.heap.size, 0, none⟩ = some (.int .i64 x1) := cellB hb (by simp [go_sem])
    have b01 : w1.cell? ⟨w.heap.size, 1, none⟩ = some (.int .i64 x2) := cellB hb (by simp [go_sem])
    have b10 : w1.cell? ⟨w.heap.size + 1, 0, none⟩ = some (.int .i64 y1) := cellB hb (by simp [go_sem])
    have b11 : w1.cell? ⟨w.heap.size + 1, 1, none⟩ = some (.int .i64 y2) := cellB hb (by simp [go_sem])
    have r20 : Slot w1 (w.heap.size + 2) 0 (.int .i64 0) := slotB hb ⟨by simp [go_sem], by simp [go_sem]⟩
    have r21 : Slot w1 (w.heap.size + 2) 1 (.int .i64 0) := slotB hb ⟨by simp [go_sem], by simp [go_sem]⟩
    have zb00 := lt_of_cell b00
    have zb10 := lt_of_cell b10
    have zr20 := lt_of_cell r20.1
    have hB : Below w.heap.size w w1 := hX
    clear hb hX
    obtain ⟨q0, k0⟩ := r20
    obtain ⟨q1, k1⟩ := r21
    go_wp2_with fail
    refine bodyPost_ret (v := .tuple #[.agg #[.int .i64 0, .int .i64 0], .bool false]) (by first | (simp [results, Tryz.results57, go_sem, q0, q1]; done) | (simp [results, Tryz.results57, go_sem, q0, q1, zr20]; done)) rfl ⟨rfl, ?_⟩
    go_grown
  · have HS := Lib.hid hs
    rcases hy : unitQ y1 y2 with _ | _
    · obtain ⟨rfl, rfl, rfl⟩ : 0 = a ∧ 0 = b ∧ false = t := by rw [farQ_a (Or.inr (by rw [orbOf_a (by rw [startY hs]; exact hy)]))] at hl; simpa using hl
      have HY := Lib.hid hy
      clear hv hl hs hy
      go_enter Tryz.func57, Tryz.ntmps57
      go_wp2_with fail
      refine (orAsked_is ps v x1 x2 n true _ (HV.out.keep (by go_grown)) hn HS.out).mono ?_
      rintro e w1 ⟨rfl, hb⟩
      have hX : Below w.heap.size w w1 := nextX (by go_grown) hb
      have b00 : w1.cell? ⟨w.heap.size, 0, none⟩ = some (.int .i64 x1) := cellB hb (by simp [go_sem])
      have b01 : w1.cell? ⟨w.heap.size, 1, none⟩ = some (.int .i64 x2) := cellB hb (by simp [go_sem])
      have b10 : w1.cell? ⟨w.heap.size + 1, 0, none⟩ = some (.int .i64 y1) := cellB hb (by simp [go_sem])
      have b11 : w1.cell? ⟨w.heap.size + 1, 1, none⟩ = some (.int .i64 y2) := cellB hb (by simp [go_sem])
      have r20 : Slot w1 (w.heap.size + 2) 0 (.int .i64 0) := slotB hb ⟨by simp [go_sem], by simp [go_sem]⟩
      have r21 : Slot w1 (w.heap.size + 2) 1 (.int .i64 0) := slotB hb ⟨by simp [go_sem], by simp [go_sem]⟩
      have zb00 := lt_of_cell b00
      have zb10 := lt_of_cell b10
      have zr20 := lt_of_cell r20.1
      have hB : Below w.heap.size w w1 := hX
      clear hb hX
      go_wp2_with fail
      refine (raUnit_any y1 y2 _).mono ?_
      rintro e w2 ⟨he, hb⟩
      rw [HY.out] at he
      subst he
      have hX : Below w1.heap.size w1 w2 := nextX (by go_grown) hb
      replace b00 := cellB hX b00
      replace b01 := cellB hX b01
      replace b10 := cellB hX b10
      replace b11 := cellB hX b11
      replace r20 := slotB hX r20
      replace r21 := slotB hX r21
      have zb00 := Nat.lt_of_lt_of_le zb00 hX.size
      have zb10 := Nat.lt_of_lt_of_le zb10 hX.size
      have zr20 := Nat.lt_of_lt_of_le zr20 hX.size
      replace hB := nextW hB hX
      clear hb hX
      obtain ⟨q0, k0⟩ := r20
      obtain ⟨q1, k1⟩ := r21
      go_wp2_with fail
      refine bodyPost_ret (v := .tuple #[.agg #[.int .i64 0, .int .i64 0], .bool false]) (by first | (simp [results, Tryz.results57, go_sem, q0, q1]; done) | (simp [results, Tryz.results57, go_sem, q0, q1, zr20]; done)) rfl ⟨rfl, ?_⟩
      go_grown
    · have HY := Lib.hid hy
      have hsy : isStartB ps (y1, y2) n = true := by rw [startY hs]; exact hy
      obtain ⟨hm, hx, h0, h60⟩ := isStartB_parts hs
      obtain ⟨k, rfl⟩ := Int.eq_ofNat_of_zero_le h0
      have hk : k ≤ 60 := by omega
      have hln1 := orbQ_len ps (x1, x2) k
      have hln2 := orbQ_len ps (y1, y2) k
      have hf1 := orbOf_b hs
      have hf2 := orbOf_b hsy
      have hg1 := @orbOf_c ps (x1, x2) k
      have hg2 := @orbOf_c ps (y1, y2) k
      have hu1 := orbQ_unit (x := (x1, x2)) hm hx k
      have hu2 := orbQ_unit (x := (y1, y2)) hm hy k
      have R1 := orRun_is ps v x1 x2 k
      generalize orbQ ps (x1, x2) k = l1 at *
      have R2 := orRun_is ps v y1 y2 k
      generalize orbQ ps (y1, y2) k = l2 at *
      have HU1 := Lib.hid hu1
      have HU2 := Lib.hid hu2
      have HR1 := Lib.hid (fun W h => R1 W h hm hx hk)
      have HR2 := Lib.hid (fun W h => R2 W h hm hy hk)
      have HG1 := Lib.hid (fun h : ¬ l1.length = k + 1 => farQ_a (y := (y1, y2)) (Or.inl (congrArg Prod.snd (hg1 h))))
      have HG2 := Lib.hid (fun h : ¬ l2.length = k + 1 => farQ_a (x := (x1, x2)) (Or.inr (congrArg Prod.snd (hg2 h))))
      have HF1 := Lib.hid hf1
      have HF2 := Lib.hid hf2
      have HH := Lib.hid hl
      have HL1 := Lib.hid hln1
      have HL2 := Lib.hid hln2
      clear hv hl hs hy hsy hm hx h0 h60 hln1 hln2 hf1 hf2 hg1 hg2 hu1 hu2 R1 R2
      go_enter Tryz.func57, Tryz.ntmps57
      go_wp2_with fail
      refine (orAsked_is ps v x1 x2 k true _ (HV.out.keep (by go_grown)) hn HS.out).mono ?_
      rintro e w1 ⟨rfl, hb⟩
      have hX : Below w.heap.size w w1 := nextX (by go_grown) hb
      have b00 : w1.cell? ⟨w.heap.size, 0, none⟩ = some (.int .i64 x1) := cellB hb (by simp [go_sem])
      have b01 : w1.cell? ⟨w.heap.size, 1, none⟩ = some (.int .i64 x2) := cellB hb (by simp [go_sem])
      have b10 : w1.cell? ⟨w.heap.size + 1, 0, none⟩ = some (.int .i64 y1) := cellB hb (by simp [go_sem])
      have b11 : w1.cell? ⟨w.heap.size + 1, 1, none⟩ = some (.int .i64 y2) := cellB hb (by simp [go_sem])
      have r20 : Slot w1 (w.heap.size + 2) 0 (.int .i64 0) := slotB hb ⟨by simp [go_sem], by simp [go_sem]⟩
      have r21 : Slot w1 (w.heap.size + 2) 1 (.int .i64 0) := slotB hb ⟨by simp [go_sem], by simp [go_sem]⟩
      have zb00 := lt_of_cell b00
      have zb10 := lt_of_cell b10
      have zr20 := lt_of_cell r20.1
      have hB : Below w.heap.size w w1 := hX
      clear hb hX
      go_wp2_with fail
      refine (raUnit_any y1 y2 _).mono ?_
      rintro e w2 ⟨he, hb⟩
      rw [HY.out] at he
      subst he
      have hX : Below w1.heap.size w1 w2 := nextX (by go_grown) hb
      replace b00 := cellB hX b00
      replace b01 := cellB hX b01
      replace b10 := cellB hX b10
      replace b11 := cellB hX b11
      replace r20 := slotB hX r20
      replace r21 := slotB hX r21
      have zb00 := Nat.lt_of_lt_of_le zb00 hX.size
      have zb10 := Nat.lt_of_lt_of_le zb10 hX.size
      have zr20 := Nat.lt_of_lt_of_le zr20 hX.size
      replace hB := nextW hB hX
      clear hb hX
      go_wp2_with fail
      go_name_world W hW
      have hW0 : Below w2.heap.size w2 W := by rw [← hW]; go_grown
      have kL : Facts [(w.heap.size, 0, .int .i64 x1), (w.heap.size, 1, .int .i64 x2), (w.heap.size + 1, 0, .int .i64 y1), (w.heap.size + 1, 1, .int .i64 y2)] W := ⟨cellB hW0 b00, cellB hW0 b01, cellB hW0 b10, cellB hW0 b11⟩
      have hBW := nextW hB hW0
      have r0 := slotB hW0 r20
      have r1 := slotB hW0 r21
      clear hW hW0 b00 b01 b10 b11 r20 r21 hB
      go_cut [10, 11] (fun s10 s11 wx => OwQ 0 31 wx s10 l1 ∧ OwQ 0 31 wx s11 l2 ∧ Below W.heap.size W wx)
      case first =>
        go_region_held3 (fun w' => w'.cell? ⟨w.heap.size, 0, none⟩ = some (.int .i64 x1) ∧ w'.cell? ⟨w.heap.size, 1, none⟩ = some (.int .i64 x2) ∧ w'.cell? ⟨w.heap.size + 1, 0, none⟩ = some (.int .i64 y1) ∧ w'.cell? ⟨w.heap.size + 1, 1, none⟩ = some (.int .i64 y2))
          ((refine Facts.keep kL ?_; go_grown; done))
          ((first
            | (go_at_call_of 123 x1; (with_reducible refine (HR1.out _ (HV.out.keep (nextX hBW (by go_grown)))).mono ?_); rintro e v1 ⟨s1, rfl, ow1, hb1⟩; have hX1 : Below W.heap.size W v1 := nextX (by go_grown) hb1; (first | (replace ow2 := OwQ.keep ow2 hb1) | skip))
            | (go_at_call_of 123 y1; (with_reducible refine (HR2.out _ (HV.out.keep (nextX hBW (by go_grown)))).mono ?_); rintro e v2 ⟨s2, rfl, ow2, hb2⟩; have hX2 : Below W.heap.size W v2 := nextX (by go_grown) hb2; (first | (replace ow1 := OwQ.keep ow1 hb2) | skip))))
        all_goals (go_wp2_with fail; go_meet; exact ⟨OwQ.low ow1 (Nat.zero_le _), OwQ.low ow2 (Nat.zero_le _), by go_grown⟩)
      case rest =>
        obtain ⟨ow1, ow2, hX⟩ := hcut
        replace hBW := nextW hBW hX
        replace r0 := slotB hX r0
        replace r1 := slotB hX r1
        have zr := lt_of_cell r0.1
        have HRS := Lib.hid (And.intro r0 r1)
        clear hX kL
        by_cases hf1 : l1.length = k + 1
        · by_cases hf2 : l2.length = k + 1
          · have hh := HH.out
            unfold farQ at hh
            rw [HF1.out hf1, HF2.out hf2] at hh
            simp only [Bool.true_and] at hh
            rw [hf1] at hh
            have HHH := Lib.hid hh
            have HLe1 := Lib.hid hf1
            have HLe2 := Lib.hid hf2
            obtain ⟨g1, cap1, hq1, hc1, hc2, -, hg1, hcell1⟩ := ow1.lit hf1 (by omega)
            obtain ⟨g2, cap2, hq2, hd1, hd2, -, hg2, hcell2⟩ := ow2.lit hf2 (by omega)
            subst hq1 hq2
            unfold maxLen at hc2 hd2
            have hC1 : CellsQ wc g1 l1 := hcell1
            have hC2 : CellsQ wc g2 l2 := hcell2
            have HC1 := Lib.hid hC1
            have HC2 := Lib.hid hC2
            clear hf1 hf2 hh ow1 ow2 hcell1 hcell2 hC1 hC2 r0 r1
            have b0 : (k : Int) < ((k + 1 : Nat) : Int) := by omega
            go_wp2_with fail
            refine (raInt_any 0 _).mono ?_
            rintro e w3 ⟨rfl, hb⟩
            have hX : Below wc.heap.size wc w3 := nextX (by go_grown) hb
            have hB3 := nextW hBW hX
            have z3 := hX.size
            have HX3 := Lib.hid hX
            clear hb hX
            go_wp2_with fail
            go_name_world W0 hW
            have hW0 : Below w3.heap.size w3 W0 := by rw [← hW]; go_grown
            have sm : Slot W0 w3.heap.size 0 (.int .i64 0) ∧ Slot W0 w3.heap.size 1 (.int .i64 1) := by rw [← hW]; exact slotNew _ _ _ _
            have zm := lt_of_cell sm.1.1
            have SM := Lib.hid sm
            clear hW sm
            go_loopw [49] (fun i wr => RelFarS l1 l2 w3.heap.size w3 i wr) (fun i _ => k + 1 - (intOf i).toNat)
            case atStart => exact ⟨0, Nat.zero_le _, rfl, SM.out.1, SM.out.2, rfl, hW0⟩
            case round =>
              obtain ⟨j, hj, rfl, sm0, sm1, hno, hb⟩ := hrel
              have hzb := hb.size
              have hlen1 := HLe1.out
              have hlen2 := HLe2.out
              have hbc := nextW HX3.out hb
              have rr0 := slotB hbc HRS.out.1
              have rr1 := slotB hbc HRS.out.2
              have hBr := nextW hBW hbc
              have zrr := lt_of_cell rr0.1
              by_cases hlt : j < k + 1
              · have hq1 := List.getElem?_eq_getElem (show j < l1.length by omega)
                have hq2 := List.getElem?_eq_getElem (show j < l2.length by omega)
                have hf := farN_next hq1 hq2
                have u1 := HU1.out _ (List.mem_of_getElem? hq1)
                have u2 := HU2.out _ (List.mem_of_getElem? hq2)
                generalize l1[j] = q at *
                generalize l2[j] = p at *
                obtain ⟨q1, q2⟩ := q
                obtain ⟨p1, p2⟩ := p
                obtain ⟨c0, c1⟩ := HC1.out _ _ hq1
                obtain ⟨d0, d1⟩ := HC2.out _ _ hq2
                replace c0 := cellB hbc c0
                replace c1 := cellB hbc c1
                replace d0 := cellB hbc d0
                replace d1 := cellB hbc d1
                have hmo := farN_ok l1 l2 j
                rcases hm : farN l1 l2 j with ⟨⟨m1, m2⟩, bad⟩
                rw [hm] at sm0 sm1 hno hmo hf
                simp only at hno
                subst hno
                have hks := keepAbs_ok (q1, q2) (p1, p2)
                rcases ha : absQ (q1, q2) (p1, p2) with ⟨s1, s2, ta⟩
                rw [ha] at hks hf
                have HA := Lib.hid ha
                have SQ := Lib.hid (unitQ_ok u1)
                have SP := Lib.hid (unitQ_ok u2)
                have SMm := Lib.hid (Sm.of_ok hmo)
                simp only [Bool.false_or] at sm0 sm1 hf
                have HF := Lib.hid hf
                have HKs := Lib.hid hks
                have kL : Facts [(g1, j * 2, .int .i64 q1), (g1, j * 2 + 1, .int .i64 q2), (g2, j * 2, .int .i64 p1), (g2, j * 2 + 1, .int .i64 p2)] wr := ⟨c0, c1, d0, d1⟩
                have S0 := Lib.hid sm0
                have S1 := Lib.hid sm1
                have zgm := lt_of_cell sm0.1
                have RR := Lib.hid (And.intro rr0 rr1)
                clear hq1 hq2 hf u1 u2 hm hmo hks ha sm0 sm1 c0 c1 d0 d1 rr0 rr1
                have b1 : (0 : Int) ≤ (j : Int) := by omega
                have b2 : (j : Int) < ((k + 1 : Nat) : Int) := by omega
                have v3 : IntKind.i64.wrap (j : Int) = (j : Int) := IntWalk.i64_in _ (by omega)
                go_wp2_with fail
                go_cut [14, 15] (fun s14 s15 wx => VarQ wx s14 wr.heap.size s1 s2 ∧ s15 = .bool ta ∧ Below wr.heap.size wr wx)
                case first =>
                  go_region_held3 (fun w' => w'.cell? ⟨g1, j * 2, none⟩ = some (.int .i64 q1) ∧ w'.cell? ⟨g1, j * 2 + 1, none⟩ = some (.int .i64 q2) ∧ w'.cell? ⟨g2, j * 2, none⟩ = some (.int .i64 p1) ∧ w'.cell? ⟨g2, j * 2 + 1, none⟩ = some (.int .i64 p2))
                    ((refine Facts.keep kL ?_; go_grown; done))
                    ((first
                      | (go_at_call 129; (with_reducible refine (orApart_any q1 q2 p1 p2 s1 s2 ta SQ.out SP.out HA.out _).mono ?_); rintro e w5 ⟨rfl, hb5⟩; have hX5 : Below wr.heap.size wr w5 := nextX (by go_grown) hb5; have z5 := hX5.size; (first | (with_reducible have n5 := fresh2 hb5) | (with_reducible have n5 := fresh2D hb5) | skip); (first | obtain ⟨⟨p0, f0⟩, p5, f5⟩ := n5 | skip))))
                  all_goals (go_wp2_with fail; go_meet; first
                    | exact ⟨VarQ.made (by omega) _ _ _, rfl, by go_grown⟩
                    | exact ⟨VarQ.stored ⟨p0, f0⟩ ⟨p5, f5⟩ (by omega) _ _, rfl, by go_grown⟩)
                case rest =>
                  obtain ⟨⟨g, rfl, hg, sg0, sg1⟩, rfl, hX⟩ := hcut
                  have sm0 := slotB hX S0.out
                  have sm1 := slotB hX S1.out
                  obtain ⟨rr0, rr1⟩ := RR.out
                  replace rr0 := slotB hX rr0
                  replace rr1 := slotB hX rr1
                  have hzX := hX.size
                  replace hb := nextW hb hX
                  replace hBr := nextW hBr hX
                  have zg := lt_of_cell sg0.1
                  clear kL
                  rcases ta with _ | _
                  · have hbad : (farN l1 l2 (k + 1)).2 = true := by
                      have h1 : (farN l1 l2 (j + 1)).2 = true := by rw [HF.out]; rfl
                      have h2 := farN_bad h1 (k - j)
                      rwa [show j + 1 + (k - j) = k + 1 by omega] at h2
                    obtain ⟨rfl, rfl, rfl⟩ : 0 = a ∧ 0 = b ∧ false = t := by have := HHH.out; rw [hbad] at this; simpa using this
                    obtain ⟨z0, kz0⟩ := rr0
                    obtain ⟨z1, kz1⟩ := rr1
                    clear sm0 sm1 sg0 sg1 hbad
                    go_wp2_with fail
                    refine bodyPost_ret (v := .tuple #[.agg #[.int .i64 0, .int .i64 0], .bool false]) (by simp [results, Tryz.results57, go_sem, z0, z1]) rfl ⟨rfl, ?_⟩
                    go_grown
                  · have hks := HKs.out
                    have hkq : keepQ (s1, s2, true) = (s1, s2) := rfl
                    rw [hkq] at hks
                    have hff := HF.out
                    rw [hkq] at hff
                    simp only [Bool.not_true] at hff
                    unfold bigQ at hff
                    simp only at hff
                    obtain ⟨y, hy⟩ : ∃ y, cmpQ m1 m2 s1 s2 = y := ⟨_, rfl⟩
                    rw [lessQ_cmp' _ _ _ _ _ hy] at hff
                    have HYc := Lib.hid hy
                    have SS := Lib.hid (Sm.of_ok hks)
                    have M0 := Lib.hid sm0
                    have M1 := Lib.hid sm1
                    have G0 := Lib.hid sg0
                    have G1 := Lib.hid sg1
                    have m0 := sm0.1
                    have m9 := sm1.1
                    have e0 := sg0.1
                    have e1 := sg1.1
                    clear hks hkq hy sm0 sm1 sg0 sg1 rr0 rr1
                    go_wp2_with fail
                    refine (raCmp_is m1 m2 s1 s2 y SMm.out SS.out HYc.out _).mono ?_
                    rintro e w7 ⟨rfl, hb7⟩
                    have hX7 := hb7
                    obtain ⟨m0, mz0⟩ := slotB hX7 M0.out
                    obtain ⟨m9, mz1⟩ := slotB hX7 M1.out
                    replace e0 := cellB hX7 e0
                    replace e1 := cellB hX7 e1
                    have hb9 := nextW hb hX7
                    clear hb7 hX7
                    by_cases hy0 : y < 0
                    · have dy : decide (y < (0 : Int)) = true := by simpa using hy0
                      rw [dy] at hff
                      simp only [if_true] at hff
                      have HFF := Lib.hid hff
                      clear hff
                      go_wp2_with fail
                      go_roundw
                      case rel =>
                        have hs := stored2 ⟨m0, mz0⟩ ⟨m9, mz1⟩ (.int .i64 s1) (.int .i64 s2)
                        refine ⟨j + 1, by omega, by go_num, ?_, ?_, ?_, by go_grown⟩
                        · rw [HFF.out]; exact hs.1
                        · rw [HFF.out]; exact hs.2
                        · rw [HFF.out]
                      case measure => simp [intOf]; omega
                    · have dy : decide (y < (0 : Int)) = false := by simpa using hy0
                      rw [dy] at hff
                      simp only [Bool.false_eq_true, if_false] at hff
                      have HFF := Lib.hid hff
                      clear hff
                      go_wp2_with fail
                      go_roundw
                      case rel => exact ⟨j + 1, by omega, by go_num, by rw [HFF.out]; exact ⟨m0, mz0⟩, by rw [HFF.out]; exact ⟨m9, mz1⟩, by rw [HFF.out], hb9⟩
                      case measure => simp [intOf]; omega
              · obtain rfl : j = k + 1 := by omega
                rcases hm : farN l1 l2 (k + 1) with ⟨⟨m1, m2⟩, bad⟩
                have hhh := HHH.out
                rw [hm] at hhh sm0 sm1 hno
                simp only at sm0 sm1 hno
                subst hno
                obtain ⟨rfl, rfl, rfl⟩ : m1 = a ∧ m2 = b ∧ true = t := by simpa using hhh
                have h0 := sm0.1
                have h1 := sm1.1
                obtain ⟨z0, kz0⟩ := rr0
                obtain ⟨z1, kz1⟩ := rr1
                clear sm0 sm1 hhh hm
                go_wp2_with fail
                refine bodyPost_ret (v := .tuple #[.agg #[.int .i64 m1, .int .i64 m2], .bool true]) (by simp [results, Tryz.results57, go_sem, z0, z1]) rfl ⟨rfl, ?_⟩
                go_grown
          · obtain ⟨rfl, rfl, rfl⟩ : 0 = a ∧ 0 = b ∧ false = t := by have := HH.out; rw [HG2.out hf2] at this; simpa using this
            obtain ⟨g1, cap1, hq1, hc1, hc2, -, hg1, -⟩ := ow1.lit hf1 (by omega)
            subst hq1
            unfold maxLen at hc2
            have b0 : (k : Int) < ((k + 1 : Nat) : Int) := by omega
            have hln := HL2.out
            obtain ⟨m, hm⟩ : ∃ m, l2.length = m := ⟨_, rfl⟩
            rw [hm] at hln
            have hmk : m ≤ k := by omega
            obtain ⟨g3, cap3, hq3, hc3, hc4, -, hg3, -⟩ := ow2.lit hm (by omega)
            subst hq3
            unfold maxLen at hc4
            have b9 : (m : Int) ≤ (k : Int) := by omega
            obtain ⟨z0, kz0⟩ := r0
            obtain ⟨z1, kz1⟩ := r1
            clear ow1 ow2
            go_wp2_with fail
            refine bodyPost_ret (v := .tuple #[.agg #[.int .i64 0, .int .i64 0], .bool false]) (by simp [results, Tryz.results57, go_sem, z0, z1]) rfl ⟨rfl, ?_⟩
            go_grown
        · obtain ⟨rfl, rfl, rfl⟩ : 0 = a ∧ 0 = b ∧ false = t := by have := HH.out; rw [HG1.out hf1] at this; simpa using this
          have hln := HL1.out
          obtain ⟨m, hm⟩ : ∃ m, l1.length = m := ⟨_, rfl⟩
          rw [hm] at hln
          have hmk : m ≤ k := by omega
          obtain ⟨g3, cap3, hq3, hc3, hc4, -, hg3, -⟩ := ow1.lit hm (by omega)
          subst hq3
          unfold maxLen at hc4
          have b9 : (m : Int) ≤ (k : Int) := by omega
          obtain ⟨z0, kz0⟩ := r0
          obtain ⟨z1, kz1⟩ := r1
          obtain ⟨A2, cap2, hq2, hd1, hd2⟩ := ownsRow_slice ow2
          subst hq2
          unfold maxLen at hd2
          clear ow1 ow2
          go_wp2_with fail
          refine bodyPost_ret (v := .tuple #[.agg #[.int .i64 0, .int .i64 0], .bool false]) (by simp [results, Tryz.results57, go_sem, z0, z1]) rfl ⟨rfl, ?_⟩
          go_grown

end Go.Proofs.YtkeajfgcjmhmiaaGreat
