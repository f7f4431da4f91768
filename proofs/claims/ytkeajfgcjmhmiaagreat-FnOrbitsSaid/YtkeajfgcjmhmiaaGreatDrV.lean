/- Drawn orbits: DrawVisitsOf. -/
import Derived.Test.YtkeajfgcjmhmiaaGreatDrP
namespace Go.Proofs.YtkeajfgcjmhmiaaGreat
open Go.RowKit

set_option maxHeartbeats 400000 in
theorem res_vis (T : Array Value) (Z : World) (g0 g1 g2 : Nat) (r : Value) (x1 x2 n a b c d : Int) (h2 : T[2]?.getD undef = r) (h3 : T[3]?.getD undef = .pointer (some ⟨g0, 0, none⟩)) (h4 : T[4]?.getD undef = .int .i64 n) (h5 : T[5]?.getD undef = .pointer (some ⟨g1, 0, none⟩)) (h6 : T[6]?.getD undef = .pointer (some ⟨g2, 0, none⟩))
    (r00 : Z.cell? ⟨g0, 0, none⟩ = some (.int .i64 x1)) (r01 : Z.cell? ⟨g0, 1, none⟩ = some (.int .i64 x2)) (r10 : Z.cell? ⟨g1, 0, none⟩ = some (.int .i64 a)) (r11 : Z.cell? ⟨g1, 1, none⟩ = some (.int .i64 b)) (r20 : Z.cell? ⟨g2, 0, none⟩ = some (.int .i64 c)) (r21 : Z.cell? ⟨g2, 1, none⟩ = some (.int .i64 d)) :
    Sem.run Tryz.prog (results Tryz.f52 T) Z = Result.ok (Value.tuple #[r, .agg #[.int .i64 x1, .int .i64 x2], .int .i64 n, .agg #[.int .i64 a, .int .i64 b], .agg #[.int .i64 c, .int .i64 d]]) Z := by
  unfold results
  rw [Tryz.results52]
  simp [go_sem, h2, h3, h4, h5, h6, r00, r01, r10, r11, r20, r21]

theorem slotPut {X : World} {g o : Nat} {v u : Value} (h : Slot X g o v) : Slot (X.setCell ⟨g, o, none⟩ u) g o u := by
  obtain ⟨h0, h1⟩ := h
  exact ⟨by simp [go_sem, h0], by simp [go_sem, h1]⟩
theorem slotNot {X : World} {g b o i : Nat} {v u : Value} (h : Slot X b o v) (hn : g ≠ b) : Slot (X.setCell ⟨g, i, none⟩ u) b o v := slotS h (fun e => hn (Prod.mk.inj e).1)
theorem slotOff {X : World} {g o i : Nat} {v u : Value} (h : Slot X g o v) (hn : i ≠ o) : Slot (X.setCell ⟨g, i, none⟩ u) g o v := slotS h (fun e => hn (Prod.mk.inj e).2)
/-- Three boxes of two cells, written one behind the other. -/
theorem sixV {X : World} {g0 g1 g2 : Nat} {u0 u1 u2 u3 u4 u5 a b c d e f : Value} (h01 : g0 ≠ g1) (h02 : g0 ≠ g2) (h12 : g1 ≠ g2) (s0 : Slot X g0 0 u0) (s1 : Slot X g0 1 u1) (s2 : Slot X g1 0 u2) (s3 : Slot X g1 1 u3) (s4 : Slot X g2 0 u4) (s5 : Slot X g2 1 u5) :
    ((((((X.setCell ⟨g0, 0, none⟩ a).setCell ⟨g0, 1, none⟩ b).setCell ⟨g1, 0, none⟩ c).setCell ⟨g1, 1, none⟩ d).setCell ⟨g2, 0, none⟩ e).setCell ⟨g2, 1, none⟩ f).cell? ⟨g0, 0, none⟩ = some a ∧
    ((((((X.setCell ⟨g0, 0, none⟩ a).setCell ⟨g0, 1, none⟩ b).setCell ⟨g1, 0, none⟩ c).setCell ⟨g1, 1, none⟩ d).setCell ⟨g2, 0, none⟩ e).setCell ⟨g2, 1, none⟩ f).cell? ⟨g0, 1, none⟩ = some b ∧
    ((((((X.setCell ⟨g0, 0, none⟩ a).setCell ⟨g0, 1, none⟩ b).setCell ⟨g1, 0, none⟩ c).setCell ⟨g1, 1, none⟩ d).setCell ⟨g2, 0, none⟩ e).setCell ⟨g2, 1, none⟩ f).cell? ⟨g1, 0, none⟩ = some c ∧
    ((((((X.setCell ⟨g0, 0, none⟩ a).setCell ⟨g0, 1, none⟩ b).setCell ⟨g1, 0, none⟩ c).setCell ⟨g1, 1, none⟩ d).setCell ⟨g2, 0, none⟩ e).setCell ⟨g2, 1, none⟩ f).cell? ⟨g1, 1, none⟩ = some d ∧
    ((((((X.setCell ⟨g0, 0, none⟩ a).setCell ⟨g0, 1, none⟩ b).setCell ⟨g1, 0, none⟩ c).setCell ⟨g1, 1, none⟩ d).setCell ⟨g2, 0, none⟩ e).setCell ⟨g2, 1, none⟩ f).cell? ⟨g2, 0, none⟩ = some e ∧
    ((((((X.setCell ⟨g0, 0, none⟩ a).setCell ⟨g0, 1, none⟩ b).setCell ⟨g1, 0, none⟩ c).setCell ⟨g1, 1, none⟩ d).setCell ⟨g2, 0, none⟩ e).setCell ⟨g2, 1, none⟩ f).cell? ⟨g2, 1, none⟩ = some f := by
  refine ⟨(slotNot (slotNot (slotNot (slotNot (slotOff (slotPut s0) (by decide)) h01.symm) h01.symm) h02.symm) h02.symm).1, (slotNot (slotNot (slotNot (slotNot (slotPut (slotOff s1 (by decide))) h01.symm) h01.symm) h02.symm) h02.symm).1, ?_, ?_, ?_, ?_⟩
  · exact (slotNot (slotNot (slotOff (slotPut (slotNot (slotNot s2 h01) h01)) (by decide)) h12.symm) h12.symm).1
  · exact (slotNot (slotNot (slotPut (slotOff (slotNot (slotNot s3 h01) h01) (by decide))) h12.symm) h12.symm).1
  · exact (slotOff (slotPut (slotNot (slotNot (slotNot (slotNot s4 h02) h02) h12) h12)) (by decide)).1
  · exact (slotPut (slotOff (slotNot (slotNot (slotNot (slotNot s5 h02) h02) h12) h12) (by decide))).1

set_option maxRecDepth 100000 in
set_option maxHeartbeats 12800000 in
theorem drawVisits_is (v : Value) (bs : List Int) (w : World) (hv : RdN .u8 w v bs) (hb : ∀ x ∈ bs, 0 ≤ x ∧ x ≤ 255) :
    Calls Tryz.prog 52 #[v] w (RowVis w) := by
  have HV := Lib.hid hv
  have HBs := Lib.hid hb
  obtain ⟨A, cv, rfl, hl, hm, hcell⟩ := hv
  clear hb hcell
  go_enter Tryz.func52, Tryz.ntmps52
  go_wp2_with fail
  refine (orbiter_is (w.heap.size + 1 + 1 + 1) _ 0 _ ⟨⟨by simp [go_sem], by simp [go_sem]⟩, ⟨0, Nat.le_refl _, by simp [go_sem], by simp [go_sem]⟩, 0, by omega, by omega, by simp [go_sem], by simp [go_sem]⟩ (HV.out.codeF HBs.out (by go_grown) (by omega)) (by omega)).mono ?_
  rintro e w1 ⟨r, ps, x1, x2, rfl, hr, hpl, hc, hb⟩
  have q00 : Slot w1 w.heap.size 0 (.int .i64 0) := slotU hb (by omega) ⟨by simp [go_sem], by simp [go_sem]⟩
  have q01 : Slot w1 w.heap.size 1 (.int .i64 0) := slotU hb (by omega) ⟨by simp [go_sem], by simp [go_sem]⟩
  have q10 : Slot w1 (w.heap.size + 1) 0 (.int .i64 0) := slotU hb (by omega) ⟨by simp [go_sem], by simp [go_sem]⟩
  have q11 : Slot w1 (w.heap.size + 1) 1 (.int .i64 0) := slotU hb (by omega) ⟨by simp [go_sem], by simp [go_sem]⟩
  have q20 : Slot w1 (w.heap.size + 1 + 1) 0 (.int .i64 0) := slotU hb (by omega) ⟨by simp [go_sem], by simp [go_sem]⟩
  have q21 : Slot w1 (w.heap.size + 1 + 1) 1 (.int .i64 0) := slotU hb (by omega) ⟨by simp [go_sem], by simp [go_sem]⟩
  have hB1 : Below w.heap.size w w1 := But.below (by go_grown : Below w.heap.size w _) hb (by omega) (by go_size)
  have HR1 := Lib.hid (hr.low (b := w.heap.size + 1 + 1 + 1 + 1) (by first | go_size | (simp; done) | (simp; omega)))
  have HD1 := Lib.hid (DS.start hc (Code.keepU (HV.out.codeF HBs.out (by go_grown) (by omega)) hb))
  clear hc hb hr
  have gl1 := HD1.out.lt
  have zw1 := hB1.size
  have hrb : ∀ b, r.ownBlock = some b → w.heap.size + 1 + 1 + 1 < b := fun b hb => by have := HR1.out.blk b hb; omega
  go_wp2_with fail
  refine (xOf_is (w.heap.size + 1 + 1 + 1) _ _ (w.heap.size + 1 + 1 + 1 + 1) _ ps _ (HD1.out.cur.keep (by go_grown)) (HD1.out.code.keep (by go_grown)) (OwP.keep HR1.out (by go_grown)) (by omega) (by omega) (by omega)).mono ?_
  rintro e w2 ⟨a, b, rfl, hc, hb⟩
  have HD2 := Lib.hid (HD1.out.step (by go_grown) hc hb)
  have HR2 := Lib.hid ((OwP.keep HR1.out (by go_grown)).keepU hb (fun h => by have := hrb _ h; omega))
  have x00 : Slot w2 w1.heap.size 0 (.int .i64 x1) := slotU hb (by omega) ⟨by simp [go_sem], by simp [go_sem]⟩
  have x01 : Slot w2 w1.heap.size 1 (.int .i64 x2) := slotU hb (by omega) ⟨by simp [go_sem], by simp [go_sem]⟩
  replace q00 := DS.slot (by go_grown) hb (by omega) q00
  replace q01 := DS.slot (by go_grown) hb (by omega) q01
  replace q10 := DS.slot (by go_grown) hb (by omega) q10
  replace q11 := DS.slot (by go_grown) hb (by omega) q11
  replace q20 := DS.slot (by go_grown) hb (by omega) q20
  replace q21 := DS.slot (by go_grown) hb (by omega) q21
  clear hc hb
  have gl2 := HD2.out.lt
  have zx := lt_of_cell x00.1
  go_wp2_with fail
  refine (xOf_is (w.heap.size + 1 + 1 + 1) _ _ (w.heap.size + 1 + 1 + 1 + 1) _ ps _ (HD2.out.cur.keep (by go_grown)) (HD2.out.code.keep (by go_grown)) (OwP.keep HR2.out (by go_grown)) (by omega) (by omega) (by omega)).mono ?_
  rintro e w3 ⟨c, d, rfl, hc, hb⟩
  have HD3 := Lib.hid (HD2.out.step (by go_grown) hc hb)
  have HR3 := Lib.hid ((OwP.keep HR2.out (by go_grown)).keepU hb (fun h => by have := hrb _ h; omega))
  replace q00 := DS.slot (by go_grown) hb (by omega) q00
  replace q01 := DS.slot (by go_grown) hb (by omega) q01
  replace q10 := DS.slot (by go_grown) hb (by omega) q10
  replace q11 := DS.slot (by go_grown) hb (by omega) q11
  replace q20 := DS.slot (by go_grown) hb (by omega) q20
  replace q21 := DS.slot (by go_grown) hb (by omega) q21
  replace x00 := DS.slot (by go_grown) hb (by omega) x00
  replace x01 := DS.slot (by go_grown) hb (by omega) x01
  clear hc hb
  have gl3 := HD3.out.lt
  have zx3 := lt_of_cell x00.1
  go_upto_region 4 with fail
  go_name_world W0 hW
  have a00 : Slot W0 w3.heap.size 0 (.int .i64 a) := by rw [← hW]; exact ⟨by simp [go_sem], by simp [go_sem]⟩
  have a01 : Slot W0 w3.heap.size 1 (.int .i64 b) := by rw [← hW]; exact ⟨by simp [go_sem], by simp [go_sem]⟩
  have a10 : Slot W0 (w3.heap.size + 1) 0 (.int .i64 c) := by rw [← hW]; exact ⟨by simp [go_sem], by simp [go_sem]⟩
  have a11 : Slot W0 (w3.heap.size + 1) 1 (.int .i64 d) := by rw [← hW]; exact ⟨by simp [go_sem], by simp [go_sem]⟩
  have hB0 : Below w3.heap.size w3 W0 := by rw [← hW]; go_grown
  clear hW
  replace q00 := slotB hB0 q00
  replace q01 := slotB hB0 q01
  replace q10 := slotB hB0 q10
  replace q11 := slotB hB0 q11
  replace q20 := slotB hB0 q20
  replace q21 := slotB hB0 q21
  replace x00 := slotB hB0 x00
  replace x01 := slotB hB0 x01
  have HDW := Lib.hid ((DS.start HD3.out.cur HD3.out.code).grow hB0)
  have HRW := Lib.hid (OwP.keep HR3.out hB0)
  have glW := HDW.out.lt
  have za := lt_of_cell a00.1
  have zb := lt_of_cell a10.1
  have z0 := hB0.size
  go_cut [42] (fun c wx => (∃ t, c = .bool t) ∧ DS (w.heap.size + 1 + 1 + 1) _ (0 + 600 + 24 + 24 + 2) w3 wx ∧ But (w.heap.size + 1 + 1 + 1) W0 wx)
  case first => as_aux_lemma =>
    obtain ⟨a0, fa0⟩ := a00
    obtain ⟨a1, fa1⟩ := a01
    obtain ⟨a2, fa2⟩ := a10
    obtain ⟨a3, fa3⟩ := a11
    rcases ha : unitQ a b with _ | _
    · have HA := Lib.hid ha
      clear ha
      go_wp2_with fail
      refine (raUnit_any a b _).mono ?_
      rintro e w4 ⟨he, hb⟩
      rw [HA.out] at he
      subst he
      have hX := nextX (by go_grown : Below W0.heap.size W0 _) hb
      clear hb
      go_wp2_with fail
      go_meet
      exact ⟨⟨_, rfl⟩, (HDW.out.grow (nextX hX (by go_grown))).more (by omega), But.of_below (nextX hX (by go_grown)) (Nat.le_refl _)⟩
    · rcases hb2 : unitQ c d with _ | _
      · have HA := Lib.hid ha
        have HB := Lib.hid hb2
        clear ha hb2
        go_wp2_with fail
        refine (raUnit_any a b _).mono ?_
        rintro e w4 ⟨he, hb⟩
        rw [HA.out] at he
        subst he
        have hX := nextX (by go_grown : Below W0.heap.size W0 _) hb
        replace a0 := cellB hX a0
        replace a1 := cellB hX a1
        replace a2 := cellB hX a2
        replace a3 := cellB hX a3
        clear hb
        go_wp2_with fail
        refine (raUnit_any c d _).mono ?_
        rintro e w5 ⟨he, hb⟩
        rw [HB.out] at he
        subst he
        have hY := nextX (by go_grown : Below w4.heap.size w4 _) hb
        replace hX := nextW hX hY
        replace a0 := cellB hY a0
        replace a1 := cellB hY a1
        replace a2 := cellB hY a2
        replace a3 := cellB hY a3
        clear hb hY
        go_wp2_with fail
        go_meet
        exact ⟨⟨_, rfl⟩, (HDW.out.grow (nextX hX (by go_grown))).more (by omega), But.of_below (nextX hX (by go_grown)) (Nat.le_refl _)⟩
      · have HA := Lib.hid ha
        have HB := Lib.hid hb2
        have HSa := Lib.hid (Sm.of_ok (unitQ_ok ha))
        have HSc := Lib.hid (Sm.of_ok (unitQ_ok hb2))
        clear ha hb2
        obtain ⟨o, ho⟩ : ∃ o, cmpQ a b c d = o := ⟨_, rfl⟩
        have HO := Lib.hid ho
        clear ho
        by_cases h0 : 0 < o
        · have h0' : decide (0 < o) = true := decide_eq_true h0
          go_wp2_with fail
          refine (raUnit_any a b _).mono ?_
          rintro e w4 ⟨he, hb⟩
          rw [HA.out] at he
          subst he
          have hX := nextX (by go_grown : Below W0.heap.size W0 _) hb
          replace a0 := cellB hX a0
          replace a1 := cellB hX a1
          replace a2 := cellB hX a2
          replace a3 := cellB hX a3
          clear hb
          go_wp2_with fail
          refine (raUnit_any c d _).mono ?_
          rintro e w5 ⟨he, hb⟩
          rw [HB.out] at he
          subst he
          have hY := nextX (by go_grown : Below w4.heap.size w4 _) hb
          replace hX := nextW hX hY
          replace a0 := cellB hY a0
          replace a1 := cellB hY a1
          replace a2 := cellB hY a2
          replace a3 := cellB hY a3
          clear hb hY
          go_wp2_with fail
          refine (raCmp_is a b c d o HSa.out HSc.out HO.out _).mono ?_
          rintro e w6 ⟨rfl, hb⟩
          have hY := nextX (by go_grown : Below w5.heap.size w5 _) hb
          replace hX := nextW hX hY
          clear hb hY
          go_wp2_with fail
          refine (one_is (w.heap.size + 1 + 1 + 1) _ _ 12 _ (HDW.out.cur.keep (nextW hX (by go_grown))) (HDW.out.code.keep (nextW hX (by go_grown))) (by omega) (by omega)).mono ?_
          rintro e w7 ⟨t, rfl, hc, hb⟩
          have HD7 := Lib.hid (HDW.out.step (nextW hX (by go_grown)) hc hb)
          have hU := (But.of_below (nextW hX (by go_grown)) (Nat.le_refl _)).trans hb
          clear hc hb
          go_wp2_with fail
          go_meet
          exact ⟨⟨_, rfl⟩, HD7.out.grow (by go_grown), hU.next (by go_grown) (Nat.le_refl _)⟩
        · have h0' : decide (0 < o) = false := decide_eq_false h0
          go_wp2_with fail
          refine (raUnit_any a b _).mono ?_
          rintro e w4 ⟨he, hb⟩
          rw [HA.out] at he
          subst he
          have hX := nextX (by go_grown : Below W0.heap.size W0 _) hb
          replace a0 := cellB hX a0
          replace a1 := cellB hX a1
          replace a2 := cellB hX a2
          replace a3 := cellB hX a3
          clear hb
          go_wp2_with fail
          refine (raUnit_any c d _).mono ?_
          rintro e w5 ⟨he, hb⟩
          rw [HB.out] at he
          subst he
          have hY := nextX (by go_grown : Below w4.heap.size w4 _) hb
          replace hX := nextW hX hY
          replace a0 := cellB hY a0
          replace a1 := cellB hY a1
          replace a2 := cellB hY a2
          replace a3 := cellB hY a3
          clear hb hY
          go_wp2_with fail
          refine (raCmp_is a b c d o HSa.out HSc.out HO.out _).mono ?_
          rintro e w6 ⟨rfl, hb⟩
          have hY := nextX (by go_grown : Below w5.heap.size w5 _) hb
          replace hX := nextW hX hY
          clear hb hY
          go_wp2_with fail
          go_meet
          exact ⟨⟨_, rfl⟩, (HDW.out.grow (nextX hX (by go_grown))).more (by omega), But.of_below (nextX hX (by go_grown)) (Nat.le_refl _)⟩
  case rest => as_aux_lemma =>
    obtain ⟨⟨t, rfl⟩, hds, hb⟩ := hcut
    obtain ⟨w8, hwc⟩ : ∃ X : World, X = wc := ⟨_, rfl⟩
    subst hwc
    have HD8 := Lib.hid hds
    have hz8 := hb.size
    have HR8 := Lib.hid (HRW.out.keepU hb (fun h => by have := hrb _ h; omega))
    replace q00 := slotU hb (by omega) q00
    replace q01 := slotU hb (by omega) q01
    replace q10 := slotU hb (by omega) q10
    replace q11 := slotU hb (by omega) q11
    replace q20 := slotU hb (by omega) q20
    replace q21 := slotU hb (by omega) q21
    replace x00 := slotU hb (by omega) x00
    replace x01 := slotU hb (by omega) x01
    replace a00 := slotU hb (by omega) a00
    replace a01 := slotU hb (by omega) a01
    replace a10 := slotU hb (by omega) a10
    replace a11 := slotU hb (by omega) a11
    have gl8 := HD8.out.lt
    clear hds hb
    rcases t with _ | _
    · obtain ⟨a0, fa0⟩ := a00
      obtain ⟨a1, fa1⟩ := a01
      obtain ⟨a2, fa2⟩ := a10
      obtain ⟨a3, fa3⟩ := a11
      have za8 := lt_of_cell a0
      go_wp2_with fail
      go_name_world V hV
      have hbV : But w3.heap.size w8 V := by
        rw [← hV]
        first | exact But.refl _ _ | exact But.drew (But.refl _ _)
      have y0 : Slot V w3.heap.size 0 (.int .i64 a) := by rw [← hV]; exact ⟨by simp [go_sem, a0], by simp [go_sem, fa0]⟩
      have y1 : Slot V w3.heap.size 1 (.int .i64 b) := by rw [← hV]; exact ⟨by simp [go_sem, a1], by simp [go_sem, fa1]⟩
      have HDV : Hid (DS (w.heap.size + 1 + 1 + 1) _ (0 + 600 + 24 + 24 + 2) w3 V) := Lib.hid (by rw [← hV]; exact HD8.out)
      have HRV := Lib.hid (HR8.out.keepU hbV (fun h => by have := (World.ownsRow.lt HR3.out _ h).2; omega))
      replace q00 := slotU hbV (by omega) q00
      replace q01 := slotU hbV (by omega) q01
      replace q10 := slotU hbV (by omega) q10
      replace q11 := slotU hbV (by omega) q11
      replace q20 := slotU hbV (by omega) q20
      replace q21 := slotU hbV (by omega) q21
      replace x00 := slotU hbV (by omega) x00
      replace x01 := slotU hbV (by omega) x01
      have a10 : Slot V (w3.heap.size + 1) 0 (.int .i64 c) := slotU hbV (by omega) ⟨a2, fa2⟩
      have a11 : Slot V (w3.heap.size + 1) 1 (.int .i64 d) := slotU hbV (by omega) ⟨a3, fa3⟩
      have hzV := hbV.size
      have glV := HDV.out.lt
      clear hV hbV a0 a1 a2 a3 fa0 fa1 fa2 fa3 HV HBs HD1 HR1 HD2 HR2 HDW HRW HD8 HR8
      have kL : Facts [(w1.heap.size, 0, .int .i64 x1), (w1.heap.size, 1, .int .i64 x2), (w3.heap.size, 0, .int .i64 a), (w3.heap.size, 1, .int .i64 b), (w3.heap.size + 1, 0, .int .i64 c), (w3.heap.size + 1, 1, .int .i64 d)] V := ⟨x00.1, x01.1, y0.1, y1.1, a10.1, a11.1⟩
      refine wp_region_HT (S := (fun w' : World => w'.cell? ⟨w1.heap.size, 0, none⟩ = some (.int .i64 x1) ∧ w'.cell? ⟨w1.heap.size, 1, none⟩ = some (.int .i64 x2) ∧ w'.cell? ⟨w3.heap.size, 0, none⟩ = some (.int .i64 a) ∧ w'.cell? ⟨w3.heap.size, 1, none⟩ = some (.int .i64 b) ∧ w'.cell? ⟨w3.heap.size + 1, 0, none⟩ = some (.int .i64 c) ∧ w'.cell? ⟨w3.heap.size + 1, 1, none⟩ = some (.int .i64 d))) 10 (by kernel_rfl) (by kernel_rfl) ?_
      have hS0 : (fun w' : World => w'.cell? ⟨w1.heap.size, 0, none⟩ = some (.int .i64 x1) ∧ w'.cell? ⟨w1.heap.size, 1, none⟩ = some (.int .i64 x2) ∧ w'.cell? ⟨w3.heap.size, 0, none⟩ = some (.int .i64 a) ∧ w'.cell? ⟨w3.heap.size, 1, none⟩ = some (.int .i64 b) ∧ w'.cell? ⟨w3.heap.size + 1, 0, none⟩ = some (.int .i64 c) ∧ w'.cell? ⟨w3.heap.size + 1, 1, none⟩ = some (.int .i64 d)) _ := kL
      refine HT.take' (i := 0) (v := ?_) rfl (by kernel_rfl) (by decide) (by kernel_rfl) (by kernel_rfl) (fun _ _ _ h => h) (by rfl) (fun w' hS => ?_) hS0 ?_
      rotate_left
      focus
        obtain ⟨k0, k1, k2, k3, k4, k5⟩ := hS
        go_simp
        try with_reducible rfl
        done
      simp only [Act.put, List.setIfInBounds_toArray, List.set_cons_zero, List.set_cons_succ]
      refine HT.take' (i := 1) (v := ?_) rfl (by kernel_rfl) (by decide) (by kernel_rfl) (by kernel_rfl) (fun _ _ _ h => h) (by rfl) (fun w' hS => ?_) hS0 ?_
      rotate_left
      focus
        obtain ⟨k0, k1, k2, k3, k4, k5⟩ := hS
        go_simp
        try with_reducible rfl
        done
      simp only [Act.put, List.setIfInBounds_toArray, List.set_cons_zero, List.set_cons_succ]
      refine HT.take' (i := 2) (v := ?_) rfl (by kernel_rfl) (by decide) (by kernel_rfl) (by kernel_rfl) (fun _ _ _ h => h) (by rfl) (fun w' hS => ?_) hS0 ?_
      rotate_left
      focus
        obtain ⟨k0, k1, k2, k3, k4, k5⟩ := hS
        go_simp
        try with_reducible rfl
        done
      simp only [Act.put, List.setIfInBounds_toArray, List.set_cons_zero, List.set_cons_succ]
      refine HT.take' (i := 4) (v := ?_) rfl (by kernel_rfl) (by decide) (by kernel_rfl) (by kernel_rfl) (fun _ _ _ h => h) (by rfl) (fun w' hS => ?_) hS0 ?_
      rotate_left
      focus
        obtain ⟨k0, k1, k2, k3, k4, k5⟩ := hS
        go_simp
        try with_reducible rfl
        done
      simp only [Act.put, List.setIfInBounds_toArray, List.set_cons_zero, List.set_cons_succ]
      refine HT.take' (i := 5) (v := ?_) rfl (by kernel_rfl) (by decide) (by kernel_rfl) (by kernel_rfl) (fun _ _ _ h => h) (by rfl) (fun w' hS => ?_) hS0 ?_
      rotate_left
      focus
        obtain ⟨k0, k1, k2, k3, k4, k5⟩ := hS
        go_simp
        try with_reducible rfl
        done
      simp only [Act.put, List.setIfInBounds_toArray, List.set_cons_zero, List.set_cons_succ]
      refine HT.one' (i := 3) rfl (by decide) (by kernel_rfl) (fun K hK => ?_)
      go_simp
      refine (stepsOf_is (w.heap.size + 1 + 1 + 1) _ _ _ (HDV.out.cur.keep (by go_grown)) (HDV.out.code.keep (by go_grown)) (by omega)).mono ?_
      rintro e w9 ⟨n, rfl, hn, hc, hb⟩
      have HD9 := Lib.hid (HDV.out.step (by go_grown) hc hb)
      have HR9 := Lib.hid ((OwP.keep HRV.out (by go_grown)).keepU hb (fun h => by have := hrb _ h; omega))
      have kM := Facts.keepU (Facts.keep kL (by go_grown)) hb (by simp; omega)
      obtain ⟨p0, f0⟩ := DS.slot (by go_grown) hb (by omega) q00
      obtain ⟨p1, f1⟩ := DS.slot (by go_grown) hb (by omega) q01
      obtain ⟨p2, f2⟩ := DS.slot (by go_grown) hb (by omega) q10
      obtain ⟨p3, f3⟩ := DS.slot (by go_grown) hb (by omega) q11
      obtain ⟨p4, f4⟩ := DS.slot (by go_grown) hb (by omega) q20
      obtain ⟨p5, f5⟩ := DS.slot (by go_grown) hb (by omega) q21
      have zq := lt_of_cell p0
      have zq1 := lt_of_cell p2
      have zq2 := lt_of_cell p4
      clear hc hb
      go_wp2_with fail
      refine hK _ _ kM ?_
      clear hK
      try simp only [Act.put, List.setIfInBounds_toArray, List.set_cons_zero, List.set_cons_succ]
      have hS1 : (fun w' : World => w'.cell? ⟨w1.heap.size, 0, none⟩ = some (.int .i64 x1) ∧ w'.cell? ⟨w1.heap.size, 1, none⟩ = some (.int .i64 x2) ∧ w'.cell? ⟨w3.heap.size, 0, none⟩ = some (.int .i64 a) ∧ w'.cell? ⟨w3.heap.size, 1, none⟩ = some (.int .i64 b) ∧ w'.cell? ⟨w3.heap.size + 1, 0, none⟩ = some (.int .i64 c) ∧ w'.cell? ⟨w3.heap.size + 1, 1, none⟩ = some (.int .i64 d)) w9 := kM
      refine HT.take' (i := 6) (v := ?_) rfl (by kernel_rfl) (by decide) (by kernel_rfl) (by kernel_rfl) (fun _ _ _ h => h) (by rfl) (fun w' hS => ?_) hS1 ?_
      rotate_left
      focus
        obtain ⟨k0, k1, k2, k3, k4, k5⟩ := hS
        go_simp
        try with_reducible rfl
        done
      simp only [Act.put, List.setIfInBounds_toArray, List.set_cons_zero, List.set_cons_succ]
      have kN : Facts [(w1.heap.size, 0, .int .i64 x1), (w1.heap.size, 1, .int .i64 x2), (w3.heap.size, 0, .int .i64 a), (w3.heap.size, 1, .int .i64 b), (w3.heap.size + 1, 0, .int .i64 c), (w3.heap.size + 1, 1, .int .i64 d)] ((w9.setCell ⟨w.heap.size, 0, none⟩ (.int .i64 x1)).setCell ⟨w.heap.size, 1, none⟩ (.int .i64 x2)) := (Facts.put (Facts.put kM (by simp; omega)) (by simp; omega))
      refine HT.one' (i := 7) rfl (by decide) (by kernel_rfl) (fun K hK => ?_)
      go_simp
      refine hK _ _ kN ?_
      clear hK
      try simp only [Act.put, List.setIfInBounds_toArray, List.set_cons_zero, List.set_cons_succ]
      have hS2 : (fun w' : World => w'.cell? ⟨w1.heap.size, 0, none⟩ = some (.int .i64 x1) ∧ w'.cell? ⟨w1.heap.size, 1, none⟩ = some (.int .i64 x2) ∧ w'.cell? ⟨w3.heap.size, 0, none⟩ = some (.int .i64 a) ∧ w'.cell? ⟨w3.heap.size, 1, none⟩ = some (.int .i64 b) ∧ w'.cell? ⟨w3.heap.size + 1, 0, none⟩ = some (.int .i64 c) ∧ w'.cell? ⟨w3.heap.size + 1, 1, none⟩ = some (.int .i64 d)) ((w9.setCell ⟨w.heap.size, 0, none⟩ (.int .i64 x1)).setCell ⟨w.heap.size, 1, none⟩ (.int .i64 x2)) := kN
      refine HT.take' (i := 8) (v := ?_) rfl (by kernel_rfl) (by decide) (by kernel_rfl) (by kernel_rfl) (fun _ _ _ h => h) (by rfl) (fun w' hS => ?_) hS2 ?_
      rotate_left
      focus
        obtain ⟨k0, k1, k2, k3, k4, k5⟩ := hS
        go_simp
        try with_reducible rfl
        done
      simp only [Act.put, List.setIfInBounds_toArray, List.set_cons_zero, List.set_cons_succ]
      have kO : Facts [(w1.heap.size, 0, .int .i64 x1), (w1.heap.size, 1, .int .i64 x2), (w3.heap.size, 0, .int .i64 a), (w3.heap.size, 1, .int .i64 b), (w3.heap.size + 1, 0, .int .i64 c), (w3.heap.size + 1, 1, .int .i64 d)] ((((w9.setCell ⟨w.heap.size, 0, none⟩ (.int .i64 x1)).setCell ⟨w.heap.size, 1, none⟩ (.int .i64 x2)).setCell ⟨w.heap.size + 1, 0, none⟩ (.int .i64 a)).setCell ⟨w.heap.size + 1, 1, none⟩ (.int .i64 b)) := (Facts.put (Facts.put kN (by simp; omega)) (by simp; omega))
      refine HT.one' (i := 9) rfl (by decide) (by kernel_rfl) (fun K hK => ?_)
      go_simp
      refine hK _ _ kO ?_
      clear hK
      try simp only [Act.put, List.setIfInBounds_toArray, List.set_cons_zero, List.set_cons_succ]
      refine HT.done (by kernel_rfl) ?_
      simp only [List.drop_succ_cons, List.drop_zero]
      clear hS0 hS1 hS2 kL kM kN kO
      go_wp2_with fail
      generalize hZ : ((((((w9.setCell ⟨w.heap.size, 0, none⟩ (.int .i64 x1)).setCell ⟨w.heap.size, 1, none⟩ (.int .i64 x2)).setCell ⟨w.heap.size + 1, 0, none⟩ (.int .i64 a)).setCell ⟨w.heap.size + 1, 1, none⟩ (.int .i64 b)).setCell ⟨w.heap.size + 1 + 1, 0, none⟩ (.int .i64 c)).setCell ⟨w.heap.size + 1 + 1, 1, none⟩ (.int .i64 d)) = Z
      have r00 : Z.cell? ⟨w.heap.size, 0, none⟩ = some (.int .i64 x1) := by
        rw [← hZ]
        exact sixV (by omega) (by omega) (by omega) ⟨p0, f0⟩ ⟨p1, f1⟩ ⟨p2, f2⟩ ⟨p3, f3⟩ ⟨p4, f4⟩ ⟨p5, f5⟩ |>.1
      have r01 : Z.cell? ⟨w.heap.size, 1, none⟩ = some (.int .i64 x2) := by
        rw [← hZ]
        exact sixV (by omega) (by omega) (by omega) ⟨p0, f0⟩ ⟨p1, f1⟩ ⟨p2, f2⟩ ⟨p3, f3⟩ ⟨p4, f4⟩ ⟨p5, f5⟩ |>.2.1
      have r10 : Z.cell? ⟨w.heap.size + 1, 0, none⟩ = some (.int .i64 a) := by
        rw [← hZ]
        exact sixV (by omega) (by omega) (by omega) ⟨p0, f0⟩ ⟨p1, f1⟩ ⟨p2, f2⟩ ⟨p3, f3⟩ ⟨p4, f4⟩ ⟨p5, f5⟩ |>.2.2.1
      have r11 : Z.cell? ⟨w.heap.size + 1, 1, none⟩ = some (.int .i64 b) := by
        rw [← hZ]
        exact sixV (by omega) (by omega) (by omega) ⟨p0, f0⟩ ⟨p1, f1⟩ ⟨p2, f2⟩ ⟨p3, f3⟩ ⟨p4, f4⟩ ⟨p5, f5⟩ |>.2.2.2.1
      have r20 : Z.cell? ⟨w.heap.size + 1 + 1, 0, none⟩ = some (.int .i64 c) := by
        rw [← hZ]
        exact sixV (by omega) (by omega) (by omega) ⟨p0, f0⟩ ⟨p1, f1⟩ ⟨p2, f2⟩ ⟨p3, f3⟩ ⟨p4, f4⟩ ⟨p5, f5⟩ |>.2.2.2.2.1
      have r21 : Z.cell? ⟨w.heap.size + 1 + 1, 1, none⟩ = some (.int .i64 d) := by
        rw [← hZ]
        exact sixV (by omega) (by omega) (by omega) ⟨p0, f0⟩ ⟨p1, f1⟩ ⟨p2, f2⟩ ⟨p3, f3⟩ ⟨p4, f4⟩ ⟨p5, f5⟩ |>.2.2.2.2.2
      refine bodyPost_ret (v := .tuple #[r, .agg #[.int .i64 x1, .int .i64 x2], .int .i64 n, .agg #[.int .i64 a, .int .i64 b], .agg #[.int .i64 c, .int .i64 d]]) (res_vis _ Z _ _ _ r x1 x2 n a b c d rfl rfl rfl rfl rfl r00 r01 r10 r11 r20 r21) rfl ⟨_, ps, x1, x2, n, a, b, c, d, rfl, ?_, hpl, ?_⟩
      · rw [← hZ]; exact (OwP.setO (OwP.setO (OwP.setO (OwP.setO (OwP.setO (OwP.setO (HR9.out) (fun h => by have := HR9.out.blk _ h; omega)) (fun h => by have := HR9.out.blk _ h; omega)) (fun h => by have := HR9.out.blk _ h; omega)) (fun h => by have := HR9.out.blk _ h; omega)) (fun h => by have := HR9.out.blk _ h; omega)) (fun h => by have := HR9.out.blk _ h; omega)).low (by omega)
      · have hBw : Below w.heap.size w w9 := But.below hB1 (HD3.out.but.trans HD9.out.but) (by omega) (by omega)
        rw [← hZ]
        go_grown
    · obtain ⟨a0, fa0⟩ := a00
      obtain ⟨a1, fa1⟩ := a01
      obtain ⟨a2, fa2⟩ := a10
      obtain ⟨a3, fa3⟩ := a11
      have za8 := lt_of_cell a0
      go_wp2_with fail
      go_name_world V hV
      have hbV : But w3.heap.size w8 V := by
        rw [← hV]
        first | exact But.setCell (But.setCell (But.refl _ _) _) _ | exact But.setCell (But.setCell (But.drew (But.refl _ _)) _) _ | exact But.drew (But.setCell (But.setCell (But.refl _ _) _) _)
      have y0 : Slot V w3.heap.size 0 (.int .i64 c) := by rw [← hV]; exact slotOff (slotPut ⟨a0, fa0⟩) (by decide)
      have y1 : Slot V w3.heap.size 1 (.int .i64 d) := by rw [← hV]; exact slotPut (slotOff ⟨a1, fa1⟩ (by decide))
      have hBV : Below w.heap.size w w8 := But.below hB1 (HD3.out.but.trans HD8.out.but) (by omega) (by omega)
      have HDV : Hid (DS (w.heap.size + 1 + 1 + 1) _ (0 + 600 + 24 + 24 + 2) w3 V) := Lib.hid (by rw [← hV]; exact ⟨(HD8.out.cur.setO (by omega) _).setO (by omega) _, HV.out.codeF HBs.out (by go_grown) (by omega), (HD8.out.but.setNew (Nat.le_refl _) _).setNew (Nat.le_refl _) _⟩)
      have HRV := Lib.hid (HR8.out.keepU hbV (fun h => by have := (World.ownsRow.lt HR3.out _ h).2; omega))
      replace q00 := slotU hbV (by omega) q00
      replace q01 := slotU hbV (by omega) q01
      replace q10 := slotU hbV (by omega) q10
      replace q11 := slotU hbV (by omega) q11
      replace q20 := slotU hbV (by omega) q20
      replace q21 := slotU hbV (by omega) q21
      replace x00 := slotU hbV (by omega) x00
      replace x01 := slotU hbV (by omega) x01
      have a10 : Slot V (w3.heap.size + 1) 0 (.int .i64 c) := slotU hbV (by omega) ⟨a2, fa2⟩
      have a11 : Slot V (w3.heap.size + 1) 1 (.int .i64 d) := slotU hbV (by omega) ⟨a3, fa3⟩
      have hzV := hbV.size
      have glV := HDV.out.lt
      clear hV hbV a0 a1 a2 a3 fa0 fa1 fa2 fa3 HV HBs HD1 HR1 HD2 HR2 HDW HRW HD8 HR8
      have kL : Facts [(w1.heap.size, 0, .int .i64 x1), (w1.heap.size, 1, .int .i64 x2), (w3.heap.size, 0, .int .i64 c), (w3.heap.size, 1, .int .i64 d), (w3.heap.size + 1, 0, .int .i64 c), (w3.heap.size + 1, 1, .int .i64 d)] V := ⟨x00.1, x01.1, y0.1, y1.1, a10.1, a11.1⟩
      refine wp_region_HT (S := (fun w' : World => w'.cell? ⟨w1.heap.size, 0, none⟩ = some (.int .i64 x1) ∧ w'.cell? ⟨w1.heap.size, 1, none⟩ = some (.int .i64 x2) ∧ w'.cell? ⟨w3.heap.size, 0, none⟩ = some (.int .i64 c) ∧ w'.cell? ⟨w3.heap.size, 1, none⟩ = some (.int .i64 d) ∧ w'.cell? ⟨w3.heap.size + 1, 0, none⟩ = some (.int .i64 c) ∧ w'.cell? ⟨w3.heap.size + 1, 1, none⟩ = some (.int .i64 d))) 10 (by kernel_rfl) (by kernel_rfl) ?_
      have hS0 : (fun w' : World => w'.cell? ⟨w1.heap.size, 0, none⟩ = some (.int .i64 x1) ∧ w'.cell? ⟨w1.heap.size, 1, none⟩ = some (.int .i64 x2) ∧ w'.cell? ⟨w3.heap.size, 0, none⟩ = some (.int .i64 c) ∧ w'.cell? ⟨w3.heap.size, 1, none⟩ = some (.int .i64 d) ∧ w'.cell? ⟨w3.heap.size + 1, 0, none⟩ = some (.int .i64 c) ∧ w'.cell? ⟨w3.heap.size + 1, 1, none⟩ = some (.int .i64 d)) _ := kL
      refine HT.take' (i := 0) (v := ?_) rfl (by kernel_rfl) (by decide) (by kernel_rfl) (by kernel_rfl) (fun _ _ _ h => h) (by rfl) (fun w' hS => ?_) hS0 ?_
      rotate_left
      focus
        obtain ⟨k0, k1, k2, k3, k4, k5⟩ := hS
        go_simp
        try with_reducible rfl
        done
      simp only [Act.put, List.setIfInBounds_toArray, List.set_cons_zero, List.set_cons_succ]
      refine HT.take' (i := 1) (v := ?_) rfl (by kernel_rfl) (by decide) (by kernel_rfl) (by kernel_rfl) (fun _ _ _ h => h) (by rfl) (fun w' hS => ?_) hS0 ?_
      rotate_left
      focus
        obtain ⟨k0, k1, k2, k3, k4, k5⟩ := hS
        go_simp
        try with_reducible rfl
        done
      simp only [Act.put, List.setIfInBounds_toArray, List.set_cons_zero, List.set_cons_succ]
      refine HT.take' (i := 2) (v := ?_) rfl (by kernel_rfl) (by decide) (by kernel_rfl) (by kernel_rfl) (fun _ _ _ h => h) (by rfl) (fun w' hS => ?_) hS0 ?_
      rotate_left
      focus
        obtain ⟨k0, k1, k2, k3, k4, k5⟩ := hS
        go_simp
        try with_reducible rfl
        done
      simp only [Act.put, List.setIfInBounds_toArray, List.set_cons_zero, List.set_cons_succ]
      refine HT.take' (i := 4) (v := ?_) rfl (by kernel_rfl) (by decide) (by kernel_rfl) (by kernel_rfl) (fun _ _ _ h => h) (by rfl) (fun w' hS => ?_) hS0 ?_
      rotate_left
      focus
        obtain ⟨k0, k1, k2, k3, k4, k5⟩ := hS
        go_simp
        try with_reducible rfl
        done
      simp only [Act.put, List.setIfInBounds_toArray, List.set_cons_zero, List.set_cons_succ]
      refine HT.take' (i := 5) (v := ?_) rfl (by kernel_rfl) (by decide) (by kernel_rfl) (by kernel_rfl) (fun _ _ _ h => h) (by rfl) (fun w' hS => ?_) hS0 ?_
      rotate_left
      focus
        obtain ⟨k0, k1, k2, k3, k4, k5⟩ := hS
        go_simp
        try with_reducible rfl
        done
      simp only [Act.put, List.setIfInBounds_toArray, List.set_cons_zero, List.set_cons_succ]
      refine HT.one' (i := 3) rfl (by decide) (by kernel_rfl) (fun K hK => ?_)
      go_simp
      refine (stepsOf_is (w.heap.size + 1 + 1 + 1) _ _ _ (HDV.out.cur.keep (by go_grown)) (HDV.out.code.keep (by go_grown)) (by omega)).mono ?_
      rintro e w9 ⟨n, rfl, hn, hc, hb⟩
      have HD9 := Lib.hid (HDV.out.step (by go_grown) hc hb)
      have HR9 := Lib.hid ((OwP.keep HRV.out (by go_grown)).keepU hb (fun h => by have := hrb _ h; omega))
      have kM := Facts.keepU (Facts.keep kL (by go_grown)) hb (by simp; omega)
      obtain ⟨p0, f0⟩ := DS.slot (by go_grown) hb (by omega) q00
      obtain ⟨p1, f1⟩ := DS.slot (by go_grown) hb (by omega) q01
      obtain ⟨p2, f2⟩ := DS.slot (by go_grown) hb (by omega) q10
      obtain ⟨p3, f3⟩ := DS.slot (by go_grown) hb (by omega) q11
      obtain ⟨p4, f4⟩ := DS.slot (by go_grown) hb (by omega) q20
      obtain ⟨p5, f5⟩ := DS.slot (by go_grown) hb (by omega) q21
      have zq := lt_of_cell p0
      have zq1 := lt_of_cell p2
      have zq2 := lt_of_cell p4
      clear hc hb
      go_wp2_with fail
      refine hK _ _ kM ?_
      clear hK
      try simp only [Act.put, List.setIfInBounds_toArray, List.set_cons_zero, List.set_cons_succ]
      have hS1 : (fun w' : World => w'.cell? ⟨w1.heap.size, 0, none⟩ = some (.int .i64 x1) ∧ w'.cell? ⟨w1.heap.size, 1, none⟩ = some (.int .i64 x2) ∧ w'.cell? ⟨w3.heap.size, 0, none⟩ = some (.int .i64 c) ∧ w'.cell? ⟨w3.heap.size, 1, none⟩ = some (.int .i64 d) ∧ w'.cell? ⟨w3.heap.size + 1, 0, none⟩ = some (.int .i64 c) ∧ w'.cell? ⟨w3.heap.size + 1, 1, none⟩ = some (.int .i64 d)) w9 := kM
      refine HT.take' (i := 6) (v := ?_) rfl (by kernel_rfl) (by decide) (by kernel_rfl) (by kernel_rfl) (fun _ _ _ h => h) (by rfl) (fun w' hS => ?_) hS1 ?_
      rotate_left
      focus
        obtain ⟨k0, k1, k2, k3, k4, k5⟩ := hS
        go_simp
        try with_reducible rfl
        done
      simp only [Act.put, List.setIfInBounds_toArray, List.set_cons_zero, List.set_cons_succ]
      have kN : Facts [(w1.heap.size, 0, .int .i64 x1), (w1.heap.size, 1, .int .i64 x2), (w3.heap.size, 0, .int .i64 c), (w3.heap.size, 1, .int .i64 d), (w3.heap.size + 1, 0, .int .i64 c), (w3.heap.size + 1, 1, .int .i64 d)] ((w9.setCell ⟨w.heap.size, 0, none⟩ (.int .i64 x1)).setCell ⟨w.heap.size, 1, none⟩ (.int .i64 x2)) := (Facts.put (Facts.put kM (by simp; omega)) (by simp; omega))
      refine HT.one' (i := 7) rfl (by decide) (by kernel_rfl) (fun K hK => ?_)
      go_simp
      refine hK _ _ kN ?_
      clear hK
      try simp only [Act.put, List.setIfInBounds_toArray, List.set_cons_zero, List.set_cons_succ]
      have hS2 : (fun w' : World => w'.cell? ⟨w1.heap.size, 0, none⟩ = some (.int .i64 x1) ∧ w'.cell? ⟨w1.heap.size, 1, none⟩ = some (.int .i64 x2) ∧ w'.cell? ⟨w3.heap.size, 0, none⟩ = some (.int .i64 c) ∧ w'.cell? ⟨w3.heap.size, 1, none⟩ = some (.int .i64 d) ∧ w'.cell? ⟨w3.heap.size + 1, 0, none⟩ = some (.int .i64 c) ∧ w'.cell? ⟨w3.heap.size + 1, 1, none⟩ = some (.int .i64 d)) ((w9.setCell ⟨w.heap.size, 0, none⟩ (.int .i64 x1)).setCell ⟨w.heap.size, 1, none⟩ (.int .i64 x2)) := kN
      refine HT.take' (i := 8) (v := ?_) rfl (by kernel_rfl) (by decide) (by kernel_rfl) (by kernel_rfl) (fun _ _ _ h => h) (by rfl) (fun w' hS => ?_) hS2 ?_
      rotate_left
      focus
        obtain ⟨k0, k1, k2, k3, k4, k5⟩ := hS
        go_simp
        try with_reducible rfl
        done
      simp only [Act.put, List.setIfInBounds_toArray, List.set_cons_zero, List.set_cons_succ]
      have kO : Facts [(w1.heap.size, 0, .int .i64 x1), (w1.heap.size, 1, .int .i64 x2), (w3.heap.size, 0, .int .i64 c), (w3.heap.size, 1, .int .i64 d), (w3.heap.size + 1, 0, .int .i64 c), (w3.heap.size + 1, 1, .int .i64 d)] ((((w9.setCell ⟨w.heap.size, 0, none⟩ (.int .i64 x1)).setCell ⟨w.heap.size, 1, none⟩ (.int .i64 x2)).setCell ⟨w.heap.size + 1, 0, none⟩ (.int .i64 c)).setCell ⟨w.heap.size + 1, 1, none⟩ (.int .i64 d)) := (Facts.put (Facts.put kN (by simp; omega)) (by simp; omega))
      refine HT.one' (i := 9) rfl (by decide) (by kernel_rfl) (fun K hK => ?_)
      go_simp
      refine hK _ _ kO ?_
      clear hK
      try simp only [Act.put, List.setIfInBounds_toArray, List.set_cons_zero, List.set_cons_succ]
      refine HT.done (by kernel_rfl) ?_
      simp only [List.drop_succ_cons, List.drop_zero]
      clear hS0 hS1 hS2 kL kM kN kO
      go_wp2_with fail
      generalize hZ : ((((((w9.setCell ⟨w.heap.size, 0, none⟩ (.int .i64 x1)).setCell ⟨w.heap.size, 1, none⟩ (.int .i64 x2)).setCell ⟨w.heap.size + 1, 0, none⟩ (.int .i64 c)).setCell ⟨w.heap.size + 1, 1, none⟩ (.int .i64 d)).setCell ⟨w.heap.size + 1 + 1, 0, none⟩ (.int .i64 c)).setCell ⟨w.heap.size + 1 + 1, 1, none⟩ (.int .i64 d)) = Z
      have r00 : Z.cell? ⟨w.heap.size, 0, none⟩ = some (.int .i64 x1) := by
        rw [← hZ]
        exact sixV (by omega) (by omega) (by omega) ⟨p0, f0⟩ ⟨p1, f1⟩ ⟨p2, f2⟩ ⟨p3, f3⟩ ⟨p4, f4⟩ ⟨p5, f5⟩ |>.1
      have r01 : Z.cell? ⟨w.heap.size, 1, none⟩ = some (.int .i64 x2) := by
        rw [← hZ]
        exact sixV (by omega) (by omega) (by omega) ⟨p0, f0⟩ ⟨p1, f1⟩ ⟨p2, f2⟩ ⟨p3, f3⟩ ⟨p4, f4⟩ ⟨p5, f5⟩ |>.2.1
      have r10 : Z.cell? ⟨w.heap.size + 1, 0, none⟩ = some (.int .i64 c) := by
        rw [← hZ]
        exact sixV (by omega) (by omega) (by omega) ⟨p0, f0⟩ ⟨p1, f1⟩ ⟨p2, f2⟩ ⟨p3, f3⟩ ⟨p4, f4⟩ ⟨p5, f5⟩ |>.2.2.1
      have r11 : Z.cell? ⟨w.heap.size + 1, 1, none⟩ = some (.int .i64 d) := by
        rw [← hZ]
        exact sixV (by omega) (by omega) (by omega) ⟨p0, f0⟩ ⟨p1, f1⟩ ⟨p2, f2⟩ ⟨p3, f3⟩ ⟨p4, f4⟩ ⟨p5, f5⟩ |>.2.2.2.1
      have r20 : Z.cell? ⟨w.heap.size + 1 + 1, 0, none⟩ = some (.int .i64 c) := by
        rw [← hZ]
        exact sixV (by omega) (by omega) (by omega) ⟨p0, f0⟩ ⟨p1, f1⟩ ⟨p2, f2⟩ ⟨p3, f3⟩ ⟨p4, f4⟩ ⟨p5, f5⟩ |>.2.2.2.2.1
      have r21 : Z.cell? ⟨w.heap.size + 1 + 1, 1, none⟩ = some (.int .i64 d) := by
        rw [← hZ]
        exact sixV (by omega) (by omega) (by omega) ⟨p0, f0⟩ ⟨p1, f1⟩ ⟨p2, f2⟩ ⟨p3, f3⟩ ⟨p4, f4⟩ ⟨p5, f5⟩ |>.2.2.2.2.2
      refine bodyPost_ret (v := .tuple #[r, .agg #[.int .i64 x1, .int .i64 x2], .int .i64 n, .agg #[.int .i64 c, .int .i64 d], .agg #[.int .i64 c, .int .i64 d]]) (res_vis _ Z _ _ _ r x1 x2 n c d c d rfl rfl rfl rfl rfl r00 r01 r10 r11 r20 r21) rfl ⟨_, ps, x1, x2, n, c, d, c, d, rfl, ?_, hpl, ?_⟩
      · rw [← hZ]; exact (OwP.setO (OwP.setO (OwP.setO (OwP.setO (OwP.setO (OwP.setO (HR9.out) (fun h => by have := HR9.out.blk _ h; omega)) (fun h => by have := HR9.out.blk _ h; omega)) (fun h => by have := HR9.out.blk _ h; omega)) (fun h => by have := HR9.out.blk _ h; omega)) (fun h => by have := HR9.out.blk _ h; omega)) (fun h => by have := HR9.out.blk _ h; omega)).low (by omega)
      · have hBw : Below w.heap.size w w9 := But.below hB1 (HD3.out.but.trans HD9.out.but) (by omega) (by omega)
        rw [← hZ]
        go_grown

end Go.Proofs.YtkeajfgcjmhmiaaGreat
