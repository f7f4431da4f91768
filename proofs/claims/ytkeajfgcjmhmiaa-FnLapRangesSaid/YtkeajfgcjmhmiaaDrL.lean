/- Drawn images: DrawImageOf. -/
import Derived.Test.YtkeajfgcjmhmiaaDrF
namespace Go.Proofs.Ytkeajfgcjmhmiaa
open Go.RowKit

def RowRats (w : World) (e : Ending) (w' : World) : Prop := ∃ (r : Value) (ps : List Pt) (a b c d : Int), e = .returned (.tuple #[r, .agg #[.int .i64 a, .int .i64 b], .agg #[.int .i64 c, .int .i64 d]]) ∧ OwP w.heap.size 43 w' r ps ∧ ps.length ≤ 62 ∧ Below w.heap.size w w'
set_option maxHeartbeats 400000 in
theorem res_img (T : Array Value) (Z : World) (g0 g1 : Nat) (r : Value) (a b c d : Int) (h2 : T[2]?.getD undef = r) (h3 : T[3]?.getD undef = .pointer (some ⟨g0, 0, none⟩)) (h4 : T[4]?.getD undef = .pointer (some ⟨g1, 0, none⟩))
    (r00 : Z.cell? ⟨g0, 0, none⟩ = some (.int .i64 a)) (r01 : Z.cell? ⟨g0, 1, none⟩ = some (.int .i64 b)) (r10 : Z.cell? ⟨g1, 0, none⟩ = some (.int .i64 c)) (r11 : Z.cell? ⟨g1, 1, none⟩ = some (.int .i64 d)) :
    Sem.run Try.prog (results Try.f11 T) Z = Result.ok (Value.tuple #[r, .agg #[.int .i64 a, .int .i64 b], .agg #[.int .i64 c, .int .i64 d]]) Z := by
  unfold results
  rw [Try.results11]
  simp [go_sem, h2, h3, h4, r00, r01, r10, r11]
theorem slotPut4 {X : World} {g o : Nat} {v u : Value} (h : Slot X g o v) : Slot (X.setCell ⟨g, o, none⟩ u) g o u := by
  obtain ⟨h0, h1⟩ := h
  exact ⟨by simp [go_sem, h0], by simp [go_sem, h1]⟩
theorem slotNot4 {X : World} {g b o i : Nat} {v u : Value} (h : Slot X b o v) (hn : g ≠ b) : Slot (X.setCell ⟨g, i, none⟩ u) b o v := slotS h (fun e => hn (Prod.mk.inj e).1)
theorem slotOff4 {X : World} {g o i : Nat} {v u : Value} (h : Slot X g o v) (hn : i ≠ o) : Slot (X.setCell ⟨g, i, none⟩ u) g o v := slotS h (fun e => hn (Prod.mk.inj e).2)
theorem fourV {X : World} {g0 g1 : Nat} {u0 u1 u2 u3 a b c d : Value} (h01 : g0 ≠ g1) (s0 : Slot X g0 0 u0) (s1 : Slot X g0 1 u1) (s2 : Slot X g1 0 u2) (s3 : Slot X g1 1 u3) :
    ((((X.setCell ⟨g0, 0, none⟩ a).setCell ⟨g0, 1, none⟩ b).setCell ⟨g1, 0, none⟩ c).setCell ⟨g1, 1, none⟩ d).cell? ⟨g0, 0, none⟩ = some a ∧
    ((((X.setCell ⟨g0, 0, none⟩ a).setCell ⟨g0, 1, none⟩ b).setCell ⟨g1, 0, none⟩ c).setCell ⟨g1, 1, none⟩ d).cell? ⟨g0, 1, none⟩ = some b ∧
    ((((X.setCell ⟨g0, 0, none⟩ a).setCell ⟨g0, 1, none⟩ b).setCell ⟨g1, 0, none⟩ c).setCell ⟨g1, 1, none⟩ d).cell? ⟨g1, 0, none⟩ = some c ∧
    ((((X.setCell ⟨g0, 0, none⟩ a).setCell ⟨g0, 1, none⟩ b).setCell ⟨g1, 0, none⟩ c).setCell ⟨g1, 1, none⟩ d).cell? ⟨g1, 1, none⟩ = some d :=
  ⟨(slotNot4 (slotNot4 (slotOff4 (slotPut4 s0) (by decide)) h01.symm) h01.symm).1, (slotNot4 (slotNot4 (slotPut4 (slotOff4 s1 (by decide))) h01.symm) h01.symm).1,
    (slotOff4 (slotPut4 (slotNot4 (slotNot4 s2 h01) h01)) (by decide)).1, (slotPut4 (slotOff4 (slotNot4 (slotNot4 s3 h01) h01) (by decide))).1⟩
set_option maxRecDepth 100000 in
set_option maxHeartbeats 1600000 in
theorem drawImage_is (v : Value) (bs : List Int) (w : World) (hv : RdN .u8 w v bs) (hb : ∀ x ∈ bs, 0 ≤ x ∧ x ≤ 255) :
    Calls Try.prog 11 #[v] w (RowRats w) := by
  have HV := Lib.hid hv
  have HBs := Lib.hid hb
  obtain ⟨A, cv, rfl, hl, hm, hcell⟩ := hv
  clear hb hcell
  go_enter Try.func11, Try.ntmps11
  go_wp2_with fail
  refine (anyIm_is (w.heap.size + 1 + 1) _ 0 _ ⟨⟨by simp [go_sem], by simp [go_sem]⟩, ⟨0, Nat.le_refl _, by simp [go_sem], by simp [go_sem]⟩, 0, by omega, by omega, by simp [go_sem], by simp [go_sem]⟩ (HV.out.codeF HBs.out (by go_grown) (by omega)) (by omega)).mono ?_
  rintro e w1 ⟨r, ps, rfl, hr, hpl, hc, hb⟩
  have q00 : Slot w1 w.heap.size 0 (.int .i64 0) := slotU hb (by omega) ⟨by simp [go_sem], by simp [go_sem]⟩
  have q01 : Slot w1 w.heap.size 1 (.int .i64 0) := slotU hb (by omega) ⟨by simp [go_sem], by simp [go_sem]⟩
  have q10 : Slot w1 (w.heap.size + 1) 0 (.int .i64 0) := slotU hb (by omega) ⟨by simp [go_sem], by simp [go_sem]⟩
  have q11 : Slot w1 (w.heap.size + 1) 1 (.int .i64 0) := slotU hb (by omega) ⟨by simp [go_sem], by simp [go_sem]⟩
  have hB1 : Below w.heap.size w w1 := But.below (by go_grown : Below w.heap.size w _) hb (by omega) (by go_size)
  have HR1 := Lib.hid (hr.low (b := w.heap.size + 1 + 1 + 1) (by first | go_size | (simp; done) | (simp; omega)))
  have HD1 := Lib.hid (DS.start hc (Code.keepU (HV.out.codeF HBs.out (by go_grown) (by omega)) hb))
  clear hc hb hr
  have gl1 := HD1.out.lt
  have zw1 := hB1.size
  have hrb : ∀ b, r.ownBlock = some b → w.heap.size + 1 + 1 < b := fun b hb => by have := HR1.out.blk b hb; omega
  go_wp2_with fail
  refine (xOf_is (w.heap.size + 1 + 1) _ _ (w.heap.size + 1 + 1 + 1) _ ps _ (HD1.out.cur.keep (by go_grown)) (HD1.out.code.keep (by go_grown)) (OwP.keep HR1.out (by go_grown)) (by omega) (by omega) (by omega)).mono ?_
  rintro e w2 ⟨a, b, rfl, hc, hb⟩
  have HD2 := Lib.hid (HD1.out.step (by go_grown) hc hb)
  have HR2 := Lib.hid ((OwP.keep HR1.out (by go_grown)).keepU hb (fun h => by have := hrb _ h; omega))
  replace q00 := DS.slot (by go_grown) hb (by omega) q00
  replace q01 := DS.slot (by go_grown) hb (by omega) q01
  replace q10 := DS.slot (by go_grown) hb (by omega) q10
  replace q11 := DS.slot (by go_grown) hb (by omega) q11
  clear hc hb
  have gl2 := HD2.out.lt
  go_wp2_with fail
  refine (xOf_is (w.heap.size + 1 + 1) _ _ (w.heap.size + 1 + 1 + 1) _ ps _ (HD2.out.cur.keep (by go_grown)) (HD2.out.code.keep (by go_grown)) (OwP.keep HR2.out (by go_grown)) (by omega) (by omega) (by omega)).mono ?_
  rintro e w3 ⟨c, d, rfl, hc, hb⟩
  have HD3 := Lib.hid (HD2.out.step (by go_grown) hc hb)
  have HR3 := Lib.hid ((OwP.keep HR2.out (by go_grown)).keepU hb (fun h => by have := hrb _ h; omega))
  replace q00 := DS.slot (by go_grown) hb (by omega) q00
  replace q01 := DS.slot (by go_grown) hb (by omega) q01
  replace q10 := DS.slot (by go_grown) hb (by omega) q10
  replace q11 := DS.slot (by go_grown) hb (by omega) q11
  clear hc hb
  have gl3 := HD3.out.lt
  go_upto_region 4 with fail
  go_name_world W0 hW
  have a00 : Slot W0 w3.heap.size 0 (.int .i64 a) := by rw [← hW]; exact ⟨by simp [go_sem], by simp [go_sem]⟩
  have a01 : Slot W0 w3.heap.size 1 (.int .i64 b) := by rw [← hW]; exact ⟨by simp [go_sem], by simp [go_sem]⟩
  have a10 : Slot W0 (w3.heap.size + 1) 0 (.int .i64 c) := by rw [← hW]; exact ⟨by simp [go_sem], by simp [go_sem]⟩
  have a11 : Slot W0 (w3.heap.size + 1) 1 (.int .i64 d) := by rw [← hW]; exact ⟨by simp [go_sem], by simp [go_sem]⟩
  have hB0 : Below w3.heap.size w3 W0 := by rw [← hW]; go_grown
  clear hW
  replace q00 := slotB hB0 q00
  replace q01 := slotB hB0 q01
  replace q10 := slotB hB0 q10
  replace q11 := slotB hB0 q11
  have HDW := Lib.hid ((DS.start HD3.out.cur HD3.out.code).grow hB0)
  have HRW := Lib.hid (OwP.keep HR3.out hB0)
  have glW := HDW.out.lt
  have za := lt_of_cell a00.1
  have zb := lt_of_cell a10.1
  have z0 := hB0.size
  go_cut [36] (fun c wx => (∃ t, c = .bool t) ∧ DS (w.heap.size + 1 + 1) _ (0 + 450 + 24 + 24 + 2) w3 wx ∧ But (w.heap.size + 1 + 1) W0 wx)
  case first => as_aux_lemma =>
    obtain ⟨a0, fa0⟩ := a00
    obtain ⟨a1, fa1⟩ := a01
    obtain ⟨a2, fa2⟩ := a10
    obtain ⟨a3, fa3⟩ := a11
    rcases ha : unitQ a b with _ | _
    · have HA := Lib.hid ha
      clear ha
      go_wp2_with fail
      refine (raUnit_any a b _).mono ?_
      rintro e w4 ⟨he, hb⟩
      rw [HA.out] at he
      subst he
      have hX := nextX (by go_grown : Below W0.heap.size W0 _) hb
      clear hb
      go_wp2_with fail
      go_meet
      exact ⟨⟨_, rfl⟩, (HDW.out.grow (nextX hX (by go_grown))).more (by omega), But.of_below (nextX hX (by go_grown)) (Nat.le_refl _)⟩
    · rcases hb2 : unitQ c d with _ | _
      · have HA := Lib.hid ha
        have HB := Lib.hid hb2
        clear ha hb2
        go_wp2_with fail
        refine (raUnit_any a b _).mono ?_
        rintro e w4 ⟨he, hb⟩
        rw [HA.out] at he
        subst he
        have hX := nextX (by go_grown : Below W0.heap.size W0 _) hb
        replace a0 := cellB hX a0
        replace a1 := cellB hX a1
        replace a2 := cellB hX a2
        replace a3 := cellB hX a3
        clear hb
        go_wp2_with fail
        refine (raUnit_any c d _).mono ?_
        rintro e w5 ⟨he, hb⟩
        rw [HB.out] at he
        subst he
        have hY := nextX (by go_grown : Below w4.heap.size w4 _) hb
        replace hX := nextW hX hY
        replace a0 := cellB hY a0
        replace a1 := cellB hY a1
        replace a2 := cellB hY a2
        replace a3 := cellB hY a3
        clear hb hY
        go_wp2_with fail
        go_meet
        exact ⟨⟨_, rfl⟩, (HDW.out.grow (nextX hX (by go_grown))).more (by omega), But.of_below (nextX hX (by go_grown)) (Nat.le_refl _)⟩
      · have HA := Lib.hid ha
        have HB := Lib.hid hb2
        have HSa := Lib.hid (Sm.of_ok (unitQ_ok ha))
        have HSc := Lib.hid (Sm.of_ok (unitQ_ok hb2))
        clear ha hb2
        obtain ⟨o, ho⟩ : ∃ o, cmpQ a b c d = o := ⟨_, rfl⟩
        have HO := Lib.hid ho
        clear ho
        by_cases h0 : 0 < o
        · have h0' : decide (0 < o) = true := decide_eq_true h0
          go_wp2_with fail
          refine (raUnit_any a b _).mono ?_
          rintro e w4 ⟨he, hb⟩
          rw [HA.out] at he
          subst he
          have hX := nextX (by go_grown : Below W0.heap.size W0 _) hb
          replace a0 := cellB hX a0
          replace a1 := cellB hX a1
          replace a2 := cellB hX a2
          replace a3 := cellB hX a3
          clear hb
          go_wp2_with fail
          refine (raUnit_any c d _).mono ?_
          rintro e w5 ⟨he, hb⟩
          rw [HB.out] at he
          subst he
          have hY := nextX (by go_grown : Below w4.heap.size w4 _) hb
          replace hX := nextW hX hY
          replace a0 := cellB hY a0
          replace a1 := cellB hY a1
          replace a2 := cellB hY a2
          replace a3 := cellB hY a3
          clear hb hY
          go_wp2_with fail
          refine (raCmp_is a b c d o HSa.out HSc.out HO.out _).mono ?_
          rintro e w6 ⟨rfl, hb⟩
          have hY := nextX (by go_grown : Below w5.heap.size w5 _) hb
          replace hX := nextW hX hY
          clear hb hY
          go_wp2_with fail
          refine (one_is (w.heap.size + 1 + 1) _ _ 12 _ (HDW.out.cur.keep (nextW hX (by go_grown))) (HDW.out.code.keep (nextW hX (by go_grown))) (by omega) (by omega)).mono ?_
          rintro e w7 ⟨t, rfl, hc, hb⟩
          have HD7 := Lib.hid (HDW.out.step (nextW hX (by go_grown)) hc hb)
          have hU := (But.of_below (nextW hX (by go_grown)) (Nat.le_refl _)).trans hb
          clear hc hb
          go_wp2_with fail
          go_meet
          exact ⟨⟨_, rfl⟩, HD7.out.grow (by go_grown), hU.next (by go_grown) (Nat.le_refl _)⟩
        · have h0' : decide (0 < o) = false := decide_eq_false h0
          go_wp2_with fail
          refine (raUnit_any a b _).mono ?_
          rintro e w4 ⟨he, hb⟩
          rw [HA.out] at he
          subst he
          have hX := nextX (by go_grown : Below W0.heap.size W0 _) hb
          replace a0 := cellB hX a0
          replace a1 := cellB hX a1
          replace a2 := cellB hX a2
          replace a3 := cellB hX a3
          clear hb
          go_wp2_with fail
          refine (raUnit_any c d _).mono ?_
          rintro e w5 ⟨he, hb⟩
          rw [HB.out] at he
          subst he
          have hY := nextX (by go_grown : Below w4.heap.size w4 _) hb
          replace hX := nextW hX hY
          replace a0 := cellB hY a0
          replace a1 := cellB hY a1
          replace a2 := cellB hY a2
          replace a3 := cellB hY a3
          clear hb hY
          go_wp2_with fail
          refine (raCmp_is a b c d o HSa.out HSc.out HO.out _).mono ?_
          rintro e w6 ⟨rfl, hb⟩
          have hY := nextX (by go_grown : Below w5.heap.size w5 _) hb
          replace hX := nextW hX hY
          clear hb hY
          go_wp2_with fail
          go_meet
          exact ⟨⟨_, rfl⟩, (HDW.out.grow (nextX hX (by go_grown))).more (by omega), But.of_below (nextX hX (by go_grown)) (Nat.le_refl _)⟩
  case rest => as_aux_lemma =>
    obtain ⟨⟨t, rfl⟩, hds, hb⟩ := hcut
    obtain ⟨w8, hwc⟩ : ∃ X : World, X = wc := ⟨_, rfl⟩
    subst hwc
    have HD8 := Lib.hid hds
    have hz8 := hb.size
    have HR8 := Lib.hid (HRW.out.keepU hb (fun h => by have := hrb _ h; omega))
    replace q00 := slotU hb (by omega) q00
    replace q01 := slotU hb (by omega) q01
    replace q10 := slotU hb (by omega) q10
    replace q11 := slotU hb (by omega) q11
    replace a00 := slotU hb (by omega) a00
    replace a01 := slotU hb (by omega) a01
    replace a10 := slotU hb (by omega) a10
    replace a11 := slotU hb (by omega) a11
    have gl8 := HD8.out.lt
    clear hds hb
    clear HV HBs HD1 HR1 HD2 HR2 HDW HRW
    have hBw : Below w.heap.size w w8 := But.below hB1 (HD3.out.but.trans HD8.out.but) (by omega) (by omega)
    rcases t with _ | _
    · go_wp2_with fail
      go_name_world V hV
      have hBV : Below w8.heap.size w8 V := by rw [← hV]; go_grown
      replace q00 := slotB hBV q00
      replace q01 := slotB hBV q01
      replace q10 := slotB hBV q10
      replace q11 := slotB hBV q11
      replace a00 := slotB hBV a00
      replace a01 := slotB hBV a01
      replace a10 := slotB hBV a10
      replace a11 := slotB hBV a11
      have HRV := Lib.hid (OwP.keep HR8.out hBV)
      have hBwV := nextW hBw hBV
      have hzV := hBV.size
      clear hV
      obtain ⟨p0, f0⟩ := q00
      obtain ⟨p1, f1⟩ := q01
      obtain ⟨p2, f2⟩ := q10
      obtain ⟨p3, f3⟩ := q11
      have zq := lt_of_cell p0
      have zq1 := lt_of_cell p2
      have kL : Facts [(w3.heap.size, 0, .int .i64 a), (w3.heap.size, 1, .int .i64 b), (w3.heap.size + 1, 0, .int .i64 c), (w3.heap.size + 1, 1, .int .i64 d)] V := ⟨a00.1, a01.1, a10.1, a11.1⟩
      refine wp_region_HT (S := (fun w' : World => w'.cell? ⟨w3.heap.size, 0, none⟩ = some (.int .i64 a) ∧ w'.cell? ⟨w3.heap.size, 1, none⟩ = some (.int .i64 b) ∧ w'.cell? ⟨w3.heap.size + 1, 0, none⟩ = some (.int .i64 c) ∧ w'.cell? ⟨w3.heap.size + 1, 1, none⟩ = some (.int .i64 d))) 5 (by kernel_rfl) (by kernel_rfl) ?_
      have hS0 : (fun w' : World => w'.cell? ⟨w3.heap.size, 0, none⟩ = some (.int .i64 a) ∧ w'.cell? ⟨w3.heap.size, 1, none⟩ = some (.int .i64 b) ∧ w'.cell? ⟨w3.heap.size + 1, 0, none⟩ = some (.int .i64 c) ∧ w'.cell? ⟨w3.heap.size + 1, 1, none⟩ = some (.int .i64 d)) _ := kL
      refine HT.take' (i := 0) (v := ?_) rfl (by kernel_rfl) (by decide) (by kernel_rfl) (by kernel_rfl) (fun _ _ _ h => h) (by rfl) (fun w' hS => ?_) hS0 ?_
      rotate_left
      focus
        obtain ⟨k0, k1, k2, k3⟩ := hS
        go_simp
        try with_reducible rfl
        done
      simp only [Act.put, List.setIfInBounds_toArray, List.set_cons_zero, List.set_cons_succ]
      refine HT.take' (i := 1) (v := ?_) rfl (by kernel_rfl) (by decide) (by kernel_rfl) (by kernel_rfl) (fun _ _ _ h => h) (by rfl) (fun w' hS => ?_) hS0 ?_
      rotate_left
      focus
        obtain ⟨k0, k1, k2, k3⟩ := hS
        go_simp
        try with_reducible rfl
        done
      simp only [Act.put, List.setIfInBounds_toArray, List.set_cons_zero, List.set_cons_succ]
      refine HT.take' (i := 2) (v := ?_) rfl (by kernel_rfl) (by decide) (by kernel_rfl) (by kernel_rfl) (fun _ _ _ h => h) (by rfl) (fun w' hS => ?_) hS0 ?_
      rotate_left
      focus
        obtain ⟨k0, k1, k2, k3⟩ := hS
        go_simp
        try with_reducible rfl
        done
      simp only [Act.put, List.setIfInBounds_toArray, List.set_cons_zero, List.set_cons_succ]
      refine HT.take' (i := 3) (v := ?_) rfl (by kernel_rfl) (by decide) (by kernel_rfl) (by kernel_rfl) (fun _ _ _ h => h) (by rfl) (fun w' hS => ?_) hS0 ?_
      rotate_left
      focus
        obtain ⟨k0, k1, k2, k3⟩ := hS
        go_simp
        try with_reducible rfl
        done
      simp only [Act.put, List.setIfInBounds_toArray, List.set_cons_zero, List.set_cons_succ]
      have kN : Facts [(w3.heap.size, 0, .int .i64 a), (w3.heap.size, 1, .int .i64 b), (w3.heap.size + 1, 0, .int .i64 c), (w3.heap.size + 1, 1, .int .i64 d)] ((V.setCell ⟨w.heap.size, 0, none⟩ (.int .i64 a)).setCell ⟨w.heap.size, 1, none⟩ (.int .i64 b)) := (Facts.put (Facts.put kL (by simp; omega)) (by simp; omega))
      refine HT.one' (i := 4) rfl (by decide) (by kernel_rfl) (fun K hK => ?_)
      go_simp
      refine hK _ _ kN ?_
      clear hK
      try simp only [Act.put, List.setIfInBounds_toArray, List.set_cons_zero, List.set_cons_succ]
      refine HT.done (by kernel_rfl) ?_
      simp only [List.drop_succ_cons, List.drop_zero]
      clear hS0 kL kN
      go_wp2_with fail
      generalize hZ : ((((V.setCell ⟨w.heap.size, 0, none⟩ (.int .i64 a)).setCell ⟨w.heap.size, 1, none⟩ (.int .i64 b)).setCell ⟨w.heap.size + 1, 0, none⟩ (.int .i64 c)).setCell ⟨w.heap.size + 1, 1, none⟩ (.int .i64 d)) = Z
      have hrd := fourV (X := V) (g0 := w.heap.size) (g1 := w.heap.size + 1) (a := .int .i64 a) (b := .int .i64 b) (c := .int .i64 c) (d := .int .i64 d) (by omega) ⟨p0, f0⟩ ⟨p1, f1⟩ ⟨p2, f2⟩ ⟨p3, f3⟩
      rw [hZ] at hrd
      refine bodyPost_ret (v := .tuple #[r, .agg #[.int .i64 a, .int .i64 b], .agg #[.int .i64 c, .int .i64 d]]) (res_img _ Z.drew _ _ r a b c d rfl rfl rfl hrd.1 hrd.2.1 hrd.2.2.1 hrd.2.2.2) rfl ⟨_, ps, a, b, c, d, rfl, ?_, hpl, ?_⟩
      · have hO : OwP (w.heap.size + 1 + 1 + 1) 43 ((((V.setCell ⟨w.heap.size, 0, none⟩ (.int .i64 a)).setCell ⟨w.heap.size, 1, none⟩ (.int .i64 b)).setCell ⟨w.heap.size + 1, 0, none⟩ (.int .i64 c)).setCell ⟨w.heap.size + 1, 1, none⟩ (.int .i64 d)) r ps := (OwP.setO (OwP.setO (OwP.setO (OwP.setO (HRV.out) (fun h => by have := HRV.out.blk _ h; omega)) (fun h => by have := HRV.out.blk _ h; omega)) (fun h => by have := HRV.out.blk _ h; omega)) (fun h => by have := HRV.out.blk _ h; omega))
        rw [hZ] at hO
        exact (OwP.keep hO (by go_grown)).low (by omega)
      · rw [← hZ]; go_grown
    · go_wp2_with fail
      go_name_world V hV
      have hBV : Below w8.heap.size w8 V := by rw [← hV]; go_grown
      replace q00 := slotB hBV q00
      replace q01 := slotB hBV q01
      replace q10 := slotB hBV q10
      replace q11 := slotB hBV q11
      replace a00 := slotB hBV a00
      replace a01 := slotB hBV a01
      replace a10 := slotB hBV a10
      replace a11 := slotB hBV a11
      have HRV := Lib.hid (OwP.keep HR8.out hBV)
      have hBwV := nextW hBw hBV
      have hzV := hBV.size
      clear hV
      obtain ⟨p0, f0⟩ := q00
      obtain ⟨p1, f1⟩ := q01
      obtain ⟨p2, f2⟩ := q10
      obtain ⟨p3, f3⟩ := q11
      have zq := lt_of_cell p0
      have zq1 := lt_of_cell p2
      have kL : Facts [(w3.heap.size, 0, .int .i64 a), (w3.heap.size, 1, .int .i64 b), (w3.heap.size + 1, 0, .int .i64 c), (w3.heap.size + 1, 1, .int .i64 d)] V := ⟨a00.1, a01.1, a10.1, a11.1⟩
      refine wp_region_HT (S := (fun w' : World => w'.cell? ⟨w3.heap.size, 0, none⟩ = some (.int .i64 a) ∧ w'.cell? ⟨w3.heap.size, 1, none⟩ = some (.int .i64 b) ∧ w'.cell? ⟨w3.heap.size + 1, 0, none⟩ = some (.int .i64 c) ∧ w'.cell? ⟨w3.heap.size + 1, 1, none⟩ = some (.int .i64 d))) 5 (by kernel_rfl) (by kernel_rfl) ?_
      have hS0 : (fun w' : World => w'.cell? ⟨w3.heap.size, 0, none⟩ = some (.int .i64 a) ∧ w'.cell? ⟨w3.heap.size, 1, none⟩ = some (.int .i64 b) ∧ w'.cell? ⟨w3.heap.size + 1, 0, none⟩ = some (.int .i64 c) ∧ w'.cell? ⟨w3.heap.size + 1, 1, none⟩ = some (.int .i64 d)) _ := kL
      refine HT.take' (i := 0) (v := ?_) rfl (by kernel_rfl) (by decide) (by kernel_rfl) (by kernel_rfl) (fun _ _ _ h => h) (by rfl) (fun w' hS => ?_) hS0 ?_
      rotate_left
      focus
        obtain ⟨k0, k1, k2, k3⟩ := hS
        go_simp
        try with_reducible rfl
        done
      simp only [Act.put, List.setIfInBounds_toArray, List.set_cons_zero, List.set_cons_succ]
      refine HT.take' (i := 1) (v := ?_) rfl (by kernel_rfl) (by decide) (by kernel_rfl) (by kernel_rfl) (fun _ _ _ h => h) (by rfl) (fun w' hS => ?_) hS0 ?_
      rotate_left
      focus
        obtain ⟨k0, k1, k2, k3⟩ := hS
        go_simp
        try with_reducible rfl
        done
      simp only [Act.put, List.setIfInBounds_toArray, List.set_cons_zero, List.set_cons_succ]
      refine HT.take' (i := 2) (v := ?_) rfl (by kernel_rfl) (by decide) (by kernel_rfl) (by kernel_rfl) (fun _ _ _ h => h) (by rfl) (fun w' hS => ?_) hS0 ?_
      rotate_left
      focus
        obtain ⟨k0, k1, k2, k3⟩ := hS
        go_simp
        try with_reducible rfl
        done
      simp only [Act.put, List.setIfInBounds_toArray, List.set_cons_zero, List.set_cons_succ]
      refine HT.take' (i := 3) (v := ?_) rfl (by kernel_rfl) (by decide) (by kernel_rfl) (by kernel_rfl) (fun _ _ _ h => h) (by rfl) (fun w' hS => ?_) hS0 ?_
      rotate_left
      focus
        obtain ⟨k0, k1, k2, k3⟩ := hS
        go_simp
        try with_reducible rfl
        done
      simp only [Act.put, List.setIfInBounds_toArray, List.set_cons_zero, List.set_cons_succ]
      have kN : Facts [(w3.heap.size, 0, .int .i64 a), (w3.heap.size, 1, .int .i64 b), (w3.heap.size + 1, 0, .int .i64 c), (w3.heap.size + 1, 1, .int .i64 d)] ((V.setCell ⟨w.heap.size, 0, none⟩ (.int .i64 c)).setCell ⟨w.heap.size, 1, none⟩ (.int .i64 d)) := (Facts.put (Facts.put kL (by simp; omega)) (by simp; omega))
      refine HT.one' (i := 4) rfl (by decide) (by kernel_rfl) (fun K hK => ?_)
      go_simp
      refine hK _ _ kN ?_
      clear hK
      try simp only [Act.put, List.setIfInBounds_toArray, List.set_cons_zero, List.set_cons_succ]
      refine HT.done (by kernel_rfl) ?_
      simp only [List.drop_succ_cons, List.drop_zero]
      clear hS0 kL kN
      go_wp2_with fail
      generalize hZ : ((((V.setCell ⟨w.heap.size, 0, none⟩ (.int .i64 c)).setCell ⟨w.heap.size, 1, none⟩ (.int .i64 d)).setCell ⟨w.heap.size + 1, 0, none⟩ (.int .i64 a)).setCell ⟨w.heap.size + 1, 1, none⟩ (.int .i64 b)) = Z
      have hrd := fourV (X := V) (g0 := w.heap.size) (g1 := w.heap.size + 1) (a := .int .i64 c) (b := .int .i64 d) (c := .int .i64 a) (d := .int .i64 b) (by omega) ⟨p0, f0⟩ ⟨p1, f1⟩ ⟨p2, f2⟩ ⟨p3, f3⟩
      rw [hZ] at hrd
      refine bodyPost_ret (v := .tuple #[r, .agg #[.int .i64 c, .int .i64 d], .agg #[.int .i64 a, .int .i64 b]]) (res_img _ Z.drew _ _ r c d a b rfl rfl rfl hrd.1 hrd.2.1 hrd.2.2.1 hrd.2.2.2) rfl ⟨_, ps, c, d, a, b, rfl, ?_, hpl, ?_⟩
      · have hO : OwP (w.heap.size + 1 + 1 + 1) 43 ((((V.setCell ⟨w.heap.size, 0, none⟩ (.int .i64 c)).setCell ⟨w.heap.size, 1, none⟩ (.int .i64 d)).setCell ⟨w.heap.size + 1, 0, none⟩ (.int .i64 a)).setCell ⟨w.heap.size + 1, 1, none⟩ (.int .i64 b)) r ps := (OwP.setO (OwP.setO (OwP.setO (OwP.setO (HRV.out) (fun h => by have := HRV.out.blk _ h; omega)) (fun h => by have := HRV.out.blk _ h; omega)) (fun h => by have := HRV.out.blk _ h; omega)) (fun h => by have := HRV.out.blk _ h; omega))
        rw [hZ] at hO
        exact (OwP.keep hO (by go_grown)).low (by omega)
      · rw [← hZ]; go_grown

end Go.Proofs.Ytkeajfgcjmhmiaa
