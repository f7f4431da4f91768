/- Drawn maps with bounds, and two with a place: DrawClampMap, DrawJoinMaps. -/
import Derived.Test.YtkeajfgcjmhmiaaGreatJ40
import Derived.Test.YtkeajfgcjmhmiaaGreatJ45
namespace Go.Proofs.YtkeajfgcjmhmiaaGreat
open Go.RowKit

def RowsRat (w : World) (e : Ending) (w' : World) : Prop := ∃ (r s : Value) (ps qs : List Pt) (a b : Int), e = .returned (.tuple #[r, s, .agg #[.int .i64 a, .int .i64 b]]) ∧ OwP w.heap.size 51 w' r ps ∧ OwP w.heap.size 51 w' s qs ∧ (ps.length ≤ 62 ∧ qs.length ≤ 62) ∧ Below w.heap.size w w'
theorem OwP.none0 (w : World) (base : Nat) (e : TypeId) (hb : base ≤ w.heap.size) : OwP base e (w.alloc (.cells #[] e)) (.slice (some ⟨w.heap.size, 0, .none⟩) 0 0) [] :=
  ⟨rfl, .inr ⟨w.heap.size, 0, _, rfl, hb, heap_alloc_new w _, Nat.le_refl _, by simp [maxLen], rfl, by simp [rowP]⟩⟩
set_option maxHeartbeats 400000 in
theorem res_clamp (T : Array Value) (Z : World) (g0 g1 : Nat) (r : Value) (a b c d : Int) (h2 : T[2]?.getD undef = r) (h3 : T[3]?.getD undef = .pointer (some ⟨g0, 0, none⟩)) (h4 : T[4]?.getD undef = .pointer (some ⟨g1, 0, none⟩))
    (r00 : Z.cell? ⟨g0, 0, none⟩ = some (.int .i64 a)) (r01 : Z.cell? ⟨g0, 1, none⟩ = some (.int .i64 b)) (r10 : Z.cell? ⟨g1, 0, none⟩ = some (.int .i64 c)) (r11 : Z.cell? ⟨g1, 1, none⟩ = some (.int .i64 d)) :
    Sem.run Tryz.prog (results Tryz.f30 T) Z = Result.ok (Value.tuple #[r, .agg #[.int .i64 a, .int .i64 b], .agg #[.int .i64 c, .int .i64 d]]) Z := by
  unfold results
  rw [Tryz.results30]
  simp [go_sem, h2, h3, h4, r00, r01, r10, r11]
set_option maxRecDepth 100000 in
set_option maxHeartbeats 1600000 in
theorem drawClamp_is (v : Value) (bs : List Int) (w : World) (hv : RdN .u8 w v bs) (hb : ∀ x ∈ bs, 0 ≤ x ∧ x ≤ 255) :
    Calls Tryz.prog 30 #[v] w (RowRats w) := by
  have HV := Lib.hid hv
  have HBs := Lib.hid hb
  obtain ⟨A, cv, rfl, hl, hm, hcell⟩ := hv
  clear hb hcell
  go_enter Tryz.func30, Tryz.ntmps30
  go_wp2_with fail
  refine (twoMaps_is (w.heap.size + 1 + 1) _ 0 _ ⟨⟨by simp [go_sem], by simp [go_sem]⟩, ⟨0, Nat.le_refl _, by simp [go_sem], by simp [go_sem]⟩, 0, by omega, by omega, by simp [go_sem], by simp [go_sem]⟩ (HV.out.codeF HBs.out (by go_grown) (by omega)) (by omega)).mono ?_
  rintro e w1 ⟨r, s, ps, qs, rfl, hr, -, ⟨hpl, -⟩, hc, hb⟩
  have q00 : Slot w1 w.heap.size 0 (.int .i64 0) := slotU hb (by omega) ⟨by simp [go_sem], by simp [go_sem]⟩
  have q01 : Slot w1 w.heap.size 1 (.int .i64 0) := slotU hb (by omega) ⟨by simp [go_sem], by simp [go_sem]⟩
  have q10 : Slot w1 (w.heap.size + 1) 0 (.int .i64 0) := slotU hb (by omega) ⟨by simp [go_sem], by simp [go_sem]⟩
  have q11 : Slot w1 (w.heap.size + 1) 1 (.int .i64 0) := slotU hb (by omega) ⟨by simp [go_sem], by simp [go_sem]⟩
  have hB1 : Below w.heap.size w w1 := But.below (by go_grown : Below w.heap.size w _) hb (by omega) (by go_size)
  have HR1 := Lib.hid (hr.low (b := w.heap.size + 1 + 1 + 1) (by first | go_size | (simp; done) | (simp; omega)))
  have HD1 := Lib.hid (DS.start hc (Code.keepU (HV.out.codeF HBs.out (by go_grown) (by omega)) hb))
  clear hc hb hr
  have gl1 := HD1.out.lt
  have zw1 := hB1.size
  have hrb : ∀ b, r.ownBlock = some b → w.heap.size + 1 + 1 < b := fun b hb => by have := HR1.out.blk b hb; omega
  go_wp2_with fail
  refine (among2_is (w.heap.size + 1 + 1) _ _ (w.heap.size + 1 + 1 + 1) _ ps _ (HD1.out.cur.keep (by go_grown)) (HD1.out.code.keep (by go_grown)) (OwP.keep HR1.out (by go_grown)) (by omega) (by omega) (by omega)).mono ?_
  rintro e w2 ⟨a, b, rfl, hc, hb⟩
  have HD2 := Lib.hid (HD1.out.step (by go_grown) hc hb)
  have HR2 := Lib.hid ((OwP.keep HR1.out (by go_grown)).keepU hb (fun h => by have := hrb _ h; omega))
  replace q00 := DS.slot (by go_grown) hb (by omega) q00
  replace q01 := DS.slot (by go_grown) hb (by omega) q01
  replace q10 := DS.slot (by go_grown) hb (by omega) q10
  replace q11 := DS.slot (by go_grown) hb (by omega) q11
  clear hc hb
  have gl2 := HD2.out.lt
  go_wp2_with fail
  refine (among2_is (w.heap.size + 1 + 1) _ _ (w.heap.size + 1 + 1 + 1) _ ps _ (HD2.out.cur.keep (by go_grown)) (HD2.out.code.keep (by go_grown)) (OwP.keep HR2.out (by go_grown)) (by omega) (by omega) (by omega)).mono ?_
  rintro e w3 ⟨c, d, rfl, hc, hb⟩
  have HD3 := Lib.hid (HD2.out.step (by go_grown) hc hb)
  have HR3 := Lib.hid ((OwP.keep HR2.out (by go_grown)).keepU hb (fun h => by have := hrb _ h; omega))
  replace q00 := DS.slot (by go_grown) hb (by omega) q00
  replace q01 := DS.slot (by go_grown) hb (by omega) q01
  replace q10 := DS.slot (by go_grown) hb (by omega) q10
  replace q11 := DS.slot (by go_grown) hb (by omega) q11
  clear hc hb
  have gl3 := HD3.out.lt
  go_upto_region 4 with fail
  go_name_world W0 hW
  have a00 : Slot W0 w3.heap.size 0 (.int .i64 a) := by rw [← hW]; exact ⟨by simp [go_sem], by simp [go_sem]⟩
  have a01 : Slot W0 w3.heap.size 1 (.int .i64 b) := by rw [← hW]; exact ⟨by simp [go_sem], by simp [go_sem]⟩
  have a10 : Slot W0 (w3.heap.size + 1) 0 (.int .i64 c) := by rw [← hW]; exact ⟨by simp [go_sem], by simp [go_sem]⟩
  have a11 : Slot W0 (w3.heap.size + 1) 1 (.int .i64 d) := by rw [← hW]; exact ⟨by simp [go_sem], by simp [go_sem]⟩
  have hB0 : Below w3.heap.size w3 W0 := by rw [← hW]; go_grown
  clear hW
  replace q00 := slotB hB0 q00
  replace q01 := slotB hB0 q01
  replace q10 := slotB hB0 q10
  replace q11 := slotB hB0 q11
  have HDW := Lib.hid ((DS.start HD3.out.cur HD3.out.code).grow hB0)
  have HRW := Lib.hid (OwP.keep HR3.out hB0)
  have glW := HDW.out.lt
  have za := lt_of_cell a00.1
  have zb := lt_of_cell a10.1
  have z0 := hB0.size
  go_cut [40] (fun c wx => (∃ t, c = .bool t) ∧ DS (w.heap.size + 1 + 1) _ (0 + 1000 + 30 + 30 + 2) w3 wx ∧ But (w.heap.size + 1 + 1) W0 wx)
  case first => as_aux_lemma =>
    obtain ⟨a0, fa0⟩ := a00
    obtain ⟨a1, fa1⟩ := a01
    obtain ⟨a2, fa2⟩ := a10
    obtain ⟨a3, fa3⟩ := a11
    rcases ha : unitQ a b with _ | _
    · have HA := Lib.hid ha
      clear ha
      go_wp2_with fail
      refine (raUnit_any a b _).mono ?_
      rintro e w4 ⟨he, hb⟩
      rw [HA.out] at he
      subst he
      have hX := nextX (by go_grown : Below W0.heap.size W0 _) hb
      clear hb
      go_wp2_with fail
      go_meet
      exact ⟨⟨_, rfl⟩, (HDW.out.grow (nextX hX (by go_grown))).more (by omega), But.of_below (nextX hX (by go_grown)) (Nat.le_refl _)⟩
    · rcases hb2 : unitQ c d with _ | _
      · have HA := Lib.hid ha
        have HB := Lib.hid hb2
        clear ha hb2
        go_wp2_with fail
        refine (raUnit_any a b _).mono ?_
        rintro e w4 ⟨he, hb⟩
        rw [HA.out] at he
        subst he
        have hX := nextX (by go_grown : Below W0.heap.size W0 _) hb
        replace a0 := cellB hX a0
        replace a1 := cellB hX a1
        replace a2 := cellB hX a2
        replace a3 := cellB hX a3
        clear hb
        go_wp2_with fail
        refine (raUnit_any c d _).mono ?_
        rintro e w5 ⟨he, hb⟩
        rw [HB.out] at he
        subst he
        have hY := nextX (by go_grown : Below w4.heap.size w4 _) hb
        replace hX := nextW hX hY
        replace a0 := cellB hY a0
        replace a1 := cellB hY a1
        replace a2 := cellB hY a2
        replace a3 := cellB hY a3
        clear hb hY
        go_wp2_with fail
        go_meet
        exact ⟨⟨_, rfl⟩, (HDW.out.grow (nextX hX (by go_grown))).more (by omega), But.of_below (nextX hX (by go_grown)) (Nat.le_refl _)⟩
      · have HA := Lib.hid ha
        have HB := Lib.hid hb2
        have HSa := Lib.hid (Sm.of_ok (unitQ_ok ha))
        have HSc := Lib.hid (Sm.of_ok (unitQ_ok hb2))
        clear ha hb2
        obtain ⟨o, ho⟩ : ∃ o, cmpQ a b c d = o := ⟨_, rfl⟩
        have HO := Lib.hid ho
        clear ho
        by_cases h0 : 0 < o
        · have h0' : decide (0 < o) = true := decide_eq_true h0
          go_wp2_with fail
          refine (raUnit_any a b _).mono ?_
          rintro e w4 ⟨he, hb⟩
          rw [HA.out] at he
          subst he
          have hX := nextX (by go_grown : Below W0.heap.size W0 _) hb
          replace a0 := cellB hX a0
          replace a1 := cellB hX a1
          replace a2 := cellB hX a2
          replace a3 := cellB hX a3
          clear hb
          go_wp2_with fail
          refine (raUnit_any c d _).mono ?_
          rintro e w5 ⟨he, hb⟩
          rw [HB.out] at he
          subst he
          have hY := nextX (by go_grown : Below w4.heap.size w4 _) hb
          replace hX := nextW hX hY
          replace a0 := cellB hY a0
          replace a1 := cellB hY a1
          replace a2 := cellB hY a2
          replace a3 := cellB hY a3
          clear hb hY
          go_wp2_with fail
          refine (raCmp_is a b c d o HSa.out HSc.out HO.out _).mono ?_
          rintro e w6 ⟨rfl, hb⟩
          have hY := nextX (by go_grown : Below w5.heap.size w5 _) hb
          replace hX := nextW hX hY
          clear hb hY
          go_wp2_with fail
          refine (one_is (w.heap.size + 1 + 1) _ _ 8 _ (HDW.out.cur.keep (nextW hX (by go_grown))) (HDW.out.code.keep (nextW hX (by go_grown))) (by omega) (by omega)).mono ?_
          rintro e w7 ⟨t, rfl, hc, hb⟩
          have HD7 := Lib.hid (HDW.out.step (nextW hX (by go_grown)) hc hb)
          have hU := (But.of_below (nextW hX (by go_grown)) (Nat.le_refl _)).trans hb
          clear hc hb
          go_wp2_with fail
          go_meet
          exact ⟨⟨_, rfl⟩, HD7.out.grow (by go_grown), hU.next (by go_grown) (Nat.le_refl _)⟩
        · have h0' : decide (0 < o) = false := decide_eq_false h0
          go_wp2_with fail
          refine (raUnit_any a b _).mono ?_
          rintro e w4 ⟨he, hb⟩
          rw [HA.out] at he
          subst he
          have hX := nextX (by go_grown : Below W0.heap.size W0 _) hb
          replace a0 := cellB hX a0
          replace a1 := cellB hX a1
          replace a2 := cellB hX a2
          replace a3 := cellB hX a3
          clear hb
          go_wp2_with fail
          refine (raUnit_any c d _).mono ?_
          rintro e w5 ⟨he, hb⟩
          rw [HB.out] at he
          subst he
          have hY := nextX (by go_grown : Below w4.heap.size w4 _) hb
          replace hX := nextW hX hY
          replace a0 := cellB hY a0
          replace a1 := cellB hY a1
          replace a2 := cellB hY a2
          replace a3 := cellB hY a3
          clear hb hY
          go_wp2_with fail
          refine (raCmp_is a b c d o HSa.out HSc.out HO.out _).mono ?_
          rintro e w6 ⟨rfl, hb⟩
          have hY := nextX (by go_grown : Below w5.heap.size w5 _) hb
          replace hX := nextW hX hY
          clear hb hY
          go_wp2_with fail
          go_meet
          exact ⟨⟨_, rfl⟩, (HDW.out.grow (nextX hX (by go_grown))).more (by omega), But.of_below (nextX hX (by go_grown)) (Nat.le_refl _)⟩
  case rest => as_aux_lemma =>
    obtain ⟨⟨t, rfl⟩, hds, hb⟩ := hcut
    obtain ⟨w8, hwc⟩ : ∃ X : World, X = wc := ⟨_, rfl⟩
    subst hwc
    have HD8 := Lib.hid hds
    have hz8 := hb.size
    have HR8 := Lib.hid (HRW.out.keepU hb (fun h => by have := hrb _ h; omega))
    replace q00 := slotU hb (by omega) q00
    replace q01 := slotU hb (by omega) q01
    replace q10 := slotU hb (by omega) q10
    replace q11 := slotU hb (by omega) q11
    replace a00 := slotU hb (by omega) a00
    replace a01 := slotU hb (by omega) a01
    replace a10 := slotU hb (by omega) a10
    replace a11 := slotU hb (by omega) a11
    have gl8 := HD8.out.lt
    clear hds hb
    clear HV HBs HD1 HR1 HD2 HR2 HDW HRW
    have hBw : Below w.heap.size w w8 := But.below hB1 (HD3.out.but.trans HD8.out.but) (by omega) (by omega)
    rcases t with _ | _
    · go_wp2_with fail
      go_name_world V hV
      have hBV : Below w8.heap.size w8 V := by rw [← hV]; go_grown
      replace q00 := slotB hBV q00
      replace q01 := slotB hBV q01
      replace q10 := slotB hBV q10
      replace q11 := slotB hBV q11
      replace a00 := slotB hBV a00
      replace a01 := slotB hBV a01
      replace a10 := slotB hBV a10
      replace a11 := slotB hBV a11
      have HRV := Lib.hid (OwP.keep HR8.out hBV)
      have hBwV := nextW hBw hBV
      have hzV := hBV.size
      clear hV
      obtain ⟨p0, f0⟩ := q00
      obtain ⟨p1, f1⟩ := q01
      obtain ⟨p2, f2⟩ := q10
      obtain ⟨p3, f3⟩ := q11
      have zq := lt_of_cell p0
      have zq1 := lt_of_cell p2
      have kL : Facts [(w3.heap.size, 0, .int .i64 a), (w3.heap.size, 1, .int .i64 b), (w3.heap.size + 1, 0, .int .i64 c), (w3.heap.size + 1, 1, .int .i64 d)] V := ⟨a00.1, a01.1, a10.1, a11.1⟩
      refine wp_region_HT (S := (fun w' : World => w'.cell? ⟨w3.heap.size, 0, none⟩ = some (.int .i64 a) ∧ w'.cell? ⟨w3.heap.size, 1, none⟩ = some (.int .i64 b) ∧ w'.cell? ⟨w3.heap.size + 1, 0, none⟩ = some (.int .i64 c) ∧ w'.cell? ⟨w3.heap.size + 1, 1, none⟩ = some (.int .i64 d))) 5 (by kernel_rfl) (by kernel_rfl) ?_
      have hS0 : (fun w' : World => w'.cell? ⟨w3.heap.size, 0, none⟩ = some (.int .i64 a) ∧ w'.cell? ⟨w3.heap.size, 1, none⟩ = some (.int .i64 b) ∧ w'.cell? ⟨w3.heap.size + 1, 0, none⟩ = some (.int .i64 c) ∧ w'.cell? ⟨w3.heap.size + 1, 1, none⟩ = some (.int .i64 d)) _ := kL
      refine HT.take' (i := 0) (v := ?_) rfl (by kernel_rfl) (by decide) (by kernel_rfl) (by kernel_rfl) (fun _ _ _ h => h) (by rfl) (fun w' hS => ?_) hS0 ?_
      rotate_left
      focus
        obtain ⟨k0, k1, k2, k3⟩ := hS
        go_simp
        try with_reducible rfl
        done
      simp only [Act.put, List.setIfInBounds_toArray, List.set_cons_zero, List.set_cons_succ]
      refine HT.take' (i := 1) (v := ?_) rfl (by kernel_rfl) (by decide) (by kernel_rfl) (by kernel_rfl) (fun _ _ _ h => h) (by rfl) (fun w' hS => ?_) hS0 ?_
      rotate_left
      focus
        obtain ⟨k0, k1, k2, k3⟩ := hS
        go_simp
        try with_reducible rfl
        done
      simp only [Act.put, List.setIfInBounds_toArray, List.set_cons_zero, List.set_cons_succ]
      refine HT.take' (i := 2) (v := ?_) rfl (by kernel_rfl) (by decide) (by kernel_rfl) (by kernel_rfl) (fun _ _ _ h => h) (by rfl) (fun w' hS => ?_) hS0 ?_
      rotate_left
      focus
        obtain ⟨k0, k1, k2, k3⟩ := hS
        go_simp
        try with_reducible rfl
        done
      simp only [Act.put, List.setIfInBounds_toArray, List.set_cons_zero, List.set_cons_succ]
      refine HT.take' (i := 3) (v := ?_) rfl (by kernel_rfl) (by decide) (by kernel_rfl) (by kernel_rfl) (fun _ _ _ h => h) (by rfl) (fun w' hS => ?_) hS0 ?_
      rotate_left
      focus
        obtain ⟨k0, k1, k2, k3⟩ := hS
        go_simp
        try with_reducible rfl
        done
      simp only [Act.put, List.setIfInBounds_toArray, List.set_cons_zero, List.set_cons_succ]
      have kN : Facts [(w3.heap.size, 0, .int .i64 a), (w3.heap.size, 1, .int .i64 b), (w3.heap.size + 1, 0, .int .i64 c), (w3.heap.size + 1, 1, .int .i64 d)] ((V.setCell ⟨w.heap.size, 0, none⟩ (.int .i64 a)).setCell ⟨w.heap.size, 1, none⟩ (.int .i64 b)) := (Facts.put (Facts.put kL (by simp; omega)) (by simp; omega))
      refine HT.one' (i := 4) rfl (by decide) (by kernel_rfl) (fun K hK => ?_)
      go_simp
      refine hK _ _ kN ?_
      clear hK
      try simp only [Act.put, List.setIfInBounds_toArray, List.set_cons_zero, List.set_cons_succ]
      refine HT.done (by kernel_rfl) ?_
      simp only [List.drop_succ_cons, List.drop_zero]
      clear hS0 kL kN
      go_wp2_with fail
      generalize hZ : ((((V.setCell ⟨w.heap.size, 0, none⟩ (.int .i64 a)).setCell ⟨w.heap.size, 1, none⟩ (.int .i64 b)).setCell ⟨w.heap.size + 1, 0, none⟩ (.int .i64 c)).setCell ⟨w.heap.size + 1, 1, none⟩ (.int .i64 d)) = Z
      have hrd := fourV (X := V) (g0 := w.heap.size) (g1 := w.heap.size + 1) (a := .int .i64 a) (b := .int .i64 b) (c := .int .i64 c) (d := .int .i64 d) (by omega) ⟨p0, f0⟩ ⟨p1, f1⟩ ⟨p2, f2⟩ ⟨p3, f3⟩
      rw [hZ] at hrd
      refine bodyPost_ret (v := .tuple #[r, .agg #[.int .i64 a, .int .i64 b], .agg #[.int .i64 c, .int .i64 d]]) (res_clamp _ Z.drew _ _ r a b c d rfl rfl rfl hrd.1 hrd.2.1 hrd.2.2.1 hrd.2.2.2) rfl ⟨_, ps, a, b, c, d, rfl, ?_, hpl, ?_⟩
      · have hO : OwP (w.heap.size + 1 + 1 + 1) 51 ((((V.setCell ⟨w.heap.size, 0, none⟩ (.int .i64 a)).setCell ⟨w.heap.size, 1, none⟩ (.int .i64 b)).setCell ⟨w.heap.size + 1, 0, none⟩ (.int .i64 c)).setCell ⟨w.heap.size + 1, 1, none⟩ (.int .i64 d)) r ps := (OwP.setO (OwP.setO (OwP.setO (OwP.setO (HRV.out) (fun h => by have := HRV.out.blk _ h; omega)) (fun h => by have := HRV.out.blk _ h; omega)) (fun h => by have := HRV.out.blk _ h; omega)) (fun h => by have := HRV.out.blk _ h; omega))
        rw [hZ] at hO
        exact (OwP.keep hO (by go_grown)).low (by omega)
      · rw [← hZ]; go_grown
    · go_wp2_with fail
      go_name_world V hV
      have hBV : Below w8.heap.size w8 V := by rw [← hV]; go_grown
      replace q00 := slotB hBV q00
      replace q01 := slotB hBV q01
      replace q10 := slotB hBV q10
      replace q11 := slotB hBV q11
      replace a00 := slotB hBV a00
      replace a01 := slotB hBV a01
      replace a10 := slotB hBV a10
      replace a11 := slotB hBV a11
      have HRV := Lib.hid (OwP.keep HR8.out hBV)
      have hBwV := nextW hBw hBV
      have hzV := hBV.size
      clear hV
      obtain ⟨p0, f0⟩ := q00
      obtain ⟨p1, f1⟩ := q01
      obtain ⟨p2, f2⟩ := q10
      obtain ⟨p3, f3⟩ := q11
      have zq := lt_of_cell p0
      have zq1 := lt_of_cell p2
      have kL : Facts [(w3.heap.size, 0, .int .i64 a), (w3.heap.size, 1, .int .i64 b), (w3.heap.size + 1, 0, .int .i64 c), (w3.heap.size + 1, 1, .int .i64 d)] V := ⟨a00.1, a01.1, a10.1, a11.1⟩
      refine wp_region_HT (S := (fun w' : World => w'.cell? ⟨w3.heap.size, 0, none⟩ = some (.int .i64 a) ∧ w'.cell? ⟨w3.heap.size, 1, none⟩ = some (.int .i64 b) ∧ w'.cell? ⟨w3.heap.size + 1, 0, none⟩ = some (.int .i64 c) ∧ w'.cell? ⟨w3.heap.size + 1, 1, none⟩ = some (.int .i64 d))) 5 (by kernel_rfl) (by kernel_rfl) ?_
      have hS0 : (fun w' : World => w'.cell? ⟨w3.heap.size, 0, none⟩ = some (.int .i64 a) ∧ w'.cell? ⟨w3.heap.size, 1, none⟩ = some (.int .i64 b) ∧ w'.cell? ⟨w3.heap.size + 1, 0, none⟩ = some (.int .i64 c) ∧ w'.cell? ⟨w3.heap.size + 1, 1, none⟩ = some (.int .i64 d)) _ := kL
      refine HT.take' (i := 0) (v := ?_) rfl (by kernel_rfl) (by decide) (by kernel_rfl) (by kernel_rfl) (fun _ _ _ h => h) (by rfl) (fun w' hS => ?_) hS0 ?_
      rotate_left
      focus
        obtain ⟨k0, k1, k2, k3⟩ := hS
        go_simp
        try with_reducible rfl
        done
      simp only [Act.put, List.setIfInBounds_toArray, List.set_cons_zero, List.set_cons_succ]
      refine HT.take' (i := 1) (v := ?_) rfl (by kernel_rfl) (by decide) (by kernel_rfl) (by kernel_rfl) (fun _ _ _ h => h) (by rfl) (fun w' hS => ?_) hS0 ?_
      rotate_left
      focus
        obtain ⟨k0, k1, k2, k3⟩ := hS
        go_simp
        try with_reducible rfl
        done
      simp only [Act.put, List.setIfInBounds_toArray, List.set_cons_zero, List.set_cons_succ]
      refine HT.take' (i := 2) (v := ?_) rfl (by kernel_rfl) (by decide) (by kernel_rfl) (by kernel_rfl) (fun _ _ _ h => h) (by rfl) (fun w' hS => ?_) hS0 ?_
      rotate_left
      focus
        obtain ⟨k0, k1, k2, k3⟩ := hS
        go_simp
        try with_reducible rfl
        done
      simp only [Act.put, List.setIfInBounds_toArray, List.set_cons_zero, List.set_cons_succ]
      refine HT.take' (i := 3) (v := ?_) rfl (by kernel_rfl) (by decide) (by kernel_rfl) (by kernel_rfl) (fun _ _ _ h => h) (by rfl) (fun w' hS => ?_) hS0 ?_
      rotate_left
      focus
        obtain ⟨k0, k1, k2, k3⟩ := hS
        go_simp
        try with_reducible rfl
        done
      simp only [Act.put, List.setIfInBounds_toArray, List.set_cons_zero, List.set_cons_succ]
      have kN : Facts [(w3.heap.size, 0, .int .i64 a), (w3.heap.size, 1, .int .i64 b), (w3.heap.size + 1, 0, .int .i64 c), (w3.heap.size + 1, 1, .int .i64 d)] ((V.setCell ⟨w.heap.size, 0, none⟩ (.int .i64 c)).setCell ⟨w.heap.size, 1, none⟩ (.int .i64 d)) := (Facts.put (Facts.put kL (by simp; omega)) (by simp; omega))
      refine HT.one' (i := 4) rfl (by decide) (by kernel_rfl) (fun K hK => ?_)
      go_simp
      refine hK _ _ kN ?_
      clear hK
      try simp only [Act.put, List.setIfInBounds_toArray, List.set_cons_zero, List.set_cons_succ]
      refine HT.done (by kernel_rfl) ?_
      simp only [List.drop_succ_cons, List.drop_zero]
      clear hS0 kL kN
      go_wp2_with fail
      generalize hZ : ((((V.setCell ⟨w.heap.size, 0, none⟩ (.int .i64 c)).setCell ⟨w.heap.size, 1, none⟩ (.int .i64 d)).setCell ⟨w.heap.size + 1, 0, none⟩ (.int .i64 a)).setCell ⟨w.heap.size + 1, 1, none⟩ (.int .i64 b)) = Z
      have hrd := fourV (X := V) (g0 := w.heap.size) (g1 := w.heap.size + 1) (a := .int .i64 c) (b := .int .i64 d) (c := .int .i64 a) (d := .int .i64 b) (by omega) ⟨p0, f0⟩ ⟨p1, f1⟩ ⟨p2, f2⟩ ⟨p3, f3⟩
      rw [hZ] at hrd
      refine bodyPost_ret (v := .tuple #[r, .agg #[.int .i64 c, .int .i64 d], .agg #[.int .i64 a, .int .i64 b]]) (res_clamp _ Z.drew _ _ r c d a b rfl rfl rfl hrd.1 hrd.2.1 hrd.2.2.1 hrd.2.2.2) rfl ⟨_, ps, c, d, a, b, rfl, ?_, hpl, ?_⟩
      · have hO : OwP (w.heap.size + 1 + 1 + 1) 51 ((((V.setCell ⟨w.heap.size, 0, none⟩ (.int .i64 c)).setCell ⟨w.heap.size, 1, none⟩ (.int .i64 d)).setCell ⟨w.heap.size + 1, 0, none⟩ (.int .i64 a)).setCell ⟨w.heap.size + 1, 1, none⟩ (.int .i64 b)) r ps := (OwP.setO (OwP.setO (OwP.setO (OwP.setO (HRV.out) (fun h => by have := HRV.out.blk _ h; omega)) (fun h => by have := HRV.out.blk _ h; omega)) (fun h => by have := HRV.out.blk _ h; omega)) (fun h => by have := HRV.out.blk _ h; omega))
        rw [hZ] at hO
        exact (OwP.keep hO (by go_grown)).low (by omega)
      · rw [← hZ]; go_grown

set_option maxHeartbeats 400000 in
theorem res_join (T : Array Value) (Z : World) (g0 : Nat) (r s : Value) (a b : Int) (h2 : T[2]?.getD undef = r) (h3 : T[3]?.getD undef = s) (h4 : T[4]?.getD undef = .pointer (some ⟨g0, 0, none⟩))
    (r00 : Z.cell? ⟨g0, 0, none⟩ = some (.int .i64 a)) (r01 : Z.cell? ⟨g0, 1, none⟩ = some (.int .i64 b)) :
    Sem.run Tryz.prog (results Tryz.f40 T) Z = Result.ok (Value.tuple #[r, s, .agg #[.int .i64 a, .int .i64 b]]) Z := by
  unfold results
  rw [Tryz.results40]
  simp [go_sem, h2, h3, h4, r00, r01]
def RelJn (qs : List Pt) (B : Nat) (W0 : World) (nx i : Value) (wr : World) : Prop := ∃ (k : Nat) (l : List Pt), i = .int .i64 k ∧ k ≤ qs.length ∧ OwP B 51 wr nx l ∧ l.length = k ∧ Below B W0 wr
set_option maxRecDepth 100000 in
set_option maxHeartbeats 6400000 in
theorem drawJoin_is (v : Value) (bs : List Int) (w : World) (hv : RdN .u8 w v bs) (hb : ∀ x ∈ bs, 0 ≤ x ∧ x ≤ 255) :
    Calls Tryz.prog 40 #[v] w (RowsRat w) := by
  have HV := Lib.hid hv
  have HBs := Lib.hid hb
  obtain ⟨A, cv, rfl, hl, hm, hcell⟩ := hv
  clear hb hcell
  go_enter Tryz.func40, Tryz.ntmps40
  go_wp2_with fail
  refine (twoMaps_is (w.heap.size + 1) _ 0 _ ⟨⟨by simp [go_sem], by simp [go_sem]⟩, ⟨0, Nat.le_refl _, by simp [go_sem], by simp [go_sem]⟩, 0, by omega, by omega, by simp [go_sem], by simp [go_sem]⟩ (HV.out.codeF HBs.out (by go_grown) (by omega)) (by omega)).mono ?_
  rintro e w1 ⟨r, s, ps, qs, rfl, hr, hs, hpl, hc, hb⟩
  have q00 : Slot w1 w.heap.size 0 (.int .i64 0) := slotU hb (by omega) ⟨by simp [go_sem], by simp [go_sem]⟩
  have q01 : Slot w1 w.heap.size 1 (.int .i64 0) := slotU hb (by omega) ⟨by simp [go_sem], by simp [go_sem]⟩
  have hB1 : Below w.heap.size w w1 := But.below (by go_grown : Below w.heap.size w _) hb (by omega) (by go_size)
  have HD_1 := Lib.hid (DS.start hc (Code.keepU (HV.out.codeF HBs.out (by go_grown) (by omega)) hb))
  have HR1 := Lib.hid (hr.low (b := w.heap.size + 1 + 1) (by first | go_size | (simp; done) | (simp; omega)))
  clear hr
  have HS1 := Lib.hid (hs.low (b := w.heap.size + 1 + 1) (by first | go_size | (simp; done) | (simp; omega)))
  clear hs
  clear hc hb
  have gl1 := HD_1.out.lt
  have zw1 := hB1.size
  go_wp2_with fail
  refine (among2_is (w.heap.size + 1) _ _ (w.heap.size + 1 + 1) _ ps _ (HD_1.out.cur.keep (by go_grown)) (HD_1.out.code.keep (by go_grown)) (OwP.keep HR1.out (by go_grown)) (by omega) (by omega) (by omega)).mono ?_
  rintro e w2 ⟨a, b, rfl, hc, hb⟩
  have HD_2 := Lib.hid (HD_1.out.step (by go_grown) hc hb)
  have HR2 := Lib.hid ((OwP.keep HR1.out (by go_grown)).keepU hb (fun h => by have := HR1.out.blk _ h; omega))
  have HS2 := Lib.hid ((OwP.keep HS1.out (by go_grown)).keepU hb (fun h => by have := HS1.out.blk _ h; omega))
  replace q00 := DS.slot (by go_grown) hb (by omega) q00
  replace q01 := DS.slot (by go_grown) hb (by omega) q01
  have gl2 := HD_2.out.lt
  have hz2 := HD_2.out.but.size
  clear hc hb
  go_upto_region 4 with fail
  go_name_world w3 hW
  have hX3 : Below w2.heap.size w2 w3 := by rw [← hW]; go_grown
  have HD_3 := Lib.hid (HD_2.out.grow hX3)
  have HR3 := Lib.hid (OwP.keep HR2.out hX3)
  have HS3 := Lib.hid (OwP.keep HS2.out hX3)
  replace q00 := slotB hX3 q00
  replace q01 := slotB hX3 q01
  have gl3 := HD_3.out.lt
  have hz3 := HD_3.out.but.size
  have a0 : Slot w3 w2.heap.size 0 (.int .i64 a) := by rw [← hW]; exact ⟨by simp [go_sem], by simp [go_sem]⟩
  have a1 : Slot w3 w2.heap.size 1 (.int .i64 b) := by rw [← hW]; exact ⟨by simp [go_sem], by simp [go_sem]⟩
  clear hW
  have za := lt_of_cell a0.1
  go_cut [35] (fun c wx => ∃ t, c = .bool t ∧ (t = true → (okMap ps = true ∧ okMap qs = true) ∧ unitQ a b = true) ∧ DS (w.heap.size + 1) (.slice A bs.length cv) (0 + 1000 + 30 + 2) w3 wx)
  case first => as_aux_lemma =>
    obtain ⟨a0, fa0⟩ := a0
    obtain ⟨a1, fa1⟩ := a1
    have HD0 := Lib.hid (DS.start HD_3.out.cur HD_3.out.code)
    rcases h2 : (okMap ps && okMap qs) with _ | _
    · have HM := Lib.hid h2
      clear h2
      go_wp2_with fail
      refine (coTwo_is ps qs _ _ false HM.out _ (HR3.out.read.keep (by go_grown)) (HS3.out.read.keep (by go_grown)) (by omega) (by omega)).mono ?_
      rintro e w4 ⟨rfl, hb⟩
      have hX4 : Below w3.heap.size w3 w4 := nextX (by go_grown) hb
      have HD_4 := Lib.hid (HD0.out.grow hX4)
      have HR4 := Lib.hid (OwP.keep HR3.out hX4)
      have HS4 := Lib.hid (OwP.keep HS3.out hX4)
      have gl4 := HD_4.out.lt
      have hz4 := HD_4.out.but.size
      clear hb
      go_wp2_with fail
      go_meet
      exact ⟨false, rfl, fun h => (by cases h), (HD_4.out.grow (by go_grown)).more (by omega)⟩
    · have HM := Lib.hid h2
      have HM2 := Lib.hid (Bool.and_eq_true_iff.1 h2)
      clear h2
      go_wp2_with fail
      refine (coTwo_is ps qs _ _ true HM.out _ (HR3.out.read.keep (by go_grown)) (HS3.out.read.keep (by go_grown)) (by omega) (by omega)).mono ?_
      rintro e w4 ⟨rfl, hb⟩
      have hX4 : Below w3.heap.size w3 w4 := nextX (by go_grown) hb
      have HD_4 := Lib.hid (HD0.out.grow hX4)
      have HR4 := Lib.hid (OwP.keep HR3.out hX4)
      have HS4 := Lib.hid (OwP.keep HS3.out hX4)
      have gl4 := HD_4.out.lt
      have hz4 := HD_4.out.but.size
      clear hb
      replace a0 := cellB hX4 a0
      replace a1 := cellB hX4 a1
      rcases hu : unitQ a b with _ | _
      · have HA := Lib.hid hu
        clear hu
        go_wp2_with fail
        refine (raUnit_any a b _).mono ?_
        rintro e w5 ⟨he, hb⟩
        have hX5 : Below w4.heap.size w4 w5 := nextX (by go_grown) hb
        rw [HA.out] at he
        subst he
        have HD_5 := Lib.hid (HD_4.out.grow hX5)
        have HR5 := Lib.hid (OwP.keep HR4.out hX5)
        have HS5 := Lib.hid (OwP.keep HS4.out hX5)
        have gl5 := HD_5.out.lt
        have hz5 := HD_5.out.but.size
        clear hb
        go_wp2_with fail
        go_meet
        exact ⟨false, rfl, fun h => (by cases h), (HD_5.out.grow (by go_grown)).more (by omega)⟩
      · have HA := Lib.hid hu
        clear hu
        go_wp2_with fail
        refine (raUnit_any a b _).mono ?_
        rintro e w5 ⟨he, hb⟩
        have hX5 : Below w4.heap.size w4 w5 := nextX (by go_grown) hb
        rw [HA.out] at he
        subst he
        have HD_5 := Lib.hid (HD_4.out.grow hX5)
        have HR5 := Lib.hid (OwP.keep HR4.out hX5)
        have HS5 := Lib.hid (OwP.keep HS4.out hX5)
        have gl5 := HD_5.out.lt
        have hz5 := HD_5.out.but.size
        clear hb
        go_wp2_with fail
        refine (one_is (w.heap.size + 1) _ _ 2 _ (HD_5.out.cur.keep (by go_grown)) (HD_5.out.code.keep (by go_grown)) (by omega) (by omega)).mono ?_
        rintro e w6 ⟨t, rfl, hc, hb⟩
        have HD_6 := Lib.hid (HD_5.out.step (by go_grown) hc hb)
        have HR6 := Lib.hid ((OwP.keep HR5.out (by go_grown)).keepU hb (fun h => by have := HR5.out.blk _ h; omega))
        have HS6 := Lib.hid ((OwP.keep HS5.out (by go_grown)).keepU hb (fun h => by have := HS5.out.blk _ h; omega))
        have gl6 := HD_6.out.lt
        have hz6 := HD_6.out.but.size
        clear hc hb
        go_wp2_with fail
        go_meet
        exact ⟨t, rfl, fun _ => ⟨HM2.out, HA.out⟩, HD_6.out.grow (by go_grown)⟩
  case rest => as_aux_lemma =>
    obtain ⟨t, rfl, hok, hds⟩ := hcut
    obtain ⟨w7, hwc⟩ : ∃ X : World, X = wc := ⟨_, rfl⟩
    subst hwc
    have HD_7 := Lib.hid (DS.mk hds.cur hds.code (HD_3.out.but.trans hds.but))
    have HR7 := Lib.hid (HR3.out.keepU hds.but (fun h => by have := HR3.out.blk _ h; omega))
    have HS7 := Lib.hid (HS3.out.keepU hds.but (fun h => by have := HS3.out.blk _ h; omega))
    have gl7 := HD_7.out.lt
    have hz7 := hds.but.size
    replace q00 := slotU hds.but (by omega) q00
    replace q01 := slotU hds.but (by omega) q01
    replace a0 := slotU hds.but (by omega) a0
    replace a1 := slotU hds.but (by omega) a1
    clear hds
    rcases t with _ | _
    · go_wp2_with fail
      go_name_world w8 hW
      have hX8 : Below w7.heap.size w7 w8 := by rw [← hW]; go_grown
      have HD_8 := Lib.hid (HD_7.out.grow hX8)
      have HR8 := Lib.hid (OwP.keep HR7.out hX8)
      have HS8 := Lib.hid (OwP.keep HS7.out hX8)
      replace q00 := slotB hX8 q00
      replace q01 := slotB hX8 q01
      replace a0 := slotB hX8 a0
      replace a1 := slotB hX8 a1
      have gl8 := HD_8.out.lt
      have hz8 := HD_8.out.but.size
      clear hW
      refine wp_region_HT (S := (fun w' : World => w'.cell? ⟨w2.heap.size, 0, none⟩ = some (.int .i64 a) ∧ w'.cell? ⟨w2.heap.size, 1, none⟩ = some (.int .i64 b))) 5 (by kernel_rfl) (by kernel_rfl) ?_
      have hS0 : (fun w' : World => w'.cell? ⟨w2.heap.size, 0, none⟩ = some (.int .i64 a) ∧ w'.cell? ⟨w2.heap.size, 1, none⟩ = some (.int .i64 b)) _ := ⟨a0.1, a1.1⟩
      refine HT.take' (i := 0) (v := ?_) rfl (by kernel_rfl) (by decide) (by kernel_rfl) (by kernel_rfl) (fun _ _ _ h => h) (by rfl) (fun w' hS => ?_) hS0 ?_
      rotate_left
      focus
        obtain ⟨k0, k1⟩ := hS
        go_simp
        try with_reducible rfl
        done
      simp only [Act.put, List.setIfInBounds_toArray, List.set_cons_zero, List.set_cons_succ]
      refine HT.take' (i := 1) (v := ?_) rfl (by kernel_rfl) (by decide) (by kernel_rfl) (by kernel_rfl) (fun _ _ _ h => h) (by rfl) (fun w' hS => ?_) hS0 ?_
      rotate_left
      focus
        obtain ⟨k0, k1⟩ := hS
        go_simp
        try with_reducible rfl
        done
      simp only [Act.put, List.setIfInBounds_toArray, List.set_cons_zero, List.set_cons_succ]
      refine HT.take' (i := 2) (v := ?_) rfl (by kernel_rfl) (by decide) (by kernel_rfl) (by kernel_rfl) (fun _ _ _ h => h) (by rfl) (fun w' hS => ?_) hS0 ?_
      rotate_left
      focus
        obtain ⟨k0, k1⟩ := hS
        go_simp
        try with_reducible rfl
        done
      simp only [Act.put, List.setIfInBounds_toArray, List.set_cons_zero, List.set_cons_succ]
      refine HT.take' (i := 3) (v := ?_) rfl (by kernel_rfl) (by decide) (by kernel_rfl) (by kernel_rfl) (fun _ _ _ h => h) (by rfl) (fun w' hS => ?_) hS0 ?_
      rotate_left
      focus
        obtain ⟨k0, k1⟩ := hS
        go_simp
        try with_reducible rfl
        done
      simp only [Act.put, List.setIfInBounds_toArray, List.set_cons_zero, List.set_cons_succ]
      refine HT.take' (i := 4) (v := ?_) rfl (by kernel_rfl) (by decide) (by kernel_rfl) (by kernel_rfl) (fun _ _ _ h => h) (by rfl) (fun w' hS => ?_) hS0 ?_
      rotate_left
      focus
        obtain ⟨k0, k1⟩ := hS
        go_simp
        try with_reducible rfl
        done
      simp only [Act.put, List.setIfInBounds_toArray, List.set_cons_zero, List.set_cons_succ]
      refine HT.done (by kernel_rfl) ?_
      simp only [List.drop_succ_cons, List.drop_zero]
      obtain ⟨p0, f0⟩ := q00
      obtain ⟨p1, f1⟩ := q01
      have zq := lt_of_cell p0
      have hBw : Below w.heap.size w w8 := But.below hB1 HD_8.out.but (by omega) (by omega)
      clear hS0
      go_wp2_with fail
      generalize hZ : ((w8.setCell ⟨w.heap.size, 0, none⟩ (.int .i64 a)).setCell ⟨w.heap.size, 1, none⟩ (.int .i64 b)) = Z
      have hrd0 : Z.cell? ⟨w.heap.size, 0, none⟩ = some (.int .i64 a) := by rw [← hZ]; exact (slotOff4 (slotPut4 ⟨p0, f0⟩) (by decide)).1
      have hrd1 : Z.cell? ⟨w.heap.size, 1, none⟩ = some (.int .i64 b) := by rw [← hZ]; exact (slotPut4 (slotOff4 ⟨p1, f1⟩ (by decide))).1
      refine bodyPost_ret (v := .tuple #[r, s, .agg #[.int .i64 a, .int .i64 b]]) (res_join _ Z.drew _ r s a b rfl rfl rfl hrd0 hrd1) rfl ⟨_, _, ps, qs, a, b, rfl, ?_, ?_, ⟨hpl.1, hpl.2⟩, ?_⟩
      · rw [← hZ]; exact (OwP.keep (OwP.setO (k := w.heap.size) (o := 1) (x := .int .i64 b) (OwP.setO (k := w.heap.size) (o := 0) (x := .int .i64 a) HR8.out (fun h => by have := HR8.out.blk _ h; omega)) (fun h => by have := HR8.out.blk _ h; omega)) (by go_grown)).low (by omega)
      · rw [← hZ]; exact (OwP.keep (OwP.setO (k := w.heap.size) (o := 1) (x := .int .i64 b) (OwP.setO (k := w.heap.size) (o := 0) (x := .int .i64 a) HS8.out (fun h => by have := HS8.out.blk _ h; omega)) (fun h => by have := HS8.out.blk _ h; omega)) (by go_grown)).low (by omega)
      · rw [← hZ]; go_grown
    · obtain ⟨⟨m1, m2⟩, m3⟩ := hok rfl
      clear hok
      obtain ⟨y1, y2, tt, hat⟩ : ∃ y1 y2 tt, atQ ps (a, b) = (y1, y2, tt) := ⟨_, _, _, rfl⟩
      have HAt := Lib.hid hat
      clear hat
      obtain ⟨e0, fe0⟩ := a0
      obtain ⟨e1, fe1⟩ := a1
      go_wp2_with fail
      refine (imAt_is ps _ a b y1 y2 tt _ (HR7.out.read.keep (by go_grown)) m1 m3 HAt.out).mono ?_
      rintro e w8 ⟨rfl, hb⟩
      have hX8 : Below w7.heap.size w7 w8 := nextX (by go_grown) hb
      have a0 := slotB hX8 ⟨e0, fe0⟩
      have a1 := slotB hX8 ⟨e1, fe1⟩
      clear e0 e1 fe0 fe1
      have HD_8 := Lib.hid (HD_7.out.grow hX8)
      have HR8 := Lib.hid (OwP.keep HR7.out hX8)
      have HS8 := Lib.hid (OwP.keep HS7.out hX8)
      replace q00 := slotB hX8 q00
      replace q01 := slotB hX8 q01
      have gl8 := HD_8.out.lt
      have hz8 := HD_8.out.but.size
      clear hb
      go_upto_region 6 with fail
      go_name_world w9 hW
      have hX9 : Below w8.heap.size w8 w9 := by rw [← hW]; go_grown
      have HD_9 := Lib.hid (HD_8.out.grow hX9)
      have HR9 := Lib.hid (OwP.keep HR8.out hX9)
      have HS9 := Lib.hid (OwP.keep HS8.out hX9)
      replace q00 := slotB hX9 q00
      replace q01 := slotB hX9 q01
      replace a0 := slotB hX9 a0
      replace a1 := slotB hX9 a1
      have gl9 := HD_9.out.lt
      have hz9 := HD_9.out.but.size
      have y0 : Slot w9 w8.heap.size 0 (.int .i64 y1) := by rw [← hW]; exact ⟨by simp [go_sem], by simp [go_sem]⟩
      have yy : Slot w9 w8.heap.size 1 (.int .i64 y2) := by rw [← hW]; exact ⟨by simp [go_sem], by simp [go_sem]⟩
      clear hW
      have zy := lt_of_cell y0.1
      go_cut [50] (fun c wx => (∃ t, c = .bool t) ∧ Below w9.heap.size w9 wx)
      case first => as_aux_lemma =>
        obtain ⟨e0, fe0⟩ := a0
        obtain ⟨e1, fe1⟩ := a1
        obtain ⟨z0, fz0⟩ := y0
        obtain ⟨z1, fz1⟩ := yy
        clear fe0 fe1 fz0 fz1
        rcases tt with _ | _
        · go_wp2_with fail
          go_meet
          exact ⟨⟨_, rfl⟩, by go_grown⟩
        · rcases hc1 : coordQ y1 y2 with _ | _
          · have HC1 := Lib.hid hc1
            clear hc1
            go_wp2_with fail
            refine (imCoord_is y1 y2 false HC1.out _).mono ?_
            rintro e w10 ⟨rfl, hb⟩
            have hX10 : Below w9.heap.size w9 w10 := nextX (by go_grown) hb
            have HD_10 := Lib.hid (HD_9.out.grow hX10)
            have gl10 := HD_10.out.lt
            have hz10 := HD_10.out.but.size
            clear hb
            go_wp2_with fail
            go_meet
            exact ⟨⟨_, rfl⟩, nextX hX10 (by go_grown)⟩
          · have HC1 := Lib.hid hc1
            clear hc1
            go_wp2_with fail
            refine (imCoord_is y1 y2 true HC1.out _).mono ?_
            rintro e w10 ⟨rfl, hb⟩
            have hX10 : Below w9.heap.size w9 w10 := nextX (by go_grown) hb
            have HD_10 := Lib.hid (HD_9.out.grow hX10)
            have gl10 := HD_10.out.lt
            have hz10 := HD_10.out.but.size
            clear hb
            replace e0 := cellB hX10 e0
            replace e1 := cellB hX10 e1
            go_wp2_with fail
            refine (imCoord_is a b (coordQ a b) rfl _).mono ?_
            rintro e w11 ⟨rfl, hb⟩
            have hX11 : Below w10.heap.size w10 w11 := nextX (by go_grown) hb
            have HD_11 := Lib.hid (HD_10.out.grow hX11)
            have gl11 := HD_11.out.lt
            have hz11 := HD_11.out.but.size
            clear hb
            go_wp2_with fail
            go_meet
            exact ⟨⟨_, rfl⟩, nextX (nextW hX10 hX11) (by go_grown)⟩
      case rest => as_aux_lemma =>
        obtain ⟨⟨t6, rfl⟩, hX⟩ := hcut
        obtain ⟨w12, hwc⟩ : ∃ X : World, X = wc := ⟨_, rfl⟩
        subst hwc
        have hX12 := hX
        clear hX
        have HD_12 := Lib.hid (HD_9.out.grow hX12)
        have HR12 := Lib.hid (OwP.keep HR9.out hX12)
        have HS12 := Lib.hid (OwP.keep HS9.out hX12)
        replace q00 := slotB hX12 q00
        replace q01 := slotB hX12 q01
        replace a0 := slotB hX12 a0
        replace a1 := slotB hX12 a1
        replace y0 := slotB hX12 y0
        replace yy := slotB hX12 yy
        have gl12 := HD_12.out.lt
        have hz12 := HD_12.out.but.size
        rcases t6 with _ | _
        · go_wp2_with fail
          go_name_world w13 hW
          have hX13 : Below w12.heap.size w12 w13 := by rw [← hW]; go_grown
          have HD_13 := Lib.hid (HD_12.out.grow hX13)
          have HR13 := Lib.hid (OwP.keep HR12.out hX13)
          have HS13 := Lib.hid (OwP.keep HS12.out hX13)
          replace q00 := slotB hX13 q00
          replace q01 := slotB hX13 q01
          replace a0 := slotB hX13 a0
          replace a1 := slotB hX13 a1
          replace y0 := slotB hX13 y0
          replace yy := slotB hX13 yy
          have gl13 := HD_13.out.lt
          have hz13 := HD_13.out.but.size
          clear hW
          refine wp_region_HT (S := (fun w' : World => w'.cell? ⟨w2.heap.size, 0, none⟩ = some (.int .i64 a) ∧ w'.cell? ⟨w2.heap.size, 1, none⟩ = some (.int .i64 b))) 5 (by kernel_rfl) (by kernel_rfl) ?_
          have hS0 : (fun w' : World => w'.cell? ⟨w2.heap.size, 0, none⟩ = some (.int .i64 a) ∧ w'.cell? ⟨w2.heap.size, 1, none⟩ = some (.int .i64 b)) _ := ⟨a0.1, a1.1⟩
          refine HT.take' (i := 0) (v := ?_) rfl (by kernel_rfl) (by decide) (by kernel_rfl) (by kernel_rfl) (fun _ _ _ h => h) (by rfl) (fun w' hS => ?_) hS0 ?_
          rotate_left
          focus
            obtain ⟨k0, k1⟩ := hS
            go_simp
            try with_reducible rfl
            done
          simp only [Act.put, List.setIfInBounds_toArray, List.set_cons_zero, List.set_cons_succ]
          refine HT.take' (i := 1) (v := ?_) rfl (by kernel_rfl) (by decide) (by kernel_rfl) (by kernel_rfl) (fun _ _ _ h => h) (by rfl) (fun w' hS => ?_) hS0 ?_
          rotate_left
          focus
            obtain ⟨k0, k1⟩ := hS
            go_simp
            try with_reducible rfl
            done
          simp only [Act.put, List.setIfInBounds_toArray, List.set_cons_zero, List.set_cons_succ]
          refine HT.take' (i := 2) (v := ?_) rfl (by kernel_rfl) (by decide) (by kernel_rfl) (by kernel_rfl) (fun _ _ _ h => h) (by rfl) (fun w' hS => ?_) hS0 ?_
          rotate_left
          focus
            obtain ⟨k0, k1⟩ := hS
            go_simp
            try with_reducible rfl
            done
          simp only [Act.put, List.setIfInBounds_toArray, List.set_cons_zero, List.set_cons_succ]
          refine HT.take' (i := 3) (v := ?_) rfl (by kernel_rfl) (by decide) (by kernel_rfl) (by kernel_rfl) (fun _ _ _ h => h) (by rfl) (fun w' hS => ?_) hS0 ?_
          rotate_left
          focus
            obtain ⟨k0, k1⟩ := hS
            go_simp
            try with_reducible rfl
            done
          simp only [Act.put, List.setIfInBounds_toArray, List.set_cons_zero, List.set_cons_succ]
          refine HT.take' (i := 4) (v := ?_) rfl (by kernel_rfl) (by decide) (by kernel_rfl) (by kernel_rfl) (fun _ _ _ h => h) (by rfl) (fun w' hS => ?_) hS0 ?_
          rotate_left
          focus
            obtain ⟨k0, k1⟩ := hS
            go_simp
            try with_reducible rfl
            done
          simp only [Act.put, List.setIfInBounds_toArray, List.set_cons_zero, List.set_cons_succ]
          refine HT.done (by kernel_rfl) ?_
          simp only [List.drop_succ_cons, List.drop_zero]
          obtain ⟨p0, f0⟩ := q00
          obtain ⟨p1, f1⟩ := q01
          have zq := lt_of_cell p0
          have hBw : Below w.heap.size w w13 := But.below hB1 HD_13.out.but (by omega) (by omega)
          clear hS0
          go_wp2_with fail
          generalize hZ : ((w13.setCell ⟨w.heap.size, 0, none⟩ (.int .i64 a)).setCell ⟨w.heap.size, 1, none⟩ (.int .i64 b)) = Z
          have hrd0 : Z.cell? ⟨w.heap.size, 0, none⟩ = some (.int .i64 a) := by rw [← hZ]; exact (slotOff4 (slotPut4 ⟨p0, f0⟩) (by decide)).1
          have hrd1 : Z.cell? ⟨w.heap.size, 1, none⟩ = some (.int .i64 b) := by rw [← hZ]; exact (slotPut4 (slotOff4 ⟨p1, f1⟩ (by decide))).1
          refine bodyPost_ret (v := .tuple #[r, s, .agg #[.int .i64 a, .int .i64 b]]) (res_join _ Z.drew _ r s a b rfl rfl rfl hrd0 hrd1) rfl ⟨_, _, ps, qs, a, b, rfl, ?_, ?_, ⟨hpl.1, hpl.2⟩, ?_⟩
          · rw [← hZ]; exact (OwP.keep (OwP.setO (k := w.heap.size) (o := 1) (x := .int .i64 b) (OwP.setO (k := w.heap.size) (o := 0) (x := .int .i64 a) HR13.out (fun h => by have := HR13.out.blk _ h; omega)) (fun h => by have := HR13.out.blk _ h; omega)) (by go_grown)).low (by omega)
          · rw [← hZ]; exact (OwP.keep (OwP.setO (k := w.heap.size) (o := 1) (x := .int .i64 b) (OwP.setO (k := w.heap.size) (o := 0) (x := .int .i64 a) HS13.out (fun h => by have := HS13.out.blk _ h; omega)) (fun h => by have := HS13.out.blk _ h; omega)) (by go_grown)).low (by omega)
          · rw [← hZ]; go_grown
        · obtain ⟨As, cs, hfe, hfl, hfm⟩ := ownsRow_slice HS12.out
          subst hfe
          unfold maxLen at hfm
          go_wp2_with fail
          go_name_world w13 hW
          have hbl : Below w12.heap.size w12 w13 := by rw [← hW]; go_grown
          have hN0 : OwP w12.heap.size 51 w13 (.slice (some ⟨w12.heap.size, 0, none⟩) 0 0) [] := by rw [← hW]; exact OwP.keep (OwP.none0 w12 w12.heap.size 51 (Nat.le_refl _)) (by go_grown)
          clear hW
          have HRd := Lib.hid HS12.out.read
          go_loopw [11, 54] (fun nx i wr => RelJn qs w12.heap.size w12 nx i wr) (fun _ i _ => qs.length - (intOf i).toNat)
          case atStart => exact ⟨0, [], rfl, Nat.zero_le _, hN0, rfl, hbl⟩
          case round =>
            obtain ⟨k, l, rfl, hk, hown, hll, hbr⟩ := hrel
            have HO := Lib.hid hown
            have hzr := hbr.size
            clear hown hbl hN0
            by_cases hlt : k < qs.length
            · have hq := List.getElem?_eq_getElem hlt
              generalize qs[k] = p at hq
              obtain ⟨⟨x1, x2⟩, v1, v2⟩ := p
              obtain ⟨A3, c3, he, -, -, hcell⟩ := HRd.out
              injection he with i1 i2 i3
              obtain ⟨gs, os, hA, hgs, hc⟩ := hcell (by intro e; rw [e] at hlt; simp at hlt)
              rw [hA] at i1
              subst i1
              clear i2 i3 hA hcell
              obtain ⟨c0, c1, c2, c3⟩ := hc k _ hq
              clear hc hq
              have kb9 : (k : Int) < ((qs.length : Nat) : Int) := by omega
              have vk : IntKind.i64.wrap ((k : Int) + 1) = (k : Int) + 1 := IntWalk.i64_in _ (by omega)
              replace c0 := cellB hbr c0
              replace c1 := cellB hbr c1
              replace c2 := cellB hbr c2
              replace c3 := cellB hbr c3
              have ra0 := cellB hbr a0.1
              have ra1 := cellB hbr a1.1
              have ry0 := cellB hbr y0.1
              have ryy := cellB hbr yy.1
              have zra := lt_of_cell ra0
              have zry := lt_of_cell ry0
              have zrc := lt_of_cell c0
              have nra := Nat.ne_of_lt zra
              have nry := Nat.ne_of_lt zry
              have nrc := Nat.ne_of_lt zrc
              have mra := Nat.ne_of_gt zra
              have mry := Nat.ne_of_gt zry
              have mrc := Nat.ne_of_gt zrc
              by_cases he : ((x1, x2) : Q) = (a, b)
              · injection he with h1 h2
                subst h1
                subst h2
                go_wp2_with (at_builtin; refine append_p1 _ rfl _ _ rfl w12.heap.size _ l rfl ?own1 _ _ x1 x2 y1 y2 rfl ?c01 ?c11 ?c21 ?c31 ?len1 ?base1 ?_)
                case own1 => exact HO.out.keep (by go_grown)
                case len1 => omega
                case base1 => go_size
                intro v' w' hown h7
                have HO7 := Lib.hid hown
                have hb7 := Below.trans (by go_grown : Below w12.heap.size w12 _) h7
                clear hown h7
                go_wp2_with fail
                go_roundw
                case rel => exact ⟨k + 1, l ++ [((x1, x2), y1, y2)], by go_num, by omega, HO7.out, by simp; omega, hb7⟩
                case measure => simp [intOf] <;> omega
              · have hor := q_or he
                rcases hor with o1 | ⟨o1, o2⟩
                · go_wp2_with (at_builtin; refine append_p1 _ rfl _ _ rfl w12.heap.size _ l rfl ?own2 _ _ x1 x2 v1 v2 rfl ?c02 ?c12 ?c22 ?c32 ?len2 ?base2 ?_)
                  case own2 => exact HO.out.keep (by go_grown)
                  case len2 => omega
                  case base2 => go_size
                  intro v' w' hown h7
                  have HO7 := Lib.hid hown
                  have hb7 := Below.trans (by go_grown : Below w12.heap.size w12 _) h7
                  clear hown h7
                  go_wp2_with fail
                  go_roundw
                  case rel => exact ⟨k + 1, l ++ [((x1, x2), v1, v2)], by go_num, by omega, HO7.out, by simp; omega, hb7⟩
                  case measure => simp [intOf] <;> omega
                · go_wp2_with (at_builtin; refine append_p1 _ rfl _ _ rfl w12.heap.size _ l rfl ?own3 _ _ x1 x2 v1 v2 rfl ?c03 ?c13 ?c23 ?c33 ?len3 ?base3 ?_)
                  case own3 => exact HO.out.keep (by go_grown)
                  case len3 => omega
                  case base3 => go_size
                  intro v' w' hown h7
                  have HO7 := Lib.hid hown
                  have hb7 := Below.trans (by go_grown : Below w12.heap.size w12 _) h7
                  clear hown h7
                  go_wp2_with fail
                  go_roundw
                  case rel => exact ⟨k + 1, l ++ [((x1, x2), v1, v2)], by go_num, by omega, HO7.out, by simp; omega, hb7⟩
                  case measure => simp [intOf] <;> omega
            · obtain rfl : k = qs.length := by omega
              have c0 : ¬ ((qs.length : Nat) : Int) < ((qs.length : Nat) : Int) := by omega
              have HD_14 := Lib.hid (HD_12.out.grow hbr)
              have HR14 := Lib.hid (OwP.keep HR12.out hbr)
              replace q00 := slotB hbr q00
              replace q01 := slotB hbr q01
              replace a0 := slotB hbr a0
              replace a1 := slotB hbr a1
              replace y0 := slotB hbr y0
              replace yy := slotB hbr yy
              have gl14 := HD_14.out.lt
              have hz14 := HD_14.out.but.size
              go_wp2_with fail
              go_name_world w15 hW
              have hX15 : Below wr.heap.size wr w15 := by rw [← hW]; go_grown
              have HD_15 := Lib.hid (HD_14.out.grow hX15)
              have HR15 := Lib.hid (OwP.keep HR14.out hX15)
              have HS15 := Lib.hid (OwP.keep HO.out hX15)
              replace q00 := slotB hX15 q00
              replace q01 := slotB hX15 q01
              replace a0 := slotB hX15 a0
              replace a1 := slotB hX15 a1
              replace y0 := slotB hX15 y0
              replace yy := slotB hX15 yy
              have gl15 := HD_15.out.lt
              have hz15 := HD_15.out.but.size
              clear hW
              refine wp_region_HT (S := (fun w' : World => w'.cell? ⟨w2.heap.size, 0, none⟩ = some (.int .i64 a) ∧ w'.cell? ⟨w2.heap.size, 1, none⟩ = some (.int .i64 b))) 5 (by kernel_rfl) (by kernel_rfl) ?_
              have hS0 : (fun w' : World => w'.cell? ⟨w2.heap.size, 0, none⟩ = some (.int .i64 a) ∧ w'.cell? ⟨w2.heap.size, 1, none⟩ = some (.int .i64 b)) _ := ⟨a0.1, a1.1⟩
              refine HT.take' (i := 0) (v := ?_) rfl (by kernel_rfl) (by decide) (by kernel_rfl) (by kernel_rfl) (fun _ _ _ h => h) (by rfl) (fun w' hS => ?_) hS0 ?_
              rotate_left
              focus
                obtain ⟨k0, k1⟩ := hS
                go_simp
                try with_reducible rfl
                done
              simp only [Act.put, List.setIfInBounds_toArray, List.set_cons_zero, List.set_cons_succ]
              refine HT.take' (i := 1) (v := ?_) rfl (by kernel_rfl) (by decide) (by kernel_rfl) (by kernel_rfl) (fun _ _ _ h => h) (by rfl) (fun w' hS => ?_) hS0 ?_
              rotate_left
              focus
                obtain ⟨k0, k1⟩ := hS
                go_simp
                try with_reducible rfl
                done
              simp only [Act.put, List.setIfInBounds_toArray, List.set_cons_zero, List.set_cons_succ]
              refine HT.take' (i := 2) (v := ?_) rfl (by kernel_rfl) (by decide) (by kernel_rfl) (by kernel_rfl) (fun _ _ _ h => h) (by rfl) (fun w' hS => ?_) hS0 ?_
              rotate_left
              focus
                obtain ⟨k0, k1⟩ := hS
                go_simp
                try with_reducible rfl
                done
              simp only [Act.put, List.setIfInBounds_toArray, List.set_cons_zero, List.set_cons_succ]
              refine HT.take' (i := 3) (v := ?_) rfl (by kernel_rfl) (by decide) (by kernel_rfl) (by kernel_rfl) (fun _ _ _ h => h) (by rfl) (fun w' hS => ?_) hS0 ?_
              rotate_left
              focus
                obtain ⟨k0, k1⟩ := hS
                go_simp
                try with_reducible rfl
                done
              simp only [Act.put, List.setIfInBounds_toArray, List.set_cons_zero, List.set_cons_succ]
              refine HT.take' (i := 4) (v := ?_) rfl (by kernel_rfl) (by decide) (by kernel_rfl) (by kernel_rfl) (fun _ _ _ h => h) (by rfl) (fun w' hS => ?_) hS0 ?_
              rotate_left
              focus
                obtain ⟨k0, k1⟩ := hS
                go_simp
                try with_reducible rfl
                done
              simp only [Act.put, List.setIfInBounds_toArray, List.set_cons_zero, List.set_cons_succ]
              refine HT.done (by kernel_rfl) ?_
              simp only [List.drop_succ_cons, List.drop_zero]
              obtain ⟨p0, f0⟩ := q00
              obtain ⟨p1, f1⟩ := q01
              have zq := lt_of_cell p0
              have hBw : Below w.heap.size w w15 := But.below hB1 HD_15.out.but (by omega) (by omega)
              clear hS0
              go_wp2_with fail
              generalize hZ : ((w15.setCell ⟨w.heap.size, 0, none⟩ (.int .i64 a)).setCell ⟨w.heap.size, 1, none⟩ (.int .i64 b)) = Z
              have hrd0 : Z.cell? ⟨w.heap.size, 0, none⟩ = some (.int .i64 a) := by rw [← hZ]; exact (slotOff4 (slotPut4 ⟨p0, f0⟩) (by decide)).1
              have hrd1 : Z.cell? ⟨w.heap.size, 1, none⟩ = some (.int .i64 b) := by rw [← hZ]; exact (slotPut4 (slotOff4 ⟨p1, f1⟩ (by decide))).1
              refine bodyPost_ret (v := .tuple #[r, u11, .agg #[.int .i64 a, .int .i64 b]]) (res_join _ Z.drew _ r u11 a b rfl rfl rfl hrd0 hrd1) rfl ⟨_, _, ps, l, a, b, rfl, ?_, ?_, ⟨hpl.1, by omega⟩, ?_⟩
              · rw [← hZ]; exact (OwP.keep (OwP.setO (k := w.heap.size) (o := 1) (x := .int .i64 b) (OwP.setO (k := w.heap.size) (o := 0) (x := .int .i64 a) HR15.out (fun h => by have := HR15.out.blk _ h; omega)) (fun h => by have := HR15.out.blk _ h; omega)) (by go_grown)).low (by omega)
              · rw [← hZ]; exact (OwP.keep (OwP.setO (k := w.heap.size) (o := 1) (x := .int .i64 b) (OwP.setO (k := w.heap.size) (o := 0) (x := .int .i64 a) HS15.out (fun h => by have := HS15.out.blk _ h; omega)) (fun h => by have := HS15.out.blk _ h; omega)) (by go_grown)).low (by omega)
              · rw [← hZ]; go_grown

end Go.Proofs.YtkeajfgcjmhmiaaGreat
