/- Proved: for all arguments, the program's ImageOf returns what the reference's returns, and the arguments read afterwards as they did. No condition. -/
import Derived.Test.YtkdhhopfefhdjaaHead
import Derived.Test.YtkdhhopfefhdjaaImgD
import Derived.Test.YtkdhhopfefhdjaaFresh
namespace Go.Proofs.Ytkdhhopfefhdjaa.lawImageOf
open Go.Proofs.Ytkdhhopfefhdjaa
open Go.ChangeShapes Go.WideShapes Go.ChangeAt Go.RowKit Go.Joins

attribute [local go_sem ↓] Go.wp_at_zero Go.wp_at_succ

set_option maxHeartbeats 3200000 in
theorem walk (ps0 : List Pt) (v0 : Value) (n1 m1 : Int) (n2 m2 : Int) (a0 b0 : Int) (a1 b1 : Int) (t2 : Bool) (w : World) (hv0 : RdP w v0 ps0) (hl : imageQ ps0 (n1, m1) (n2, m2) = (a0, b0, a1, b1, t2)) :
    Calls Try.prog 13 #[v0, .agg #[.int .i64 n1, .int .i64 m1], .agg #[.int .i64 n2, .int .i64 m2]] w fun e w' => e = .returned (.bool true) ∧ Below w.heap.size w w' := by
  have HL := Lib.hid hl
  clear hl
  by_cases hf0 : ps0.length ≤ 1048576
  rotate_left
  · go_enter Try.func13, Try.ntmps13
    go_wp2_with fail
    refine (szPointS_over ps0 v0 1048576 _ (hv0.keep (by go_grown)) (by omega) (by omega) (by omega)).mono ?_
    rintro e w0 ⟨rfl, h0⟩
    subst w0
    go_wp2_with fail
    go_ret
    exact ⟨rfl, by go_grown⟩
  have hn0 : ps0.length ≤ 1048576 := by omega
  go_enter Try.func13, Try.ntmps13
  go_wp2_with fail
  refine (szPointS_fits ps0 v0 1048576 _ (hv0.keep (by go_grown)) (by omega) (by omega)).mono ?_
  rintro e w0 ⟨rfl, h0⟩
  subst w0
  go_wp2_with fail
  go_name_world W0 hW
  have hX : Below w.heap.size w W0 := by rw [← hW]; go_grown
  have kL : Facts [(w.heap.size, 0, .int .i64 n1), (w.heap.size, 1, .int .i64 m1), (w.heap.size + 1, 0, .int .i64 n2), (w.heap.size + 1, 1, .int .i64 m2)] W0 := by rw [← hW]; simp [Facts, go_sem]
  replace hv0 := hv0.keep hX
  have hB : Below w.heap.size w W0 := hX
  clear hW hX
  go_cut [8, 9, 10] (fun s8 s9 s10 wx => VarQ wx s8 W0.heap.size a0 b0 ∧ VarQ wx s9 W0.heap.size a1 b1 ∧ s10 = .bool t2 ∧ Below W0.heap.size W0 wx)
  case first =>
    go_region_held3 (fun w' => w'.cell? ⟨w.heap.size, 0, none⟩ = some (.int .i64 n1) ∧ w'.cell? ⟨w.heap.size, 1, none⟩ = some (.int .i64 m1) ∧ w'.cell? ⟨w.heap.size + 1, 0, none⟩ = some (.int .i64 n2) ∧ w'.cell? ⟨w.heap.size + 1, 1, none⟩ = some (.int .i64 m2))
      ((refine Facts.keep kL ?_; go_grown; done))
      ((first
        | (go_at_call 24; (with_reducible refine (toPointS_any ps0 v0 _ (hv0.keep (by go_grown)) hn0).mono ?_); rintro e w1 ⟨sr0, rfl, so0, hbw1⟩; have hsw1 : Below W0.heap.size W0 w1 := nextX (by go_grown) hbw1; have hXw1 : Below W0.heap.size W0 w1 := hsw1; have zw1 := hXw1.size; (first | (with_reducible have c1 := fresh22 hbw1) | (with_reducible have c1 := fresh22D hbw1) | (with_reducible have c1 := fresh2 hbw1) | (with_reducible have c1 := fresh2D hbw1) | skip); (first | (have lc1 := lt_of_cell c1.1.1) | (have lc1 := lt_of_cell c1.1.1.1) | skip))
        | (go_at_call 32; (with_reducible refine (toRat_any n1 m1 _).mono ?_); rintro e w2 ⟨rfl, hbw2⟩; have hsw2 : Below w1.heap.size w1 w2 := nextX (by go_grown) hbw2; have hXw2 : Below W0.heap.size W0 w2 := nextX hXw1 hsw2; have zw2 := hXw2.size; (first | (with_reducible have c2 := fresh22 hbw2) | (with_reducible have c2 := fresh22D hbw2) | (with_reducible have c2 := fresh2 hbw2) | (with_reducible have c2 := fresh2D hbw2) | skip); (first | (have lc2 := lt_of_cell c2.1.1) | (have lc2 := lt_of_cell c2.1.1.1) | skip); (first | (with_reducible replace c1 := Fresh2.keep c1 hsw2) | (with_reducible replace c1 := fresh22K c1 hsw2) | skip))
        | (go_at_call 32; (with_reducible refine (toRat_any n2 m2 _).mono ?_); rintro e w3 ⟨rfl, hbw3⟩; have hsw3 : Below w2.heap.size w2 w3 := nextX (by go_grown) hbw3; have hXw3 : Below W0.heap.size W0 w3 := nextX hXw2 hsw3; have zw3 := hXw3.size; (first | (with_reducible have c3 := fresh22 hbw3) | (with_reducible have c3 := fresh22D hbw3) | (with_reducible have c3 := fresh2 hbw3) | (with_reducible have c3 := fresh2D hbw3) | skip); (first | (have lc3 := lt_of_cell c3.1.1) | (have lc3 := lt_of_cell c3.1.1.1) | skip); (first | (with_reducible replace c1 := Fresh2.keep c1 hsw3) | (with_reducible replace c1 := fresh22K c1 hsw3) | skip); (first | (with_reducible replace c2 := Fresh2.keep c2 hsw3) | (with_reducible replace c2 := fresh22K c2 hsw3) | skip))
        | (go_at_call 52; (with_reducible refine (sImageOf_is ps0 sr0 n1 m1 n2 m2 a0 b0 a1 b1 t2 HL.out _ (((so0.keep hsw2).keep hsw3).read.keep (by go_grown)) hn0).mono ?_); rintro e w4 ⟨rfl, hbw4⟩; have hsw4 : Below w3.heap.size w3 w4 := nextX (by go_grown) hbw4; have hXw4 : Below W0.heap.size W0 w4 := nextX hXw3 hsw4; have zw4 := hXw4.size; (first | (with_reducible have c4 := fresh22 hbw4) | (with_reducible have c4 := fresh22D hbw4) | (with_reducible have c4 := fresh2 hbw4) | (with_reducible have c4 := fresh2D hbw4) | skip); (first | (have lc4 := lt_of_cell c4.1.1) | (have lc4 := lt_of_cell c4.1.1.1) | skip); (first | (with_reducible replace c1 := Fresh2.keep c1 hsw4) | (with_reducible replace c1 := fresh22K c1 hsw4) | skip); (first | (with_reducible replace c2 := Fresh2.keep c2 hsw4) | (with_reducible replace c2 := fresh22K c2 hsw4) | skip); (first | (with_reducible replace c3 := Fresh2.keep c3 hsw4) | (with_reducible replace c3 := fresh22K c3 hsw4) | skip); (first | obtain ⟨⟨⟨pa1, fa1⟩, pb1, fb1⟩, ⟨pc1, fc1⟩, pd1, fd1⟩ := c1 | obtain ⟨⟨pa1, fa1⟩, pb1, fb1⟩ := c1 | skip); (first | (have la1 := lt_of_cell pa1; have na1 := Nat.ne_of_lt la1; have ma1 := Ne.symm na1) | skip); (first | (have ld1 := lt_of_cell pc1; have nd1 := Nat.ne_of_lt ld1; have md1 := Ne.symm nd1) | skip); (first | obtain ⟨⟨⟨pa2, fa2⟩, pb2, fb2⟩, ⟨pc2, fc2⟩, pd2, fd2⟩ := c2 | obtain ⟨⟨pa2, fa2⟩, pb2, fb2⟩ := c2 | skip); (first | (have la2 := lt_of_cell pa2; have na2 := Nat.ne_of_lt la2; have ma2 := Ne.symm na2) | skip); (first | (have ld2 := lt_of_cell pc2; have nd2 := Nat.ne_of_lt ld2; have md2 := Ne.symm nd2) | skip); (first | obtain ⟨⟨⟨pa3, fa3⟩, pb3, fb3⟩, ⟨pc3, fc3⟩, pd3, fd3⟩ := c3 | obtain ⟨⟨pa3, fa3⟩, pb3, fb3⟩ := c3 | skip); (first | (have la3 := lt_of_cell pa3; have na3 := Nat.ne_of_lt la3; have ma3 := Ne.symm na3) | skip); (first | (have ld3 := lt_of_cell pc3; have nd3 := Nat.ne_of_lt ld3; have md3 := Ne.symm nd3) | skip); (first | obtain ⟨⟨⟨pa4, fa4⟩, pb4, fb4⟩, ⟨pc4, fc4⟩, pd4, fd4⟩ := c4 | obtain ⟨⟨pa4, fa4⟩, pb4, fb4⟩ := c4 | skip); (first | (have la4 := lt_of_cell pa4; have na4 := Nat.ne_of_lt la4; have ma4 := Ne.symm na4) | skip); (first | (have ld4 := lt_of_cell pc4; have nd4 := Nat.ne_of_lt ld4; have md4 := Ne.symm nd4) | skip); (first | (have e12 := Nat.ne_of_lt (Nat.lt_of_lt_of_le lc1 (Nat.le_refl _)); have g12 := Ne.symm e12) | skip); (first | (have e13 := Nat.ne_of_lt (Nat.lt_of_lt_of_le lc1 (Nat.le_trans (Nat.le_refl _) hsw2.size)); have g13 := Ne.symm e13) | skip); (first | (have e14 := Nat.ne_of_lt (Nat.lt_of_lt_of_le lc1 (Nat.le_trans (Nat.le_trans (Nat.le_refl _) hsw2.size) hsw3.size)); have g14 := Ne.symm e14) | skip); (first | (have e23 := Nat.ne_of_lt (Nat.lt_of_lt_of_le lc2 (Nat.le_refl _)); have g23 := Ne.symm e23) | skip); (first | (have e24 := Nat.ne_of_lt (Nat.lt_of_lt_of_le lc2 (Nat.le_trans (Nat.le_refl _) hsw3.size)); have g24 := Ne.symm e24) | skip); (first | (have e34 := Nat.ne_of_lt (Nat.lt_of_lt_of_le lc3 (Nat.le_refl _)); have g34 := Ne.symm e34) | skip))))
    all_goals
      go_wp2_with fail
      go_meet
      refine ⟨⟨_, rfl, ?_, ⟨?_, ?_⟩, ?_, ?_⟩, ⟨_, rfl, ?_, ⟨?_, ?_⟩, ?_, ?_⟩, rfl, ?_⟩
      all_goals first | omega | (go_grown; done) | (simp [go_sem, *]; done)
  case rest =>
    obtain ⟨⟨sg, rfl, hsg, sg0, sg1⟩, ⟨sk, rfl, hsk, sk0, sk1⟩, rfl, hX⟩ := hcut
    replace hv0 := hv0.keep hX
    replace kL := kL.keep hX
    replace hB := nextW hB hX
    clear hX
    go_wp2_with fail
    refine (toPointS_any ps0 v0 _ (hv0.keep (by go_grown)) hn0).mono ?_
    rintro e w6 ⟨x0r, rfl, x0o, hb⟩
    have hX : Below wc.heap.size wc w6 := nextX (by go_grown) hb
    replace hv0 := hv0.keep hX
    replace kL := kL.keep hX
    replace sg0 := slotB hX sg0
    replace sg1 := slotB hX sg1
    replace sk0 := slotB hX sk0
    replace sk1 := slotB hX sk1
    replace hB := nextW hB hX
    clear hb hX
    go_wp2_with fail
    go_name_world W6 hW
    have hX : Below w6.heap.size w6 W6 := by rw [← hW]; go_grown
    replace hv0 := hv0.keep hX
    replace kL := kL.keep hX
    replace sg0 := slotB hX sg0
    replace sg1 := slotB hX sg1
    replace sk0 := slotB hX sk0
    replace sk1 := slotB hX sk1
    replace x0o := x0o.keep hX
    replace hB := nextW hB hX
    clear hW hX
    go_cut [12, 13, 14] (fun s12 s13 s14 wx => VarQ wx s12 W6.heap.size a0 b0 ∧ VarQ wx s13 W6.heap.size a1 b1 ∧ s14 = .bool t2 ∧ Below W6.heap.size W6 wx)
    case first =>
      go_region_held3 (fun w' => w'.cell? ⟨w.heap.size, 0, none⟩ = some (.int .i64 n1) ∧ w'.cell? ⟨w.heap.size, 1, none⟩ = some (.int .i64 m1) ∧ w'.cell? ⟨w.heap.size + 1, 0, none⟩ = some (.int .i64 n2) ∧ w'.cell? ⟨w.heap.size + 1, 1, none⟩ = some (.int .i64 m2))
        ((refine Facts.keep kL ?_; go_grown; done))
        ((first
          | (go_at_call 32; (with_reducible refine (toRat_any n1 m1 _).mono ?_); rintro e w7 ⟨rfl, hbw7⟩; have hsw7 : Below W6.heap.size W6 w7 := nextX (by go_grown) hbw7; have hXw7 : Below W6.heap.size W6 w7 := hsw7; have zw7 := hXw7.size; (first | (with_reducible have c1 := fresh22 hbw7) | (with_reducible have c1 := fresh22D hbw7) | (with_reducible have c1 := fresh2 hbw7) | (with_reducible have c1 := fresh2D hbw7) | skip); (first | (have lc1 := lt_of_cell c1.1.1) | (have lc1 := lt_of_cell c1.1.1.1) | skip))
          | (go_at_call 32; (with_reducible refine (toRat_any n2 m2 _).mono ?_); rintro e w8 ⟨rfl, hbw8⟩; have hsw8 : Below w7.heap.size w7 w8 := nextX (by go_grown) hbw8; have hXw8 : Below W6.heap.size W6 w8 := nextX hXw7 hsw8; have zw8 := hXw8.size; (first | (with_reducible have c2 := fresh22 hbw8) | (with_reducible have c2 := fresh22D hbw8) | (with_reducible have c2 := fresh2 hbw8) | (with_reducible have c2 := fresh2D hbw8) | skip); (first | (have lc2 := lt_of_cell c2.1.1) | (have lc2 := lt_of_cell c2.1.1.1) | skip); (first | (with_reducible replace c1 := Fresh2.keep c1 hsw8) | (with_reducible replace c1 := fresh22K c1 hsw8) | skip))
          | (go_at_call 53; (with_reducible refine (iImageOf_is ps0 x0r n1 m1 n2 m2 a0 b0 a1 b1 t2 HL.out _ (x0o.read.keep (by go_grown)) hn0).mono ?_); rintro e w9 ⟨rfl, hbw9⟩; have hsw9 : Below w8.heap.size w8 w9 := nextX (by go_grown) hbw9; have hXw9 : Below W6.heap.size W6 w9 := nextX hXw8 hsw9; have zw9 := hXw9.size; (first | (with_reducible have c3 := fresh22 hbw9) | (with_reducible have c3 := fresh22D hbw9) | (with_reducible have c3 := fresh2 hbw9) | (with_reducible have c3 := fresh2D hbw9) | skip); (first | (have lc3 := lt_of_cell c3.1.1) | (have lc3 := lt_of_cell c3.1.1.1) | skip); (first | (with_reducible replace c1 := Fresh2.keep c1 hsw9) | (with_reducible replace c1 := fresh22K c1 hsw9) | skip); (first | (with_reducible replace c2 := Fresh2.keep c2 hsw9) | (with_reducible replace c2 := fresh22K c2 hsw9) | skip); (first | obtain ⟨⟨⟨pa1, fa1⟩, pb1, fb1⟩, ⟨pc1, fc1⟩, pd1, fd1⟩ := c1 | obtain ⟨⟨pa1, fa1⟩, pb1, fb1⟩ := c1 | skip); (first | (have la1 := lt_of_cell pa1; have na1 := Nat.ne_of_lt la1; have ma1 := Ne.symm na1) | skip); (first | (have ld1 := lt_of_cell pc1; have nd1 := Nat.ne_of_lt ld1; have md1 := Ne.symm nd1) | skip); (first | obtain ⟨⟨⟨pa2, fa2⟩, pb2, fb2⟩, ⟨pc2, fc2⟩, pd2, fd2⟩ := c2 | obtain ⟨⟨pa2, fa2⟩, pb2, fb2⟩ := c2 | skip); (first | (have la2 := lt_of_cell pa2; have na2 := Nat.ne_of_lt la2; have ma2 := Ne.symm na2) | skip); (first | (have ld2 := lt_of_cell pc2; have nd2 := Nat.ne_of_lt ld2; have md2 := Ne.symm nd2) | skip); (first | obtain ⟨⟨⟨pa3, fa3⟩, pb3, fb3⟩, ⟨pc3, fc3⟩, pd3, fd3⟩ := c3 | obtain ⟨⟨pa3, fa3⟩, pb3, fb3⟩ := c3 | skip); (first | (have la3 := lt_of_cell pa3; have na3 := Nat.ne_of_lt la3; have ma3 := Ne.symm na3) | skip); (first | (have ld3 := lt_of_cell pc3; have nd3 := Nat.ne_of_lt ld3; have md3 := Ne.symm nd3) | skip); (first | (have e12 := Nat.ne_of_lt (Nat.lt_of_lt_of_le lc1 (Nat.le_refl _)); have g12 := Ne.symm e12) | skip); (first | (have e13 := Nat.ne_of_lt (Nat.lt_of_lt_of_le lc1 (Nat.le_trans (Nat.le_refl _) hsw8.size)); have g13 := Ne.symm e13) | skip); (first | (have e23 := Nat.ne_of_lt (Nat.lt_of_lt_of_le lc2 (Nat.le_refl _)); have g23 := Ne.symm e23) | skip))))
      all_goals
        go_wp2_with fail
        go_meet
        refine ⟨⟨_, rfl, ?_, ⟨?_, ?_⟩, ?_, ?_⟩, ⟨_, rfl, ?_, ⟨?_, ?_⟩, ?_, ?_⟩, rfl, ?_⟩
        all_goals first | omega | (go_grown; done) | (simp [go_sem, *]; done)
    case rest =>
      obtain ⟨⟨gg, rfl, hgg, gg0, gg1⟩, ⟨gk, rfl, hgk, gk0, gk1⟩, rfl, hX⟩ := hcut
      replace hv0 := hv0.keep hX
      replace kL := kL.keep hX
      replace sg0 := slotB hX sg0
      replace sg1 := slotB hX sg1
      replace sk0 := slotB hX sk0
      replace sk1 := slotB hX sk1
      replace x0o := x0o.keep hX
      replace hB := nextW hB hX
      clear hX
      have q0 := gg0.1
      have q1 := gg1.1
      have q2 := sg0.1
      have q3 := sg1.1
      go_wp2_with fail
      clear q0 q1 q2 q3
      refine (eqRat_same a0 b0 _).mono ?_
      rintro e w11 ⟨rfl, hb⟩
      have hX : Below wc.heap.size wc w11 := nextX (by go_grown) hb
      replace hv0 := hv0.keep hX
      replace kL := kL.keep hX
      replace sg0 := slotB hX sg0
      replace sg1 := slotB hX sg1
      replace sk0 := slotB hX sk0
      replace sk1 := slotB hX sk1
      replace x0o := x0o.keep hX
      replace gg0 := slotB hX gg0
      replace gg1 := slotB hX gg1
      replace gk0 := slotB hX gk0
      replace gk1 := slotB hX gk1
      replace hB := nextW hB hX
      clear hb hX
      have q0 := gk0.1
      have q1 := gk1.1
      have q2 := sk0.1
      have q3 := sk1.1
      go_wp2_with fail
      clear q0 q1 q2 q3
      refine (eqRat_same a1 b1 _).mono ?_
      rintro e w12 ⟨rfl, hb⟩
      have hX : Below w11.heap.size w11 w12 := nextX (by go_grown) hb
      replace hv0 := hv0.keep hX
      replace kL := kL.keep hX
      replace sg0 := slotB hX sg0
      replace sg1 := slotB hX sg1
      replace sk0 := slotB hX sk0
      replace sk1 := slotB hX sk1
      replace x0o := x0o.keep hX
      replace gg0 := slotB hX gg0
      replace gg1 := slotB hX gg1
      replace gk0 := slotB hX gk0
      replace gk1 := slotB hX gk1
      replace hB := nextW hB hX
      clear hb hX
      go_wp2_with fail
      refine (toPointS_any ps0 v0 _ (hv0.keep (by go_grown)) hn0).mono ?_
      rintro e w13 ⟨ar0, rfl, ao0, hb⟩
      have hX : Below w12.heap.size w12 w13 := nextX (by go_grown) hb
      replace hv0 := hv0.keep hX
      replace kL := kL.keep hX
      replace sg0 := slotB hX sg0
      replace sg1 := slotB hX sg1
      replace sk0 := slotB hX sk0
      replace sk1 := slotB hX sk1
      replace x0o := x0o.keep hX
      replace gg0 := slotB hX gg0
      replace gg1 := slotB hX gg1
      replace gk0 := slotB hX gk0
      replace gk1 := slotB hX gk1
      replace hB := nextW hB hX
      clear hb hX
      go_wp2_with fail
      refine (eqPointS_same ps0 x0r ar0 _ (x0o.read.keep (by go_grown)) (ao0.read.keep (by go_grown))).mono ?_
      rintro e w14 ⟨rfl, hb⟩
      have hX : Below w13.heap.size w13 w14 := nextX (by go_grown) hb
      replace hv0 := hv0.keep hX
      replace kL := kL.keep hX
      replace sg0 := slotB hX sg0
      replace sg1 := slotB hX sg1
      replace sk0 := slotB hX sk0
      replace sk1 := slotB hX sk1
      replace x0o := x0o.keep hX
      replace gg0 := slotB hX gg0
      replace gg1 := slotB hX gg1
      replace gk0 := slotB hX gk0
      replace gk1 := slotB hX gk1
      replace ao0 := ao0.keep hX
      replace hB := nextW hB hX
      clear hb hX
      clear ao0
      go_wp2_with fail
      go_ret
      exact ⟨rfl, hB⟩

set_option maxRecDepth 100000 in
theorem lifted (os : Os) (started : os.Started) (H : Type) (enc : TypeId × Value → H) :
    ReturnsInHanded {} Try.checked os 13 .any (Rows.fnExactImageOfSpec.pre6 enc Try.prog Try.f13 Rows.fnExactImageOfRow.domain false) (Rows.fnExactImageOfSpec.post enc Try.prog Try.f13 false true false false) := by
  refine returnsInHanded_of_change (C := Try.checked) Try.own started (by kernel_rfl) Try.func13
    (ChangeSpec.witness6 (enc := enc) (C := Try.checked) false ⟨#[], #[.slice none 0 0, .agg #[.int .i64 0, .int .i64 1], .agg #[.int .i64 0, .int .i64 1]], []⟩ 8 (by kernel_rfl) (by kernel_rfl) (by kernel_rfl) (by kernel_rfl)) ?_
  intro W base args ds gs before hval0 hW hcnd _
  have hval : ∀ (j : Nat) t v, Try.f13.params[j]? = some t → args[j]? = some v → Value.okWide Try.prog W .any base t v := hval0
  have hW' := hW
  obtain ⟨p, q, hA0, hV, rfl, hfz, hnd⟩ := hW
  have hA : DataW.TrodAll enc Try.prog W 0 (fun _ => true) true Try.f13.params.toList args.toList ds p := hA0
  rw [Try.params13] at hA hval
  obtain ⟨v0, v1, v2, d0, d1, d2, p0, p1, p2, rfl, rfl, rfl, h0, h1, h2⟩ := trodAll_three hA
  obtain ⟨ps0, hp0⟩ := open_pts (hval 0 22 v0 rfl rfl) h0
  obtain ⟨n1, m1, rfl, bn1, bm1⟩ := open_rat (hval 1 33 v1 rfl rfl) h1
  obtain ⟨n2, m2, rfl, bn2, bm2⟩ := open_rat (hval 2 33 v2 rfl rfl) h2
  refine (walk ps0 v0 n1 m1 n2 m2 _ _ _ _ _ W hp0 rfl).mono fun e W' ⟨he, hb⟩ => ?_
  subst he
  exact ⟨_, rfl, law_close Try.laidOut (by kernel_rfl) (by kernel_rfl) Try.underlying4 rfl hW' (fun h => by rfl) hb⟩

set_option maxHeartbeats 800000 in
theorem joined : joinedFacts Try.pinned.checked.prog 13 Try.f13 Rows.fnExactImageOfSpec Rows.fnExactImageOfRow = true := by
  delta joinedFacts
  with_reducible repeat' apply and_yes
  all_goals first
    | (with_reducible exact headEnter)
    | (with_reducible refine beq_of headFinal ?_; as_aux_lemma => kernel_rfl)
    | (with_reducible refine beq_of' headMake ?_; as_aux_lemma => kernel_rfl)
    | (as_aux_lemma => kernel_rfl)

theorem proved : Rows.FnExactImageOfSaid :=
  OpenClaim.holds_of_wide 13 Try.f13 rfl rfl rfl rfl rfl rfl rfl ⟨rfl, rfl, rfl, rfl, rfl⟩ rfl rfl rfl rfl rfl (by kernel_rfl) Try.func13 joined
    (of_decide_eq_true (by kernel_rfl)) (by unfold Func.isWrapper; first | (rw [if_pos (by decide +kernel)]; kernel_rfl) | (rw [if_neg (by decide +kernel)]; exact ⟨rfl, rfl⟩))
    (fun os started H enc _ => lifted os started H enc)

end Go.Proofs.Ytkdhhopfefhdjaa.lawImageOf
